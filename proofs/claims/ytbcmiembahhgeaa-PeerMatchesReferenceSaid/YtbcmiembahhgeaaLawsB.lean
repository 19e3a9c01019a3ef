import Derived.Test.YtbcmiembahhgeaaLawsA
namespace Go.Proofs.Ytbcmiembahhgeaa
open Go.ChangeShapes Go.WideShapes Go.ChangeAt Go.RowKit
set_option linter.unusedVariables false
set_option linter.unusedSimpArgs false
theorem three_ways (s t : ByteArray) : ∃ (n : Int) (x y : Bool), cmpS s t = n ∧ cmpS t s = -n ∧ lessL (bys s) (bys t) = x ∧ lessL (bys t) (bys s) = y ∧ ((n = -1 ∧ x = true ∧ y = false) ∨ (n = 1 ∧ x = false ∧ y = true) ∨ (n = 0 ∧ x = false ∧ y = false)) := by
  cases h1 : lessL (bys s) (bys t)
  · cases h2 : lessL (bys t) (bys s)
    · exact ⟨0, false, false, by rw [cmpS_eq, h1, h2]; rfl, by rw [cmpS_eq, h1, h2]; rfl, rfl, rfl, by simp⟩
    · exact ⟨1, false, true, by rw [cmpS_eq, h1, h2]; rfl, by rw [cmpS_eq, h1, h2]; rfl, rfl, rfl, by simp⟩
  · have h2 := (lessL_asymm _ _ h1).1
    exact ⟨-1, true, false, by rw [cmpS_eq, h1]; rfl, by rw [cmpS_eq, h1, h2]; rfl, rfl, h2, by simp⟩
set_option maxRecDepth 100000 in
set_option maxHeartbeats 1000000 in
theorem rights_law (s t : ByteArray) (w : World) (hs : s.size ≤ maxLen) (ht : t.size ≤ maxLen) : Calls Try.prog 4 #[.string s, .string t] w fun e w' => e = .returned (.bool true) ∧ Below w.heap.size w w' := by
  have hA := awake_any
  have hR := fun W => Right_any s W hs
  have hr := fun W => rright_any s W hs
  have hl := fun W => rless_any s t W hs ht
  have hm := fun W => rless_any t s W ht hs
  have hc := fun W => pcompare_any s t W
  have hd := fun W => pcompare_any t s W
  obtain ⟨n, x, y, e1, e2, e3, e4, e5⟩ := three_ways s t
  rw [e1] at hc
  rw [e2] at hd
  rw [e3] at hl
  rw [e4] at hm
  obtain ⟨b, hb⟩ : ∃ b, rightS s = b := ⟨_, rfl⟩
  rw [hb] at hR hr
  clear e1 e2 e3 e4 hb
  unfold maxLen at hs ht
  by_cases hl1 : s.size ≤ 1000 ∧ t.size ≤ 1000
  · obtain ⟨hl1, hl2⟩ := hl1
    rcases e5 with ⟨rfl, rfl, rfl⟩ | ⟨rfl, rfl, rfl⟩ | ⟨rfl, rfl, rfl⟩
    all_goals
      go_enter Try.func4, Try.ntmps4
      go_wp2_with (first
        | (go_at_call 7; refine (hA _).mono ?_; rintro _ w1 ⟨rfl, hb⟩; refine Hid.out ?_))
      refine Lib.hid ?_
      have HB := Lib.hid hb
      clear hb hA
      go_wp2_with (first
        | (go_at_call 17; refine (hc _).mono ?_; rintro _ _ ⟨rfl, rfl⟩)
        | (go_at_call 18; refine (hR _).mono ?_; rintro _ w2 ⟨rfl, hb⟩; refine Hid.out ?_))
      refine Lib.hid ?_
      have HC := Lib.hid (HB.out.trans (hb.mono HB.out.size))
      clear hb hR HB
      go_wp2_with (first
        | (go_at_call 12; refine (hr _).mono ?_; rintro _ _ ⟨rfl, rfl⟩; refine Hid.out ?_))
      refine Lib.hid ?_
      clear hr
      go_wp2_with (first
        | (go_at_call 19; refine (hl _).mono ?_; rintro _ _ ⟨rfl, k, rfl⟩; refine Hid.out ?_))
      refine Lib.hid ?_
      clear hl
      go_wp2_with (first
        | (go_at_call 19; refine (hm _).mono ?_; rintro _ _ ⟨rfl, k2, rfl⟩; refine Hid.out ?_))
      refine Lib.hid ?_
      clear hm
      go_wp2_with (first
        | (go_at_call 17; refine (hd _).mono ?_; rintro _ _ ⟨rfl, rfl⟩))
      go_ret
      exact ⟨ret_true (by simp), below_drewN HC.out _⟩
  · by_cases hl2 : s.size ≤ 1000
    all_goals
      first | (have hl3 : ¬ t.size ≤ 1000 := fun h => hl1 ⟨hl2, h⟩) | skip
      clear hl1 e5
      go_enter Try.func4, Try.ntmps4
      go_wp2_with (first
        | (go_at_call 7; refine (hA _).mono ?_; rintro _ w1 ⟨rfl, hb⟩; refine Hid.out ?_))
      refine Lib.hid ?_
      have HB := Lib.hid hb
      clear hb
      go_wp2_with (first
        | (go_at_call 7; refine (hA _).mono ?_; rintro _ w2 ⟨rfl, hb⟩; refine Hid.out ?_))
      refine Lib.hid ?_
      have HC := Lib.hid hb
      clear hb hA
      go_wp2_with fail
      go_ret
      exact ⟨rfl, HB.out.trans (HC.out.mono HB.out.size)⟩
def reps (j : Nat) : ByteArray := ⟨(List.replicate j (97 : UInt8)).toArray⟩
theorem reps_size (j : Nat) : (reps j).size = j := by
  show (List.replicate j (97 : UInt8)).toArray.size = j
  simp
theorem reps_next (j : Nat) : reps j ++ ⟨#[97]⟩ = reps (j + 1) := by
  have : (reps j ++ ⟨#[97]⟩ : ByteArray).data = (reps (j + 1)).data := by
    rw [ByteArray.data_append]
    apply Array.ext'
    simp [reps, List.replicate_succ']
  revert this
  generalize (reps j ++ ⟨#[97]⟩ : ByteArray) = a
  generalize reps (j + 1) = b
  intro h
  cases a; cases b; simp at h; subst h; rfl
theorem reps_right (j : Nat) (h1 : 1 ≤ j) : rightS (reps j) = decide (j ≤ 100) := by
  have e : bys (reps j) = List.replicate j 97 := by simp [bys, reps]
  unfold rightS
  rw [e, reps_size]
  have : (List.replicate j 97).all rightB = true := by
    rw [List.all_eq_true]
    intro x hx
    rw [List.eq_of_mem_replicate hx]; decide
  rw [this]
  simp [h1]
set_option maxRecDepth 100000 in
set_option maxHeartbeats 1000000 in
theorem long_law (n : Nat) (w : World) (hn : n < 256) : Calls Try.prog 5 #[.int .u8 (n : Int)] w fun e w' => e = .returned (.bool true) ∧ Below w.heap.size w w' := by
  have hA := awake_any w
  go_enter Try.func5, Try.ntmps5
  go_wp2_with (first
    | (go_at_call 7; refine hA.mono ?_; rintro _ w1 ⟨rfl, hb⟩; refine Hid.out ?_))
  refine Lib.hid ?_
  have HB := Lib.hid hb
  clear hb hA
  go_wp2_with fail
  have hk : (95 + (n : Int) % 10) = ((95 + n % 10 : Nat) : Int) := by omega
  simp only [hk]
  obtain ⟨k, hk2⟩ : ∃ k, 95 + n % 10 = k := ⟨_, rfl⟩
  have k1 : 95 ≤ k := by omega
  have k2 : k ≤ 104 := by omega
  simp only [hk2]
  clear hk hk2
  go_loopw [4, 5] (fun s i wr => ∃ j : Nat, j ≤ k ∧ s = .string (reps j) ∧ i = .int .i64 j ∧ wr = w1) (fun _ i _ => k - (intOf i).toNat)
  case atStart => exact ⟨0, by omega, rfl, rfl, rfl⟩
  case round =>
    obtain ⟨j, hj, rfl, rfl, rfl⟩ := hrel
    by_cases hlt : j < k
    · have hx := reps_next j
      have hz := reps_size j
      go_wp2_with fail
      go_roundw
      case rel => exact ⟨j + 1, by omega, by first | rfl | exact congrArg Value.string hx, by go_num, by simp⟩
      case measure => simp [intOf]; omega
    · obtain rfl : k = j := by omega
      have hN := new_any (reps k) wr (by rw [reps_size]; unfold maxLen; omega)
      have hR := fun W => Right_any (reps k) W (by rw [reps_size]; unfold maxLen; omega)
      rw [reps_right k (by omega)] at hR
      have hne : (reps k).toList.isEmpty = false := by
        have := reps_size k
        rw [ByteArray.toList_eq]
        simp [reps]; omega
      have hf : firstS (reps k) = if k ≤ 100 then reps k else ⟨#[]⟩ := by unfold firstS; rw [reps_right k (by omega)]; simp
      by_cases h100 : k ≤ 100
      · rw [if_pos h100] at hf
        rw [hf] at hN
        rw [show decide (k ≤ 100) = true by simp [h100]] at hR
        clear hf hlt hj
        go_wp2_with (first
          | (go_at_call 9; refine hN.mono ?_; rintro _ w2 ⟨g, rfl, hA⟩; refine Hid.out ?_))
        refine Lib.hid ?_
        have HC := Lib.hid (PSt.of_new hA HB.out)
        clear hA hN
        go_wp2_with (first
          | (go_at_call 14; refine (addr_p HC.out true (by rw [← ByteArray.toList_eq, hne]; rfl)).mono ?_; rintro _ w3 ⟨rfl, hD, _⟩; refine Hid.out ?_))
        refine Lib.hid ?_
        have HD := Lib.hid hD.frame
        clear hD HC hne
        go_wp2_with (first
          | (go_at_call 18; refine (hR _).mono ?_; rintro _ w2 ⟨rfl, hb⟩; refine Hid.out ?_))
        refine Lib.hid ?_
        have HE := Lib.hid (HD.out.trans (hb.mono HD.out.size))
        clear hb hR
        go_wp2_with fail
        go_ret
        exact ⟨ret_true (by simp), HE.out⟩
      · rw [if_neg h100] at hf
        rw [hf] at hN
        rw [show decide (k ≤ 100) = false by simp [h100]] at hR
        clear hf hlt hj
        go_wp2_with (first
          | (go_at_call 9; refine hN.mono ?_; rintro _ w2 ⟨g, rfl, hA⟩; refine Hid.out ?_))
        refine Lib.hid ?_
        have HC := Lib.hid (PSt.of_new hA HB.out)
        clear hA hN
        go_wp2_with (first
          | (go_at_call 14; refine (addr_p HC.out false rfl).mono ?_; rintro _ w3 ⟨rfl, hD, _⟩; refine Hid.out ?_))
        refine Lib.hid ?_
        have HD := Lib.hid hD.frame
        clear hD HC hne
        go_wp2_with (first
          | (go_at_call 18; refine (hR _).mono ?_; rintro _ w2 ⟨rfl, hb⟩; refine Hid.out ?_))
        refine Lib.hid ?_
        have HE := Lib.hid (HD.out.trans (hb.mono HD.out.size))
        clear hb hR
        go_wp2_with fail
        go_ret
        exact ⟨ret_true (by simp), HE.out⟩
end Go.Proofs.Ytbcmiembahhgeaa
