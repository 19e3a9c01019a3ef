import Derived.Test.YtbifakhalnkfbaaDoorNum
namespace Go.Proofs.YtbifakhalnkfbaaDoor
open Go.ChangeShapes Go.WideShapes Go.ChangeAt Go.RowKit
set_option linter.unusedVariables false
set_option linter.unusedSimpArgs false
theorem empty_toList : ByteArray.empty.toList = [] := by rw [ByteArray.toList_eq]; rfl
theorem toList_inj {a b : ByteArray} (h : a.toList = b.toList) : a = b := by
  have h2 : a.data.toList = b.data.toList := by rw [← ByteArray.toList_eq a, ← ByteArray.toList_eq b]; exact h
  cases a; cases b; simp at h2; rw [h2]
theorem toList_ne {a b : ByteArray} (h : a ≠ b) : (a.toList == b.toList) = false := by
  rw [beq_eq_false_iff_ne]; exact fun e => h (toList_inj e)
/-- How far Number has come: n is left, s is what stands. -/
def NumI (u n : Nat) (s : ByteArray) : Prop := (s = ByteArray.empty ∧ n = u) ∨ (s ≠ ByteArray.empty ∧ n = 0 ∧ s = decS u) ∨ (s ≠ ByteArray.empty ∧ 0 < n ∧ n ≤ u ∧ decS n ++ s = decS u)
theorem oneS_ne (n : Nat) (s : ByteArray) : oneS n ++ s ≠ ByteArray.empty := by
  intro h
  have := congrArg ByteArray.size h
  rw [ByteArray.size_append] at this
  have h1 : (oneS n).size = 1 := rfl
  simp [h1] at this
theorem NumI.next {u n : Nat} {s : ByteArray} (h : NumI u n s) (hn : 0 < n ∨ s = ByteArray.empty) : NumI u (n / 10) (oneS (n % 10) ++ s) := by
  have e0 : ∀ x : ByteArray, x ++ ByteArray.empty = x := fun x => by apply ByteArray.ext; simp [ByteArray.data_append]
  rcases h with ⟨rfl, rfl⟩ | ⟨hne, rfl, hs⟩ | ⟨hne, h0, hle, hs⟩
  · by_cases h10 : n < 10
    · refine .inr (.inl ⟨oneS_ne _ _, by omega, ?_⟩)
      rw [e0, Nat.mod_eq_of_lt h10, decS_one n h10]
    · refine .inr (.inr ⟨oneS_ne _ _, by omega, by omega, ?_⟩)
      rw [e0, decS_more n h10]
  · rcases hn with hn | hn
    · omega
    · exact absurd hn hne
  · by_cases h10 : n < 10
    · refine .inr (.inl ⟨oneS_ne _ _, by omega, ?_⟩)
      rw [Nat.mod_eq_of_lt h10, decS_one n h10, hs]
    · refine .inr (.inr ⟨oneS_ne _ _, by omega, by omega, ?_⟩)
      rw [← ByteArray.append_assoc, decS_more n h10, hs]
theorem NumI.size {u n : Nat} {s : ByteArray} (h : NumI u n s) (hu : u < 18446744073709551616) : s.size ≤ 20 := by
  have hz := decS_size u hu
  rcases h with ⟨rfl, rfl⟩ | ⟨_, _, rfl⟩ | ⟨_, _, _, hs⟩
  · simp
  · exact hz
  · have := congrArg ByteArray.size hs
    rw [ByteArray.size_append] at this
    omega
theorem conv_one (w : World) (n : Nat) (h : n < 10) : (convert 39 9 (.slice (some ⟨w.heap.size, 0, none⟩) 1 1)).run Tryd.prog (w.alloc (.cells #[.int .u8 (48 + (n : Int))] 5)) = .ok (.string (oneS n)) (w.alloc (.cells #[.int .u8 (48 + (n : Int))] 5)) := by
  have := run_convert_bytes_back (P := Tryd.prog) (w.alloc (.cells #[.int .u8 (48 + (n : Int))] 5)) 39 9 5 ⟨w.heap.size, 0, none⟩ 1 [UInt8.ofNat (48 + n)] Tryd.underlying39 Tryd.underlying5 Tryd.underlying9 (fun j hj => by
    have hj' : j = 0 := by simpa using hj
    subst hj'
    have hc := Blk.cell (Blk.new w 5 #[.int .u8 (48 + (n : Int))]) 0
    rw [show (⟨w.heap.size, 0, none⟩ : Addr).add 0 = ⟨w.heap.size, 0, none⟩ from rfl, hc]
    simp
    omega)
  exact this
set_option maxRecDepth 100000 in
set_option maxHeartbeats 4000000 in
theorem number_any (u : Nat) (w : World) (hu : u < 18446744073709551616) : Calls Tryd.prog 19 #[.int .u64 u] w fun e w' => e = .returned (.string (decS u)) ∧ Below w.heap.size w w' := by
  go_enter Tryd.func19, Tryd.ntmps19
  go_wp2_with fail
  go_loopw [0, 3] (fun n s wr => ∃ (m : Nat) (t : ByteArray), n = .int .u64 m ∧ s = .string t ∧ NumI u m t ∧ Below w.heap.size w wr) (fun n s _ => (intOf n).toNat + (match s with | .string t => if t.size = 0 then 1 else 0 | _ => 0))
  case atStart => exact ⟨u, ByteArray.empty, rfl, rfl, .inl ⟨rfl, rfl⟩, Below.refl _ _⟩
  case round =>
    obtain ⟨m, t, rfl, rfl, hI, hb⟩ := hrel
    have HI := Lib.hid hI
    have HB := Lib.hid hb
    have hz := hI.size hu
    have hmu : m ≤ u := by rcases hI with ⟨_, rfl⟩ | ⟨_, rfl, _⟩ | ⟨_, _, h, _⟩ <;> omega
    have hbs := hb.size
    clear hI hb
    have hms : 0 < m ∨ (m = 0 ∧ t = ByteArray.empty) ∨ (m = 0 ∧ t ≠ ByteArray.empty) := by
      rcases Nat.eq_zero_or_pos m with h | h
      · by_cases ht : t = ByteArray.empty
        · exact .inr (.inl ⟨h, ht⟩)
        · exact .inr (.inr ⟨h, ht⟩)
      · exact .inl h
    rcases hms with h0 | ⟨rfl, rfl⟩ | ⟨rfl, ht⟩
    · have h0i : (0 : Int) < (m : Int) := by omega
      have e1 : ((m % 10 : Nat) : Int) = (m : Int) % 10 := by omega
      have hcv := conv_one wr (m % 10) (by omega)
      rw [e1] at hcv
      have w1 : IntKind.u64.wrap (48 + (m : Int) % 10) = 48 + (m : Int) % 10 := IntWalk.u64_in _ (by omega)
      have w2 : IntKind.u8.wrap (48 + (m : Int) % 10) = 48 + (m : Int) % 10 := IntWalk.u8_in _ (by omega)
      have w3 : (0 : Int) ≤ (m : Int) % 10 := by omega
      have w4 : (m : Int) % 10 ≤ 9 := by omega
      have w8 : Int.tmod (m : Int) 10 = (m : Int) % 10 := by rw [Int.tmod_eq_emod_of_nonneg (by omega)]
      have w9 : Int.tdiv (m : Int) 10 = (m : Int) / 10 := by rw [Int.tdiv_eq_ediv_of_nonneg (by omega)]
      have hmu64 : (m : Int) < 18446744073709551616 := by omega
      have HN := Lib.hid (HI.out.next (.inl h0))
      have hone : (oneS (m % 10)).size = 1 := rfl
      obtain ⟨d, hd⟩ : ∃ d, oneS (m % 10) = d := ⟨_, rfl⟩
      rw [hd] at hcv HN hone
      have hads : d.size + t.size ≤ 9223372036854775807 := by omega
      have HZ := Lib.hid (show (d ++ t).size ≠ 0 by rw [ByteArray.size_append]; omega)
      clear hd e1
      go_wp2_with fail
      go_roundw
      case rel => exact ⟨m / 10, _, by go_num, rfl, HN.out, HB.out.alloc hbs _⟩
      case measure =>
        have h9 := HZ.out
        simp only [intOf]
        rw [if_neg h9]
        split <;> omega
    · have hcv := conv_one wr 0 (by omega)
      have HN := Lib.hid (HI.out.next (.inr rfl))
      obtain ⟨d, hd⟩ : ∃ d, oneS 0 = d := ⟨_, rfl⟩
      have hone : (oneS 0).size = 1 := rfl
      rw [show (0 : Nat) % 10 = 0 from rfl] at HN
      rw [hd] at hcv HN hone
      have e0 : d ++ ByteArray.empty = d := by apply ByteArray.ext; simp [ByteArray.data_append]
      rw [e0] at HN
      have HZ := Lib.hid (show d.size ≠ 0 by omega)
      have hads : d.size + ByteArray.empty.size ≤ 9223372036854775807 := by rw [hone]; decide
      clear hd e0
      rw [show (48 + ((0 : Nat) : Int)) = 48 from rfl] at hcv
      go_wp2_with fail
      go_roundw
      case rel => exact ⟨0, _, by go_num, rfl, HN.out, HB.out.alloc hbs _⟩
      case measure =>
        have h9 := HZ.out
        simp only [intOf]
        rw [if_neg h9]
        decide
    · have he : t = decS u := by
        rcases HI.out with ⟨h, _⟩ | ⟨_, _, h⟩ | ⟨_, h, _⟩
        · exact absurd h ht
        · exact h
        · omega
      have HE := Lib.hid he
      have h1 : (t.toList == ByteArray.empty.toList) = false := toList_ne ht
      have h2 : t.toList.isEmpty = false := by cases hl : t.toList with | nil => exact absurd (toList_inj (a := t) (b := ByteArray.empty) (by rw [hl, empty_toList])) ht | cons x l => rfl
      have h3 : t.toList ≠ [] := by intro hl; exact ht (toList_inj (a := t) (b := ByteArray.empty) (by rw [hl, empty_toList]))
      clear ht he
      go_wp2_with fail
      go_ret
      exact ⟨by rw [HE.out]; rfl, HB.out⟩
end Go.Proofs.YtbifakhalnkfbaaDoor
