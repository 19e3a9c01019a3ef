import Derived.Test.YtdggedgailkceaaLawB
namespace Go.Proofs.Ytdggedgailkceaa
open Go.ChangeShapes Go.WideShapes Go.ChangeAt Go.RowKit Go.Sort
set_option linter.unusedVariables false
set_option linter.unusedSimpArgs false
theorem eql_false (a b : List Nat) (ha : a.length = 16) (hb : b.length = 16) (h : a ≠ b) : ∀ W, (binOp .eql 24 (.agg (vc a)) (.agg (vc b))).run Try.prog W = .ok (.bool false) W := fun W => by
  rw [run_arr_eql W a b ha hb]; simp [h]
set_option maxRecDepth 100000 in
set_option maxHeartbeats 2000000 in
theorem unpads_any (l : List Nat) (w : World) (ha : l.length = 16) (ha2 : ∀ x ∈ l, x < 256) :
    Calls Try.prog 6 #[.agg (vc l)] w fun e w' => e = .returned (.bool true) ∧ Below w.heap.size w w' := by
  have A1 := Lib.hid ha
  have A2 := Lib.hid ha2
  clear ha ha2
  go_enter Try.func6, Try.ntmps6
  go_upto_region 1 with (fail)
  have hA : Blk (w.alloc (.cells (vc l) 24)) w.heap.size 24 (vc l) := Blk.new w 24 (vc l)
  have hbe : Below w.heap.size w (w.alloc (.cells (vc l) 24)) := by go_grown
  generalize w.alloc (.cells (vc l) 24) = w1 at *
  have hs1 := hbe.size
  have hl1 := hA.lt
  go_wp2_with fail
  refine (awake_any _).mono ?_
  rintro e w2 ⟨rfl, hb2⟩
  have hs2 := hb2.size
  have HA := Lib.hid (hA.below hb2 hA.lt)
  have HE := Lib.hid (hbe.trans (hb2.mono (by omega)))
  clear hA hbe hb2
  go_wp2_with (refine wpList_load_mid rfl 24 (.tmp 1) rfl w.heap.size 0 rfl (vc l).toList (.array 16 5) (Blk.rangeAt HA.out) Try.underlying24 rfl (info16 A1.out) ?_)
  refine (unpad_any l _ A1.out A2.out).mono ?_
  rintro e w3 ⟨hun, hb3⟩
  have hs3 := hb3.size
  have HA3 := Lib.hid (HA.out.below hb3 (by omega))
  have HE3 := Lib.hid (HE.out.trans (hb3.mono (by omega)))
  clear HA HE hb3
  unfold Unp at hun
  have hsl := fun W k (hk : k ≤ 15) => run_slice16 W ⟨w.heap.size, 0, none⟩ k hk
  have HSL := Lib.hid hsl
  clear hsl
  have hun9 := upn_le l 15
  obtain ⟨N, hN⟩ : ∃ N, upn l 15 = N := ⟨_, rfl⟩
  rw [hN] at hun hun9
  have HN := Lib.hid hN
  clear hN
  by_cases h128 : l.getD N 0 = 128
  · rw [if_pos h128] at hun
    obtain ⟨A4, c4, rfl, hy4⟩ := hun
    have HY4 := Lib.hid hy4
    clear hy4
    have hEq : ∀ j, j ≤ N → j ≠ N → rpadTo (l.take j) (15 - j) ≠ l := fun j h1 h2 e => h2 ((pad_only l j A1.out (by omega) e).1.symm.trans HN.out)
    have hEqN : rpadTo (l.take N) (15 - N) = l := by
      have := pad_upn l A1.out (by rw [HN.out]; exact h128)
      rw [HN.out] at this; exact this
    have HEQ := Lib.hid hEq
    have HEQN := Lib.hid hEqN
    clear h128 hEq hEqN
    go_wp2_with fail
    go_loopw [5] (fun i wr => ∃ (j : Nat), j ≤ N ∧ i = .int .i64 j ∧ Blk wr w.heap.size 24 (vc l) ∧ Bys wr A4 N (l.take N) ∧ Below w.heap.size w wr) (fun i _ => 16 - (intOf i).toNat)
    case atStart => exact ⟨0, by omega, rfl, HA3.out, HY4.out, HE3.out⟩
    case round =>
      clear HA3 HY4 HE3
      obtain ⟨j, hj, rfl, hA, hY, hbe⟩ := hrel
      have HA := Lib.hid hA
      have HY := Lib.hid hY
      have HE := Lib.hid hbe
      have hlt := hA.lt
      have hsz := hbe.size
      clear hA hY hbe
      have hj16 : j < 16 := by omega
      have hsl := fun W => HSL.out W j (by omega)
      have hlj : (l.take j).length = j := by rw [List.length_take, A1.out]; omega
      have hby := Reads.take (Bys.of_blk HA.out A1.out A2.out).1 (m := j) (by omega)
      have hbj : Bys wr (some ⟨w.heap.size, 0, none⟩) j (l.take j) := ⟨by simpa [List.map_take] using hby, fun x hx => A2.out x (List.mem_of_mem_take hx)⟩
      have HBJ := Lib.hid hbj
      have hrl : (rpadTo (l.take j) (15 - j)).length = 16 := by rw [rpadTo_len, hlj]; omega
      by_cases hjN : j = N
      · subst hjN
        have E1 : ∀ W, (binOp .eql 24 (.agg (vc (rpadTo (l.take j) (15 - j)))) (.agg (vc l))).run Try.prog W = .ok (.bool true) W := eql_true _ _ (by simp [hrl, A1.out, HEQN.out])
        clear hby hbj hlj hrl
        obtain ⟨t, ht⟩ : ∃ t, l.take j = t := ⟨_, rfl⟩
        rw [ht] at HBJ HY E1
        have hdt : decide (t = t) = true := by simp
        clear ht
        go_wp2_with fail
        refine wp_region_quiet_below (by kernel_rfl) (by kernel_rfl) ?_
        repeat (first
          | (refine wpQuiet_load_mid rfl 24 (.tmp 1) rfl w.heap.size 0 rfl (vc l).toList (.array 16 5) (blk_regrown HA.out) Try.underlying24 rfl (info16 A1.out) ?_)
          | quiet_step ((first
              | (go_at_call 17; with_reducible exact Calls.regrown_of (rpad_any (some ⟨w.heap.size, 0, none⟩) j 16 t _ (Bys.regrown HBJ.out _ _) hj16)))))
        refine wpQuiet_nil ?_
        rintro _ ⟨⟨dq, osq⟩, rfl⟩
        go_wp2_with (go_at_call 12; refine (same_below A4 (some ⟨w.heap.size, 0, none⟩) j c4 j 16 t t _ (Bys.regrown HY.out _ _) (Bys.regrown HBJ.out _ _) (by unfold maxLen; omega) (by unfold maxLen; omega)).mono ?_; rintro e w5 ⟨rfl, hb5⟩)
        go_ret
        exact ⟨ret_true (by simp), (HE.out.trans ((below_regrown wr dq osq).mono hsz)).trans (hb5.mono (by have := (below_regrown wr dq osq).size; omega))⟩
      · have E1 : ∀ W, (binOp .eql 24 (.agg (vc (rpadTo (l.take j) (15 - j)))) (.agg (vc l))).run Try.prog W = .ok (.bool false) W := eql_false _ _ hrl A1.out (HEQ.out j (by omega) hjN)
        clear hby hbj hlj hrl
        obtain ⟨t, ht⟩ : ∃ t, l.take j = t := ⟨_, rfl⟩
        rw [ht] at HBJ E1
        clear ht
        go_wp2_with fail
        refine wp_region_quiet_below (by kernel_rfl) (by kernel_rfl) ?_
        repeat (first
          | (refine wpQuiet_load_mid rfl 24 (.tmp 1) rfl w.heap.size 0 rfl (vc l).toList (.array 16 5) (blk_regrown HA.out) Try.underlying24 rfl (info16 A1.out) ?_)
          | quiet_step ((first
              | (go_at_call 17; with_reducible exact Calls.regrown_of (rpad_any (some ⟨w.heap.size, 0, none⟩) j 16 t _ (Bys.regrown HBJ.out _ _) hj16)))))
        refine wpQuiet_nil ?_
        rintro _ ⟨⟨dq, osq⟩, rfl⟩
        have hbq := below_regrown wr dq osq
        go_wp2_with fail
        go_roundw
        case rel => exact ⟨j + 1, by omega, by go_num, HA.out.below hbq hlt, HY.out.below hbq, HE.out.trans (hbq.mono hsz)⟩
        case measure => simp [intOf]; omega
  · rw [if_neg h128] at hun
    subst hun
    have hEq : ∀ j, j < 16 → rpadTo (l.take j) (15 - j) ≠ l := fun j h1 e => by
      obtain ⟨h2, h3⟩ := pad_only l j A1.out h1 e
      rw [HN.out] at h2
      subst h2
      exact h128 h3
    have HEQ := Lib.hid hEq
    clear h128 hEq
    go_wp2_with fail
    go_loopw [5] (fun i wr => ∃ (j : Nat), j ≤ 16 ∧ i = .int .i64 j ∧ Blk wr w.heap.size 24 (vc l) ∧ Below w.heap.size w wr) (fun i _ => 16 - (intOf i).toNat)
    case atStart => exact ⟨0, by omega, rfl, HA3.out, HE3.out⟩
    case round =>
      clear HA3 HE3
      obtain ⟨j, hj, rfl, hA, hbe⟩ := hrel
      have HA := Lib.hid hA
      have HE := Lib.hid hbe
      have hlt := hA.lt
      have hsz := hbe.size
      clear hA hbe
      by_cases hj16 : j < 16
      · have hsl := fun W => HSL.out W j (by omega)
        have hlj : (l.take j).length = j := by rw [List.length_take, A1.out]; omega
        have hby := Reads.take (Bys.of_blk HA.out A1.out A2.out).1 (m := j) (by omega)
        have hbj : Bys wr (some ⟨w.heap.size, 0, none⟩) j (l.take j) := ⟨by simpa [List.map_take] using hby, fun x hx => A2.out x (List.mem_of_mem_take hx)⟩
        have HBJ := Lib.hid hbj
        have hrl : (rpadTo (l.take j) (15 - j)).length = 16 := by rw [rpadTo_len, hlj]; omega
        have E1 : ∀ W, (binOp .eql 24 (.agg (vc (rpadTo (l.take j) (15 - j)))) (.agg (vc l))).run Try.prog W = .ok (.bool false) W := eql_false _ _ hrl A1.out (HEQ.out j hj16)
        clear hby hbj hlj hrl
        obtain ⟨t, ht⟩ : ∃ t, l.take j = t := ⟨_, rfl⟩
        rw [ht] at HBJ E1
        clear ht
        go_wp2_with fail
        refine wp_region_quiet_below (by kernel_rfl) (by kernel_rfl) ?_
        repeat (first
          | (refine wpQuiet_load_mid rfl 24 (.tmp 1) rfl w.heap.size 0 rfl (vc l).toList (.array 16 5) (blk_regrown HA.out) Try.underlying24 rfl (info16 A1.out) ?_)
          | quiet_step ((first
              | (go_at_call 17; with_reducible exact Calls.regrown_of (rpad_any (some ⟨w.heap.size, 0, none⟩) j 16 t _ (Bys.regrown HBJ.out _ _) hj16)))))
        refine wpQuiet_nil ?_
        rintro _ ⟨⟨dq, osq⟩, rfl⟩
        have hbq := below_regrown wr dq osq
        go_wp2_with fail
        go_roundw
        case rel => exact ⟨j + 1, by omega, by go_num, HA.out.below hbq hlt, HE.out.trans (hbq.mono hsz)⟩
        case measure => simp [intOf]; omega
      · obtain rfl : j = 16 := by omega
        go_wp2_with fail
        go_ret
        exact ⟨ret_true (by simp), HE.out⟩
end Go.Proofs.Ytdggedgailkceaa
