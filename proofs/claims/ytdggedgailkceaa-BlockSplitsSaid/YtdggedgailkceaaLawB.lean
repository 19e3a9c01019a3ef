import Derived.Test.YtdggedgailkceaaLawA
namespace Go.Proofs.Ytdggedgailkceaa
open Go.ChangeShapes Go.WideShapes Go.ChangeAt Go.RowKit Go.Sort
set_option linter.unusedVariables false
set_option linter.unusedSimpArgs false
def zeros' : List Nat := List.replicate 16 0
theorem zeros_vc' : #[Value.int IntKind.u8 0, Value.int IntKind.u8 0, Value.int IntKind.u8 0, Value.int IntKind.u8 0, Value.int IntKind.u8 0, Value.int IntKind.u8 0, Value.int IntKind.u8 0, Value.int IntKind.u8 0, Value.int IntKind.u8 0, Value.int IntKind.u8 0, Value.int IntKind.u8 0, Value.int IntKind.u8 0, Value.int IntKind.u8 0, Value.int IntKind.u8 0, Value.int IntKind.u8 0, Value.int IntKind.u8 0] = vc zeros' := rfl
def shL (l : List Nat) (m : Nat) : List Nat := (List.range 16).map (sb l m)
theorem shL_len (l : List Nat) (m : Nat) : (shL l m).length = 16 := by simp [shL]
theorem shift_to (l : List Nat) (n : Int) (w : World) (ha : l.length = 24) (ha2 : ∀ x ∈ l, x < 256) :
    Calls Try.prog 9 #[.agg (vc l), .int .i64 n] w fun e w' => e = .returned (.agg (vc (shL l (cut n)))) ∧ Below w.heap.size w w' := shift_any l n w ha ha2
theorem info24' {l : List Nat} (h : l.length = 24) : (Try.prog.info? 22).map (·.size) = some (vc l).toList.length := by rw [show (vc l).toList.length = 24 by simp [vc, h]]; kernel_rfl
set_option maxRecDepth 100000 in
set_option maxHeartbeats 2000000 in
theorem shifts_any (l : List Nat) (n : Int) (w : World) (ha : l.length = 24) (ha2 : ∀ x ∈ l, x < 256) :
    Calls Try.prog 3 #[.agg (vc l), .int .i64 n] w fun e w' => e = .returned (.bool true) ∧ Below w.heap.size w w' := by
  have E0 : ∀ W, (binOp .eql 24 (.agg (vc (shL l (cut n)))) (.agg (vc (rsh l (cut n))))).run Try.prog W = .ok (.bool true) W := eql_true _ _ (by
    have := shift_eq l (cut n) (cut_le n) ha2
    rw [show shL l (cut n) = rsh l (cut n) from this]; simp [rsh_len])
  have hcl := cut_le n
  have hce := cut_eq n
  have A1 := Lib.hid ha
  have A2 := Lib.hid ha2
  clear ha ha2
  go_enter Try.func3, Try.ntmps3
  go_upto_region 1 with (fail)
  have hA : Blk (w.alloc (.cells (vc l) 22)) w.heap.size 22 (vc l) := Blk.new w 22 (vc l)
  have hbe : Below w.heap.size w (w.alloc (.cells (vc l) 22)) := by go_grown
  generalize w.alloc (.cells (vc l) 22) = w1 at *
  have hs1 := hbe.size
  go_wp2_with fail
  refine (awake_any _).mono ?_
  rintro e w2 ⟨rfl, hb2⟩
  have HA := Lib.hid (hA.below hb2 hA.lt)
  have HE := Lib.hid (hbe.trans (hb2.mono (by omega)))
  clear hA hbe hb2
  go_wp2_with fail
  refine wp_region_quiet_below (by kernel_rfl) (by kernel_rfl) ?_
  repeat (first
    | (refine wpQuiet_load_mid rfl 22 (.tmp 2) rfl w.heap.size 0 rfl (vc l).toList (.array 24 5) (blk_regrown HA.out) Try.underlying22 rfl (info24' A1.out) ?_)
    | quiet_step ((first
        | (go_at_call 9; with_reducible exact Calls.regrown_of (shift_to l n _ A1.out A2.out))
        | (go_at_call 10; with_reducible exact Calls.regrown_of (rshift_any l (cut n) _ A1.out A2.out hcl)))))
  all_goals
    refine wpQuiet_nil ?_
    rintro _ ⟨⟨dq, osq⟩, rfl⟩
    go_wp2_with fail
    all_goals
      go_ret
      exact ⟨ret_true (by simp), HE.out.trans ((below_regrown w2 dq osq).mono HE.out.size)⟩
theorem Bys.regrown {w : World} {A : Option Addr} {n : Nat} {bs : List Nat} (h : Bys w A n bs) (d : Nat) (os : Array Obj) : Bys (grow (redrawn w d) os) A n bs := h.below (below_regrown w d os)
theorem same_below (A B : Option Addr) (n c m d : Nat) (xs ys : List Nat) (w : World) (hx : Bys w A n xs) (hy : Bys w B m ys) (hn : n ≤ maxLen) (hm : m ≤ maxLen) :
    Calls Try.prog 12 #[.slice A n c, .slice B m d] w fun e w' => e = .returned (.bool (decide (xs = ys))) ∧ Below w.heap.size w w' :=
  (same_any A B n c m d xs ys w hx hy hn hm).mono fun e w' ⟨he, k, hk⟩ => ⟨he, by rw [hk]; exact below_drewN (Below.refl _ _) k⟩
set_option maxRecDepth 100000 in
set_option maxHeartbeats 2000000 in
theorem pads_any (A : Option Addr) (n c : Nat) (bs : List Nat) (w : World) (hb : Bys w A n bs) (hnm : n ≤ maxLen) :
    Calls Try.prog 5 #[.slice A n c] w fun e w' => e = .returned (.bool true) ∧ Below w.heap.size w w' := by
  have HM := Lib.hid hnm
  unfold maxLen at hnm
  have HB := Lib.hid hb
  have HN := Lib.hid hb.len
  clear hb
  by_cases h5 : 500 < n
  · go_enter Try.func5, Try.ntmps5
    go_wp2_with fail
    refine (awake_any _).mono ?_
    rintro e w1 ⟨rfl, hb1⟩
    go_wp2_with fail
    refine (awake_any _).mono ?_
    rintro e w2 ⟨rfl, hb2⟩
    go_wp2_with fail
    go_ret
    exact ⟨rfl, hb1.trans (hb2.mono hb1.size)⟩
  · by_cases h16 : n < 16
    · have E1 : ∀ W, (binOp .eql 24 (.agg (vc (padL bs))) (.agg (vc (rpadTo bs (15 - n))))).run Try.prog W = .ok (.bool true) W := eql_true _ _ (by
        have := padL_eq bs (by rw [HN.out]; exact h16)
        rw [HN.out] at this
        rw [this]; simp [rpadTo_len, HN.out]; omega)
      have HP1 := Lib.hid (padL_len bs (by rw [HN.out]; exact h16))
      have hpl : ∀ x ∈ padL bs, x < 256 := by
        intro x hx
        rw [padL_eq bs (by rw [HN.out]; exact h16)] at hx
        simp only [rpadTo, List.mem_append, List.mem_cons, List.mem_replicate] at hx
        rcases hx with hx | rfl | ⟨_, rfl⟩
        · exact HB.out.2 x hx
        · omega
        · omega
      have HP2 := Lib.hid hpl
      have hup : upn (padL bs) 15 = n ∧ (padL bs).getD n 0 = 128 ∧ (padL bs).take n = bs := by
        have h1 := upn_pad bs (by rw [HN.out]; exact h16)
        have h2 := rpad_mark bs (by rw [HN.out]; exact h16)
        have h3 := take_pad bs (15 - bs.length)
        rw [padL_eq bs (by rw [HN.out]; exact h16)]
        rw [HN.out] at h1 h2 h3 ⊢
        exact ⟨h1, h2, h3⟩
      have HUP := Lib.hid hup
      obtain ⟨q, hq⟩ : ∃ q, padL bs = q := ⟨_, rfl⟩
      rw [hq] at HP1 HP2 HUP E1
      have HQ := Lib.hid hq
      clear hq hup hpl
      go_enter Try.func5, Try.ntmps5
      go_wp2_with fail
      refine (awake_any _).mono ?_
      rintro e w1 ⟨rfl, hb1⟩
      have hs1 := hb1.size
      have HB1 := Lib.hid (HB.out.below hb1)
      have HE1 := Lib.hid hb1
      clear hb1 HB
      go_wp2_with fail
      refine (pad_any A n c bs _ HB1.out h16).mono ?_
      rintro e w2 ⟨rfl, hb2⟩
      rw [HQ.out]
      have hs2 := hb2.size
      have HB2 := Lib.hid (HB1.out.below hb2)
      have HE2 := Lib.hid (HE1.out.trans (hb2.mono hs1))
      clear hb2 HB1 HE1
      go_upto_region 4 with (refine wpList_store_mid rfl 24 (.tmp 3) (.tmp 18) rfl w2.heap.size 0 (vc q) rfl rfl (Blk.there (Blk.new w2 24 _) (by rw [vc_size, HP1.out]; rfl)) (info16' HP1.out) (vc_one _) ?_)
      rw [zeros_vc]
      have HP3 := Lib.hid (show Blk ((w2.alloc (.cells (vc zeros) 24)).setCells w2.heap.size 0 (vc q).toList) w2.heap.size 24 (vc q) from Blk.setAll (Blk.new w2 24 (vc zeros)) (by rw [vc_size, vc_size, HP1.out]; rfl))
      have hbb : Below w2.heap.size w2 ((w2.alloc (.cells (vc zeros) 24)).setCells w2.heap.size 0 (vc q).toList) := below_setCells _ _ _ ((Below.refl _ w2).alloc (Nat.le_refl _) _) (Nat.le_refl _)
      generalize (w2.alloc (.cells (vc zeros) 24)).setCells w2.heap.size 0 (vc q).toList = w3 at *
      have HB3 := Lib.hid (HB2.out.below hbb)
      have HE3 := Lib.hid (HE2.out.trans (hbb.mono HE2.out.size))
      have hs3 := HE3.out.size
      clear hbb HB2 HE2
      generalize w2.heap.size = g2 at *
      go_upto_region 6 with (fail)
      go_wp2_with (refine wpList_load_mid rfl 24 (.tmp 3) rfl g2 0 rfl (vc q).toList (.array 16 5) (Blk.rangeAt HP3.out) Try.underlying24 rfl (info16 HP1.out) ?_)
      refine (unpad_any q _ HP1.out HP2.out).mono ?_
      rintro e w4 ⟨hun, hb4⟩
      unfold Unp at hun
      rw [HUP.out.1, if_pos HUP.out.2.1, HUP.out.2.2] at hun
      obtain ⟨A4, c4, rfl, hy4⟩ := hun
      have HY4 := Lib.hid hy4
      have HP4 := Lib.hid (HP3.out.below hb4 HP3.out.lt)
      have HB4 := Lib.hid (HB3.out.below hb4)
      have HE4 := Lib.hid (HE3.out.trans (hb4.mono hs3))
      have hdt : decide (bs = bs) = true := by simp
      clear hy4 hb4 HP3 HB3 HE3
      go_wp2_with fail
      refine wp_region_quiet_below (by kernel_rfl) (by kernel_rfl) ?_
      repeat (first
        | (refine wpQuiet_load_mid rfl 24 (.tmp 3) rfl g2 0 rfl (vc q).toList (.array 16 5) (blk_regrown HP4.out) Try.underlying24 rfl (info16 HP1.out) ?_)
        | quiet_step ((first
            | (go_at_call 17; with_reducible exact Calls.regrown_of (rpad_any A n c bs _ (Bys.regrown HB4.out _ _) h16))
            | (go_at_call 12; with_reducible exact Calls.regrown_of (same_below A4 A n c4 n c bs bs _ (Bys.regrown HY4.out _ _) (Bys.regrown HB4.out _ _) HM.out HM.out)))))
      refine wpQuiet_nil ?_
      rintro _ ⟨⟨dq, osq⟩, rfl⟩
      go_wp2_with fail
      go_ret
      exact ⟨ret_true (by simp), HE4.out.trans ((below_regrown w4 dq osq).mono HE4.out.size)⟩
    · have E1 : ∀ W, (binOp .eql 24 (.agg (vc zeros)) (.agg (vc zeros'))).run Try.prog W = .ok (.bool true) W := eql_true _ _ (by decide +kernel)
      rw [← zeros_vc'] at E1
      have HP1 := Lib.hid zeros_len
      obtain ⟨q, hq⟩ : ∃ q, zeros = q := ⟨_, rfl⟩
      rw [hq] at HP1 E1
      have HQ := Lib.hid hq
      clear hq
      have hn16 : 16 ≤ n := by omega
      go_enter Try.func5, Try.ntmps5
      go_wp2_with fail
      refine (awake_any _).mono ?_
      rintro e w1 ⟨rfl, hb1⟩
      have hs1 := hb1.size
      have HE1 := Lib.hid hb1
      clear hb1 HB
      go_wp2_with fail
      refine (pad_big A n c _ hn16).mono ?_
      rintro e w2 ⟨rfl, hb2⟩
      rw [HQ.out]
      have hs2 := hb2.size
      have HE2 := Lib.hid (HE1.out.trans (hb2.mono hs1))
      clear hb2 HE1
      go_upto_region 4 with (refine wpList_store_mid rfl 24 (.tmp 3) (.tmp 18) rfl w2.heap.size 0 (vc q) rfl rfl (Blk.there (Blk.new w2 24 _) (by rw [vc_size, HP1.out]; rfl)) (info16' HP1.out) (vc_one _) ?_)
      have HP3 := Lib.hid (show Blk ((w2.alloc (.cells (vc zeros) 24)).setCells w2.heap.size 0 (vc q).toList) w2.heap.size 24 (vc q) from Blk.setAll (Blk.new w2 24 (vc zeros)) (by rw [vc_size, vc_size, HP1.out]; rfl))
      have HE3 := Lib.hid (show Below w.heap.size w ((w2.alloc (.cells (vc zeros) 24)).setCells w2.heap.size 0 (vc q).toList) from below_setCells _ _ _ (HE2.out.alloc (by omega) _) (by omega))
      rw [zeros_vc]
      generalize (w2.alloc (.cells (vc zeros) 24)).setCells w2.heap.size 0 (vc q).toList = w3 at *
      generalize w2.heap.size = g2 at *
      go_wp2_with (first | (refine wpList_load_g rfl 24 (.tmp 3) rfl g2 0 rfl (vc q).toList (.array 16 5) (Blk.rangeAt HP3.out) Try.underlying24 rfl (info16 HP1.out) ?_) | (refine wpList_load_mid rfl 24 (.tmp 3) rfl g2 0 rfl (vc q).toList (.array 16 5) (Blk.rangeAt HP3.out) Try.underlying24 rfl (info16 HP1.out) ?_))
      go_ret
      exact ⟨ret_true (by simp), HE3.out⟩
end Go.Proofs.Ytdggedgailkceaa
