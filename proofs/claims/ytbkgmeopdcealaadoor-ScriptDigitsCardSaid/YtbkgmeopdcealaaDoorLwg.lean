import Derived.Test.YtbkgmeopdcealaaDoorAwk
namespace Go.Proofs.YtbkgmeopdcealaaDoor
open Go.ChangeShapes Go.WideShapes Go.ChangeAt Go.RowKit Go.Sort Go.Deep
set_option linter.unusedVariables false
set_option linter.unusedSimpArgs false
theorem hexS_size (bs : List Nat) (h : bs.length ≤ 1000) : (hexS bs).size ≤ 2000 := by
  unfold hexS
  split
  · decide
  · rw [str_size, hexL_len]; omega
theorem row_cap {w : World} {base : Nat} {A : Option Addr} {n c : Nat} {xs : List Value} (h : w.ownsRow base 5 1 (.slice A n c) n xs) : n ≤ c ∧ c ≤ maxLen := by
  rcases h.2 with ⟨e, e2⟩ | ⟨g, cap, cur, e, _, _, h1, h2, _⟩
  · injection e with _ _ e3; rw [e2, e3]; exact ⟨Nat.le_refl _, by unfold maxLen; omega⟩
  · injection e with _ _ e3; rw [e3]; exact ⟨h1, h2⟩
theorem thr {w w1 w2 : World} (h1 : Below w.heap.size w w1) (h2 : Below w1.heap.size w1 w2) : Below w.heap.size w w2 := h1.trans (h2.mono h1.size)
set_option maxRecDepth 100000 in
set_option maxHeartbeats 2000000 in
/-- ScriptDigits. -/
theorem digits_any (A : Option Addr) (n c : Nat) (bs : List Nat) (s : ByteArray) (w : World) (hT : Tab w) (hy : Bys w A n bs) (hnc : n ≤ c) (hcm : c ≤ maxLen) (hs : s.size ≤ maxLen) :
    Calls Tryd.prog 8 #[.slice A n c, .string s] w fun e w' => e = .returned (.bool true) ∧ Below w.heap.size w w' := by
  have haw := awake_any w hT
  have HAW := Lib.hid (fun W (hW : Tab W) => awake_any W hW)
  have HT := Lib.hid hT
  have HY := Lib.hid hy
  have hbl := hy.len
  unfold maxLen at hcm hs
  have hn63 : (n : Int) ≤ 9223372036854775807 := by omega
  have HBL := Lib.hid hbl
  clear hT hy hbl
  by_cases h1 : n ≤ 1000
  · have hi : (n : Int) ≤ 1000 := by omega
    by_cases h2 : s.size ≤ 2000
    · have hj : (s.size : Int) ≤ 2000 := by omega
      go_enter Tryd.func8, Tryd.ntmps8
      go_wp2_with (go_at_call 9; refine haw.mono ?_; rintro _ w1 ⟨rfl, hb⟩; refine Hid.out ?_)
      refine Lib.hid ?_
      have B1 := Lib.hid hb
      have hx := hex_any A n c bs w1 (HY.out.below hb) (by omega)
      obtain ⟨X, hX⟩ : ∃ x, hexS bs = x := ⟨_, rfl⟩
      rw [hX] at hx
      have HX := Lib.hid hX
      have hXz : X.size ≤ 2000 := by rw [← hX]; exact hexS_size bs (by rw [HBL.out]; exact h1)
      clear hb haw hX
      go_wp2_with (go_at_call 21; refine hx.mono ?_; rintro _ w2 ⟨rfl, hb⟩; refine Hid.out ?_)
      refine Lib.hid ?_
      have B2 := Lib.hid (thr B1.out hb)
      have hu := unhex_any X w2 (by omega)
      rw [show unhexS X = some bs by rw [← HX.out]; exact unhex_hex bs HY.out.2] at hu
      clear hb hx B1
      go_wp2_with (go_at_call 22; refine hu.mono ?_; rintro _ w3 ⟨⟨v3, rfl, ho3⟩, hb⟩; refine Hid.out ?_)
      refine Lib.hid ?_
      obtain ⟨A3, c3, rfl⟩ := own_form ho3
      have hc3 := row_cap ho3
      have B3 := Lib.hid (thr B2.out hb)
      have Y3 := Lib.hid (Bys.of_own ho3 HY.out.2)
      have hu := unhex_any s w3 (by omega)
      have HRU := Lib.hid (fun W => runhex_any s W (by omega))
      obtain ⟨L, hL⟩ : ∃ l, bs.length = l := ⟨_, rfl⟩
      rw [hL] at Y3 hc3 ⊢
      obtain rfl : L = n := hL.symm.trans HBL.out
      unfold maxLen at hc3
      clear hb ho3 B2 hL
      cases hus : unhexS s with
      | none =>
        rw [hus] at hu HRU
        clear hus
        go_wp2_with (go_at_call 22; refine hu.mono ?_; rintro _ w4 ⟨rfl, hb⟩; refine Hid.out ?_)
        refine Lib.hid ?_
        have B4 := Lib.hid (thr B3.out hb)
        have Y4 := Lib.hid (Y3.out.below hb)
        have hr := HRU.out w4
        clear hb hu B3 Y3
        go_wp2_with (go_at_call 23; refine hr.mono ?_; rintro _ w5 ⟨rfl, hb⟩; refine Hid.out ?_)
        refine Lib.hid ?_
        have B5 := Lib.hid (thr B4.out hb)
        have Y5 := Lib.hid (Y4.out.below hb)
        have hrx := rhex_any A L c bs w5 (HY.out.below B5.out) (by omega)
        rw [HX.out] at hrx
        clear hb hr B4 Y4
        go_wp2_with (go_at_call 24; refine hrx.mono ?_; rintro _ w6 ⟨rfl, hb⟩; refine Hid.out ?_)
        refine Lib.hid ?_
        have B6 := Lib.hid (thr B5.out hb)
        have hsm := same_any A3 A L c3 L c bs bs w6 (Y5.out.below hb) (HY.out.below B6.out) (by unfold maxLen; omega) (by unfold maxLen; omega)
        rw [decide_eq_true rfl] at hsm
        have HSN := Lib.hid (fun W => same_any none none 0 0 0 0 [] [] W (Bys.none_ W) (Bys.none_ W) (by unfold maxLen; omega) (by unfold maxLen; omega))
        clear hb hrx B5 Y5
        go_wp2_with (go_at_call 25; refine hsm.mono ?_; rintro _ w7 ⟨rfl, k7, rfl⟩; refine Hid.out ?_)
        refine Lib.hid ?_
        have hsn := HSN.out (w6.drewN k7)
        simp only [decide_true] at hsn
        have B7 := Lib.hid (thr B6.out (below_drewN (Below.refl _ _) k7))
        clear hsm B6
        generalize w6.drewN k7 = w7 at *
        go_wp2_with (go_at_call 25; refine hsn.mono ?_; rintro _ w8 ⟨rfl, k8, rfl⟩; refine Hid.out ?_)
        refine Lib.hid ?_
        have B8 := Lib.hid (thr B7.out (below_drewN (Below.refl _ _) k8))
        clear hsn B7
        go_wp2_with fail
        all_goals go_ret
        exact ⟨by first | rfl | simp, B8.out⟩
      | some ds =>
        rw [hus] at hu HRU
        have HUS := Lib.hid (hex_unhex hus)
        clear hus
        go_wp2_with (go_at_call 22; refine hu.mono ?_; rintro _ w4 ⟨⟨v4, rfl, ho4⟩, hb⟩; refine Hid.out ?_)
        refine Lib.hid ?_
        obtain ⟨A4, c4, rfl⟩ := own_form ho4
        have hc4 := row_cap ho4
        have B4 := Lib.hid (thr B3.out hb)
        have Y4 := Lib.hid (And.intro (Y3.out.below hb) (Bys.of_own ho4 HUS.out.2.1))
        have hr := HRU.out w4
        clear hb hu B3 Y3 ho4
        go_wp2_with (go_at_call 23; refine hr.mono ?_; rintro _ w5 ⟨⟨v5, rfl, ho5⟩, hb⟩; refine Hid.out ?_)
        refine Lib.hid ?_
        obtain ⟨A5, c5, rfl⟩ := own_form ho5
        have hc5 := row_cap ho5
        have B5 := Lib.hid (thr B4.out hb)
        have Y5 := Lib.hid (And.intro (Y4.out.1.below hb) (And.intro (Y4.out.2.below hb) (Bys.of_own ho5 HUS.out.2.1)))
        have hrx := rhex_any A L c bs w5 (HY.out.below B5.out) (by omega)
        rw [HX.out] at hrx
        obtain ⟨M, hM⟩ : ∃ l, ds.length = l := ⟨_, rfl⟩
        rw [hM] at Y5 hc4 hc5 ⊢
        have hM2 : M ≤ 1000 := by have := HUS.out.2.2; omega
        unfold maxLen at hc4 hc5
        clear hb hr B4 Y4 ho5 hM
        go_wp2_with (go_at_call 24; refine hrx.mono ?_; rintro _ w6 ⟨rfl, hb⟩; refine Hid.out ?_)
        refine Lib.hid ?_
        have B6 := Lib.hid (thr B5.out hb)
        have Y6 := Lib.hid (And.intro (Y5.out.2.1.below hb) (Y5.out.2.2.below hb))
        have hsm := same_any A3 A L c3 L c bs bs w6 (Y5.out.1.below hb) (HY.out.below B6.out) (by unfold maxLen; omega) (by unfold maxLen; omega)
        rw [decide_eq_true rfl] at hsm
        clear hb hrx B5 Y5
        go_wp2_with (go_at_call 25; refine hsm.mono ?_; rintro _ w7 ⟨rfl, k7, rfl⟩; refine Hid.out ?_)
        refine Lib.hid ?_
        have hb : Below w6.heap.size w6 (w6.drewN k7) := below_drewN (Below.refl _ _) k7
        have B7 := Lib.hid (thr B6.out hb)
        have Y7 := Lib.hid (And.intro (Y6.out.1.below hb) (Y6.out.2.below hb))
        clear hsm B6 Y6 hb
        generalize w6.drewN k7 = w7 at *
        have hsn := same_any A4 A5 M c4 M c5 ds ds w7 Y7.out.1 Y7.out.2 (by unfold maxLen; omega) (by unfold maxLen; omega)
        rw [decide_eq_true rfl] at hsn
        go_wp2_with (go_at_call 25; refine hsn.mono ?_; rintro _ w8 ⟨rfl, k8, rfl⟩; refine Hid.out ?_)
        refine Lib.hid ?_
        have hb : Below w7.heap.size w7 (w7.drewN k8) := below_drewN (Below.refl _ _) k8
        have B8 := Lib.hid (thr B7.out hb)
        have hxx := hex_any A4 M c4 ds _ (Y7.out.1.below hb) (by omega)
        rw [HUS.out.1] at hxx
        clear hsn B7 Y7 hb
        generalize w7.drewN k8 = w8 at *
        go_wp2_with (go_at_call 21; refine hxx.mono ?_; rintro _ w9 ⟨rfl, hb⟩; refine Hid.out ?_)
        refine Lib.hid ?_
        have B9 := Lib.hid (thr B8.out hb)
        clear hxx hb B8
        go_wp2_with fail
        all_goals go_ret
        exact ⟨by first | rfl | simp, B9.out⟩
    · have hj : ¬ (s.size : Int) ≤ 2000 := by omega
      have hj2 : (2000 : Int) < (s.size : Int) := by omega
      go_enter Tryd.func8, Tryd.ntmps8
      go_wp2_with (go_at_call 9; refine haw.mono ?_; rintro _ w1 ⟨rfl, hb⟩; refine Hid.out ?_)
      refine Lib.hid ?_
      have B1 := Lib.hid hb
      have ha2 := HAW.out w1 (HT.out.below hb)
      clear hb haw
      go_wp2_with (go_at_call 9; refine ha2.mono ?_; rintro _ w2 ⟨rfl, hb⟩)
      all_goals go_ret
      exact ⟨rfl, thr B1.out hb⟩
  · have hi : ¬ (n : Int) ≤ 1000 := by omega
    have hi2 : (1000 : Int) < (n : Int) := by omega
    go_enter Tryd.func8, Tryd.ntmps8
    go_wp2_with (go_at_call 9; refine haw.mono ?_; rintro _ w1 ⟨rfl, hb⟩; refine Hid.out ?_)
    refine Lib.hid ?_
    have B1 := Lib.hid hb
    have ha2 := HAW.out w1 (HT.out.below hb)
    clear hb haw
    go_wp2_with (go_at_call 9; refine ha2.mono ?_; rintro _ w2 ⟨rfl, hb⟩)
    all_goals go_ret
    exact ⟨rfl, thr B1.out hb⟩
end Go.Proofs.YtbkgmeopdcealaaDoor
