import Derived.Test.YtbkgmeopdcealaaDoorTxt
import Derived.Test.YtbkgmeopdcealaaDoorRrt
namespace Go.Proofs.YtbkgmeopdcealaaDoor
open Go.ChangeShapes Go.WideShapes Go.ChangeAt Go.RowKit Go.Sort Go.Deep
set_option linter.unusedVariables false
set_option linter.unusedSimpArgs false
set_option maxRecDepth 100000 in
set_option maxHeartbeats 1000000 in
/-- script.Right. -/
theorem right_op (o : Op) (w : World) (hT : Tab w) (hO : OpOk w o) (hn : o.n ≤ 2500) (ha : o.ad.size ≤ 5000) :
    Calls Tryd.prog 15 #[o.v] w fun e w' => RiR o.p e ∧ Below w.heap.size w w' := by
  have b1 : Below w.heap.size w (w.alloc (.cells o.arr 29)) := (Below.refl _ w).alloc (Nat.le_refl _) _
  have ht := text_any o _ (hT.below b1) (hO.below b1) hn ha
  have HB1 := Lib.hid b1
  obtain ⟨X, hX⟩ : ∃ x, o = x := ⟨_, rfl⟩
  have HX := Lib.hid hX
  have HXR := Lib.hid (show ∀ e, TxR o e → (RP X.p ∧ e = .returned (.tuple #[.string (lineP X.p), .bool true])) ∨ (¬ RP X.p ∧ e = .returned (.tuple #[.string em, .bool false])) from fun e h => by
    rw [← hX]
    cases h with
    | yes h => exact .inl ⟨h, rfl⟩
    | no h => exact .inr ⟨h, rfl⟩)
  have hp : o.p = X.p := by rw [hX]
  rw [hp]
  clear b1 hT hO hn ha hX hp
  have ht2 := ht.mono (fun e w' h => And.intro (HXR.out e h.1) h.2)
  clear ht
  obtain ⟨kd, wh, nn, mm, A, n, c, bs, ad⟩ := o
  unfold Op.v at ht2 ⊢
  unfold Op.arr at ht2 HB1
  simp only at ht2 HB1 ⊢
  obtain ⟨LP, hLP⟩ : ∃ l, lineP X.p = l := ⟨_, rfl⟩
  rw [hLP] at ht2
  go_enter Tryd.func15, Tryd.ntmps15
  go_wp2_with (go_at_call 12; refine ht2.mono ?_; rintro _ w2 ⟨⟨hy, rfl⟩ | ⟨hy, rfl⟩, hb⟩)
  · have HY := Lib.hid hy
    have HB := Lib.hid (HB1.out.trans (hb.mono HB1.out.size))
    clear hy hb ht2
    go_wp2_with fail
    all_goals go_ret
    exact ⟨RiR.yes HY.out, HB.out⟩
  · have HY := Lib.hid hy
    have HB := Lib.hid (HB1.out.trans (hb.mono HB1.out.size))
    clear hy hb ht2
    go_wp2_with fail
    all_goals go_ret
    exact ⟨RiR.no HY.out, HB.out⟩
def FewO (o : Op) : Prop := o.n ≤ 1400 ∧ o.ad.size ≤ 300
inductive FeR (o : Op) : Ending → Prop
  | yes : FewO o → FeR o (.returned (.bool true))
  | no : ¬ FewO o → FeR o (.returned (.bool false))
set_option maxRecDepth 100000 in
set_option maxHeartbeats 1000000 in
theorem few_any (o : Op) (w : World) (hO : OpOk w o) : Calls Tryd.prog 10 #[o.v] w fun e w' => FeR o e ∧ Below w.heap.size w w' := by
  have HB1 := Lib.hid (show Below w.heap.size w (w.alloc (.cells o.arr 24)) from (Below.refl _ w).alloc (Nat.le_refl _) _)
  have h1 := hO.c0
  have h2 := hO.c1
  have h3 := hO.a1
  clear hO
  obtain ⟨kd, wh, nn, mm, A, n, c, bs, ad⟩ := o
  unfold Op.v
  unfold Op.arr at HB1
  simp only at HB1 h1 h2 h3 ⊢
  unfold maxLen at h2 h3
  by_cases a : n ≤ 1400
  · have hi : (n : Int) ≤ 1400 := by omega
    by_cases b : ad.size ≤ 300
    · have hj : (ad.size : Int) ≤ 300 := by omega
      have HF := Lib.hid (show FewO ⟨kd, wh, nn, mm, A, n, c, bs, ad⟩ from ⟨a, b⟩)
      clear a b
      go_enter Tryd.func10, Tryd.ntmps10
      go_wp2_with fail
      all_goals go_ret
      exact ⟨FeR.yes HF.out, HB1.out⟩
    · have hj : ¬ (ad.size : Int) ≤ 300 := by omega
      have HF := Lib.hid (show ¬ FewO ⟨kd, wh, nn, mm, A, n, c, bs, ad⟩ from fun h => b h.2)
      clear a b
      go_enter Tryd.func10, Tryd.ntmps10
      go_wp2_with fail
      all_goals go_ret
      exact ⟨FeR.no HF.out, HB1.out⟩
  · have hi : ¬ (n : Int) ≤ 1400 := by omega
    have HF := Lib.hid (show ¬ FewO ⟨kd, wh, nn, mm, A, n, c, bs, ad⟩ from fun h => a h.1)
    clear a
    go_enter Tryd.func10, Tryd.ntmps10
    go_wp2_with fail
    all_goals go_ret
    exact ⟨FeR.no HF.out, HB1.out⟩
end Go.Proofs.YtbkgmeopdcealaaDoor
