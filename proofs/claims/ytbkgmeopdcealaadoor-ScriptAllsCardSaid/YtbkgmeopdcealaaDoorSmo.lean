import Derived.Test.YtbkgmeopdcealaaDoorOpp
namespace Go.Proofs.YtbkgmeopdcealaaDoor
open Go.ChangeShapes Go.WideShapes Go.ChangeAt Go.RowKit Go.Sort
set_option linter.unusedVariables false
set_option linter.unusedSimpArgs false
set_option maxRecDepth 100000 in
set_option maxHeartbeats 1000000 in
theorem sameo_any (a b : Op) (w : World) (ha : OpOk w a) (hb : OpOk w b) : Calls Tryd.prog 14 #[a.v, b.v] w fun e w' => e = .returned (.bool (opEq a b)) ∧ Below w.heap.size w w' := by
  have b1 : Below w.heap.size w ((w.alloc (.cells a.arr 29)).alloc (.cells b.arr 29)) := ((Below.refl _ w).alloc (Nat.le_refl _) _).alloc (by simp) _
  have he := bequal_any a.A b.A a.n a.c b.n b.c a.bs b.bs _ (ha.y.below b1) (hb.y.below b1)
  have HB := Lib.hid b1
  obtain ⟨q, hq⟩ : ∃ q, opEq a b = q := ⟨_, rfl⟩
  rw [hq]
  unfold opEq at hq
  obtain ⟨r, hr⟩ : ∃ r, decide (a.bs = b.bs) = r := ⟨_, rfl⟩
  rw [hr] at he hq
  have HQ := Lib.hid hq
  clear ha hb b1 hq hr
  obtain ⟨k1, w1, n1, m1, A1, l1, c1, bs1, ad1⟩ := a
  obtain ⟨k2, w2, n2, m2, A2, l2, c2, bs2, ad2⟩ := b
  unfold Op.v
  unfold Op.arr at he HB
  simp only at he HB HQ ⊢
  have HS := Lib.hid (show (ad1.toList == ad2.toList) = decide (ad1 = ad2) by
    by_cases h : ad1 = ad2
    · subst h; simp
    · rw [toList_ne h, decide_eq_false h])
  by_cases h1 : k1 = k2
  · subst h1
    by_cases h2 : w1 = w2
    · subst h2
      by_cases h3 : n1 = n2
      · subst h3
        by_cases h4 : m1 = m2
        · subst h4
          cases r
          · go_enter Tryd.func14, Tryd.ntmps14
            go_wp2_with (go_at_call 28; refine he.mono ?_; rintro _ _ ⟨rfl, rfl⟩)
            all_goals go_ret
            exact ⟨by rw [← HQ.out]; simp, HB.out⟩
          · go_enter Tryd.func14, Tryd.ntmps14
            go_wp2_with (go_at_call 28; refine he.mono ?_; rintro _ _ ⟨rfl, rfl⟩)
            all_goals go_ret
            exact ⟨by rw [← HQ.out, ← HS.out]; simp, HB.out⟩
        · have hx : (m1 == m2) = false := beq_false_of_ne h4
          go_enter Tryd.func14, Tryd.ntmps14
          go_wp2_with fail
          all_goals go_ret
          exact ⟨by rw [← HQ.out]; simp [h4], HB.out⟩
      · have hx : (n1 == n2) = false := beq_false_of_ne h3
        go_enter Tryd.func14, Tryd.ntmps14
        go_wp2_with fail
        all_goals go_ret
        exact ⟨by rw [← HQ.out]; simp [h3], HB.out⟩
    · have hx : (w1 == w2) = false := beq_false_of_ne h2
      go_enter Tryd.func14, Tryd.ntmps14
      go_wp2_with fail
      all_goals go_ret
      exact ⟨by rw [← HQ.out]; simp [h2], HB.out⟩
  · have hx : (k1 == k2) = false := beq_false_of_ne h1
    go_enter Tryd.func14, Tryd.ntmps14
    go_wp2_with fail
    all_goals go_ret
    exact ⟨by rw [← HQ.out]; simp [h1], HB.out⟩
end Go.Proofs.YtbkgmeopdcealaaDoor
