import Derived.Test.YtbkgmeopdcealaaDoorSmo
namespace Go.Proofs.YtbkgmeopdcealaaDoor
open Go.ChangeShapes Go.WideShapes Go.ChangeAt Go.RowKit Go.Sort
set_option linter.unusedVariables false
set_option linter.unusedSimpArgs false
set_option maxRecDepth 100000 in
set_option maxHeartbeats 1000000 in
theorem rsameo_any (a b : Op) (w : World) (ha : OpOk w a) (hb : OpOk w b) : Calls Tryd.prog 13 #[a.v, b.v] w fun e w' => e = .returned (.bool (opEq a b)) ∧ Below w.heap.size w w' := by
  have b1 : Below w.heap.size w ((w.alloc (.cells a.arr 24)).alloc (.cells b.arr 24)) := ((Below.refl _ w).alloc (Nat.le_refl _) _).alloc (by simp) _
  have he := (same_any a.A b.A a.n a.c b.n b.c a.bs b.bs _ (ha.y.below b1) (hb.y.below b1) (Nat.le_trans ha.c0 ha.c1) (Nat.le_trans hb.c0 hb.c1)).mono (R' := fun e w' => e = .returned (.bool (decide (a.bs = b.bs))) ∧ Below ((w.alloc (.cells a.arr 24)).alloc (.cells b.arr 24)).heap.size ((w.alloc (.cells a.arr 24)).alloc (.cells b.arr 24)) w') fun e w' ⟨h1, k, hk⟩ => ⟨h1, hk ▸ ⟨rfl, rfl, rfl, Nat.le_refl _, fun i hi => rfl⟩⟩
  have HB := Lib.hid b1
  have k1 := (Blk.new w 24 a.arr).alloc (.cells b.arr 24)
  have k2 := Blk.new (w.alloc (.cells a.arr 24)) 24 b.arr
  rw [show (w.alloc (.cells a.arr 24)).heap.size = w.heap.size + 1 by simp] at k2
  have HK := Lib.hid (And.intro k1 k2)
  obtain ⟨q, hq⟩ : ∃ q, opEq a b = q := ⟨_, rfl⟩
  rw [hq]
  unfold opEq at hq
  obtain ⟨r, hr⟩ : ∃ r, decide (a.bs = b.bs) = r := ⟨_, rfl⟩
  rw [hr] at he hq
  have HQ := Lib.hid hq
  clear ha hb b1 hq hr k1 k2
  obtain ⟨k1, w1, n1, m1, A1, l1, c1, bs1, ad1⟩ := a
  obtain ⟨k2, w2, n2, m2, A2, l2, c2, bs2, ad2⟩ := b
  unfold Op.v
  unfold Op.arr at he HB HK
  simp only at he HB HQ HK ⊢
  have HS := Lib.hid (show (ad1.toList == ad2.toList) = decide (ad1 = ad2) by
    by_cases h : ad1 = ad2
    · subst h; simp
    · rw [toList_ne h, decide_eq_false h])
  by_cases h1 : k1 = k2
  · subst h1
    by_cases h2 : w1 = w2
    · subst h2
      by_cases h3 : n1 = n2
      · subst h3
        by_cases h4 : m1 = m2
        · subst h4
          cases r
          · go_enter Tryd.func13, Tryd.ntmps13
            go_wp2_with (go_at_call 25; refine he.mono ?_; rintro _ w5 ⟨rfl, hbb⟩)
            all_goals go_ret
            exact ⟨by rw [← HQ.out]; simp, through HB.out hbb⟩
          · go_enter Tryd.func13, Tryd.ntmps13
            go_wp2_with (go_at_call 25; refine he.mono ?_; rintro _ w5 ⟨rfl, hbb⟩; refine Hid.out ?_)
            refine Lib.hid ?_
            have d1 : w5.cell? ⟨w.heap.size, 5, none⟩ = some (.string ad1) := ((HK.out.1.below hbb HK.out.1.lt).cell 5).trans rfl
            have d2 : w5.cell? ⟨w.heap.size + 1, 5, none⟩ = some (.string ad2) := ((HK.out.2.below hbb HK.out.2.lt).cell 5).trans rfl
            go_wp2_with fail
            all_goals go_ret
            exact ⟨by rw [← HQ.out, ← HS.out]; simp, through HB.out hbb⟩
        · have hx : (m1 == m2) = false := beq_false_of_ne h4
          go_enter Tryd.func13, Tryd.ntmps13
          go_wp2_with fail
          all_goals go_ret
          exact ⟨by rw [← HQ.out]; simp [h4], HB.out⟩
      · have hx : (n1 == n2) = false := beq_false_of_ne h3
        go_enter Tryd.func13, Tryd.ntmps13
        go_wp2_with fail
        all_goals go_ret
        exact ⟨by rw [← HQ.out]; simp [h3], HB.out⟩
    · have hx : (w1 == w2) = false := beq_false_of_ne h2
      go_enter Tryd.func13, Tryd.ntmps13
      go_wp2_with fail
      all_goals go_ret
      exact ⟨by rw [← HQ.out]; simp [h2], HB.out⟩
  · have hx : (k1 == k2) = false := beq_false_of_ne h1
    go_enter Tryd.func13, Tryd.ntmps13
    go_wp2_with fail
    all_goals go_ret
    exact ⟨by rw [← HQ.out]; simp [h1], HB.out⟩
end Go.Proofs.YtbkgmeopdcealaaDoor
