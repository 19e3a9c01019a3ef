import Derived.Test.YtbifakhalnkfbaaDoorSt
namespace Go.Proofs.YtbifakhalnkfbaaDoor
open Go.ChangeShapes Go.WideShapes Go.ChangeAt Go.RowKit Go.Sort
set_option linter.unusedVariables false
set_option linter.unusedSimpArgs false
set_option maxRecDepth 100000 in
set_option maxHeartbeats 4000000 in
theorem rsright_any (s : St) (w : World) (hs : StOk s) : Calls Tryd.prog 11 #[s.v] w fun e w' => e = .returned (.bool (rgtS s)) ∧ Below w.heap.size w w' := by
  have hR : ∀ W, Calls Tryd.prog 27 #[.string s.ad] W fun e w' => e = .returned (.bool (rightS s.ad)) ∧ W = w' := fun W => rright_any s.ad W hs.d1
  have H0 := Lib.hid ((Below.refl _ w).alloc (Nat.le_refl _) (.cells s.arr 25))
  have H1 := Lib.hid (((Below.refl _ w).alloc (Nat.le_refl _) (.cells s.arr 25)).alloc (by simp) (.cells #[.int .i64 s.ac, .int .i64 s.rf, .int .i64 s.mv, .int .i64 s.sm] 3))
  have hn0 : (0 : Int) ≤ (s.nx : Int) := by omega
  have hl0 : (0 : Int) ≤ (s.ls : Int) := by omega
  have hp0 : (0 : Int) ≤ (s.sp : Int) := by omega
  obtain ⟨nx, ls, an, ac, rf, ad, mv, sm, sp, cl⟩ := s
  unfold St.v
  unfold St.arr at H0 H1
  simp only at hR H0 H1 hn0 hl0 hp0 ⊢
  clear hs
  go_enter Tryd.func11, Tryd.ntmps11
  go_wp2_with fail
  go_loopw [4] (fun i wr => ∃ k : Int, i = .int .i64 k ∧ (0 ≤ k ∧ k ≤ 4) ∧ (0 < k → sm31 ac = true) ∧ (1 < k → sm31 rf = true) ∧ (2 < k → sm31 mv = true) ∧ (3 < k → sm31 sm = true) ∧ wr = ((w.alloc (.cells #[.int .u64 nx, .int .u64 ls, .bool an, .int .i64 ac, .int .i64 rf, .string ad, .int .i64 mv, .int .i64 sm, .int .u16 sp, .bool cl] 25)).alloc (.cells #[.int .i64 ac, .int .i64 rf, .int .i64 mv, .int .i64 sm] 3))) (fun i _ => 4 - (intOf i).toNat)
  case atStart => exact ⟨0, rfl, ⟨by omega, by omega⟩, by simp, by simp, by simp, by simp, rfl⟩
  case round =>
    obtain ⟨k, rfl, hk, h0, h1, h2, h3, rfl⟩ := hrel
    have hkk : k = 0 ∨ k = 1 ∨ k = 2 ∨ k = 3 ∨ k = 4 := by omega
    rcases hkk with rfl | rfl | rfl | rfl | rfl
    · clear hk
      clear h0 h1 h2 h3
      have g3 : ac < 0 ∨ 2147483647 < ac ∨ (0 ≤ ac ∧ ac ≤ 2147483647) := by omega
      rcases g3 with g | g | g
      · have hf := Lib.hid (sm31_f (x := ac) (.inl g))
        go_wp2_with fail
        go_ret
        exact ⟨ret_bool (by unfold rgtS; simp [hf.out]), H1.out⟩
      · have hf := Lib.hid (sm31_f (x := ac) (.inr g))
        have g2 : 0 ≤ ac := by omega
        go_wp2_with fail
        go_ret
        exact ⟨ret_bool (by unfold rgtS; simp [hf.out]), H1.out⟩
      · have g1 := g.1
        have g2 := g.2
        have G := Lib.hid g
        clear g
        go_wp2_with fail
        go_roundw
        case rel =>
          have g := G.out
          exact ⟨1, rfl, ⟨by omega, by omega⟩, fun _ => sm31_t g.1 g.2, fun h => absurd h (by omega), fun h => absurd h (by omega), fun h => absurd h (by omega), (by first | rfl | trivial)⟩
        case measure => decide
    · clear hk
      have e0 := h0 (by omega)
      have E0 := Lib.hid e0
      clear h0 h1 h2 h3 e0
      have g3 : rf < 0 ∨ 2147483647 < rf ∨ (0 ≤ rf ∧ rf ≤ 2147483647) := by omega
      rcases g3 with g | g | g
      · have hf := Lib.hid (sm31_f (x := rf) (.inl g))
        go_wp2_with fail
        go_ret
        exact ⟨ret_bool (by unfold rgtS; simp [hf.out]), H1.out⟩
      · have hf := Lib.hid (sm31_f (x := rf) (.inr g))
        have g2 : 0 ≤ rf := by omega
        go_wp2_with fail
        go_ret
        exact ⟨ret_bool (by unfold rgtS; simp [hf.out]), H1.out⟩
      · have g1 := g.1
        have g2 := g.2
        have G := Lib.hid g
        clear g
        go_wp2_with fail
        go_roundw
        case rel =>
          have g := G.out
          exact ⟨2, rfl, ⟨by omega, by omega⟩, fun _ => E0.out, fun _ => sm31_t g.1 g.2, fun h => absurd h (by omega), fun h => absurd h (by omega), (by first | rfl | trivial)⟩
        case measure => decide
    · clear hk
      have e0 := h0 (by omega)
      have e1 := h1 (by omega)
      have E0 := Lib.hid e0
      have E1 := Lib.hid e1
      clear h0 h1 h2 h3 e0 e1
      have g3 : mv < 0 ∨ 2147483647 < mv ∨ (0 ≤ mv ∧ mv ≤ 2147483647) := by omega
      rcases g3 with g | g | g
      · have hf := Lib.hid (sm31_f (x := mv) (.inl g))
        go_wp2_with fail
        go_ret
        exact ⟨ret_bool (by unfold rgtS; simp [hf.out]), H1.out⟩
      · have hf := Lib.hid (sm31_f (x := mv) (.inr g))
        have g2 : 0 ≤ mv := by omega
        go_wp2_with fail
        go_ret
        exact ⟨ret_bool (by unfold rgtS; simp [hf.out]), H1.out⟩
      · have g1 := g.1
        have g2 := g.2
        have G := Lib.hid g
        clear g
        go_wp2_with fail
        go_roundw
        case rel =>
          have g := G.out
          exact ⟨3, rfl, ⟨by omega, by omega⟩, fun _ => E0.out, fun _ => E1.out, fun _ => sm31_t g.1 g.2, fun h => absurd h (by omega), (by first | rfl | trivial)⟩
        case measure => decide
    · clear hk
      have e0 := h0 (by omega)
      have e1 := h1 (by omega)
      have e2 := h2 (by omega)
      have E0 := Lib.hid e0
      have E1 := Lib.hid e1
      have E2 := Lib.hid e2
      clear h0 h1 h2 h3 e0 e1 e2
      have g3 : sm < 0 ∨ 2147483647 < sm ∨ (0 ≤ sm ∧ sm ≤ 2147483647) := by omega
      rcases g3 with g | g | g
      · have hf := Lib.hid (sm31_f (x := sm) (.inl g))
        go_wp2_with fail
        go_ret
        exact ⟨ret_bool (by unfold rgtS; simp [hf.out]), H1.out⟩
      · have hf := Lib.hid (sm31_f (x := sm) (.inr g))
        have g2 : 0 ≤ sm := by omega
        go_wp2_with fail
        go_ret
        exact ⟨ret_bool (by unfold rgtS; simp [hf.out]), H1.out⟩
      · have g1 := g.1
        have g2 := g.2
        have G := Lib.hid g
        clear g
        go_wp2_with fail
        go_roundw
        case rel =>
          have g := G.out
          exact ⟨4, rfl, ⟨by omega, by omega⟩, fun _ => E0.out, fun _ => E1.out, fun _ => E2.out, fun _ => sm31_t g.1 g.2, (by first | rfl | trivial)⟩
        case measure => decide
    · have e0 := h0 (by omega)
      have e1 := h1 (by omega)
      have e2 := h2 (by omega)
      have e3 := h3 (by omega)
      have HR := Lib.hid (show rgtS ⟨nx, ls, an, ac, rf, ad, mv, sm, sp, cl⟩ = (decide (nx ≤ 9223372036854775807) && decide (ls ≤ 9223372036854775807) && (an || decide (ls = 0)) && (!decide (sm = 0) || decide (sp = 0)) && (decide (ad = ByteArray.empty) || rightS ad)) by unfold rgtS; simp [e0, e1, e2, e3])
      clear h0 h1 h2 h3 e0 e1 e2 e3 hk
      have c1 : 9223372036854775808 ≤ (nx : Int) ∨ ¬ 9223372036854775808 ≤ (nx : Int) := by omega
      rcases c1 with c1 | c1
      · go_wp2_with fail
        go_ret
        exact ⟨ret_bool (by rw [HR.out, show decide (nx ≤ 9223372036854775807) = false from decide_eq_false (by omega)]; rfl), H1.out⟩
      have c2 : 9223372036854775808 ≤ (ls : Int) ∨ ¬ 9223372036854775808 ≤ (ls : Int) := by omega
      rcases c2 with c2 | c2
      · go_wp2_with fail
        go_ret
        exact ⟨ret_bool (by rw [HR.out, show decide (ls ≤ 9223372036854775807) = false from decide_eq_false (by omega)]; simp), H1.out⟩
      have hR1 : rgtS ⟨nx, ls, an, ac, rf, ad, mv, sm, sp, cl⟩ = ((an || decide (ls = 0)) && (!decide (sm = 0) || decide (sp = 0)) && (decide (ad = ByteArray.empty) || rightS ad)) := by rw [HR.out, show decide (nx ≤ 9223372036854775807) = true from decide_eq_true (by omega), show decide (ls ≤ 9223372036854775807) = true from decide_eq_true (by omega)]; simp
      replace HR := Lib.hid hR1
      clear hR1
      have cls : (ls : Int) = 0 ∨ ¬ (ls : Int) = 0 := by omega
      have csm : sm = 0 ∨ ¬ sm = 0 := by omega
      have csp : (sp : Int) = 0 ∨ ¬ (sp : Int) = 0 := by omega
      obtain ⟨tl, htl⟩ : ∃ tl, ((an || decide (ls = 0)) && (!decide (sm = 0) || decide (sp = 0))) = tl := ⟨_, rfl⟩
      rw [htl] at HR
      have HTL := Lib.hid htl
      clear htl
      by_cases had : ad = ByteArray.empty
      · subst had
        have hR2 : rgtS ⟨nx, ls, an, ac, rf, ByteArray.empty, mv, sm, sp, cl⟩ = tl := by rw [HR.out]; simp
        replace HR := Lib.hid hR2
        clear hR2 hR
        cases an <;> rcases cls with cls | cls <;> rcases csm with rfl | csm <;> rcases csp with csp | csp
        all_goals (go_wp2_with fail)
        all_goals go_ret
        all_goals (refine ⟨ret_bool ?_, by go_grown⟩; rw [HR.out, ← HTL.out]; first | (simp; done) | (simp [*]; done) | (simp; omega))
      · have HD := Lib.hid had
        have h1 : (ad.toList == ByteArray.empty.toList) = false := toList_ne had
        have h2 : ad.toList.isEmpty = false := by cases hl : ad.toList with | nil => exact absurd (toList_inj (a := ad) (b := ByteArray.empty) (by rw [hl, empty_toList])) had | cons x l => rfl
        have h3 : ad.toList ≠ [] := by intro hl; exact had (toList_inj (a := ad) (b := ByteArray.empty) (by rw [hl, empty_toList]))
        have hR2 : rgtS ⟨nx, ls, an, ac, rf, ad, mv, sm, sp, cl⟩ = (tl && rightS ad) := by rw [HR.out]; simp [had]
        replace HR := Lib.hid hR2
        clear hR2 had
        obtain ⟨rb, hrb⟩ : ∃ rb, rightS ad = rb := ⟨_, rfl⟩
        rw [hrb] at hR HR
        clear hrb
        cases an <;> rcases cls with cls | cls <;> rcases csm with rfl | csm <;> rcases csp with csp | csp
        all_goals (go_wp2_with (go_at_call 27; refine (hR _).mono ?_; rintro _ w1 ⟨rfl, rfl⟩))
        all_goals go_ret
        all_goals (refine ⟨ret_bool ?_, by go_grown⟩; rw [HR.out, ← HTL.out]; first | (simp; done) | (simp [*]; done) | (simp; omega))
end Go.Proofs.YtbifakhalnkfbaaDoor
