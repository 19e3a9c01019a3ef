import Derived.Test.YthgbgkpchchicaaTld
namespace Go.Proofs.Ythgbgkpchchicaa
open Go.ChangeShapes Go.WideShapes Go.ChangeAt Go.RowKit
set_option linter.unusedVariables false
set_option linter.unusedSimpArgs false
def dgB (a b : Dg) : Bool := decide (a.id = b.id ∧ a.fr = b.fr ∧ a.to = b.to ∧ a.bs = b.bs)

set_option maxRecDepth 100000 in
set_option maxHeartbeats 4000000 in
theorem dsame_any (a b : Dg) (w : World) (ha : DgOk w a) (hb : DgOk w b) : Calls Try.prog 22 #[a.v, b.v] w fun e w' => e = .returned (.bool (dgB a b)) ∧ Below w.heap.size w w' := by
  have heq : ∀ W, Below w.heap.size w W → Calls Try.prog 30 #[.slice a.A a.n a.c, .slice b.A b.n b.c] W fun e w' => e = .returned (.bool (decide (a.bs = b.bs))) ∧ Below W.heap.size W w' := fun W h => equal_below a.A b.A a.n a.c b.n b.c a.bs b.bs W (ha.bys.below h) (hb.bys.below h) ha.len hb.len
  obtain ⟨ai, af, at_, aA, an, ac, abs_⟩ := a
  obtain ⟨bi, bf, bt, bA, bn, bc, bbs⟩ := b
  unfold Dg.v dgB
  simp only at heq ⊢
  have H0 := Lib.hid (show Below w.heap.size w ((w.alloc (.cells #[.int .i64 ai, .string af, .string at_, .slice aA an ac] 32)).alloc (.cells #[.int .i64 bi, .string bf, .string bt, .slice bA bn bc] 32)) from ((Below.refl _ w).alloc (Nat.le_refl _) _).alloc (by simp) _)
  clear ha hb
  by_cases h0 : ai = bi
  case neg =>
    have HN := Lib.hid h0
    have hne : (ai == bi) = false := by simp [HN.out]
    clear h0
    go_enter Try.func22, Try.ntmps22
    go_wp2_with fail
    go_ret
    exact ⟨ret_bool (by simp [HN.out]), H0.out⟩
  subst h0
  by_cases h1 : af = bf
  case neg =>
    have HN := Lib.hid h1
    have hne := toList_ne h1
    clear h1
    go_enter Try.func22, Try.ntmps22
    go_wp2_with fail
    go_ret
    exact ⟨ret_bool (by simp [HN.out]), H0.out⟩
  subst h1
  by_cases h2 : at_ = bt
  case neg =>
    have HN := Lib.hid h2
    have hne := toList_ne h2
    clear h2
    go_enter Try.func22, Try.ntmps22
    go_wp2_with fail
    go_ret
    exact ⟨ret_bool (by simp [HN.out]), H0.out⟩
  subst h2
  by_cases h3 : abs_ = bbs
  case neg =>
    have HN := Lib.hid h3
    have hd : decide (abs_ = bbs) = false := by simp [HN.out]
    rw [hd] at heq
    clear hd
    clear h3
    go_enter Try.func22, Try.ntmps22
    go_wp2_with (go_at_call 30; refine (heq _ H0.out).mono ?_; rintro _ w1 ⟨rfl, hb⟩; refine Hid.out ?_)
    refine Lib.hid ?_
    have H1 := Lib.hid (H0.out.trans (hb.mono H0.out.size))
    clear hb heq
    go_wp2_with fail
    go_ret
    exact ⟨ret_bool (by simp [HN.out]), H1.out⟩
  subst h3
  have hd : decide (abs_ = abs_) = true := by simp
  rw [hd] at heq
  clear hd
  go_enter Try.func22, Try.ntmps22
  go_wp2_with (go_at_call 30; refine (heq _ H0.out).mono ?_; rintro _ w1 ⟨rfl, hb⟩; refine Hid.out ?_)
  refine Lib.hid ?_
  have H1 := Lib.hid (H0.out.trans (hb.mono H0.out.size))
  clear hb heq
  go_wp2_with fail
  go_ret
  exact ⟨ret_bool (by simp), H1.out⟩
set_option maxRecDepth 100000 in
set_option maxHeartbeats 4000000 in
theorem lsame_any (a b : Dg) (w : World) (ha : DgOk w a) (hb : DgOk w b) : Calls Try.prog 20 #[a.v, b.v] w fun e w' => e = .returned (.bool (dgB a b)) ∧ Below w.heap.size w w' := by
  have heq : ∀ W, Below w.heap.size w W → Calls Try.prog 12 #[.slice a.A a.n a.c, .slice b.A b.n b.c] W fun e w' => e = .returned (.bool (decide (a.bs = b.bs))) ∧ Below W.heap.size W w' := fun W h => same_below a.A b.A a.n a.c b.n b.c a.bs b.bs W (ha.bys.below h) (hb.bys.below h) ha.len hb.len
  obtain ⟨ai, af, at_, aA, an, ac, abs_⟩ := a
  obtain ⟨bi, bf, bt, bA, bn, bc, bbs⟩ := b
  unfold Dg.v dgB
  simp only at heq ⊢
  have H0 := Lib.hid (show Below w.heap.size w ((w.alloc (.cells #[.int .i64 ai, .string af, .string at_, .slice aA an ac] 32)).alloc (.cells #[.int .i64 bi, .string bf, .string bt, .slice bA bn bc] 49)) from ((Below.refl _ w).alloc (Nat.le_refl _) _).alloc (by simp) _)
  clear ha hb
  by_cases h0 : ai = bi
  case neg =>
    have HN := Lib.hid h0
    have hne : (ai == bi) = false := by simp [HN.out]
    clear h0
    go_enter Try.func20, Try.ntmps20
    go_wp2_with fail
    go_ret
    exact ⟨ret_bool (by simp [HN.out]), H0.out⟩
  subst h0
  by_cases h1 : af = bf
  case neg =>
    have HN := Lib.hid h1
    have hne := toList_ne h1
    clear h1
    go_enter Try.func20, Try.ntmps20
    go_wp2_with fail
    go_ret
    exact ⟨ret_bool (by simp [HN.out]), H0.out⟩
  subst h1
  by_cases h2 : at_ = bt
  case neg =>
    have HN := Lib.hid h2
    have hne := toList_ne h2
    clear h2
    go_enter Try.func20, Try.ntmps20
    go_wp2_with fail
    go_ret
    exact ⟨ret_bool (by simp [HN.out]), H0.out⟩
  subst h2
  by_cases h3 : abs_ = bbs
  case neg =>
    have HN := Lib.hid h3
    have hd : decide (abs_ = bbs) = false := by simp [HN.out]
    rw [hd] at heq
    clear hd
    clear h3
    go_enter Try.func20, Try.ntmps20
    go_wp2_with (go_at_call 12; refine (heq _ H0.out).mono ?_; rintro _ w1 ⟨rfl, hb⟩; refine Hid.out ?_)
    refine Lib.hid ?_
    have H1 := Lib.hid (H0.out.trans (hb.mono H0.out.size))
    clear hb heq
    go_wp2_with fail
    go_ret
    exact ⟨ret_bool (by simp [HN.out]), H1.out⟩
  subst h3
  have hd : decide (abs_ = abs_) = true := by simp
  rw [hd] at heq
  clear hd
  go_enter Try.func20, Try.ntmps20
  go_wp2_with (go_at_call 12; refine (heq _ H0.out).mono ?_; rintro _ w1 ⟨rfl, hb⟩; refine Hid.out ?_)
  refine Lib.hid ?_
  have H1 := Lib.hid (H0.out.trans (hb.mono H0.out.size))
  clear hb heq
  go_wp2_with fail
  go_ret
  exact ⟨ret_bool (by simp), H1.out⟩
theorem dgB_self (a : Dg) : dgB a a = true := by simp [dgB]
end Go.Proofs.Ythgbgkpchchicaa
