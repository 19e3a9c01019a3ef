import Derived.Test.YtgnegllehcpdpaaDoorRgt
import Derived.RegionTactic
namespace Go.Proofs.YtgnegllehcpdpaaDoor
open Go.ChangeShapes Go.WideShapes Go.ChangeAt Go.RowKit
set_option linter.unusedVariables false
set_option linter.unusedSimpArgs false
theorem rightB3 (e : Ev) (hk : e.kind = 3) (hw : 0 ≤ e.who ∧ e.who < 2) (hc : 1 ≤ e.code ∧ e.code ≤ 12) : rightB e = decide (e.seq = 0 ∧ e.bs = []) := decide_eq_decide.2 (by
  unfold rightP
  constructor
  · rintro ⟨_, h | h | h | h | h⟩
    · omega
    · omega
    · exact ⟨h.2.2.2.1, h.2.2.2.2⟩
    · omega
    · omega
  · rintro ⟨a, b⟩
    exact ⟨by omega, .inr (.inr (.inl ⟨hk, hc.1, hc.2, a, b⟩))⟩)
theorem rightB4 (e : Ev) (hk : e.kind = 4) (hw : 0 ≤ e.who ∧ e.who < 2) (hc : 1 ≤ e.code ∧ e.code ≤ 12) : rightB e = decide (e.seq = 0 ∧ e.bs = [] ∧ e.ad = ByteArray.empty) := decide_eq_decide.2 (by
  unfold rightP
  constructor
  · rintro ⟨_, h | h | h | h | h⟩
    · omega
    · omega
    · omega
    · exact ⟨h.2.2.2.1, h.2.2.2.2.1, h.2.2.2.2.2⟩
    · omega
  · rintro ⟨a, b, d⟩
    exact ⟨by omega, .inr (.inr (.inr (.inl ⟨hk, hc.1, hc.2, a, b, d⟩)))⟩)
theorem rightB5 (e : Ev) (hk : e.kind = 5) (hw : 0 ≤ e.who ∧ e.who < 2) : rightB e = decide (e.seq = 0 ∧ e.code = 0 ∧ e.bs = [] ∧ e.ad = ByteArray.empty) := decide_eq_decide.2 (by
  unfold rightP
  constructor
  · rintro ⟨_, h | h | h | h | h⟩
    · omega
    · omega
    · omega
    · omega
    · exact ⟨h.2.2.1, h.2.1, h.2.2.2.1, h.2.2.2.2⟩
  · rintro ⟨a, b, d, f⟩
    exact ⟨by omega, .inr (.inr (.inr (.inr ⟨hk, b, a, d, f⟩)))⟩)
theorem through {w W w1 : World} (h : Below w.heap.size w W) (hb : Below W.heap.size W w1) : Below w.heap.size w w1 := h.trans (hb.mono h.size)
theorem right_no_who (e : Ev) (w : World) (h : e.who < 0 ∨ 2 ≤ e.who) : Calls Tryd.prog 10 #[e.v] w fun r w' => r = .returned (.bool (rightB e)) ∧ Below w.heap.size w w' := by
  have hr : rightB e = false := decide_eq_false (by unfold rightP; rintro ⟨h1, _⟩; omega)
  rw [hr]
  clear hr
  obtain ⟨k, wh, sq, tk, cd, A, n, c, bs, ad⟩ := e
  unfold Ev.v
  simp only at h ⊢
  rcases h with h | h
  · go_enter Tryd.func10, Tryd.ntmps10
    go_wp2_with fail
    go_ret
    exact ⟨rfl, (Below.refl _ w).alloc (Nat.le_refl _) _⟩
  · go_enter Tryd.func10, Tryd.ntmps10
    go_wp2_with fail
    go_ret
    exact ⟨rfl, (Below.refl _ w).alloc (Nat.le_refl _) _⟩
set_option maxRecDepth 100000 in
set_option maxHeartbeats 2000000 in
theorem right_k1 (e : Ev) (w : World) (he : EvOk w e) (h0 : 0 ≤ e.who) (h2 : e.who < 2) (hk : e.kind = 1) : Calls Tryd.prog 10 #[e.v] w fun r w' => r = .returned (.bool (rightB e)) ∧ Below w.heap.size w w' := by
  have hm : e.code < 1 ∨ (1 ≤ e.code ∧ e.code ≤ 12) ∨ 12 < e.code := by omega
  obtain ⟨k, wh, sq, tk, cd, A, n, c, bs, ad⟩ := e
  simp only at h0 h2 hk hm
  clear he
  unfold Ev.v
  subst hk
  simp only
  have hr : rightB ⟨1, wh, sq, tk, cd, A, n, c, bs, ad⟩ = (cd == 0) := by rw [Bool.eq_iff_iff]; unfold rightB rightP; simp; omega
  rw [hr]
  clear hr
  rcases hm with hm | ⟨hm, hm2⟩ | hm
  · go_enter Tryd.func10, Tryd.ntmps10
    go_wp2_with fail
    all_goals go_ret
    all_goals exact ⟨ret_bool (by first | rfl | (simp; try omega)), by go_grown⟩
  · go_enter Tryd.func10, Tryd.ntmps10
    go_wp2_with fail
    all_goals go_ret
    all_goals exact ⟨ret_bool (by first | rfl | (simp; try omega)), by go_grown⟩
  · go_enter Tryd.func10, Tryd.ntmps10
    go_wp2_with fail
    all_goals go_ret
    all_goals exact ⟨ret_bool (by first | rfl | (simp; try omega)), by go_grown⟩
set_option maxRecDepth 100000 in
set_option maxHeartbeats 2000000 in
theorem right_k2 (e : Ev) (w : World) (he : EvOk w e) (h0 : 0 ≤ e.who) (h2 : e.who < 2) (hk : e.kind = 2) : Calls Tryd.prog 10 #[e.v] w fun r w' => r = .returned (.bool (rightB e)) ∧ Below w.heap.size w w' := by
  have hm : e.code < 1 ∨ (1 ≤ e.code ∧ e.code ≤ 12) ∨ 12 < e.code := by omega
  obtain ⟨k, wh, sq, tk, cd, A, n, c, bs, ad⟩ := e
  simp only at h0 h2 hk hm
  clear he
  unfold Ev.v
  subst hk
  simp only
  have hr : rightB ⟨2, wh, sq, tk, cd, A, n, c, bs, ad⟩ = (cd == 0) := by rw [Bool.eq_iff_iff]; unfold rightB rightP; simp; omega
  rw [hr]
  clear hr
  rcases hm with hm | ⟨hm, hm2⟩ | hm
  · go_enter Tryd.func10, Tryd.ntmps10
    go_wp2_with fail
    all_goals go_ret
    all_goals exact ⟨ret_bool (by first | rfl | (simp; try omega)), by go_grown⟩
  · go_enter Tryd.func10, Tryd.ntmps10
    go_wp2_with fail
    all_goals go_ret
    all_goals exact ⟨ret_bool (by first | rfl | (simp; try omega)), by go_grown⟩
  · go_enter Tryd.func10, Tryd.ntmps10
    go_wp2_with fail
    all_goals go_ret
    all_goals exact ⟨ret_bool (by first | rfl | (simp; try omega)), by go_grown⟩
set_option maxRecDepth 100000 in
set_option maxHeartbeats 2000000 in
theorem right_k3 (e : Ev) (w : World) (he : EvOk w e) (h0 : 0 ≤ e.who) (h2 : e.who < 2) (hk : e.kind = 3) : Calls Tryd.prog 10 #[e.v] w fun r w' => r = .returned (.bool (rightB e)) ∧ Below w.heap.size w w' := by
  have hm : e.code < 1 ∨ (1 ≤ e.code ∧ e.code ≤ 12) ∨ 12 < e.code := by omega
  have hsm : ∀ W, Below w.heap.size w W → Calls Tryd.prog 14 #[e.v, (plainEv e (e.code) e.ad).v] W fun r w' => r = .returned (.bool (decide (e.seq = 0 ∧ e.bs = []))) ∧ Below W.heap.size W w' := fun W hW => by
    have := same_any e (plainEv e (e.code) e.ad) W (he.below hW) (plain_ok (he.below hW) _ _ (he.adl))
    rw [plain_eq] at this
    rwa [show decide (e.seq = 0 ∧ e.bs = []) = decide (e.seq = 0 ∧ e.code = e.code ∧ e.bs = [] ∧ e.ad = e.ad) from decide_eq_decide.2 (by simp)]
  obtain ⟨k, wh, sq, tk, cd, A, n, c, bs, ad⟩ := e
  simp only at h0 h2 hk hm
  unfold plainEv at hsm
  simp only [Ev.v] at hsm
  clear he
  unfold Ev.v
  subst hk
  simp only
  obtain ⟨b, hb⟩ : ∃ b, decide (sq = 0 ∧ bs = []) = b := ⟨_, rfl⟩
  rw [hb] at hsm
  have HB := Lib.hid hb
  clear hb
  rcases hm with hm | ⟨hm, hm2⟩ | hm
  · go_enter Tryd.func10, Tryd.ntmps10
    go_wp2_with fail
    go_region
    all_goals (go_wp2_with fail)
    all_goals go_ret
    all_goals (refine ⟨ret_bool (decide_eq_false (by unfold rightP; rintro ⟨_, h | h | h | h | h⟩ <;> simp at h <;> omega)).symm, by go_grown⟩)
  · go_enter Tryd.func10, Tryd.ntmps10
    go_wp2_with fail
    go_region
    all_goals (go_wp2_with (go_at_call 14; refine (hsm _ (by first | (go_grown; done) | (go_grown; simp; done) | (go_grown; omega))).mono ?_; rintro _ w1 ⟨rfl, hb⟩; refine Hid.out ?_))
    all_goals (refine Lib.hid ?_)
    all_goals (go_wp2_with fail)
    all_goals go_ret
    all_goals (refine ⟨ret_bool ?_, ?_⟩)
    all_goals first | (rw [← HB.out]; exact (rightB3 ⟨3, wh, sq, tk, cd, A, n, c, bs, ad⟩ rfl ⟨h0, h2⟩ ⟨hm, hm2⟩).symm) | (refine through ?_ hb; go_grown)
  · go_enter Tryd.func10, Tryd.ntmps10
    go_wp2_with fail
    go_region
    all_goals (go_wp2_with fail)
    all_goals go_ret
    all_goals (refine ⟨ret_bool (decide_eq_false (by unfold rightP; rintro ⟨_, h | h | h | h | h⟩ <;> simp at h <;> omega)).symm, by go_grown⟩)
set_option maxRecDepth 100000 in
set_option maxHeartbeats 2000000 in
theorem right_k4 (e : Ev) (w : World) (he : EvOk w e) (h0 : 0 ≤ e.who) (h2 : e.who < 2) (hk : e.kind = 4) : Calls Tryd.prog 10 #[e.v] w fun r w' => r = .returned (.bool (rightB e)) ∧ Below w.heap.size w w' := by
  have hm : e.code < 1 ∨ (1 ≤ e.code ∧ e.code ≤ 12) ∨ 12 < e.code := by omega
  have hsm : ∀ W, Below w.heap.size w W → Calls Tryd.prog 14 #[e.v, (plainEv e (e.code) ByteArray.empty).v] W fun r w' => r = .returned (.bool (decide (e.seq = 0 ∧ e.bs = [] ∧ e.ad = ByteArray.empty))) ∧ Below W.heap.size W w' := fun W hW => by
    have := same_any e (plainEv e (e.code) ByteArray.empty) W (he.below hW) (plain_ok (he.below hW) _ _ (by unfold maxLen; decide))
    rw [plain_eq] at this
    rwa [show decide (e.seq = 0 ∧ e.bs = [] ∧ e.ad = ByteArray.empty) = decide (e.seq = 0 ∧ e.code = e.code ∧ e.bs = [] ∧ e.ad = ByteArray.empty) from decide_eq_decide.2 (by simp)]
  obtain ⟨k, wh, sq, tk, cd, A, n, c, bs, ad⟩ := e
  simp only at h0 h2 hk hm
  unfold plainEv at hsm
  simp only [Ev.v] at hsm
  clear he
  unfold Ev.v
  subst hk
  simp only
  obtain ⟨b, hb⟩ : ∃ b, decide (sq = 0 ∧ bs = [] ∧ ad = ByteArray.empty) = b := ⟨_, rfl⟩
  rw [hb] at hsm
  have HB := Lib.hid hb
  clear hb
  rcases hm with hm | ⟨hm, hm2⟩ | hm
  · go_enter Tryd.func10, Tryd.ntmps10
    go_wp2_with fail
    all_goals go_ret
    all_goals (refine ⟨ret_bool (decide_eq_false (by unfold rightP; rintro ⟨_, h | h | h | h | h⟩ <;> simp at h <;> omega)).symm, by go_grown⟩)
  · go_enter Tryd.func10, Tryd.ntmps10
    go_wp2_with (go_at_call 14; refine (hsm _ (by first | (go_grown; done) | (go_grown; simp; done) | (go_grown; omega))).mono ?_; rintro _ w1 ⟨rfl, hb⟩; refine Hid.out ?_)
    all_goals (refine Lib.hid ?_)
    all_goals (go_wp2_with fail)
    all_goals go_ret
    all_goals (refine ⟨ret_bool ?_, ?_⟩)
    all_goals first | (rw [← HB.out]; exact (rightB4 ⟨4, wh, sq, tk, cd, A, n, c, bs, ad⟩ rfl ⟨h0, h2⟩ ⟨hm, hm2⟩).symm) | (refine through ?_ hb; go_grown)
  · go_enter Tryd.func10, Tryd.ntmps10
    go_wp2_with fail
    all_goals go_ret
    all_goals (refine ⟨ret_bool (decide_eq_false (by unfold rightP; rintro ⟨_, h | h | h | h | h⟩ <;> simp at h <;> omega)).symm, by go_grown⟩)
set_option maxRecDepth 100000 in
set_option maxHeartbeats 2000000 in
theorem right_k5 (e : Ev) (w : World) (he : EvOk w e) (h0 : 0 ≤ e.who) (h2 : e.who < 2) (hk : e.kind = 5) : Calls Tryd.prog 10 #[e.v] w fun r w' => r = .returned (.bool (rightB e)) ∧ Below w.heap.size w w' := by
  have hm : e.code < 1 ∨ (1 ≤ e.code ∧ e.code ≤ 12) ∨ 12 < e.code := by omega
  have hsm : ∀ W, Below w.heap.size w W → Calls Tryd.prog 14 #[e.v, (plainEv e (0) ByteArray.empty).v] W fun r w' => r = .returned (.bool (decide (e.seq = 0 ∧ e.code = 0 ∧ e.bs = [] ∧ e.ad = ByteArray.empty))) ∧ Below W.heap.size W w' := fun W hW => by
    have := same_any e (plainEv e (0) ByteArray.empty) W (he.below hW) (plain_ok (he.below hW) _ _ (by unfold maxLen; decide))
    rw [plain_eq] at this
    rwa [show decide (e.seq = 0 ∧ e.code = 0 ∧ e.bs = [] ∧ e.ad = ByteArray.empty) = decide (e.seq = 0 ∧ e.code = 0 ∧ e.bs = [] ∧ e.ad = ByteArray.empty) from decide_eq_decide.2 (by simp)]
  obtain ⟨k, wh, sq, tk, cd, A, n, c, bs, ad⟩ := e
  simp only at h0 h2 hk hm
  unfold plainEv at hsm
  simp only [Ev.v] at hsm
  clear he
  unfold Ev.v
  subst hk
  simp only
  obtain ⟨b, hb⟩ : ∃ b, decide (sq = 0 ∧ cd = 0 ∧ bs = [] ∧ ad = ByteArray.empty) = b := ⟨_, rfl⟩
  rw [hb] at hsm
  have HB := Lib.hid hb
  clear hb
  rcases hm with hm | ⟨hm, hm2⟩ | hm
  · go_enter Tryd.func10, Tryd.ntmps10
    go_wp2_with (go_at_call 14; refine (hsm _ (by first | (go_grown; done) | (go_grown; simp; done) | (go_grown; omega))).mono ?_; rintro _ w1 ⟨rfl, hb⟩; refine Hid.out ?_)
    all_goals (refine Lib.hid ?_)
    all_goals (go_wp2_with fail)
    all_goals go_ret
    all_goals (refine ⟨ret_bool ?_, ?_⟩)
    all_goals first | (rw [← HB.out]; exact (rightB5 ⟨5, wh, sq, tk, cd, A, n, c, bs, ad⟩ rfl ⟨h0, h2⟩).symm) | (refine through ?_ hb; go_grown)
  · go_enter Tryd.func10, Tryd.ntmps10
    go_wp2_with (go_at_call 14; refine (hsm _ (by first | (go_grown; done) | (go_grown; simp; done) | (go_grown; omega))).mono ?_; rintro _ w1 ⟨rfl, hb⟩; refine Hid.out ?_)
    all_goals (refine Lib.hid ?_)
    all_goals (go_wp2_with fail)
    all_goals go_ret
    all_goals (refine ⟨ret_bool ?_, ?_⟩)
    all_goals first | (rw [← HB.out]; exact (rightB5 ⟨5, wh, sq, tk, cd, A, n, c, bs, ad⟩ rfl ⟨h0, h2⟩).symm) | (refine through ?_ hb; go_grown)
  · go_enter Tryd.func10, Tryd.ntmps10
    go_wp2_with (go_at_call 14; refine (hsm _ (by first | (go_grown; done) | (go_grown; simp; done) | (go_grown; omega))).mono ?_; rintro _ w1 ⟨rfl, hb⟩; refine Hid.out ?_)
    all_goals (refine Lib.hid ?_)
    all_goals (go_wp2_with fail)
    all_goals go_ret
    all_goals (refine ⟨ret_bool ?_, ?_⟩)
    all_goals first | (rw [← HB.out]; exact (rightB5 ⟨5, wh, sq, tk, cd, A, n, c, bs, ad⟩ rfl ⟨h0, h2⟩).symm) | (refine through ?_ hb; go_grown)
set_option maxRecDepth 100000 in
set_option maxHeartbeats 2000000 in
theorem right_kother (e : Ev) (w : World) (he : EvOk w e) (h0 : 0 ≤ e.who) (h2 : e.who < 2) (hk : e.kind ≠ 1 ∧ e.kind ≠ 2 ∧ e.kind ≠ 3 ∧ e.kind ≠ 4 ∧ e.kind ≠ 5) : Calls Tryd.prog 10 #[e.v] w fun r w' => r = .returned (.bool (rightB e)) ∧ Below w.heap.size w w' := by
  have hm : e.code < 1 ∨ (1 ≤ e.code ∧ e.code ≤ 12) ∨ 12 < e.code := by omega
  obtain ⟨k, wh, sq, tk, cd, A, n, c, bs, ad⟩ := e
  simp only at h0 h2 hk hm
  clear he
  unfold Ev.v
  obtain ⟨g1, g2, g3, g4, g5⟩ := hk
  simp only
  have e1 : (k == 1) = false := by simp; exact g1
  have e2 : (k == 2) = false := by simp; exact g2
  have e3 : (k == 3) = false := by simp; exact g3
  have e4 : (k == 4) = false := by simp; exact g4
  have e5 : (k == 5) = false := by simp; exact g5
  rcases hm with hm | ⟨hm, hm2⟩ | hm
  · go_enter Tryd.func10, Tryd.ntmps10
    go_wp2_with fail
    all_goals go_ret
    all_goals (refine ⟨ret_bool (decide_eq_false (by unfold rightP; rintro ⟨_, h | h | h | h | h⟩ <;> simp at h <;> omega)).symm, by go_grown⟩)
  · go_enter Tryd.func10, Tryd.ntmps10
    go_wp2_with fail
    all_goals go_ret
    all_goals (refine ⟨ret_bool (decide_eq_false (by unfold rightP; rintro ⟨_, h | h | h | h | h⟩ <;> simp at h <;> omega)).symm, by go_grown⟩)
  · go_enter Tryd.func10, Tryd.ntmps10
    go_wp2_with fail
    all_goals go_ret
    all_goals (refine ⟨ret_bool (decide_eq_false (by unfold rightP; rintro ⟨_, h | h | h | h | h⟩ <;> simp at h <;> omega)).symm, by go_grown⟩)
theorem right_any (e : Ev) (w : World) (he : EvOk w e) : Calls Tryd.prog 10 #[e.v] w fun r w' => r = .returned (.bool (rightB e)) ∧ Below w.heap.size w w' := by
  by_cases hw : e.who < 0 ∨ 2 ≤ e.who
  · exact right_no_who e w hw
  · by_cases h1 : e.kind = 1
    · exact right_k1 e w he (by omega) (by omega) h1
    by_cases h2 : e.kind = 2
    · exact right_k2 e w he (by omega) (by omega) h2
    by_cases h3 : e.kind = 3
    · exact right_k3 e w he (by omega) (by omega) h3
    by_cases h4 : e.kind = 4
    · exact right_k4 e w he (by omega) (by omega) h4
    by_cases h5 : e.kind = 5
    · exact right_k5 e w he (by omega) (by omega) h5
    exact right_kother e w he (by omega) (by omega) ⟨h1, h2, h3, h4, h5⟩
end Go.Proofs.YtgnegllehcpdpaaDoor
