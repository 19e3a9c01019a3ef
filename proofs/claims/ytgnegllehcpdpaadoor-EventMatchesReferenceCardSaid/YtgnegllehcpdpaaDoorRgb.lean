import Derived.Test.YtgnegllehcpdpaaDoorRga
namespace Go.Proofs.YtgnegllehcpdpaaDoor
open Go.ChangeShapes Go.WideShapes Go.ChangeAt Go.RowKit
set_option linter.unusedVariables false
set_option linter.unusedSimpArgs false
theorem empty_toList : ByteArray.empty.toList = [] := by rw [ByteArray.toList_eq]; rfl
theorem rightB_no {e : Ev} (h : ¬ rightP e) : rightB e = false := decide_eq_false h
theorem rightB_code {e : Ev} (hw : e.who = 0 ∨ e.who = 1) (h : e.kind = 1 ∨ e.kind = 2 ∨ (e.kind = 5 ∧ e.seq = 0 ∧ e.bs = [] ∧ e.ad = ByteArray.empty)) : rightB e = (e.code == 0) := by
  rw [Bool.eq_iff_iff]
  simp only [rightB, decide_eq_true_eq, beq_iff_eq]
  unfold rightP
  constructor
  · rintro ⟨_, h' | h' | h' | h' | h'⟩ <;> omega
  · intro hc
    refine ⟨hw, ?_⟩
    rcases h with h | h | ⟨h, a, b, d⟩
    · exact .inl ⟨h, hc⟩
    · exact .inr (.inl ⟨h, hc⟩)
    · exact .inr (.inr (.inr (.inr ⟨h, hc, a, b, d⟩)))
theorem rightB_yes {e : Ev} (hw : e.who = 0 ∨ e.who = 1) (hc : 1 ≤ e.code ∧ e.code ≤ 12) (hs : e.seq = 0) (hb : e.bs = []) (h : e.kind = 3 ∨ (e.kind = 4 ∧ e.ad = ByteArray.empty)) : rightB e = true := by
  simp only [rightB, decide_eq_true_eq]
  refine ⟨hw, ?_⟩
  rcases h with h | ⟨h, a⟩
  · exact .inr (.inr (.inl ⟨h, hc.1, hc.2, hs, hb⟩))
  · exact .inr (.inr (.inr (.inl ⟨h, hc.1, hc.2, hs, hb, a⟩)))
theorem rright_who (e : Ev) (w : World) (h0 : e.who ≠ 0) (h1 : e.who ≠ 1) : Calls Tryd.prog 11 #[e.v] w fun r w' => r = .returned (.bool (rightB e)) ∧ Below w.heap.size w w' := by
  rw [rightB_no (by unfold rightP; rintro ⟨h, _⟩; omega)]
  obtain ⟨k, wh, sq, tk, cd, A, n, c, bs, ad⟩ := e
  unfold Ev.v
  simp only at h0 h1 ⊢
  have g0 : (wh != 0) = true := by simp; exact h0
  have g1 : (wh != 1) = true := by simp; exact h1
  have g2 : (wh == 0) = false := by simp; exact h0
  have g3 : (wh == 1) = false := by simp; exact h1
  go_enter Tryd.func11, Tryd.ntmps11
  go_wp2_with fail
  go_ret
  exact ⟨ret_bool (by simp), (Below.refl _ w).alloc (Nat.le_refl _) _⟩
set_option maxRecDepth 100000 in
set_option maxHeartbeats 2000000 in
theorem rright_0_1 (e : Ev) (w : World) (hn : e.bs.length = e.n) (hw : e.who = 0) (hk : e.kind = 1) : Calls Tryd.prog 11 #[e.v] w fun r w' => r = .returned (.bool (rightB e)) ∧ Below w.heap.size w w' := by
  obtain ⟨k, wh, sq, tk, cd, A, n, c, bs, ad⟩ := e
  unfold Ev.v
  simp only at hn hw hk ⊢
  subst hw
  subst hk
  clear hn
  rw [rightB_code (.inl rfl) (.inl rfl)]
  go_enter Tryd.func11, Tryd.ntmps11
  go_wp2_with fail
  go_ret
  exact ⟨ret_bool (by first | rfl | (simp; done) | (simp; omega)), (Below.refl _ w).alloc (Nat.le_refl _) _⟩
set_option maxRecDepth 100000 in
set_option maxHeartbeats 2000000 in
theorem rright_0_2 (e : Ev) (w : World) (hn : e.bs.length = e.n) (hw : e.who = 0) (hk : e.kind = 2) : Calls Tryd.prog 11 #[e.v] w fun r w' => r = .returned (.bool (rightB e)) ∧ Below w.heap.size w w' := by
  obtain ⟨k, wh, sq, tk, cd, A, n, c, bs, ad⟩ := e
  unfold Ev.v
  simp only at hn hw hk ⊢
  subst hw
  subst hk
  clear hn
  rw [rightB_code (.inl rfl) (.inr (.inl rfl))]
  go_enter Tryd.func11, Tryd.ntmps11
  go_wp2_with fail
  go_ret
  exact ⟨ret_bool (by first | rfl | (simp; done) | (simp; omega)), (Below.refl _ w).alloc (Nat.le_refl _) _⟩
set_option maxRecDepth 100000 in
set_option maxHeartbeats 2000000 in
theorem rright_0_3 (e : Ev) (w : World) (hn : e.bs.length = e.n) (hw : e.who = 0) (hk : e.kind = 3) : Calls Tryd.prog 11 #[e.v] w fun r w' => r = .returned (.bool (rightB e)) ∧ Below w.heap.size w w' := by
  obtain ⟨k, wh, sq, tk, cd, A, n, c, bs, ad⟩ := e
  unfold Ev.v
  simp only at hn hw hk ⊢
  subst hw
  subst hk
  by_cases hs : sq = 0
  case neg =>
    have gs : (sq != 0) = true := by simp; exact hs
    have gs2 : (sq == 0) = false := by simp; exact hs
    clear hn
    rw [rightB_no (by unfold rightP; rintro ⟨_, h | h | h | h | h⟩ <;> simp at h <;> omega)]
    go_enter Tryd.func11, Tryd.ntmps11
    go_wp2_with fail
    go_ret
    exact ⟨ret_bool (by first | rfl | (simp; done) | (simp; omega)), (Below.refl _ w).alloc (Nat.le_refl _) _⟩
  subst hs
  by_cases h0 : n = 0
  case neg =>
    have hp : 0 < n := by omega
    have hp2 : (0 : Int) < (n : Int) := by omega
    have hne : bs ≠ [] := by rintro rfl; simp at hn; omega
    have HNE := Lib.hid hne
    clear hn hne h0
    rw [rightB_no (by unfold rightP; rintro ⟨_, h | h | h | h | h⟩ <;> simp at h <;> (first | omega | exact absurd h.2.2.2 HNE.out | exact absurd h.2.2.2.1 HNE.out | exact absurd h.2.2.1 HNE.out | exact absurd h.2.1 HNE.out | exact absurd h.1 HNE.out | exact absurd h HNE.out | (obtain ⟨h1, h2⟩ := h; simp_all [HNE.out])))]
    go_enter Tryd.func11, Tryd.ntmps11
    go_wp2_with fail
    go_ret
    exact ⟨ret_bool (by first | rfl | (simp; done) | (simp; omega)), (Below.refl _ w).alloc (Nat.le_refl _) _⟩
  subst h0
  obtain rfl := List.length_eq_zero_iff.1 hn
  clear hn
  have hm : cd < 1 ∨ (1 ≤ cd ∧ cd ≤ 12) ∨ 12 < cd := by omega
  rcases hm with hm | ⟨hm, hm2⟩ | hm
  ·
    rw [rightB_no (by unfold rightP; rintro ⟨_, h | h | h | h | h⟩ <;> simp at h <;> omega)]
    go_enter Tryd.func11, Tryd.ntmps11
    go_wp2_with fail
    go_ret
    exact ⟨ret_bool (by first | rfl | (simp; done) | (simp; omega)), (Below.refl _ w).alloc (Nat.le_refl _) _⟩
  ·
    rw [rightB_yes (.inl rfl) ⟨hm, hm2⟩ rfl rfl (.inl rfl)]
    go_enter Tryd.func11, Tryd.ntmps11
    go_wp2_with fail
    go_ret
    exact ⟨ret_bool (by first | rfl | (simp; done) | (simp; omega)), (Below.refl _ w).alloc (Nat.le_refl _) _⟩
  ·
    rw [rightB_no (by unfold rightP; rintro ⟨_, h | h | h | h | h⟩ <;> simp at h <;> omega)]
    go_enter Tryd.func11, Tryd.ntmps11
    go_wp2_with fail
    go_ret
    exact ⟨ret_bool (by first | rfl | (simp; done) | (simp; omega)), (Below.refl _ w).alloc (Nat.le_refl _) _⟩
set_option maxRecDepth 100000 in
set_option maxHeartbeats 2000000 in
theorem rright_0_4 (e : Ev) (w : World) (hn : e.bs.length = e.n) (hw : e.who = 0) (hk : e.kind = 4) : Calls Tryd.prog 11 #[e.v] w fun r w' => r = .returned (.bool (rightB e)) ∧ Below w.heap.size w w' := by
  obtain ⟨k, wh, sq, tk, cd, A, n, c, bs, ad⟩ := e
  unfold Ev.v
  simp only at hn hw hk ⊢
  subst hw
  subst hk
  by_cases hs : sq = 0
  case neg =>
    have gs : (sq != 0) = true := by simp; exact hs
    have gs2 : (sq == 0) = false := by simp; exact hs
    clear hn
    rw [rightB_no (by unfold rightP; rintro ⟨_, h | h | h | h | h⟩ <;> simp at h <;> omega)]
    go_enter Tryd.func11, Tryd.ntmps11
    go_wp2_with fail
    go_ret
    exact ⟨ret_bool (by first | rfl | (simp; done) | (simp; omega)), (Below.refl _ w).alloc (Nat.le_refl _) _⟩
  subst hs
  by_cases h0 : n = 0
  case neg =>
    have hp : 0 < n := by omega
    have hp2 : (0 : Int) < (n : Int) := by omega
    have hne : bs ≠ [] := by rintro rfl; simp at hn; omega
    have HNE := Lib.hid hne
    clear hn hne h0
    rw [rightB_no (by unfold rightP; rintro ⟨_, h | h | h | h | h⟩ <;> simp at h <;> (first | omega | exact absurd h.2.2.2 HNE.out | exact absurd h.2.2.2.1 HNE.out | exact absurd h.2.2.1 HNE.out | exact absurd h.2.1 HNE.out | exact absurd h.1 HNE.out | exact absurd h HNE.out | (obtain ⟨h1, h2⟩ := h; simp_all [HNE.out])))]
    go_enter Tryd.func11, Tryd.ntmps11
    go_wp2_with fail
    go_ret
    exact ⟨ret_bool (by first | rfl | (simp; done) | (simp; omega)), (Below.refl _ w).alloc (Nat.le_refl _) _⟩
  subst h0
  obtain rfl := List.length_eq_zero_iff.1 hn
  clear hn
  by_cases ha : ad = ByteArray.empty
  case neg =>
    have HA := Lib.hid ha
    have ga : (ad.toList == ByteArray.empty.toList) = false := toList_ne ha
    have ga2 : ad.toList.isEmpty = false := by cases hl : ad.toList with | nil => exact absurd (toList_inj (a := ad) (b := ByteArray.empty) (by rw [hl, empty_toList])) ha | cons x l => rfl
    have ga3 : ad.toList ≠ [] := by intro hl; exact ha (toList_inj (a := ad) (b := ByteArray.empty) (by rw [hl, empty_toList]))
    clear ha
    rw [rightB_no (by unfold rightP; rintro ⟨_, h | h | h | h | h⟩ <;> simp at h <;> (first | omega | exact absurd h.2.2 HA.out | exact absurd h.2 HA.out | exact absurd h HA.out | simp_all [HA.out]))]
    go_enter Tryd.func11, Tryd.ntmps11
    go_wp2_with fail
    go_ret
    exact ⟨ret_bool (by first | rfl | (simp; done) | (simp; omega)), (Below.refl _ w).alloc (Nat.le_refl _) _⟩
  subst ha
  have hm : cd < 1 ∨ (1 ≤ cd ∧ cd ≤ 12) ∨ 12 < cd := by omega
  rcases hm with hm | ⟨hm, hm2⟩ | hm
  ·
    rw [rightB_no (by unfold rightP; rintro ⟨_, h | h | h | h | h⟩ <;> simp at h <;> omega)]
    go_enter Tryd.func11, Tryd.ntmps11
    go_wp2_with fail
    go_ret
    exact ⟨ret_bool (by first | rfl | (simp; done) | (simp; omega)), (Below.refl _ w).alloc (Nat.le_refl _) _⟩
  ·
    rw [rightB_yes (.inl rfl) ⟨hm, hm2⟩ rfl rfl (.inr ⟨rfl, rfl⟩)]
    go_enter Tryd.func11, Tryd.ntmps11
    go_wp2_with fail
    go_ret
    exact ⟨ret_bool (by first | rfl | (simp; done) | (simp; omega)), (Below.refl _ w).alloc (Nat.le_refl _) _⟩
  ·
    rw [rightB_no (by unfold rightP; rintro ⟨_, h | h | h | h | h⟩ <;> simp at h <;> omega)]
    go_enter Tryd.func11, Tryd.ntmps11
    go_wp2_with fail
    go_ret
    exact ⟨ret_bool (by first | rfl | (simp; done) | (simp; omega)), (Below.refl _ w).alloc (Nat.le_refl _) _⟩
set_option maxRecDepth 100000 in
set_option maxHeartbeats 2000000 in
theorem rright_0_5 (e : Ev) (w : World) (hn : e.bs.length = e.n) (hw : e.who = 0) (hk : e.kind = 5) : Calls Tryd.prog 11 #[e.v] w fun r w' => r = .returned (.bool (rightB e)) ∧ Below w.heap.size w w' := by
  obtain ⟨k, wh, sq, tk, cd, A, n, c, bs, ad⟩ := e
  unfold Ev.v
  simp only at hn hw hk ⊢
  subst hw
  subst hk
  by_cases hs : sq = 0
  case neg =>
    have gs : (sq != 0) = true := by simp; exact hs
    have gs2 : (sq == 0) = false := by simp; exact hs
    clear hn
    rw [rightB_no (by unfold rightP; rintro ⟨_, h | h | h | h | h⟩ <;> simp at h <;> omega)]
    go_enter Tryd.func11, Tryd.ntmps11
    go_wp2_with fail
    go_ret
    exact ⟨ret_bool (by first | rfl | (simp; done) | (simp; omega)), (Below.refl _ w).alloc (Nat.le_refl _) _⟩
  subst hs
  by_cases h0 : n = 0
  case neg =>
    have hp : 0 < n := by omega
    have hp2 : (0 : Int) < (n : Int) := by omega
    have hne : bs ≠ [] := by rintro rfl; simp at hn; omega
    have HNE := Lib.hid hne
    clear hn hne h0
    rw [rightB_no (by unfold rightP; rintro ⟨_, h | h | h | h | h⟩ <;> simp at h <;> (first | omega | exact absurd h.2.2.2 HNE.out | exact absurd h.2.2.2.1 HNE.out | exact absurd h.2.2.1 HNE.out | exact absurd h.2.1 HNE.out | exact absurd h.1 HNE.out | exact absurd h HNE.out | (obtain ⟨h1, h2⟩ := h; simp_all [HNE.out])))]
    go_enter Tryd.func11, Tryd.ntmps11
    go_wp2_with fail
    go_ret
    exact ⟨ret_bool (by first | rfl | (simp; done) | (simp; omega)), (Below.refl _ w).alloc (Nat.le_refl _) _⟩
  subst h0
  obtain rfl := List.length_eq_zero_iff.1 hn
  clear hn
  by_cases ha : ad = ByteArray.empty
  case neg =>
    have HA := Lib.hid ha
    have ga : (ad.toList == ByteArray.empty.toList) = false := toList_ne ha
    have ga2 : ad.toList.isEmpty = false := by cases hl : ad.toList with | nil => exact absurd (toList_inj (a := ad) (b := ByteArray.empty) (by rw [hl, empty_toList])) ha | cons x l => rfl
    have ga3 : ad.toList ≠ [] := by intro hl; exact ha (toList_inj (a := ad) (b := ByteArray.empty) (by rw [hl, empty_toList]))
    clear ha
    rw [rightB_no (by unfold rightP; rintro ⟨_, h | h | h | h | h⟩ <;> simp at h <;> (first | omega | exact absurd h.2.2 HA.out | exact absurd h.2 HA.out | exact absurd h HA.out | simp_all [HA.out]))]
    go_enter Tryd.func11, Tryd.ntmps11
    go_wp2_with fail
    go_ret
    exact ⟨ret_bool (by first | rfl | (simp; done) | (simp; omega)), (Below.refl _ w).alloc (Nat.le_refl _) _⟩
  subst ha
  rw [rightB_code (.inl rfl) (.inr (.inr ⟨rfl, rfl, rfl, rfl⟩))]
  go_enter Tryd.func11, Tryd.ntmps11
  go_wp2_with fail
  go_ret
  exact ⟨ret_bool (by first | rfl | (simp; done) | (simp; omega)), (Below.refl _ w).alloc (Nat.le_refl _) _⟩
set_option maxRecDepth 100000 in
set_option maxHeartbeats 2000000 in
theorem rright_0_lo (e : Ev) (w : World) (hn : e.bs.length = e.n) (hw : e.who = 0) (hk : e.kind < 1) : Calls Tryd.prog 11 #[e.v] w fun r w' => r = .returned (.bool (rightB e)) ∧ Below w.heap.size w w' := by
  obtain ⟨k, wh, sq, tk, cd, A, n, c, bs, ad⟩ := e
  unfold Ev.v
  simp only at hn hw hk ⊢
  subst hw
  clear hn
  rw [rightB_no (by unfold rightP; rintro ⟨_, h | h | h | h | h⟩ <;> simp at h <;> omega)]
  go_enter Tryd.func11, Tryd.ntmps11
  go_wp2_with fail
  go_ret
  exact ⟨ret_bool (by first | rfl | (simp; done) | (simp; omega)), (Below.refl _ w).alloc (Nat.le_refl _) _⟩
set_option maxRecDepth 100000 in
set_option maxHeartbeats 2000000 in
theorem rright_0_hi (e : Ev) (w : World) (hn : e.bs.length = e.n) (hw : e.who = 0) (hk : 5 < e.kind) : Calls Tryd.prog 11 #[e.v] w fun r w' => r = .returned (.bool (rightB e)) ∧ Below w.heap.size w w' := by
  obtain ⟨k, wh, sq, tk, cd, A, n, c, bs, ad⟩ := e
  unfold Ev.v
  simp only at hn hw hk ⊢
  subst hw
  clear hn
  rw [rightB_no (by unfold rightP; rintro ⟨_, h | h | h | h | h⟩ <;> simp at h <;> omega)]
  go_enter Tryd.func11, Tryd.ntmps11
  go_wp2_with fail
  go_ret
  exact ⟨ret_bool (by first | rfl | (simp; done) | (simp; omega)), (Below.refl _ w).alloc (Nat.le_refl _) _⟩
set_option maxRecDepth 100000 in
set_option maxHeartbeats 2000000 in
theorem rright_1_1 (e : Ev) (w : World) (hn : e.bs.length = e.n) (hw : e.who = 1) (hk : e.kind = 1) : Calls Tryd.prog 11 #[e.v] w fun r w' => r = .returned (.bool (rightB e)) ∧ Below w.heap.size w w' := by
  obtain ⟨k, wh, sq, tk, cd, A, n, c, bs, ad⟩ := e
  unfold Ev.v
  simp only at hn hw hk ⊢
  subst hw
  subst hk
  clear hn
  rw [rightB_code (.inr rfl) (.inl rfl)]
  go_enter Tryd.func11, Tryd.ntmps11
  go_wp2_with fail
  go_ret
  exact ⟨ret_bool (by first | rfl | (simp; done) | (simp; omega)), (Below.refl _ w).alloc (Nat.le_refl _) _⟩
set_option maxRecDepth 100000 in
set_option maxHeartbeats 2000000 in
theorem rright_1_2 (e : Ev) (w : World) (hn : e.bs.length = e.n) (hw : e.who = 1) (hk : e.kind = 2) : Calls Tryd.prog 11 #[e.v] w fun r w' => r = .returned (.bool (rightB e)) ∧ Below w.heap.size w w' := by
  obtain ⟨k, wh, sq, tk, cd, A, n, c, bs, ad⟩ := e
  unfold Ev.v
  simp only at hn hw hk ⊢
  subst hw
  subst hk
  clear hn
  rw [rightB_code (.inr rfl) (.inr (.inl rfl))]
  go_enter Tryd.func11, Tryd.ntmps11
  go_wp2_with fail
  go_ret
  exact ⟨ret_bool (by first | rfl | (simp; done) | (simp; omega)), (Below.refl _ w).alloc (Nat.le_refl _) _⟩
set_option maxRecDepth 100000 in
set_option maxHeartbeats 2000000 in
theorem rright_1_3 (e : Ev) (w : World) (hn : e.bs.length = e.n) (hw : e.who = 1) (hk : e.kind = 3) : Calls Tryd.prog 11 #[e.v] w fun r w' => r = .returned (.bool (rightB e)) ∧ Below w.heap.size w w' := by
  obtain ⟨k, wh, sq, tk, cd, A, n, c, bs, ad⟩ := e
  unfold Ev.v
  simp only at hn hw hk ⊢
  subst hw
  subst hk
  by_cases hs : sq = 0
  case neg =>
    have gs : (sq != 0) = true := by simp; exact hs
    have gs2 : (sq == 0) = false := by simp; exact hs
    clear hn
    rw [rightB_no (by unfold rightP; rintro ⟨_, h | h | h | h | h⟩ <;> simp at h <;> omega)]
    go_enter Tryd.func11, Tryd.ntmps11
    go_wp2_with fail
    go_ret
    exact ⟨ret_bool (by first | rfl | (simp; done) | (simp; omega)), (Below.refl _ w).alloc (Nat.le_refl _) _⟩
  subst hs
  by_cases h0 : n = 0
  case neg =>
    have hp : 0 < n := by omega
    have hp2 : (0 : Int) < (n : Int) := by omega
    have hne : bs ≠ [] := by rintro rfl; simp at hn; omega
    have HNE := Lib.hid hne
    clear hn hne h0
    rw [rightB_no (by unfold rightP; rintro ⟨_, h | h | h | h | h⟩ <;> simp at h <;> (first | omega | exact absurd h.2.2.2 HNE.out | exact absurd h.2.2.2.1 HNE.out | exact absurd h.2.2.1 HNE.out | exact absurd h.2.1 HNE.out | exact absurd h.1 HNE.out | exact absurd h HNE.out | (obtain ⟨h1, h2⟩ := h; simp_all [HNE.out])))]
    go_enter Tryd.func11, Tryd.ntmps11
    go_wp2_with fail
    go_ret
    exact ⟨ret_bool (by first | rfl | (simp; done) | (simp; omega)), (Below.refl _ w).alloc (Nat.le_refl _) _⟩
  subst h0
  obtain rfl := List.length_eq_zero_iff.1 hn
  clear hn
  have hm : cd < 1 ∨ (1 ≤ cd ∧ cd ≤ 12) ∨ 12 < cd := by omega
  rcases hm with hm | ⟨hm, hm2⟩ | hm
  ·
    rw [rightB_no (by unfold rightP; rintro ⟨_, h | h | h | h | h⟩ <;> simp at h <;> omega)]
    go_enter Tryd.func11, Tryd.ntmps11
    go_wp2_with fail
    go_ret
    exact ⟨ret_bool (by first | rfl | (simp; done) | (simp; omega)), (Below.refl _ w).alloc (Nat.le_refl _) _⟩
  ·
    rw [rightB_yes (.inr rfl) ⟨hm, hm2⟩ rfl rfl (.inl rfl)]
    go_enter Tryd.func11, Tryd.ntmps11
    go_wp2_with fail
    go_ret
    exact ⟨ret_bool (by first | rfl | (simp; done) | (simp; omega)), (Below.refl _ w).alloc (Nat.le_refl _) _⟩
  ·
    rw [rightB_no (by unfold rightP; rintro ⟨_, h | h | h | h | h⟩ <;> simp at h <;> omega)]
    go_enter Tryd.func11, Tryd.ntmps11
    go_wp2_with fail
    go_ret
    exact ⟨ret_bool (by first | rfl | (simp; done) | (simp; omega)), (Below.refl _ w).alloc (Nat.le_refl _) _⟩
set_option maxRecDepth 100000 in
set_option maxHeartbeats 2000000 in
theorem rright_1_4 (e : Ev) (w : World) (hn : e.bs.length = e.n) (hw : e.who = 1) (hk : e.kind = 4) : Calls Tryd.prog 11 #[e.v] w fun r w' => r = .returned (.bool (rightB e)) ∧ Below w.heap.size w w' := by
  obtain ⟨k, wh, sq, tk, cd, A, n, c, bs, ad⟩ := e
  unfold Ev.v
  simp only at hn hw hk ⊢
  subst hw
  subst hk
  by_cases hs : sq = 0
  case neg =>
    have gs : (sq != 0) = true := by simp; exact hs
    have gs2 : (sq == 0) = false := by simp; exact hs
    clear hn
    rw [rightB_no (by unfold rightP; rintro ⟨_, h | h | h | h | h⟩ <;> simp at h <;> omega)]
    go_enter Tryd.func11, Tryd.ntmps11
    go_wp2_with fail
    go_ret
    exact ⟨ret_bool (by first | rfl | (simp; done) | (simp; omega)), (Below.refl _ w).alloc (Nat.le_refl _) _⟩
  subst hs
  by_cases h0 : n = 0
  case neg =>
    have hp : 0 < n := by omega
    have hp2 : (0 : Int) < (n : Int) := by omega
    have hne : bs ≠ [] := by rintro rfl; simp at hn; omega
    have HNE := Lib.hid hne
    clear hn hne h0
    rw [rightB_no (by unfold rightP; rintro ⟨_, h | h | h | h | h⟩ <;> simp at h <;> (first | omega | exact absurd h.2.2.2 HNE.out | exact absurd h.2.2.2.1 HNE.out | exact absurd h.2.2.1 HNE.out | exact absurd h.2.1 HNE.out | exact absurd h.1 HNE.out | exact absurd h HNE.out | (obtain ⟨h1, h2⟩ := h; simp_all [HNE.out])))]
    go_enter Tryd.func11, Tryd.ntmps11
    go_wp2_with fail
    go_ret
    exact ⟨ret_bool (by first | rfl | (simp; done) | (simp; omega)), (Below.refl _ w).alloc (Nat.le_refl _) _⟩
  subst h0
  obtain rfl := List.length_eq_zero_iff.1 hn
  clear hn
  by_cases ha : ad = ByteArray.empty
  case neg =>
    have HA := Lib.hid ha
    have ga : (ad.toList == ByteArray.empty.toList) = false := toList_ne ha
    have ga2 : ad.toList.isEmpty = false := by cases hl : ad.toList with | nil => exact absurd (toList_inj (a := ad) (b := ByteArray.empty) (by rw [hl, empty_toList])) ha | cons x l => rfl
    have ga3 : ad.toList ≠ [] := by intro hl; exact ha (toList_inj (a := ad) (b := ByteArray.empty) (by rw [hl, empty_toList]))
    clear ha
    rw [rightB_no (by unfold rightP; rintro ⟨_, h | h | h | h | h⟩ <;> simp at h <;> (first | omega | exact absurd h.2.2 HA.out | exact absurd h.2 HA.out | exact absurd h HA.out | simp_all [HA.out]))]
    go_enter Tryd.func11, Tryd.ntmps11
    go_wp2_with fail
    go_ret
    exact ⟨ret_bool (by first | rfl | (simp; done) | (simp; omega)), (Below.refl _ w).alloc (Nat.le_refl _) _⟩
  subst ha
  have hm : cd < 1 ∨ (1 ≤ cd ∧ cd ≤ 12) ∨ 12 < cd := by omega
  rcases hm with hm | ⟨hm, hm2⟩ | hm
  ·
    rw [rightB_no (by unfold rightP; rintro ⟨_, h | h | h | h | h⟩ <;> simp at h <;> omega)]
    go_enter Tryd.func11, Tryd.ntmps11
    go_wp2_with fail
    go_ret
    exact ⟨ret_bool (by first | rfl | (simp; done) | (simp; omega)), (Below.refl _ w).alloc (Nat.le_refl _) _⟩
  ·
    rw [rightB_yes (.inr rfl) ⟨hm, hm2⟩ rfl rfl (.inr ⟨rfl, rfl⟩)]
    go_enter Tryd.func11, Tryd.ntmps11
    go_wp2_with fail
    go_ret
    exact ⟨ret_bool (by first | rfl | (simp; done) | (simp; omega)), (Below.refl _ w).alloc (Nat.le_refl _) _⟩
  ·
    rw [rightB_no (by unfold rightP; rintro ⟨_, h | h | h | h | h⟩ <;> simp at h <;> omega)]
    go_enter Tryd.func11, Tryd.ntmps11
    go_wp2_with fail
    go_ret
    exact ⟨ret_bool (by first | rfl | (simp; done) | (simp; omega)), (Below.refl _ w).alloc (Nat.le_refl _) _⟩
set_option maxRecDepth 100000 in
set_option maxHeartbeats 2000000 in
theorem rright_1_5 (e : Ev) (w : World) (hn : e.bs.length = e.n) (hw : e.who = 1) (hk : e.kind = 5) : Calls Tryd.prog 11 #[e.v] w fun r w' => r = .returned (.bool (rightB e)) ∧ Below w.heap.size w w' := by
  obtain ⟨k, wh, sq, tk, cd, A, n, c, bs, ad⟩ := e
  unfold Ev.v
  simp only at hn hw hk ⊢
  subst hw
  subst hk
  by_cases hs : sq = 0
  case neg =>
    have gs : (sq != 0) = true := by simp; exact hs
    have gs2 : (sq == 0) = false := by simp; exact hs
    clear hn
    rw [rightB_no (by unfold rightP; rintro ⟨_, h | h | h | h | h⟩ <;> simp at h <;> omega)]
    go_enter Tryd.func11, Tryd.ntmps11
    go_wp2_with fail
    go_ret
    exact ⟨ret_bool (by first | rfl | (simp; done) | (simp; omega)), (Below.refl _ w).alloc (Nat.le_refl _) _⟩
  subst hs
  by_cases h0 : n = 0
  case neg =>
    have hp : 0 < n := by omega
    have hp2 : (0 : Int) < (n : Int) := by omega
    have hne : bs ≠ [] := by rintro rfl; simp at hn; omega
    have HNE := Lib.hid hne
    clear hn hne h0
    rw [rightB_no (by unfold rightP; rintro ⟨_, h | h | h | h | h⟩ <;> simp at h <;> (first | omega | exact absurd h.2.2.2 HNE.out | exact absurd h.2.2.2.1 HNE.out | exact absurd h.2.2.1 HNE.out | exact absurd h.2.1 HNE.out | exact absurd h.1 HNE.out | exact absurd h HNE.out | (obtain ⟨h1, h2⟩ := h; simp_all [HNE.out])))]
    go_enter Tryd.func11, Tryd.ntmps11
    go_wp2_with fail
    go_ret
    exact ⟨ret_bool (by first | rfl | (simp; done) | (simp; omega)), (Below.refl _ w).alloc (Nat.le_refl _) _⟩
  subst h0
  obtain rfl := List.length_eq_zero_iff.1 hn
  clear hn
  by_cases ha : ad = ByteArray.empty
  case neg =>
    have HA := Lib.hid ha
    have ga : (ad.toList == ByteArray.empty.toList) = false := toList_ne ha
    have ga2 : ad.toList.isEmpty = false := by cases hl : ad.toList with | nil => exact absurd (toList_inj (a := ad) (b := ByteArray.empty) (by rw [hl, empty_toList])) ha | cons x l => rfl
    have ga3 : ad.toList ≠ [] := by intro hl; exact ha (toList_inj (a := ad) (b := ByteArray.empty) (by rw [hl, empty_toList]))
    clear ha
    rw [rightB_no (by unfold rightP; rintro ⟨_, h | h | h | h | h⟩ <;> simp at h <;> (first | omega | exact absurd h.2.2 HA.out | exact absurd h.2 HA.out | exact absurd h HA.out | simp_all [HA.out]))]
    go_enter Tryd.func11, Tryd.ntmps11
    go_wp2_with fail
    go_ret
    exact ⟨ret_bool (by first | rfl | (simp; done) | (simp; omega)), (Below.refl _ w).alloc (Nat.le_refl _) _⟩
  subst ha
  rw [rightB_code (.inr rfl) (.inr (.inr ⟨rfl, rfl, rfl, rfl⟩))]
  go_enter Tryd.func11, Tryd.ntmps11
  go_wp2_with fail
  go_ret
  exact ⟨ret_bool (by first | rfl | (simp; done) | (simp; omega)), (Below.refl _ w).alloc (Nat.le_refl _) _⟩
set_option maxRecDepth 100000 in
set_option maxHeartbeats 2000000 in
theorem rright_1_lo (e : Ev) (w : World) (hn : e.bs.length = e.n) (hw : e.who = 1) (hk : e.kind < 1) : Calls Tryd.prog 11 #[e.v] w fun r w' => r = .returned (.bool (rightB e)) ∧ Below w.heap.size w w' := by
  obtain ⟨k, wh, sq, tk, cd, A, n, c, bs, ad⟩ := e
  unfold Ev.v
  simp only at hn hw hk ⊢
  subst hw
  clear hn
  rw [rightB_no (by unfold rightP; rintro ⟨_, h | h | h | h | h⟩ <;> simp at h <;> omega)]
  go_enter Tryd.func11, Tryd.ntmps11
  go_wp2_with fail
  go_ret
  exact ⟨ret_bool (by first | rfl | (simp; done) | (simp; omega)), (Below.refl _ w).alloc (Nat.le_refl _) _⟩
set_option maxRecDepth 100000 in
set_option maxHeartbeats 2000000 in
theorem rright_1_hi (e : Ev) (w : World) (hn : e.bs.length = e.n) (hw : e.who = 1) (hk : 5 < e.kind) : Calls Tryd.prog 11 #[e.v] w fun r w' => r = .returned (.bool (rightB e)) ∧ Below w.heap.size w w' := by
  obtain ⟨k, wh, sq, tk, cd, A, n, c, bs, ad⟩ := e
  unfold Ev.v
  simp only at hn hw hk ⊢
  subst hw
  clear hn
  rw [rightB_no (by unfold rightP; rintro ⟨_, h | h | h | h | h⟩ <;> simp at h <;> omega)]
  go_enter Tryd.func11, Tryd.ntmps11
  go_wp2_with fail
  go_ret
  exact ⟨ret_bool (by first | rfl | (simp; done) | (simp; omega)), (Below.refl _ w).alloc (Nat.le_refl _) _⟩
theorem rright_any (e : Ev) (w : World) (he : EvOk w e) : Calls Tryd.prog 11 #[e.v] w fun r w' => r = .returned (.bool (rightB e)) ∧ Below w.heap.size w w' := by
  have hn := he.bys.len
  by_cases w0 : e.who = 0
  case pos =>
    have hk : e.kind < 1 ∨ e.kind = 1 ∨ e.kind = 2 ∨ e.kind = 3 ∨ e.kind = 4 ∨ e.kind = 5 ∨ 5 < e.kind := by omega
    rcases hk with h | h | h | h | h | h | h
    · exact rright_0_lo e w hn w0 h
    · exact rright_0_1 e w hn w0 h
    · exact rright_0_2 e w hn w0 h
    · exact rright_0_3 e w hn w0 h
    · exact rright_0_4 e w hn w0 h
    · exact rright_0_5 e w hn w0 h
    · exact rright_0_hi e w hn w0 h
  by_cases w1 : e.who = 1
  case pos =>
    have hk : e.kind < 1 ∨ e.kind = 1 ∨ e.kind = 2 ∨ e.kind = 3 ∨ e.kind = 4 ∨ e.kind = 5 ∨ 5 < e.kind := by omega
    rcases hk with h | h | h | h | h | h | h
    · exact rright_1_lo e w hn w1 h
    · exact rright_1_1 e w hn w1 h
    · exact rright_1_2 e w hn w1 h
    · exact rright_1_3 e w hn w1 h
    · exact rright_1_4 e w hn w1 h
    · exact rright_1_5 e w hn w1 h
    · exact rright_1_hi e w hn w1 h
  exact rright_who e w w0 w1
end Go.Proofs.YtgnegllehcpdpaaDoor
