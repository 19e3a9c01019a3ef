import Derived.Test.YtgnegllehcpdpaaDoorTxa
namespace Go.Proofs.YtgnegllehcpdpaaDoor
open Go.ChangeShapes Go.WideShapes Go.ChangeAt Go.RowKit Go.Sort Go.Maps
set_option linter.unusedVariables false
set_option linter.unusedSimpArgs false
def sE (A : Option Addr) : Ev := ⟨1, 0, 3, 0, 0, A, 1, 1, [120], ⟨#[98]⟩⟩
def dE (A : Option Addr) : Ev := ⟨2, 1, 3, 0, 0, A, 1, 1, [120], ⟨#[97]⟩⟩
def fE : Ev := ⟨4, 1, 0, 5, 6, none, 0, 0, [], ⟨#[]⟩⟩
def zE : Ev := ⟨0, 0, 0, 0, 0, none, 0, 0, [], ⟨#[]⟩⟩
theorem get3 {α : Type} {a b c x : α} {i : Nat} (h : [a, b, c][i]? = some x) : (i = 0 ∧ x = a) ∨ (i = 1 ∧ x = b) ∨ (i = 2 ∧ x = c) := by
  match i with
  | 0 => simp at h; exact .inl ⟨rfl, h.symm⟩
  | 1 => simp at h; exact .inr (.inl ⟨rfl, h.symm⟩)
  | 2 => simp at h; exact .inr (.inr ⟨rfl, h.symm⟩)
  | i + 3 => simp at h
theorem awk_honest (A B : Option Addr) : honestB [sE A, dE B, fE] = true := honestB_true fun i e he hk => by
  rcases get3 he with ⟨rfl, rfl⟩ | ⟨rfl, rfl⟩ | ⟨rfl, rfl⟩
  · cases hk
  · exact ⟨0, sE A, by omega, rfl, rfl, rfl, rfl, rfl⟩
  · cases hk
theorem awk_dishonest (B : Option Addr) : honestB [dE B, fE] = false := honestB_false fun h => by
  obtain ⟨i, f, hi, _⟩ := h 0 (dE B) rfl rfl
  omega
theorem awk_strict (A B : Option Addr) : strictB [sE A, dE B, fE] = true := strictB_true fun i k e f he hf hki hm h1 h2 => by
  rcases get3 he with ⟨rfl, rfl⟩ | ⟨rfl, rfl⟩ | ⟨rfl, rfl⟩ <;> rcases get3 hf with ⟨rfl, rfl⟩ | ⟨rfl, rfl⟩ | ⟨rfl, rfl⟩ <;> first | omega | (simp [sE, dE, fE] at h1) | (simp [fE] at hm)
theorem awk_unstrict (A B : Option Addr) : strictB [sE A, dE B, fE, sE A] = false := strictB_false fun h => by
  have := h 3 0 (sE A) (sE A) rfl rfl (by omega) (.inl rfl) rfl rfl
  simp [sE] at this
theorem awk_right (B : Option Addr) : rightB (dE B) = true := by
  have : rightP (dE B) := ⟨.inr rfl, .inr (.inl ⟨rfl, rfl⟩)⟩
  simpa [rightB] using this
theorem awk_wrong : rightB zE = false := rightB_no (by rintro ⟨_, h | h | h | h | h⟩ <;> (have := h.1; simp [zE] at this))
theorem awk_rightf : rightB fE = true := by
  have : rightP fE := ⟨.inr rfl, .inr (.inr (.inr (.inl ⟨rfl, by decide, by decide, rfl, rfl, rfl⟩)))⟩
  simpa [rightB] using this
theorem decS5 : decS 5 = ⟨#[53]⟩ := by rw [← decS_one 5 (by omega)]; rfl
theorem awk_text : textS fE = ⟨#[102, 97, 105, 108, 101, 100, 32, 115, 101, 114, 118, 101, 114, 32, 53, 32, 101, 120, 104, 97, 117, 115, 116, 101, 100]⟩ := by
  unfold textS
  rw [awk_rightf, if_pos rfl]
  have : partsE fE = [wd 4, n2 1, decS 5, nameS 6] := by simp [partsE, fE]
  rw [this, decS5]
  decide +kernel
theorem awk_choose (A B : Option Addr) : [sE A, dE B, fE].filter (chP 2 1) = [dE B] := by simp [chP, sE, dE, fE, List.filter_cons]
theorem awk_codes (A B : Option Addr) : cntC [sE A, dE B, fE] 6 = 1 := by simp [cntC, codedB, sE, dE, fE, List.filter_cons]
theorem awk_same (A : Option Addr) : evEq (sE A) (sE A) = true := by simp [evEq]
theorem evCells_drop : ∀ (es : List Ev) (k : Nat), (evCells es).drop (k * 7) = evCells (es.drop k)
  | es, 0 => by simp
  | [], k + 1 => by simp [evCells]
  | e :: es, k + 1 => by
    rw [List.drop_succ_cons, ← evCells_drop es k]
    unfold evCells
    rw [List.flatMap_cons, List.drop_append, List.drop_eq_nil_of_le (by rw [Ev.cells_len]; omega), List.nil_append, Ev.cells_len, show (k + 1) * 7 - 7 = k * 7 by omega]
theorem Evs.cut {w : World} {b o n k : Nat} {es : List Ev} (h : Evs w (some ⟨b, o, none⟩) n es) (hk : k < n) : Evs w (some ⟨b, o + k * 7, none⟩) (n - k) (es.drop k) := by
  obtain ⟨h1, h2, h3⟩ := h
  have hr := Reads.cut (cap := n) h1 (Nat.le_of_lt hk) (Nat.le_refl _)
  rw [if_neg (by omega)] at hr
  refine ⟨?_, by rw [List.length_drop, h2], fun e he => h3 e (List.mem_of_mem_drop he)⟩
  have e1 : (some (⟨b, o, none⟩ : Addr)).map (·.add (k * 7)) = some ⟨b, o + k * 7, none⟩ := by
    show some ((⟨b, o, none⟩ : Addr).add (k * 7)) = _
    rw [add_none]
  have e2 := evCells_drop es k
  rw [e1, e2] at hr
  exact hr
theorem Evs.take {w : World} {A : Option Addr} {n k : Nat} {es : List Ev} (h : Evs w A n es) (hk : k ≤ n) : Evs w A k (es.take k) := by
  obtain ⟨h1, h2, h3⟩ := h
  refine ⟨⟨by rw [evCells_len, List.length_take]; omega, fun h0 => ?_⟩, by rw [List.length_take]; omega, fun e he => h3 e (List.mem_of_mem_take he)⟩
  obtain ⟨ad, ha, hb, hc⟩ := h1.2 (by omega)
  refine ⟨ad, ha, hb, fun j u hu => hc j u ?_⟩
  have hp : evCells es = evCells (es.take k) ++ evCells (es.drop k) := by
    unfold evCells
    rw [← List.flatMap_append, List.take_append_drop]
  rw [hp, List.getElem?_append_left (List.getElem?_eq_some_iff.1 hu).1]
  exact hu
end Go.Proofs.YtgnegllehcpdpaaDoor
