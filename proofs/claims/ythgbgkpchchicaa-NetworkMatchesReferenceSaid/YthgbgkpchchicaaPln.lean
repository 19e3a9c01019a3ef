import Derived.Test.YthgbgkpchchicaaStp
namespace Go.Proofs.Ythgbgkpchchicaa
open Go.ChangeShapes Go.WideShapes Go.ChangeAt Go.RowKit
set_option linter.unusedVariables false
set_option linter.unusedSimpArgs false
/-- What holds of the row after j calls. -/
structure Sound (j : Nat) (S : List KK) (last : Int) : Prop where
  len : S.length ≤ j
  l0 : 0 ≤ last
  l1 : last ≤ j
  ids : ∀ (p q : Nat) (a b : KK), S[p]? = some a → S[q]? = some b → p ≠ q → a.1 ≠ b.1
  rng : ∀ k ∈ S, k.1 ≤ last
  bl : ∀ k ∈ S, k.2.2.2.length ≤ 3000
theorem Sound.zero : Sound 0 [] 0 := ⟨Nat.le_refl _, by omega, by omega, by simp, by simp, by simp⟩
theorem Sound.same {j : Nat} {S : List KK} {last : Int} (h : Sound j S last) : Sound (j + 1) S last := ⟨by have := h.len; omega, h.l0, by have := h.l1; push_cast; omega, h.ids, h.rng, h.bl⟩
theorem Sound.push {j : Nat} {S : List KK} {last : Int} (h : Sound j S last) (r : ByteArray × ByteArray × List Nat) (hr : r.2.2.length ≤ 3000) : Sound (j + 1) (S ++ [(last + 1, r)]) (last + 1) := by
  refine ⟨by have := h.len; simp; omega, by have := h.l0; omega, by have := h.l1; push_cast; omega, fun p q a b hp hq hne => ?_, fun k hk => ?_, fun k hk => ?_⟩
  · rw [List.getElem?_append] at hp hq
    have hlt : ∀ (x : Nat) (c : KK), S[x]? = some c → c.1 ≤ last := fun x c hc => h.rng c (List.mem_of_getElem? hc)
    have hone : ∀ (x : Nat) (c : KK), [((last + 1, r) : KK)][x]? = some c → x = 0 ∧ c.1 = last + 1 := fun x c hc => by
      cases x with
      | zero => simp at hc; exact ⟨rfl, by rw [← hc]⟩
      | succ x => simp at hc
    split at hp <;> split at hq
    · exact h.ids p q a b hp hq hne
    · have h1 := hlt _ _ hp
      have h2 := (hone _ _ hq).2
      omega
    · have h1 := hlt _ _ hq
      have h2 := (hone _ _ hp).2
      omega
    · have h1 := (hone _ _ hp).1
      have h2 := (hone _ _ hq).1
      omega
  · rcases List.mem_append.1 hk with hk | hk
    · have := h.rng k hk; omega
    · obtain rfl := List.mem_singleton.1 hk; exact Int.le_refl _
  · rcases List.mem_append.1 hk with hk | hk
    · exact h.bl k hk
    · obtain rfl := List.mem_singleton.1 hk; exact hr
theorem Sound.erase {j : Nat} {S : List KK} {last : Int} (h : Sound j S last) (i : Nat) : Sound (j + 1) (S.eraseIdx i) last := by
  have hl : (S.eraseIdx i).length ≤ S.length := List.length_eraseIdx_le S i
  refine ⟨by have := h.len; omega, h.l0, by have := h.l1; push_cast; omega, fun p q a b hp hq hne => ?_, fun k hk => h.rng k (List.mem_of_mem_eraseIdx hk), fun k hk => h.bl k (List.mem_of_mem_eraseIdx hk)⟩
  rw [List.getElem?_eraseIdx] at hp hq
  split at hp <;> split at hq
  · exact h.ids _ _ a b hp hq hne
  · exact h.ids _ _ a b hp hq (by omega)
  · exact h.ids _ _ a b hp hq (by omega)
  · exact h.ids _ _ a b hp hq (by omega)
theorem swap_get {S : List KK} {a b : Nat} {x y : KK} (ha : S[a]? = some x) (hb : S[b]? = some y) (p : Nat) : ((S.set a y).set b x)[p]? = S[if p = b then a else if p = a then b else p]? := by
  have hal := (List.getElem?_eq_some_iff.1 ha).1
  have hbl := (List.getElem?_eq_some_iff.1 hb).1
  rw [List.getElem?_set, List.getElem?_set, List.length_set]
  by_cases h1 : b = p
  · subst h1
    simp [hbl, ha]
  · have h1' : ¬ p = b := fun e => h1 e.symm
    simp only [h1, h1', if_false]
    by_cases h2 : a = p
    · subst h2
      simp [hal, hb]
    · have h2' : ¬ p = a := fun e => h2 e.symm
      simp [h2, h2']
theorem Sound.swap {j : Nat} {S : List KK} {last : Int} (h : Sound j S last) {a b : Nat} {x y : KK} (ha : S[a]? = some x) (hb : S[b]? = some y) : Sound (j + 1) ((S.set a y).set b x) last := by
  have hmem : ∀ k ∈ (S.set a y).set b x, k ∈ S := fun k hk => by
    obtain ⟨p, hp⟩ := List.getElem?_of_mem hk
    rw [swap_get ha hb] at hp
    exact List.mem_of_getElem? hp
  refine ⟨by have := h.len; simp; omega, h.l0, by have := h.l1; push_cast; omega, fun p q u v hp hq hne => ?_, fun k hk => h.rng k (hmem k hk), fun k hk => h.bl k (hmem k hk)⟩
  rw [swap_get ha hb] at hp hq
  refine h.ids _ _ u v hp hq ?_
  split <;> split <;> (try split) <;> (try split) <;> omega
theorem outB_in' {len : Nat} {x : Int} (h : ¬ outB len x = true) : ∃ i : Nat, x = i ∧ i < len := outB_not (by cases hq : outB len x; rfl; exact absurd hq h)
theorem Sound.step {j : Nat} {S : List KK} {last : Int} (h : Sound j S last) (o : Opr) (ho : o.bs.length ≤ 3000) : Sound (j + 1) (stepS o S last).2.1 (stepS o S last).2.2 := by
  unfold stepS
  split
  · exact h.push _ ho
  split
  · exact h.same
  rename_i hx
  obtain ⟨i, hi, hil⟩ := outB_in' (fun e => hx (.inl e))
  have hg : S[i]? = some (S.getD i zk) := by simp [List.getD, hil]
  split
  · exact h.erase _
  split
  · refine h.push _ ?_
    rw [hi]
    exact h.bl _ (List.mem_of_getElem? hg)
  split
  · rename_i h3
    obtain ⟨i', hi', hil'⟩ := outB_in' (fun e => hx (.inr ⟨h3, e⟩))
    have hg' : S[i']? = some (S.getD i' zk) := by simp [List.getD, hil']
    rw [hi, hi']
    exact h.swap hg hg'
  · exact h.erase _
/-- What the counter of the law does. -/
theorem step_ids (o : Opr) (S : List KK) (last : Int) : ((stepS o S last).1.2.2 = 0 ∨ (stepS o S last).1.2.2 = 10) ∧
    (((stepS o S last).1.2.2 = 0 ∧ (o.kind = 0 ∨ o.kind = 2) ∧ (stepS o S last).1.1 = last + 1 ∧ (stepS o S last).2.2 = last + 1) ∨
     (¬ ((stepS o S last).1.2.2 = 0 ∧ (o.kind = 0 ∨ o.kind = 2)) ∧ (stepS o S last).2.2 = last)) := by
  unfold stepS
  split
  · rename_i h; exact ⟨.inl rfl, .inl ⟨rfl, .inl h, rfl, rfl⟩⟩
  rename_i h0
  split
  · exact ⟨.inr rfl, .inr ⟨by simp, rfl⟩⟩
  split
  · rename_i h1; exact ⟨.inl rfl, .inr ⟨fun e => by rcases e.2 with e | e <;> omega, rfl⟩⟩
  rename_i h1
  split
  · rename_i h2; exact ⟨.inl rfl, .inl ⟨rfl, .inr h2, rfl, rfl⟩⟩
  rename_i h2
  split
  · exact ⟨.inl rfl, .inr ⟨fun e => by rcases e.2 with e | e <;> contradiction, rfl⟩⟩
  · exact ⟨.inl rfl, .inr ⟨fun e => by rcases e.2 with e | e <;> contradiction, rfl⟩⟩
/-- The row after the calls, and the last ID. -/
def runS : List Opr → List KK × Int → List KK × Int
  | [], s => s
  | o :: r, s => runS r (stepS o s.1 s.2).2
theorem runS_snoc (l : List Opr) (o : Opr) : ∀ s, runS (l ++ [o]) s = (stepS o (runS l s).1 (runS l s).2).2 := by
  induction l with
  | nil => intro s; rfl
  | cons a l ih => intro s; exact ih _
end Go.Proofs.Ythgbgkpchchicaa
