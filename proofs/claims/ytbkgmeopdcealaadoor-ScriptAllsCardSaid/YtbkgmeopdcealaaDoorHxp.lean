import Derived.Test.YtbkgmeopdcealaaDoorSpl
import Derived.Test.YtbkgmeopdcealaaDoorRgt
namespace Go.Proofs.YtbkgmeopdcealaaDoor
open Go.ChangeShapes Go.WideShapes Go.ChangeAt Go.RowKit
set_option linter.unusedVariables false
set_option linter.unusedSimpArgs false
/-- Hexadecimal digits, in plain Lean. -/
def hx (n : Nat) : Nat := if n < 10 then 48 + n else 87 + n
def hexL : List Nat → List Nat
  | [] => []
  | b :: r => hx (b / 16) :: hx (b % 16) :: hexL r
def str (l : List Nat) : ByteArray := ⟨(l.map UInt8.ofNat).toArray⟩
def dashS : ByteArray := ⟨#[45]⟩
def hexS (bs : List Nat) : ByteArray := if bs = [] then dashS else str (hexL bs)
/-- The value of a digit. -/
def dg (c : Nat) : Option Nat := if 48 ≤ c ∧ c ≤ 57 then some (c - 48) else if 97 ≤ c ∧ c ≤ 102 then some (c - 87) else none
def unL : List Nat → Option (List Nat)
  | [] => some []
  | [_] => none
  | a :: b :: r => match dg a, dg b with
    | some x, some y => (unL r).map fun l => (16 * x + y) :: l
    | _, _ => none
def unhexS (s : ByteArray) : Option (List Nat) := if s = dashS then some [] else if s.size = 0 then none else unL (bys s)
theorem dg_hx (n : Nat) (h : n < 16) : dg (hx n) = some n := by
  unfold dg hx
  by_cases h1 : n < 10
  · rw [if_pos h1, if_pos (by omega)]; congr 1; omega
  · rw [if_neg h1, if_neg (by omega), if_pos (by omega)]; congr 1; omega
theorem hx_dg {c x : Nat} (h : dg c = some x) : hx x = c ∧ x < 16 := by
  unfold dg at h
  split at h
  · injection h with h; subst h; unfold hx; rw [if_pos (by omega)]; omega
  · split at h
    · injection h with h; subst h; unfold hx; rw [if_neg (by omega)]; omega
    · cases h
theorem unL_hex : ∀ (bs : List Nat), (∀ b ∈ bs, b < 256) → unL (hexL bs) = some bs
  | [], _ => rfl
  | b :: r, h => by
    have hb := h b (by simp)
    have ih := unL_hex r (fun x hx => h x (by simp [hx]))
    rw [hexL, unL, dg_hx _ (by omega), dg_hx _ (by omega)]
    simp only
    rw [ih]
    simp
    omega
theorem hex_unL : ∀ (l bs : List Nat), unL l = some bs → hexL bs = l ∧ (∀ b ∈ bs, b < 256) ∧ bs.length * 2 = l.length
  | [], bs, h => by
    rw [unL] at h; injection h with h; subst h; simp [hexL]
  | [a], bs, h => by rw [unL] at h; cases h
  | a :: b :: r, bs, h => by
    rw [unL] at h
    cases ha : dg a with
    | none => rw [ha] at h; simp at h
    | some x =>
      cases hb : dg b with
      | none => rw [ha, hb] at h; simp at h
      | some y =>
        rw [ha, hb] at h
        simp only at h
        cases hr : unL r with
        | none => rw [hr] at h; cases h
        | some l =>
          rw [hr] at h
          simp at h
          subst h
          obtain ⟨h1, h2, h3⟩ := hex_unL r l hr
          obtain ⟨e1, l1⟩ := hx_dg ha
          obtain ⟨e2, l2⟩ := hx_dg hb
          refine ⟨?_, fun z hz => ?_, by simp; omega⟩
          · rw [hexL, show (16 * x + y) / 16 = x by omega, show (16 * x + y) % 16 = y by omega, e1, e2, h1]
          · rcases List.mem_cons.1 hz with rfl | hz
            · omega
            · exact h2 z hz
theorem hexL_lt (bs : List Nat) (h : ∀ b ∈ bs, b < 256) : ∀ c ∈ hexL bs, c < 128 := by
  induction bs with
  | nil => simp [hexL]
  | cons b r ih =>
    intro c hc
    rw [hexL] at hc
    have hb := h b (by simp)
    rcases List.mem_cons.1 hc with rfl | hc
    · unfold hx; split <;> omega
    · rcases List.mem_cons.1 hc with rfl | hc
      · unfold hx; split <;> omega
      · exact ih (fun x hx => h x (by simp [hx])) c hc
theorem hexL_len (bs : List Nat) : (hexL bs).length = bs.length * 2 := by
  induction bs with
  | nil => rfl
  | cons b r ih => rw [hexL, List.length_cons, List.length_cons, List.length_cons, ih]; omega
theorem bys_str (l : List Nat) (h : ∀ x ∈ l, x < 256) : bys (str l) = l := by
  unfold bys str
  simp only [List.map_map]
  conv => rhs; rw [← List.map_id l]
  apply List.map_congr_left
  intro x hx
  have := h x hx
  simp
  omega
theorem bys_inj {a b : ByteArray} (h : bys a = bys b) : a = b := by
  unfold bys at h
  have := (List.map_inj_right (fun x y e => UInt8.toNat_inj.1 e)).1 h
  cases a; cases b
  simp at this
  rw [this]
theorem bys_lt (s : ByteArray) : ∀ x ∈ bys s, x < 256 := by
  intro x hx
  simp only [bys, List.mem_map] at hx
  obtain ⟨y, _, rfl⟩ := hx
  exact y.toNat_lt
theorem str_bys (s : ByteArray) : str (bys s) = s := bys_inj (bys_str _ (bys_lt s))
theorem str_size (l : List Nat) : (str l).size = l.length := by
  show (l.map UInt8.ofNat).toArray.size = _
  simp
/-- There and back. -/
theorem unhex_hex (bs : List Nat) (h : ∀ b ∈ bs, b < 256) : unhexS (hexS bs) = some bs := by
  unfold hexS unhexS
  by_cases h0 : bs = []
  · rw [if_pos h0, if_pos rfl, h0]
  · rw [if_neg h0]
    have hl := hexL_len bs
    have h1 : bs.length ≠ 0 := fun e => h0 (List.length_eq_zero_iff.1 e)
    have hlt := hexL_lt bs h
    have hb := bys_str (hexL bs) (fun x hx => by have := hlt x hx; omega)
    rw [if_neg, if_neg, hb, unL_hex bs h]
    · rw [str_size]; omega
    · intro e
      have := congrArg ByteArray.size e
      rw [str_size, hl] at this
      have h2 : dashS.size = 1 := rfl
      omega
theorem hex_unhex {s : ByteArray} {bs : List Nat} (h : unhexS s = some bs) : hexS bs = s ∧ (∀ b ∈ bs, b < 256) ∧ bs.length * 2 ≤ s.size := by
  unfold unhexS at h
  by_cases h1 : s = dashS
  · rw [if_pos h1] at h
    injection h with h
    subst h
    exact ⟨by unfold hexS; rw [if_pos rfl, h1], by simp, by simp⟩
  · rw [if_neg h1] at h
    by_cases h2 : s.size = 0
    · rw [if_pos h2] at h; cases h
    · rw [if_neg h2] at h
      obtain ⟨e1, e2, e3⟩ := hex_unL _ _ h
      rw [bys_len] at e3
      refine ⟨?_, e2, by omega⟩
      unfold hexS
      rw [if_neg, e1, str_bys]
      intro e
      rw [e] at e3
      simp at e3
      omega
theorem hexS_no32 (bs : List Nat) (h : ∀ b ∈ bs, b < 256) : ∀ c ∈ (hexS bs).data.toList, c ≠ 32 := by
  have hmem : ∀ (l : List Nat), (∀ x ∈ l, x < 256) → (∀ x ∈ l, x ≠ 32) → ∀ c ∈ (str l).data.toList, c ≠ 32 := by
    intro l h1 h2 c hc e
    subst e
    simp [str] at hc
    obtain ⟨x, hx, hxe⟩ := hc
    have h3 := h1 x hx
    have h4 := congrArg UInt8.toNat hxe
    simp at h4
    exact h2 x hx (by omega)
  unfold hexS
  split
  · decide
  · refine hmem _ (fun x hx => by have := hexL_lt bs h x hx; omega) (fun x hx => ?_)
    clear hmem
    induction bs with
    | nil => simp [hexL] at hx
    | cons b r ih =>
      rw [hexL] at hx
      have hb := h b (by simp)
      rcases List.mem_cons.1 hx with rfl | hx
      · unfold Go.Proofs.YtbkgmeopdcealaaDoor.hx; split <;> omega
      · rcases List.mem_cons.1 hx with rfl | hx
        · unfold Go.Proofs.YtbkgmeopdcealaaDoor.hx; split <;> omega
        · by_cases hr : r = []
          · subst hr; simp [hexL] at hx
          · exact ih (fun x hx => h x (by simp [hx])) hr hx
end Go.Proofs.YtbkgmeopdcealaaDoor
