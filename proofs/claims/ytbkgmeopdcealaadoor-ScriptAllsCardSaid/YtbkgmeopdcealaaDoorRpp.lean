import Derived.Test.YtbkgmeopdcealaaDoorRrt
namespace Go.Proofs.YtbkgmeopdcealaaDoor
open Go.ChangeShapes Go.WideShapes Go.ChangeAt Go.RowKit Go.Sort Go.Deep
set_option linter.unusedVariables false
set_option linter.unusedSimpArgs false
/-
  The operation that the reference makes of words, in plain Lean.
-/
def gw (ws : List ByteArray) (i : Nat) : ByteArray := ws.getD i em
def kdN (x : ByteArray) : Nat → Nat
  | 0 => 0
  | i + 1 => if ruleW (i + 1) = x then i + 1 else kdN x i
def whc (x : ByteArray) : Int := if x = svS then 1 else 0
def ubS (x : ByteArray) : List Nat := (unhexS x).getD []
def cand (K : Nat) (ws : List ByteArray) : PO :=
  if K = 1 then ⟨1, whc (gw ws 1), 0, 0, ubS (gw ws 2), em⟩ else if K = 6 then ⟨6, 0, numR (gw ws 1), numR (gw ws 2), [], em⟩ else if K = 7 then ⟨7, whc (gw ws 1), 0, 0, ubS (gw ws 3), gw ws 2⟩ else
  if K = 8 then ⟨8, 0, 0, 0, [], gw ws 1⟩ else if K = 9 then ⟨9, whc (gw ws 1), 0, 0, [], em⟩ else if K = 0 then ⟨0, 0, 0, 0, [], em⟩ else ⟨(K : Int), 0, numR (gw ws 1), 0, [], em⟩
theorem kdN_le (x : ByteArray) : ∀ i, kdN x i ≤ i
  | 0 => Nat.le_refl _
  | i + 1 => by
    unfold kdN
    split
    · exact Nat.le_refl _
    · exact Nat.le_trans (kdN_le x i) (by omega)
theorem dv_bys (l : List UInt8) (a : Nat) : (l.map UInt8.toNat).foldl (fun a c => a * 10 + (c - 48)) a = l.foldl (fun a c => a * 10 + (c.toNat - 48)) a := by
  induction l generalizing a with
  | nil => rfl
  | cons c l ih => simp only [List.map_cons, List.foldl_cons]; exact ih _
theorem decS_len7 (n : Nat) (h : n ≤ 1048576) : (decS n).size ≤ 7 ∧ (decS n).size ≠ 0 := by
  have hl : ∀ k n : Nat, n < 10 ^ (k + 1) → (Lib.decDigits n).length ≤ k + 1 := by
    intro k
    induction k with
    | zero => intro n h; rw [show n = n from rfl, Lib.decDigits_one (by omega)]; simp
    | succ k ih =>
      intro n h
      by_cases h10 : n < 10
      · rw [Lib.decDigits_one h10]; simp
      · rw [dec_more n h10, List.length_append]
        have := ih (n / 10) (by rw [Nat.pow_succ] at h; omega)
        simp; omega
  refine ⟨hl 6 n (by omega), fun h0 => dec_ne n ?_⟩
  have : (decS n).data.toList.length = 0 := h0
  exact List.eq_nil_of_length_eq_zero (by simpa [decS] using this)
theorem numR_dec (n : Nat) (h : n ≤ 1048576) : numR (decS n) = (n : Int) := by
  have hd : (bys (decS n)).all isD = true := by
    rw [List.all_eq_true]
    intro x hx
    unfold bys at hx
    obtain ⟨c, hc, rfl⟩ := List.mem_map.1 hx
    have := dec_digit n c (by simpa [decS] using hc)
    unfold isD
    simp only [Bool.and_eq_true, decide_eq_true_eq]
    exact this
  have hv : dvN (bys (decS n)) = n := by
    unfold dvN bys
    rw [dv_bys]
    exact dvS_dec n
  unfold numR
  rw [if_neg (by have := decS_len7 n h; omega), if_pos hd, hv]
theorem numR_it (n : Nat) (h : n ≤ 1048576) : numR (itS (n : Int)) = (n : Int) := by rw [itS_nat]; exact numR_dec n h
theorem numR_in (s : ByteArray) : -1 ≤ numR s ∧ numR s ≤ 1000000000000000000 := by
  unfold numR
  split
  · omega
  · split
    · rename_i h _
      have h1 := dvN_lt (bys s) (bys_lt s) 7
      rw [List.take_of_length_le (by rw [bys_len]; omega)] at h1
      have : (300 : Nat) ^ 7 - 1 + 0 ≤ 1000000000000000000 := by decide
      omega
    · omega
theorem whc_wh (x : Int) (h : x = 0 ∨ x = 1) : whc (whS x) = x := by rcases h with rfl | rfl <;> rfl
theorem ub_hex (bs : List Nat) (h : BodyOk bs) : ubS (hexS bs) = bs := by unfold ubS; rw [unhex_hex bs h.2]; rfl
/-- The words of a right operation are made into it. -/
theorem cand_words {p : PO} (h : RP p) : cand (kdN (gw (wordsP p) 0) 9) (wordsP p) = p := by
  cases h with
  | send x bs hx hb =>
    show (⟨1, whc (whS x), 0, 0, ubS (hexS bs), em⟩ : PO) = _
    rw [whc_wh x hx, ub_hex bs hb]
  | num k n h2 h5 hn =>
    have hm : n ≤ 1048576 := by unfold most at hn; split at hn <;> omega
    rcases (show k = 2 ∨ k = 3 ∨ k = 4 ∨ k = 5 by omega) with rfl | rfl | rfl | rfl
    · show (⟨_, 0, numR (itS (n : Int)), 0, [], em⟩ : PO) = _
      rw [numR_it n hm]; rfl
    · show (⟨_, 0, numR (itS (n : Int)), 0, [], em⟩ : PO) = _
      rw [numR_it n hm]; rfl
    · show (⟨_, 0, numR (itS (n : Int)), 0, [], em⟩ : PO) = _
      rw [numR_it n hm]; rfl
    · show (⟨_, 0, numR (itS (n : Int)), 0, [], em⟩ : PO) = _
      rw [numR_it n hm]; rfl
  | swap n m hn hm =>
    show (⟨6, 0, numR (itS (n : Int)), numR (itS (m : Int)), [], em⟩ : PO) = _
    rw [numR_it n (by omega), numR_it m (by omega)]
  | inject x bs ad hx hb ha =>
    show (⟨7, whc (whS x), 0, 0, ubS (hexS bs), ad⟩ : PO) = _
    rw [whc_wh x hx, ub_hex bs hb]
  | move ad ha => rfl
  | close x hx =>
    show (⟨9, whc (whS x), 0, 0, [], em⟩ : PO) = _
    rw [whc_wh x hx]
theorem cand_line {p : PO} {line : ByteArray} (h : RP p) (e : lineP p = line) : p = cand (kdN (gw (cutS line) 0) 9) (cutS line) := by
  subst e
  rw [line_cut h, cand_words h]
theorem ub_unhex {x : ByteArray} {e : Ending} {base : Nat} {w' : World} (h : UnR base (unhexS x) e w') : ∃ A n c r, e = .returned (.tuple #[.slice A n c, .bool r]) ∧ Bys w' A n (ubS x) ∧ n ≤ c ∧ c ≤ maxLen := by
  unfold ubS
  cases hu : unhexS x with
  | none => rw [hu] at h; exact ⟨none, 0, 0, false, h, Bys.none_ _, Nat.le_refl _, by unfold maxLen; omega⟩
  | some bs =>
    rw [hu] at h
    obtain ⟨v, rfl, ho⟩ := h
    obtain ⟨A, c, rfl⟩ := own_form ho
    refine ⟨A, bs.length, c, true, rfl, Bys.of_own ho (hex_unhex hu).2.1, ?_⟩
    rcases ho.2 with ⟨e, e2⟩ | ⟨g, cap, cur, e, _, _, h1, h2, _⟩
    · injection e with _ _ e3; rw [e2, e3]; exact ⟨Nat.le_refl _, by unfold maxLen; omega⟩
    · injection e with _ _ e3; rw [e3]; exact ⟨h1, h2⟩
end Go.Proofs.YtbkgmeopdcealaaDoor
