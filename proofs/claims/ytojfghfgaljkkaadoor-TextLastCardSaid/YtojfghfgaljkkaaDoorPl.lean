import Derived.Test.YtojfghfgaljkkaaDoorOf
namespace Go.Proofs.YtojfghfgaljkkaaDoor
set_option linter.unusedVariables false
set_option linter.unusedSimpArgs false
/-- The 64 characters. -/
def alph : List Nat := [65, 66, 67, 68, 69, 70, 71, 72, 73, 74, 75, 76, 77, 78, 79, 80, 81, 82, 83, 84, 85, 86, 87, 88, 89, 90, 97, 98, 99, 100, 101, 102, 103, 104, 105, 106, 107, 108, 109, 110, 111, 112, 113, 114, 115, 116, 117, 118, 119, 120, 121, 122, 48, 49, 50, 51, 52, 53, 54, 55, 56, 57, 43, 47]
def charN (v : Nat) : Nat := alph.getD v 0
def vOf (c : Nat) : Int := match alph.findIdx? (· == c) with | some i => (i : Nat) | none => -1
/-- The value by ranges. -/
def vRange (c : Nat) : Int :=
  if 65 ≤ c ∧ c ≤ 90 then (c : Int) - 65 else if 97 ≤ c ∧ c ≤ 122 then (c : Int) - 71 else if 48 ≤ c ∧ c ≤ 57 then (c : Int) + 4 else if c = 43 then 62 else if c = 47 then 63 else -1
theorem vRange_fin : ∀ c : Fin 256, vRange c.1 = vOf c.1 := by decide +kernel
theorem vRange_eq (c : Nat) (h : c < 256) : vRange c = vOf c := vRange_fin ⟨c, h⟩
theorem vOf_charN_fin : ∀ v : Fin 64, vOf (charN v.1) = (v.1 : Int) := by decide +kernel
theorem vOf_charN (v : Nat) (h : v < 64) : vOf (charN v) = (v : Int) := vOf_charN_fin ⟨v, h⟩
theorem charN_lt_fin : ∀ v : Fin 64, charN v.1 < 128 := by decide +kernel
theorem charN_lt (v : Nat) (h : v < 64) : charN v < 256 := by have := charN_lt_fin ⟨v, h⟩; simp at this; omega
theorem charN_vOf_fin : ∀ c : Fin 256, 0 ≤ vOf c.1 → charN (vOf c.1).toNat = c.1 ∧ vOf c.1 < 64 := by decide +kernel
theorem charN_vOf (c : Nat) (h : c < 256) (h0 : 0 ≤ vOf c) : charN (vOf c).toNat = c ∧ vOf c < 64 := charN_vOf_fin ⟨c, h⟩ h0
theorem vOf_ge (c : Nat) (h : c < 256) : -1 ≤ vOf c := by
  unfold vOf; split <;> omega
theorem vOf_hit {c j : Nat} (h : alph[j]? = some c) (hk : ∀ k, k < j → alph[k]? ≠ some c) : vOf c = (j : Int) := by
  unfold vOf
  have : alph.findIdx? (· == c) = some j := by
    rw [List.findIdx?_eq_some_iff_getElem]
    obtain ⟨hl, he⟩ := List.getElem?_eq_some_iff.1 h
    refine ⟨hl, by simp [he], fun k hkj => ?_⟩
    have := hk k hkj
    rw [List.getElem?_eq_getElem (by omega)] at this
    simpa using this
  rw [this]
theorem vOf_miss {c : Nat} (hk : ∀ k, k < 64 → alph[k]? ≠ some c) : vOf c = -1 := by
  unfold vOf
  have : alph.findIdx? (· == c) = none := by
    rw [List.findIdx?_eq_none_iff]
    intro x hx
    obtain ⟨k, hl, he⟩ := List.getElem_of_mem hx
    have h64 : alph.length = 64 := by decide
    have := hk k (by omega)
    rw [List.getElem?_eq_getElem hl, he] at this
    simpa using this
  rw [this]
/-- The number of the first m bits. -/
def bp (b : Nat → Nat) : Nat → Nat
  | 0 => 0
  | m + 1 => 2 * bp b m + b m
theorem bp_div (b : Nat → Nat) (hb : ∀ i, b i ≤ 1) (j : Nat) : ∀ k, bp b (j + k) / 2 ^ k = bp b j
  | 0 => by simp
  | k + 1 => by
    have := bp_div b hb j k
    have h1 := hb (j + k)
    rw [show j + (k + 1) = (j + k) + 1 by omega, bp, Nat.pow_succ, Nat.mul_comm (2 ^ k) 2, ← Nat.div_div_eq_div_mul]
    rw [show (2 * bp b (j + k) + b (j + k)) / 2 = bp b (j + k) by omega, this]
/-- k bits from place j on. -/
def gv (b : Nat → Nat) (j : Nat) : Nat → Nat
  | 0 => 0
  | k + 1 => 2 * gv b j k + b (j + k)
theorem gv_lt (b : Nat → Nat) (hb : ∀ i, b i ≤ 1) (j : Nat) : ∀ k, gv b j k < 2 ^ k
  | 0 => by simp [gv]
  | k + 1 => by have := gv_lt b hb j k; have := hb (j + k); rw [gv, Nat.pow_succ]; omega
theorem bp_add (b : Nat → Nat) (j : Nat) : ∀ k, bp b (j + k) = bp b j * 2 ^ k + gv b j k
  | 0 => by simp [gv]
  | k + 1 => by
    rw [show j + (k + 1) = (j + k) + 1 by omega, bp, bp_add b j k, gv, Nat.pow_succ, Nat.mul_add, ← Nat.mul_assoc, Nat.mul_comm 2 (bp b j), Nat.mul_assoc, Nat.mul_comm 2 (2 ^ k)]
    omega
theorem bp_mod (b : Nat → Nat) (hb : ∀ i, b i ≤ 1) (j k : Nat) : bp b (j + k) % 2 ^ k = gv b j k := by
  rw [bp_add, Nat.mul_comm, Nat.mul_add_mod]
  exact Nat.mod_eq_of_lt (gv_lt b hb j k)
/-- The bits from place j on, k of them, out of the number of the first m. -/
theorem take_bits (b : Nat → Nat) (hb : ∀ i, b i ≤ 1) (m j k : Nat) (h : j + k ≤ m) : bp b m / 2 ^ (m - (j + k)) % 2 ^ k = gv b j k := by
  have := bp_div b hb (j + k) (m - (j + k))
  rw [show j + k + (m - (j + k)) = m by omega] at this
  rw [this, bp_mod b hb]
theorem gv_congr (b b' : Nat → Nat) (j : Nat) : ∀ k, (∀ t, t < k → b (j + t) = b' (j + t)) → gv b j k = gv b' j k
  | 0, _ => rfl
  | k + 1, h => by rw [gv, gv, gv_congr b b' j k (fun t ht => h t (by omega)), h k (by omega)]
/-- A number's bits, from the top. -/
theorem gv_bits (b : Nat → Nat) (v j : Nat) : ∀ n k, k ≤ n → v < 2 ^ n → (∀ t, t < k → b (j + t) = v / 2 ^ (n - 1 - t) % 2) → gv b j k = v / 2 ^ (n - k)
  | n, 0, _, hv, _ => by simp [gv, Nat.div_eq_of_lt hv]
  | n, k + 1, hk, hv, h => by
    rw [gv, gv_bits b v j n k (by omega) hv (fun t ht => h t (by omega)), h k (by omega), show n - 1 - k = n - (k + 1) by omega, show n - k = n - (k + 1) + 1 by omega, Nat.pow_succ, ← Nat.div_div_eq_div_mul]
    omega
/-- The bits of a key, and of nothing behind it. -/
def kb (l : List Nat) (i : Nat) : Nat := bit l i
theorem kb_le (l : List Nat) (i : Nat) : kb l i ≤ 1 := by unfold kb bit; omega
theorem kb_byte (l : List Nat) (h : ∀ x ∈ l, x < 256) (n : Nat) : gv (kb l) (8 * n) 8 = l.getD n 0 := by
  have hx : l.getD n 0 < 256 := by
    rw [List.getD]
    cases e : l[n]? with
    | none => simp
    | some x => exact h x (List.mem_of_getElem? e)
  have := gv_bits (kb l) (l.getD n 0) (8 * n) 8 8 (by omega) (by omega) (fun t ht => by
    unfold kb bit
    rw [show (8 * n + t) / 8 = n by omega, show (8 * n + t) % 8 = t by omega])
  simpa using this
/-- The text of a key. -/
def printL (l : List Nat) : List Nat := (List.range 22).map fun i => charN (gv (kb l) (6 * i) 6)
theorem printL_len (l : List Nat) : (printL l).length = 22 := by simp [printL]
/-- The bits of the values of characters. -/
def vb (cs : List Nat) (i : Nat) : Nat := (vOf (cs.getD (i / 6) 0)).toNat / 2 ^ (5 - i % 6) % 2
theorem vb_le (cs : List Nat) (i : Nat) : vb cs i ≤ 1 := by unfold vb; omega
theorem vb_char (cs : List Nat) (h : ∀ c ∈ cs, c < 256) (i : Nat) (hi : i < cs.length) (h0 : 0 ≤ vOf (cs.getD i 0)) : gv (vb cs) (6 * i) 6 = (vOf (cs.getD i 0)).toNat := by
  have hc : cs.getD i 0 < 256 := by
    rw [List.getD, List.getElem?_eq_getElem hi]
    exact h _ (List.getElem_mem hi)
  have h64 := (charN_vOf _ hc h0).2
  have := gv_bits (vb cs) (vOf (cs.getD i 0)).toNat (6 * i) 6 6 (by omega) (by omega) (fun t ht => by
    unfold vb
    rw [show (6 * i + t) / 6 = i by omega, show (6 * i + t) % 6 = t by omega])
  simpa using this
/-- The bytes of characters. -/
def parseL (cs : List Nat) : List Nat := (List.range 16).map fun n => gv (vb cs) (8 * n) 8
theorem parseL_len (cs : List Nat) : (parseL cs).length = 16 := by simp [parseL]
theorem parseL_lt (cs : List Nat) : ∀ x ∈ parseL cs, x < 256 := by
  intro x hx
  simp only [parseL, List.mem_map] at hx
  obtain ⟨n, _, rfl⟩ := hx
  exact gv_lt _ (vb_le cs) _ 8
theorem printL_get (l : List Nat) (i : Nat) (h : i < 22) : (printL l).getD i 0 = charN (gv (kb l) (6 * i) 6) := by
  simp [printL, List.getD, h]
theorem vb_print (l : List Nat) (i : Nat) (h : i < 132) : vb (printL l) i = kb l i := by
  unfold vb
  rw [printL_get l (i / 6) (by omega), vOf_charN _ (gv_lt _ (kb_le l) _ 6)]
  have hh := bp_div (fun t => kb l (6 * (i / 6) + t)) (fun t => kb_le l _) (i % 6 + 1) (5 - i % 6)
  have e : ∀ k, bp (fun t => kb l (6 * (i / 6) + t)) k = gv (kb l) (6 * (i / 6)) k := by
    intro k
    induction k with
    | zero => rfl
    | succ k ih => rw [bp, gv, ih]
  rw [e, e, show i % 6 + 1 + (5 - i % 6) = 6 by omega] at hh
  rw [Int.toNat_natCast, hh, gv, show 6 * (i / 6) + i % 6 = i by omega]
  have := kb_le l i
  omega
/-- What is printed is read. -/
theorem parse_print (l : List Nat) (hl : l.length = 16) (h : ∀ x ∈ l, x < 256) : parseL (printL l) = l := by
  apply List.ext_getElem
  · rw [parseL_len, hl]
  · intro n h1 h2
    simp only [parseL, List.getElem_map, List.getElem_range]
    rw [parseL_len] at h1
    rw [gv_congr (vb (printL l)) (kb l) (8 * n) 8 (fun t ht => vb_print l _ (by omega)), kb_byte l h n, List.getD, List.getElem?_eq_getElem h2]
    rfl
theorem kb_parse (cs : List Nat) (i : Nat) (h : i < 128) : kb (parseL cs) i = vb cs i := by
  unfold kb bit
  have h2 : i / 8 < 16 := by omega
  have hg : (parseL cs).getD (i / 8) 0 = gv (vb cs) (8 * (i / 8)) 8 := by simp [parseL, List.getD, h2]
  rw [hg]
  have hh := bp_div (fun t => vb cs (8 * (i / 8) + t)) (fun t => vb_le cs _) (i % 8 + 1) (7 - i % 8)
  have e : ∀ k, bp (fun t => vb cs (8 * (i / 8) + t)) k = gv (vb cs) (8 * (i / 8)) k := by
    intro k
    induction k with
    | zero => rfl
    | succ k ih => rw [bp, gv, ih]
  rw [e, e, show i % 8 + 1 + (7 - i % 8) = 8 by omega] at hh
  rw [hh, gv, show 8 * (i / 8) + i % 8 = i by omega]
  have := vb_le cs i
  omega
theorem kb_over (l : List Nat) (hl : l.length = 16) (i : Nat) (h : 128 ≤ i) : kb l i = 0 := by
  unfold kb bit
  rw [List.getD, List.getElem?_eq_none (by omega)]
  simp
/-- What is read is printed. -/
theorem print_parse (cs : List Nat) (hl : cs.length = 22) (h : ∀ c ∈ cs, c < 256) (hv : ∀ i, i < 22 → 0 ≤ vOf (cs.getD i 0)) (hs : (vOf (cs.getD 21 0)).toNat % 16 = 0) : printL (parseL cs) = cs := by
  apply List.ext_getElem
  · rw [printL_len, hl]
  · intro i h1 h2
    simp only [printL, List.getElem_map, List.getElem_range]
    rw [printL_len] at h1
    have hi : cs.getD i 0 = cs[i] := by rw [List.getD, List.getElem?_eq_getElem h2]; rfl
    have hb : ∀ t, t < 6 → kb (parseL cs) (6 * i + t) = vb cs (6 * i + t) := by
      intro t ht
      by_cases h128 : 6 * i + t < 128
      · exact kb_parse cs _ h128
      · rw [kb_over _ (parseL_len cs) _ (by omega)]
        have : i = 21 := by omega
        subst this
        unfold vb
        rw [show (6 * 21 + t) / 6 = 21 by omega, show (6 * 21 + t) % 6 = t by omega]
        generalize (vOf (cs.getD 21 0)).toNat = v at *
        rcases (show t = 2 ∨ t = 3 ∨ t = 4 ∨ t = 5 by omega) with rfl | rfl | rfl | rfl <;> simp <;> omega
    rw [gv_congr _ _ _ _ hb, vb_char cs h i (by omega) (hv i h1)]
    have := (charN_vOf _ (by rw [hi]; exact h _ (List.getElem_mem h2)) (hv i h1)).1
    rw [this, hi]
end Go.Proofs.YtojfghfgaljkkaaDoor
