import Derived.Test.YtdggedgailkceaaEq
namespace Go.Proofs.Ytdggedgailkceaa
set_option linter.unusedVariables false
set_option linter.unusedSimpArgs false
theorem ext16 {a b : List Nat} (ha : a.length = 16) (hb : b.length = 16) (h : ∀ i, i < 16 → a.getD i 0 = b.getD i 0) : a = b := by
  apply List.ext_getElem (by omega)
  intro i h1 h2
  have := h i (by omega)
  simpa [List.getD, h1, h2] using this
theorem range_get (f : Nat → Nat) (i : Nat) (h : i < 16) : ((List.range 16).map f).getD i 0 = f i := by simp [List.getD, h]
theorem set_get (l : List Nat) (k v i : Nat) (hk : k < l.length) : (l.set k v).getD i 0 = if i = k then v else l.getD i 0 := by
  simp only [List.getD, List.getElem?_set]
  by_cases h : k = i
  · subst h; simp [hk]
  · simp [h, Ne.symm h]
theorem zip_get (a b : List Nat) (i : Nat) (ha : a.length = 16) (hb : b.length = 16) : (List.zipWith (· ^^^ ·) a b).getD i 0 = a.getD i 0 ^^^ b.getD i 0 := by
  simp only [List.getD, List.getElem?_zipWith]
  by_cases h : i < 16
  · simp [ha, hb, h]
  · simp [List.getElem?_eq_none (show a.length ≤ i by omega), List.getElem?_eq_none (show b.length ≤ i by omega)]
theorem zip_len (a b : List Nat) (ha : a.length = 16) (hb : b.length = 16) : (List.zipWith (· ^^^ ·) a b).length = 16 := by simp [ha, hb]
theorem zip_lt (a b : List Nat) (ha : ∀ x ∈ a, x < 256) (hb : ∀ x ∈ b, x < 256) : ∀ x ∈ List.zipWith (· ^^^ ·) a b, x < 256 := by
  intro x hx
  obtain ⟨i, hi, rfl⟩ := List.getElem_of_mem hx
  simp only [List.getElem_zipWith]
  exact xor_lt (ha _ (List.getElem_mem _)) (hb _ (List.getElem_mem _))
theorem or_add (k a b : Nat) (h : b < 2 ^ k) : 2 ^ k * a ||| b = 2 ^ k * a + b := (Nat.two_pow_add_eq_or_of_lt h a).symm
theorem db_add (l : List Nat) (h : ∀ x ∈ l, x < 256) (i : Nat) : db l i = l.getD i 0 * 2 % 256 + l.getD (i + 1) 0 / 128 := by
  have h1 := getD_lt h i
  have h2 := getD_lt h (i + 1)
  unfold db
  generalize l.getD i 0 = x at *
  generalize l.getD (i + 1) 0 = y at *
  rw [show x * 2 % 256 = 2 ^ 1 * (x % 128) by omega]
  exact or_add 1 _ _ (by omega)
theorem dbl_len (l : List Nat) : (dbl l).length = 16 := by simp [dbl]
theorem dbl_get (l : List Nat) (i : Nat) (h : i < 16) : (dbl l).getD i 0 = if i = 15 then db l 15 ^^^ red l else db l i := by
  unfold dbl
  rw [set_get _ _ _ _ (by simp), range_get _ _ h]
/-- What a list of bits shows. -/
theorem pv8 (L : List Nat) (j : Nat) : pv L j 8 = ((((((((L.getD (8 * j + 0) 0) * 2 + L.getD (8 * j + 1) 0) * 2 + L.getD (8 * j + 2) 0) * 2 + L.getD (8 * j + 3) 0) * 2 + L.getD (8 * j + 4) 0) * 2 + L.getD (8 * j + 5) 0) * 2 + L.getD (8 * j + 6) 0) * 2 + L.getD (8 * j + 7) 0) := by simp [pv]
theorem off_get (bs : List Nat) (i : Nat) (hl : bs.length = 16) (h : i < 128) : ((bitsTo bs 128).drop 1 ++ [0]).getD i 0 = bit bs (i + 1) := by
  simp only [List.getD, List.getElem?_append, List.length_drop, bitsTo_len]
  by_cases h1 : i < 127
  · rw [if_pos (by omega), List.getElem?_drop]
    rw [show 1 + i = i + 1 by omega]; simp [bitsTo, show i + 1 < 128 by omega]
  · obtain rfl : i = 127 := by omega
    simp [bit, List.getD, List.getElem?_eq_none (show bs.length ≤ 16 by omega)]
theorem bit_at (bs : List Nat) (t c : Nat) (hc : c < 8) : bit bs (8 * t + c) = bs.getD t 0 / 2 ^ (7 - c) % 2 := by
  unfold bit
  rw [show (8 * t + c) / 8 = t by omega, show (8 * t + c) % 8 = c by omega]
theorem rq_get (l : List Nat) (hl : l.length = 16) (h : ∀ x ∈ l, x < 256) (j : Nat) (hj : j < 16) : (rq l).getD j 0 = db l j := by
  unfold rq ofL
  rw [range_get _ _ hj, pv8, db_add l h]
  simp only [off_get l _ hl (show 8 * j + 0 < 128 by omega), off_get l _ hl (show 8 * j + 1 < 128 by omega), off_get l _ hl (show 8 * j + 2 < 128 by omega), off_get l _ hl (show 8 * j + 3 < 128 by omega),
    off_get l _ hl (show 8 * j + 4 < 128 by omega), off_get l _ hl (show 8 * j + 5 < 128 by omega), off_get l _ hl (show 8 * j + 6 < 128 by omega), off_get l _ hl (show 8 * j + 7 < 128 by omega)]
  simp only [Nat.add_assoc, Nat.reduceAdd]
  rw [bit_at _ _ 1 (by omega), bit_at _ _ 2 (by omega), bit_at _ _ 3 (by omega), bit_at _ _ 4 (by omega), bit_at _ _ 5 (by omega), bit_at _ _ 6 (by omega), bit_at _ _ 7 (by omega), show 8 * j + 8 = 8 * (j + 1) + 0 by omega, bit_at _ _ 0 (by omega)]
  have h1 := getD_lt h j
  have h2 := getD_lt h (j + 1)
  generalize l.getD j 0 = x at *
  generalize l.getD (j + 1) 0 = y at *
  simp only [Nat.reduceSub, Nat.reducePow]
  omega
theorem dbl_eq (l : List Nat) (hl : l.length = 16) (h : ∀ x ∈ l, x < 256) : dbl l = rdbl l := by
  have h0 := getD_lt h 0
  have hb : bit l 0 = l.getD 0 0 / 128 := by
    have := bit_at l 0 0 (by omega)
    simp only [Nat.mul_zero, Nat.add_zero, Nat.sub_zero, Nat.reducePow] at this
    rw [this]; omega
  have hred : red l = if bit l 0 = 1 then 135 else 0 := by unfold red; rw [hb]; split <;> split <;> omega
  refine ext16 (dbl_len l) (by unfold rdbl; split <;> simp [rq_len]) fun i hi => ?_
  rw [dbl_get l i hi]
  unfold rdbl
  rw [hred]
  split
  · rename_i h15
    subst h15
    split
    · rw [set_get _ _ _ _ (by rw [rq_len]; omega), if_pos rfl, rq_get l hl h _ (by omega)]
    · rw [rq_get l hl h _ (by omega), Nat.xor_zero]
  · split
    · rw [set_get _ _ _ _ (by rw [rq_len]; omega), if_neg (by assumption), rq_get l hl h _ hi]
    · rw [rq_get l hl h _ hi]
theorem dbl_lt (l : List Nat) (h : ∀ x ∈ l, x < 256) : ∀ x ∈ dbl l, x < 256 := by
  intro x hx
  unfold dbl at hx
  rcases List.mem_or_eq_of_mem_set hx with h1 | rfl
  · simp only [List.mem_map] at h1
    obtain ⟨i, _, rfl⟩ := h1
    exact db_lt h i
  · exact xor_lt (db_lt h 15) (by unfold red; split <;> omega)
theorem eq_bits {a b : Nat} (ha : a < 256) (hb : b < 256) (h : ∀ i, i < 8 → a.testBit i = b.testBit i) : a = b := by
  apply Nat.eq_of_testBit_eq
  intro i
  by_cases hi : i < 8
  · exact h i hi
  · have e : (256 : Nat) ≤ 2 ^ i := by have := Nat.pow_le_pow_right (n := 2) (by omega) (show 8 ≤ i by omega); simpa using this
    rw [Nat.testBit_lt_two_pow (by omega), Nat.testBit_lt_two_pow (by omega)]
theorem db_xor (a b : List Nat) (hl : a.length = 16) (hl2 : b.length = 16) (h : ∀ x ∈ a, x < 256) (h2 : ∀ x ∈ b, x < 256) (i : Nat) : db (List.zipWith (· ^^^ ·) a b) i = db a i ^^^ db b i := by
  unfold db
  rw [zip_get a b _ hl hl2, zip_get a b _ hl hl2]
  have h1 := getD_lt h i
  have h3 := getD_lt h (i + 1)
  have h4 := getD_lt h2 i
  have h5 := getD_lt h2 (i + 1)
  generalize a.getD i 0 = x at *
  generalize a.getD (i + 1) 0 = y at *
  generalize b.getD i 0 = x' at *
  generalize b.getD (i + 1) 0 = y' at *
  apply Nat.eq_of_testBit_eq
  intro k
  have e1 : ∀ z : Nat, z * 2 % 256 = (z <<< 1) % 2 ^ 8 := fun z => by rw [Nat.shiftLeft_eq]
  have e2 : ∀ z : Nat, z / 128 = z >>> 7 := fun z => by rw [Nat.shiftRight_eq_div_pow]
  simp only [e1, e2, Nat.testBit_xor, Nat.testBit_or, Nat.testBit_mod_two_pow, Nat.testBit_shiftLeft, Nat.testBit_shiftRight]
  by_cases hk : 1 ≤ k
  · have hy : y.testBit (7 + k) = false := Nat.testBit_lt_two_pow (Nat.lt_of_lt_of_le h3 (by have := Nat.pow_le_pow_right (n := 2) (by omega) (show 8 ≤ 7 + k by omega); simpa using this))
    have hy' : y'.testBit (7 + k) = false := Nat.testBit_lt_two_pow (Nat.lt_of_lt_of_le h5 (by have := Nat.pow_le_pow_right (n := 2) (by omega) (show 8 ≤ 7 + k by omega); simpa using this))
    simp [hy, hy', hk]
    cases decide (k < 8) <;> simp
  · obtain rfl : k = 0 := by omega
    simp
theorem red_xor (a b : List Nat) (hl : a.length = 16) (hl2 : b.length = 16) (h : ∀ x ∈ a, x < 256) (h2 : ∀ x ∈ b, x < 256) : red (List.zipWith (· ^^^ ·) a b) = red a ^^^ red b := by
  unfold red
  rw [zip_get a b _ hl hl2]
  have h1 := getD_lt h 0
  have h4 := getD_lt h2 0
  generalize a.getD 0 0 = x at *
  generalize b.getD 0 0 = y at *
  have t : ∀ z, z < 256 → (z < 128 ↔ z.testBit 7 = false) := fun z hz => by
    rw [Nat.testBit_eq_decide_div_mod_eq]; simp; omega
  have hx := t _ h1
  have hy := t _ h4
  have hz := t _ (xor_lt h1 h4)
  rw [Nat.testBit_xor] at hz
  cases e1 : x.testBit 7 <;> cases e2 : y.testBit 7 <;> rw [e1] at hx hz <;> rw [e2] at hy hz <;> simp at hx hy hz <;> simp [hx, hy, hz, Nat.not_lt.2]
theorem dbl_xor (a b : List Nat) (hl : a.length = 16) (hl2 : b.length = 16) (h : ∀ x ∈ a, x < 256) (h2 : ∀ x ∈ b, x < 256) : dbl (List.zipWith (· ^^^ ·) a b) = List.zipWith (· ^^^ ·) (dbl a) (dbl b) := by
  refine ext16 (dbl_len _) (zip_len _ _ (dbl_len _) (dbl_len _)) fun i hi => ?_
  rw [zip_get _ _ _ (dbl_len _) (dbl_len _), dbl_get _ _ hi, dbl_get _ _ hi, dbl_get _ _ hi, db_xor a b hl hl2 h h2, db_xor a b hl hl2 h h2, red_xor a b hl hl2 h h2]
  split
  · generalize db a 15 = p; generalize db b 15 = q; generalize red a = r; generalize red b = s
    rw [Nat.xor_assoc, Nat.xor_assoc]; congr 1; rw [← Nat.xor_assoc, ← Nat.xor_assoc, Nat.xor_comm q r]
  · rfl
theorem hb_add (l : List Nat) (h : ∀ x ∈ l, x < 256) (i : Nat) : hb l i = l.getD i 0 / 2 + (if i = 0 then 0 else l.getD (i - 1) 0 % 2 * 128) := by
  have h1 := getD_lt h i
  unfold hb
  generalize l.getD i 0 = x at *
  split
  · simp
  · generalize l.getD (i - 1) 0 = y
    rw [show y * 128 % 256 = 2 ^ 7 * (y % 2) by omega, Nat.or_comm, or_add 7 _ _ (by omega)]; omega
theorem hlv_get (l : List Nat) (i : Nat) (hi : i < 16) : (hlv l).getD i 0 = if i = 0 then hb (hq l) 0 ||| l.getD 15 0 % 2 * 128 else hb (hq l) i := by
  unfold hlv
  rw [set_get _ _ _ _ (by simp), range_get _ _ hi]
theorem hq_get (l : List Nat) (hl : l.length = 16) (i : Nat) : (hq l).getD i 0 = if i = 15 then l.getD 15 0 ^^^ (l.getD 15 0 % 2 * 135) else l.getD i 0 := by
  unfold hq
  rw [set_get _ _ _ _ (by omega)]
theorem hlv_len (l : List Nat) : (hlv l).length = 16 := by simp [hlv]
theorem hlv_lt (l : List Nat) (h : ∀ x ∈ l, x < 256) : ∀ x ∈ hlv l, x < 256 := by
  intro x hx
  unfold hlv at hx
  rcases List.mem_or_eq_of_mem_set hx with h1 | rfl
  · simp only [List.mem_map] at h1
    obtain ⟨i, _, rfl⟩ := h1
    exact hb_lt (hq_lt h) i
  · exact or_lt (hb_lt (hq_lt h) 0) (by omega)
theorem xor_mod2 (a b : Nat) : (a ^^^ b) % 2 = (a + b) % 2 := by
  have e : (a ^^^ b) % 2 ^ 1 = a % 2 ^ 1 ^^^ b % 2 ^ 1 := Nat.xor_mod_two_pow
  simp only [Nat.pow_one] at e
  rw [e]
  rcases Nat.mod_two_eq_zero_or_one a with ha | ha <;> rcases Nat.mod_two_eq_zero_or_one b with hb | hb <;> rw [ha, hb, Nat.add_mod, ha, hb] <;> rfl
theorem top_or (x t : Nat) (hx : x < 128) (ht : t ≤ 1) : x ||| t * 128 = x + t * 128 := by
  rw [show t * 128 = 2 ^ 7 * t by omega, Nat.or_comm, or_add 7 _ _ (by omega)]; omega
theorem halve_dbl (a : List Nat) (hl : a.length = 16) (h : ∀ x ∈ a, x < 256) : hlv (dbl a) = a := by
  have h0 := getD_lt h 0
  have hd15 : (dbl a).getD 15 0 = db a 15 ^^^ red a := by rw [dbl_get _ _ (by omega), if_pos rfl]
  have hz : a.getD 16 0 = 0 := by simp [List.getD, List.getElem?_eq_none (show a.length ≤ 16 by omega)]
  have hred : red a = a.getD 0 0 / 128 * 135 := by unfold red; split <;> omega
  have hodd : (dbl a).getD 15 0 % 2 = a.getD 0 0 / 128 := by
    rw [hd15, xor_mod2, db_add a h, hz, hred]; omega
  have hqe : ∀ i, i < 16 → (hq (dbl a)).getD i 0 = db a i := by
    intro i hi
    rw [hq_get _ (dbl_len a)]
    split
    · rename_i h15; subst h15
      rw [hodd, hd15, hred, Nat.xor_assoc, Nat.xor_self, Nat.xor_zero]
    · rw [dbl_get _ _ hi, if_neg (by assumption)]
  have hql := hq_lt (dbl_lt a h)
  refine ext16 (hlv_len _) hl fun i hi => ?_
  rw [hlv_get _ _ hi, hodd]
  split
  · rename_i h1; subst h1
    have e : hb (hq (dbl a)) 0 = a.getD 0 0 % 128 := by
      have h1 := getD_lt h (0 + 1)
      rw [hb_add _ hql, hqe 0 (by omega), db_add a h, if_pos rfl]; omega
    rw [e, top_or _ _ (by omega) (by omega)]; omega
  · rename_i h1
    rw [hb_add _ hql, hqe i hi, hqe (i - 1) (by omega), if_neg h1, db_add a h, db_add a h, show i - 1 + 1 = i by omega]
    have h2 := getD_lt h i
    have h3 := getD_lt h (i + 1)
    generalize a.getD i 0 = x at *
    generalize a.getD (i + 1) 0 = y at *
    generalize a.getD (i - 1) 0 = z
    omega
theorem dbl_halve (a : List Nat) (hl : a.length = 16) (h : ∀ x ∈ a, x < 256) : dbl (hlv a) = a := by
  have hvl := hlv_lt a h
  have hql := hq_lt h
  have h15 := getD_lt h 15
  have ht : a.getD 15 0 % 2 ≤ 1 := by omega
  have hq0 := getD_lt hql 0
  have v0 : (hlv a).getD 0 0 = (hq a).getD 0 0 / 2 + a.getD 15 0 % 2 * 128 := by
    rw [hlv_get _ _ (by omega), if_pos rfl, hb_add _ hql]
    simp only [if_true, Nat.add_zero]
    exact top_or _ _ (by omega) ht
  have vi : ∀ i, 0 < i → i < 16 → (hlv a).getD i 0 = (hq a).getD i 0 / 2 + (hq a).getD (i - 1) 0 % 2 * 128 := by
    intro i h0 hi
    rw [hlv_get _ _ hi, if_neg (by omega), hb_add _ hql, if_neg (by omega)]
  have vi2 : ∀ i, i < 16 → (hlv a).getD i 0 * 2 % 256 = (hq a).getD i 0 / 2 * 2 := by
    intro i hi
    have := getD_lt hql i
    rcases Nat.eq_zero_or_pos i with h0 | h0
    · subst h0; rw [v0]; omega
    · rw [vi i h0 hi]; omega
  have hz : (hlv a).getD 16 0 = 0 := by simp [List.getD, List.getElem?_eq_none (show (hlv a).length ≤ 16 by rw [hlv_len]; omega)]
  have q15 : (hq a).getD 15 0 = a.getD 15 0 ^^^ (a.getD 15 0 % 2 * 135) := by rw [hq_get a hl, if_pos rfl]
  have q15e : (hq a).getD 15 0 % 2 = 0 := by rw [q15, xor_mod2]; omega
  have hred : red (hlv a) = a.getD 15 0 % 2 * 135 := by unfold red; rw [v0]; split <;> omega
  refine ext16 (dbl_len _) hl fun i hi => ?_
  rw [dbl_get _ _ hi]
  split
  · rename_i e; subst e
    rw [db_add _ hvl, vi2 15 (by omega), hz, hred]
    simp only [Nat.zero_div, Nat.add_zero]
    rw [show (hq a).getD 15 0 / 2 * 2 = (hq a).getD 15 0 by omega, q15, Nat.xor_assoc, Nat.xor_self, Nat.xor_zero]
  · rename_i e
    rw [db_add _ hvl, vi2 i hi, vi (i + 1) (by omega) (by omega), Nat.add_sub_cancel]
    have e2 : (hq a).getD i 0 = a.getD i 0 := by rw [hq_get a hl, if_neg e]
    have h5 := getD_lt hql (i + 1)
    rw [e2]
    generalize a.getD i 0 = x at *
    generalize (hq a).getD (i + 1) 0 = y at *
    omega
end Go.Proofs.Ytdggedgailkceaa
