import Derived.Test.YtdggedgailkceaaPlain
namespace Go.Proofs.Ytdggedgailkceaa
set_option linter.unusedVariables false
set_option linter.unusedSimpArgs false
theorem cut_get (bs : List Nat) (m i : Nat) (hm : m ≤ 64) (h : i < 128) : (((bitsTo bs 192).drop m).take 128).getD i 0 = bit bs (m + i) := by
  simp only [List.getD, List.getElem?_take_of_lt h, List.getElem?_drop]
  simp [bitsTo, show m + i < 192 by omega]
theorem rsh_len (l : List Nat) (m : Nat) : (rsh l m).length = 16 := by simp [rsh, ofL]
theorem rsh_get (l : List Nat) (m i : Nat) (hm : m ≤ 64) (hi : i < 16) : (rsh l m).getD i 0 = ((((((((bit l (m + (8 * i + 0))) * 2 + bit l (m + (8 * i + 1))) * 2 + bit l (m + (8 * i + 2))) * 2 + bit l (m + (8 * i + 3))) * 2 + bit l (m + (8 * i + 4))) * 2 + bit l (m + (8 * i + 5))) * 2 + bit l (m + (8 * i + 6))) * 2 + bit l (m + (8 * i + 7))) := by
  unfold rsh ofL
  rw [range_get _ _ hi, pv8]
  simp only [cut_get l m _ hm (show 8 * i + 0 < 128 by omega), cut_get l m _ hm (show 8 * i + 1 < 128 by omega), cut_get l m _ hm (show 8 * i + 2 < 128 by omega), cut_get l m _ hm (show 8 * i + 3 < 128 by omega),
    cut_get l m _ hm (show 8 * i + 4 < 128 by omega), cut_get l m _ hm (show 8 * i + 5 < 128 by omega), cut_get l m _ hm (show 8 * i + 6 < 128 by omega), cut_get l m _ hm (show 8 * i + 7 < 128 by omega)]
theorem bit_here (l : List Nat) (q k i r : Nat) (h : k + r < 8) : bit l (8 * q + k + (8 * i + r)) = l.getD (i + q) 0 / 2 ^ (7 - (k + r)) % 2 := by
  rw [show 8 * q + k + (8 * i + r) = 8 * (i + q) + (k + r) by omega, bit_at _ _ _ h]
theorem bit_next (l : List Nat) (q k i r : Nat) (h : 8 ≤ k + r) (h2 : k + r < 16) : bit l (8 * q + k + (8 * i + r)) = l.getD (i + q + 1) 0 / 2 ^ (7 - (k + r - 8)) % 2 := by
  rw [show 8 * q + k + (8 * i + r) = 8 * (i + q + 1) + (k + r - 8) by omega, bit_at _ _ _ (by omega)]
theorem sb_add (x y k : Nat) (hk : k < 8) (hy : y < 256) : (x * 2 ^ k % 256 ||| (if k = 0 then 0 else y / 2 ^ (8 - k))) = x % 2 ^ (8 - k) * 2 ^ k + (if k = 0 then 0 else y / 2 ^ (8 - k)) := by
  have e : x * 2 ^ k % 256 = 2 ^ k * (x % 2 ^ (8 - k)) := by
    have : (256 : Nat) = 2 ^ (8 - k) * 2 ^ k := by rw [← Nat.pow_add, show 8 - k + k = 8 by omega]
    rw [this, Nat.mul_mod_mul_right, Nat.mul_comm]
  rw [e, or_add k, Nat.mul_comm]
  split
  · exact Nat.two_pow_pos k
  · rw [Nat.div_lt_iff_lt_mul (Nat.two_pow_pos _), ← Nat.pow_add, show k + (8 - k) = 8 by omega]; exact hy
theorem sh0_all : (List.range 256).all (fun x => x % 256 * 1 == (((((((x / 128 % 2) * 2 + x / 64 % 2) * 2 + x / 32 % 2) * 2 + x / 16 % 2) * 2 + x / 8 % 2) * 2 + x / 4 % 2) * 2 + x / 2 % 2) * 2 + x / 1 % 2) = true := by decide +kernel
theorem sh0 (x y : Nat) (hx : x < 256) (hy : y < 256) : x % 256 * 1 = (((((((x / 128 % 2) * 2 + x / 64 % 2) * 2 + x / 32 % 2) * 2 + x / 16 % 2) * 2 + x / 8 % 2) * 2 + x / 4 % 2) * 2 + x / 2 % 2) * 2 + x / 1 % 2 := by
  have := List.all_eq_true.1 sh0_all x (by simpa using hx)
  simpa using this
theorem sh1 (x y : Nat) (hx : x < 256) (hy : y < 256) : x % 128 * 2 + y / 128 = (((((((x / 64 % 2) * 2 + x / 32 % 2) * 2 + x / 16 % 2) * 2 + x / 8 % 2) * 2 + x / 4 % 2) * 2 + x / 2 % 2) * 2 + x / 1 % 2) * 2 + y / 128 % 2 := by omega
theorem sh2 (x y : Nat) (hx : x < 256) (hy : y < 256) : x % 64 * 4 + y / 64 = (((((((x / 32 % 2) * 2 + x / 16 % 2) * 2 + x / 8 % 2) * 2 + x / 4 % 2) * 2 + x / 2 % 2) * 2 + x / 1 % 2) * 2 + y / 128 % 2) * 2 + y / 64 % 2 := by omega
theorem sh3 (x y : Nat) (hx : x < 256) (hy : y < 256) : x % 32 * 8 + y / 32 = (((((((x / 16 % 2) * 2 + x / 8 % 2) * 2 + x / 4 % 2) * 2 + x / 2 % 2) * 2 + x / 1 % 2) * 2 + y / 128 % 2) * 2 + y / 64 % 2) * 2 + y / 32 % 2 := by omega
theorem sh4 (x y : Nat) (hx : x < 256) (hy : y < 256) : x % 16 * 16 + y / 16 = (((((((x / 8 % 2) * 2 + x / 4 % 2) * 2 + x / 2 % 2) * 2 + x / 1 % 2) * 2 + y / 128 % 2) * 2 + y / 64 % 2) * 2 + y / 32 % 2) * 2 + y / 16 % 2 := by omega
theorem sh5 (x y : Nat) (hx : x < 256) (hy : y < 256) : x % 8 * 32 + y / 8 = (((((((x / 4 % 2) * 2 + x / 2 % 2) * 2 + x / 1 % 2) * 2 + y / 128 % 2) * 2 + y / 64 % 2) * 2 + y / 32 % 2) * 2 + y / 16 % 2) * 2 + y / 8 % 2 := by omega
theorem sh6 (x y : Nat) (hx : x < 256) (hy : y < 256) : x % 4 * 64 + y / 4 = (((((((x / 2 % 2) * 2 + x / 1 % 2) * 2 + y / 128 % 2) * 2 + y / 64 % 2) * 2 + y / 32 % 2) * 2 + y / 16 % 2) * 2 + y / 8 % 2) * 2 + y / 4 % 2 := by omega
theorem sh7 (x y : Nat) (hx : x < 256) (hy : y < 256) : x % 2 * 128 + y / 2 = (((((((x / 1 % 2) * 2 + y / 128 % 2) * 2 + y / 64 % 2) * 2 + y / 32 % 2) * 2 + y / 16 % 2) * 2 + y / 8 % 2) * 2 + y / 4 % 2) * 2 + y / 2 % 2 := by omega
theorem rs0 (l : List Nat) (q i : Nat) (hm : 8 * q + 0 ≤ 64) (hi : i < 16) (h : ∀ x ∈ l, x < 256) : (rsh l (8 * q + 0)).getD i 0 = l.getD (i + q) 0 % 256 * 1 := by
  rw [rsh_get l _ i hm hi, bit_here l q 0 i 0 (by omega), bit_here l q 0 i 1 (by omega), bit_here l q 0 i 2 (by omega), bit_here l q 0 i 3 (by omega), bit_here l q 0 i 4 (by omega), bit_here l q 0 i 5 (by omega), bit_here l q 0 i 6 (by omega), bit_here l q 0 i 7 (by omega)]
  exact (sh0 _ 0 (getD_lt h _) (by omega)).symm
theorem rs1 (l : List Nat) (q i : Nat) (hm : 8 * q + 1 ≤ 64) (hi : i < 16) (h : ∀ x ∈ l, x < 256) : (rsh l (8 * q + 1)).getD i 0 = l.getD (i + q) 0 % 128 * 2 + l.getD (i + q + 1) 0 / 128 := by
  rw [rsh_get l _ i hm hi, bit_here l q 1 i 0 (by omega), bit_here l q 1 i 1 (by omega), bit_here l q 1 i 2 (by omega), bit_here l q 1 i 3 (by omega), bit_here l q 1 i 4 (by omega), bit_here l q 1 i 5 (by omega), bit_here l q 1 i 6 (by omega), bit_next l q 1 i 7 (by omega) (by omega)]
  exact (sh1 _ _ (getD_lt h _) (getD_lt h _)).symm
theorem rs2 (l : List Nat) (q i : Nat) (hm : 8 * q + 2 ≤ 64) (hi : i < 16) (h : ∀ x ∈ l, x < 256) : (rsh l (8 * q + 2)).getD i 0 = l.getD (i + q) 0 % 64 * 4 + l.getD (i + q + 1) 0 / 64 := by
  rw [rsh_get l _ i hm hi, bit_here l q 2 i 0 (by omega), bit_here l q 2 i 1 (by omega), bit_here l q 2 i 2 (by omega), bit_here l q 2 i 3 (by omega), bit_here l q 2 i 4 (by omega), bit_here l q 2 i 5 (by omega), bit_next l q 2 i 6 (by omega) (by omega), bit_next l q 2 i 7 (by omega) (by omega)]
  exact (sh2 _ _ (getD_lt h _) (getD_lt h _)).symm
theorem rs3 (l : List Nat) (q i : Nat) (hm : 8 * q + 3 ≤ 64) (hi : i < 16) (h : ∀ x ∈ l, x < 256) : (rsh l (8 * q + 3)).getD i 0 = l.getD (i + q) 0 % 32 * 8 + l.getD (i + q + 1) 0 / 32 := by
  rw [rsh_get l _ i hm hi, bit_here l q 3 i 0 (by omega), bit_here l q 3 i 1 (by omega), bit_here l q 3 i 2 (by omega), bit_here l q 3 i 3 (by omega), bit_here l q 3 i 4 (by omega), bit_next l q 3 i 5 (by omega) (by omega), bit_next l q 3 i 6 (by omega) (by omega), bit_next l q 3 i 7 (by omega) (by omega)]
  exact (sh3 _ _ (getD_lt h _) (getD_lt h _)).symm
theorem rs4 (l : List Nat) (q i : Nat) (hm : 8 * q + 4 ≤ 64) (hi : i < 16) (h : ∀ x ∈ l, x < 256) : (rsh l (8 * q + 4)).getD i 0 = l.getD (i + q) 0 % 16 * 16 + l.getD (i + q + 1) 0 / 16 := by
  rw [rsh_get l _ i hm hi, bit_here l q 4 i 0 (by omega), bit_here l q 4 i 1 (by omega), bit_here l q 4 i 2 (by omega), bit_here l q 4 i 3 (by omega), bit_next l q 4 i 4 (by omega) (by omega), bit_next l q 4 i 5 (by omega) (by omega), bit_next l q 4 i 6 (by omega) (by omega), bit_next l q 4 i 7 (by omega) (by omega)]
  exact (sh4 _ _ (getD_lt h _) (getD_lt h _)).symm
theorem rs5 (l : List Nat) (q i : Nat) (hm : 8 * q + 5 ≤ 64) (hi : i < 16) (h : ∀ x ∈ l, x < 256) : (rsh l (8 * q + 5)).getD i 0 = l.getD (i + q) 0 % 8 * 32 + l.getD (i + q + 1) 0 / 8 := by
  rw [rsh_get l _ i hm hi, bit_here l q 5 i 0 (by omega), bit_here l q 5 i 1 (by omega), bit_here l q 5 i 2 (by omega), bit_next l q 5 i 3 (by omega) (by omega), bit_next l q 5 i 4 (by omega) (by omega), bit_next l q 5 i 5 (by omega) (by omega), bit_next l q 5 i 6 (by omega) (by omega), bit_next l q 5 i 7 (by omega) (by omega)]
  exact (sh5 _ _ (getD_lt h _) (getD_lt h _)).symm
theorem rs6 (l : List Nat) (q i : Nat) (hm : 8 * q + 6 ≤ 64) (hi : i < 16) (h : ∀ x ∈ l, x < 256) : (rsh l (8 * q + 6)).getD i 0 = l.getD (i + q) 0 % 4 * 64 + l.getD (i + q + 1) 0 / 4 := by
  rw [rsh_get l _ i hm hi, bit_here l q 6 i 0 (by omega), bit_here l q 6 i 1 (by omega), bit_next l q 6 i 2 (by omega) (by omega), bit_next l q 6 i 3 (by omega) (by omega), bit_next l q 6 i 4 (by omega) (by omega), bit_next l q 6 i 5 (by omega) (by omega), bit_next l q 6 i 6 (by omega) (by omega), bit_next l q 6 i 7 (by omega) (by omega)]
  exact (sh6 _ _ (getD_lt h _) (getD_lt h _)).symm
theorem rs7 (l : List Nat) (q i : Nat) (hm : 8 * q + 7 ≤ 64) (hi : i < 16) (h : ∀ x ∈ l, x < 256) : (rsh l (8 * q + 7)).getD i 0 = l.getD (i + q) 0 % 2 * 128 + l.getD (i + q + 1) 0 / 2 := by
  rw [rsh_get l _ i hm hi, bit_here l q 7 i 0 (by omega), bit_next l q 7 i 1 (by omega) (by omega), bit_next l q 7 i 2 (by omega) (by omega), bit_next l q 7 i 3 (by omega) (by omega), bit_next l q 7 i 4 (by omega) (by omega), bit_next l q 7 i 5 (by omega) (by omega), bit_next l q 7 i 6 (by omega) (by omega), bit_next l q 7 i 7 (by omega) (by omega)]
  exact (sh7 _ _ (getD_lt h _) (getD_lt h _)).symm
theorem sb_get (l : List Nat) (q k i : Nat) (hk : k < 8) (h : ∀ x ∈ l, x < 256) : sb l (8 * q + k) i = l.getD (i + q) 0 % 2 ^ (8 - k) * 2 ^ k + (if k = 0 then 0 else l.getD (i + q + 1) 0 / 2 ^ (8 - k)) := by
  unfold sb
  rw [show (8 * q + k) / 8 = q by omega, show (8 * q + k) % 8 = k by omega]
  exact sb_add _ _ _ hk (getD_lt h _)
theorem shift_eq (l : List Nat) (m : Nat) (hm : m ≤ 64) (h : ∀ x ∈ l, x < 256) : (List.range 16).map (sb l m) = rsh l m := by
  refine ext16 (by simp) (rsh_len l m) fun i hi => ?_
  rw [range_get _ _ hi]
  obtain ⟨q, k, hk, rfl⟩ : ∃ q k, k < 8 ∧ m = 8 * q + k := ⟨m / 8, m % 8, by omega, by omega⟩
  rw [sb_get l q k i hk h]
  rcases (by omega : k = 0 ∨ k = 1 ∨ k = 2 ∨ k = 3 ∨ k = 4 ∨ k = 5 ∨ k = 6 ∨ k = 7) with rfl | rfl | rfl | rfl | rfl | rfl | rfl | rfl
  · rw [rs0 l q i hm hi h]; rfl
  · rw [rs1 l q i hm hi h]; rfl
  · rw [rs2 l q i hm hi h]; rfl
  · rw [rs3 l q i hm hi h]; rfl
  · rw [rs4 l q i hm hi h]; rfl
  · rw [rs5 l q i hm hi h]; rfl
  · rw [rs6 l q i hm hi h]; rfl
  · rw [rs7 l q i hm hi h]; rfl
theorem padL_eq (bs : List Nat) (h : bs.length < 16) : padL bs = rpadTo bs (15 - bs.length) := by
  have hz : zeros.drop bs.length = 0 :: List.replicate (15 - bs.length) 0 := by
    unfold zeros
    rw [List.drop_replicate, show 16 - bs.length = (15 - bs.length) + 1 by omega, List.replicate_succ]
  unfold padL rpadTo
  rw [hz, List.set_append_right _ _ (Nat.le_refl _), Nat.sub_self]
  rfl
theorem rpad_get (bs : List Nat) (h : bs.length < 16) (k : Nat) (hk : bs.length < k) (h2 : k < 16) : (rpadTo bs (15 - bs.length)).getD k 0 = 0 := by
  unfold rpadTo
  rw [List.getD, List.getElem?_append_right (by omega)]
  obtain ⟨j, hj⟩ : ∃ j, k - bs.length = j + 1 := ⟨k - bs.length - 1, by omega⟩
  rw [hj, List.getElem?_cons_succ]
  simp [show j < 15 - bs.length by omega]
theorem rpad_mark (bs : List Nat) (h : bs.length < 16) : (rpadTo bs (15 - bs.length)).getD bs.length 0 = 128 := by
  unfold rpadTo
  rw [List.getD, List.getElem?_append_right (Nat.le_refl _), Nat.sub_self]; rfl
theorem upn_at (l : List Nat) (n : Nat) (hn : l.getD n 0 ≠ 0) : ∀ k, n ≤ k → (∀ j, n < j → j ≤ k → l.getD j 0 = 0) → upn l k = n := by
  intro k
  induction k with
  | zero => intro h _; obtain rfl : n = 0 := by omega
            rfl
  | succ k ih =>
    intro h hz
    by_cases e : n = k + 1
    · subst e; simp only [upn, hn, if_false]
    · simp only [upn, hz (k + 1) (by omega) (Nat.le_refl _), if_true]
      exact ih (by omega) fun j h1 h2 => hz j h1 (by omega)
theorem upn_pad (bs : List Nat) (h : bs.length < 16) : upn (rpadTo bs (15 - bs.length)) 15 = bs.length :=
  upn_at _ _ (by rw [rpad_mark bs h]; omega) 15 (by omega) fun j h1 h2 => rpad_get bs h j h1 (by omega)
theorem take_pad (bs : List Nat) (k : Nat) : (rpadTo bs k).take bs.length = bs := by simp [rpadTo]
theorem upn_zero (l : List Nat) : ∀ k j, upn l k < j → j ≤ k → l.getD j 0 = 0 := by
  intro k
  induction k with
  | zero => intro j h1 h2; omega
  | succ k ih =>
    intro j h1 h2
    simp only [upn] at h1
    split at h1
    · by_cases e : j = k + 1
      · subst e; assumption
      · exact ih j h1 (by omega)
    · omega
theorem pad_upn (l : List Nat) (hl : l.length = 16) (h : l.getD (upn l 15) 0 = 128) : rpadTo (l.take (upn l 15)) (15 - upn l 15) = l := by
  have hn := upn_le l 15
  obtain ⟨n, he⟩ : ∃ n, upn l 15 = n := ⟨_, rfl⟩
  have hz := upn_zero l 15
  rw [he] at h hn hz ⊢
  refine ext16 (by simp [rpadTo]; omega) hl fun i hi => ?_
  unfold rpadTo
  rw [List.getD, List.getElem?_append]
  have e1 : (l.take n).length = n := by simp; omega
  rw [e1]
  by_cases h1 : i < n
  · rw [if_pos h1, List.getElem?_take_of_lt h1]; rfl
  · rw [if_neg h1]
    by_cases h2 : i = n
    · subst h2; rw [Nat.sub_self, h]; rfl
    · obtain ⟨j, hj⟩ : ∃ j, i - n = j + 1 := ⟨i - n - 1, by omega⟩
      rw [hj, List.getElem?_cons_succ, hz i (by omega) (by omega)]
      simp [show j < 15 - n by omega]
theorem pad_only (l : List Nat) (n : Nat) (hl : l.length = 16) (hn : n < 16) (h : rpadTo (l.take n) (15 - n) = l) : upn l 15 = n ∧ l.getD n 0 = 128 := by
  have e : (l.take n).length = n := by simp; omega
  have h1 := upn_pad (l.take n) (by omega)
  have h2 := rpad_mark (l.take n) (by omega)
  rw [e, h] at h1 h2
  exact ⟨h1, h2⟩
end Go.Proofs.Ytdggedgailkceaa
