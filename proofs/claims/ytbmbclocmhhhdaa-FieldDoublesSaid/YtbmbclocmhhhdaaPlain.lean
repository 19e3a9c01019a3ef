/-
  PLAIN: the field of 256 bytes on natural numbers: products, powers, inverses; what the reference's product is. No program in sight.
-/
namespace Go.Proofs.Ytbmbclocmhhhdaa
def dbl (a : Nat) : Nat := (a * 2) % 256 ^^^ (if 128 ≤ a then 27 else 0)
def gmf : Nat → Nat → Nat → Nat
  | 0, _, _ => 0
  | n + 1, a, b => (if b % 2 = 1 then a else 0) ^^^ gmf n (dbl a) (b / 2)
def gm (a b : Nat) : Nat := gmf 8 a b
/-- One row of the reference's double loop, k columns. -/
def rrow (x : Bool) (b i : Nat) : Nat → Nat
  | 0 => 0
  | k + 1 => rrow x b i k ^^^ (if x && b.testBit k then 2 ^ (i + k) else 0)
/-- The reference's polynomial after i rows. -/
def rpol (a b : Nat) : Nat → Nat
  | 0 => 0
  | i + 1 => rpol a b i ^^^ (if a.testBit i then b <<< i else 0)
def rstep (i q : Nat) : Nat := if q.testBit i then q ^^^ (2 ^ (i - 4) ^^^ 2 ^ (i - 5) ^^^ 2 ^ (i - 7) ^^^ 2 ^ (i - 8)) else q
/-- n steps of the reduction, from place 14 down. -/
def rred (q : Nat) : Nat → Nat
  | 0 => q
  | n + 1 => rstep (14 - n) (rred q n)
def rm (a b : Nat) : Nat := rred (rpol a b 8) 7 % 256

theorem xor_lt {a b : Nat} (ha : a < 256) (hb : b < 256) : a ^^^ b < 256 := Nat.xor_lt_two_pow (n := 8) ha hb
theorem dbl_lt (a : Nat) : dbl a < 256 := by unfold dbl; exact xor_lt (Nat.mod_lt _ (by omega)) (by split <;> omega)
theorem gmf_lt (n : Nat) : ∀ a b, a < 256 → gmf n a b < 256 := by
  induction n with
  | zero => intro a b _; simp [gmf]
  | succ n ih => intro a b ha; unfold gmf; exact xor_lt (by split <;> omega) (ih _ _ (dbl_lt a))
theorem gm_lt (a b : Nat) (ha : a < 256) : gm a b < 256 := gmf_lt 8 a b ha
theorem gmf_zero (n : Nat) : ∀ a, gmf n a 0 = 0 := by
  induction n with
  | zero => intro a; rfl
  | succ n ih => intro a; simp [gmf, ih]
theorem gm_zero (a : Nat) : gm a 0 = 0 := gmf_zero 8 a
theorem xor4 (a b c d : Nat) : (a ^^^ b) ^^^ (c ^^^ d) = (a ^^^ c) ^^^ (b ^^^ d) := by
  rw [Nat.xor_assoc, Nat.xor_assoc, ← Nat.xor_assoc b, Nat.xor_comm b c, Nat.xor_assoc c]
theorem gmf_xor (n : Nat) : ∀ a b c, gmf n a (b ^^^ c) = gmf n a b ^^^ gmf n a c := by
  induction n with
  | zero => intro a b c; simp [gmf]
  | succ n ih =>
    intro a b c
    have h2 : (b ^^^ c) / 2 = b / 2 ^^^ c / 2 := by
      have := Nat.shiftRight_xor_distrib (a := b) (b := c) (i := 1)
      simpa [Nat.shiftRight_succ] using this
    have h1 : (if (b ^^^ c) % 2 = 1 then a else 0) = (if b % 2 = 1 then a else 0) ^^^ (if c % 2 = 1 then a else 0) := by
      have := @Nat.xor_mod_two_eq_one b c
      by_cases hb : b % 2 = 1 <;> by_cases hc : c % 2 = 1 <;> simp [this, hb, hc]
    simp only [gmf]
    rw [h1, h2, ih, xor4]
theorem gm_xor (a b c : Nat) : gm a (b ^^^ c) = gm a b ^^^ gm a c := gmf_xor 8 a b c

theorem small_split : (List.range 256).all (fun x => x == 0 || (Nat.log2 x < 8 && (x ^^^ 2 ^ Nat.log2 x) < x)) = true := by decide +kernel
/-- Two functions that carry sums to sums and agree on the powers of 2 agree on all bytes. -/
theorem ext8 (f g : Nat → Nat) (hf : ∀ x y, x < 256 → y < 256 → f (x ^^^ y) = f x ^^^ f y) (hg : ∀ x y, x < 256 → y < 256 → g (x ^^^ y) = g x ^^^ g y)
    (h : ∀ i, i < 8 → f (2 ^ i) = g (2 ^ i)) : ∀ x, x < 256 → f x = g x := by
  intro x
  induction x using Nat.strongRecOn with
  | ind x ih =>
    intro hx
    have hs := small_split
    simp only [List.all_eq_true, List.mem_range, Bool.or_eq_true, Bool.and_eq_true, beq_iff_eq, decide_eq_true_eq] at hs
    rcases hs x hx with rfl | ⟨h1, h2⟩
    · have a := hf 0 0 (by omega) (by omega)
      have b := hg 0 0 (by omega) (by omega)
      simp at a b
      rw [a, b]
    · have hp : 2 ^ Nat.log2 x < 256 := by
        have : 2 ^ Nat.log2 x ≤ 2 ^ 7 := Nat.pow_le_pow_right (by omega) (by omega)
        omega
      have e : x = 2 ^ Nat.log2 x ^^^ (x ^^^ 2 ^ Nat.log2 x) := by rw [Nat.xor_comm x, ← Nat.xor_assoc, Nat.xor_self, Nat.zero_xor]
      rw [e, hf _ _ hp (by omega), hg _ _ hp (by omega), h _ h1, ih _ h2 (by omega)]
theorem top_bit : (List.range 256).all (fun x => decide (128 ≤ x) == x.testBit 7) = true := by decide +kernel
theorem top_iff {x : Nat} (h : x < 256) : 128 ≤ x ↔ x.testBit 7 = true := by
  have hs := top_bit
  simp only [List.all_eq_true, List.mem_range, beq_iff_eq] at hs
  rw [← hs x h, decide_eq_true_eq]
theorem dbl_xor (a b : Nat) (ha : a < 256) (hb : b < 256) : dbl (a ^^^ b) = dbl a ^^^ dbl b := by
  have h1 : (a ^^^ b) * 2 % 256 = a * 2 % 256 ^^^ b * 2 % 256 := by
    have e : (a ^^^ b) * 2 = a * 2 ^^^ b * 2 := by
      have := Nat.shiftLeft_xor_distrib (a := a) (b := b) (i := 1)
      simpa [Nat.shiftLeft_eq] using this
    rw [e]
    exact Nat.xor_mod_two_pow (n := 8)
  have h2 : (if 128 ≤ a ^^^ b then 27 else 0) = (if 128 ≤ a then 27 else 0) ^^^ (if 128 ≤ b then 27 else 0) := by
    simp only [top_iff ha, top_iff hb, top_iff (xor_lt ha hb), Nat.testBit_xor]
    cases a.testBit 7 <;> cases b.testBit 7 <;> rfl
  unfold dbl
  rw [h1, h2, xor4]
theorem gmf_xor_left (n : Nat) : ∀ a c b, a < 256 → c < 256 → gmf n (a ^^^ c) b = gmf n a b ^^^ gmf n c b := by
  induction n with
  | zero => intro a c b _ _; simp [gmf]
  | succ n ih =>
    intro a c b ha hc
    simp only [gmf]
    rw [dbl_xor a c ha hc, ih _ _ _ (dbl_lt a) (dbl_lt c), ← xor4]
    congr 1
    split <;> simp
theorem gm_xor_left (a c b : Nat) (ha : a < 256) (hc : c < 256) : gm (a ^^^ c) b = gm a b ^^^ gm c b := gmf_xor_left 8 a c b ha hc
theorem pow_lt8 {i : Nat} (h : i < 8) : 2 ^ i < 256 := by
  have : 2 ^ i ≤ 2 ^ 7 := Nat.pow_le_pow_right (by omega) (by omega)
  omega
theorem gm_comm (a b : Nat) (ha : a < 256) (hb : b < 256) : gm a b = gm b a := by
  refine ext8 (fun x => gm x b) (fun x => gm b x) (fun x y hx hy => gm_xor_left x y b hx hy) (fun x y _ _ => gm_xor b x y) (fun i hi => ?_) a ha
  refine ext8 (fun y => gm (2 ^ i) y) (fun y => gm y (2 ^ i)) (fun x y _ _ => gm_xor _ x y) (fun x y hx hy => gm_xor_left x y _ hx hy) (fun j hj => ?_) b hb
  have h : ∀ i, i < 8 → ∀ j, j < 8 → gm (2 ^ i) (2 ^ j) = gm (2 ^ j) (2 ^ i) := by decide +kernel
  exact h i hi j hj
theorem gm_assoc (a b c : Nat) (ha : a < 256) (hb : b < 256) (hc : c < 256) : gm (gm a b) c = gm a (gm b c) := by
  refine ext8 (fun c => gm (gm a b) c) (fun c => gm a (gm b c)) (fun x y _ _ => gm_xor _ x y) (fun x y _ _ => by show gm a (gm b (x ^^^ y)) = _; rw [gm_xor, gm_xor]) (fun k hk => ?_) c hc
  refine ext8 (fun b => gm (gm a b) (2 ^ k)) (fun b => gm a (gm b (2 ^ k))) (fun x y hx hy => by show gm (gm a (x ^^^ y)) _ = _; rw [gm_xor, gm_xor_left _ _ _ (gm_lt _ _ ha) (gm_lt _ _ ha)])
    (fun x y hx hy => by show gm a (gm (x ^^^ y) _) = _; rw [gm_xor_left _ _ _ hx hy, gm_xor]) (fun j hj => ?_) b hb
  refine ext8 (fun a => gm (gm a (2 ^ j)) (2 ^ k)) (fun a => gm a (gm (2 ^ j) (2 ^ k))) (fun x y hx hy => by show gm (gm (x ^^^ y) _) _ = _; rw [gm_xor_left _ _ _ hx hy, gm_xor_left _ _ _ (gm_lt _ _ hx) (gm_lt _ _ hy)])
    (fun x y hx hy => gm_xor_left _ _ _ hx hy) (fun i hi => ?_) a ha
  have h : ∀ i, i < 8 → ∀ j, j < 8 → ∀ k, k < 8 → gm (gm (2 ^ i) (2 ^ j)) (2 ^ k) = gm (2 ^ i) (gm (2 ^ j) (2 ^ k)) := by decide +kernel
  exact h i hi j hj k hk
theorem gm_one (a : Nat) (_ : a < 256) : gm a 1 = a := by simp [gm, gmf]
theorem gm_one_left (a : Nat) (ha : a < 256) : gm 1 a = a := by rw [gm_comm 1 a (by omega) ha, gm_one a ha]

/-! ### the reference's product -/
theorem rpol_xor (a b c : Nat) (n : Nat) : rpol a (b ^^^ c) n = rpol a b n ^^^ rpol a c n := by
  induction n with
  | zero => simp [rpol]
  | succ n ih =>
    simp only [rpol]
    rw [ih, xor4]
    congr 1
    split
    · exact Nat.shiftLeft_xor_distrib
    · simp
theorem rpol_xor_left (a c b : Nat) (n : Nat) : rpol (a ^^^ c) b n = rpol a b n ^^^ rpol c b n := by
  induction n with
  | zero => simp [rpol]
  | succ n ih =>
    simp only [rpol, Nat.testBit_xor]
    rw [ih, xor4]
    congr 1
    cases a.testBit n <;> cases c.testBit n <;> simp
theorem rstep_xor (i p q : Nat) : rstep i (p ^^^ q) = rstep i p ^^^ rstep i q := by
  unfold rstep
  simp only [Nat.testBit_xor]
  generalize 2 ^ (i - 4) ^^^ 2 ^ (i - 5) ^^^ 2 ^ (i - 7) ^^^ 2 ^ (i - 8) = m
  cases p.testBit i <;> cases q.testBit i <;> simp
  · rw [Nat.xor_assoc]
  · rw [Nat.xor_assoc, Nat.xor_assoc, Nat.xor_comm m q]
  · rw [xor4, Nat.xor_self, Nat.xor_zero]
theorem rred_xor (p q : Nat) (n : Nat) : rred (p ^^^ q) n = rred p n ^^^ rred q n := by
  induction n with
  | zero => rfl
  | succ n ih => simp only [rred]; rw [ih, rstep_xor]
theorem rm_xor (a b c : Nat) : rm a (b ^^^ c) = rm a b ^^^ rm a c := by
  unfold rm
  rw [rpol_xor, rred_xor]
  exact Nat.xor_mod_two_pow (n := 8)
theorem rm_xor_left (a c b : Nat) : rm (a ^^^ c) b = rm a b ^^^ rm c b := by
  unfold rm
  rw [rpol_xor_left, rred_xor]
  exact Nat.xor_mod_two_pow (n := 8)
theorem rm_gm (a b : Nat) (ha : a < 256) (hb : b < 256) : rm a b = gm a b := by
  refine ext8 (fun x => rm x b) (fun x => gm x b) (fun x y hx hy => rm_xor_left x y b) (fun x y hx hy => gm_xor_left x y b hx hy) (fun i hi => ?_) a ha
  refine ext8 (fun y => rm (2 ^ i) y) (fun y => gm (2 ^ i) y) (fun x y _ _ => rm_xor _ x y) (fun x y hx hy => gm_xor _ x y) (fun j hj => ?_) b hb
  have h : ∀ i, i < 8 → ∀ j, j < 8 → rm (2 ^ i) (2 ^ j) = gm (2 ^ i) (2 ^ j) := by decide +kernel
  exact h i hi j hj
theorem rrow_xor (x : Bool) (b c i k : Nat) : rrow x (b ^^^ c) i k = rrow x b i k ^^^ rrow x c i k := by
  induction k with
  | zero => simp [rrow]
  | succ k ih =>
    simp only [rrow, Nat.testBit_xor]
    rw [ih, xor4]
    congr 1
    cases x <;> cases b.testBit k <;> cases c.testBit k <;> simp
theorem rrow_8 (x : Bool) (b i : Nat) (hb : b < 256) (hi : i < 8) : rrow x b i 8 = if x then b <<< i else 0 := by
  refine ext8 (fun b => rrow x b i 8) (fun b => if x then b <<< i else 0) (fun y z _ _ => rrow_xor x y z i 8) (fun y z _ _ => by cases x <;> simp [Nat.shiftLeft_xor_distrib]) (fun j hj => ?_) b hb
  have h : ∀ x : Bool, ∀ i, i < 8 → ∀ j, j < 8 → rrow x (2 ^ j) i 8 = if x then (2 ^ j) <<< i else 0 := by decide +kernel
  exact h x i hi j hj

/-! ### powers and inverses -/
def pw (a : Nat) : Nat → Nat
  | 0 => 1
  | n + 1 => gm (pw a n) a
theorem pw_lt (a n : Nat) (_ : a < 256) : pw a n < 256 := by
  induction n with
  | zero => simp [pw]
  | succ n ih => exact gm_lt _ _ ih
theorem pw_add (a n m : Nat) (ha : a < 256) : pw a (n + m) = gm (pw a n) (pw a m) := by
  induction m with
  | zero => simp [pw, gm_one _ (pw_lt a n ha)]
  | succ m ih =>
    show gm (pw a (n + m)) a = gm (pw a n) (gm (pw a m) a)
    rw [ih, gm_assoc _ _ _ (pw_lt a n ha) (pw_lt a m ha) ha]
theorem pw_one (a : Nat) (ha : a < 256) : pw a 1 = a := gm_one_left a ha
theorem pw_two (a n : Nat) (ha : a < 256) : pw (gm a a) n = pw a (n + n) := by
  induction n with
  | zero => rfl
  | succ n ih =>
    show gm (pw (gm a a) n) (gm a a) = _
    rw [ih, show n + 1 + (n + 1) = (n + n) + 2 by omega, pw_add a (n + n) 2 ha]
    congr 1
    show gm a a = gm (gm 1 a) a
    rw [gm_one_left a ha]
def inv (a : Nat) : Nat := pw a 254
theorem inv_lt (a : Nat) (ha : a < 256) : inv a < 256 := pw_lt a 254 ha

def expT : List Nat := [1, 3, 5, 15, 17, 51, 85, 255, 26, 46, 114, 150, 161, 248, 19, 53, 95, 225, 56, 72, 216, 115, 149, 164, 247, 2, 6, 10, 30, 34, 102, 170, 229, 52, 92, 228, 55, 89, 235, 38, 106, 190, 217, 112, 144, 171, 230, 49, 83, 245, 4, 12, 20, 60, 68, 204, 79, 209, 104, 184, 211, 110, 178, 205, 76, 212, 103, 169, 224, 59, 77, 215, 98, 166, 241, 8, 24, 40, 120, 136, 131, 158, 185, 208, 107, 189, 220, 127, 129, 152, 179, 206, 73, 219, 118, 154, 181, 196, 87, 249, 16, 48, 80, 240, 11, 29, 39, 105, 187, 214, 97, 163, 254, 25, 43, 125, 135, 146, 173, 236, 47, 113, 147, 174, 233, 32, 96, 160, 251, 22, 58, 78, 210, 109, 183, 194, 93, 231, 50, 86, 250, 21, 63, 65, 195, 94, 226, 61, 71, 201, 64, 192, 91, 237, 44, 116, 156, 191, 218, 117, 159, 186, 213, 100, 172, 239, 42, 126, 130, 157, 188, 223, 122, 142, 137, 128, 155, 182, 193, 88, 232, 35, 101, 175, 234, 37, 111, 177, 200, 67, 197, 84, 252, 31, 33, 99, 165, 244, 7, 9, 27, 45, 119, 153, 176, 203, 70, 202, 69, 207, 74, 222, 121, 139, 134, 145, 168, 227, 62, 66, 198, 81, 243, 14, 18, 54, 90, 238, 41, 123, 141, 140, 143, 138, 133, 148, 167, 242, 13, 23, 57, 75, 221, 124, 132, 151, 162, 253, 28, 36, 108, 180, 199, 82, 246]
def logT : List Nat := [0, 0, 25, 1, 50, 2, 26, 198, 75, 199, 27, 104, 51, 238, 223, 3, 100, 4, 224, 14, 52, 141, 129, 239, 76, 113, 8, 200, 248, 105, 28, 193, 125, 194, 29, 181, 249, 185, 39, 106, 77, 228, 166, 114, 154, 201, 9, 120, 101, 47, 138, 5, 33, 15, 225, 36, 18, 240, 130, 69, 53, 147, 218, 142, 150, 143, 219, 189, 54, 208, 206, 148, 19, 92, 210, 241, 64, 70, 131, 56, 102, 221, 253, 48, 191, 6, 139, 98, 179, 37, 226, 152, 34, 136, 145, 16, 126, 110, 72, 195, 163, 182, 30, 66, 58, 107, 40, 84, 250, 133, 61, 186, 43, 121, 10, 21, 155, 159, 94, 202, 78, 212, 172, 229, 243, 115, 167, 87, 175, 88, 168, 80, 244, 234, 214, 116, 79, 174, 233, 213, 231, 230, 173, 232, 44, 215, 117, 122, 235, 22, 11, 245, 89, 203, 95, 176, 156, 169, 81, 160, 127, 12, 246, 111, 23, 196, 73, 236, 216, 67, 31, 45, 164, 118, 123, 183, 204, 187, 62, 90, 251, 96, 177, 134, 59, 82, 161, 108, 170, 85, 41, 157, 151, 178, 135, 144, 97, 190, 220, 252, 188, 149, 207, 205, 55, 63, 91, 209, 83, 57, 132, 60, 65, 162, 109, 71, 20, 42, 158, 93, 86, 242, 211, 171, 68, 17, 146, 217, 35, 32, 46, 137, 180, 124, 184, 38, 119, 153, 227, 165, 103, 74, 237, 222, 197, 49, 254, 24, 13, 99, 140, 128, 192, 247, 112, 7]
theorem exp_all : (List.range 254).all (fun n => gm (expT.getD n 0) 3 == expT.getD (n + 1) 0) = true := by decide +kernel
theorem log_all : (List.range 256).all (fun a => a == 0 || (logT.getD a 0 < 255 && expT.getD (logT.getD a 0) 0 == a)) = true := by decide +kernel
theorem pw_3 (n : Nat) (h : n < 255) : pw 3 n = expT.getD n 0 := by
  induction n with
  | zero => rfl
  | succ n ih =>
    have hs := exp_all
    simp only [List.all_eq_true, List.mem_range, beq_iff_eq] at hs
    show gm (pw 3 n) 3 = _
    rw [ih (by omega), hs n (by omega)]
theorem pw_3_255 : pw 3 255 = 1 := by
  show gm (pw 3 254) 3 = 1
  rw [pw_3 254 (by omega)]
  decide +kernel
theorem pw_mul (a n m : Nat) (ha : a < 256) : pw (pw a n) m = pw a (n * m) := by
  induction m with
  | zero => rfl
  | succ m ih =>
    show gm (pw (pw a n) m) (pw a n) = _
    rw [ih, Nat.mul_succ, pw_add a (n * m) n ha]
theorem pw_of_one (n : Nat) : pw 1 n = 1 := by
  induction n with
  | zero => rfl
  | succ n ih => show gm (pw 1 n) 1 = 1; rw [ih]; rfl
theorem pw_255 (a : Nat) (ha : a < 256) (h0 : a ≠ 0) : pw a 255 = 1 := by
  have hs := log_all
  simp only [List.all_eq_true, List.mem_range, Bool.or_eq_true, Bool.and_eq_true, beq_iff_eq, decide_eq_true_eq] at hs
  rcases hs a ha with h | ⟨h1, h2⟩
  · exact absurd h h0
  · rw [← h2, ← pw_3 _ h1, pw_mul 3 _ _ (by omega), Nat.mul_comm, ← pw_mul 3 _ _ (by omega), pw_3_255, pw_of_one]
theorem gm_inv (a : Nat) (ha : a < 256) (h0 : a ≠ 0) : gm a (inv a) = 1 := by
  rw [gm_comm a _ ha (inv_lt a ha)]
  exact pw_255 a ha h0
theorem inv_of (a b : Nat) (ha : a < 256) (hb : b < 256) (h : gm a b = 1) : b = inv a := by
  have h0 : a ≠ 0 := by
    rintro rfl
    rw [gm_comm 0 b (by omega) hb, gm_zero] at h
    omega
  have h1 := gm_inv a ha h0
  calc b = gm 1 b := (gm_one_left b hb).symm
    _ = gm (gm (inv a) a) b := by rw [gm_comm (inv a) a (inv_lt a ha) ha, h1]
    _ = gm (inv a) (gm a b) := gm_assoc _ _ _ (inv_lt a ha) ha hb
    _ = inv a := by rw [h, gm_one _ (inv_lt a ha)]
theorem inv_inv (a : Nat) (ha : a < 256) (h0 : a ≠ 0) : inv (inv a) = a := by
  refine (inv_of (inv a) a (inv_lt a ha) ha ?_).symm
  rw [gm_comm _ _ (inv_lt a ha) ha]
  exact gm_inv a ha h0
theorem inv_zero : inv 0 = 0 := by
  show gm (pw 0 253) 0 = 0
  exact gm_zero _
theorem gm_zero_left (b : Nat) (hb : b < 256) : gm 0 b = 0 := by rw [gm_comm 0 b (by omega) hb, gm_zero]
theorem inv_eq (a : Nat) : inv a = pw a 254 := rfl
attribute [irreducible] inv
/-- The byte, doubled k times. -/
def dbln (a : Nat) : Nat → Nat
  | 0 => a
  | k + 1 => dbl (dbln a k)
theorem dbln_lt (a k : Nat) (ha : a < 256) : dbln a k < 256 := by
  cases k with
  | zero => exact ha
  | succ k => exact dbl_lt _
theorem dbl_gm (a : Nat) : dbl a = gm a 2 := by simp [gm, gmf]
theorem dbln_gm (a k : Nat) (ha : a < 256) : dbln a k = gm a (pw 2 k) := by
  induction k with
  | zero => exact (gm_one a ha).symm
  | succ k ih =>
    show dbl (dbln a k) = gm a (gm (pw 2 k) 2)
    rw [dbl_gm, ih, gm_assoc _ _ _ ha (pw_lt 2 k (by omega)) (by omega)]
theorem pw_2 (k : Nat) (h : k < 8) : pw 2 k = 2 ^ k := by
  have hs : ∀ k, k < 8 → pw 2 k = 2 ^ k := by decide +kernel
  exact hs k h
end Go.Proofs.Ytbmbclocmhhhdaa
