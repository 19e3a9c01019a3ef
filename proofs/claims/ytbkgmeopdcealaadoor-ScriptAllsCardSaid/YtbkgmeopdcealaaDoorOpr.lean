import Derived.Test.YtbkgmeopdcealaaDoorRsm
import Derived.Test.YtbkgmeopdcealaaDoorNmw
import Derived.Test.YtbkgmeopdcealaaDoorWds
namespace Go.Proofs.YtbkgmeopdcealaaDoor
open Go.ChangeShapes Go.WideShapes Go.ChangeAt Go.RowKit Go.Sort
set_option linter.unusedVariables false
set_option linter.unusedSimpArgs false
/-
  Operations as plain fields: which are right, their words, and what words are read as.
-/
structure PO where
  kd : Int
  wh : Int
  nn : Int
  mm : Int
  bs : List Nat
  ad : ByteArray
def Op.p (o : Op) : PO := ⟨o.kd, o.wh, o.nn, o.mm, o.bs, o.ad⟩
theorem opEq_iff (a b : Op) : opEq a b = true ↔ a.p = b.p := by
  unfold opEq Op.p
  simp only [Bool.and_eq_true, decide_eq_true_eq, PO.mk.injEq, and_assoc]
def em : ByteArray := ⟨#[]⟩
def clS : ByteArray := ⟨#[99, 108, 105, 101, 110, 116]⟩
def svS : ByteArray := ⟨#[115, 101, 114, 118, 101, 114]⟩
def ruleW (k : Nat) : ByteArray :=
  if k = 1 then ⟨#[115, 101, 110, 100]⟩ else if k = 2 then ⟨#[116, 105, 99, 107]⟩ else if k = 3 then ⟨#[100, 101, 108, 105, 118, 101, 114]⟩ else if k = 4 then ⟨#[100, 114, 111, 112]⟩ else if k = 5 then ⟨#[99, 111, 112, 121]⟩ else
  if k = 6 then ⟨#[115, 119, 97, 112]⟩ else if k = 7 then ⟨#[105, 110, 106, 101, 99, 116]⟩ else if k = 8 then ⟨#[109, 111, 118, 101]⟩ else if k = 9 then ⟨#[99, 108, 111, 115, 101]⟩ else em
def ruleF (k : Nat) : List Nat :=
  if k = 1 then [119, 98] else if k = 2 then [116] else if k = 3 then [110] else if k = 4 then [110] else if k = 5 then [110] else
  if k = 6 then [110, 109] else if k = 7 then [119, 97, 98] else if k = 8 then [97] else if k = 9 then [119] else []
def whS (x : Int) : ByteArray := if x % 2 = 0 then clS else svS
def fieldS (p : PO) (f : Nat) : ByteArray :=
  if f = 119 then whS p.wh else if f = 110 then itS p.nn else if f = 116 then itS p.nn else if f = 109 then itS p.mm else if f = 98 then hexS p.bs else p.ad
def wordsP (p : PO) : List ByteArray := ruleW p.kd.toNat :: (ruleF p.kd.toNat).map (fieldS p)
def lineP (p : PO) : ByteArray := joinS (wordsP p)
/-- The bytes of a body. -/
def BodyOk (bs : List Nat) : Prop := bs.length ≤ 1300 ∧ ∀ x ∈ bs, x < 256
def most (k : Nat) : Nat := if k = 2 then 1048576 else 999
/-- Right operations. -/
inductive RP : PO → Prop
  | send (x : Int) (bs : List Nat) : (x = 0 ∨ x = 1) → BodyOk bs → RP ⟨1, x, 0, 0, bs, em⟩
  | num (k n : Nat) : 2 ≤ k → k ≤ 5 → n ≤ most k → RP ⟨(k : Int), 0, (n : Int), 0, [], em⟩
  | swap (n m : Nat) : n ≤ 999 → m ≤ 999 → RP ⟨6, 0, (n : Int), (m : Int), [], em⟩
  | inject (x : Int) (bs : List Nat) (ad : ByteArray) : (x = 0 ∨ x = 1) → BodyOk bs → rightS ad = true → RP ⟨7, x, 0, 0, bs, ad⟩
  | move (ad : ByteArray) : rightS ad = true → RP ⟨8, 0, 0, 0, [], ad⟩
  | close (x : Int) : (x = 0 ∨ x = 1) → RP ⟨9, x, 0, 0, [], em⟩
def readF (f : Nat) (x : ByteArray) (p : PO) : Option PO :=
  if f = 110 then (if numB x 999 = true then some ⟨p.kd, p.wh, (dvS x : Nat), p.mm, p.bs, p.ad⟩ else none)
  else if f = 116 then (if numB x 1048576 = true then some ⟨p.kd, p.wh, (dvS x : Nat), p.mm, p.bs, p.ad⟩ else none)
  else if f = 109 then (if numB x 999 = true then some ⟨p.kd, p.wh, p.nn, (dvS x : Nat), p.bs, p.ad⟩ else none)
  else if f = 119 then (if x = clS then some ⟨p.kd, 0, p.nn, p.mm, p.bs, p.ad⟩ else if x = svS then some ⟨p.kd, 1, p.nn, p.mm, p.bs, p.ad⟩ else none)
  else if f = 97 then (if rightS x = true then some ⟨p.kd, p.wh, p.nn, p.mm, p.bs, x⟩ else none)
  else match unhexS x with
    | some bs => if bs.length ≤ 1300 then some ⟨p.kd, p.wh, p.nn, p.mm, bs, p.ad⟩ else none
    | none => none
def foldF : List Nat → List ByteArray → PO → Option PO
  | [], [], p => some p
  | f :: fs, x :: xs, p => match readF f x p with
    | some q => foldF fs xs q
    | none => none
  | [], _ :: _, _ => none
  | _ :: _, [], _ => none
def p0 (k : Nat) : PO := ⟨(k : Int), 0, 0, 0, [], em⟩
theorem readF_n (x : ByteArray) (p : PO) : readF 110 x p = if numB x 999 = true then some ⟨p.kd, p.wh, (dvS x : Nat), p.mm, p.bs, p.ad⟩ else none := rfl
theorem readF_t (x : ByteArray) (p : PO) : readF 116 x p = if numB x 1048576 = true then some ⟨p.kd, p.wh, (dvS x : Nat), p.mm, p.bs, p.ad⟩ else none := rfl
theorem readF_m (x : ByteArray) (p : PO) : readF 109 x p = if numB x 999 = true then some ⟨p.kd, p.wh, p.nn, (dvS x : Nat), p.bs, p.ad⟩ else none := rfl
theorem readF_w (x : ByteArray) (p : PO) : readF 119 x p = if x = clS then some ⟨p.kd, 0, p.nn, p.mm, p.bs, p.ad⟩ else if x = svS then some ⟨p.kd, 1, p.nn, p.mm, p.bs, p.ad⟩ else none := rfl
theorem readF_a (x : ByteArray) (p : PO) : readF 97 x p = if rightS x = true then some ⟨p.kd, p.wh, p.nn, p.mm, p.bs, x⟩ else none := rfl
theorem readF_b (x : ByteArray) (p : PO) : readF 98 x p = match unhexS x with
    | some bs => if bs.length ≤ 1300 then some ⟨p.kd, p.wh, p.nn, p.mm, bs, p.ad⟩ else none
    | none => none := rfl
/-! ### what is shown is read -/
theorem read_w (p : PO) (x : Int) (h : x = 0 ∨ x = 1) : readF 119 (whS x) p = some ⟨p.kd, x, p.nn, p.mm, p.bs, p.ad⟩ := by
  rcases h with rfl | rfl
  · rw [readF_w, if_pos (by decide)]
  · rw [readF_w, if_neg (by decide), if_pos (by decide)]
theorem read_n (p : PO) (n : Nat) (h : n ≤ 999) : readF 110 (itS (n : Int)) p = some ⟨p.kd, p.wh, (n : Int), p.mm, p.bs, p.ad⟩ := by
  rw [itS_nat, readF_n, if_pos (numB_dec n 999 h), dvS_dec]
theorem read_t (p : PO) (n : Nat) (h : n ≤ 1048576) : readF 116 (itS (n : Int)) p = some ⟨p.kd, p.wh, (n : Int), p.mm, p.bs, p.ad⟩ := by
  rw [itS_nat, readF_t, if_pos (numB_dec n 1048576 h), dvS_dec]
theorem read_m (p : PO) (n : Nat) (h : n ≤ 999) : readF 109 (itS (n : Int)) p = some ⟨p.kd, p.wh, p.nn, (n : Int), p.bs, p.ad⟩ := by
  rw [itS_nat, readF_m, if_pos (numB_dec n 999 h), dvS_dec]
theorem read_b (p : PO) (bs : List Nat) (h : BodyOk bs) : readF 98 (hexS bs) p = some ⟨p.kd, p.wh, p.nn, p.mm, bs, p.ad⟩ := by
  rw [readF_b, unhex_hex bs h.2]
  exact if_pos h.1
theorem read_a (p : PO) (ad : ByteArray) (h : rightS ad = true) : readF 97 ad p = some ⟨p.kd, p.wh, p.nn, p.mm, p.bs, ad⟩ := by rw [readF_a, if_pos h]
/-! ### what is read was shown -/
theorem num_back {x : ByteArray} {m : Nat} (h : numB x m = true) : x = itS ((dvS x : Nat) : Int) ∧ dvS x ≤ m := by
  unfold numB at h
  simp only [Bool.and_eq_true, decide_eq_true_eq] at h
  exact ⟨by rw [itS_nat, h.1], h.2⟩
theorem back_w {x : ByteArray} {p q : PO} (h : readF 119 x p = some q) : ∃ y : Int, (y = 0 ∨ y = 1) ∧ x = whS y ∧ q = ⟨p.kd, y, p.nn, p.mm, p.bs, p.ad⟩ := by
  rw [readF_w] at h
  split at h
  · rename_i e; exact ⟨0, .inl rfl, e, by injection h with h; exact h.symm⟩
  · split at h
    · rename_i e; exact ⟨1, .inr rfl, e, by injection h with h; exact h.symm⟩
    · cases h
theorem back_n {x : ByteArray} {p q : PO} (h : readF 110 x p = some q) : ∃ n : Nat, n ≤ 999 ∧ x = itS (n : Int) ∧ q = ⟨p.kd, p.wh, (n : Int), p.mm, p.bs, p.ad⟩ := by
  rw [readF_n] at h
  split at h
  · rename_i e; exact ⟨dvS x, (num_back e).2, (num_back e).1, by injection h with h; exact h.symm⟩
  · cases h
theorem back_t {x : ByteArray} {p q : PO} (h : readF 116 x p = some q) : ∃ n : Nat, n ≤ 1048576 ∧ x = itS (n : Int) ∧ q = ⟨p.kd, p.wh, (n : Int), p.mm, p.bs, p.ad⟩ := by
  rw [readF_t] at h
  split at h
  · rename_i e; exact ⟨dvS x, (num_back e).2, (num_back e).1, by injection h with h; exact h.symm⟩
  · cases h
theorem back_m {x : ByteArray} {p q : PO} (h : readF 109 x p = some q) : ∃ n : Nat, n ≤ 999 ∧ x = itS (n : Int) ∧ q = ⟨p.kd, p.wh, p.nn, (n : Int), p.bs, p.ad⟩ := by
  rw [readF_m] at h
  split at h
  · rename_i e; exact ⟨dvS x, (num_back e).2, (num_back e).1, by injection h with h; exact h.symm⟩
  · cases h
theorem back_b {x : ByteArray} {p q : PO} (h : readF 98 x p = some q) : ∃ bs, BodyOk bs ∧ x = hexS bs ∧ q = ⟨p.kd, p.wh, p.nn, p.mm, bs, p.ad⟩ := by
  rw [readF_b] at h
  cases hu : unhexS x with
  | none => rw [hu] at h; cases h
  | some bs =>
    rw [hu] at h
    obtain ⟨h1, h2, _⟩ := hex_unhex hu
    simp only at h
    split at h
    · rename_i e; exact ⟨bs, ⟨e, h2⟩, h1.symm, by injection h with h; exact h.symm⟩
    · cases h
theorem back_a {x : ByteArray} {p q : PO} (h : readF 97 x p = some q) : rightS x = true ∧ q = ⟨p.kd, p.wh, p.nn, p.mm, p.bs, x⟩ := by
  rw [readF_a] at h
  split at h
  · rename_i e; exact ⟨e, by injection h with h; exact h.symm⟩
  · cases h
theorem fold_cons {f : Nat} {fs : List Nat} {xs : List ByteArray} {p q : PO} (h : foldF (f :: fs) xs p = some q) : ∃ x r p', xs = x :: r ∧ readF f x p = some p' ∧ foldF fs r p' = some q := by
  cases xs with
  | nil => cases h
  | cons x r =>
    simp only [foldF] at h
    cases hr : readF f x p with
    | none => rw [hr] at h; cases h
    | some p' => rw [hr] at h; exact ⟨x, r, p', rfl, hr, h⟩
theorem fold_nil {xs : List ByteArray} {p q : PO} (h : foldF [] xs p = some q) : xs = [] ∧ q = p := by
  cases xs with
  | nil => simp only [foldF] at h; injection h with h; exact ⟨rfl, h.symm⟩
  | cons x r => cases h
theorem fold_step {f : Nat} {fs : List Nat} {x : ByteArray} {r : List ByteArray} {p p' : PO} (h : readF f x p = some p') : foldF (f :: fs) (x :: r) p = foldF fs r p' := by
  simp only [foldF, h]
theorem nine {k : Nat} (h1 : 1 ≤ k) (h9 : k ≤ 9) : k = 1 ∨ k = 2 ∨ k = 3 ∨ k = 4 ∨ k = 5 ∨ k = 6 ∨ k = 7 ∨ k = 8 ∨ k = 9 := by omega
/-- The words of a right operation lead back to it. -/
theorem rp_words {p : PO} (h : RP p) : ∃ k : Nat, 1 ≤ k ∧ k ≤ 9 ∧ p.kd = (k : Int) ∧ foldF (ruleF k) ((ruleF k).map (fieldS p)) (p0 k) = some p := by
  cases h with
  | send x bs hx hb =>
    refine ⟨1, by omega, by omega, rfl, ?_⟩
    show foldF [119, 98] [whS x, hexS bs] (p0 1) = _
    rw [fold_step (read_w _ x hx), fold_step (read_b _ bs hb)]
    rfl
  | num k n h2 h5 hn =>
    refine ⟨k, by omega, by omega, rfl, ?_⟩
    rcases (show k = 2 ∨ k = 3 ∨ k = 4 ∨ k = 5 by omega) with rfl | rfl | rfl | rfl
    · show foldF [116] [itS (n : Int)] (p0 2) = _
      rw [fold_step (read_t _ n hn)]; rfl
    · show foldF [110] [itS (n : Int)] (p0 3) = _
      rw [fold_step (read_n _ n hn)]; rfl
    · show foldF [110] [itS (n : Int)] (p0 4) = _
      rw [fold_step (read_n _ n hn)]; rfl
    · show foldF [110] [itS (n : Int)] (p0 5) = _
      rw [fold_step (read_n _ n hn)]; rfl
  | swap n m hn hm =>
    refine ⟨6, by omega, by omega, rfl, ?_⟩
    show foldF [110, 109] [itS (n : Int), itS (m : Int)] (p0 6) = _
    rw [fold_step (read_n _ n hn), fold_step (read_m _ m hm)]; rfl
  | inject x bs ad hx hb ha =>
    refine ⟨7, by omega, by omega, rfl, ?_⟩
    show foldF [119, 97, 98] [whS x, ad, hexS bs] (p0 7) = _
    rw [fold_step (read_w _ x hx), fold_step (read_a _ ad ha), fold_step (read_b _ bs hb)]; rfl
  | move ad ha =>
    refine ⟨8, by omega, by omega, rfl, ?_⟩
    show foldF [97] [ad] (p0 8) = _
    rw [fold_step (read_a _ ad ha)]; rfl
  | close x hx =>
    refine ⟨9, by omega, by omega, rfl, ?_⟩
    show foldF [119] [whS x] (p0 9) = _
    rw [fold_step (read_w _ x hx)]; rfl
/-- What words are read as is a right operation, and these are its words. -/
theorem words_rp {k : Nat} (h1 : 1 ≤ k) (h9 : k ≤ 9) {xs : List ByteArray} {p : PO} (h : foldF (ruleF k) xs (p0 k) = some p) : RP p ∧ wordsP p = ruleW k :: xs := by
  rcases nine h1 h9 with rfl | rfl | rfl | rfl | rfl | rfl | rfl | rfl | rfl
  · change foldF [119, 98] xs (p0 1) = some p at h
    obtain ⟨x, r, p1, rfl, e1, h⟩ := fold_cons h
    obtain ⟨y, r, p2, rfl, e2, h⟩ := fold_cons h
    obtain ⟨rfl, rfl⟩ := fold_nil h
    obtain ⟨a, ha, rfl, rfl⟩ := back_w e1
    obtain ⟨bs, hb, rfl, rfl⟩ := back_b e2
    exact ⟨.send a bs ha hb, rfl⟩
  · change foldF [116] xs (p0 2) = some p at h
    obtain ⟨x, r, p1, rfl, e1, h⟩ := fold_cons h
    obtain ⟨rfl, rfl⟩ := fold_nil h
    obtain ⟨n, hn, rfl, rfl⟩ := back_t e1
    exact ⟨.num 2 n (by omega) (by omega) hn, rfl⟩
  · change foldF [110] xs (p0 3) = some p at h
    obtain ⟨x, r, p1, rfl, e1, h⟩ := fold_cons h
    obtain ⟨rfl, rfl⟩ := fold_nil h
    obtain ⟨n, hn, rfl, rfl⟩ := back_n e1
    exact ⟨.num 3 n (by omega) (by omega) hn, rfl⟩
  · change foldF [110] xs (p0 4) = some p at h
    obtain ⟨x, r, p1, rfl, e1, h⟩ := fold_cons h
    obtain ⟨rfl, rfl⟩ := fold_nil h
    obtain ⟨n, hn, rfl, rfl⟩ := back_n e1
    exact ⟨.num 4 n (by omega) (by omega) hn, rfl⟩
  · change foldF [110] xs (p0 5) = some p at h
    obtain ⟨x, r, p1, rfl, e1, h⟩ := fold_cons h
    obtain ⟨rfl, rfl⟩ := fold_nil h
    obtain ⟨n, hn, rfl, rfl⟩ := back_n e1
    exact ⟨.num 5 n (by omega) (by omega) hn, rfl⟩
  · change foldF [110, 109] xs (p0 6) = some p at h
    obtain ⟨x, r, p1, rfl, e1, h⟩ := fold_cons h
    obtain ⟨y, r, p2, rfl, e2, h⟩ := fold_cons h
    obtain ⟨rfl, rfl⟩ := fold_nil h
    obtain ⟨n, hn, rfl, rfl⟩ := back_n e1
    obtain ⟨m, hm, rfl, rfl⟩ := back_m e2
    exact ⟨.swap n m hn hm, rfl⟩
  · change foldF [119, 97, 98] xs (p0 7) = some p at h
    obtain ⟨x, r, p1, rfl, e1, h⟩ := fold_cons h
    obtain ⟨y, r, p2, rfl, e2, h⟩ := fold_cons h
    obtain ⟨z, r, p3, rfl, e3, h⟩ := fold_cons h
    obtain ⟨rfl, rfl⟩ := fold_nil h
    obtain ⟨a, ha, rfl, rfl⟩ := back_w e1
    obtain ⟨hr, rfl⟩ := back_a e2
    obtain ⟨bs, hb, rfl, rfl⟩ := back_b e3
    exact ⟨.inject a bs _ ha hb hr, rfl⟩
  · change foldF [97] xs (p0 8) = some p at h
    obtain ⟨x, r, p1, rfl, e1, h⟩ := fold_cons h
    obtain ⟨rfl, rfl⟩ := fold_nil h
    obtain ⟨hr, rfl⟩ := back_a e1
    exact ⟨.move _ hr, rfl⟩
  · change foldF [119] xs (p0 9) = some p at h
    obtain ⟨x, r, p1, rfl, e1, h⟩ := fold_cons h
    obtain ⟨rfl, rfl⟩ := fold_nil h
    obtain ⟨a, ha, rfl, rfl⟩ := back_w e1
    exact ⟨.close a ha, rfl⟩
theorem ruleW_inj {j k : Nat} (hj1 : 1 ≤ j) (hj9 : j ≤ 9) (hk1 : 1 ≤ k) (hk9 : k ≤ 9) (h : ruleW j = ruleW k) : j = k := by
  have := (show ∀ a b : Fin 10, ruleW a.1 = ruleW b.1 → a.1 = b.1 by decide) ⟨j, by omega⟩ ⟨k, by omega⟩ h
  exact this
/-! ### lines -/
theorem no32_dec (n : Nat) : ∀ c ∈ (decS n).data.toList, c ≠ 32 := by
  intro c hc e
  subst e
  have := (dec_digit n 32 (by simpa [decS] using hc)).1
  simp at this
theorem no32_right {s : ByteArray} (h : rightS s = true) : ∀ c ∈ s.data.toList, c ≠ 32 := by
  intro c hc e
  subst e
  unfold rightS at h
  simp only [Bool.and_eq_true, List.all_eq_true] at h
  have := h.1.1 32 (List.mem_map.2 ⟨32, hc, rfl⟩)
  revert this
  decide
theorem no32_wh (x : Int) : ∀ c ∈ (whS x).data.toList, c ≠ 32 := by unfold whS; split <;> decide
theorem no32_rule (k : Nat) (h1 : 1 ≤ k) (h9 : k ≤ 9) : ∀ c ∈ (ruleW k).data.toList, c ≠ 32 := by
  rcases nine h1 h9 with rfl | rfl | rfl | rfl | rfl | rfl | rfl | rfl | rfl <;> decide
theorem no32_words {p : PO} (h : RP p) : ∀ x ∈ wordsP p, ∀ c ∈ x.data.toList, c ≠ 32 := by
  have key : ∀ k : Nat, p.kd = (k : Int) → 1 ≤ k → k ≤ 9 → (∀ f ∈ ruleF k, ∀ c ∈ (fieldS p f).data.toList, c ≠ 32) → ∀ x ∈ wordsP p, ∀ c ∈ x.data.toList, c ≠ 32 := by
    intro k hk h1 h9 hf x hx
    unfold wordsP at hx
    rw [hk, Int.toNat_natCast] at hx
    rcases List.mem_cons.1 hx with rfl | hx
    · exact no32_rule k h1 h9
    · obtain ⟨f, hf1, rfl⟩ := List.mem_map.1 hx
      exact hf f hf1
  cases h with
  | send x bs hx hb =>
    refine key 1 rfl (by omega) (by omega) (fun f hf => ?_)
    rcases List.mem_cons.1 hf with rfl | hf
    · exact no32_wh x
    · rw [List.mem_singleton.1 hf]; exact hexS_no32 bs hb.2
  | num k n h2 h5 hn =>
    refine key k rfl (by omega) (by omega) (fun f hf => ?_)
    have e : fieldS ⟨(k : Int), 0, (n : Int), 0, [], em⟩ f = itS (n : Int) := by
      rcases (show k = 2 ∨ k = 3 ∨ k = 4 ∨ k = 5 by omega) with rfl | rfl | rfl | rfl <;> (rw [List.mem_singleton.1 hf]; rfl)
    rw [e, itS_nat]; exact no32_dec n
  | swap n m hn hm =>
    refine key 6 rfl (by omega) (by omega) (fun f hf => ?_)
    rcases List.mem_cons.1 hf with rfl | hf
    · show ∀ c ∈ (itS (n : Int)).data.toList, c ≠ 32
      rw [itS_nat]; exact no32_dec n
    · rw [List.mem_singleton.1 hf]
      show ∀ c ∈ (itS (m : Int)).data.toList, c ≠ 32
      rw [itS_nat]; exact no32_dec m
  | inject x bs ad hx hb ha =>
    refine key 7 rfl (by omega) (by omega) (fun f hf => ?_)
    rcases List.mem_cons.1 hf with rfl | hf
    · exact no32_wh x
    · rcases List.mem_cons.1 hf with rfl | hf
      · exact no32_right ha
      · rw [List.mem_singleton.1 hf]; exact hexS_no32 bs hb.2
  | move ad ha =>
    refine key 8 rfl (by omega) (by omega) (fun f hf => ?_)
    rw [List.mem_singleton.1 hf]; exact no32_right ha
  | close x hx =>
    refine key 9 rfl (by omega) (by omega) (fun f hf => ?_)
    rw [List.mem_singleton.1 hf]; exact no32_wh x
theorem line_cut {p : PO} (h : RP p) : cutS (lineP p) = wordsP p := cut_join _ (by simp [wordsP]) (no32_words h)
theorem words_line {p : PO} {s : ByteArray} (h : wordsP p = cutS s) (hj : joinS (cutS s) = s) : lineP p = s := by unfold lineP; rw [h, hj]
theorem line_inj {p q : PO} (hp : RP p) (hq : RP q) (h : lineP p = lineP q) : p = q := by
  have e : wordsP p = wordsP q := by rw [← line_cut hp, ← line_cut hq, h]
  obtain ⟨j, j1, j9, ej, fj⟩ := rp_words hp
  obtain ⟨k, k1, k9, ek, fk⟩ := rp_words hq
  unfold wordsP at e
  rw [ej, ek, Int.toNat_natCast, Int.toNat_natCast] at e
  injection e with e1 e2
  obtain rfl := ruleW_inj j1 j9 k1 k9 e1
  rw [e2, fk] at fj
  injection fj with fj
  exact fj.symm
/-- What a parser answers. -/
def zO : Op := ⟨0, 0, 0, 0, none, 0, 0, [], em⟩
inductive PaR (line : ByteArray) (w : World) : Ending → Prop
  | yes (o : Op) : RP o.p → lineP o.p = line → OpOk w o → PaR line w (.returned (.tuple #[o.v, .bool true]))
  | no : (∀ p, RP p → lineP p ≠ line) → PaR line w (.returned (.tuple #[zO.v, .bool false]))
/-- No right operation has a line whose words are not read. -/
theorem no_line {s : ByteArray} (h : ∀ k : Nat, 1 ≤ k → k ≤ 9 → ∀ xs, cutS s = ruleW k :: xs → foldF (ruleF k) xs (p0 k) = none) : ∀ p, RP p → lineP p ≠ s := by
  rintro p hp rfl
  obtain ⟨k, k1, k9, ek, fk⟩ := rp_words hp
  have e := line_cut hp
  unfold wordsP at e
  rw [ek, Int.toNat_natCast] at e
  rw [h k k1 k9 _ e] at fk
  cases fk
end Go.Proofs.YtbkgmeopdcealaaDoor
