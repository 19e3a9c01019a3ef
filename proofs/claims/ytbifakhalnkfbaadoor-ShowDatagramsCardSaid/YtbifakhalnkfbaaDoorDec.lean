import Derived.Test.YtbifakhalnkfbaaDoorSml
import Derived.Lib.ParseIntB
namespace Go.Proofs.YtbifakhalnkfbaaDoor
open Go.ChangeShapes Go.WideShapes Go.ChangeAt Go.RowKit Go.Sort
set_option linter.unusedVariables false
set_option linter.unusedSimpArgs false
/-- The value of decimal digits. -/
def dv (l : List UInt8) : Nat := l.foldl (fun a c => a * 10 + (c.toNat - 48)) 0
def decM (s : ByteArray) : Nat := dv s.data.toList % 18446744073709551616
def decB (s : ByteArray) : Bool := decide (decS (decM s) = s)
def decN (s : ByteArray) : Nat := if decB s = true then decM s else 0
theorem decM_lt (s : ByteArray) : decM s < 18446744073709551616 := Nat.mod_lt _ (by decide)
theorem decN_lt (s : ByteArray) : decN s < 18446744073709551616 := by unfold decN; split; exact decM_lt s; decide
theorem dig_toNat (n : Nat) (h : n < 10) : (UInt8.ofNat (48 + n)).toNat = 48 + n := by simp; omega
theorem dec_ind {p : Nat → Prop} (h0 : ∀ n, n < 10 → p n) (h1 : ∀ n, ¬ n < 10 → p (n / 10) → p n) (n : Nat) : p n := by
  induction n using Nat.strongRecOn with
  | ind n ih =>
    by_cases h : n < 10
    · exact h0 n h
    · exact h1 n h (ih (n / 10) (by omega))
theorem dec_more (n : Nat) (h : ¬ n < 10) : Lib.decDigits n = Lib.decDigits (n / 10) ++ [UInt8.ofNat (48 + n % 10)] := by
  rw [← Lib.decDigits_one (i := n % 10) (by omega)]
  conv => lhs; rw [Lib.decDigits, dif_neg h]
  rw [Lib.decDigits_one (i := n % 10) (by omega)]
theorem dv_dec (n : Nat) : dv (Lib.decDigits n) = n := by
  induction n using dec_ind with
  | h0 n h => rw [Lib.decDigits_one h]; unfold dv; simp only [List.foldl_cons, List.foldl_nil]; rw [dig_toNat n h]; omega
  | h1 n h ih =>
    rw [dec_more n h]
    unfold dv at *
    rw [List.foldl_append, ih]
    simp only [List.foldl_cons, List.foldl_nil]
    rw [dig_toNat _ (by omega)]
    omega
theorem decM_dec (n : Nat) (h : n < 18446744073709551616) : decM (decS n) = n := by
  unfold decM decS
  show dv (Lib.decDigits n).toArray.toList % _ = n
  rw [List.toList_toArray, dv_dec, Nat.mod_eq_of_lt h]
theorem decB_dec (n : Nat) (h : n < 18446744073709551616) : decB (decS n) = true := by
  unfold decB; rw [decM_dec n h]; simp
theorem decN_dec (n : Nat) (h : n < 18446744073709551616) : decN (decS n) = n := by
  unfold decN; rw [if_pos (decB_dec n h), decM_dec n h]
theorem decB_of {s : ByteArray} (h : decB s = true) : decS (decM s) = s := of_decide_eq_true h
theorem decB_iff {s : ByteArray} (m : Nat) (h : m < 18446744073709551616) (e : decS m = s) : decB s = true ∧ decM s = m := by
  subst e; exact ⟨decB_dec m h, decM_dec m h⟩
theorem dec_digit (n : Nat) : ∀ c ∈ Lib.decDigits n, 48 ≤ c.toNat ∧ c.toNat ≤ 57 := by
  induction n using dec_ind with
  | h0 n h => rw [Lib.decDigits_one h]; intro c hc; simp only [List.mem_singleton] at hc; subst hc; rw [dig_toNat n h]; omega
  | h1 n h ih =>
    rw [dec_more n h]
    intro c hc
    rw [List.mem_append, List.mem_singleton] at hc
    rcases hc with hc | rfl
    · exact ih c hc
    · rw [dig_toNat _ (by omega)]; omega
theorem dec_ne (n : Nat) : Lib.decDigits n ≠ [] := by
  by_cases h : n < 10
  · rw [Lib.decDigits_one h]; simp
  · rw [dec_more n h]; simp
theorem pum_dec (n : Nat) : n < 18446744073709551616 → ∀ r, Lib.parseUintM (2 ^ 64 - 1) 0 (Lib.decDigits n ++ r) = Lib.parseUintM (2 ^ 64 - 1) n r := by
  induction n using dec_ind with
  | h0 n h =>
    intro _ r
    rw [Lib.decDigits_one h, List.singleton_append, Lib.parseUintM, dig_toNat n h, if_pos (by omega), if_neg (by omega), if_neg (by omega)]
    congr 1
    omega
  | h1 n h ih =>
    intro hn r
    rw [dec_more n h, List.append_assoc, ih (by omega), List.singleton_append, Lib.parseUintM, dig_toNat _ (by omega), if_pos (by omega), if_neg (by omega), if_neg (by omega)]
    congr 1
    omega
theorem pu_dec (n : Nat) (h : n < 18446744073709551616) : Lib.parseUintB 64 (decS n).data.toList = .ok n := by
  have := pum_dec n h []
  rw [List.append_nil] at this
  unfold Lib.parseUintB decS
  show (if (Lib.decDigits n).toArray.toList = [] then _ else _) = _
  rw [List.toList_toArray, if_neg (dec_ne n), this]
  rfl
theorem pum_lt : ∀ (l : List UInt8) (a u : Nat), a < 2 ^ 64 → Lib.parseUintM (2 ^ 64 - 1) a l = .ok u → u < 2 ^ 64
  | [], a, u, ha, h => by
    rw [Lib.parseUintM] at h
    injection h with h
    omega
  | c :: r, a, u, ha, h => by
    rw [Lib.parseUintM] at h
    split at h
    · split at h
      · cases h
      · split at h
        · cases h
        · exact pum_lt r _ u (by omega) h
    · cases h
theorem pu_lt {s : ByteArray} {u : Nat} (h : Lib.parseUintB 64 s.data.toList = .ok u) : u < 18446744073709551616 := by
  unfold Lib.parseUintB at h
  split at h
  · cases h
  · exact pum_lt _ 0 u (by decide) h
theorem decB_no {s : ByteArray} (h : ∀ m, m < 18446744073709551616 → decS m ≠ s) : decB s = false := decide_eq_false (h _ (decM_lt s))
/-- What ParseUint and FormatUint tell together. -/
theorem dec_parsed {s : ByteArray} {u : Nat} (h : Lib.parseUintB 64 s.data.toList = .ok u) : (decS u = s → decB s = true ∧ decN s = u) ∧ (decS u ≠ s → decB s = false ∧ decN s = 0) := by
  have hu := pu_lt h
  constructor
  · intro e
    have := decB_iff u hu e
    exact ⟨this.1, by unfold decN; rw [if_pos this.1, this.2]⟩
  · intro e
    have hb : decB s = false := decB_no fun m hm hs => by
      rw [← hs, pu_dec m hm] at h
      injection h with h
      subst h
      exact e hs
    exact ⟨hb, by unfold decN; rw [hb]; rfl⟩
theorem dec_unparsed {s : ByteArray} (h : ∀ u, Lib.parseUintB 64 s.data.toList ≠ .ok u) : decB s = false ∧ decN s = 0 := by
  have hb : decB s = false := decB_no fun m hm hs => h m (by rw [← hs, pu_dec m hm])
  exact ⟨hb, by unfold decN; rw [hb]; rfl⟩
theorem dec_bad {s : ByteArray} {c : UInt8} (hc : c ∈ s.data.toList) (h : c.toNat < 48 ∨ 57 < c.toNat) : decB s = false ∧ decN s = 0 := by
  have hb : decB s = false := decB_no fun m hm hs => by
    subst hs
    have := dec_digit m c (by simpa [decS] using hc)
    omega
  exact ⟨hb, by unfold decN; rw [hb]; rfl⟩
theorem dec_long {s : ByteArray} (h : 20 < s.size) : decB s = false ∧ decN s = 0 := by
  have hb : decB s = false := decB_no fun m hm hs => by
    subst hs
    have := decS_size m hm
    omega
  exact ⟨hb, by unfold decN; rw [hb]; rfl⟩
theorem dv_next {l : List UInt8} {j : Nat} {c : UInt8} (h : l[j]? = some c) : dv (l.take (j + 1)) = dv (l.take j) * 10 + (c.toNat - 48) := by
  have : l.take (j + 1) = l.take j ++ [c] := by rw [List.take_add_one, h]; rfl
  rw [this]
  unfold dv
  rw [List.foldl_append]
  rfl
/-- The tables and the variables that stand ready. -/
structure Tab (w : World) : Prop where
  pow : Pow w
  sz : 4 ≤ w.heap.size
  mx : ∃ m, w.cell? ⟨3, 0, none⟩ = some (.int .i64 m)
  syn : ∃ tp p, w.var? Tryd.prog "strconv.ErrSyntax" = some #[.iface tp p]
  rng : ∃ tp p, w.var? Tryd.prog "strconv.ErrRange" = some #[.iface tp p]
theorem gSyn : Tryd.prog.globalNamed "strconv.ErrSyntax" = some 1 := by kernel_rfl
theorem gRng : Tryd.prog.globalNamed "strconv.ErrRange" = some 2 := by kernel_rfl
theorem var_of_block {w w' : World} {n : String} {g : Nat} (hg : Tryd.prog.globalNamed n = some g) (h : w'.heap[g]? = w.heap[g]?) : w'.var? Tryd.prog n = w.var? Tryd.prog n := by
  unfold World.var?
  rw [hg]
  simp only [Option.bind_some]
  rw [h]
theorem Tab.below {w w' : World} (h : Tab w) (hb : Below w.heap.size w w') : Tab w' := by
  have hs := h.sz
  refine ⟨h.pow.below hb, Nat.le_trans hs hb.size, ?_, ?_, ?_⟩
  · obtain ⟨m, hm⟩ := h.mx
    exact ⟨m, (hb.cell (p := ⟨3, 0, none⟩) (by show 3 < _; omega)).trans hm⟩
  · obtain ⟨a, b, e⟩ := h.syn
    exact ⟨a, b, (var_of_block gSyn (hb.block 1 (by omega))).trans e⟩
  · obtain ⟨a, b, e⟩ := h.rng
    exact ⟨a, b, (var_of_block gRng (hb.block 2 (by omega))).trans e⟩
end Go.Proofs.YtbifakhalnkfbaaDoor
