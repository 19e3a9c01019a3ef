import Derived.Test.YtbifakhalnkfbaaDoorBase
import Derived.Test.YtbifakhalnkfbaaDoorRows
import Derived.Lib.TrailingZeros
import Derived.Laws.BitsAllLaws
import Derived.Outline
namespace Go.Proofs.YtbifakhalnkfbaaDoor
open Go.ChangeShapes Go.WideShapes Go.ChangeAt Go.RowKit
set_option linter.unusedVariables false
set_option linter.unusedSimpArgs false
/-- The number of bytes. -/
def num (bs : List Nat) : Nat := bs.foldl (fun x b => x * 256 + b) 0
def M64 : Nat := 18446744073709551616
theorem num_snoc (bs : List Nat) (x : Nat) : num (bs ++ [x]) = num bs * 256 + x := by simp [num]
theorem take_next (bs : List Nat) (k x : Nat) (h : bs[k]? = some x) : bs.take (k + 1) = bs.take k ++ [x] := by
  rw [List.take_add_one, h]; rfl
theorem num_take_lt (bs : List Nat) (h : ∀ x ∈ bs, x < 256) (k : Nat) : num (bs.take k) < 256 ^ k := by
  induction k with
  | zero => simp [num]
  | succ k ih =>
    cases e : bs[k]? with
    | none =>
      have hl : bs.length ≤ k := List.getElem?_eq_none_iff.1 e
      rw [List.take_of_length_le (by omega)]
      rw [List.take_of_length_le hl] at ih
      rw [Nat.pow_succ]; omega
    | some x =>
      have hx := h x (List.mem_of_getElem? e)
      rw [take_next _ _ _ e, num_snoc, Nat.pow_succ]
      omega
theorem pow256 (k : Nat) (h : k ≤ 7) : 256 ^ k ≤ 72057594037927936 := by
  have := Nat.pow_le_pow_right (n := 256) (by omega) h
  omega
theorem or256 (a c : Nat) (h : c < 256) : a * 256 ||| c = a * 256 + c := by
  have := Nat.shiftLeft_add_eq_or_of_lt (i := 8) (b := c) (by omega) a
  rw [Nat.shiftLeft_eq] at this
  exact this.symm
theorem u64_or256 (a c : Nat) (ha : a < 72057594037927936) (hc : c < 256) : bits .or .u64 ((a : Int) * 256) (c : Int) = ((a * 256 + c : Nat) : Int) := by
  have := u64_or_nat (a * 256) c (by omega) (by omega)
  rw [or256 a c hc] at this
  rw [← this]; congr 1
theorem u64_step (a c : Nat) (hc : c < 256) : IntKind.u64.wrap (IntKind.u64.wrap ((a : Int) * 256) + (c : Int)) = (((a * 256 + c) % M64 : Nat) : Int) := by
  rw [IntKind.wrap_u64, IntKind.wrap_u64]; unfold M64; omega
set_option maxRecDepth 100000 in
theorem rbnum_any (A : Option Addr) (n c : Nat) (bs : List Nat) (w : World) (hb : Bys w A n bs) (hn : n ≤ maxLen) :
    Calls Tryd.prog 46 #[.slice A n c] w fun e w' => e = .returned (.int .u64 ((num bs % M64 : Nat) : Int)) ∧ w = w' := by
  unfold maxLen at hn
  have HB := Lib.hid hb
  have HL := Lib.hid hb.len
  clear hb
  go_enter Tryd.func46, Tryd.ntmps46
  go_wp2_with fail
  go_loopw [3, 4] (fun x i wr => ∃ (j : Nat), j ≤ n ∧ i = .int .i64 j ∧ x = .int .u64 ((num (bs.take j) % M64 : Nat) : Int) ∧ wr = w) (fun _ i _ => n - (intOf i).toNat)
  case atStart => exact ⟨0, by omega, rfl, by simp [num], rfl⟩
  case round =>
    obtain ⟨j, hj, rfl, rfl, rfl⟩ := hrel
    by_cases hlt : j < n
    · obtain ⟨b1, o1, x, rfl, _, hx1, hx9, hcx⟩ := HB.out.cell hlt
      have hst := u64_step (num (bs.take j) % M64) x hx9
      have hnx : num (bs.take (j + 1)) % M64 = (num (bs.take j) % M64 * 256 + x) % M64 := by
        rw [take_next _ _ _ hx1, num_snoc]
        unfold M64; omega
      have hlt9 : num (bs.take j) % M64 < 18446744073709551616 := by unfold M64; omega
      obtain ⟨a, ha⟩ : ∃ a, num (bs.take j) % M64 = a := ⟨_, rfl⟩
      rw [ha] at hst hnx hlt9 ⊢
      have HN := Lib.hid hnx
      have hji : (j : Int) < (n : Int) := by omega
      clear hnx hx1
      go_wp2_with fail
      go_roundw
      case rel => exact ⟨j + 1, by omega, by go_num, by rw [HN.out]; simp, by simp⟩
      case measure => simp [intOf]; omega
    · obtain rfl : j = n := by omega
      rw [List.take_of_length_le (by rw [HL.out]; omega)]
      go_wp2_with fail
      go_ret
      exact ⟨rfl, rfl⟩
/-- The last eight. -/
def last8 (bs : List Nat) : List Nat := bs.drop (bs.length - 8)
theorem Bys.from_ {w : World} {b o n : Nat} {bs : List Nat} (h : Bys w (some ⟨b, o, none⟩) n bs) (k : Nat) (hk : k ≤ n) : Bys w (some ⟨b, o + k, none⟩) (n - k) (bs.drop k) := by
  have hl := h.len
  refine ⟨⟨by simp [hl], fun hn => ⟨_, rfl, ?_, fun j u hu => ?_⟩⟩, fun x hx => h.2 x (List.mem_of_mem_drop hx)⟩
  · obtain ⟨ad, e, hb, _⟩ := h.1.2 (by omega)
    injection e with e; subst e; exact hb
  · obtain ⟨ad, e, hb, hc⟩ := h.1.2 (by omega)
    injection e with e; subst e
    have := hc (k + j) u (by simpa [List.getElem?_drop] using hu)
    rw [add_none] at this ⊢
    rw [Nat.add_assoc]; exact this
set_option maxRecDepth 100000 in
theorem bnum_any (A : Option Addr) (n c : Nat) (bs : List Nat) (w : World) (hb : Bys w A n bs) (hn : n ≤ maxLen) (hnc : n ≤ c) (hcm : c ≤ maxLen) :
    Calls Tryd.prog 62 #[.slice A n c] w fun e w' => e = .returned (.int .u64 ((num (last8 bs) : Nat) : Int)) ∧ w = w' := by
  unfold maxLen at hn hcm
  have hl := hb.len
  have h8 : last8 bs = bs.drop (n - 8) := by rw [← hl]; rfl
  by_cases h9 : 8 ≤ n
  · obtain ⟨b, o, _, rfl, _, _, _, _⟩ := hb.cell (k := 0) (by omega)
    obtain ⟨k, hk⟩ : ∃ k, n - 8 = k := ⟨_, rfl⟩
    have hb2 := hb.from_ k (by omega)
    have hm : ((n : Int) - 8).toNat = k := by omega
    have hm1 : (0 : Int) ≤ (n : Int) - 8 := by omega
    have hm9 : n - k ≤ 8 := by omega
    rw [h8, hk]
    obtain ⟨q, hq⟩ : ∃ q, bs.drop k = q := ⟨_, rfl⟩
    rw [hq] at hb2 ⊢
    have HB := Lib.hid hb2
    have HL := Lib.hid hb2.len
    clear hb hb2 hl h8 hq
    go_enter Tryd.func62, Tryd.ntmps62
    go_wp2_with fail
    clear hm hm1 hk
    generalize (⟨b, o + k, none⟩ : Addr) = A at HB ⊢
    generalize n - k = m at *
    go_loopw [3, 13] (fun x i wr => ∃ (j : Nat), j ≤ m ∧ i = .int .i64 j ∧ x = .int .u64 ((num (q.take j) : Nat) : Int) ∧ wr = w) (fun _ i _ => m - (intOf i).toNat)
    case atStart => exact ⟨0, by omega, rfl, by simp [num], rfl⟩
    case round =>
      obtain ⟨j, hj, rfl, rfl, rfl⟩ := hrel
      by_cases hlt : j < m
      · obtain ⟨b1, o1, x, hA1, _, hx1, hx9, hcx⟩ := HB.out.cell hlt
        first | (injection hA1 with hA1; subst hA1) | subst hA1
        have hbd := Nat.lt_of_lt_of_le (num_take_lt q HB.out.2 j) (pow256 j (by omega))
        have hnx : num (q.take (j + 1)) = num (q.take j) * 256 + x := by rw [take_next _ _ _ hx1, num_snoc]
        obtain ⟨a, ha⟩ : ∃ a, num (q.take j) = a := ⟨_, rfl⟩
        rw [ha] at hbd hnx ⊢
        have HN := Lib.hid hnx
        have hor := u64_or256 a x hbd hx9
        have hji : (j : Int) < (m : Int) := by omega
        clear hnx hx1 ha
        go_wp2_with fail
        go_roundw
        case rel => exact ⟨j + 1, by omega, by go_num, by rw [HN.out]; simp, by simp⟩
        case measure => simp [intOf]; omega
      · obtain rfl : j = m := by omega
        rw [List.take_of_length_le (by rw [HL.out]; omega)]
        go_wp2_with fail
        go_ret
        exact ⟨rfl, rfl⟩
  · obtain ⟨q, hq⟩ : ∃ q, bs.drop (n - 8) = q := ⟨_, rfl⟩
    have hb2 : Bys w A n q := by rw [← hq, show n - 8 = 0 by omega]; exact hb
    obtain ⟨m, rfl⟩ : ∃ m, m = n := ⟨_, rfl⟩
    have hm9 : m ≤ 8 := by omega
    rw [h8, hq]
    have HB := Lib.hid hb2
    have HL := Lib.hid hb2.len
    have hm1 : ¬ (0 : Int) ≤ (m : Int) - 8 := by omega
    clear hb hb2 hl h8 hq
    go_enter Tryd.func62, Tryd.ntmps62
    go_wp2_with fail
    clear hm1
    go_loopw [3, 13] (fun x i wr => ∃ (j : Nat), j ≤ m ∧ i = .int .i64 j ∧ x = .int .u64 ((num (q.take j) : Nat) : Int) ∧ wr = w) (fun _ i _ => m - (intOf i).toNat)
    case atStart => exact ⟨0, by omega, rfl, by simp [num], rfl⟩
    case round =>
      obtain ⟨j, hj, rfl, rfl, rfl⟩ := hrel
      by_cases hlt : j < m
      · obtain ⟨b1, o1, x, hA1, _, hx1, hx9, hcx⟩ := HB.out.cell hlt
        first | (injection hA1 with hA1; subst hA1) | subst hA1
        have hbd := Nat.lt_of_lt_of_le (num_take_lt q HB.out.2 j) (pow256 j (by omega))
        have hnx : num (q.take (j + 1)) = num (q.take j) * 256 + x := by rw [take_next _ _ _ hx1, num_snoc]
        obtain ⟨a, ha⟩ : ∃ a, num (q.take j) = a := ⟨_, rfl⟩
        rw [ha] at hbd hnx ⊢
        have HN := Lib.hid hnx
        have hor := u64_or256 a x hbd hx9
        have hji : (j : Int) < (m : Int) := by omega
        clear hnx hx1 ha
        go_wp2_with fail
        go_roundw
        case rel => exact ⟨j + 1, by omega, by go_num, by rw [HN.out]; simp, by simp⟩
        case measure => simp [intOf]; omega
      · obtain rfl : j = m := by omega
        rw [List.take_of_length_le (by rw [HL.out]; omega)]
        go_wp2_with fail
        go_ret
        exact ⟨rfl, rfl⟩
end Go.Proofs.YtbifakhalnkfbaaDoor
