import Derived.Test.YthfjjphpnakgnaaDoorRxo
namespace Go.Proofs.YthfjjphpnakgnaaDoor
open Go.ChangeShapes Go.WideShapes Go.ChangeAt Go.RowKit
set_option linter.unusedVariables false
set_option linter.unusedSimpArgs false
def orL (l : List Nat) : Nat := l.foldl (fun a b => a ||| b) 0
theorem orL_snoc (l : List Nat) (x : Nat) : orL (l ++ [x]) = orL l ||| x := by simp [orL]
theorem or_lt {x y : Nat} (hx : x < 256) (hy : y < 256) : x ||| y < 256 := Nat.or_lt_two_pow (n := 8) hx hy
theorem orL_take_lt (l : List Nat) (h : ∀ x ∈ l, x < 256) (j : Nat) : orL (l.take j) < 256 := by
  induction j with
  | zero => simp [orL]
  | succ j ih =>
    cases e : l[j]? with
    | none => rw [List.take_of_length_le (by have := List.getElem?_eq_none_iff.1 e; omega)]; rw [List.take_of_length_le (List.getElem?_eq_none_iff.1 e)] at ih; exact ih
    | some x => rw [take_next _ _ _ e, orL_snoc]; exact or_lt ih (h x (List.mem_of_getElem? e))
theorem or_zero {a b : Nat} : a ||| b = 0 ↔ a = 0 ∧ b = 0 := by
  constructor
  · intro h
    have h1 : a ≤ a ||| b := Nat.left_le_or
    have h2 : b ≤ a ||| b := Nat.right_le_or
    omega
  · rintro ⟨rfl, rfl⟩; rfl
theorem orL_zero (l : List Nat) : orL l = 0 ↔ ∀ x ∈ l, x = 0 := by
  unfold orL
  have gen : ∀ (l : List Nat) (s : Nat), l.foldl (fun a b => a ||| b) s = 0 ↔ s = 0 ∧ ∀ x ∈ l, x = 0 := by
    intro l
    induction l with
    | nil => intro s; simp
    | cons b l ih => intro s; rw [List.foldl_cons, ih, or_zero]; simp [and_assoc]
  rw [gen]; simp
theorem xor_zero {a b : Nat} : a ^^^ b = 0 ↔ a = b := by
  constructor
  · intro h
    have : a ^^^ b ^^^ b = 0 ^^^ b := by rw [h]
    rwa [Nat.xor_assoc, Nat.xor_self, Nat.xor_zero, Nat.zero_xor] at this
  · rintro rfl; exact Nat.xor_self _
theorem xl_zero (la : List Nat) : ∀ (lb : List Nat), la.length = lb.length → ((∀ x ∈ xl la lb, x = 0) ↔ la = lb) := by
  induction la with
  | nil => intro lb h; obtain rfl : lb = [] := List.length_eq_zero_iff.1 (by simpa using h.symm); simp [xl]
  | cons a la ih =>
    intro lb h
    cases lb with
    | nil => simp at h
    | cons b lb =>
      have := ih lb (by simpa using h)
      unfold xl at *
      simp [this, xor_zero]
set_option maxRecDepth 100000 in
theorem equal_any (A B : Option Addr) (n c m d : Nat) (la lb : List Nat) (w : World) (hA : Bys w A n la) (hB : Bys w B m lb) (hn : n ≤ 1000) (hm : m ≤ 1000) :
    Calls Tryd.prog 18 #[.slice A n c, .slice B m d] w fun e w' => e = .returned (.bool (decide (la = lb))) ∧ Below w.heap.size w w' := by
  have hx := xor_any A B n c m d la lb w hA hB hn hm
  have lA := hA.len
  have lB := hB.len
  have hxl : (xl la lb).length = min n m := by rw [xl_len, lA, lB]
  have hxb := xl_lt la lb hA.2 hB.2
  have hk : min n m ≤ 1000 := by omega
  have heq : (orL (xl la lb) = 0 ∧ n = m) ↔ la = lb := by
    rw [orL_zero]
    constructor
    · rintro ⟨h1, h2⟩; exact (xl_zero la lb (by omega)).1 h1
    · rintro rfl; exact ⟨(xl_zero la la rfl).2 rfl, by omega⟩
  clear hA hB lA lB
  obtain ⟨l, hl⟩ : ∃ l, xl la lb = l := ⟨_, rfl⟩
  rw [hl] at hx hxl hxb heq
  obtain ⟨k, hk'⟩ : ∃ k, min n m = k := ⟨_, rfl⟩
  rw [hk'] at hx hxl hk
  have HEQ := Lib.hid heq
  have HL := Lib.hid hxl
  have HB := Lib.hid hxb
  clear heq hxl hxb hl hk'
  go_enter Tryd.func18, Tryd.ntmps18
  go_wp2_with (go_at_call 16; refine hx.mono ?_; rintro _ w1 ⟨rfl, hF, hbel⟩)
  have HF := Lib.hid (hF.bys HL.out HB.out)
  have HBE := Lib.hid hbel
  clear hF hbel hx
  go_loopw [5, 12] (fun z i wr => ∃ (j : Nat), j ≤ k ∧ i = .int .i64 j ∧ z = .int .u8 ((orL (l.take j) : Nat) : Int) ∧ wr = w1) (fun _ i _ => k - (intOf i).toNat)
  case atStart => exact ⟨0, by omega, rfl, by simp [orL], rfl⟩
  case round =>
    obtain ⟨j, hj, rfl, rfl, rfl⟩ := hrel
    have hz9 := orL_take_lt l HB.out j
    by_cases hlt : j < k
    · obtain ⟨b1, o1, x, hA1, _, hx1, hx9, hcx⟩ := HF.out.cell hlt
      injection hA1 with hA1
      injection hA1 with hb1 ho1
      subst hb1
      subst ho1
      have HN := Lib.hid (show orL (l.take (j + 1)) = orL (l.take j) ||| x by rw [take_next _ _ _ hx1, orL_snoc])
      obtain ⟨z, hz⟩ : ∃ z, orL (l.take j) = z := ⟨_, rfl⟩
      rw [hz] at HN hz9 ⊢
      have hor := u8_or_nat z x hz9 hx9
      rw [Nat.zero_add] at hcx
      clear hx1 hz
      go_wp2_with fail
      go_roundw
      case rel => exact ⟨j + 1, by omega, by go_num, by rw [HN.out], by simp⟩
      case measure => simp [intOf]; omega
    · obtain rfl : j = k := by omega
      rw [List.take_of_length_le (by rw [HL.out]; omega)] at hz9 ⊢
      obtain ⟨z, hz⟩ : ∃ z, orL l = z := ⟨_, rfl⟩
      rw [hz] at hz9 HEQ ⊢
      by_cases h0 : z = 0
      · by_cases h1 : n = m
        · have HD := Lib.hid (show decide (la = lb) = true by simp; exact HEQ.out.1 ⟨h0, h1⟩)
          subst h0; subst h1
          clear HEQ
          go_wp2_with fail
          go_ret
          exact ⟨ret_bool (by rw [HD.out]), HBE.out⟩
        · have HD := Lib.hid (show decide (la = lb) = false by simp; intro h; exact h1 (HEQ.out.2 h).2)
          have hb : ((n : Int) == (m : Int)) = false := by simp; omega
          subst h0
          clear HEQ
          go_wp2_with fail
          go_ret
          exact ⟨ret_bool (by rw [HD.out]), HBE.out⟩
      · have HD := Lib.hid (show decide (la = lb) = false by simp; intro h; exact h0 (HEQ.out.2 h).1)
        have hb : ((z : Int) == 0) = false := by simp; omega
        clear HEQ
        go_wp2_with fail
        go_ret
        exact ⟨ret_bool (by rw [HD.out]), HBE.out⟩
end Go.Proofs.YthfjjphpnakgnaaDoor
