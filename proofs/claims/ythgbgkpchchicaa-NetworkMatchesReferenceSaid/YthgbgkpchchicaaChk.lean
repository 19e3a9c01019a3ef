import Derived.Test.YthgbgkpchchicaaCln
namespace Go.Proofs.Ythgbgkpchchicaa
open Go.ChangeShapes Go.WideShapes Go.ChangeAt Go.RowKit
set_option linter.unusedVariables false
set_option linter.unusedSimpArgs false
/-- A place is outside. -/
def outB (len : Nat) (x : Int) : Bool := decide (x < 0 ∨ (len : Int) ≤ x)
set_option maxRecDepth 100000 in
theorem out_any (g p : Nat) (v : Value) (ds : List Dg) (last x : Int) (B : Nat) (w : World) (h : Net B w g v ds last) (hp : Blk w p 24 #[P1 g]) :
    Calls Try.prog 31 #[.int .i64 x, .pointer (some ⟨p, 0, none⟩)] w fun e w' => e = .returned (.bool (outB ds.length x)) ∧ w = w' := by
  obtain ⟨A, c, rfl⟩ := own_form h.row
  have c0 : w.cell? ⟨g, 0, none⟩ = some (.slice A ds.length c) := (h.blk.cell 0).trans rfl
  have c1 : w.cell? ⟨p, 0, none⟩ = some (.pointer (some ⟨g, 0, none⟩)) := (hp.cell 0).trans rfl
  clear h hp
  unfold outB
  by_cases h0 : x < 0
  · have HN := Lib.hid h0
    have g0 : decide (x < 0) = true := by simp; exact h0
    clear h0
    go_enter Try.func31, Try.ntmps31
    go_wp2_with fail
    go_ret
    exact ⟨ret_bool (by have := HN.out; simp; omega), rfl⟩
  · have g0 : decide (x < 0) = false := by simp; omega
    by_cases h1 : (ds.length : Int) ≤ x
    · have HN := Lib.hid h1
      have g1 : decide ((ds.length : Int) ≤ x) = true := by simp; exact h1
      clear h0 h1
      go_enter Try.func31, Try.ntmps31
      go_wp2_with fail
      go_ret
      exact ⟨ret_bool (by have := HN.out; simp; omega), rfl⟩
    · have HN := Lib.hid (show ¬ (x < 0 ∨ (ds.length : Int) ≤ x) by omega)
      have g1 : decide ((ds.length : Int) ≤ x) = false := by simp; omega
      clear h0 h1
      go_enter Try.func31, Try.ntmps31
      go_wp2_with fail
      go_ret
      exact ⟨ret_bool (by have := HN.out; simp; omega), rfl⟩
def F1 (p : Nat) : Value := .func (.func 31) #[] #[.pointer (some ⟨p, 0, none⟩)]
set_option maxRecDepth 100000 in
theorem idx_any (g p b : Nat) (v : Value) (ds : List Dg) (last : Int) (xs : List Int) (B : Nat) (w : World) (h : Net B w g v ds last) (hp : Blk w p 24 #[P1 g]) (hx : Blk w b 3 (xs.map fun x => Value.int .i64 x).toArray) (hm : xs.length ≤ 2) :
    Calls Try.prog 33 #[.slice (some ⟨b, 0, none⟩) xs.length xs.length, F1 p] w fun e w' => ∃ r : Int, e = .returned (.int .i64 r) ∧ decide (0 ≤ r) = xs.any (outB ds.length) ∧ w = w' := by
  have ho := fun x => out_any g p v ds last x B w h hp
  have HX := Lib.hid hx
  clear h hx hp
  generalize outB ds.length = O at *
  unfold F1
  go_enter Try.func33, Try.ntmps33
  go_wp2_with fail
  go_loopw [8] (fun i wr => ∃ (j : Nat), j ≤ xs.length ∧ i = .int .i64 j ∧ (xs.take j).any O = false ∧ w = wr) (fun i _ => xs.length - (intOf i).toNat)
  case atStart => exact ⟨0, by omega, rfl, by simp, rfl⟩
  case round =>
    obtain ⟨j, hj, rfl, ht, rfl⟩ := hrel
    have HT := Lib.hid ht
    clear ht
    by_cases hlt : j < xs.length
    · have cx : w.cell? ⟨b, j, none⟩ = some (.int .i64 xs[j]) := (HX.out.cell j).trans (by simp [hlt])
      have hji : (j : Int) < (xs.length : Int) := by omega
      have HG := Lib.hid (show xs[j]? = some xs[j] from List.getElem?_eq_getElem hlt)
      generalize xs[j] = x at *
      cases hO : O x with
      | true =>
        have hox := ho x
        rw [hO] at hox
        have HN := Lib.hid (show xs.any O = true from List.any_eq_true.2 ⟨x, List.mem_of_getElem? HG.out, hO⟩)
        clear hO HG HT ho
        go_wp2_with (go_at_call 31; refine hox.mono ?_; rintro _ _ ⟨rfl, rfl⟩)
        go_ret
        exact ⟨j, rfl, by rw [HN.out]; simp, rfl⟩
      | false =>
        have hox := ho x
        rw [hO] at hox
        have HN := Lib.hid (show (xs.take (j + 1)).any O = false by rw [List.take_add_one, HG.out, List.any_append, HT.out]; simp [hO])
        clear hO HG HT ho
        go_wp2_with (go_at_call 31; refine hox.mono ?_; rintro _ _ ⟨rfl, rfl⟩)
        go_roundw
        case rel => exact ⟨j + 1, by omega, by go_num, HN.out, by simp⟩
        case measure => simp [intOf]; omega
    · obtain rfl : j = xs.length := by omega
      have HN := Lib.hid (show xs.any O = false by simpa using HT.out)
      clear HT ho
      go_wp2_with fail
      go_ret
      exact ⟨-1, rfl, by rw [HN.out]; rfl, rfl⟩
set_option maxRecDepth 100000 in
theorem has_any (g p b : Nat) (v : Value) (ds : List Dg) (last : Int) (xs : List Int) (B : Nat) (w : World) (h : Net B w g v ds last) (hp : Blk w p 24 #[P1 g]) (hx : Blk w b 3 (xs.map fun x => Value.int .i64 x).toArray) (hm : xs.length ≤ 2) :
    Calls Try.prog 32 #[.slice (some ⟨b, 0, none⟩) xs.length xs.length, F1 p] w fun e w' => e = .returned (.bool (xs.any (outB ds.length))) ∧ w = w' := by
  have hc := idx_any g p b v ds last xs B w h hp hx hm
  clear h hx hp
  generalize xs.any (outB ds.length) = r at *
  unfold F1 at *
  go_enter Try.func32, Try.ntmps32
  go_wp2_with (go_at_call 33; refine hc.mono ?_; rintro _ _ ⟨q, rfl, hq, rfl⟩; clear hc; subst hq)
  go_ret
  exact ⟨ret_bool rfl, rfl⟩
set_option maxRecDepth 100000 in
theorem check_any (g b : Nat) (v : Value) (ds : List Dg) (last : Int) (xs : List Int) (B : Nat) (w : World) (h : Net B w g v ds last) (hx : Blk w b 3 (xs.map fun x => Value.int .i64 x).toArray) (hm : xs.length ≤ 2) :
    Calls Try.prog 26 #[P1 g, .slice (some ⟨b, 0, none⟩) xs.length xs.length] w fun e w' => e = .returned (errV (if xs.any (outB ds.length) then 10 else 0)) ∧ Below w.heap.size w w' := by
  have h1 := h.below ((Below.refl _ w).alloc (Nat.le_refl _) (.cells #[P1 g] 24))
  have hc := has_any g w.heap.size b v ds last xs B _ h1 (Blk.new w 24 #[P1 g]) (hx.alloc _) hm
  clear h h1 hx
  unfold P1 F1 at *
  cases hr : xs.any (outB ds.length) with
  | true =>
    rw [hr] at hc
    clear hr
    go_enter Try.func26, Try.ntmps26
    go_wp2_with (go_at_call 32; refine hc.mono ?_; rintro _ _ ⟨rfl, rfl⟩)
    go_ret
    exact ⟨rfl, (Below.refl _ w).alloc (Nat.le_refl _) _⟩
  | false =>
    rw [hr] at hc
    clear hr
    go_enter Try.func26, Try.ntmps26
    go_wp2_with (go_at_call 32; refine hc.mono ?_; rintro _ _ ⟨rfl, rfl⟩)
    go_ret
    exact ⟨rfl, (Below.refl _ w).alloc (Nat.le_refl _) _⟩
theorem check_nil (s : Value) (w : World) : Calls Try.prog 26 #[.pointer none, s] w fun e w' => e = .returned (errV 7) ∧ Below w.heap.size w w' := by
  go_enter Try.func26, Try.ntmps26
  go_wp2_with fail
  go_ret
  exact ⟨rfl, (Below.refl _ w).alloc (Nat.le_refl _) _⟩
end Go.Proofs.Ythgbgkpchchicaa
