import Derived.Test.YtbkgmeopdcealaaDoorHxw
import Derived.Test.YtbkgmeopdcealaaDoorShelf
namespace Go.Proofs.YtbkgmeopdcealaaDoor
open Go.ChangeShapes Go.WideShapes Go.ChangeAt Go.RowKit
set_option linter.unusedVariables false
set_option linter.unusedSimpArgs false
def dgI (c : Nat) : Int := match dg c with
  | some x => x
  | none => -1
theorem alf_index : ∀ c : Fin 256, Lib.indexByte [48, 49, 50, 51, 52, 53, 54, 55, 56, 57, 97, 98, 99, 100, 101, 102] (UInt8.ofNat c.1) = dgI c.1 := by decide +kernel
/-- Pairs read so far. -/
def Pairs (l done : List Nat) (i : Nat) : Prop := unL l = (unL (l.drop i)).map (done ++ ·) ∧ done.length * 2 = i ∧ (∀ b ∈ done, b < 256)
theorem Pairs.start (l : List Nat) : Pairs l [] 0 := ⟨by cases h : unL l <;> simp [h], rfl, by simp⟩
theorem drop_two {l : List Nat} {i a b : Nat} (ha : l[i]? = some a) (hb : l[i + 1]? = some b) : l.drop i = a :: b :: l.drop (i + 2) := by
  obtain ⟨h1, e1⟩ := List.getElem?_eq_some_iff.1 ha
  obtain ⟨h2, e2⟩ := List.getElem?_eq_some_iff.1 hb
  rw [List.drop_eq_getElem_cons h1, List.drop_eq_getElem_cons h2, e1, e2]
theorem Pairs.next {l done : List Nat} {i a b x y : Nat} (h : Pairs l done i) (ha : l[i]? = some a) (hb : l[i + 1]? = some b) (hx : dg a = some x) (hy : dg b = some y) : Pairs l (done ++ [16 * x + y]) (i + 2) := by
  obtain ⟨h1, h2, h3⟩ := h
  have lx := (hx_dg hx).2
  have ly := (hx_dg hy).2
  refine ⟨?_, by simp; omega, fun z hz => ?_⟩
  · rw [h1, drop_two ha hb, unL, hx, hy]
    simp only
    cases unL (l.drop (i + 2)) <;> simp
  · rcases List.mem_append.1 hz with hz | hz
    · exact h3 z hz
    · simp at hz; omega
theorem Pairs.bad {l done : List Nat} {i a b : Nat} (h : Pairs l done i) (ha : l[i]? = some a) (hb : l[i + 1]? = some b) (hx : dg a = none ∨ dg b = none) : unL l = none := by
  rw [h.1, drop_two ha hb, unL]
  rcases hx with hx | hx
  · rw [hx]; rfl
  · rw [hx]; cases dg a <;> rfl
theorem Pairs.all {l done : List Nat} {i : Nat} (h : Pairs l done i) (hi : i = l.length) : unL l = some done := by
  rw [h.1, List.drop_of_length_le (by omega), unL]
  simp
theorem Pairs.odd {l done : List Nat} {i : Nat} (h : Pairs l done i) (hi : i + 1 = l.length) : unL l = none := by
  rw [h.1]
  have hl : (l.drop i).length = 1 := by rw [List.length_drop]; omega
  match hd : l.drop i, hl with
  | [a], _ => rfl
theorem dgI_neg {c : Nat} : (dgI c < 0 ↔ dg c = none) := by
  unfold dgI
  cases h : dg c with
  | none => simp
  | some x => simp
theorem dgI_some {c x : Nat} (h : dg c = some x) : dgI c = x := by unfold dgI; rw [h]
theorem dg_cases (c : Nat) : (dg c = none ∧ dgI c = -1) ∨ ∃ x, dg c = some x ∧ dgI c = (x : Int) ∧ x < 16 := by
  cases h : dg c with
  | none => exact .inl ⟨rfl, by unfold dgI; rw [h]⟩
  | some x => exact .inr ⟨x, rfl, dgI_some h, (hx_dg h).2⟩
theorem index_any (c : Nat) (w : World) (hc : c < 256) : Calls Tryd.prog 34 #[.string ⟨#[48, 49, 50, 51, 52, 53, 54, 55, 56, 57, 97, 98, 99, 100, 101, 102]⟩, .int .u8 c] w fun e w' => e = .returned (.int .i64 (dgI c)) ∧ w' = w := by
  refine (Tryd.strings_IndexByte ⟨#[48, 49, 50, 51, 52, 53, 54, 55, 56, 57, 97, 98, 99, 100, 101, 102]⟩ (c : Int) w).mono fun e w' ⟨he, hw⟩ => ⟨?_, hw⟩
  rw [he, ← alf_index ⟨c, hc⟩]
  rfl
set_option maxRecDepth 100000 in
theorem digit_any (c : Nat) (w : World) (hc : c < 256) : Calls Tryd.prog 35 #[.int .u8 c] w fun e w' => e = .returned (.int .i64 (dgI c)) ∧ w = w' := by
  obtain ⟨r, hr⟩ : ∃ r, dgI c = r := ⟨_, rfl⟩
  rw [hr]
  have hcase : c < 48 ∨ (48 ≤ c ∧ c ≤ 57) ∨ (57 < c ∧ c < 97) ∨ (97 ≤ c ∧ c ≤ 102) ∨ 102 < c := by omega
  rcases hcase with h | ⟨h, h'⟩ | ⟨h, h'⟩ | ⟨h, h'⟩ | h
  · have HR := Lib.hid (show r = -1 by rw [← hr]; unfold dgI dg; rw [if_neg (by omega), if_neg (by omega)])
    have a1 : (c : Int) < 48 := by omega
    have a2 : (c : Int) < 97 := by omega
    clear hr
    go_enter Tryd.func35, Tryd.ntmps35
    go_wp2_with fail
    all_goals go_ret
    exact ⟨by rw [HR.out]; rfl, rfl⟩
  · have HR := Lib.hid (show r = ((c - 48 : Nat) : Int) by rw [← hr]; unfold dgI dg; rw [if_pos (by omega)])
    have a1 : (48 : Int) ≤ (c : Int) := by omega
    have a2 : (c : Int) ≤ 57 := by omega
    have a3 : IntKind.u8.wrap ((c : Int) - 48) = (c : Int) - 48 := IntWalk.u8_in _ (by omega)
    have a4 : IntKind.i64.wrap ((c : Int) - 48) = (c : Int) - 48 := IntWalk.i64_in _ (by omega)
    clear hr
    go_enter Tryd.func35, Tryd.ntmps35
    go_wp2_with fail
    all_goals go_ret
    exact ⟨by rw [HR.out, show ((c - 48 : Nat) : Int) = (c : Int) - 48 by omega]; rfl, rfl⟩
  · have HR := Lib.hid (show r = -1 by rw [← hr]; unfold dgI dg; rw [if_neg (by omega), if_neg (by omega)])
    have a1 : (48 : Int) ≤ (c : Int) := by omega
    have a2 : (57 : Int) < (c : Int) := by omega
    have a3 : (c : Int) < 97 := by omega
    clear hr
    go_enter Tryd.func35, Tryd.ntmps35
    go_wp2_with fail
    all_goals go_ret
    exact ⟨by rw [HR.out]; rfl, rfl⟩
  · have HR := Lib.hid (show r = ((c - 87 : Nat) : Int) by rw [← hr]; unfold dgI dg; rw [if_neg (by omega), if_pos (by omega)])
    have a0 : (48 : Int) ≤ (c : Int) := by omega
    have a5 : (57 : Int) < (c : Int) := by omega
    have a1 : (97 : Int) ≤ (c : Int) := by omega
    have a2 : (c : Int) ≤ 102 := by omega
    have a3 : IntKind.u8.wrap ((c : Int) - 97) = (c : Int) - 97 := IntWalk.u8_in _ (by omega)
    have a4 : IntKind.i64.wrap ((c : Int) - 97) = (c : Int) - 97 := IntWalk.i64_in _ (by omega)
    have a6 : IntKind.i64.wrap ((c : Int) - 97 + 10) = (c : Int) - 97 + 10 := IntWalk.i64_in _ (by omega)
    clear hr
    go_enter Tryd.func35, Tryd.ntmps35
    go_wp2_with fail
    all_goals go_ret
    exact ⟨by rw [HR.out, show ((c - 87 : Nat) : Int) = (c : Int) - 97 + 10 by omega]; rfl, rfl⟩
  · have HR := Lib.hid (show r = -1 by rw [← hr]; unfold dgI dg; rw [if_neg (by omega), if_neg (by omega)])
    have a1 : (102 : Int) < (c : Int) := by omega
    have a2 : (48 : Int) ≤ (c : Int) := by omega
    have a3 : (57 : Int) < (c : Int) := by omega
    have a4 : (97 : Int) ≤ (c : Int) := by omega
    clear hr
    go_enter Tryd.func35, Tryd.ntmps35
    go_wp2_with fail
    all_goals go_ret
    exact ⟨by rw [HR.out]; rfl, rfl⟩
end Go.Proofs.YtbkgmeopdcealaaDoor
