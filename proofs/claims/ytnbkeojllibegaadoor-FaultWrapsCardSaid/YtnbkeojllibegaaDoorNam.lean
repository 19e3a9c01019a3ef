import Derived.Test.YtnbkeojllibegaaDoorErr
namespace Go.Proofs.YtnbkeojllibegaaDoor
open Go.ChangeShapes Go.WideShapes Go.ChangeAt Go.RowKit
set_option linter.unusedVariables false
set_option linter.unusedSimpArgs false
def nmL : List ByteArray := [⟨#[]⟩, ⟨#[115, 104, 111, 114, 116]⟩, ⟨#[111, 118, 101, 114, 115, 105, 122, 101]⟩, ⟨#[97, 117, 116, 104]⟩, ⟨#[107, 101, 121]⟩, ⟨#[110, 111, 110, 99, 101]⟩, ⟨#[101, 120, 104, 97, 117, 115, 116, 101, 100]⟩, ⟨#[99, 108, 111, 115, 101, 100]⟩, ⟨#[100, 105, 114, 101, 99, 116, 105, 111, 110]⟩, ⟨#[114, 101, 112, 108, 97, 121]⟩, ⟨#[114, 97, 110, 103, 101]⟩, ⟨#[115, 121, 110, 116, 97, 120]⟩, ⟨#[101, 109, 112, 116, 121]⟩]
def nm (n : Nat) : ByteArray := nmL.getD n ByteArray.empty
def nameS (c : Int) : ByteArray := if 0 ≤ c ∧ c < 13 then nm c.toNat else ByteArray.empty
/-- The table of names is laid. -/
def Nms (w : World) : Prop := 0 < w.heap.size ∧ ∀ n, n < 13 → w.cell? ⟨0, n, none⟩ = some (.string (nm n))
theorem Nms.below {w w' : World} (h : Nms w) (hb : Below w.heap.size w w') : Nms w' := ⟨Nat.lt_of_lt_of_le h.1 hb.size, fun n hn => (hb.cell (p := ⟨0, n, none⟩) h.1).trans (h.2 n hn)⟩
theorem Nms.drewN {w : World} (h : Nms w) (k : Nat) : Nms (w.drewN k) := h
theorem Nms.drew {w : World} (h : Nms w) : Nms w.drew := h
set_option maxRecDepth 100000 in
set_option maxHeartbeats 4000000 in
theorem name_any (c : Int) (w : World) (hN : Nms w) : Calls Tryd.prog 14 #[.int .i64 c] w fun e w' => e = .returned (.string (nameS c)) ∧ w = w' := by
  by_cases h : 0 ≤ c ∧ c < 13
  · obtain ⟨n, rfl⟩ : ∃ n : Nat, c = (n : Int) := ⟨c.toNat, by omega⟩
    have hc := hN.2 n (by omega)
    have he : nameS (n : Int) = nm n := by unfold nameS; rw [if_pos h]; simp
    rw [he]
    obtain ⟨h1, h2⟩ := h
    generalize nm n = v at *
    clear he hN
    go_enter Tryd.func14, Tryd.ntmps14
    go_wp2_with fail
    go_ret
    exact ⟨rfl, rfl⟩
  · have he : nameS c = ByteArray.empty := by unfold nameS; rw [if_neg h]
    rw [he]
    have h' : c < 0 ∨ 13 ≤ c := by omega
    clear he hN h
    rcases h' with h' | h'
    all_goals (go_enter Tryd.func14, Tryd.ntmps14)
    all_goals (go_wp2_with fail)
    all_goals go_ret
    all_goals (exact ⟨rfl, rfl⟩)
set_option maxRecDepth 100000 in
set_option maxHeartbeats 8000000 in
theorem rname_any (c : Int) (w : World) : Calls Tryd.prog 15 #[.int .i64 c] w fun e w' => e = .returned (.string (nameS c)) ∧ Below w.heap.size w w' := by
  by_cases h : c < 1 ∨ 12 < c
  · have he : nameS c = ByteArray.empty := by
      unfold nameS
      by_cases h0 : 0 ≤ c ∧ c < 13
      · obtain rfl : c = 0 := by omega
        rfl
      · rw [if_neg h0]
    rw [he]
    clear he
    rcases h with h' | h'
    all_goals (go_enter Tryd.func15, Tryd.ntmps15)
    all_goals (go_wp2_with fail)
    all_goals go_ret
    all_goals (exact ⟨rfl, Below.refl _ _⟩)
  · have h' : c = 1 ∨ c = 2 ∨ c = 3 ∨ c = 4 ∨ c = 5 ∨ c = 6 ∨ c = 7 ∨ c = 8 ∨ c = 9 ∨ c = 10 ∨ c = 11 ∨ c = 12 := by omega
    clear h
    rcases h' with rfl | rfl | rfl | rfl | rfl | rfl | rfl | rfl | rfl | rfl | rfl | rfl
    all_goals (go_enter Tryd.func15, Tryd.ntmps15)
    all_goals (go_wp2_with fail)
    all_goals go_ret
    all_goals (exact ⟨rfl, (Below.refl _ w).alloc (Nat.le_refl _) _⟩)
theorem shift_nil (n : Int) (w : World) : Calls Tryd.prog 13 #[.nilIface, .int .i64 n] w fun e w' => e = .returned .nilIface ∧ Below w.heap.size w w' := by
  go_enter Tryd.func13, Tryd.ntmps13
  go_wp2_with (go_at_call 10; refine (code_nil _).mono ?_; rintro _ w1 ⟨rfl, hb⟩; refine Hid.out ?_)
  refine Lib.hid ?_
  go_wp2_with fail
  go_ret
  exact ⟨rfl, hb⟩
/-- The offset of a core: a code has none, and 0 is taken. -/
def offV (fl : Bool) (a : Int) : Int := if fl then a else 0
def coreV (fl : Bool) (c a : Int) : Value := if fl then faultV c a else codeV c
theorem coreV_is (fl : Bool) (c a : Int) : coreV fl c a = codeV c ∨ coreV fl c a = faultV c a := by cases fl <;> simp [coreV]
theorem at_core (ps : List ByteArray) (fl : Bool) (c a : Int) (w : World) (hg : Err w) : Calls Tryd.prog 11 #[wrapV ps (coreV fl c a)] w fun e w' => e = .returned (.tuple #[.int .i64 (offV fl a), .bool fl]) ∧ Below w.heap.size w w' := by
  cases fl with
  | true => exact at_fault ps c a w hg
  | false => exact at_code ps c w hg
theorem shift_any (ps : List ByteArray) (fl : Bool) (c a n : Int) (w : World) (hg : Err w) (h0 : -9223372036854775808 ≤ offV fl a + n) (h1 : offV fl a + n ≤ 9223372036854775807) :
    Calls Tryd.prog 13 #[wrapV ps (coreV fl c a), .int .i64 n] w fun e w' => e = .returned (faultV c (offV fl a + n)) ∧ Below w.heap.size w w' := by
  have hcd := code_any ps (coreV fl c a) c a (coreV_is fl c a) w hg
  have hat := fun W (h : Below w.heap.size w W) => at_core ps fl c a W (hg.below h)
  have hw : IntKind.i64.wrap (offV fl a + n) = offV fl a + n := IntWalk.i64_in _ ⟨h0, h1⟩
  generalize wrapV ps (coreV fl c a) = v at *
  generalize offV fl a = o at *
  clear hg
  go_enter Tryd.func13, Tryd.ntmps13
  go_wp2_with (go_at_call 10; refine hcd.mono ?_; rintro _ w1 ⟨rfl, hb⟩; refine Hid.out ?_)
  refine Lib.hid ?_
  have H1 := Lib.hid hb
  clear hb hcd
  go_wp2_with (go_at_call 11; refine (hat _ H1.out).mono ?_; rintro _ w2 ⟨rfl, hb⟩; refine Hid.out ?_)
  refine Lib.hid ?_
  have H2 := Lib.hid (H1.out.trans (hb.mono H1.out.size))
  clear hb hat
  go_wp2_with (go_at_call 22; refine (new_any _ _ _).mono ?_; rintro _ _ ⟨rfl, rfl⟩)
  go_ret
  exact ⟨rfl, H2.out⟩
end Go.Proofs.YtnbkeojllibegaaDoor
