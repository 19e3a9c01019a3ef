import Derived.Test.YtnbkeojllibegaaDoorIsx
namespace Go.Proofs.YtnbkeojllibegaaDoor
open Go.ChangeShapes Go.WideShapes Go.ChangeAt Go.RowKit
set_option linter.unusedVariables false
set_option linter.unusedSimpArgs false
/-- What the laws ask of the world: five variables laid. -/
def Laid (w : World) : Prop := Err w ∧ Nms w ∧ Pow w
theorem Laid.below {w w' : World} (h : Laid w) (hb : Below w.heap.size w w') : Laid w' := ⟨h.1.below hb, h.2.1.below hb, h.2.2.below hb⟩
def sessS : ByteArray := ⟨#[115, 101, 115, 115, 105, 111, 110]⟩
theorem itS_dig (n : Nat) (h : n < 10) : itS (n : Int) = digS.extract n (n + 1) := by rw [itS_nat, ← decS_one n h]
theorem itS3 : itS 3 = ⟨#[51]⟩ := by rw [show (3 : Int) = ((3 : Nat) : Int) from rfl, itS_dig 3 (by omega)]; decide +kernel
theorem itS8 : itS 8 = ⟨#[56]⟩ := by rw [show (8 : Int) = ((8 : Nat) : Int) from rfl, itS_dig 8 (by omega)]; decide +kernel
theorem awk_txt : txtS [sessS] (errS ++ itS 3) = ⟨#[115, 101, 115, 115, 105, 111, 110, 58, 32, 101, 114, 114, 111, 114, 32, 51]⟩ := by rw [itS3]; decide +kernel
theorem awk_tell : tellS true 3 8 = ⟨#[97, 117, 116, 104, 32, 56]⟩ := by unfold tellS; rw [itS8]; decide +kernel
theorem awk_name : nameS 12 = ⟨#[101, 109, 112, 116, 121]⟩ := by decide +kernel
set_option maxRecDepth 100000 in
set_option maxHeartbeats 4000000 in
theorem awake_any (w : World) (hL : Laid w) : Calls Tryd.prog 7 #[] w fun e w' => e = .returned (.bool true) ∧ Below w.heap.size w w' := by
  have hm := err59
  have hE := fun W (h : Below w.heap.size w W) => wrap_error 3 8 (faultV 3 8) (.inr rfl) (by omega) (by omega) [] sessS (by intro q hq; simp at hq; subst hq; decide) (by simp) W (hL.below h).2.2
  have hT := fun W (h : Below w.heap.size w W) => text_any [sessS] true 3 8 W (hL.below h).1 (hL.below h).2.1 (hL.below h).2.2 (by omega) (by omega)
  have hN := fun W (h : Below w.heap.size w W) => name_any 12 W (hL.below h).2.1
  rw [awk_txt] at hE
  rw [awk_tell] at hT
  rw [awk_name] at hN
  have HL := Lib.hid hL
  clear hL
  unfold sessS wrapV at hE hT
  simp only [wrapV, coreV, faultV, if_true] at hE hT
  go_enter Tryd.func7, Tryd.ntmps7
  go_wp2_with (first | (go_at_call 22; refine (new_any _ _ _).mono ?_; rintro _ _ ⟨rfl, rfl⟩; unfold faultV) | (go_at_call 19; refine (in_any _ _ _ _).mono ?_; rintro _ _ ⟨rfl, rfl⟩) | (go_at_call 10; refine (code_nil _).mono ?_; rintro _ w1 ⟨rfl, hb⟩; refine Hid.out ?_))
  refine Lib.hid ?_
  have H1 := Lib.hid hb
  clear hb
  go_wp2_with (first | (go_at_call 68; refine (hE _ H1.out).mono ?_; rintro _ w2 ⟨rfl, hb⟩; refine Hid.out ?_))
  refine Lib.hid ?_
  have H2 := Lib.hid (H1.out.trans (hb.mono H1.out.size))
  clear hb
  go_wp2_with (first | (go_at_call 16; refine (hT _ H2.out).mono ?_; rintro _ w3 ⟨rfl, hb⟩; refine Hid.out ?_))
  refine Lib.hid ?_
  have H3 := Lib.hid (H2.out.trans (hb.mono H2.out.size))
  clear hb
  go_wp2_with (first | (go_at_call 19; refine (in_nil _ _).mono ?_; rintro _ _ ⟨rfl, rfl⟩) | (go_at_call 13; refine (shift_nil _ _).mono ?_; rintro _ w4 ⟨rfl, hb⟩; refine Hid.out ?_))
  refine Lib.hid ?_
  have H4 := Lib.hid (H3.out.trans (hb.mono H3.out.size))
  clear hb
  go_wp2_with (first | (go_at_call 14; refine (hN _ H4.out).mono ?_; rintro _ _ ⟨rfl, rfl⟩) | (go_at_call 16; refine (text_nil _).mono ?_; rintro _ w5 ⟨rfl, hb⟩; refine Hid.out ?_))
  refine Lib.hid ?_
  go_wp2_with fail
  go_ret
  exact ⟨ret_true (by simp), H4.out.trans (hb.mono H4.out.size)⟩
end Go.Proofs.YtnbkeojllibegaaDoor
