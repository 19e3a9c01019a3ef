import Derived.Test.YtbkgmeopdcealaaDoorRns
import Derived.Test.YtbkgmeopdcealaaDoorShelf
import Derived.WalkMore
namespace Go.Proofs.YtbkgmeopdcealaaDoor
open Go.ChangeShapes Go.WideShapes Go.ChangeAt Go.RowKit
set_option linter.unusedVariables false
set_option linter.unusedSimpArgs false
theorem next_three (w : World) (k pos : Nat) (hk : w.heap[k]? = some (.stringIter ⟨#[46, 58, 45]⟩ pos)) (hp : pos < 3) (ty : TypeId) :
    (Instr.next (.pointer (some ⟨k, 0, none⟩)) true ty).run Tryd.prog w = .ok (.tuple #[.bool true, .int .i64 (pos : Int), .int .i32 (([46, 58, 45] : List Int).getD pos 0)]) (w.iterAt k ⟨#[46, 58, 45]⟩ (pos + 1)) := by
  have := Lib.run_next_any_at (P := Tryd.prog) w k ⟨#[46, 58, 45]⟩ pos ty hk hp
  rcases (show pos = 0 ∨ pos = 1 ∨ pos = 2 by omega) with rfl | rfl | rfl <;> exact this
set_option maxRecDepth 100000 in
set_option maxHeartbeats 2000000 in
theorem irune_bad (w : World) :
    Calls Tryd.prog 84 #[.string ⟨#[46, 58, 45]⟩, .int .i32 65533] w fun e w' => e = .returned (.int .i64 (-1)) ∧ Below w.heap.size w w' := by
  go_enter Tryd.func84, Tryd.ntmps84
  go_wp2_with fail
  go_loopw [5] (fun i wr => ∃ pos : Nat, pos ≤ 3 ∧ wr.heap[w.heap.size]? = some (.stringIter ⟨#[46, 58, 45]⟩ pos) ∧ Below w.heap.size w wr) (fun _ wr => 3 - wr.iterPos w.heap.size)
  case atStart => exact ⟨0, by omega, World.iter_heap w _ 0, (Below.refl _ w).alloc (Nat.le_refl _) _⟩
  case round =>
    obtain ⟨pos, hp, hk, hb⟩ := hrel
    by_cases hlt : pos < 3
    · have hnx := fun ty => next_three wr w.heap.size pos hk hlt ty
      have hit2 := Lib.iterAt_heap wr w.heap.size _ pos (pos + 1) hk
      have hbw2 := Lib.below_iterAt hb (k := w.heap.size) (Nat.le_refl _) ⟨#[46, 58, 45]⟩ (pos + 1)
      have hm : 3 - (wr.iterAt w.heap.size ⟨#[46, 58, 45]⟩ (pos + 1)).iterPos w.heap.size < 3 - wr.iterPos w.heap.size := by simp [World.iterPos, hk, hit2]; omega
      obtain ⟨W, hW⟩ : ∃ W, wr.iterAt w.heap.size ⟨#[46, 58, 45]⟩ (pos + 1) = W := ⟨_, rfl⟩
      rw [hW] at hnx hit2 hbw2 hm
      have H := Lib.hid (And.intro hit2 (And.intro hbw2 hm))
      clear hit2 hbw2 hm hk hb hW
      rcases (show pos = 0 ∨ pos = 1 ∨ pos = 2 by omega) with rfl | rfl | rfl
      all_goals
        simp only [List.getD_cons_zero, List.getD_cons_succ] at hnx
        go_wp2_with fail
        go_roundw
        case rel => exact ⟨_, by omega, H.out.1, H.out.2.1⟩
        case measure => exact H.out.2.2
    · obtain rfl : pos = 3 := by omega
      have hnx : ∀ ty, (Instr.next (.pointer (some ⟨w.heap.size, 0, none⟩)) true ty).run Tryd.prog wr = _ := fun ty => Lib.run_next_end_at wr w.heap.size _ 3 ty hk hlt
      have H := Lib.hid hb
      clear hk hb
      go_wp2_with fail
      go_ret
      exact ⟨rfl, H.out⟩
theorem quiet_plus {P : Program} {f : FuncId} {args : Array Value} {w : World} {n x : Nat} {v : Value}
    (h : Calls P f args (w.drewN (n + x)) fun e w' => e = .returned v ∧ w' = w.drewN (n + x)) : Calls P f args (w.drewN (n + x)) fun e w'' => e = .returned v ∧ ∃ m, w'' = w.drewN (n + m) :=
  h.mono fun _ _ ⟨he, hm⟩ => ⟨he, x, hm⟩
theorem byte_none (l : List UInt8) (hl : ∀ x ∈ l, x.toNat < 128) (c : UInt8) (hc : 128 ≤ c.toNat) : Lib.indexByte l c = -1 := by
  induction l with
  | nil => rfl
  | cons b l ih =>
    have h1 := hl b (by simp)
    have h2 : (b == c) = false := by
      simp only [beq_eq_false_iff_ne]
      rintro rfl; omega
    simp [Lib.indexByte, h2, ih (fun x hx => hl x (by simp [hx]))]
set_option maxRecDepth 100000 in
set_option maxHeartbeats 2000000 in
theorem irune_4 (r : Nat) (w : World) (h0 : 128 ≤ r) (hr : r ≤ 1114111) (hbad : ¬ r = 65533) (rs : ByteArray) (hrs : ∀ W, (convert 21 9 (.int .i32 (r : Int))).run Tryd.prog W = .ok (.string rs) W) (hz : rs.size = 4)
    (hv : ∀ w, Calls Tryd.prog 94 #[.int .i32 (r : Int)] w fun e w' => e = .returned (.bool true) ∧ w = w') :
    Calls Tryd.prog 84 #[.string ⟨#[46, 58, 45]⟩, .int .i32 (r : Int)] w fun e w' => e = .returned (.int .i64 (-1)) ∧ Below w.heap.size w w' := by
  go_enter Tryd.func84, Tryd.ntmps84
  go_wp2_with (go_at_call 94; refine (hv _).mono ?_; rintro _ _ ⟨rfl, rfl⟩)
  go_step3
  go_wp2_with fail
  go_loopw [9] (fun i wr => i = .int .i64 3 ∧ wr = w) (fun _ _ => 0)
  case atStart => exact ⟨rfl, rfl⟩
  case round =>
    obtain ⟨rfl, rfl⟩ := hrel
    go_wp2_with fail
    rw [Exit.noGoto_ret]
    go_ret
    exact ⟨rfl, by first | exact Below.refl _ _ | exact below_drewN (Below.refl _ _) _⟩
set_option maxRecDepth 100000 in
set_option maxHeartbeats 2000000 in
theorem irune_2 (r : Nat) (w : World) (h0 : 128 ≤ r) (hr : r ≤ 1114111) (hbad : ¬ r = 65533) (rs : ByteArray) (hrs : ∀ W, (convert 21 9 (.int .i32 (r : Int))).run Tryd.prog W = .ok (.string rs) W) (hz : rs.size = 2) (c : UInt8) (hc : rs[1]'(by omega) = c) (hcb : 128 ≤ c.toNat)
    (hv : ∀ w, Calls Tryd.prog 94 #[.int .i32 (r : Int)] w fun e w' => e = .returned (.bool true) ∧ w = w') :
    Calls Tryd.prog 84 #[.string ⟨#[46, 58, 45]⟩, .int .i32 (r : Int)] w fun e w' => e = .returned (.int .i64 (-1)) ∧ Below w.heap.size w w' := by
  have hi : ∀ w, Calls Tryd.prog 34 #[.string ⟨#[45]⟩, .int .u8 (c.toNat : Int)] w fun e w' => e = .returned (.int .i64 (-1)) ∧ w' = w := fun w => by
    have := Tryd.strings_IndexByte ⟨#[45]⟩ (c.toNat : Int) w
    rw [show Lib.indexByte (⟨#[45]⟩ : ByteArray).data.toList ((c.toNat : Int).toNat.toUInt8) = -1 from byte_none [45] (by decide) _ (by simpa using hcb)] at this
    exact this.mono fun _ _ ⟨a, b⟩ => ⟨a, b⟩
  have hne : ((((⟨#[46, 58, 45]⟩ : ByteArray)[1]'(by decide)).toNat : Int) != (c.toNat : Int)) = true := by
    show ((58 : Int) != (c.toNat : Int)) = true
    simp; omega
  have hsl : ∀ W : World, (Instr.slice 9 (.string ⟨#[46, 58, 45]⟩) (some (.int .i64 (IntKind.i64.wrap 2))) none none).run Tryd.prog W = .ok (.string ⟨#[45]⟩) W := fun W => by kernel_rfl
  have HC := Lib.hid hcb
  clear hcb
  go_enter Tryd.func84, Tryd.ntmps84
  go_wp2_with (go_at_call 94; refine (hv _).mono ?_; rintro _ _ ⟨rfl, rfl⟩)
  go_step3
  go_wp2_with fail
  go_loopw [9] (fun i wr => i = .int .i64 1 ∧ wr = w) (fun _ _ => 0)
  case atStart => exact ⟨rfl, rfl⟩
  case round =>
    obtain ⟨rfl, rfl⟩ := hrel
    go_wp2_with fail
    try go_step3
    go_wp2_with fail
    go_quiet (fail)
    go_wp2_with fail
    go_quiet ((go_at_call 34; exact quiet_plus (hi _)))
    go_wp2_with fail
    simp only [go_sem]
    show Exit.noGoto _ Exit.ret _ _
    rw [Exit.noGoto_ret]
    simp only [go_sem]
    go_ret
    exact ⟨rfl, by first | exact Below.refl _ _ | exact below_drewN (Below.refl _ _) _⟩
set_option maxRecDepth 100000 in
set_option maxHeartbeats 2000000 in
theorem irune_3 (r : Nat) (w : World) (h0 : 128 ≤ r) (hr : r ≤ 1114111) (hbad : ¬ r = 65533) (rs : ByteArray) (hrs : ∀ W, (convert 21 9 (.int .i32 (r : Int))).run Tryd.prog W = .ok (.string rs) W) (hz : rs.size = 3) (c : UInt8) (hc : rs[2]'(by omega) = c) (hcb : 128 ≤ c.toNat)
    (hv : ∀ w, Calls Tryd.prog 94 #[.int .i32 (r : Int)] w fun e w' => e = .returned (.bool true) ∧ w = w') :
    Calls Tryd.prog 84 #[.string ⟨#[46, 58, 45]⟩, .int .i32 (r : Int)] w fun e w' => e = .returned (.int .i64 (-1)) ∧ Below w.heap.size w w' := by
  have hi : ∀ w, Calls Tryd.prog 34 #[.string ByteArray.empty, .int .u8 (c.toNat : Int)] w fun e w' => e = .returned (.int .i64 (-1)) ∧ w' = w := fun w => by
    have := Tryd.strings_IndexByte ⟨#[]⟩ (c.toNat : Int) w
    rw [show Lib.indexByte (⟨#[]⟩ : ByteArray).data.toList ((c.toNat : Int).toNat.toUInt8) = -1 from byte_none [] (by decide) _ (by simpa using hcb)] at this
    exact this.mono fun _ _ ⟨a, b⟩ => ⟨a, b⟩
  have hne : ((((⟨#[46, 58, 45]⟩ : ByteArray)[2]'(by decide)).toNat : Int) != (c.toNat : Int)) = true := by
    show ((45 : Int) != (c.toNat : Int)) = true
    simp; omega
  have hsl : ∀ W : World, (Instr.slice 9 (.string ⟨#[46, 58, 45]⟩) (some (.int .i64 (IntKind.i64.wrap 3))) none none).run Tryd.prog W = .ok (.string ⟨#[]⟩) W := fun W => by kernel_rfl
  have HC := Lib.hid hcb
  clear hcb
  go_enter Tryd.func84, Tryd.ntmps84
  go_wp2_with (go_at_call 94; refine (hv _).mono ?_; rintro _ _ ⟨rfl, rfl⟩)
  go_step3
  go_wp2_with fail
  go_loopw [9] (fun i wr => i = .int .i64 2 ∧ wr = w) (fun _ _ => 0)
  case atStart => exact ⟨rfl, rfl⟩
  case round =>
    obtain ⟨rfl, rfl⟩ := hrel
    go_wp2_with fail
    try go_step3
    go_wp2_with fail
    go_quiet (fail)
    go_wp2_with fail
    go_quiet ((go_at_call 34; exact quiet_plus (hi _)))
    go_wp2_with fail
    simp only [go_sem]
    show Exit.noGoto _ Exit.ret _ _
    rw [Exit.noGoto_ret]
    simp only [go_sem]
    go_ret
    exact ⟨rfl, by first | exact Below.refl _ _ | exact below_drewN (Below.refl _ _) _⟩
set_option maxRecDepth 100000 in
set_option maxHeartbeats 2000000 in
theorem irune_big (r : Nat) (w : World) (h0 : 128 ≤ r) (hr : r ≤ 1114111) :
    Calls Tryd.prog 84 #[.string ⟨#[46, 58, 45]⟩, .int .i32 (r : Int)] w fun e w' => e = .returned (.int .i64 (-1)) ∧ Below w.heap.size w w' := by
  by_cases hbad : r = 65533
  · subst hbad; exact irune_bad w
  · have hv := fun w => Tryd.utf8_ValidRune (r : Int) w
    obtain ⟨b, hb⟩ : ∃ b, Lib.validRune (r : Int) = b := ⟨_, rfl⟩
    rw [hb] at hv
    cases b
    · clear hb
      go_enter Tryd.func84, Tryd.ntmps84
      go_wp2_with (go_at_call 94; refine (hv _).mono ?_; rintro _ _ ⟨rfl, rfl⟩)
      go_ret
      exact ⟨rfl, Below.refl _ _⟩
    · have hval : Utf8.valid (r : Int) = true := by
        revert hb; unfold Lib.validRune Utf8.valid; intro hb; simp at hb ⊢; omega
      clear hb
      have hv' : ∀ w, Calls Tryd.prog 94 #[.int .i32 (r : Int)] w fun e w' => e = .returned (.bool true) ∧ w = w' := fun w => (hv w).mono fun _ _ ⟨a, b⟩ => ⟨a, b.symm⟩
      obtain ⟨e1, e2, e3⟩ := encode_facts (r : Int) hval (by omega)
      have hcv : ∀ W, (convert 21 9 (.int .i32 (r : Int))).run Tryd.prog W = .ok (.string (Utf8.encode (r : Int))) W := fun W => run_convert_int_string W 21 9 .i32 _ (by rw [Tryd.underlying21]; rfl) Tryd.underlying9
      rcases (show (Utf8.encode (r : Int)).size = 2 ∨ (Utf8.encode (r : Int)).size = 3 ∨ (Utf8.encode (r : Int)).size = 4 by omega) with hz | hz | hz
      · have e5 : 128 ≤ ((Utf8.encode (r : Int))[1]'(by omega)).toNat := by have := e3 (by omega); simpa [hz] using this
        exact irune_2 r w h0 hr hbad _ hcv hz _ rfl e5 hv'
      · have e5 : 128 ≤ ((Utf8.encode (r : Int))[2]'(by omega)).toNat := by have := e3 (by omega); simpa [hz] using this
        exact irune_3 r w h0 hr hbad _ hcv hz _ rfl e5 hv'
      · exact irune_4 r w h0 hr hbad _ hcv hz hv'
end Go.Proofs.YtbkgmeopdcealaaDoor
