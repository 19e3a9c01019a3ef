/-
  THE ROWS: for every input each of these laws returns true and leaves what it was handed as it was: EchoMatchesReference. No condition.
-/
import Derived.Test.YtmopabmpbeoppaaLawsC
import Derived.Maps.Own
namespace Go.Proofs.Ytmopabmpbeoppaa
open Go.ChangeShapes Go.WideShapes Go.ChangeAt Go.RowKit
open Go.ChangeMaps (open_string shut_string)
set_option linter.unusedVariables false
set_option linter.unusedSimpArgs false
theorem own : ownKnob Try.prog.godebug = none := by kernel_rfl
theorem laidOut : laidOutB Try.prog = true := by kernel_rfl
theorem open_Cs {H : Type} {enc : TypeId × Value → H} {w : World} {spare : Nat → Bool} {held : Bool} {v : Value} {d : DataW H} {p : List MemPlace} {r : Reach} {b0 : Nat}
    (hv : Value.okWide Try.prog w r b0 22 v) (h : DataW.Trod enc Try.prog w 0 spare held 22 v d p) :
    ∃ a len cap, v = .slice a len cap ∧ Cs w a len ∧ len ≤ cap ∧ cap ≤ maxLen := by
  obtain ⟨a, len, cap, rfl⟩ := okWide_slice Try.underlying22 hv
  obtain ⟨fuel, hf⟩ := h
  rcases open_slice_fields Try.underlying22 Try.underlying34 (by kernel_rfl) (by kernel_rfl) hf with ⟨hcs, _⟩ | ⟨x, l, c, m, D, Pl, hcs, _, hl, hm, hmm, _, hi⟩
  · simp [Value.cells] at hcs
    obtain ⟨rfl, rfl, rfl⟩ := hcs
    exact ⟨none, 0, 0, rfl, fun h => absurd h (by omega), Nat.le_refl _, by unfold maxLen; omega⟩
  · simp [Value.cells] at hcs
    obtain ⟨rfl, rfl, rfl⟩ := hcs
    have hlm : len ≤ m := by rw [hmm]; split <;> omega
    refine ⟨some x, len, cap, rfl, fun h0 => ?_, hl, hm⟩
    have at3 : ∀ i, i < len → ∃ (c : Bool) (s t : Int), w.cell? (x.add (i * 3 + 0)) = some (.bool c) ∧ w.cell? (x.add (i * 3 + 1)) = some (.int .u16 s) ∧ w.cell? (x.add (i * 3 + 2)) = some (.int .u64 t) ∧
        0 ≤ s ∧ s ≤ 65535 ∧ 0 ≤ t ∧ t ≤ 18446744073709551615 := by
      intro i hil
      obtain ⟨ys, n, _, _, _, hj⟩ := hi i (by omega)
      obtain ⟨v0, y0, q0, _, t0⟩ := hj 0 _ rfl
      obtain ⟨v1, y1, q1, _, t1⟩ := hj 1 _ rfl
      obtain ⟨v2, y2, q2, _, t2⟩ := hj 2 _ rfl
      obtain ⟨b, e0, _⟩ := DataW.trod_bool Try.underlying4 t0
      obtain ⟨s, e1, _, w1⟩ := DataW.trod_int Try.underlying32 t1
      obtain ⟨t, e2, _, w2⟩ := DataW.trod_int Try.underlying23 t2
      have b1 := bounds_u16 w1
      have b2 := bounds_u64 w2
      injection e0 with e0; injection e1 with e1; injection e2 with e2
      subst e0 e1 e2
      exact ⟨b, s, t, q0, q1, q2, by omega, by omega, by omega, by omega⟩
    obtain ⟨b, off, spot⟩ := x
    obtain ⟨c0, s0, t0, k0, _⟩ := at3 0 h0
    have hspot : spot = none := by simpa [Addr.add] using World.cell?_spot k0
    subst hspot
    refine ⟨b, off, rfl, by simpa [Addr.add] using lt_of_cell k0, fun i hil => ?_⟩
    obtain ⟨c, s, t, q0, q1, q2, hb⟩ := at3 i hil
    exact ⟨c, s, t, by rw [show (⟨b, off + i * 3, none⟩ : Addr) = (⟨b, off, none⟩ : Addr).add (i * 3 + 0) by unfold Addr.add; split <;> simp_all]; exact q0, by simpa [Addr.add, Nat.add_assoc] using q1, by simpa [Addr.add, Nat.add_assoc] using q2, hb⟩


set_option maxRecDepth 100000 in
theorem echoMatchesReference_lifted (os : Os) (started : os.Started) (H : Type) (enc : TypeId × Value → H) :
    ReturnsInHanded {} Try.checked os 3 .any (Rows.echoMatchesReferenceSpec.pre6 enc Try.prog Try.f3 Rows.echoMatchesReferenceRow.domain false) (Rows.echoMatchesReferenceSpec.post enc Try.prog Try.f3 false true false false) := by
  refine returnsInHanded_of_change (C := Try.checked) own started (by kernel_rfl) Try.func3
    (ChangeSpec.witness6 (enc := enc) (C := Try.checked) false ⟨#[], #[.slice none 0 0, .int .u64 0], []⟩ 8 (by kernel_rfl) (by kernel_rfl) (by kernel_rfl) (by kernel_rfl)) ?_
  intro W base args ds gs before hval0 hW hcnd hsz
  have hval : ∀ (j : Nat) t v, Try.f3.params[j]? = some t → args[j]? = some v → Value.okWide Try.prog W .any base t v := hval0
  have hW' := hW
  obtain ⟨p, q, hA0, hV, rfl, hfz, hnd⟩ := hW
  have hA : DataW.TrodAll enc Try.prog W 0 (fun _ => true) true Try.f3.params.toList args.toList ds p := hA0
  rw [Try.params3] at hA hval
  obtain ⟨v0, vs0, d0, ds0, p0, q0, hargs, rfl, rfl, h0, r0⟩ := trodAll_cons hA
  obtain ⟨v1, vs1, d1, ds1, p1, q1, rfl, rfl, rfl, h1, r1⟩ := trodAll_cons r0
  obtain ⟨rfl, rfl, rfl⟩ := trodAll_nil r1
  obtain rfl : args = #[v0, v1] := by cases args; simp_all
  obtain ⟨rfl, rfl⟩ := trodVars_none hV
  have k0 := h0
  have lt0 : ∀ x ∈ p0, x.block < W.heap.size := by obtain ⟨m, hm⟩ := k0; exact DataW.trod_lt m _ _ _ hm
  obtain ⟨a0, len0, cap0, rfl, w0, l0, c0⟩ := open_Cs (hval 0 22 v0 rfl rfl) h0
  have k1 := h1
  have lt1 : ∀ x ∈ p1, x.block < W.heap.size := by obtain ⟨m, hm⟩ := k1; exact DataW.trod_lt m _ _ _ hm
  obtain ⟨a1, rfl, e1, f1, w1⟩ := open_int Try.underlying23 (hval 1 23 v1 rfl rfl) h1
  have b1 := bounds_u64 w1
  refine (matches_any a0 len0 cap0 a1 W w0 l0 c0 (by omega) (by omega)).mono fun e W' ⟨he, bel⟩ => ?_
  subst he
  exact ⟨_, rfl, _, _, _, [], _, [], hW', trodAll_mk1 (shut_bool Try.underlying4 _), (trodAll_cons_mk (Below.trod laidOut (by kernel_rfl) (of_decide_eq_true (by kernel_rfl)) k0 bel lt0) (trodAll_cons_mk (Below.trod laidOut (by kernel_rfl) (of_decide_eq_true (by kernel_rfl)) k1 bel lt1) trodAll_mk0)), rfl, bel.frame _, fun h => by cases h⟩

theorem echoMatchesReference_holds : Rows.EchoMatchesReferenceSaid :=
  OpenClaim.holds_of_wide 3 Try.f3 rfl rfl rfl rfl rfl rfl rfl ⟨rfl, rfl, rfl, rfl, rfl⟩ rfl rfl rfl rfl rfl (by kernel_rfl) Try.func3 (by kernel_rfl)
    (of_decide_eq_true (by kernel_rfl)) (by unfold Func.isWrapper; first | (rw [if_pos (by decide +kernel)]; kernel_rfl) | (rw [if_neg (by decide +kernel)]; exact ⟨rfl, rfl⟩))
    (fun os started H enc _ => echoMatchesReference_lifted os started H enc)
#print axioms echoMatchesReference_holds

end Go.Proofs.Ytmopabmpbeoppaa
