import Derived.Test.YtnbkeojllibegaaDoorIsa
namespace Go.Proofs.YtnbkeojllibegaaDoor
open Go.ChangeShapes Go.WideShapes Go.ChangeAt Go.RowKit Go.Extern.Stop Go.Stop Go.Extern
set_option linter.unusedVariables false
set_option linter.unusedSimpArgs false
theorem info30c : (Tryd.prog.info? 30).map (·.comparable) = some true := by kernel_rfl
theorem eq30 (x y : Int) (w : World) : (binOp .eql 28 (.iface 30 (.int .i64 x)) (.iface 30 (.int .i64 y))).run Tryd.prog w = .ok (.bool (x == y)) w := by
  obtain ⟨i, hi, hc⟩ := Option.map_eq_some_iff.1 info30c
  exact run_eql_iface_int (w := w) (a := x) (b := y) (hi := Tryd.underlying28) (hn := Tryd.underlying30) (hinfo := hi) (hcomp := hc)
set_option maxRecDepth 100000 in
set_option maxHeartbeats 4000000 in
theorem is27_any (qs0 : List ByteArray) (core : Value) (c a t : Int) (hcore : core = codeV c ∨ core = faultV c a) (w : World) :
    Calls Tryd.prog 27 #[wrapV qs0 core, .iface 30 (.int .i64 t), .bool true] w fun e w' => e = .returned (.bool (c == t)) ∧ Below w.heap.size w w' := by
  obtain ⟨v0, hv0⟩ : ∃ v0, wrapV qs0 core = v0 := ⟨_, rfl⟩
  have HV := Lib.hid hv0
  have HC := Lib.hid hcore
  rw [hv0]
  clear hv0 hcore
  go_enter Tryd.func27, Tryd.ntmps27
  go_wp2_with fail
  go_loopg [0] (qs0.length + 1) (fun k s0 wr => ∃ qs core', s0 = wrapV qs core' ∧ ((core' = codeV c ∧ qs.length ≤ k) ∨ (core' = faultV c a ∧ qs.length + 1 ≤ k)) ∧ Below w.heap.size w wr)
  case atStart =>
    refine ⟨qs0, core, HV.out.symm, ?_, Below.refl _ _⟩
    rcases HC.out with h | h
    · exact .inl ⟨h, by omega⟩
    · exact .inr ⟨h, by omega⟩
  case round =>
    obtain ⟨qs, core', rfl, hs, hbel⟩ := hrel
    have HBE := Lib.hid hbel
    clear hbel
    have e59 := ne59_30
    have e50 := ne50_30
    have e30 := eq30 c t
    have i59 := noIs59
    have i50 := noIs50
    have i30 := noIs30
    have u59 := hasUnwrap59
    have m59 := methodUnwrap59
    have u50 := hasUnwrap50
    have m50 := methodUnwrap
    have u30 := noUnwrap30
    have uu30 := noUnwraps30
    cases qs with
    | cons p r =>
      rw [show wrapV (p :: r) core' = .iface 59 (.agg #[.string p, wrapV r core']) from rfl]
      obtain ⟨ty, x, hw⟩ : ∃ ty x, wrapV r core' = .iface ty x := wrapV_form r core' (by rcases hs with ⟨rfl, _⟩ | ⟨rfl, _⟩ <;> exact ⟨_, _, rfl⟩)
      rw [hw]
      have HW := Lib.hid (And.intro hw hs)
      clear hw hs
      have hun := fun W => unwrap_inner p ty x W
      go_wp2_with (first | (go_at_call 69; refine (hun _).mono ?_; rintro _ _ ⟨rfl, rfl⟩))
      go_roundg (gk - 1)
      case measure => rcases HW.out.2 with ⟨_, h⟩ | ⟨_, h⟩ <;> (simp at h; omega)
      case rel =>
        refine ⟨r, core', HW.out.1.symm, ?_, HBE.out.alloc HBE.out.size _⟩
        rcases HW.out.2 with ⟨h1, h⟩ | ⟨h1, h⟩
        · exact .inl ⟨h1, by simp at h; omega⟩
        · exact .inr ⟨h1, by simp at h; omega⟩
    | nil =>
      rcases hs with ⟨rfl, hk⟩ | ⟨rfl, hk⟩
      · rw [show wrapV [] (codeV c) = .iface 30 (.int .i64 c) from rfl]
        cases hct : (c == t) with
        | true =>
          rw [hct] at e30
          go_wp2_with fail
          go_ret
          exact ⟨by rw [hct]; rfl, HBE.out⟩
        | false =>
          rw [hct] at e30
          go_wp2_with fail
          go_ret
          exact ⟨by rw [hct]; rfl, HBE.out⟩
      · rw [show wrapV [] (faultV c a) = .iface 50 (.agg #[.int .i64 c, .int .i64 a]) from rfl]
        have hun := fun W => unwrap_fault c a W
        rw [show codeV c = .iface 30 (.int .i64 c) from rfl] at hun
        go_wp2_with (first | (go_at_call 66; refine (hun _).mono ?_; rintro _ _ ⟨rfl, rfl⟩))
        go_roundg (gk - 1)
        case measure => simp at hk; omega
        case rel => exact ⟨[], codeV c, rfl, .inl ⟨rfl, by simp⟩, HBE.out.alloc HBE.out.size _⟩
end Go.Proofs.YtnbkeojllibegaaDoor
