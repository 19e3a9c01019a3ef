import Derived.Test.YtnbkeojllibegaaDoorChn
namespace Go.Proofs.YtnbkeojllibegaaDoor
open Go.ChangeShapes Go.WideShapes Go.ChangeAt Go.RowKit Go.Extern.Stop Go.Stop Go.Extern
set_option linter.unusedVariables false
set_option linter.unusedSimpArgs false
set_option maxRecDepth 100000 in
set_option maxHeartbeats 4000000 in
theorem as31_fault (qs0 : List ByteArray) (c a : Int) (g b : Nat) (o0 o1 : Value) (w : World) (hb : w.cell? ⟨b, 0, none⟩ = some (.pointer (some ⟨g, 0, none⟩))) (ht0 : w.cell? ⟨g, 0, none⟩ = some o0) (ht1 : w.cell? ⟨g, 1, none⟩ = some o1) (hf0 : w.frozen? ⟨g, 0, none⟩ = false) (hf1 : w.frozen? ⟨g, 1, none⟩ = false) :
    Calls Tryd.prog 31 #[wrapV qs0 (faultV c a), .iface 53 (.pointer (some ⟨g, 0, none⟩)), .agg #[.pointer (some ⟨5, 53, none⟩), .pointer (some ⟨b, 0, none⟩), .int .u64 150], .iface 78 (.agg #[.pointer (some ⟨5, 50, none⟩)])] w
      fun e w' => e = .returned (.bool true) ∧ w'.cell? ⟨g, 0, none⟩ = some (.int .i64 c) ∧ w'.cell? ⟨g, 1, none⟩ = some (.int .i64 a) ∧ w.grownBy w' (some g) := by
  have h26 := @run_callFunc_extern Tryd.prog 26 _ ReflectliteType.typeOf Tryd.func26 (by kernel_rfl) (by kernel_rfl) (by kernel_rfl) (by kernel_rfl)
  have h28 := @run_callFunc_extern Tryd.prog 28 _ (fun args => ReflectliteValue.unpack (args.getD 0 (.tuple #[]))) Tryd.func28 (by kernel_rfl) (by kernel_rfl) (by kernel_rfl) (by kernel_rfl)
  have h74 := @run_callFunc_extern Tryd.prog 74 _ (ReflectliteType.relation "AssignableTo" ReflectliteType.assignableTo) Tryd.func74 (by kernel_rfl) (by kernel_rfl) (by kernel_rfl) (by kernel_rfl)
  have h33 := @run_callFunc_extern Tryd.prog 33 _ (ReflectliteValue.method (ReflectliteValue.valueError "reflectlite.Value.Elem" 0) ReflectliteValue.elem) Tryd.func33 (by kernel_rfl) (by kernel_rfl) (by kernel_rfl) (by kernel_rfl)
  have h34 := @run_callFunc_extern Tryd.prog 34 _ ReflectliteValue.set Tryd.func34 (by kernel_rfl) (by kernel_rfl) (by kernel_rfl) (by kernel_rfl)
  have hbl : b < w.heap.size := lt_of_cell hb
  have htl : g < w.heap.size := by have := lt_of_cell ht0; exact this
  have HB := Lib.hid hb
  have HT := Lib.hid (And.intro ht0 ht1)
  have HF := Lib.hid (And.intro hf0 hf1)
  obtain ⟨v0, hv0⟩ : ∃ v0, wrapV qs0 (faultV c a) = v0 := ⟨_, rfl⟩
  have HV := Lib.hid hv0
  rw [hv0]
  clear hb ht0 ht1 hf0 hf1 hv0
  go_enter Tryd.func31, Tryd.ntmps31
  go_wp2_with fail
  have HB1 := Lib.hid (Blk.new w 70 #[.pointer (some ⟨5, 53, none⟩), .pointer (some ⟨b, 0, none⟩), .int .u64 150])
  go_loopg [0] qs0.length (fun k s0 wr => ∃ qs, s0 = wrapV qs (faultV c a) ∧ qs.length ≤ k ∧ Below (w.heap.size + 1) (w.alloc (.cells #[.pointer (some ⟨5, 53, none⟩), .pointer (some ⟨b, 0, none⟩), .int .u64 150] 70)) wr)
  case atStart => exact ⟨qs0, HV.out.symm, Nat.le_refl _, Below.refl _ _⟩
  case round =>
    obtain ⟨qs, rfl, hk, hbel⟩ := hrel
    have HBE := Lib.hid hbel
    have hws : w.heap.size + 1 ≤ wr.heap.size := by have := hbel.size; simp at this; omega
    clear hbel
    have tI := typeOf59
    have mA := methodAssignableTo
    have aI := assignable59_50
    have nI := noAs59
    have uI := hasUnwrap59
    have mI := methodUnwrap59
    have tF := typeOf50
    have aF := assignable50
    have vF := valueOf50
    cases qs with
    | cons p r =>
      rw [show wrapV (p :: r) (faultV c a) = .iface 59 (.agg #[.string p, wrapV r (faultV c a)]) from rfl]
      obtain ⟨ty, x, hw⟩ : ∃ ty x, wrapV r (faultV c a) = .iface ty x := wrapV_form r _ ⟨_, _, rfl⟩
      rw [hw]
      have HW := Lib.hid (And.intro hw hk)
      clear hw hk
      have hun := fun W => unwrap_inner p ty x W
      go_wp2_with (first | (go_at_call 69; refine (hun _).mono ?_; rintro _ _ ⟨rfl, rfl⟩))
      go_roundg (gk - 1)
      case measure => have h := HW.out.2; simp at h; omega
      case rel => exact ⟨r, HW.out.1.symm, by have h := HW.out.2; simp at h; omega, HBE.out.alloc (by omega) _⟩
    | nil =>
      rw [show wrapV [] (faultV c a) = .iface 50 (.agg #[.int .i64 c, .int .i64 a]) from rfl]
      have HBK := Lib.hid (Blk.below HB1.out HBE.out (by omega))
      have m0 := Blk.cell HBK.out 0
      have m1 := Blk.cell HBK.out 1
      have m2 := Blk.cell HBK.out 2
      simp only [List.getElem?_toArray, List.getElem?_cons_zero, List.getElem?_cons_succ] at m0 m1 m2
      have hbw : Below w.heap.size w wr := ((Below.refl _ w).alloc (Nat.le_refl _) _).trans (HBE.out.mono (by omega))
      have el := elemV53 ⟨b, 0, none⟩ ⟨g, 0, none⟩ wr ((hbw.cell (p := ⟨b, 0, none⟩) hbl).trans HB.out)
      have hgr : g < wr.heap.size := by omega
      have d0 : (wr.alloc (.cells #[.int .i64 c, .int .i64 a] 50)).cell? ⟨g, 0, none⟩ = some o0 := by rw [World.cell?_alloc_lt _ _ ⟨g, 0, none⟩ hgr]; exact (hbw.cell (p := ⟨g, 0, none⟩) htl).trans HT.out.1
      have d1 : (wr.alloc (.cells #[.int .i64 c, .int .i64 a] 50)).cell? ⟨g, 1, none⟩ = some o1 := by rw [World.cell?_alloc_lt _ _ ⟨g, 1, none⟩ hgr]; exact (hbw.cell (p := ⟨g, 1, none⟩) htl).trans HT.out.2
      have f0 := (hbw.frozen (p := ⟨g, 0, none⟩) htl).trans HF.out.1
      have f1 := (hbw.frozen (p := ⟨g, 1, none⟩) htl).trans HF.out.2
      have st := set50 g wr.heap.size c a o0 o1 (wr.alloc (.cells #[.int .i64 c, .int .i64 a] 50)) (by rw [World.cell?_alloc_at _ _ _ _ (by simp)]; rfl) (by rw [World.cell?_alloc_at _ _ _ _ (by simp)]; rfl) d0 d1
        (by rw [World.frozen?_alloc_old _ _ ⟨g, 0, none⟩ (Nat.ne_of_lt hgr)]; exact f0) (by rw [World.frozen?_alloc_old _ _ ⟨g, 1, none⟩ (Nat.ne_of_lt hgr)]; exact f1)
      have HH := Lib.hid (And.intro hbw (And.intro ((hbw.cell (p := ⟨g, 0, none⟩) htl).trans HT.out.1) ((hbw.cell (p := ⟨g, 1, none⟩) htl).trans HT.out.2)))
      clear hbw d0 d1 f0 f1
      go_wp2
      go_ret
      have hne : (⟨g, 0, none⟩ : Addr) ≠ ⟨g, 1, none⟩ := by simp
      refine ⟨rfl, ?_, ?_, ?_⟩
      · rw [World.cell?_alloc_lt _ _ ⟨g, 0, none⟩ (by simp; omega), World.cell?_setCell_other _ _ _ _ hne.symm]
        exact World.cell?_setCell_same _ _ _ (u := o0) HH.out.2.1
      · rw [World.cell?_alloc_lt _ _ ⟨g, 1, none⟩ (by simp; omega)]
        refine World.cell?_setCell_same _ _ _ (u := o1) ?_
        rw [World.cell?_setCell_other _ _ _ _ hne]
        exact HH.out.2.2
      · exact only_alloc (only_setCell (g := g) (p := ⟨g, 1, none⟩) (only_setCell (g := g) (p := ⟨g, 0, none⟩) (only_of_below HH.out.1 _) (.inl rfl) _) (.inl rfl) _) _
set_option maxRecDepth 100000 in
set_option maxHeartbeats 4000000 in
/-- No link of the chain is of the type that is looked for. -/
theorem as31_no (qs0 : List ByteArray) (T Tp tc : TypeId) (b : Nat) (xc tgt : Value) (w : World)
    (aI : ∀ w, (ReflectliteType.relation "AssignableTo" ReflectliteType.assignableTo #[.agg #[.pointer (some ⟨5, 59, none⟩)], .iface 78 (.agg #[.pointer (some ⟨5, T, none⟩)])]).run Tryd.prog w = .ok (.bool false) w)
    (tF : ∀ w, (ReflectliteType.typeOf #[.iface tc xc]).run Tryd.prog w = .ok (.iface 78 (.agg #[.pointer (some ⟨5, tc, none⟩)])) w)
    (aF : ∀ w, (ReflectliteType.relation "AssignableTo" ReflectliteType.assignableTo #[.agg #[.pointer (some ⟨5, tc, none⟩)], .iface 78 (.agg #[.pointer (some ⟨5, T, none⟩)])]).run Tryd.prog w = .ok (.bool false) w)
    (nF : ∀ w, (Instr.typeAssert (.iface tc xc) 28 88 true).run Tryd.prog w = .ok (.tuple #[.nilIface, .bool false]) w)
    (uF : ∀ w, (Instr.typeAssert (.iface tc xc) 28 60 true).run Tryd.prog w = .ok (.tuple #[.nilIface, .bool false]) w)
    (uuF : ∀ w, (Instr.typeAssert (.iface tc xc) 28 83 true).run Tryd.prog w = .ok (.tuple #[.nilIface, .bool false]) w)
    :
    Calls Tryd.prog 31 #[wrapV qs0 (.iface tc xc), tgt, .agg #[.pointer (some ⟨5, Tp, none⟩), .pointer (some ⟨b, 0, none⟩), .int .u64 150], .iface 78 (.agg #[.pointer (some ⟨5, T, none⟩)])] w
      fun e w' => e = .returned (.bool false) ∧ Below w.heap.size w w' := by
  have h26 := @run_callFunc_extern Tryd.prog 26 _ ReflectliteType.typeOf Tryd.func26 (by kernel_rfl) (by kernel_rfl) (by kernel_rfl) (by kernel_rfl)
  have h28 := @run_callFunc_extern Tryd.prog 28 _ (fun args => ReflectliteValue.unpack (args.getD 0 (.tuple #[]))) Tryd.func28 (by kernel_rfl) (by kernel_rfl) (by kernel_rfl) (by kernel_rfl)
  have h74 := @run_callFunc_extern Tryd.prog 74 _ (ReflectliteType.relation "AssignableTo" ReflectliteType.assignableTo) Tryd.func74 (by kernel_rfl) (by kernel_rfl) (by kernel_rfl) (by kernel_rfl)
  have h33 := @run_callFunc_extern Tryd.prog 33 _ (ReflectliteValue.method (ReflectliteValue.valueError "reflectlite.Value.Elem" 0) ReflectliteValue.elem) Tryd.func33 (by kernel_rfl) (by kernel_rfl) (by kernel_rfl) (by kernel_rfl)
  have h34 := @run_callFunc_extern Tryd.prog 34 _ ReflectliteValue.set Tryd.func34 (by kernel_rfl) (by kernel_rfl) (by kernel_rfl) (by kernel_rfl)
  obtain ⟨v0, hv0⟩ : ∃ v0, wrapV qs0 (.iface tc xc) = v0 := ⟨_, rfl⟩
  have HV := Lib.hid hv0
  rw [hv0]
  clear hv0
  go_enter Tryd.func31, Tryd.ntmps31
  go_wp2_with fail
  go_loopg [0] qs0.length (fun k s0 wr => ∃ qs, s0 = wrapV qs (.iface tc xc) ∧ qs.length ≤ k ∧ Below w.heap.size w wr)
  case atStart => exact ⟨qs0, HV.out.symm, Nat.le_refl _, (Below.refl _ w).alloc (Nat.le_refl _) _⟩
  case round =>
    obtain ⟨qs, rfl, hk, hbel⟩ := hrel
    have HBE := Lib.hid hbel
    clear hbel
    have tI := typeOf59
    have mA := methodAssignableTo
    have nI := noAs59
    have uI := hasUnwrap59
    have mI := methodUnwrap59
    cases qs with
    | cons p r =>
      rw [show wrapV (p :: r) (.iface tc xc) = .iface 59 (.agg #[.string p, wrapV r (.iface tc xc)]) from rfl]
      obtain ⟨ty, x, hw⟩ : ∃ ty x, wrapV r (.iface tc xc) = .iface ty x := wrapV_form r _ ⟨_, _, rfl⟩
      rw [hw]
      have HW := Lib.hid (And.intro hw hk)
      clear hw hk
      have hun := fun W => unwrap_inner p ty x W
      go_wp2_with (first | (go_at_call 69; refine (hun _).mono ?_; rintro _ _ ⟨rfl, rfl⟩))
      go_roundg (gk - 1)
      case measure => have h := HW.out.2; simp at h; omega
      case rel => exact ⟨r, HW.out.1.symm, by have h := HW.out.2; simp at h; omega, HBE.out.alloc HBE.out.size _⟩
    | nil =>
      rw [show wrapV [] (.iface tc xc) = .iface tc xc from rfl]
      go_wp2
      go_ret
      exact ⟨rfl, HBE.out⟩
end Go.Proofs.YtnbkeojllibegaaDoor
