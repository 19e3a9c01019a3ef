import Derived.Test.YtnbkeojllibegaaDoorChf
namespace Go.Proofs.YtnbkeojllibegaaDoor
open Go.ChangeShapes Go.WideShapes Go.ChangeAt Go.RowKit Go.Extern.Stop Go.Stop Go.Extern
set_option linter.unusedVariables false
set_option linter.unusedSimpArgs false
theorem as_nil (t : Value) (w : World) : Calls Tryd.prog 23 #[.nilIface, t] w fun e w' => e = .returned (.bool false) ∧ w = w' := by
  go_enter Tryd.func23, Tryd.ntmps23
  go_wp2_with fail
  go_ret
  exact ⟨rfl, rfl⟩
/-- The handle of the type error. -/
def Err (w : World) : Prop := w.cell? ⟨1, 0, none⟩ = some (.iface 78 (.agg #[.pointer (some ⟨5, 28, none⟩)]))
theorem Err.below {w w' : World} (h : Err w) (hb : Below w.heap.size w w') : Err w' := (hb.cell (p := ⟨1, 0, none⟩) (lt_of_cell h)).trans h
theorem Err.drewN {w : World} (h : Err w) (k : Nat) : Err (w.drewN k) := h
theorem Err.alloc {w : World} (h : Err w) (o : Obj) : Err (w.alloc o) := h.below ((Below.refl _ w).alloc (Nat.le_refl _) o)
set_option maxRecDepth 100000 in
set_option maxHeartbeats 4000000 in
theorem as23_code (ty : TypeId) (x : Value) (t : Addr) (w : World) (hg : Err w) (R : Bool → World → Prop)
    (h31 : Calls Tryd.prog 31 #[.iface ty x, .iface 52 (.pointer (some t)), .agg #[.pointer (some ⟨5, 52, none⟩), .pointer (some ⟨w.heap.size, 0, none⟩), .int .u64 150], .iface 78 (.agg #[.pointer (some ⟨5, 30, none⟩)])] ((w.alloc (.cells #[.pointer (some t)] 52)).alloc (.cells #[.pointer (some ⟨5, 52, none⟩), .pointer (some ⟨w.heap.size, 0, none⟩), .int .u64 150] 70)) fun e w' => ∃ bb, e = .returned (.bool bb) ∧ R bb w') :
    Calls Tryd.prog 23 #[.iface ty x, .iface 52 (.pointer (some t))] w fun e w' => ∃ bb, e = .returned (.bool bb) ∧ R bb w' := by
  have h28 := @run_callFunc_extern Tryd.prog 28 _ (fun args => ReflectliteValue.unpack (args.getD 0 (.tuple #[]))) Tryd.func28 (by kernel_rfl) (by kernel_rfl) (by kernel_rfl) (by kernel_rfl)
  have h29 := @run_callFunc_extern Tryd.prog 29 _ (ReflectliteValue.methodAny (ReflectliteValue.valueError "reflectlite.Value.Type" 0) (fun t _ _ _ => ReflectliteType.toType t)) Tryd.func29 (by kernel_rfl) (by kernel_rfl) (by kernel_rfl) (by kernel_rfl)
  have h30 := @run_callFunc_extern Tryd.prog 30 _ (ReflectliteValue.method (ReflectliteValue.valueError "reflectlite.Value.IsNil" 0) ReflectliteValue.isNil) Tryd.func30 (by kernel_rfl) (by kernel_rfl) (by kernel_rfl) (by kernel_rfl)
  have h61 := @run_callFunc_extern Tryd.prog 61 _ (ReflectliteType.abiMethod fun t => do pure (.int .u8 (← Rtype.kind t))) Tryd.func61 (by kernel_rfl) (by kernel_rfl) (by kernel_rfl) (by kernel_rfl)
  have h76 := @run_callFunc_extern Tryd.prog 76 _ (ReflectliteType.method ReflectliteType.elem) Tryd.func76 (by kernel_rfl) (by kernel_rfl) (by kernel_rfl) (by kernel_rfl)
  have h77 := @run_callFunc_extern Tryd.prog 77 _ (ReflectliteType.relation "Implements" ReflectliteType.implements_) Tryd.func77 (by kernel_rfl) (by kernel_rfl) (by kernel_rfl) (by kernel_rfl)
  have f22 := valueOf52
  have f23 := type52
  have mK := methodKind
  have mE := methodElem
  have mI := methodImplements
  have kP := kind52
  have kT := kind30
  have eP := elem52
  have iT := implements30
  have hlt : 1 < w.heap.size := by have := lt_of_cell hg; exact this
  have n24 := isNil52 ⟨w.heap.size, 0, none⟩ t ((w.alloc (.cells #[.pointer (some t)] 52)).alloc (.cells #[.pointer (some ⟨5, 52, none⟩), .pointer (some ⟨w.heap.size, 0, none⟩), .int .u64 150] 70)) (by simp)
  have hg2 : ((w.alloc (.cells #[.pointer (some t)] 52)).alloc (.cells #[.pointer (some ⟨5, 52, none⟩), .pointer (some ⟨w.heap.size, 0, none⟩), .int .u64 150] 70)).cell? ⟨1, 0, none⟩ = some (.iface 78 (.agg #[.pointer (some ⟨5, 28, none⟩)])) := by
    rw [World.cell?_alloc_lt _ _ ⟨1, 0, none⟩ (by simp; omega), World.cell?_alloc_lt _ _ ⟨1, 0, none⟩ hlt]; exact hg
  clear hg
  go_enter Tryd.func23, Tryd.ntmps23
  go_wp2_with (go_at_call 31; refine h31.mono ?_; rintro _ w1 ⟨bb, rfl, hR⟩; refine Hid.out ?_)
  refine Lib.hid ?_
  have HR := Lib.hid hR
  clear hR h31
  go_wp2_with fail
  go_ret
  exact ⟨bb, rfl, HR.out⟩
set_option maxRecDepth 100000 in
set_option maxHeartbeats 4000000 in
theorem as23_fault (ty : TypeId) (x : Value) (t : Addr) (w : World) (hg : Err w) (R : Bool → World → Prop)
    (h31 : Calls Tryd.prog 31 #[.iface ty x, .iface 53 (.pointer (some t)), .agg #[.pointer (some ⟨5, 53, none⟩), .pointer (some ⟨w.heap.size, 0, none⟩), .int .u64 150], .iface 78 (.agg #[.pointer (some ⟨5, 50, none⟩)])] ((w.alloc (.cells #[.pointer (some t)] 53)).alloc (.cells #[.pointer (some ⟨5, 53, none⟩), .pointer (some ⟨w.heap.size, 0, none⟩), .int .u64 150] 70)) fun e w' => ∃ bb, e = .returned (.bool bb) ∧ R bb w') :
    Calls Tryd.prog 23 #[.iface ty x, .iface 53 (.pointer (some t))] w fun e w' => ∃ bb, e = .returned (.bool bb) ∧ R bb w' := by
  have h28 := @run_callFunc_extern Tryd.prog 28 _ (fun args => ReflectliteValue.unpack (args.getD 0 (.tuple #[]))) Tryd.func28 (by kernel_rfl) (by kernel_rfl) (by kernel_rfl) (by kernel_rfl)
  have h29 := @run_callFunc_extern Tryd.prog 29 _ (ReflectliteValue.methodAny (ReflectliteValue.valueError "reflectlite.Value.Type" 0) (fun t _ _ _ => ReflectliteType.toType t)) Tryd.func29 (by kernel_rfl) (by kernel_rfl) (by kernel_rfl) (by kernel_rfl)
  have h30 := @run_callFunc_extern Tryd.prog 30 _ (ReflectliteValue.method (ReflectliteValue.valueError "reflectlite.Value.IsNil" 0) ReflectliteValue.isNil) Tryd.func30 (by kernel_rfl) (by kernel_rfl) (by kernel_rfl) (by kernel_rfl)
  have h61 := @run_callFunc_extern Tryd.prog 61 _ (ReflectliteType.abiMethod fun t => do pure (.int .u8 (← Rtype.kind t))) Tryd.func61 (by kernel_rfl) (by kernel_rfl) (by kernel_rfl) (by kernel_rfl)
  have h76 := @run_callFunc_extern Tryd.prog 76 _ (ReflectliteType.method ReflectliteType.elem) Tryd.func76 (by kernel_rfl) (by kernel_rfl) (by kernel_rfl) (by kernel_rfl)
  have h77 := @run_callFunc_extern Tryd.prog 77 _ (ReflectliteType.relation "Implements" ReflectliteType.implements_) Tryd.func77 (by kernel_rfl) (by kernel_rfl) (by kernel_rfl) (by kernel_rfl)
  have f22 := valueOf53
  have f23 := type53
  have mK := methodKind
  have mE := methodElem
  have mI := methodImplements
  have kP := kind53
  have kT := kind50
  have eP := elem53
  have iT := implements50
  have hlt : 1 < w.heap.size := by have := lt_of_cell hg; exact this
  have n24 := isNil53 ⟨w.heap.size, 0, none⟩ t ((w.alloc (.cells #[.pointer (some t)] 53)).alloc (.cells #[.pointer (some ⟨5, 53, none⟩), .pointer (some ⟨w.heap.size, 0, none⟩), .int .u64 150] 70)) (by simp)
  have hg2 : ((w.alloc (.cells #[.pointer (some t)] 53)).alloc (.cells #[.pointer (some ⟨5, 53, none⟩), .pointer (some ⟨w.heap.size, 0, none⟩), .int .u64 150] 70)).cell? ⟨1, 0, none⟩ = some (.iface 78 (.agg #[.pointer (some ⟨5, 28, none⟩)])) := by
    rw [World.cell?_alloc_lt _ _ ⟨1, 0, none⟩ (by simp; omega), World.cell?_alloc_lt _ _ ⟨1, 0, none⟩ hlt]; exact hg
  clear hg
  go_enter Tryd.func23, Tryd.ntmps23
  go_wp2_with (go_at_call 31; refine h31.mono ?_; rintro _ w1 ⟨bb, rfl, hR⟩; refine Hid.out ?_)
  refine Lib.hid ?_
  have HR := Lib.hid hR
  clear hR h31
  go_wp2_with fail
  go_ret
  exact ⟨bb, rfl, HR.out⟩
end Go.Proofs.YtnbkeojllibegaaDoor
