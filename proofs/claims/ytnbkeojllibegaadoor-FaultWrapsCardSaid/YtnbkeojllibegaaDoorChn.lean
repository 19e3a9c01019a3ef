import Derived.Test.YtnbkeojllibegaaDoorAs
import Derived.Deep.LoopGhost
namespace Go.Proofs.YtnbkeojllibegaaDoor
open Go.ChangeShapes Go.WideShapes Go.ChangeAt Go.RowKit Go.Extern.Stop Go.Stop Go.Extern
set_option linter.unusedVariables false
set_option linter.unusedSimpArgs false
/-- A chain of wrappers, the outermost first. -/
def wrapV : List ByteArray → Value → Value
  | [], v => v
  | p :: ps, v => .iface 59 (.agg #[.string p, wrapV ps v])
def codeV (c : Int) : Value := .iface 30 (.int .i64 c)
def faultV (c a : Int) : Value := .iface 50 (.agg #[.int .i64 c, .int .i64 a])
theorem wrapV_form (ps : List ByteArray) (v : Value) (h : ∃ t x, v = .iface t x) : ∃ t x, wrapV ps v = .iface t x := by
  cases ps with
  | nil => exact h
  | cons p ps => exact ⟨_, _, rfl⟩
theorem unwrap_inner (p : ByteArray) (t : TypeId) (x : Value) (w : World) : Calls Tryd.prog 69 #[.agg #[.string p, .iface t x]] w fun e w' => e = .returned (.iface t x) ∧ w' = w.alloc (.cells #[.string p, .iface t x] 59) := by
  go_enter Tryd.func69, Tryd.ntmps69
  go_wp2_with fail
  go_ret
  exact ⟨rfl, rfl⟩
theorem unwrap_fault (c a : Int) (w : World) : Calls Tryd.prog 66 #[.agg #[.int .i64 c, .int .i64 a]] w fun e w' => e = .returned (codeV c) ∧ w' = w.alloc (.cells #[.int .i64 c, .int .i64 a] 50) := by
  go_enter Tryd.func66, Tryd.ntmps66
  go_wp2_with fail
  go_ret
  exact ⟨rfl, rfl⟩
set_option maxRecDepth 100000 in
set_option maxHeartbeats 4000000 in
theorem as31_code (qs0 : List ByteArray) (core : Value) (c a : Int) (hcore : core = codeV c ∨ core = faultV c a) (t : Addr) (b : Nat) (old : Value) (w : World) (hb : w.cell? ⟨b, 0, none⟩ = some (.pointer (some t))) (ht : w.cell? t = some old) (hf : w.frozen? t = false) :
    Calls Tryd.prog 31 #[wrapV qs0 core, .iface 52 (.pointer (some t)), .agg #[.pointer (some ⟨5, 52, none⟩), .pointer (some ⟨b, 0, none⟩), .int .u64 150], .iface 78 (.agg #[.pointer (some ⟨5, 30, none⟩)])] w
      fun e w' => e = .returned (.bool true) ∧ w'.cell? t = some (.int .i64 c) ∧ w.grownBy w' (some t.block) := by
  have h26 := @run_callFunc_extern Tryd.prog 26 _ ReflectliteType.typeOf Tryd.func26 (by kernel_rfl) (by kernel_rfl) (by kernel_rfl) (by kernel_rfl)
  have h28 := @run_callFunc_extern Tryd.prog 28 _ (fun args => ReflectliteValue.unpack (args.getD 0 (.tuple #[]))) Tryd.func28 (by kernel_rfl) (by kernel_rfl) (by kernel_rfl) (by kernel_rfl)
  have h74 := @run_callFunc_extern Tryd.prog 74 _ (ReflectliteType.relation "AssignableTo" ReflectliteType.assignableTo) Tryd.func74 (by kernel_rfl) (by kernel_rfl) (by kernel_rfl) (by kernel_rfl)
  have h33 := @run_callFunc_extern Tryd.prog 33 _ (ReflectliteValue.method (ReflectliteValue.valueError "reflectlite.Value.Elem" 0) ReflectliteValue.elem) Tryd.func33 (by kernel_rfl) (by kernel_rfl) (by kernel_rfl) (by kernel_rfl)
  have h34 := @run_callFunc_extern Tryd.prog 34 _ ReflectliteValue.set Tryd.func34 (by kernel_rfl) (by kernel_rfl) (by kernel_rfl) (by kernel_rfl)
  have hbl : b < w.heap.size := lt_of_cell hb
  have htl : t.block < w.heap.size := lt_of_cell ht
  have HB := Lib.hid hb
  have HT := Lib.hid ht
  have HF := Lib.hid hf
  obtain ⟨v0, hv0⟩ : ∃ v0, wrapV qs0 core = v0 := ⟨_, rfl⟩
  have HV := Lib.hid hv0
  have HC := Lib.hid hcore
  rw [hv0]
  clear hb ht hf hv0 hcore
  go_enter Tryd.func31, Tryd.ntmps31
  go_wp2_with fail
  have HB1 := Lib.hid (Blk.new w 70 #[.pointer (some ⟨5, 52, none⟩), .pointer (some ⟨b, 0, none⟩), .int .u64 150])
  go_loopg [0] (qs0.length + 1) (fun k s0 wr => ∃ qs core', s0 = wrapV qs core' ∧ ((core' = codeV c ∧ qs.length ≤ k) ∨ (core' = faultV c a ∧ qs.length + 1 ≤ k)) ∧ Below (w.heap.size + 1) (w.alloc (.cells #[.pointer (some ⟨5, 52, none⟩), .pointer (some ⟨b, 0, none⟩), .int .u64 150] 70)) wr)
  case atStart =>
    refine ⟨qs0, core, HV.out.symm, ?_, Below.refl _ _⟩
    rcases HC.out with h | h
    · exact .inl ⟨h, by omega⟩
    · exact .inr ⟨h, by omega⟩
  case round =>
    obtain ⟨qs, core', rfl, hs, hbel⟩ := hrel
    have HBE := Lib.hid hbel
    have hws : w.heap.size + 1 ≤ wr.heap.size := by have := hbel.size; simp at this; omega
    clear hbel
    have tI := typeOf59
    have mA := methodAssignableTo
    have aI := assignable59_30
    have nI := noAs59
    have uI := hasUnwrap59
    have mI := methodUnwrap59
    have tF := typeOf50
    have aF := assignable50_30
    have nF := noAs50
    have uF := hasUnwrap50
    have mF := methodUnwrap
    have tC := typeOf30
    have aC := assignable30
    have vC := valueOf30
    cases qs with
    | cons p r =>
      rw [show wrapV (p :: r) core' = .iface 59 (.agg #[.string p, wrapV r core']) from rfl]
      obtain ⟨ty, x, hw⟩ : ∃ ty x, wrapV r core' = .iface ty x := wrapV_form r core' (by rcases hs with ⟨rfl, _⟩ | ⟨rfl, _⟩ <;> exact ⟨_, _, rfl⟩)
      rw [hw]
      have HW := Lib.hid (And.intro hw hs)
      clear hw hs
      have hun := fun W => unwrap_inner p ty x W
      go_wp2_with (first | (go_at_call 69; refine (hun _).mono ?_; rintro _ _ ⟨rfl, rfl⟩))
      go_roundg (gk - 1)
      case measure => rcases HW.out.2 with ⟨_, h⟩ | ⟨_, h⟩ <;> (simp at h; omega)
      case rel =>
        refine ⟨r, core', HW.out.1.symm, ?_, HBE.out.alloc (by omega) _⟩
        rcases HW.out.2 with ⟨h1, h⟩ | ⟨h1, h⟩
        · exact .inl ⟨h1, by simp at h; omega⟩
        · exact .inr ⟨h1, by simp at h; omega⟩
    | nil =>
      rcases hs with ⟨rfl, hk⟩ | ⟨rfl, hk⟩
      · rw [show wrapV [] (codeV c) = .iface 30 (.int .i64 c) from rfl]
        have HBK := Lib.hid (Blk.below HB1.out HBE.out (by omega))
        have m0 := Blk.cell HBK.out 0
        have m1 := Blk.cell HBK.out 1
        have m2 := Blk.cell HBK.out 2
        simp only [List.getElem?_toArray, List.getElem?_cons_zero, List.getElem?_cons_succ] at m0 m1 m2
        have hbw : Below w.heap.size w wr := ((Below.refl _ w).alloc (Nat.le_refl _) _).trans (HBE.out.mono (by omega))
        have el := elemV52 ⟨b, 0, none⟩ t wr ((hbw.cell (p := ⟨b, 0, none⟩) hbl).trans HB.out)
        have htr := (hbw.cell (p := t) htl).trans HT.out
        have htr2 : (wr.alloc (.cells #[.int .i64 c] 30)).cell? t = some old := by rw [World.cell?_alloc_lt _ _ t (by omega)]; exact htr
        have hfr := (hbw.frozen (p := t) htl).trans HF.out
        have st := set30 t ⟨wr.heap.size, 0, none⟩ c old (wr.alloc (.cells #[.int .i64 c] 30)) (by rw [World.cell?_alloc_at _ _ _ _ (by simp)]; rfl) htr2 (by rw [World.frozen?_alloc_old _ _ t (by omega)]; exact hfr)
        have HH := Lib.hid (And.intro hbw htr2)
        clear hbw htr htr2 hfr
        go_wp2
        go_ret
        refine ⟨rfl, World.cell?_setCell_same _ _ _ (u := old) HH.out.2, ?_⟩
        exact only_setCell (only_alloc (only_of_below HH.out.1 _) _) (.inl rfl) _
      · rw [show wrapV [] (faultV c a) = .iface 50 (.agg #[.int .i64 c, .int .i64 a]) from rfl]
        have hun := fun W => unwrap_fault c a W
        rw [show codeV c = .iface 30 (.int .i64 c) from rfl] at hun
        go_wp2_with (first | (go_at_call 66; refine (hun _).mono ?_; rintro _ _ ⟨rfl, rfl⟩))
        go_roundg (gk - 1)
        case measure => simp at hk; omega
        case rel => exact ⟨[], codeV c, rfl, .inl ⟨rfl, by simp⟩, HBE.out.alloc (by omega) _⟩
end Go.Proofs.YtnbkeojllibegaaDoor
