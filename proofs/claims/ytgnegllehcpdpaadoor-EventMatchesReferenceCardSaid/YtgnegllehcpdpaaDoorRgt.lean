import Derived.Test.YtgnegllehcpdpaaDoorEvs
namespace Go.Proofs.YtgnegllehcpdpaaDoor
open Go.ChangeShapes Go.WideShapes Go.ChangeAt Go.RowKit
set_option linter.unusedVariables false
set_option linter.unusedSimpArgs false
/-- What Right asks. -/
def rightP (e : Ev) : Prop := (e.who = 0 ∨ e.who = 1) ∧ ((e.kind = 1 ∧ e.code = 0) ∨ (e.kind = 2 ∧ e.code = 0) ∨ (e.kind = 3 ∧ 1 ≤ e.code ∧ e.code ≤ 12 ∧ e.seq = 0 ∧ e.bs = []) ∨
  (e.kind = 4 ∧ 1 ≤ e.code ∧ e.code ≤ 12 ∧ e.seq = 0 ∧ e.bs = [] ∧ e.ad = ByteArray.empty) ∨ (e.kind = 5 ∧ e.code = 0 ∧ e.seq = 0 ∧ e.bs = [] ∧ e.ad = ByteArray.empty))
instance (e : Ev) : Decidable (rightP e) := by unfold rightP; infer_instance
def rightB (e : Ev) : Bool := decide (rightP e)
theorem rightB_of {e : Ev} {b : Bool} (h : b = true ↔ rightP e) : rightB e = b := by
  unfold rightB
  cases b
  · simp; intro hp; have := h.2 hp; simp at this
  · simp; exact h.1 rfl
/-- The event that Right compares with. -/
def plainEv (e : Ev) (code : Int) (ad : ByteArray) : Ev := ⟨e.kind, e.who, 0, e.tick, code, none, 0, 0, [], ad⟩
theorem plain_ok {w : World} {e : Ev} (h : EvOk w e) (code : Int) (ad : ByteArray) (ha : ad.size ≤ maxLen) : EvOk w (plainEv e code ad) :=
  ⟨Bys.none_ w, by unfold maxLen; exact Nat.zero_le _, ha, (by show (0 : Int) ≤ 0; decide), (by show (0 : Int) < 18446744073709551616; decide), h.t0, h.t1⟩
theorem plain_eq (e : Ev) (code : Int) (ad : ByteArray) : evEq e (plainEv e code ad) = decide (e.seq = 0 ∧ e.code = code ∧ e.bs = [] ∧ e.ad = ad) := by
  unfold evEq plainEv
  simp
def eB (e : Ev) : Array Value := #[.int .i64 e.kind, .int .i64 e.who, .int .u64 e.seq, .int .u64 e.tick, .int .i64 e.code, .slice e.A e.n e.c, .string e.ad]
end Go.Proofs.YtgnegllehcpdpaaDoor
