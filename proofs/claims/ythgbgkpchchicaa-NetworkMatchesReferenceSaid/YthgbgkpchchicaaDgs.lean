import Derived.Test.YthgbgkpchchicaaEql
namespace Go.Proofs.Ythgbgkpchchicaa
open Go.ChangeShapes Go.WideShapes Go.ChangeAt Go.RowKit
set_option linter.unusedVariables false
set_option linter.unusedSimpArgs false
theorem flat_at {α β : Type} {f : α → List β} {k : Nat} (hf : ∀ x, (f x).length = k) : ∀ (l : List α) (j i : Nat) (x : α), l[j]? = some x → i < k → (l.flatMap f)[j * k + i]? = (f x)[i]?
  | [], j, i, x, h, _ => by simp at h
  | y :: l, 0, i, x, h, hi => by
    simp at h
    subst h
    rw [List.flatMap_cons, Nat.zero_mul, Nat.zero_add, List.getElem?_append_left (by rw [hf]; exact hi)]
  | y :: l, j + 1, i, x, h, hi => by
    rw [List.flatMap_cons, List.getElem?_append_right (by rw [hf, Nat.succ_mul]; omega), hf, show (j + 1) * k + i - k = j * k + i by rw [Nat.succ_mul]; omega]
    exact flat_at hf l j i x (by simpa using h) hi
theorem flat_len {α β : Type} {f : α → List β} {k : Nat} (hf : ∀ x, (f x).length = k) (l : List α) : (l.flatMap f).length = l.length * k := by
  induction l with
  | nil => simp
  | cons x l ih => rw [List.flatMap_cons, List.length_append, hf, ih, List.length_cons, Nat.succ_mul]; omega
/-- A datagram as the memory holds it. -/
structure Dg where
  id : Int
  fr : ByteArray
  to : ByteArray
  A : Option Addr
  n : Nat
  c : Nat
  bs : List Nat
def Dg.cells (e : Dg) : List Value := [.int .i64 e.id, .string e.fr, .string e.to, .slice e.A e.n e.c]
def Dg.v (e : Dg) : Value := .agg #[.int .i64 e.id, .string e.fr, .string e.to, .slice e.A e.n e.c]
structure DgOk (w : World) (e : Dg) : Prop where
  bys : Bys w e.A e.n e.bs
  len : e.n ≤ maxLen
theorem DgOk.below {w w' : World} {e : Dg} (h : DgOk w e) (hb : Below w.heap.size w w') : DgOk w' e := ⟨h.bys.below hb, h.len⟩
def dgCells (es : List Dg) : List Value := es.flatMap Dg.cells
theorem Dg.cells_len (e : Dg) : e.cells.length = 4 := rfl
theorem dgCells_len (es : List Dg) : (dgCells es).length = es.length * 4 := flat_len Dg.cells_len es
/-- What two networks agree on: all but where a body lies. -/
def dgEq (a b : Dg) : Prop := a.id = b.id ∧ a.fr = b.fr ∧ a.to = b.to ∧ a.bs = b.bs
end Go.Proofs.Ythgbgkpchchicaa
