import Derived.Test.YthgbgkpchchicaaDgs
namespace Go.Proofs.Ythgbgkpchchicaa
open Go.ChangeShapes Go.WideShapes Go.ChangeAt Go.RowKit
set_option linter.unusedVariables false
set_option linter.unusedSimpArgs false
/-- A body that is given. -/
structure Bd where
  A : Option Addr
  n : Nat
  c : Nat
  bs : List Nat
def Bd.v (b : Bd) : Value := .slice b.A b.n b.c
structure BdOk (w : World) (b : Bd) : Prop where
  bys : Bys w b.A b.n b.bs
  len : b.n ≤ maxLen
theorem BdOk.below {w w' : World} {b : Bd} (h : BdOk w b) (hb : Below w.heap.size w w') : BdOk w' b := ⟨h.bys.below hb, h.len⟩
def Bds (w : World) (A : Option Addr) (n : Nat) (l : List Bd) : Prop := Reads w w.heap.size 1 A n (l.map Bd.v) ∧ l.length = n ∧ ∀ b ∈ l, BdOk w b
theorem Bds.none_ (w : World) : Bds w none 0 [] := ⟨Reads.none_, rfl, by simp⟩
theorem Bds.below {w w' : World} {A : Option Addr} {n : Nat} {l : List Bd} (h : Bds w A n l) (hb : Below w.heap.size w w') : Bds w' A n l :=
  ⟨(Reads.below h.1 hb).more hb.size, h.2.1, fun e he => (h.2.2 e he).below hb⟩
theorem Bds.at_ {w : World} {A : Option Addr} {n j : Nat} {l : List Bd} (h : Bds w A n l) (hj : j < n) : ∃ b o e, A = some ⟨b, o, none⟩ ∧ b < w.heap.size ∧ l[j]? = some e ∧ BdOk w e ∧ w.cell? ⟨b, o + j, none⟩ = some (.slice e.A e.n e.c) := by
  obtain ⟨b, o, u, hA, hb, hu, hc⟩ := h.1.cell hj
  simp only [List.getElem?_map, Option.map_eq_some_iff] at hu
  obtain ⟨e, he, rfl⟩ := hu
  exact ⟨b, o, e, hA, hb, he, h.2.2 e (List.mem_of_getElem? he), hc⟩
/-- A call that is given. -/
structure Opr where
  kind : Int
  a : Int
  b : Int
  fr : ByteArray
  to : ByteArray
  A : Option Addr
  n : Nat
  c : Nat
  bs : List Nat
def Opr.cells (e : Opr) : List Value := [.int .i64 e.kind, .int .i64 e.a, .int .i64 e.b, .string e.fr, .string e.to, .slice e.A e.n e.c]
def Opr.v (e : Opr) : Value := .agg #[.int .i64 e.kind, .int .i64 e.a, .int .i64 e.b, .string e.fr, .string e.to, .slice e.A e.n e.c]
theorem Opr.cells_len (e : Opr) : e.cells.length = 6 := rfl
structure OprOk (w : World) (e : Opr) : Prop where
  bys : Bys w e.A e.n e.bs
  len : e.n ≤ maxLen
  frz : e.fr.size ≤ maxLen
  toz : e.to.size ≤ maxLen
theorem OprOk.below {w w' : World} {b : Opr} (h : OprOk w b) (hb : Below w.heap.size w w') : OprOk w' b := ⟨h.bys.below hb, h.len, h.frz, h.toz⟩
def opCells (es : List Opr) : List Value := es.flatMap Opr.cells
theorem opCells_len (es : List Opr) : (opCells es).length = es.length * 6 := flat_len Opr.cells_len es
def Oprs (w : World) (A : Option Addr) (n : Nat) (es : List Opr) : Prop := Reads w w.heap.size 6 A n (opCells es) ∧ es.length = n ∧ ∀ e ∈ es, OprOk w e
theorem Oprs.none_ (w : World) : Oprs w none 0 [] := ⟨⟨by simp [opCells], fun h => absurd h (by omega)⟩, rfl, by simp⟩
theorem Oprs.below {w w' : World} {A : Option Addr} {n : Nat} {l : List Opr} (h : Oprs w A n l) (hb : Below w.heap.size w w') : Oprs w' A n l :=
  ⟨(Reads.below h.1 hb).more hb.size, h.2.1, fun e he => (h.2.2 e he).below hb⟩
def SixAt (w : World) (b o : Nat) (e : Opr) : Prop :=
  w.cell? ⟨b, o, none⟩ = some (.int .i64 e.kind) ∧ w.cell? ⟨b, o + 1, none⟩ = some (.int .i64 e.a) ∧ w.cell? ⟨b, o + 2, none⟩ = some (.int .i64 e.b) ∧
  w.cell? ⟨b, o + 3, none⟩ = some (.string e.fr) ∧ w.cell? ⟨b, o + 4, none⟩ = some (.string e.to) ∧ w.cell? ⟨b, o + 5, none⟩ = some (.slice e.A e.n e.c)
theorem SixAt.below {w w' : World} {b o B : Nat} {e : Opr} (h : SixAt w b o e) (hb : Below B w w') (hB : b < B) : SixAt w' b o e := by
  obtain ⟨h0, h1, h2, h3, h4, h5⟩ := h
  exact ⟨(hb.cell (p := ⟨b, o, none⟩) hB).trans h0, (hb.cell (p := ⟨b, o + 1, none⟩) hB).trans h1, (hb.cell (p := ⟨b, o + 2, none⟩) hB).trans h2, (hb.cell (p := ⟨b, o + 3, none⟩) hB).trans h3, (hb.cell (p := ⟨b, o + 4, none⟩) hB).trans h4, (hb.cell (p := ⟨b, o + 5, none⟩) hB).trans h5⟩
theorem Oprs.at_ {w : World} {A : Option Addr} {n j : Nat} {es : List Opr} (h : Oprs w A n es) (hj : j < n) : ∃ b o e, A = some ⟨b, o, none⟩ ∧ b < w.heap.size ∧ es[j]? = some e ∧ OprOk w e ∧ SixAt w b (o + j * 6) e := by
  obtain ⟨hr, hl, hok⟩ := h
  obtain ⟨ad, e, hb, hc⟩ := hr.2 (by omega)
  obtain ⟨b, o, sp⟩ := ad
  obtain ⟨ev, hev⟩ : ∃ ev, es[j]? = some ev := ⟨_, List.getElem?_eq_getElem (by omega)⟩
  have at_ : ∀ i u, ev.cells[i]? = some u → w.cell? ((⟨b, o, sp⟩ : Addr).add (j * 6 + i)) = some u := fun i u hu => by
    have hi : i < 6 := by have := (List.getElem?_eq_some_iff.1 hu).1; rwa [Opr.cells_len] at this
    exact hc _ u ((flat_at Opr.cells_len es j i ev hev hi).trans hu)
  have hsp : sp = none := by
    have hlen : 0 < (opCells es).length := by rw [opCells_len]; omega
    exact World.cell?_spot (hc 0 _ (List.getElem?_eq_getElem hlen))
  subst hsp
  have at2 : ∀ i u, ev.cells[i]? = some u → w.cell? ⟨b, o + j * 6 + i, none⟩ = some u := fun i u hu => by
    have := at_ i u hu
    rwa [add_none, ← Nat.add_assoc] at this
  exact ⟨b, o, ev, e, hb, hev, hok ev (List.mem_of_getElem? hev), at2 0 _ rfl, at2 1 _ rfl, at2 2 _ rfl, at2 3 _ rfl, at2 4 _ rfl, at2 5 _ rfl⟩
end Go.Proofs.Ythgbgkpchchicaa
