import Derived.Test.YtgnegllehcpdpaaDoorSame
namespace Go.Proofs.YtgnegllehcpdpaaDoor
open Go.ChangeShapes Go.WideShapes Go.ChangeAt Go.RowKit
set_option linter.unusedVariables false
set_option linter.unusedSimpArgs false
theorem flat_at {α β : Type} {f : α → List β} {k : Nat} (hf : ∀ x, (f x).length = k) : ∀ (l : List α) (j i : Nat) (x : α), l[j]? = some x → i < k → (l.flatMap f)[j * k + i]? = (f x)[i]?
  | [], j, i, x, h, _ => by simp at h
  | y :: l, 0, i, x, h, hi => by
    simp at h
    subst h
    rw [List.flatMap_cons, Nat.zero_mul, Nat.zero_add, List.getElem?_append_left (by rw [hf]; exact hi)]
  | y :: l, j + 1, i, x, h, hi => by
    rw [List.flatMap_cons, List.getElem?_append_right (by rw [hf, Nat.succ_mul]; omega), hf, show (j + 1) * k + i - k = j * k + i by rw [Nat.succ_mul]; omega]
    exact flat_at hf l j i x (by simpa using h) hi
theorem flat_len {α β : Type} {f : α → List β} {k : Nat} (hf : ∀ x, (f x).length = k) (l : List α) : (l.flatMap f).length = l.length * k := by
  induction l with
  | nil => simp
  | cons x l ih => rw [List.flatMap_cons, List.length_append, hf, ih, List.length_cons, Nat.succ_mul]; omega
def evCells (es : List Ev) : List Value := es.flatMap Ev.cells
theorem Ev.cells_len (e : Ev) : e.cells.length = 7 := rfl
theorem evCells_len (es : List Ev) : (evCells es).length = es.length * 7 := flat_len Ev.cells_len es
/-- A slice of events that is read. -/
def Evs (w : World) (A : Option Addr) (n : Nat) (es : List Ev) : Prop := Reads w w.heap.size 7 A n (evCells es) ∧ es.length = n ∧ ∀ e ∈ es, EvOk w e
theorem Evs.below {w w' : World} {A : Option Addr} {n : Nat} {es : List Ev} (h : Evs w A n es) (hb : Below w.heap.size w w') : Evs w' A n es :=
  ⟨(Reads.below h.1 hb).more hb.size, h.2.1, fun e he => (h.2.2 e he).below hb⟩
def SevenAt (w : World) (b o : Nat) (e : Ev) : Prop :=
  w.cell? ⟨b, o, none⟩ = some (.int .i64 e.kind) ∧ w.cell? ⟨b, o + 1, none⟩ = some (.int .i64 e.who) ∧ w.cell? ⟨b, o + 2, none⟩ = some (.int .u64 e.seq) ∧ w.cell? ⟨b, o + 3, none⟩ = some (.int .u64 e.tick) ∧
  w.cell? ⟨b, o + 4, none⟩ = some (.int .i64 e.code) ∧ w.cell? ⟨b, o + 5, none⟩ = some (.slice e.A e.n e.c) ∧ w.cell? ⟨b, o + 6, none⟩ = some (.string e.ad)
theorem Evs.at_ {w : World} {A : Option Addr} {n j : Nat} {es : List Ev} (h : Evs w A n es) (hj : j < n) : ∃ b o e, A = some ⟨b, o, none⟩ ∧ b < w.heap.size ∧ es[j]? = some e ∧ EvOk w e ∧ SevenAt w b (o + j * 7) e := by
  obtain ⟨hr, hl, hok⟩ := h
  obtain ⟨ad, e, hb, hc⟩ := hr.2 (by omega)
  obtain ⟨b, o, sp⟩ := ad
  obtain ⟨ev, hev⟩ : ∃ ev, es[j]? = some ev := ⟨_, List.getElem?_eq_getElem (by omega)⟩
  have at_ : ∀ i u, ev.cells[i]? = some u → w.cell? ((⟨b, o, sp⟩ : Addr).add (j * 7 + i)) = some u := fun i u hu => by
    have hi : i < 7 := by have := (List.getElem?_eq_some_iff.1 hu).1; rwa [Ev.cells_len] at this
    exact hc _ u (by unfold evCells; rw [flat_at Ev.cells_len es j i ev hev hi]; exact hu)
  have hsp : sp = none := by
    have hlen : 0 < (evCells es).length := by rw [evCells_len]; omega
    exact World.cell?_spot (hc 0 _ (List.getElem?_eq_getElem hlen))
  subst hsp
  refine ⟨b, o, ev, e, hb, hev, hok ev (List.mem_of_getElem? hev), ?_⟩
  have key : ∀ i u, ev.cells[i]? = some u → w.cell? ⟨b, o + j * 7 + i, none⟩ = some u := fun i u hu => by
    have := at_ i u hu
    rwa [add_none, ← Nat.add_assoc] at this
  exact ⟨key 0 _ rfl, key 1 _ rfl, key 2 _ rfl, key 3 _ rfl, key 4 _ rfl, key 5 _ rfl, key 6 _ rfl⟩
theorem SevenAt.below {w w' : World} {b o : Nat} {e : Ev} (h : SevenAt w b o e) (hb : Below w.heap.size w w') (hlt : b < w.heap.size) : SevenAt w' b o e := by
  obtain ⟨h0, h1, h2, h3, h4, h5, h6⟩ := h
  exact ⟨(hb.cell (p := ⟨b, _, none⟩) hlt).trans h0, (hb.cell (p := ⟨b, _, none⟩) hlt).trans h1, (hb.cell (p := ⟨b, _, none⟩) hlt).trans h2, (hb.cell (p := ⟨b, _, none⟩) hlt).trans h3, (hb.cell (p := ⟨b, _, none⟩) hlt).trans h4, (hb.cell (p := ⟨b, _, none⟩) hlt).trans h5, (hb.cell (p := ⟨b, _, none⟩) hlt).trans h6⟩
theorem Evs.of_own {w : World} {base c n : Nat} {t : TypeId} {A : Option Addr} {es : List Ev} (h : w.ownsRow base t 7 (.slice A n c) n (evCells es)) (hk : ∀ e ∈ es, EvOk w e) : Evs w A n es :=
  ⟨Reads.of_own h, by have := h.1; rw [evCells_len] at this; omega, hk⟩
theorem Evs.none_ (w : World) : Evs w none 0 [] := ⟨Reads.none_, rfl, by simp⟩
end Go.Proofs.YtgnegllehcpdpaaDoor
