import Derived.Test.YtbifakhalnkfbaaDoorRdg
namespace Go.Proofs.YtbifakhalnkfbaaDoor
open Go.ChangeShapes Go.WideShapes Go.ChangeAt Go.RowKit Go.Sort
set_option linter.unusedVariables false
set_option linter.unusedSimpArgs false
/-- A datagram. -/
structure Dg where
  id : Int
  fr : ByteArray
  tw : ByteArray
  A : Option Addr
  n : Nat
  c : Nat
  bs : List Nat
def Dg.cells (d : Dg) : List Value := [.int .i64 d.id, .string d.fr, .string d.tw, .slice d.A d.n d.c]
structure DgOk (w : World) (d : Dg) : Prop where
  y : Bys w d.A d.n d.bs
  c0 : d.n ≤ d.c
  c1 : d.c ≤ maxLen
  i0 : -9223372036854775808 ≤ d.id
  i1 : d.id ≤ 9223372036854775807
  f1 : d.fr.size ≤ maxLen
  t1 : d.tw.size ≤ maxLen
theorem DgOk.below {w w' : World} {d : Dg} (h : DgOk w d) (hb : Below w.heap.size w w') : DgOk w' d := ⟨h.y.below hb, h.c0, h.c1, h.i0, h.i1, h.f1, h.t1⟩
/-- Its text, and what it counts. -/
def Dg.t (d : Dg) : ByteArray := textD d.id d.fr d.tw d.n d.bs
def Dg.k (d : Dg) : Nat := d.n + d.fr.size + d.tw.size
theorem flat_at {α β : Type} {f : α → List β} {k : Nat} (hf : ∀ x, (f x).length = k) : ∀ (l : List α) (j i : Nat) (x : α), l[j]? = some x → i < k → (l.flatMap f)[j * k + i]? = (f x)[i]?
  | [], j, i, x, h, _ => by simp at h
  | y :: l, 0, i, x, h, hi => by
    simp at h
    subst h
    rw [List.flatMap_cons, Nat.zero_mul, Nat.zero_add, List.getElem?_append_left (by rw [hf]; exact hi)]
  | y :: l, j + 1, i, x, h, hi => by
    rw [List.flatMap_cons, List.getElem?_append_right (by rw [hf, Nat.succ_mul]; omega), hf, show (j + 1) * k + i - k = j * k + i by rw [Nat.succ_mul]; omega]
    exact flat_at hf l j i x (by simpa using h) hi
theorem flat_len {α β : Type} {f : α → List β} {k : Nat} (hf : ∀ x, (f x).length = k) (l : List α) : (l.flatMap f).length = l.length * k := by
  induction l with
  | nil => simp
  | cons x l ih => rw [List.flatMap_cons, List.length_append, hf, ih, List.length_cons, Nat.succ_mul]; omega
def dgCells (ds : List Dg) : List Value := ds.flatMap Dg.cells
theorem Dg.cells_len (d : Dg) : d.cells.length = 4 := rfl
theorem dgCells_len (ds : List Dg) : (dgCells ds).length = ds.length * 4 := flat_len Dg.cells_len ds
/-- A slice of datagrams that is read. -/
def Dgs (w : World) (A : Option Addr) (n : Nat) (ds : List Dg) : Prop := Reads w w.heap.size 4 A n (dgCells ds) ∧ ds.length = n ∧ ∀ d ∈ ds, DgOk w d
theorem Dgs.below {w w' : World} {A : Option Addr} {n : Nat} {ds : List Dg} (h : Dgs w A n ds) (hb : Below w.heap.size w w') : Dgs w' A n ds :=
  ⟨(Reads.below h.1 hb).more hb.size, h.2.1, fun d hd => (h.2.2 d hd).below hb⟩
def FourAt (w : World) (b o : Nat) (d : Dg) : Prop :=
  w.cell? ⟨b, o, none⟩ = some (.int .i64 d.id) ∧ w.cell? ⟨b, o + 1, none⟩ = some (.string d.fr) ∧ w.cell? ⟨b, o + 2, none⟩ = some (.string d.tw) ∧ w.cell? ⟨b, o + 3, none⟩ = some (.slice d.A d.n d.c)
theorem Dgs.at_ {w : World} {A : Option Addr} {n j : Nat} {ds : List Dg} (h : Dgs w A n ds) (hj : j < n) : ∃ b o d, A = some ⟨b, o, none⟩ ∧ b < w.heap.size ∧ ds[j]? = some d ∧ DgOk w d ∧ FourAt w b (o + j * 4) d := by
  obtain ⟨hr, hl, hok⟩ := h
  obtain ⟨ad, e, hb, hc⟩ := hr.2 (by omega)
  obtain ⟨b, o, sp⟩ := ad
  obtain ⟨d, hd⟩ : ∃ d, ds[j]? = some d := ⟨_, List.getElem?_eq_getElem (by omega)⟩
  have at_ : ∀ i u, d.cells[i]? = some u → w.cell? ((⟨b, o, sp⟩ : Addr).add (j * 4 + i)) = some u := fun i u hu => by
    have hi : i < 4 := by have := (List.getElem?_eq_some_iff.1 hu).1; rwa [Dg.cells_len] at this
    exact hc _ u (by unfold dgCells; rw [flat_at Dg.cells_len ds j i d hd hi]; exact hu)
  have hsp : sp = none := by
    have hlen : 0 < (dgCells ds).length := by rw [dgCells_len]; omega
    exact World.cell?_spot (hc 0 _ (List.getElem?_eq_getElem hlen))
  subst hsp
  refine ⟨b, o, d, e, hb, hd, hok d (List.mem_of_getElem? hd), ?_⟩
  have key : ∀ i u, d.cells[i]? = some u → w.cell? ⟨b, o + j * 4 + i, none⟩ = some u := fun i u hu => by
    have := at_ i u hu
    rwa [add_none, ← Nat.add_assoc] at this
  exact ⟨key 0 _ rfl, key 1 _ rfl, key 2 _ rfl, key 3 _ rfl⟩
theorem FourAt.below {w w' : World} {b o : Nat} {d : Dg} (h : FourAt w b o d) (hb : Below w.heap.size w w') (hlt : b < w.heap.size) : FourAt w' b o d := by
  obtain ⟨h0, h1, h2, h3⟩ := h
  exact ⟨(hb.cell (p := ⟨b, _, none⟩) hlt).trans h0, (hb.cell (p := ⟨b, _, none⟩) hlt).trans h1, (hb.cell (p := ⟨b, _, none⟩) hlt).trans h2, (hb.cell (p := ⟨b, _, none⟩) hlt).trans h3⟩
theorem Dgs.of_own {w : World} {base c n : Nat} {t : TypeId} {A : Option Addr} {ds : List Dg} (h : w.ownsRow base t 4 (.slice A n c) n (dgCells ds)) (hk : ∀ d ∈ ds, DgOk w d) : Dgs w A n ds :=
  ⟨Reads.of_own h, by have := h.1; rw [dgCells_len] at this; omega, hk⟩
theorem Dgs.none_ (w : World) : Dgs w none 0 [] := ⟨Reads.none_, rfl, by simp⟩
/-- Joined by semicolons. -/
def joinT (xs : List ByteArray) : ByteArray := ⟨(Lib.join (xs.map (·.data.toList)) [59, 32]).toArray⟩
def rowT (ds : List Dg) : ByteArray := if ds = [] then ⟨#[110, 111, 110, 101]⟩ else joinT (ds.map Dg.t)
theorem joinT_one (x : ByteArray) : joinT [x] = x := by
  apply ba_ext
  unfold joinT
  simp [Lib.join, List.intercalate, List.intersperse]
theorem joinTail_snoc (s : List UInt8) (r : List (List UInt8)) (y : List UInt8) : Lib.joinTail s (r ++ [y]) = Lib.joinTail s r ++ s ++ y := by simp [Lib.joinTail, List.append_assoc]
theorem joinT_snoc (x : ByteArray) (xs : List ByteArray) (y : ByteArray) : joinT ((x :: xs) ++ [y]) = joinT (x :: xs) ++ (⟨#[59, 32]⟩ : ByteArray) ++ y := by
  apply ba_ext
  unfold joinT
  rw [ByteArray.data_append, ByteArray.data_append]
  simp only [List.cons_append, List.map_cons, List.map_append, List.map_nil, Array.toList_append]
  rw [Lib.join_cons, Lib.join_cons, joinTail_snoc]
  simp [List.append_assoc]
theorem join_bound2 (xs : List ByteArray) (h : ∀ x ∈ xs, x.size ≤ 6000) (hl : xs.length ≤ 1000) : (Lib.join (xs.map (·.data.toList)) (⟨#[59, 32]⟩ : ByteArray).data.toList).length ≤ 100000000 := by
  cases xs with
  | nil => simp [Lib.join, List.intercalate]
  | cons x xs =>
    have h1 := lens_le 6000 (x :: xs) h
    rw [List.map_cons] at h1 ⊢
    rw [Lib.join_length]
    have h2 : (⟨#[59, 32]⟩ : ByteArray).data.toList.length = 2 := rfl
    have h3 : (xs.map (·.data.toList)).length = xs.length := by simp
    rw [h2, h3]
    rw [List.length_cons] at h1 hl
    omega
theorem joinT_size (xs : List ByteArray) (h : ∀ x ∈ xs, x.size ≤ 6000) (hl : xs.length ≤ 1000) : (joinT xs).size ≤ 100000000 := join_bound2 xs h hl
theorem join2_own {base c : Nat} {A : Option Addr} (xs : List ByteArray) {w : World} (h : w.ownsRow base 9 1 (.slice A xs.length c) xs.length (xs.map Value.string)) (h0 : 0 < xs.length) (hz : ∀ x ∈ xs, x.size ≤ 6000) (hl : xs.length ≤ 1000) :
    Calls Tryd.prog 36 #[.slice A xs.length c, .string ⟨#[59, 32]⟩] w fun e w' => e = .returned (.string (joinT xs)) ∧ Below w.heap.size w w' := by
  rcases h.2 with ⟨_, hx⟩ | ⟨g, cap, cur, hv, hgb, hh, hcap, _⟩
  · omega
  · injection hv with h1 h2 h3
    subst h1 h3
    have hlt := (h.lt g rfl).2
    refine Tryd.strings_Join g 0 c xs ⟨#[59, 32]⟩ w (fun j x hj => ?_) hlt (by omega) hcap (Nat.le_trans (join_bound2 xs hz hl) (by decide))
    have := h.cells (g := g) rfl j (.string x) (by simp [hj])
    rwa [add_none] at this
end Go.Proofs.YtbifakhalnkfbaaDoor
