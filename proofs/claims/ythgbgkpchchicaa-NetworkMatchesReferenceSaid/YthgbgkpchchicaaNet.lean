import Derived.Test.YthgbgkpchchicaaTld
import Derived.Test.YthgbgkpchchicaaKri
namespace Go.Proofs.Ythgbgkpchchicaa
open Go.ChangeShapes Go.WideShapes Go.ChangeAt Go.RowKit
set_option linter.unusedVariables false
set_option linter.unusedSimpArgs false
/-- Nothing has turned but the network's own block and its row. -/
structure Turn (g : Nat) (v : Value) (w w' : World) : Prop where
  os : w'.os = w.os
  tape : w'.tape = w.tape
  output : w'.output = w.output
  size : w.heap.size ≤ w'.heap.size
  block : ∀ k, k < w.heap.size → k ≠ g → some k ≠ v.ownBlock → w'.heap[k]? = w.heap[k]?
/-- A row that has moved lies in a new block. -/
def Moved (w : World) (v v' : Value) : Prop := ∀ k, v'.ownBlock = some k → v.ownBlock = some k ∨ w.heap.size ≤ k
section
variable {g B : Nat} {u v v' v'' : Value} {a b c w w' : World}
theorem Moved.refl (w : World) (v : Value) : Moved w v v := fun k h => .inl h
theorem Moved.of_eq (h : v'.ownBlock = v.ownBlock) : Moved w v v' := fun k hk => .inl (h ▸ hk)
theorem Moved.trans (h : Moved a v v') (k : Moved b v' v'') (hs : a.heap.size ≤ b.heap.size) : Moved a v v'' := fun i hi => by
  rcases k i hi with h1 | h1
  · exact h i h1
  · exact .inr (by omega)
theorem Turn.refl (g : Nat) (v : Value) (w : World) : Turn g v w w := ⟨rfl, rfl, rfl, Nat.le_refl _, fun _ _ _ _ => rfl⟩
theorem Turn.of_below (h : Below w.heap.size w w') : Turn g v w w' := ⟨h.os, h.tape, h.output, h.size, fun k hk _ _ => h.block k hk⟩
theorem Turn.of_grown (h : w.grownBy w' v.ownBlock) : Turn g v w w' := ⟨h.os, h.tape, h.output, h.size, fun k hk _ hv => h.block k hk hv⟩
theorem Turn.of_set (g : Nat) (v : Value) (w : World) (i : Nat) (u : Value) : Turn g v w (w.setCell ⟨g, i, none⟩ u) := ⟨rfl, rfl, rfl, by simp [World.setCell], fun k _ hg _ => Below.heap_setCell _ _ _ _ hg⟩
theorem Turn.trans (h : Turn g v a b) (k : Turn g v' b c) (hm : Moved a v v') : Turn g v a c :=
  ⟨k.os.trans h.os, k.tape.trans h.tape, k.output.trans h.output, Nat.le_trans h.size k.size, fun i hi hg hv =>
    (k.block i (Nat.lt_of_lt_of_le hi h.size) hg (fun e => by
      rcases hm i e.symm with h1 | h1
      · exact hv h1.symm
      · omega)).trans (h.block i hi hg hv)⟩
theorem Turn.below (h : Turn g v w w') (hB : B ≤ w.heap.size) (hg : B ≤ g) (hv : ∀ k, v.ownBlock = some k → B ≤ k) : Below B w w' :=
  ⟨h.os, h.tape, h.output, h.size, fun k hk => h.block k (by omega) (by omega) (fun e => by have := hv k e.symm; omega)⟩
theorem later_grown (row : Option Nat) : Later (fun w w' => World.grownBy w w' row) :=
  ⟨fun w => World.grownBy.refl w row, fun h k => ⟨k.os.trans h.os, k.tape.trans h.tape, k.output.trans h.output, Nat.le_trans h.size k.size, fun i hi hr => (k.block i (Nat.lt_of_lt_of_le hi h.size) hr).trans (h.block i hi hr)⟩, fun h => ⟨h.os, h.tape, h.output, h.size, fun k hk _ => h.block k hk⟩⟩
theorem grown_of_below {row : Option Nat} (h : Below w.heap.size w w') : w.grownBy w' row := ⟨h.os, h.tape, h.output, h.size, fun k hk _ => h.block k hk⟩
end
theorem own_own_ne {w : World} {B B' e e' s s' n m : Nat} {u v : Value} {xs ys : List Value} (h : w.ownsRow B e s u n xs) (h' : w.ownsRow B' e' s' v m ys) (hne : e ≠ e') : u.ownBlock = none ∨ u.ownBlock ≠ v.ownBlock := by
  rcases h.2 with ⟨rfl, _⟩ | ⟨g, cap, cur, rfl, _, hh, _⟩
  · exact .inl rfl
  · refine .inr fun he => ?_
    rcases h'.2 with ⟨rfl, _⟩ | ⟨g', cap', cur', rfl, _, hh', _⟩
    · simp [Value.ownBlock] at he
    · simp [Value.ownBlock] at he
      subst he
      rw [hh] at hh'
      injection hh' with hh'
      injection hh' with _ ht
      exact hne ht
theorem ownsRow_turn {w w' : World} {g B e s n : Nat} {u v : Value} {xs : List Value} (h : w.ownsRow B e s u n xs) (ht : Turn g v w w') (hg : u.ownBlock ≠ some g) (hv : u.ownBlock = none ∨ u.ownBlock ≠ v.ownBlock) : w'.ownsRow B e s u n xs := by
  refine ⟨h.1, ?_⟩
  rcases h.2 with hn | ⟨k, cap, cur, rfl, hb, hh, rest⟩
  · exact .inl hn
  · refine .inr ⟨k, cap, cur, rfl, hb, ?_, rest⟩
    rw [ht.block k (Array.getElem?_eq_some_iff.1 hh).1 (fun e => hg (by simp [Value.ownBlock, e])) (fun e => by
      rcases hv with hv | hv
      · simp [Value.ownBlock] at hv
      · exact hv (by rw [← e]; simp [Value.ownBlock]))]
    exact hh
theorem ownsRow_more {w : World} {B B' e s n : Nat} {u : Value} {xs : List Value} (h : w.ownsRow B e s u n xs) (hB : B' ≤ B) : w.ownsRow B' e s u n xs :=
  ⟨h.1, h.2.imp id fun ⟨k, cap, cur, h1, h2, r⟩ => ⟨k, cap, cur, h1, Nat.le_trans hB h2, r⟩⟩
theorem own_le {w : World} {B e s n c : Nat} {A : Option Addr} {xs : List Value} (h : w.ownsRow B e s (.slice A n c) n xs) : n ≤ c ∧ c ≤ maxLen := by
  rcases h.2 with ⟨hv, _⟩ | ⟨g, cap, cur, hv, _, _, h1, h2, _⟩
  · injection hv with _ h1 h2
    subst h1; subst h2
    exact ⟨by omega, by unfold maxLen; omega⟩
  · injection hv with _ _ h9
    subst h9
    exact ⟨h1, h2⟩
def Dg.sl (d : Dg) : Value := .slice d.A d.n d.c
/-- What a datagram says. -/
def Dg.k (d : Dg) : Int × ByteArray × ByteArray × List Nat := (d.id, d.fr, d.to, d.bs)
/-- A body of its own. -/
def BOwn (B : Nat) (w : World) (d : Dg) : Prop := w.ownsRow B 5 1 d.sl d.n (d.bs.map fun (x : Nat) => Value.int .u8 x) ∧ ∀ x ∈ d.bs, x < 256
theorem BOwn.ok {B : Nat} {w : World} {d : Dg} (h : BOwn B w d) : DgOk w d := ⟨Bys.of_own h.1 h.2, Nat.le_trans (own_le h.1).1 (own_le h.1).2⟩
theorem BOwn.below {B : Nat} {w w' : World} {d : Dg} (h : BOwn B w d) (hb : Below w.heap.size w w') : BOwn B w' d :=
  ⟨h.1.kept (grown_of_below (row := none) hb) (by cases d.sl.ownBlock <;> simp), h.2⟩
/-- A network: its block g, its row v of datagrams ds, and the last ID. -/
structure Net (B : Nat) (w : World) (g : Nat) (v : Value) (ds : List Dg) (last : Int) : Prop where
  hg : B ≤ g
  hB : B ≤ w.heap.size
  blk : Blk w g 64 #[v, .int .i64 last]
  row : w.ownsRow B 32 4 v ds.length (dgCells ds)
  own : ∀ d ∈ ds, BOwn B w d
section
variable {B g : Nat} {w w' : World} {v v' : Value} {ds ds' : List Dg} {last : Int}
theorem Net.below (h : Net B w g v ds last) (hb : Below w.heap.size w w') : Net B w' g v ds last :=
  ⟨h.hg, Nat.le_trans h.hB hb.size, h.blk.below hb h.blk.lt, h.row.kept (grown_of_below (row := none) hb) (by cases v.ownBlock <;> simp), fun d hd => (h.own d hd).below hb⟩
theorem Net.ge (h : Net B w g v ds last) : ∀ k, v.ownBlock = some k → B ≤ k := fun k hk => (h.row.lt k hk).1
theorem Net.base (h : Net B w g v ds last) (ht : Turn g v w w') : Below B w w' := ht.below h.hB h.hg h.ge
theorem Net.ne (h : Net B w g v ds last) : v.ownBlock ≠ some g := own_blk_ne h.row h.blk (by decide)
/-- What is told of others stays: rows of other types. -/
theorem Net.other {e s n B' : Nat} {u : Value} {xs : List Value} (h : Net B w g v ds last) (ht : Turn g v w w') (hu : w.ownsRow B' e s u n xs) (h1 : e ≠ 64) (h2 : e ≠ 32) : w'.ownsRow B' e s u n xs :=
  ownsRow_turn hu ht (own_blk_ne hu h.blk h1) (own_own_ne hu h.row h2)
theorem Net.otherB {B' : Nat} {d : Dg} (h : Net B w g v ds last) (ht : Turn g v w w') (hd : BOwn B' w d) : BOwn B' w' d := ⟨h.other ht hd.1 (by decide) (by decide), hd.2⟩
theorem Net.blkOther {b : Nat} {t : TypeId} {cs : Array Value} (h : Net B w g v ds last) (ht : Turn g v w w') (hb : Blk w b t cs) (h1 : t ≠ 64) (h2 : t ≠ 32) : Blk w' b t cs :=
  (ht.block b hb.lt (hb.ne_ h.blk h1) (fun e => own_blk_ne h.row hb (Ne.symm h2) e.symm)).trans hb
end
theorem dgCells_append (a b : List Dg) : dgCells (a ++ b) = dgCells a ++ dgCells b := by unfold dgCells; simp
theorem dgCells_get {ds : List Dg} {j i : Nat} {d : Dg} (h : ds[j]? = some d) (hi : i < 4) : (dgCells ds)[j * 4 + i]? = d.cells[i]? := flat_at Dg.cells_len ds j i d h hi
end Go.Proofs.Ythgbgkpchchicaa
