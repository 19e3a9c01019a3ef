import Derived.Test.YthgbgkpchchicaaLwa
namespace Go.Proofs.Ythgbgkpchchicaa
open Go.ChangeShapes Go.WideShapes Go.ChangeAt Go.RowKit Go.Maps Go.Sort
set_option linter.unusedVariables false
set_option linter.unusedSimpArgs false
/-- Bytes that may be written, whatever they are. -/
def U8s (w : World) (A : Option Addr) (n : Nat) : Prop := 0 < n → ∃ k cs, A = some ⟨k, 0, none⟩ ∧ Blk w k 5 cs ∧ n ≤ cs.size ∧ ∀ i, i < n → ∃ x : Int, cs[i]? = some (.int .u8 x)
theorem U8s.of_own {w : World} {B n c : Nat} {A : Option Addr} {bs : List Nat} (h : w.ownsRow B 5 1 (.slice A n c) n (bv bs)) : U8s w A n := fun hn => by
  rcases h.2 with ⟨_, h0⟩ | ⟨g, cap, cur, hv, _, hh, hnc, _, hcs, htake⟩
  · omega
  · injection hv with e1 _ _
    refine ⟨g, cur, e1, hh, by omega, fun i hi => ?_⟩
    have hl : (bv bs).length = n := by have := h.1; omega
    have h1 : (bv bs)[i]? = cur[i]? := by rw [← htake, List.getElem?_take, if_pos (by omega)]; simp
    unfold bv at h1 hl
    rw [List.length_map] at hl
    rw [List.getElem?_map, List.getElem?_eq_getElem (by omega)] at h1
    exact ⟨_, h1.symm⟩
theorem U8s.of_bown {w : World} {B : Nat} {d : Dg} (h : BOwn B w d) : U8s w d.A d.n := U8s.of_own h.1
theorem U8s.at_ {w : World} {A : Option Addr} {n i : Nat} (h : U8s w A n) (hi : i < n) : ∃ k x, A = some ⟨k, 0, none⟩ ∧ k < w.heap.size ∧ w.cell? ⟨k, i, none⟩ = some (.int .u8 x) ∧ w.frozen? ⟨k, i, none⟩ = false ∧ ∃ cs, Blk w k 5 cs := by
  obtain ⟨k, cs, e, hb, _, hx⟩ := h (by omega)
  obtain ⟨x, hx⟩ := hx i hi
  exact ⟨k, x, e, hb.lt, (hb.cell i).trans hx, hb.frozen i, cs, hb⟩
theorem U8s.set_ {w : World} {A : Option Addr} {n : Nat} (h : U8s w A n) (k i : Nat) (z : Int) : U8s (w.setCell ⟨k, i, none⟩ (.int .u8 z)) A n := fun hn => by
  obtain ⟨k', cs, e, hb, hs, hx⟩ := h hn
  by_cases hk : k' = k
  · subst hk
    refine ⟨k', _, e, hb.set_ i _, by simpa using hs, fun j hj => ?_⟩
    rw [Array.getElem?_setIfInBounds]
    split
    · split
      · exact ⟨z, rfl⟩
      · omega
    · exact hx j hj
  · exact ⟨k', cs, e, hb.far (p := ⟨k, i, none⟩) hk _, hs, hx⟩
theorem U8s.kept {w w' : World} {A : Option Addr} {n : Nat} {row : Option Nat} (h : U8s w A n) (hg : w.grownBy w' row) (hr : ∀ k, A = some ⟨k, 0, none⟩ → some k ≠ row) : U8s w' A n := fun hn => by
  obtain ⟨k', cs, e, hb, hs, hx⟩ := h hn
  exact ⟨k', cs, e, hb.grown hg (hr k' e), hs, hx⟩
theorem U8s.below {w w' : World} {A : Option Addr} {n : Nat} (h : U8s w A n) (hb : Below w.heap.size w w') : U8s w' A n := h.kept (grown_of_below (row := none) hb) (by simp)
/-- A store elsewhere leaves the network as it was. -/
theorem Net.far {B g p : Nat} {w w' : World} {v : Value} {ds : List Dg} {last : Int} (h : Net B w g v ds last) (hg : w.grownBy w' (some p)) (h1 : p ≠ g) (h2 : v.ownBlock ≠ some p) (h3 : ∀ d ∈ ds, d.sl.ownBlock ≠ some p) : Net B w' g v ds last :=
  ⟨h.hg, Nat.le_trans h.hB hg.size, h.blk.grown hg (fun e => by injection e with e; exact h1 e.symm), h.row.kept hg (.inr h2), fun d hd => ⟨(h.own d hd).1.kept hg (.inr (h3 d hd)), (h.own d hd).2⟩⟩
/-- Every block of the network lies below s. -/
structure Low (s g : Nat) (v : Value) (ds : List Dg) : Prop where
  g : g < s
  v : ∀ k, v.ownBlock = some k → k < s
  d : ∀ d ∈ ds, ∀ k, d.sl.ownBlock = some k → k < s
theorem Net.low {B g : Nat} {w : World} {v : Value} {ds : List Dg} {last : Int} (h : Net B w g v ds last) : Low w.heap.size g v ds :=
  ⟨h.blk.lt, fun k hk => (h.row.lt k hk).2, fun d hd k hk => ((h.own d hd).1.lt k hk).2⟩
theorem own_low {w w' : World} {B s e z n : Nat} {u : Value} {xs : List Value} (h : w.ownsRow B e z u n xs) (hs : ∀ k, u.ownBlock = some k → k < s) (hb : Below s w w') : w'.ownsRow B e z u n xs :=
  ⟨h.1, h.2.imp id fun ⟨k, cap, cur, h1, h2, h3, r⟩ => ⟨k, cap, cur, h1, h2, (hb.block k (hs k (by rw [h1]; rfl))).trans h3, r⟩⟩
theorem Net.lows {B g s : Nat} {w w' : World} {v : Value} {ds : List Dg} {last : Int} (h : Net B w g v ds last) (hl : Low s g v ds) (hb : Below s w w') : Net B w' g v ds last :=
  ⟨h.hg, Nat.le_trans h.hB hb.size, h.blk.below hb hl.g, own_low h.row hl.v hb, fun d hd => ⟨own_low (h.own d hd).1 (hl.d d hd) hb, (h.own d hd).2⟩⟩
theorem Net.boxOther {B g b : Nat} {w w' : World} {v : Value} {ds : List Dg} {last : Int} {t : TypeId} {cs : Array Value} (h : Net B w g v ds last) (ht : Turn g v w w') (hb : Blk w b t cs) (h1 : t ≠ 64) (h2 : v.ownBlock ≠ some b) : Blk w' b t cs :=
  (ht.block b hb.lt (hb.ne_ h.blk h1) (fun e => h2 e.symm)).trans hb
theorem ok_not {A : Option Addr} {n c k : Nat} (h : (Value.slice A n c).ownBlock = some k) : ∃ a, A = some a ∧ a.block = k := by
  cases A with
  | none => simp [Value.ownBlock] at h
  | some a => exact ⟨a, rfl, by simpa [Value.ownBlock] using h⟩
end Go.Proofs.Ythgbgkpchchicaa
