import Derived.Test.YtbkgmeopdcealaaDoorOpr
import Derived.Deep.MidRow
namespace Go.Proofs.YtbkgmeopdcealaaDoor
open Go.ChangeShapes Go.WideShapes Go.ChangeAt Go.RowKit Go.Deep
set_option linter.unusedVariables false
set_option linter.unusedSimpArgs false
theorem Blk.range {w : World} {g : Nat} {t : TypeId} {l : List Value} (h : Blk w g t l.toArray) : w.rangeAt g 0 l := fun j v hv => by
  rw [Nat.zero_add, h.cell]; simpa using hv
theorem Blk.rangeAt {w : World} {g : Nat} {t : TypeId} {cs : Array Value} (h : Blk w g t cs) : w.rangeAt g 0 cs.toList := fun j v hv => by
  rw [Nat.zero_add, Blk.cell h]; simpa using hv
theorem Blk.there {w : World} {g n : Nat} {t : TypeId} {cs : Array Value} (h : Blk w g t cs) (hn : n = cs.size) : w.there g 0 n := fun j hj => by
  subst hn
  rw [Nat.zero_add, Blk.cell h, Array.getElem?_eq_getElem hj]; exact ⟨rfl, Blk.frozen h j⟩
theorem setCells_heap (g : Nat) : ∀ (vs : List Value) (o : Nat) (w : World) (k : Nat), k ≠ g → (w.setCells g o vs).heap[k]? = w.heap[k]?
  | [], _, _, _, _ => rfl
  | v :: r, o, w, k, h => by
    rw [World.setCells, setCells_heap g r (o + 1) _ k h]
    exact Below.heap_setCell w ⟨g, o, none⟩ v k h
theorem Blk.setCells_ {g : Nat} {t : TypeId} : ∀ (vs : List Value) (pre suf : List Value) (o : Nat) (w : World), pre.length = o → suf.length = vs.length → Blk w g t (pre ++ suf).toArray → Blk (w.setCells g o vs) g t (pre ++ vs).toArray
  | [], pre, suf, o, w, _, hs, h => by
    have : suf = [] := List.eq_nil_of_length_eq_zero hs
    subst this; exact h
  | v :: r, pre, s :: suf, o, w, hp, hs, h => by
    rw [World.setCells]
    have h1 := Blk.set_ h o v
    have e : ((pre ++ s :: suf).toArray.setIfInBounds o v) = ((pre ++ [v]) ++ suf).toArray := by
      subst hp; simp
    rw [e] at h1
    have := Blk.setCells_ r (pre ++ [v]) suf (o + 1) _ (by simp [hp]) (by simpa using hs) h1
    simpa using this
theorem Blk.setAll {w : World} {g : Nat} {t : TypeId} {cs cs' : Array Value} (h : Blk w g t cs) (hs : cs.size = cs'.size) : Blk (w.setCells g 0 cs'.toList) g t cs' := by
  have := Blk.setCells_ (g := g) (t := t) cs'.toList [] cs.toList 0 w rfl (by simpa using hs) (by simpa using h)
  simpa using this
theorem Blk.setFar {w : World} {g g' : Nat} {t : TypeId} {cs : Array Value} (h : Blk w g t cs) (hne : g ≠ g') (vs : List Value) (o : Nat) : Blk (w.setCells g' o vs) g t cs := (setCells_heap g' vs o w g hne).trans h
theorem below_setCells {B : Nat} {a : World} {g : Nat} : ∀ (vs : List Value) (o : Nat) (w : World), Below B a w → B ≤ g → Below B a (w.setCells g o vs)
  | [], _, _, h, _ => h
  | v :: r, o, w, h, hg => below_setCells r (o + 1) _ (h.setCell (p := ⟨g, o, none⟩) hg v) hg
section
variable {P : Program} {fn : Func} {R : Ending → World → Prop} {a : Act} {w : World}
/-- Results in cells. -/
theorem ret_ct {t u b : Nat} {ty : TypeId} {cs : List Value} {d : TypeDesc} (h : fn.results = #[.cell t ty, .tmp u]) (hd : a.defers = []) (ht : a.tmps.getD t undef = .pointer (some ⟨b, 0, none⟩)) (hc : w.rangeAt b 0 cs)
    (hu : P.underlying ty = some d) (hr : d.isRow = true) (hi : (P.info? ty).map (·.size) = some cs.length) (hR : R (.returned (.tuple #[.agg cs.toArray, a.tmps.getD u undef])) w) : bodyPost P fn R .ret a w := by
  refine bodyPost_ret ?_ hd hR
  have := run_loadVar_mid w b 0 ty cs d hc hu hr hi
  have ht2 : a.tmps[t]?.getD undef = .pointer (some ⟨b, 0, none⟩) := by simpa using ht
  simp [results, h, ht2, asAddr, this]
end
end Go.Proofs.YtbkgmeopdcealaaDoor
