import Derived.Test.YtojfghfgaljkkaaDoorTold
import Derived.Deep.RegionHeld3
import Derived.Deep.MidRow
namespace Go.Proofs.YtojfghfgaljkkaaDoor
open Go.ChangeShapes Go.WideShapes Go.ChangeAt Go.RowKit
set_option linter.unusedVariables false
set_option linter.unusedSimpArgs false
/-- Cells of bytes. -/
def vc (l : List Nat) : Array Value := (l.map fun x => Value.int .u8 (x : Nat)).toArray
theorem vc_size (l : List Nat) : (vc l).size = l.length := by simp [vc]
theorem vc_get (l : List Nat) (i : Nat) (h : i < l.length) : (vc l)[i]? = some (.int .u8 ((l.getD i 0 : Nat) : Int)) := by simp [vc, List.getD, h]
theorem vc_set (l : List Nat) (i x : Nat) : (vc l).setIfInBounds i (.int .u8 (x : Nat)) = vc (l.set i x) := by simp [vc, List.map_set]
theorem vc_one (l : List Nat) : (vc l).all (·.oneCell') = true := by simp [vc, Value.oneCell']
theorem Blk.rangeAt {w : World} {g : Nat} {t : TypeId} {cs : Array Value} (h : Blk w g t cs) : w.rangeAt g 0 cs.toList := fun j v hv => by
  rw [Nat.zero_add, Blk.cell h]; simpa using hv
theorem Blk.there {w : World} {g n : Nat} {t : TypeId} {cs : Array Value} (h : Blk w g t cs) (hn : n = cs.size) : w.there g 0 n := fun j hj => by
  subst hn
  rw [Nat.zero_add, Blk.cell h, Array.getElem?_eq_getElem hj]; exact ⟨rfl, Blk.frozen h j⟩
theorem setCells_heap (g : Nat) : ∀ (vs : List Value) (o : Nat) (w : World) (k : Nat), k ≠ g → (w.setCells g o vs).heap[k]? = w.heap[k]?
  | [], _, _, _, _ => rfl
  | v :: r, o, w, k, h => by
    rw [World.setCells, setCells_heap g r (o + 1) _ k h]
    exact Below.heap_setCell w ⟨g, o, none⟩ v k h
theorem Blk.setCells_ {g : Nat} {t : TypeId} : ∀ (vs : List Value) (pre suf : List Value) (o : Nat) (w : World), pre.length = o → suf.length = vs.length → Blk w g t (pre ++ suf).toArray → Blk (w.setCells g o vs) g t (pre ++ vs).toArray
  | [], pre, suf, o, w, _, hs, h => by
    have : suf = [] := List.eq_nil_of_length_eq_zero hs
    subst this; exact h
  | v :: r, pre, s :: suf, o, w, hp, hs, h => by
    rw [World.setCells]
    have h1 := Blk.set_ h o v
    have e : ((pre ++ s :: suf).toArray.setIfInBounds o v) = ((pre ++ [v]) ++ suf).toArray := by
      subst hp; simp
    rw [e] at h1
    have := Blk.setCells_ r (pre ++ [v]) suf (o + 1) _ (by simp [hp]) (by simpa using hs) h1
    simpa using this
theorem Blk.setAll {w : World} {g : Nat} {t : TypeId} {cs cs' : Array Value} (h : Blk w g t cs) (hs : cs.size = cs'.size) : Blk (w.setCells g 0 cs'.toList) g t cs' := by
  have := Blk.setCells_ (g := g) (t := t) cs'.toList [] cs.toList 0 w rfl (by simpa using hs) (by simpa using h)
  simpa using this
theorem Blk.setFar {w : World} {g g' : Nat} {t : TypeId} {cs : Array Value} (h : Blk w g t cs) (hne : g ≠ g') (vs : List Value) (o : Nat) : Blk (w.setCells g' o vs) g t cs := (setCells_heap g' vs o w g hne).trans h
theorem below_setCells {B : Nat} {a : World} {g : Nat} : ∀ (vs : List Value) (o : Nat) (w : World), Below B a w → B ≤ g → Below B a (w.setCells g o vs)
  | [], _, _, h, _ => h
  | v :: r, o, w, h, hg => below_setCells r (o + 1) _ (h.setCell (p := ⟨g, o, none⟩) hg v) hg
/-- A whole array, loaded and stored. -/
theorem load_arr {w : World} {g : Nat} {l : List Nat} {t : TypeId} (h : Blk w g t (vc l)) (hl : l.length = 16) : (Instr.loadAt 22 (.pointer (some ⟨g, 0, none⟩))).run Tryd.prog w = .ok (.agg (vc l)) w := by
  have := run_loadAt_mid (P := Tryd.prog) w g 0 22 (vc l).toList (.array 16 5) (Blk.rangeAt h) Tryd.underlying22 rfl (by rw [show (vc l).toList.length = 16 by simp [vc, hl]]; kernel_rfl)
  simpa using this
theorem store_arr {w : World} {g : Nat} {l : List Nat} {t : TypeId} {cs : Array Value} (h : Blk w g t cs) (hs : cs.size = 16) (hl : l.length = 16) : (Instr.storeAt 22 (.pointer (some ⟨g, 0, none⟩)) (.agg (vc l))).run Tryd.prog w = .ok () (w.setCells g 0 (vc l).toList) :=
  run_storeAt_mid (P := Tryd.prog) w g 0 22 (vc l) (Blk.there h (by rw [vc_size]; omega)) (by rw [vc_size, hl]; kernel_rfl) (vc_one l)
def zeros : List Nat := List.replicate 16 0
theorem zeros_vc : #[Value.int IntKind.u8 0, Value.int IntKind.u8 0, Value.int IntKind.u8 0, Value.int IntKind.u8 0,
          Value.int IntKind.u8 0, Value.int IntKind.u8 0, Value.int IntKind.u8 0, Value.int IntKind.u8 0,
          Value.int IntKind.u8 0, Value.int IntKind.u8 0, Value.int IntKind.u8 0, Value.int IntKind.u8 0,
          Value.int IntKind.u8 0, Value.int IntKind.u8 0, Value.int IntKind.u8 0, Value.int IntKind.u8 0] = vc zeros := rfl
theorem info16 {l : List Nat} (h : l.length = 16) : (Tryd.prog.info? 22).map (·.size) = some (vc l).toList.length := by rw [show (vc l).toList.length = 16 by simp [vc, h]]; kernel_rfl
theorem info16' {l : List Nat} (h : l.length = 16) : (Tryd.prog.info? 22).map (·.size) = some (vc l).size := by rw [show (vc l).size = 16 by simp [vc, h]]; kernel_rfl
end Go.Proofs.YtojfghfgaljkkaaDoor
