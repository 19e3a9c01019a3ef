import Derived.Test.YthgbgkpchchicaaCln
import Derived.Deep.MidRow
namespace Go.Proofs.Ythgbgkpchchicaa
open Go.ChangeShapes Go.WideShapes Go.ChangeAt Go.RowKit Go.Deep
set_option linter.unusedVariables false
set_option linter.unusedSimpArgs false
theorem Blk.range {w : World} {g : Nat} {t : TypeId} {l : List Value} (h : Blk w g t l.toArray) : w.rangeAt g 0 l := fun j v hv => by
  rw [Nat.zero_add, h.cell]; simpa using hv
section
variable {P : Program} {fn : Func} {R : Ending → World → Prop} {a : Act} {w : World}
/-- Results in cells. -/
theorem ret_ct {t u b : Nat} {ty : TypeId} {cs : List Value} {d : TypeDesc} (h : fn.results = #[.cell t ty, .tmp u]) (hd : a.defers = []) (ht : a.tmps.getD t undef = .pointer (some ⟨b, 0, none⟩)) (hc : w.rangeAt b 0 cs)
    (hu : P.underlying ty = some d) (hr : d.isRow = true) (hi : (P.info? ty).map (·.size) = some cs.length) (hR : R (.returned (.tuple #[.agg cs.toArray, a.tmps.getD u undef])) w) : bodyPost P fn R .ret a w := by
  refine bodyPost_ret ?_ hd hR
  have := run_loadVar_mid w b 0 ty cs d hc hu hr hi
  have ht2 : a.tmps[t]?.getD undef = .pointer (some ⟨b, 0, none⟩) := by simpa using ht
  simp [results, h, ht2, asAddr, this]
theorem ret_tct {s t u b : Nat} {ty : TypeId} {cs : List Value} {d : TypeDesc} (h : fn.results = #[.tmp s, .cell t ty, .tmp u]) (hd : a.defers = []) (ht : a.tmps.getD t undef = .pointer (some ⟨b, 0, none⟩)) (hc : w.rangeAt b 0 cs)
    (hu : P.underlying ty = some d) (hr : d.isRow = true) (hi : (P.info? ty).map (·.size) = some cs.length) (hR : R (.returned (.tuple #[a.tmps.getD s undef, .agg cs.toArray, a.tmps.getD u undef])) w) : bodyPost P fn R .ret a w := by
  refine bodyPost_ret ?_ hd hR
  have := run_loadVar_mid w b 0 ty cs d hc hu hr hi
  have ht2 : a.tmps[t]?.getD undef = .pointer (some ⟨b, 0, none⟩) := by simpa using ht
  simp [results, h, ht2, asAddr, this]
theorem ret_ctt {t u s b : Nat} {ty : TypeId} {cs : List Value} {d : TypeDesc} (h : fn.results = #[.cell t ty, .tmp u, .tmp s]) (hd : a.defers = []) (ht : a.tmps.getD t undef = .pointer (some ⟨b, 0, none⟩)) (hc : w.rangeAt b 0 cs)
    (hu : P.underlying ty = some d) (hr : d.isRow = true) (hi : (P.info? ty).map (·.size) = some cs.length) (hR : R (.returned (.tuple #[.agg cs.toArray, a.tmps.getD u undef, a.tmps.getD s undef])) w) : bodyPost P fn R .ret a w := by
  refine bodyPost_ret ?_ hd hR
  have := run_loadVar_mid w b 0 ty cs d hc hu hr hi
  have ht2 : a.tmps[t]?.getD undef = .pointer (some ⟨b, 0, none⟩) := by simpa using ht
  simp [results, h, ht2, asAddr, this]
theorem ret_ctct {t u t' u' b b' : Nat} {ty ty' : TypeId} {cs cs' : List Value} {d d' : TypeDesc} (h : fn.results = #[.cell t ty, .tmp u, .cell t' ty', .tmp u']) (hd : a.defers = []) (ht : a.tmps.getD t undef = .pointer (some ⟨b, 0, none⟩)) (hc : w.rangeAt b 0 cs)
    (hu : P.underlying ty = some d) (hr : d.isRow = true) (hi : (P.info? ty).map (·.size) = some cs.length)
    (ht' : a.tmps.getD t' undef = .pointer (some ⟨b', 0, none⟩)) (hc' : w.rangeAt b' 0 cs') (hu' : P.underlying ty' = some d') (hr' : d'.isRow = true) (hi' : (P.info? ty').map (·.size) = some cs'.length)
    (hR : R (.returned (.tuple #[.agg cs.toArray, a.tmps.getD u undef, .agg cs'.toArray, a.tmps.getD u' undef])) w) : bodyPost P fn R .ret a w := by
  refine bodyPost_ret ?_ hd hR
  have := run_loadVar_mid w b 0 ty cs d hc hu hr hi
  have h2 := run_loadVar_mid w b' 0 ty' cs' d' hc' hu' hr' hi'
  have ht2 : a.tmps[t]?.getD undef = .pointer (some ⟨b, 0, none⟩) := by simpa using ht
  have ht3 : a.tmps[t']?.getD undef = .pointer (some ⟨b', 0, none⟩) := by simpa using ht'
  simp [results, h, ht2, ht3, asAddr, this, h2]
end
/-- Four cells of a datagram, stored over another. -/
def setFour (w : World) (b : Nat) (v0 v1 v2 v3 : Value) : World := (((w.setCell ⟨b, 0, none⟩ v0).setCell ⟨b, 1, none⟩ v1).setCell ⟨b, 2, none⟩ v2).setCell ⟨b, 3, none⟩ v3
theorem Blk.four {w : World} {b : Nat} {t : TypeId} {u0 u1 u2 u3 : Value} (h : Blk w b t #[u0, u1, u2, u3]) (v0 v1 v2 v3 : Value) : Blk ((((w.setCell ⟨b, 0, none⟩ v0).setCell ⟨b, 1, none⟩ v1).setCell ⟨b, 2, none⟩ v2).setCell ⟨b, 3, none⟩ v3) b t #[v0, v1, v2, v3] :=
  (((h.set_ 0 v0).set_ 1 v1).set_ 2 v2).set_ 3 v3
theorem Below.four {B b : Nat} {a w : World} (h : Below B a w) (hb : B ≤ b) (v0 v1 v2 v3 : Value) : Below B a ((((w.setCell ⟨b, 0, none⟩ v0).setCell ⟨b, 1, none⟩ v1).setCell ⟨b, 2, none⟩ v2).setCell ⟨b, 3, none⟩ v3) :=
  (((h.setCell hb v0).setCell hb v1).setCell hb v2).setCell hb v3
/-- The facts that a walk wants of a block of four cells. -/
theorem Blk.four_facts {w : World} {b : Nat} {t : TypeId} {u0 u1 u2 u3 : Value} (h : Blk w b t #[u0, u1, u2, u3]) :
    w.cell? ⟨b, 0, none⟩ = some u0 ∧ w.cell? ⟨b, 1, none⟩ = some u1 ∧ w.cell? ⟨b, 2, none⟩ = some u2 ∧ w.cell? ⟨b, 3, none⟩ = some u3 ∧ w.frozen? ⟨b, 0, none⟩ = false ∧ w.frozen? ⟨b, 1, none⟩ = false ∧ w.frozen? ⟨b, 2, none⟩ = false ∧ w.frozen? ⟨b, 3, none⟩ = false :=
  ⟨(h.cell 0).trans rfl, (h.cell 1).trans rfl, (h.cell 2).trans rfl, (h.cell 3).trans rfl, h.frozen 0, h.frozen 1, h.frozen 2, h.frozen 3⟩
end Go.Proofs.Ythgbgkpchchicaa
