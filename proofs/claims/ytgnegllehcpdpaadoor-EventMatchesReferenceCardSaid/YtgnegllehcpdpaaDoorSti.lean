import Derived.Test.YtgnegllehcpdpaaDoorStr
import Derived.WideKeyEntry
import Derived.DeepKeys4
namespace Go.Proofs.YtgnegllehcpdpaaDoor
open Go.ChangeShapes Go.WideShapes Go.ChangeAt Go.RowKit Go.Maps
set_option linter.unusedVariables false
set_option linter.unusedSimpArgs false
theorem laidOut : laidOutB Tryd.prog = true := by kernel_rfl
theorem row60 : (60 : TypeId) < Tryd.prog.types.size := of_decide_eq_true (by kernel_rfl)
theorem wide60 : (match Tryd.prog.underlying 60 with | some (.array _ _) | some (.struct _) => true | _ => false) = true := by kernel_rfl
theorem klaw60 : WideMaps.KeyLaw Tryd.prog 60 := deep_law_laid laidOut (m := 2) (by omega) row60 (by kernel_rfl) wide60
theorem law60 : Keyed Tryd.prog 60 := Keyed.of_law klaw60
theorem zero22 (w : World) : (zeroValue 22).run Tryd.prog w = .ok (.int .u64 0) w := by kernel_rfl
theorem cells60 : Tryd.prog.cellsOf 60 = 2 := by kernel_rfl
theorem cells3 : Tryd.prog.cellsOf 3 = 1 := by kernel_rfl
theorem ktype60 : Tryd.prog.keyType 60 = true := by kernel_rfl
theorem tsize : ∃ n, Tryd.prog.types.size = n + 1 := ⟨Tryd.prog.types.size - 1, by kernel_rfl⟩
theorem key60 {k h : Int} (hk : (Lit.int .i64 k).wf = true) (hh : (Lit.int .i64 h).wf = true) : ∃ kl, keyOf Tryd.prog 60 (.agg #[.int .i64 k, .int .i64 h]) = some kl := by
  obtain ⟨n, hn⟩ := tsize
  unfold keyOf
  simp only [Tryd.underlying60, ktype60, hn]
  simp [Value.formed, Tryd.underlying60, Value.cells, Program.keyLits, Tryd.underlying3, cells60, cells3, hk, hh]
theorem key60_inj {k h k' h' : Int} {l : Lit} (a : keyOf Tryd.prog 60 (.agg #[.int .i64 k, .int .i64 h]) = some l) (b : keyOf Tryd.prog 60 (.agg #[.int .i64 k', .int .i64 h']) = some l) : k = k' ∧ h = h' := by
  have := klaw60.inj a b
  simpa using this
/-- The last number of a kind and a session. -/
def lastS (es : List Ev) (k h : Int) : Option Int := es.foldl (fun o e => if e.kind = k ∧ e.who = h then some e.seq else o) none
theorem lastS_snoc (es : List Ev) (e : Ev) (k h : Int) : lastS (es ++ [e]) k h = if e.kind = k ∧ e.who = h then some e.seq else lastS es k h := by
  unfold lastS
  rw [List.foldl_append]
  rfl
def MapI (es : List Ev) (D : DataW Unit) : Prop := ∀ (k h : Int) (kl : Lit), (k = 1 ∨ k = 2) → keyOf Tryd.prog 60 (.agg #[.int .i64 k, .int .i64 h]) = some kl →
  Maps.has D kl = (lastS es k h).isSome ∧ ∀ q, lastS es k h = some q → D.atKey kl (.lit (.int .u64 0)) = .lit (.int .u64 q)
theorem MapI.none_ : MapI [] (.map []) := fun k h kl _ _ => ⟨rfl, fun q hq => by simp [lastS] at hq⟩
theorem MapI.skip {es : List Ev} {D : DataW Unit} (h : MapI es D) (e : Ev) (he : ¬ (e.kind = 1 ∨ e.kind = 2)) : MapI (es ++ [e]) D := fun k hh kl hk hkey => by
  rw [lastS_snoc, if_neg (by rintro ⟨rfl, _⟩; exact he hk)]
  exact h k hh kl hk hkey
theorem MapI.next {es : List Ev} {D : DataW Unit} (h : MapI es D) (hD : IsMap D) (e : Ev) {kl : Lit} (hkey : keyOf Tryd.prog 60 (.agg #[.int .i64 e.kind, .int .i64 e.who]) = some kl) : MapI (es ++ [e]) (D.put kl (.lit (.int .u64 e.seq))) := fun k hh kl' hk hkey' => by
  rw [lastS_snoc]
  by_cases hc : e.kind = k ∧ e.who = hh
  · obtain ⟨rfl, rfl⟩ := hc
    rw [hkey] at hkey'
    injection hkey' with hkey'
    subst hkey'
    rw [if_pos ⟨rfl, rfl⟩]
    refine ⟨has_put_same hD (law60.key hkey) _, fun q hq => ?_⟩
    injection hq with hq
    subst hq
    exact atKey_put_same hD (law60.key hkey) _ _
  · rw [if_neg hc]
    have hne : kl' ≠ kl := fun e1 => by
      subst e1
      exact hc (key60_inj hkey hkey')
    rw [has_put_other hne, atKey_put_other hne]
    exact h k hh kl' hk hkey'
def SI (es : List Ev) (j : Nat) : Prop := ∀ (i k : Nat) (e f : Ev), i < j → es[i]? = some e → es[k]? = some f → k < i → okPair e f
theorem SI.next {es : List Ev} {j : Nat} {e : Ev} (h : SI es j) (hs : es[j]? = some e) (hp : ∀ (k : Nat) (f : Ev), k < j → es[k]? = some f → okPair e f) : SI es (j + 1) := fun i k e' f hi he hf hki => by
  rcases Nat.lt_or_ge i j with h1 | h1
  · exact h i k e' f h1 he hf hki
  · obtain rfl : i = j := by omega
    rw [hs] at he
    injection he with he
    subst he
    exact hp k f hki hf
/-- What the last number tells of all. -/
def LI (es : List Ev) (j : Nat) (k h : Int) : Option Int → Prop
  | none => ∀ (i : Nat) (f : Ev), i < j → es[i]? = some f → ¬ (f.kind = k ∧ f.who = h)
  | some q => (∀ (i : Nat) (f : Ev), i < j → es[i]? = some f → f.kind = k → f.who = h → f.seq ≤ q) ∧ ∃ (i : Nat) (f : Ev), i < j ∧ es[i]? = some f ∧ f.kind = k ∧ f.who = h ∧ f.seq = q
theorem SI.mono {es : List Ev} {j j' : Nat} (h : SI es j) (hj : j' ≤ j) : SI es j' := fun i k e f hi he hf hki => h i k e f (by omega) he hf hki
theorem LI_of {es : List Ev} {k h : Int} (hk : k = 1 ∨ k = 2) : ∀ j, j ≤ es.length → SI es j → LI es j k h (lastS (es.take j) k h)
  | 0, _, _ => by
    rw [List.take_zero]
    intro i f hi
    omega
  | j + 1, hj, hS => by
    obtain ⟨e, he⟩ : ∃ e, es[j]? = some e := ⟨_, List.getElem?_eq_getElem (by omega)⟩
    have ih := LI_of (h := h) hk j (by omega) (hS.mono (by omega))
    rw [take_snoc he, lastS_snoc]
    by_cases hc : e.kind = k ∧ e.who = h
    · rw [if_pos hc]
      refine ⟨fun i f hi hf h1 h2 => ?_, j, e, by omega, he, hc.1, hc.2, rfl⟩
      rcases Nat.lt_or_ge i j with hij | hij
      · have := hS j i e f (by omega) he hf hij (by omega) (by omega) (by omega)
        omega
      · obtain rfl : i = j := by omega
        rw [he] at hf
        injection hf with hf
        subst hf
        omega
    · rw [if_neg hc]
      cases hl : lastS (es.take j) k h with
      | none =>
        rw [hl] at ih
        intro i f hi hf
        rcases Nat.lt_or_ge i j with hij | hij
        · exact ih i f hij hf
        · obtain rfl : i = j := by omega
          rw [he] at hf
          injection hf with hf
          subst hf
          exact hc
      | some q =>
        rw [hl] at ih
        obtain ⟨i1, i0, f0, a0, a1, a2, a3, a4⟩ := ih
        refine ⟨fun i f hi hf h1 h2 => ?_, i0, f0, by omega, a1, a2, a3, a4⟩
        rcases Nat.lt_or_ge i j with hij | hij
        · exact i1 i f hij hf h1 h2
        · obtain rfl : i = j := by omega
          rw [he] at hf
          injection hf with hf
          subst hf
          exact absurd ⟨h1, h2⟩ hc
end Go.Proofs.YtgnegllehcpdpaaDoor
