import Derived.Test.YtgnegllehcpdpaaDoorHon
namespace Go.Proofs.YtgnegllehcpdpaaDoor
open Go.ChangeShapes Go.WideShapes Go.ChangeAt Go.RowKit Go.Maps
set_option linter.unusedVariables false
set_option linter.unusedSimpArgs false
theorem plainElem_bool_inv {H : Type} {P : Program} {e : TypeId} (he : P.underlying e = some .bool) {v : Value} {z : DataW H × List MemPlace} (h : plainElem P e v = some z) : ∃ a, v = .bool a ∧ z = (.lit (.bool a), []) := by
  unfold plainElem at h
  rw [he] at h
  cases v <;> simp at h
  exact ⟨_, rfl, h.symm⟩
/-- A lookup of a truth value. -/
theorem wpList_lookup_own_bool {H : Type} {P : Program} (w : World) {ops : Array Oper} {rest : List Oper} {o : Oper} {a : Act} {Q : Exit → Act → World → Prop}
    (hg : o.guard = none) (m x : Operand) (t : TypeId) (hop : o.op = Op.lookup t m x false)
    (k e : TypeId) (K : Keyed P k) (ht : P.underlying t = some (.map k e)) (he : P.underlying e = some .bool) (hz : (zeroValue e).run P w = .ok (.bool false) w) (b n : Nat) (D : DataW H)
    (hm : a.eval m = .map (some b)) (hown : w.ownsMap P k (plainElem P e) b n D) (key : Value) (kl : Lit) (hx : a.eval x = key) (hkey : keyOf P k key = some kl)
    (hK : ∀ c : Bool, D.atKey kl (.lit (.bool false)) = .lit (.bool c) → wpList P ops Q rest (a.put o.dst (.bool c)) w) :
    wpList P ops Q (o :: rest) a w := by
  refine wpList_plain hg fun K' hK' => ?_
  obtain ⟨v, ps, hrun, hv⟩ := hown.lookup K ht hz (plainElem_bool he false) hkey
  obtain ⟨c, rfl, hc⟩ := plainElem_bool_inv he hv
  simp only [Prod.mk.injEq] at hc
  unfold Oper.wp
  simp [execOp, hop, hm, hx, hrun, Result.andThen]
  exact hK' _ _ (hK c hc.1)
theorem row57 : (57 : TypeId) < Tryd.prog.types.size := of_decide_eq_true (by kernel_rfl)
theorem wide57 : (match Tryd.prog.underlying 57 with | some (.array _ _) | some (.struct _) => true | _ => false) = true := by kernel_rfl
theorem klaw57 : WideMaps.KeyLaw Tryd.prog 57 := deep_law_laid laidOut (m := 2) (by omega) row57 (by kernel_rfl) wide57
theorem law57 : Keyed Tryd.prog 57 := Keyed.of_law klaw57
theorem zero4 (w : World) : (zeroValue 4).run Tryd.prog w = .ok (.bool false) w := by kernel_rfl
theorem cells57 : Tryd.prog.cellsOf 57 = 3 := by kernel_rfl
theorem cells22 : Tryd.prog.cellsOf 22 = 1 := by kernel_rfl
theorem cells9 : Tryd.prog.cellsOf 9 = 1 := by kernel_rfl
theorem ktype57 : Tryd.prog.keyType 57 = true := by kernel_rfl
theorem key57 {h q : Int} {s : ByteArray} (hh : (Lit.int .i64 h).wf = true) (hq : (Lit.int .u64 q).wf = true) (hs : s.size ≤ maxLen) : ∃ kl, keyOf Tryd.prog 57 (.agg #[.int .i64 h, .int .u64 q, .string s]) = some kl := by
  obtain ⟨n, hn⟩ := tsize
  unfold keyOf
  simp only [Tryd.underlying57, ktype57, hn]
  simp [Value.formed, Tryd.underlying57, Value.cells, Program.keyLits, Tryd.underlying3, Tryd.underlying22, Tryd.underlying9, cells57, cells3, cells22, cells9, hh, hq, hs]
theorem key57_inj {h q h' q' : Int} {s s' : ByteArray} {l : Lit} (a : keyOf Tryd.prog 57 (.agg #[.int .i64 h, .int .u64 q, .string s]) = some l) (b : keyOf Tryd.prog 57 (.agg #[.int .i64 h', .int .u64 q', .string s']) = some l) : h = h' ∧ q = q' ∧ s = s' := by
  have := klaw57.inj a b
  simpa using this
def sentQ (es : List Ev) (h q : Int) (s : ByteArray) : Bool := es.any fun f => decide (f.kind = 1 ∧ f.who = h ∧ f.seq = q ∧ str f.bs = s)
theorem sentQ_snoc (es : List Ev) (e : Ev) (h q : Int) (s : ByteArray) : sentQ (es ++ [e]) h q s = (sentQ es h q s || decide (e.kind = 1 ∧ e.who = h ∧ e.seq = q ∧ str e.bs = s)) := by
  simp [sentQ, List.any_append]
def MapH (es : List Ev) (D : DataW Unit) : Prop := ∀ (h q : Int) (s : ByteArray) (kl : Lit), keyOf Tryd.prog 57 (.agg #[.int .i64 h, .int .u64 q, .string s]) = some kl → D.atKey kl (.lit (.bool false)) = .lit (.bool (sentQ es h q s))
theorem MapH.none_ : MapH [] (.map []) := fun _ _ _ _ _ => rfl
theorem MapH.skip {es : List Ev} {D : DataW Unit} (h : MapH es D) (e : Ev) (he : e.kind ≠ 1) : MapH (es ++ [e]) D := fun hh q s kl hkey => by
  rw [sentQ_snoc, show decide (e.kind = 1 ∧ e.who = hh ∧ e.seq = q ∧ str e.bs = s) = false by simp; intro h; exact absurd h he, Bool.or_false]
  exact h hh q s kl hkey
theorem MapH.next {es : List Ev} {D : DataW Unit} (h : MapH es D) (hD : IsMap D) (e : Ev) (he : e.kind = 1) {kl : Lit} (hkey : keyOf Tryd.prog 57 (.agg #[.int .i64 e.who, .int .u64 e.seq, .string (str e.bs)]) = some kl) : MapH (es ++ [e]) (D.put kl (.lit (.bool true))) := fun hh q s kl' hkey' => by
  rw [sentQ_snoc]
  by_cases hc : e.who = hh ∧ e.seq = q ∧ str e.bs = s
  · obtain ⟨rfl, rfl, rfl⟩ := hc
    rw [hkey] at hkey'
    injection hkey' with hkey'
    subst hkey'
    rw [atKey_put_same hD (law57.key hkey)]
    simp [he]
  · have hne : kl' ≠ kl := fun e1 => by
      subst e1
      exact hc (key57_inj hkey hkey')
    rw [atKey_put_other hne, h hh q s kl' hkey', show decide (e.kind = 1 ∧ e.who = hh ∧ e.seq = q ∧ str e.bs = s) = false by simp; intro _ h1 h2 h3; exact hc ⟨h1, h2, h3⟩, Bool.or_false]
theorem sentQ_iff {w : World} {A : Option Addr} {n : Nat} {es : List Ev} (h : Evs w A n es) {j : Nat} {e : Ev} (he : es[j]? = some e) : sentQ (es.take j) (1 - e.who) e.seq (str e.bs) = true ↔ sentP es j e := by
  have hb : ∀ f ∈ es, ∀ x ∈ f.bs, x < 256 := fun f hf => (h.2.2 f hf).bys.2
  unfold sentQ sentP mates
  rw [List.any_eq_true]
  constructor
  · rintro ⟨f, hf, hp⟩
    simp only [decide_eq_true_eq] at hp
    obtain ⟨i, hi, rfl⟩ := List.getElem_of_mem hf
    have hil : i < j := by have := hi; simp at this; omega
    have hie : es[i]? = some (es.take j)[i] := by
      rw [List.getElem_take]
      exact List.getElem?_eq_getElem (by have := hi; simp at this; omega)
    refine ⟨i, _, hil, hie, hp.1, by omega, hp.2.2.1, ?_⟩
    exact str_inj (hb _ (List.mem_of_getElem? hie)) (hb e (List.mem_of_getElem? he)) hp.2.2.2
  · rintro ⟨i, f, hi, hf, h1, h2, h3, h4⟩
    have hil := (List.getElem?_eq_some_iff.1 hf).1
    refine ⟨f, ?_, by simp only [decide_eq_true_eq]; exact ⟨h1, by omega, h3, by rw [h4]⟩⟩
    rw [List.mem_iff_getElem?]
    exact ⟨i, by rw [List.getElem?_take_of_lt hi]; exact hf⟩
end Go.Proofs.YtgnegllehcpdpaaDoor
