import Derived.RegionTactic
import Derived.Deep.Quiet
import Derived.Lib.QuietBelow
namespace Go.Proofs.YtbkgmeopdcealaaDoor
open Go.RowKit Go.Sort
set_option linter.unusedVariables false
set_option linter.unusedSimpArgs false
/-
  A region that draws its order and makes memory: walked in one order, though the places differ from order to order. What is shown stays true in every later world.
-/
/-- A preorder of worlds that holds every world in which nothing old has turned. -/
structure Later (R : World → World → Prop) : Prop where
  refl : ∀ w, R w w
  trans : ∀ {a b c}, R a b → R b c → R a c
  of : ∀ {a b}, Below a.heap.size a b → R a b
section
variable {R : World → World → Prop} {X : List Nat} {P : Program} {ops : Array Oper} {md : Region.Mode} {Q : Exit → Act → World → Prop}
/-- The operations of X may turn more than R allows: nothing that is taken first may be pending when they come up. -/
def WK (R : World → World → Prop) (X : List Nat) (P : Program) (md : Region.Mode) (ops : Array Oper) (Q : Exit → Act → World → Prop) : Nat → Array Bool → Act → World → Prop
  | 0, b, a, w => Region.ready md ops b = [] ∧ ∀ w', R w w' → Q .normal a w'
  | f + 1, b, a, w => ∀ w', R w w' → (Region.ready md ops b = [] → Q .normal a w') ∧ ∀ i ∈ Region.ready md ops b, wpOp P ops Q i (fun a2 w2 => (i ∈ X ∨ R w' w2) ∧ WK R X P md ops Q f (b.setIfInBounds i true) a2 w2) a w'
theorem WK.up (hR : Later R) {f : Nat} {b : Array Bool} {a : Act} {w w' : World} (h : WK R X P md ops Q f b a w) (hu : R w w') : WK R X P md ops Q f b a w' := by
  cases f with
  | zero => exact ⟨h.1, fun w2 h2 => h.2 w2 (hR.trans hu h2)⟩
  | succ f => exact fun w2 h2 => h w2 (hR.trans hu h2)
theorem WK.any (hR : Later R) : ∀ (f : Nat) (b : Array Bool) (a : Act) (w w' : World), R w w' → WK R X P md ops Q f b a w → wpAny P md ops Q f b a w'
  | 0, b, a, w, w', hu, h => ⟨h.1, h.2 w' hu⟩
  | f + 1, b, a, w, w', hu, h => ⟨(h w' hu).1, fun i hi => wpOp_mono (fun a2 w2 h2 => WK.any hR f _ a2 w2 w2 (hR.refl w2) h2.2) ((h w' hu).2 i hi)⟩
/-- One value, in this world and every later one. -/
def YK (R : World → World → Prop) (P : Program) (ops : Array Oper) (w : World) (o : Oper) (v : Value) (a : Act) : Prop :=
  (Region.wanted o (yielded ops a.tmps) = true ∧ ∀ w1, R w w1 → o.quietAt P a (R w1) w1 v) ∨
  (Region.wanted o (yielded ops a.tmps) = false ∧ v = undef)
theorem YK.up (hR : Later R) {w w' : World} {o : Oper} {v : Value} {a : Act} (h : YK R P ops w o v a) (hu : R w w') : YK R P ops w' o v a :=
  h.imp (fun ⟨h1, h2⟩ => ⟨h1, fun w1 hw1 => h2 w1 (hR.trans hu hw1)⟩) id
theorem YK.of_same {w : World} {o : Oper} {v : Value} {a a' : Act} (he : execOp a'.eval o = execOp a.eval o)
    (hw : Region.wanted o (yielded ops a'.tmps) = Region.wanted o (yielded ops a.tmps)) (hy : YK R P ops w o v a) : YK R P ops w o v a' := by
  unfold YK Oper.quietAt at *
  rw [he, hw]
  exact hy
theorem YK.wpOp (hR : Later R) {w w' : World} {i : Nat} {o : Oper} {v : Value} {a : Act} (hi : ops[i]? = some o) (hy : YK R P ops w o v a) (hu : R w w') {K : Act → World → Prop} (h : ∀ w2, R w' w2 → K (a.put o.dst v) w2) : wpOp P ops Q i K a w' := by
  unfold Go.wpOp
  simp only [hi]
  rcases hy with ⟨hw, hv⟩ | ⟨hw, rfl⟩
  · simp only [hw, if_true]
    refine .inl ?_
    have h3 := hv w' hu
    unfold Oper.quietAt at h3
    unfold Oper.wp
    generalize (execOp a.eval o).run P w' = r at *
    cases r with
    | ok n w2 =>
      cases n <;> simp only [Oper.quietUpon] at h3 <;> simp only [Oper.upon]
      case value u =>
        obtain ⟨e1, e2⟩ := h3
        first
          | (rw [e1, e2]; exact h _ (hR.refl _))
          | (rw [e2, e1]; exact h _ (hR.refl _))
      case skip =>
        obtain ⟨e1, e2⟩ := h3
        first
          | (rw [e1, e2] at *; exact h _ (hR.refl _))
          | (subst e1 e2; exact h _ (hR.refl _))
          | (subst e2; rw [← e1]; exact h _ (hR.refl _))
      case enter f args =>
        obtain ⟨e1, hc⟩ := h3
        rw [e1]
        refine Calls.mono hc fun e w3 he => ?_
        obtain ⟨rfl, hu3⟩ := he
        exact h _ hu3
    | halt x w2 => simp only [Oper.quietUpon] at h3
  · simp only [hw, Bool.false_eq_true, if_false]; exact h _ (hR.refl _)
theorem wpOp_putP {Y : Act → Prop} {j : Nat} {oi oj : Oper} {v : Value} (hj : ops[j]? = some oj) (hap : oi.apart ops oj = true)
    (hsi : ∀ cs b, oi.op ≠ .select cs b) (hsj : ∀ cs b, oj.op ≠ .select cs b)
    (keep : ∀ (a : Act), Y a → ∀ u, Y (a.put oj.dst u)) (keepD0 : ∀ (a : Act) d, Y a → Y { a with defers := d :: a.defers })
    (hQ : ∀ c a w, Q (.panic c) (a.put oi.dst v) w → Q (.panic c) a w) {K : Act → World → Prop} {a : Act} {w : World}
    (hy : Y a) (h : wpOp P ops Q j K (a.put oi.dst v) w) :
    wpOp P ops Q j (fun a' w' => Y a' ∧ K (a'.put oi.dst v) w') a w := by
  obtain ⟨h1, h2, h3⟩ := Oper.apart_spec hap
  have keepD : ∀ d, Y { a with defers := d :: a.defers } := fun d => keepD0 a d hy
  unfold wpOp at *
  simp only [hj] at *
  rw [wanted_put oj a oi.dst v h1] at h
  split
  · rename_i hw
    simp only [hw, if_true] at h
    rcases h with h | ⟨hasks, hlets⟩
    case inr => exact .inr ⟨by unfold Oper.asks at *; rw [execOp_put oj hsj a oi.dst v h1] at hasks; exact hasks, hlets⟩
    refine .inl ?_
    unfold Oper.wp at *
    rw [execOp_put oj hsj a oi.dst v h1] at h
    generalize (execOp a.eval oj).run P w = r at *
    cases r with
    | ok n w' =>
      cases n <;> simp only [Oper.upon] at h ⊢
      case value u => exact ⟨keep a hy u, by rw [← Act.put_comm a v u h2]; exact h⟩
      case skip => exact ⟨keep a hy _, by rw [← Act.put_comm a v undef h2]; exact h⟩
      case defer d =>
        refine ⟨keep _ (keepD d) _, ?_⟩
        rw [← Act.put_comm _ v undef h2, ← Act.put_defers]
        exact h
      case enter f args =>
        refine Calls.mono h fun e w'' he => ?_
        cases e with
        | returned u => exact ⟨keep a hy u, by rw [← Act.put_comm a v u h2]; exact he⟩
        | panicked c => exact hQ _ _ _ he
        | outgrown => exact he
      case row row args => exact Rows.mono h fun u w'' he => ⟨keep a hy u, by rw [← Act.put_comm a v u h2]; exact he⟩
    | halt x w' =>
      cases x <;> simp only [Oper.upon] at h ⊢
      case panic u => exact hQ _ _ _ h
  · rename_i hw
    simp only [hw] at h
    exact ⟨keep a hy _, by rw [← Act.put_comm a v undef h2]; exact h⟩
theorem wpOp_putY {j : Nat} {oi oj : Oper} {v : Value} {w0 : World} (hj : ops[j]? = some oj) (hap : oi.apart ops oj = true)
    (hsi : ∀ cs b, oi.op ≠ .select cs b) (hsj : ∀ cs b, oj.op ≠ .select cs b)
    (hQ : ∀ c a w, Q (.panic c) (a.put oi.dst v) w → Q (.panic c) a w) {K : Act → World → Prop} {a : Act} {w : World}
    (hy : YK R P ops w0 oi v a) (h : wpOp P ops Q j K (a.put oi.dst v) w) :
    wpOp P ops Q j (fun a' w' => YK R P ops w0 oi v a' ∧ K (a'.put oi.dst v) w') a w :=
  wpOp_putP hj hap hsi hsj (fun a hy u => hy.of_same (execOp_put oi hsi a oj.dst u (Oper.apart_spec hap).2.2) (wanted_put oi a oj.dst u (Oper.apart_spec hap).2.2)) (fun a d hy => hy.of_same rfl rfl) hQ hy h
/-- What hangs on an operation, near or far. -/
def dependents (md : Region.Mode) (ops : Array Oper) (i : Nat) : List Nat :=
  (List.range ops.size).foldl (fun D k => match ops[k]? with
    | some o => if o.after.any (fun e => Region.binds md e && (e.on == i || D.contains e.on)) then k :: D else D
    | none => D) []
def blocked (md : Region.Mode) (ops : Array Oper) (b : Array Bool) (X : List Nat) (i : Nat) (D : List Nat) : Bool :=
  D.all (fun k => !b.getD k true && match ops[k]? with
    | some o => o.after.any (fun e => Region.binds md e && (e.on == i || D.contains e.on))
    | none => false) && X.all D.contains
theorem blocked_spec {b : Array Bool} {i : Nat} {D : List Nat} (h : blocked md ops b X i D = true) :
    (∀ k ∈ D, b.getD k true = false) ∧ (∀ k ∈ D, ∃ o, ops[k]? = some o ∧ ∃ e ∈ o.after, Region.binds md e = true ∧ (e.on = i ∨ e.on ∈ D)) ∧ ∀ x ∈ X, x ∈ D := by
  unfold blocked at h
  simp only [Bool.and_eq_true, List.all_eq_true] at h
  obtain ⟨h1, h2⟩ := h
  refine ⟨fun k hk => by simpa using (h1 k hk).1, fun k hk => ?_, fun x hx => by simpa using h2 x hx⟩
  have h3 := (h1 k hk).2
  cases ho : ops[k]? with
  | none => rw [ho] at h3; cases h3
  | some o =>
    rw [ho] at h3
    obtain ⟨e, he, hb⟩ := Array.any_eq_true'.1 h3
    simp only [Bool.and_eq_true, Bool.or_eq_true, beq_iff_eq, List.contains_iff_mem] at hb
    exact ⟨o, rfl, e, he, hb.1, hb.2⟩
theorem WK.first (hR : Later R) {i : Nat} {oi : Oper} {v : Value} {D : List Nat} (hi : ops[i]? = some oi)
    (hD : ∀ k ∈ D, ∃ o, ops[k]? = some o ∧ ∃ e ∈ o.after, Region.binds md e = true ∧ (e.on = i ∨ e.on ∈ D)) (hX : ∀ x ∈ X, x ∈ D) (hsel : ∀ (j : Nat) (o : Oper) cs b, ops[j]? = some o → o.op ≠ .select cs b)
    (hQ : ∀ c a w, Q (.panic c) (a.put oi.dst v) w → Q (.panic c) a w) :
    ∀ (f : Nat) (b : Array Bool) (a : Act) (w : World),
      (∀ j oj, ops[j]? = some oj → j ≠ i → b.getD j true = false → (∀ e ∈ oj.after, Region.binds md e = true → e.on ≠ i) → oi.apart ops oj = true) →
      (∀ k ∈ D, b.getD k true = false) → i ∈ Region.ready md ops b → YK R P ops w oi v a → WK R X P md ops Q f (b.setIfInBounds i true) (a.put oi.dst v) w → WK R X P md ops Q (f + 1) b a w := by
  intro f
  induction f with
  | zero =>
    intro b a w _ _ hr hy H w' hu
    refine ⟨fun h => (by rw [h] at hr; cases hr), fun j hj => ?_⟩
    by_cases hji : j = i
    · subst hji; exact hy.wpOp hR hi hu (fun w2 h2 => ⟨.inr h2, H.up hR (hR.trans hu h2)⟩)
    · have := ready_mono hj hji
      rw [H.1] at this
      cases this
  | succ f ih =>
    intro b a w hfree hpend hr hy H w' hu
    refine ⟨fun h => (by rw [h] at hr; cases hr), fun j hj => ?_⟩
    by_cases hji : j = i
    · subst hji; exact hy.wpOp hR hi hu (fun w2 h2 => ⟨.inr h2, H.up hR (hR.trans hu h2)⟩)
    · have h1 := (H w' hu).2 j (ready_mono hj hji)
      obtain ⟨hjun, oj, hoj, hall⟩ := mem_ready.1 hj
      have undone : ∀ q, b.getD q true = false → ∀ e ∈ oj.after, Region.binds md e = true → e.on ≠ q := fun q h0 e he hb heq => by
        have h1 := hall e he hb
        rw [heq] at h1
        rcases Nat.lt_or_ge q b.size with h' | h'
        · simp [h'] at h0 h1; rw [h0] at h1; cases h1
        · simp [Array.getElem?_eq_none h'] at h1
      have hnot : ∀ e ∈ oj.after, Region.binds md e = true → e.on ≠ i := undone i (mem_ready.1 hr).1
      have hjD : j ∉ D := fun hmem => by
        obtain ⟨o, ho, e, he, hb, h9⟩ := hD j hmem
        rw [hoj] at ho
        injection ho with ho
        subst ho
        rcases h9 with h9 | h9
        · exact hnot e he hb h9
        · exact undone _ (hpend _ h9) e he hb rfl
      have hjX : ∀ {p : Prop}, (j ∈ X ∨ p) → p := fun h => h.resolve_left fun hx => hjD (hX j hx)
      have hpend' : ∀ k ∈ D, (b.setIfInBounds j true).getD k true = false := fun k hk => by
        rw [getD_set_ne true (show j ≠ k from fun e => hjD (by rw [e]; exact hk))]
        exact hpend k hk
      have h2 := wpOp_putY hoj (hfree j oj hoj hji hjun hnot) (fun cs b => hsel i oi cs b hi) (fun cs b => hsel j oj cs b hoj) hQ hy h1
      have hfree' : ∀ k ok, ops[k]? = some ok → k ≠ i → (b.setIfInBounds j true).getD k true = false →
          (∀ e ∈ ok.after, Region.binds md e = true → e.on ≠ i) → oi.apart ops ok = true := fun k ok hk hki hun hno => by
        refine hfree k ok hk hki ?_ hno
        by_cases hjk : j = k
        · subst hjk; exact hjun
        · rw [getD_set_ne true hjk] at hun; exact hun
      refine wpOp_mono (fun a' w2 h3 => ⟨h3.2.1, ih (b.setIfInBounds j true) a' w2 hfree' hpend' (ready_mono hr (Ne.symm hji)) (h3.1.up hR (hR.trans hu (hjX h3.2.1))) ?_⟩) h2
      rw [Array.setIfInBounds_comm _ _ hji]
      exact h3.2.2
theorem WK.take (hR : Later R) {i : Nat} {oi : Oper} {v : Value} {f : Nat} {b : Array Bool} {a : Act} {w : World} (hi : ops[i]? = some oi)
    (hs : Region.noSelect ops = true) (hf : Region.free md ops b i = true) (hd : blocked md ops b X i (dependents md ops i) = true) (hr : (Region.ready md ops b).contains i = true)
    (hQ : ∀ c a w, Q (.panic c) (a.put oi.dst v) w → Q (.panic c) a w) (hy : YK R P ops w oi v a)
    (h : WK R X P md ops Q f (b.setIfInBounds i true) (a.put oi.dst v) w) : WK R X P md ops Q (f + 1) b a w :=
  WK.first hR hi (blocked_spec hd).2.1 (blocked_spec hd).2.2 (Region.noSelect_spec hs) hQ f b a w (Region.free_spec hi hf) (blocked_spec hd).1 (by simpa using hr) hy h
theorem WK.still (hR : Later R) {i : Nat} {oi : Oper} {v : Value} (hi : ops[i]? = some oi) (hsel : ∀ (j : Nat) (o : Oper) cs b, ops[j]? = some o → o.op ≠ .select cs b)
    (hQ : ∀ c a w, Q (.panic c) (a.put oi.dst v) w → Q (.panic c) a w) :
    ∀ (f : Nat) (b : Array Bool) (a : Act) (w : World),
      (∀ j oj, ops[j]? = some oj → j ≠ i → b.getD j true = false → (∀ e ∈ oj.after, Region.binds md e = true → e.on ≠ i) → oi.apart ops oj = true) →
      i ∈ Region.ready md ops b → (∀ w0, YK R P ops w0 oi v a) → WK R X P md ops Q f (b.setIfInBounds i true) (a.put oi.dst v) w → WK R X P md ops Q (f + 1) b a w := by
  intro f
  induction f with
  | zero =>
    intro b a w _ hr hy H w' hu
    refine ⟨fun h => (by rw [h] at hr; cases hr), fun j hj => ?_⟩
    by_cases hji : j = i
    · subst hji; exact (hy w).wpOp hR hi hu (fun w2 h2 => ⟨.inr h2, H.up hR (hR.trans hu h2)⟩)
    · have := ready_mono hj hji
      rw [H.1] at this
      cases this
  | succ f ih =>
    intro b a w hfree hr hy H w' hu
    refine ⟨fun h => (by rw [h] at hr; cases hr), fun j hj => ?_⟩
    by_cases hji : j = i
    · subst hji; exact (hy w).wpOp hR hi hu (fun w2 h2 => ⟨.inr h2, H.up hR (hR.trans hu h2)⟩)
    · have h1 := (H w' hu).2 j (ready_mono hj hji)
      obtain ⟨hjun, oj, hoj, hall⟩ := mem_ready.1 hj
      have undone : ∀ q, b.getD q true = false → ∀ e ∈ oj.after, Region.binds md e = true → e.on ≠ q := fun q h0 e he hb heq => by
        have h1 := hall e he hb
        rw [heq] at h1
        rcases Nat.lt_or_ge q b.size with h' | h'
        · simp [h'] at h0 h1; rw [h0] at h1; cases h1
        · simp [Array.getElem?_eq_none h'] at h1
      have hnot : ∀ e ∈ oj.after, Region.binds md e = true → e.on ≠ i := undone i (mem_ready.1 hr).1
      have hap := hfree j oj hoj hji hjun hnot
      have h2 := wpOp_putP (Y := fun a => ∀ w0, YK R P ops w0 oi v a) hoj hap (fun cs b => hsel i oi cs b hi) (fun cs b => hsel j oj cs b hoj) (fun a hy u w0 => (hy w0).of_same (execOp_put oi (fun cs b => hsel i oi cs b hi) a oj.dst u (Oper.apart_spec hap).2.2) (wanted_put oi a oj.dst u (Oper.apart_spec hap).2.2)) (fun a d hy w0 => (hy w0).of_same rfl rfl) hQ hy h1
      have hfree' : ∀ k ok, ops[k]? = some ok → k ≠ i → (b.setIfInBounds j true).getD k true = false →
          (∀ e ∈ ok.after, Region.binds md e = true → e.on ≠ i) → oi.apart ops ok = true := fun k ok hk hki hun hno => by
        refine hfree k ok hk hki ?_ hno
        by_cases hjk : j = k
        · subst hjk; exact hjun
        · rw [getD_set_ne true hjk] at hun; exact hun
      refine wpOp_mono (fun a' w2 h3 => ⟨h3.2.1, ih (b.setIfInBounds j true) a' w2 hfree' (ready_mono hr (Ne.symm hji)) h3.1 ?_⟩) h2
      rw [Array.setIfInBounds_comm _ _ hji]
      exact h3.2.2
theorem WK.pure (hR : Later R) {i : Nat} {oi : Oper} {v : Value} {f : Nat} {b : Array Bool} {a : Act} {w : World} (hi : ops[i]? = some oi)
    (hs : Region.noSelect ops = true) (hf : Region.free md ops b i = true) (hr : (Region.ready md ops b).contains i = true)
    (hQ : ∀ c a w, Q (.panic c) (a.put oi.dst v) w → Q (.panic c) a w) (hw : Region.wanted oi (yielded ops a.tmps) = true) (hv : ∀ w1, (execOp a.eval oi).run P w1 = .ok (.value v) w1)
    (h : WK R X P md ops Q f (b.setIfInBounds i true) (a.put oi.dst v) w) : WK R X P md ops Q (f + 1) b a w :=
  WK.still hR hi (Region.noSelect_spec hs) hQ f b a w (Region.free_spec hi hf) (by simpa using hr) (fun w0 => .inl ⟨hw, fun w1 _ => by unfold Oper.quietAt; rw [hv w1]; exact ⟨rfl, rfl⟩⟩) h
theorem YK.run {o : Oper} {v : Value} {a : Act} {w : World} (hw : Region.wanted o (yielded ops a.tmps) = true) (hr : ∀ w1, R w w1 → (execOp a.eval o).run P w1 = .ok (.value v) w1) : YK R P ops w o v a :=
  .inl ⟨hw, fun w1 h1 => by unfold Oper.quietAt; rw [hr w1 h1]; exact ⟨rfl, rfl⟩⟩
theorem YK.call (hR : Later R) {o : Oper} {v : Value} {a : Act} {w : World} {fn : FuncId} {args : Array Value} (hw : Region.wanted o (yielded ops a.tmps) = true) (he : ∀ w1, (execOp a.eval o).run P w1 = .ok (.enter fn args) w1)
    (hc : ∀ w1, R w w1 → Calls P fn args w1 fun e w2 => e = .returned v ∧ Below w1.heap.size w1 w2) : YK R P ops w o v a :=
  .inl ⟨hw, fun w1 h1 => by unfold Oper.quietAt; rw [he w1]; exact ⟨rfl, (hc w1 h1).mono fun e w2 ⟨e1, e2⟩ => ⟨e1, hR.of e2⟩⟩⟩
/-- What may come up next: each by itself, in whatever later world. -/
theorem WK.each {rs : List Nat} {f : Nat} {b : Array Bool} {a : Act} {w : World} (hr : Region.ready md ops b = rs) (hne : rs ≠ [])
    (h : ∀ w1, R w w1 → ∀ i ∈ rs, wpOp P ops Q i (fun a2 w2 => (i ∈ X ∨ R w1 w2) ∧ WK R X P md ops Q f (b.setIfInBounds i true) a2 w2) a w1) : WK R X P md ops Q (f + 1) b a w :=
  fun w1 h1 => ⟨fun h0 => absurd (hr.symm.trans h0) hne, fun i hi => h w1 h1 i (hr ▸ hi)⟩
theorem wpOp_makes {i : Nat} {o : Oper} {v : Value} {a : Act} {w w2 : World} {K : Act → World → Prop} (hi : ops[i]? = some o) (hw : Region.wanted o (yielded ops a.tmps) = true) (hr : (execOp a.eval o).run P w = .ok (.value v) w2) (h : K (a.put o.dst v) w2) : wpOp P ops Q i K a w := by
  unfold wpOp
  simp only [hi, hw, if_true, Oper.wp, hr, Oper.upon]
  exact .inl h
theorem wpOp_calls {i : Nat} {o : Oper} {a : Act} {w : World} {K : Act → World → Prop} {fn : FuncId} {args : Array Value} (hi : ops[i]? = some o) (hw : Region.wanted o (yielded ops a.tmps) = true) (he : (execOp a.eval o).run P w = .ok (.enter fn args) w) (hc : Calls P fn args w fun e w2 => ∃ v, e = .returned v ∧ K (a.put o.dst v) w2) : wpOp P ops Q i K a w := by
  unfold wpOp
  simp only [hi, hw, if_true, Oper.wp, he, Oper.upon]
  exact .inl (hc.mono fun e w2 ⟨v, e1, hk⟩ => by subst e1; exact hk)
theorem wpOp_skips {i : Nat} {o : Oper} {a : Act} {w w2 : World} {K : Act → World → Prop} (hi : ops[i]? = some o) (hw : Region.wanted o (yielded ops a.tmps) = true) (hr : (execOp a.eval o).run P w = .ok .skip w2) (h : K (a.put o.dst undef) w2) : wpOp P ops Q i K a w := by
  unfold wpOp
  simp only [hi, hw, if_true, Oper.wp, hr, Oper.upon]
  exact .inl h
theorem wpOp_list {i : Nat} {o : Oper} {a : Act} {w : World} {K : Act → World → Prop} (hi : ops[i]? = some o) (hw : Region.wanted o (yielded ops a.tmps) = true) (h : o.wp P a w K Q) : wpOp P ops Q i K a w := by
  unfold wpOp
  simp only [hi, hw, if_true]
  exact .inl h
theorem later_below : Later (fun w w' => Below w.heap.size w w') :=
  ⟨fun w => Below.refl _ w, fun h k => h.trans (k.mono h.size), fun h => h⟩
theorem WK.done {b : Array Bool} {a : Act} {w : World} (hr : Region.ready md ops b = []) (h : ∀ w', R w w' → Q .normal a w') : WK R X P md ops Q 0 b a w := ⟨hr, h⟩
theorem WK.frame {f : Nat} {b : Array Bool} {a a' : Act} {w : World} (e : a = a') (h : WK R X P md ops Q f b a' w) : WK R X P md ops Q f b a w := e ▸ h
theorem wp_region_later (hR : Later R) {id : Nat} {a : Act} {w : World} (hm : P.follows .mixedOrders = true) (h : WK R X P .any ops Q ops.size (Array.replicate ops.size false) a w) : (Code.region id ops true).wp P Q a w :=
  wp_region_any hm (WK.any hR _ _ _ _ _ (hR.of (by have := below_regrown w (w.drawn + 1) #[]; rwa [grow_empty] at this)) h)
end
end Go.Proofs.YtbkgmeopdcealaaDoor
