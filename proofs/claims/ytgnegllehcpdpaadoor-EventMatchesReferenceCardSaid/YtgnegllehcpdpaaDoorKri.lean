import Derived.RegionTactic
import Derived.Deep.Quiet
import Derived.Lib.QuietBelow
namespace Go.Proofs.YtgnegllehcpdpaaDoor
open Go.RowKit Go.Sort
set_option linter.unusedVariables false
set_option linter.unusedSimpArgs false
/-
  A region that draws its order and makes memory: walked in one order, though the places differ from order to order. What is shown stays true in every later world.
-/
def Up (w w' : World) : Prop := ∃ p : Regrown, w' = grow (redrawn w p.d) p.os
theorem Up.below {w w' : World} (h : Up w w') : Below w.heap.size w w' := by
  obtain ⟨p, rfl⟩ := h
  exact below_regrown w p.d p.os
theorem Up.of {w w' : World} (h : Below w.heap.size w w') : Up w w' := regrown_of_below h
theorem Up.refl (w : World) : Up w w := Up.of (Below.refl _ w)
theorem Up.trans {w w' w'' : World} (h : Up w w') (h' : Up w' w'') : Up w w'' := Up.of (h.below.trans (h'.below.mono h.below.size))
section
variable {P : Program} {ops : Array Oper} {md : Region.Mode} {Q : Exit → Act → World → Prop}
def WK (P : Program) (md : Region.Mode) (ops : Array Oper) (Q : Exit → Act → World → Prop) : Nat → Array Bool → Act → World → Prop
  | 0, b, a, w => Region.ready md ops b = [] ∧ ∀ w', Up w w' → Q .normal a w'
  | f + 1, b, a, w => ∀ w', Up w w' → (Region.ready md ops b = [] → Q .normal a w') ∧ ∀ i ∈ Region.ready md ops b, wpOp P ops Q i (fun a2 w2 => Up w' w2 ∧ WK P md ops Q f (b.setIfInBounds i true) a2 w2) a w'
theorem WK.up {f : Nat} {b : Array Bool} {a : Act} {w w' : World} (h : WK P md ops Q f b a w) (hu : Up w w') : WK P md ops Q f b a w' := by
  cases f with
  | zero => exact ⟨h.1, fun w2 h2 => h.2 w2 (hu.trans h2)⟩
  | succ f => exact fun w2 h2 => h w2 (hu.trans h2)
theorem WK.any : ∀ (f : Nat) (b : Array Bool) (a : Act) (w w' : World), Up w w' → WK P md ops Q f b a w → wpAny P md ops Q f b a w'
  | 0, b, a, w, w', hu, h => ⟨h.1, h.2 w' hu⟩
  | f + 1, b, a, w, w', hu, h => ⟨(h w' hu).1, fun i hi => wpOp_mono (fun a2 w2 h2 => WK.any f _ a2 w2 w2 (Up.refl w2) h2.2) ((h w' hu).2 i hi)⟩
/-- One value, in this world and every later one. -/
def YK (P : Program) (ops : Array Oper) (w : World) (o : Oper) (v : Value) (a : Act) : Prop :=
  (Region.wanted o (yielded ops a.tmps) = true ∧ ∀ w1, Up w w1 → o.quietAt P a (Up w1) w1 v) ∨
  (Region.wanted o (yielded ops a.tmps) = false ∧ v = undef)
theorem YK.up {w w' : World} {o : Oper} {v : Value} {a : Act} (h : YK P ops w o v a) (hu : Up w w') : YK P ops w' o v a :=
  h.imp (fun ⟨h1, h2⟩ => ⟨h1, fun w1 hw1 => h2 w1 (hu.trans hw1)⟩) id
theorem YK.of_same {w : World} {o : Oper} {v : Value} {a a' : Act} (he : execOp a'.eval o = execOp a.eval o)
    (hw : Region.wanted o (yielded ops a'.tmps) = Region.wanted o (yielded ops a.tmps)) (hy : YK P ops w o v a) : YK P ops w o v a' := by
  unfold YK Oper.quietAt at *
  rw [he, hw]
  exact hy
theorem YK.wpOp {w w' : World} {i : Nat} {o : Oper} {v : Value} {a : Act} (hi : ops[i]? = some o) (hy : YK P ops w o v a) (hu : Up w w') {K : Act → World → Prop} (h : ∀ w2, Up w' w2 → K (a.put o.dst v) w2) : wpOp P ops Q i K a w' := by
  unfold Go.wpOp
  simp only [hi]
  rcases hy with ⟨hw, hv⟩ | ⟨hw, rfl⟩
  · simp only [hw, if_true]
    refine .inl ?_
    have h3 := hv w' hu
    unfold Oper.quietAt at h3
    unfold Oper.wp
    generalize (execOp a.eval o).run P w' = r at *
    cases r with
    | ok n w2 =>
      cases n <;> simp only [Oper.quietUpon] at h3 <;> simp only [Oper.upon]
      case value u =>
        obtain ⟨e1, e2⟩ := h3
        first
          | (rw [e1, e2]; exact h _ (Up.refl _))
          | (rw [e2, e1]; exact h _ (Up.refl _))
      case skip =>
        obtain ⟨e1, e2⟩ := h3
        first
          | (rw [e1, e2] at *; exact h _ (Up.refl _))
          | (subst e1 e2; exact h _ (Up.refl _))
          | (subst e2; rw [← e1]; exact h _ (Up.refl _))
      case enter f args =>
        obtain ⟨e1, hc⟩ := h3
        rw [e1]
        refine Calls.mono hc fun e w3 he => ?_
        obtain ⟨rfl, hu3⟩ := he
        exact h _ hu3
    | halt x w2 => simp only [Oper.quietUpon] at h3
  · simp only [hw, Bool.false_eq_true, if_false]; exact h _ (Up.refl _)
theorem wpOp_putY {j : Nat} {oi oj : Oper} {v : Value} {w0 : World} (hj : ops[j]? = some oj) (hap : oi.apart ops oj = true)
    (hsi : ∀ cs b, oi.op ≠ .select cs b) (hsj : ∀ cs b, oj.op ≠ .select cs b)
    (hQ : ∀ c a w, Q (.panic c) (a.put oi.dst v) w → Q (.panic c) a w) {K : Act → World → Prop} {a : Act} {w : World}
    (hy : YK P ops w0 oi v a) (h : wpOp P ops Q j K (a.put oi.dst v) w) :
    wpOp P ops Q j (fun a' w' => YK P ops w0 oi v a' ∧ K (a'.put oi.dst v) w') a w := by
  obtain ⟨h1, h2, h3⟩ := Oper.apart_spec hap
  have keep : ∀ (a : Act), YK P ops w0 oi v a → ∀ u, YK P ops w0 oi v (a.put oj.dst u) := fun a hy u =>
    hy.of_same (execOp_put oi hsi a oj.dst u h3) (wanted_put oi a oj.dst u h3)
  have keepD : ∀ d, YK P ops w0 oi v { a with defers := d :: a.defers } := fun d => hy.of_same rfl rfl
  unfold wpOp at *
  simp only [hj] at *
  rw [wanted_put oj a oi.dst v h1] at h
  split
  · rename_i hw
    simp only [hw, if_true] at h
    rcases h with h | ⟨hasks, hlets⟩
    case inr => exact .inr ⟨by unfold Oper.asks at *; rw [execOp_put oj hsj a oi.dst v h1] at hasks; exact hasks, hlets⟩
    refine .inl ?_
    unfold Oper.wp at *
    rw [execOp_put oj hsj a oi.dst v h1] at h
    generalize (execOp a.eval oj).run P w = r at *
    cases r with
    | ok n w' =>
      cases n <;> simp only [Oper.upon] at h ⊢
      case value u => exact ⟨keep a hy u, by rw [← Act.put_comm a v u h2]; exact h⟩
      case skip => exact ⟨keep a hy _, by rw [← Act.put_comm a v undef h2]; exact h⟩
      case defer d =>
        refine ⟨keep _ (keepD d) _, ?_⟩
        rw [← Act.put_comm _ v undef h2, ← Act.put_defers]
        exact h
      case enter f args =>
        refine Calls.mono h fun e w'' he => ?_
        cases e with
        | returned u => exact ⟨keep a hy u, by rw [← Act.put_comm a v u h2]; exact he⟩
        | panicked c => exact hQ _ _ _ he
        | outgrown => exact he
      case row row args => exact Rows.mono h fun u w'' he => ⟨keep a hy u, by rw [← Act.put_comm a v u h2]; exact he⟩
    | halt x w' =>
      cases x <;> simp only [Oper.upon] at h ⊢
      case panic u => exact hQ _ _ _ h
  · rename_i hw
    simp only [hw] at h
    exact ⟨keep a hy _, by rw [← Act.put_comm a v undef h2]; exact h⟩
theorem WK.first {i : Nat} {oi : Oper} {v : Value} (hi : ops[i]? = some oi) (hsel : ∀ (j : Nat) (o : Oper) cs b, ops[j]? = some o → o.op ≠ .select cs b)
    (hQ : ∀ c a w, Q (.panic c) (a.put oi.dst v) w → Q (.panic c) a w) :
    ∀ (f : Nat) (b : Array Bool) (a : Act) (w : World),
      (∀ j oj, ops[j]? = some oj → j ≠ i → b.getD j true = false → (∀ e ∈ oj.after, Region.binds md e = true → e.on ≠ i) → oi.apart ops oj = true) →
      i ∈ Region.ready md ops b → YK P ops w oi v a → WK P md ops Q f (b.setIfInBounds i true) (a.put oi.dst v) w → WK P md ops Q (f + 1) b a w := by
  intro f
  induction f with
  | zero =>
    intro b a w _ hr hy H w' hu
    refine ⟨fun h => (by rw [h] at hr; cases hr), fun j hj => ?_⟩
    by_cases hji : j = i
    · subst hji; exact hy.wpOp hi hu (fun w2 h2 => ⟨h2, H.up (hu.trans h2)⟩)
    · have := ready_mono hj hji
      rw [H.1] at this
      cases this
  | succ f ih =>
    intro b a w hfree hr hy H w' hu
    refine ⟨fun h => (by rw [h] at hr; cases hr), fun j hj => ?_⟩
    by_cases hji : j = i
    · subst hji; exact hy.wpOp hi hu (fun w2 h2 => ⟨h2, H.up (hu.trans h2)⟩)
    · have h1 := (H w' hu).2 j (ready_mono hj hji)
      obtain ⟨hjun, oj, hoj, hall⟩ := mem_ready.1 hj
      have hnot : ∀ e ∈ oj.after, Region.binds md e = true → e.on ≠ i := fun e he hb heq => by
        have h1 := hall e he hb
        have h0 := (mem_ready.1 hr).1
        rw [heq] at h1
        rcases Nat.lt_or_ge i b.size with h' | h'
        · simp [h'] at h0 h1; rw [h0] at h1; cases h1
        · simp [Array.getElem?_eq_none h'] at h1
      have h2 := wpOp_putY hoj (hfree j oj hoj hji hjun hnot) (fun cs b => hsel i oi cs b hi) (fun cs b => hsel j oj cs b hoj) hQ hy h1
      have hfree' : ∀ k ok, ops[k]? = some ok → k ≠ i → (b.setIfInBounds j true).getD k true = false →
          (∀ e ∈ ok.after, Region.binds md e = true → e.on ≠ i) → oi.apart ops ok = true := fun k ok hk hki hun hno => by
        refine hfree k ok hk hki ?_ hno
        by_cases hjk : j = k
        · subst hjk; exact hjun
        · rw [getD_set_ne true hjk] at hun; exact hun
      refine wpOp_mono (fun a' w2 h3 => ⟨h3.2.1, ih (b.setIfInBounds j true) a' w2 hfree' (ready_mono hr (Ne.symm hji)) (h3.1.up (hu.trans h3.2.1)) ?_⟩) h2
      rw [Array.setIfInBounds_comm _ _ hji]
      exact h3.2.2
theorem WK.take {i : Nat} {oi : Oper} {v : Value} {f : Nat} {b : Array Bool} {a : Act} {w : World} (hi : ops[i]? = some oi)
    (hs : Region.noSelect ops = true) (hf : Region.free md ops b i = true) (hr : (Region.ready md ops b).contains i = true)
    (hQ : ∀ c a w, Q (.panic c) (a.put oi.dst v) w → Q (.panic c) a w) (hy : YK P ops w oi v a)
    (h : WK P md ops Q f (b.setIfInBounds i true) (a.put oi.dst v) w) : WK P md ops Q (f + 1) b a w :=
  WK.first hi (Region.noSelect_spec hs) hQ f b a w (Region.free_spec hi hf) (by simpa using hr) hy h
theorem YK.run {o : Oper} {v : Value} {a : Act} {w : World} (hw : Region.wanted o (yielded ops a.tmps) = true) (hr : ∀ w1, Up w w1 → (execOp a.eval o).run P w1 = .ok (.value v) w1) : YK P ops w o v a :=
  .inl ⟨hw, fun w1 h1 => by unfold Oper.quietAt; rw [hr w1 h1]; exact ⟨rfl, rfl⟩⟩
theorem YK.call {o : Oper} {v : Value} {a : Act} {w : World} {fn : FuncId} {args : Array Value} (hw : Region.wanted o (yielded ops a.tmps) = true) (he : ∀ w1, (execOp a.eval o).run P w1 = .ok (.enter fn args) w1)
    (hc : ∀ w1, Up w w1 → Calls P fn args w1 fun e w2 => e = .returned v ∧ Below w1.heap.size w1 w2) : YK P ops w o v a :=
  .inl ⟨hw, fun w1 h1 => by unfold Oper.quietAt; rw [he w1]; exact ⟨rfl, (hc w1 h1).mono fun e w2 ⟨e1, e2⟩ => ⟨e1, Up.of e2⟩⟩⟩
/-- What may come up next: each by itself, in whatever later world. -/
theorem WK.each {rs : List Nat} {f : Nat} {b : Array Bool} {a : Act} {w : World} (hr : Region.ready md ops b = rs) (hne : rs ≠ [])
    (h : ∀ w1, Up w w1 → ∀ i ∈ rs, wpOp P ops Q i (fun a2 w2 => Up w1 w2 ∧ WK P md ops Q f (b.setIfInBounds i true) a2 w2) a w1) : WK P md ops Q (f + 1) b a w :=
  fun w1 h1 => ⟨fun h0 => absurd (hr.symm.trans h0) hne, fun i hi => h w1 h1 i (hr ▸ hi)⟩
theorem wpOp_makes {i : Nat} {o : Oper} {v : Value} {a : Act} {w w2 : World} {K : Act → World → Prop} (hi : ops[i]? = some o) (hw : Region.wanted o (yielded ops a.tmps) = true) (hr : (execOp a.eval o).run P w = .ok (.value v) w2) (h : K (a.put o.dst v) w2) : wpOp P ops Q i K a w := by
  unfold wpOp
  simp only [hi, hw, if_true, Oper.wp, hr, Oper.upon]
  exact .inl h
theorem WK.done {b : Array Bool} {a : Act} {w : World} (hr : Region.ready md ops b = []) (h : ∀ w', Up w w' → Q .normal a w') : WK P md ops Q 0 b a w := ⟨hr, h⟩
theorem WK.frame {f : Nat} {b : Array Bool} {a a' : Act} {w : World} (e : a = a') (h : WK P md ops Q f b a' w) : WK P md ops Q f b a w := e ▸ h
theorem wp_region_later {id : Nat} {a : Act} {w : World} (hm : P.follows .mixedOrders = true) (h : WK P .any ops Q ops.size (Array.replicate ops.size false) a w) : (Code.region id ops true).wp P Q a w :=
  wp_region_any hm (WK.any _ _ _ _ _ ⟨⟨w.drawn + 1, #[]⟩, by rw [grow_empty]; rfl⟩ h)
end
end Go.Proofs.YtgnegllehcpdpaaDoor
