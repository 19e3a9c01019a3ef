import Derived.Test.YthgbgkpchchicaaLst
import Derived.Maps.Own
import Derived.Maps.OwnOps
import Derived.Maps.OwnSet
import Derived.Maps.Views
import Derived.Maps.RangeWalk
namespace Go.Proofs.Ythgbgkpchchicaa
open Go.Maps
set_option linter.unusedVariables false
set_option linter.unusedSimpArgs false
def numD : DataW Unit → Int
  | .lit (.int _ n) => n
  | _ => 0
def tot : List (Lit × DataW Unit) → Int
  | [] => 0
  | p :: r => numD p.2 + tot r
def totD : DataW Unit → Int
  | .map es => tot es
  | _ => 0
def NonNeg (es : List (Lit × DataW Unit)) : Prop := ∀ p ∈ es, 0 ≤ numD p.2
theorem tot_insert (x : Lit × DataW Unit) : ∀ l : List (Lit × DataW Unit), tot (DataW.insert x l) = numD x.2 + tot l
  | [] => rfl
  | y :: r => by
    unfold DataW.insert
    split
    · rfl
    · simp only [tot, tot_insert x r]; omega
theorem mem_insert (x p : Lit × DataW Unit) : ∀ l : List (Lit × DataW Unit), p ∈ DataW.insert x l → p = x ∨ p ∈ l
  | [], h => by simpa [DataW.insert] using h
  | y :: r, h => by
    unfold DataW.insert at h
    split at h
    · simpa using h
    · rcases List.mem_cons.1 h with h | h
      · exact .inr (h ▸ List.mem_cons_self)
      · rcases mem_insert x p r h with h | h
        · exact .inl h
        · exact .inr (List.mem_cons_of_mem _ h)
theorem tot_split (f : Lit × DataW Unit → Bool) : ∀ l : List (Lit × DataW Unit), tot (l.filter f) + tot (l.filter fun p => !f p) = tot l
  | [] => rfl
  | y :: r => by
    have ih := tot_split f r
    cases h : f y <;> simp [List.filter_cons, h, tot] <;> omega
theorem tot_none (f : Lit × DataW Unit → Bool) : ∀ l : List (Lit × DataW Unit), (∀ p ∈ l, f p = false) → tot (l.filter f) = 0 := fun l h => by
  rw [List.filter_eq_nil_iff.2 (fun p hp => by rw [h p hp]; simp)]; rfl
theorem tot_one (k : Lit) : ∀ es : List (Lit × DataW Unit), es.Pairwise (fun p q => p.1 ≠ q.1) → tot (es.filter fun p => p.1.sameKey k) = numD ((DataW.map es).atKey k (.lit (.int .i64 0)))
  | [], _ => rfl
  | y :: r, h => by
    obtain ⟨h1, h2⟩ := List.pairwise_cons.1 h
    have ih := tot_one k r h2
    cases hs : y.1.sameKey k with
    | true =>
      have hy := WideAt.sameKey_eq hs
      rw [List.filter_cons, if_pos hs, tot, tot_none _ r (fun p hp => by
        cases hp2 : p.1.sameKey k with
        | true => exact absurd (hy.trans (WideAt.sameKey_eq hp2).symm) (h1 p hp)
        | false => rfl)]
      simp [DataW.atKey, List.find?_cons, hs]
    | false =>
      rw [List.filter_cons, if_neg (by simp [hs]), ih]
      simp [DataW.atKey, List.find?_cons, hs]
theorem totD_put {D : DataW Unit} (h : Tidy D) (k : Lit) (d : DataW Unit) : totD (D.put k d) = totD D - numD (D.atKey k (.lit (.int .i64 0))) + numD d := by
  obtain ⟨es, rfl, hp⟩ := h
  have h1 := tot_one k es hp
  have h2 := tot_split (fun p => p.1.sameKey k) es
  show tot (DataW.insert (k, d) (es.filter fun p => !p.1.sameKey k)) = tot es - _ + _
  rw [tot_insert]
  simp only
  omega
theorem nonneg_put {es es' : List (Lit × DataW Unit)} (h : NonNeg es) (k : Lit) (d : DataW Unit) (hd : 0 ≤ numD d) (e : (DataW.map es).put k d = .map es') : NonNeg es' := by
  simp only [DataW.put, DataW.map.injEq] at e
  subst e
  intro p hp
  rcases mem_insert _ _ _ hp with rfl | hp
  · exact hd
  · exact h p (List.mem_filter.1 hp).1
theorem tot_nonneg : ∀ es : List (Lit × DataW Unit), NonNeg es → 0 ≤ tot es
  | [], _ => Int.le_refl 0
  | y :: r, h => by
    have h1 := h y List.mem_cons_self
    have h2 := tot_nonneg r (fun p hp => h p (List.mem_cons_of_mem _ hp))
    simp only [tot]; omega
theorem NonNeg.filter {es : List (Lit × DataW Unit)} (h : NonNeg es) (f : Lit × DataW Unit → Bool) : NonNeg (es.filter f) := fun p hp => h p (List.mem_filter.1 hp).1
/-- What has come so far, of a range under way. -/
def sumL (es : List (Lit × DataW Unit)) (left : Lit → Bool) : Int := tot (es.filter fun p => !left p.1)
theorem sumL_bound {es : List (Lit × DataW Unit)} (h : NonNeg es) (left : Lit → Bool) : 0 ≤ sumL es left ∧ sumL es left ≤ tot es := by
  have h1 := tot_split (fun p => !left p.1) es
  have h2 := tot_nonneg _ (h.filter fun p => !left p.1)
  have h3 := tot_nonneg _ (h.filter fun p => !(!left p.1))
  unfold sumL
  omega
theorem sumL_start {es : List (Lit × DataW Unit)} (hk : ∀ p ∈ es, WideAt.IsKeyLit p.1) : sumL es (Maps.has (.map es)) = 0 :=
  tot_none _ es (fun p hp => by
    have : Maps.has (DataW.map es) p.1 = true := List.any_eq_true.2 ⟨p, hp, WideAt.sameKey_self (hk p hp)⟩
    simp [this])
theorem sumL_end {es : List (Lit × DataW Unit)} {left : Lit → Bool} (h : ∀ kl, left kl = false) : sumL es left = tot es := by
  unfold sumL
  rw [List.filter_eq_self.2 (fun p _ => by simp [h])]
theorem sumL_next {kl : Lit} (left : Lit → Bool) (hl : left kl = true) : ∀ es : List (Lit × DataW Unit), es.Pairwise (fun p q => p.1 ≠ q.1) →
    sumL es (fun z => left z && !z.sameKey kl) = sumL es left + numD ((DataW.map es).atKey kl (.lit (.int .i64 0)))
  | [], _ => rfl
  | y :: r, h => by
    obtain ⟨h1, h2⟩ := List.pairwise_cons.1 h
    have ih : tot (r.filter fun p => !(left p.1 && !p.1.sameKey kl)) = tot (r.filter fun p => !left p.1) + numD ((DataW.map r).atKey kl (.lit (.int .i64 0))) := sumL_next left hl r h2
    show tot ((y :: r).filter fun p => !(left p.1 && !p.1.sameKey kl)) = tot ((y :: r).filter fun p => !left p.1) + numD ((DataW.map (y :: r)).atKey kl (.lit (.int .i64 0)))
    cases hs : y.1.sameKey kl with
    | true =>
      have hy := WideAt.sameKey_eq hs
      have h0 : ∀ p ∈ r, p.1.sameKey kl = false := fun p hp => by
        cases hp2 : p.1.sameKey kl with
        | true => exact absurd (hy.trans (WideAt.sameKey_eq hp2).symm) (h1 p hp)
        | false => rfl
      have e : (r.filter fun p => !(left p.1 && !p.1.sameKey kl)) = r.filter fun p => !left p.1 := List.filter_congr (fun p hp => by simp [h0 p hp])
      have hly : left y.1 = true := by rw [hy]; exact hl
      simp only [List.filter_cons, hs, hly, e, tot, DataW.atKey, List.find?_cons]
      simp [tot]
      omega
    | false =>
      have e : (DataW.map (y :: r)).atKey kl (.lit (.int .i64 0)) = (DataW.map r).atKey kl (.lit (.int .i64 0)) := by simp [DataW.atKey, List.find?_cons, hs]
      rw [e]
      have e1 : (!(left y.1 && !y.1.sameKey kl)) = !left y.1 := by rw [hs]; simp
      simp only [List.filter_cons, e1]
      cases hly : left y.1 <;> simp only [Bool.not_true, Bool.not_false, if_true, Bool.false_eq_true, if_false, tot] <;> omega
end Go.Proofs.Ythgbgkpchchicaa
