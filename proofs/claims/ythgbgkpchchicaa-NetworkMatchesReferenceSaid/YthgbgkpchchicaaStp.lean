import Derived.Test.YthgbgkpchchicaaDot
import Derived.Test.YthgbgkpchchicaaFew
namespace Go.Proofs.Ythgbgkpchchicaa
open Go.ChangeShapes Go.WideShapes Go.ChangeAt Go.RowKit
set_option linter.unusedVariables false
set_option linter.unusedSimpArgs false
/-- One call: what it answers, the row afterwards, and the last ID. -/
def stepS (o : Opr) (S : List KK) (last : Int) : (Int × KK × Int) × List KK × Int :=
  if o.kind = 0 then ((last + 1, zk, 0), S ++ [(last + 1, o.fr, o.to, o.bs)], last + 1)
  else if outB S.length o.a = true ∨ (o.kind = 3 ∧ outB S.length o.b = true) then ((0, zk, 10), S, last)
  else if o.kind = 1 then ((0, zk, 0), S.eraseIdx o.a.toNat, last)
  else if o.kind = 2 then ((last + 1, zk, 0), S ++ [(last + 1, (S.getD o.a.toNat zk).2)], last + 1)
  else if o.kind = 3 then ((0, zk, 0), (S.set o.a.toNat (S.getD o.b.toNat zk)).set o.b.toNat (S.getD o.a.toNat zk), last)
  else ((0, S.getD o.a.toNat zk, 0), S.eraseIdx o.a.toNat, last)
theorem outB_not {len : Nat} {x : Int} (h : outB len x = false) : ∃ i : Nat, x = i ∧ i < len := by
  unfold outB at h
  simp only [decide_eq_false_iff_not] at h
  exact ⟨x.toNat, by omega, by omega⟩
theorem getD_k {ds : List Dg} {i : Nat} {d : Dg} (h : ds[i]? = some d) : (ds.map Dg.k).getD i zk = d.k := by simp [List.getD, h]
theorem map_erase (ds : List Dg) : ∀ i, (ds.eraseIdx i).map Dg.k = (ds.map Dg.k).eraseIdx i := by
  induction ds with
  | nil => intro i; simp
  | cons d ds ih =>
    intro i
    cases i with
    | zero => simp
    | succ i => simp [ih i]
theorem map_set (ds : List Dg) (i : Nat) (d : Dg) : (ds.set i d).map Dg.k = (ds.map Dg.k).set i d.k := by simp
structure Did (B : Nat) (w : World) (g : Nat) (v : Value) (S : List KK) (last : Int) (o : Opr) (e : Ending) (w' : World) : Prop where
  all : ∃ v3 ds3 dg id x, (stepS o S last).1 = (id, dg.k, x) ∧ e = .returned (.tuple #[.int .i64 id, dg.v, errV x]) ∧ BOwn B w' dg ∧ Ended B w g v w' v3 ds3 (stepS o S last).2.2 ∧ ds3.map Dg.k = (stepS o S last).2.1
theorem do_any (g : Nat) (v : Value) (ds : List Dg) (last : Int) (o : Opr) (B : Nat) (w : World) (h : Net B w g v ds last) (hlen : ds.length < 1000) (h0 : 0 ≤ last) (h1 : last < 1000000) (ho : OprOk w o) (hn : o.n ≤ 1000000) (hb : ∀ d ∈ ds, d.bs.length ≤ 1000000) :
    Calls Try.prog 17 #[P1 g, o.v] w (Did B w g v (ds.map Dg.k) last o) := by
  obtain ⟨K, a, b, fr, to, A, n, c, bs⟩ := o
  have hz : ∀ w', BOwn B w' zDg := zDg_own B
  by_cases k0 : K = 0
  · subst k0
    refine (do_post g v ds last a b fr to A n c bs B w h hlen h0 h1 ho.bys hn).mono fun e w' => ?_
    rintro ⟨v3, x, rfl, hk, hE⟩
    have hs : stepS ⟨0, a, b, fr, to, A, n, c, bs⟩ (ds.map Dg.k) last = ((last + 1, zk, 0), ds.map Dg.k ++ [(last + 1, fr, to, bs)], last + 1) := rfl
    refine ⟨v3, ds ++ [x], zDg, last + 1, 0, by rw [hs]; rfl, rfl, hz w', by rw [hs]; exact hE, by rw [hs]; simp [hk]⟩
  by_cases hx : outB ds.length a = true ∨ (K = 3 ∧ outB ds.length b = true)
  · have hs : stepS ⟨K, a, b, fr, to, A, n, c, bs⟩ (ds.map Dg.k) last = ((0, zk, 10), ds.map Dg.k, last) := by
      unfold stepS
      rw [if_neg k0, if_pos (by rw [List.length_map]; exact hx)]
    have fin : ∀ e w', (∃ v3, e = .returned (.tuple #[.int .i64 0, .agg zc, errV 10]) ∧ Ended B w g v w' v3 ds last) → Did B w g v (ds.map Dg.k) last ⟨K, a, b, fr, to, A, n, c, bs⟩ e w' := by
      rintro e w' ⟨v3, rfl, hE⟩
      exact ⟨v3, ds, zDg, 0, 10, by rw [hs]; rfl, rfl, hz w', by rw [hs]; exact hE, by rw [hs]⟩
    by_cases k3 : K = 3
    · subst k3
      exact (do_swap_out g v ds last a b fr to A n c bs B w h (by rcases hx with hx | ⟨_, hx⟩ <;> simp [hx])).mono fin
    · have hx9 : outB ds.length a = true := hx.resolve_right fun h9 => k3 h9.1
      by_cases k1 : K = 1
      · subst k1
        exact (do_drop_out g v ds last a b fr to A n c bs B w h hx9).mono fin
      by_cases k2 : K = 2
      · subst k2
        exact (do_copy_out g v ds last a b fr to A n c bs B w h hx9).mono fin
      exact (do_take_out g v ds last K a b fr to A n c bs B w h hx9 (by simp; exact k0) (by simp; exact k1) (by simp; exact k2) (by simp; exact k3)).mono fin
  · have hx1 : outB ds.length a = false := by
      cases hq : outB ds.length a
      · rfl
      · exact absurd (.inl hq) hx
    obtain ⟨i, rfl, hil⟩ := outB_not hx1
    obtain ⟨d, hd⟩ : ∃ d, ds[i]? = some d := ⟨_, List.getElem?_eq_getElem hil⟩
    have hdl := hb d (List.mem_of_getElem? hd)
    by_cases k1 : K = 1
    · subst k1
      have hs : stepS ⟨1, i, b, fr, to, A, n, c, bs⟩ (ds.map Dg.k) last = ((0, zk, 0), (ds.map Dg.k).eraseIdx i, last) := by
        unfold stepS
        rw [if_neg k0, if_neg (by rw [List.length_map]; exact hx), if_pos rfl]
        rfl
      refine (do_drop_in g v ds last 0 b fr to A n c bs B w h i d hd (by omega)).mono fun e w' => ?_
      rintro ⟨v3, rfl, hE⟩
      exact ⟨v3, ds.eraseIdx i, zDg, 0, 0, by rw [hs]; rfl, rfl, hz w', by rw [hs]; exact hE, by rw [hs, map_erase]⟩
    by_cases k2 : K = 2
    · subst k2
      have hs : stepS ⟨2, i, b, fr, to, A, n, c, bs⟩ (ds.map Dg.k) last = ((last + 1, zk, 0), ds.map Dg.k ++ [(last + 1, d.fr, d.to, d.bs)], last + 1) := by
        unfold stepS
        rw [if_neg k0, if_neg (by rw [List.length_map]; exact hx), if_neg k1, if_pos rfl]
        simp only [Int.toNat_natCast, getD_k hd]
        rfl
      refine (do_copy_in g v ds last 0 b fr to A n c bs B w h i d hd hlen h0 h1 hdl).mono fun e w' => ?_
      rintro ⟨v3, x, rfl, hk, hE⟩
      exact ⟨v3, ds ++ [x], zDg, last + 1, 0, by rw [hs]; rfl, rfl, hz w', by rw [hs]; exact hE, by rw [hs]; simp [hk]⟩
    by_cases k3 : K = 3
    · subst k3
      have hx2 : outB ds.length b = false := by
        cases hq : outB ds.length b
        · rfl
        · exact absurd (.inr ⟨rfl, hq⟩) hx
      obtain ⟨j, rfl, hjl⟩ := outB_not hx2
      obtain ⟨d', hd'⟩ : ∃ d, ds[j]? = some d := ⟨_, List.getElem?_eq_getElem hjl⟩
      have hs : stepS ⟨3, i, j, fr, to, A, n, c, bs⟩ (ds.map Dg.k) last = ((0, zk, 0), ((ds.map Dg.k).set i d'.k).set j d.k, last) := by
        unfold stepS
        rw [if_neg k0, if_neg (by rw [List.length_map]; exact hx), if_neg k1, if_neg k2, if_pos rfl]
        simp only [Int.toNat_natCast, getD_k hd, getD_k hd']
      refine (do_swap_in g v ds last 0 0 fr to A n c bs B w h i j d d' hd hd').mono fun e w' => ?_
      rintro ⟨v3, rfl, hE⟩
      exact ⟨v3, _, zDg, 0, 0, by rw [hs]; rfl, rfl, hz w', by rw [hs]; exact hE, by rw [hs, map_set, map_set]⟩
    · have hs : stepS ⟨K, i, b, fr, to, A, n, c, bs⟩ (ds.map Dg.k) last = ((0, d.k, 0), (ds.map Dg.k).eraseIdx i, last) := by
        unfold stepS
        rw [if_neg k0, if_neg (by rw [List.length_map]; exact hx), if_neg k1, if_neg k2, if_neg k3]
        simp only [Int.toNat_natCast, getD_k hd]
      refine (do_take_in g v ds last K b fr to A n c bs B w h i d hd (by omega) (by simp; exact k0) (by simp; exact k1) (by simp; exact k2) (by simp; exact k3)).mono fun e w' => ?_
      rintro ⟨v3, rfl, hO, hE⟩
      exact ⟨v3, ds.eraseIdx i, d, 0, 0, by rw [hs], rfl, hO, by rw [hs]; exact hE, by rw [hs, map_erase]⟩
end Go.Proofs.Ythgbgkpchchicaa
