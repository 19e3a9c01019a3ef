import Derived.Test.YthgbgkpchchicaaRds
namespace Go.Proofs.Ythgbgkpchchicaa
open Go.ChangeShapes Go.WideShapes Go.ChangeAt Go.RowKit
set_option linter.unusedVariables false
set_option linter.unusedSimpArgs false
structure RDid (w0 w : World) (v : Value) (ms : List Dg) (last : Int) (o : Opr) (e : Ending) (w' : World) : Prop where
  all : ∃ v' ms' dg id x l', stepS o (ms.map Dg.k) last = ((id, dg.k, x), ms'.map Dg.k, l') ∧ e = .returned (.tuple #[.agg #[v', .int .i64 l'], .int .i64 id, dg.v, .int .i64 x]) ∧ RRow w' v' ms' ∧ Moved w v v' ∧ (∀ m ∈ ms', DgOk w0 m) ∧ DgOk w0 dg
  bel : Below w.heap.size w w'
theorem zDg_ok (w : World) : DgOk w zDg := (zDg_own 0 w).ok
theorem dgB_k {a b : Dg} (h : a.k = b.k) : dgB a b = true := by
  simp only [Dg.k, Prod.mk.injEq] at h
  simp [dgB, h.1, h.2.1, h.2.2.1, h.2.2.2]
theorem rdo_any (v : Value) (ms : List Dg) (last : Int) (o : Opr) (w0 w : World) (h : RRow w v ms) (hlen : ms.length < 1000) (h0 : 0 ≤ last) (h1 : last < 1000000) (ho : OprOk w0 o) (hok : ∀ m ∈ ms, DgOk w0 m) :
    Calls Try.prog 18 #[.agg #[v, .int .i64 last], o.v] w (RDid w0 w v ms last o) := by
  obtain ⟨K, a, b, fr, to, A, n, c, bs⟩ := o
  have keep : ∀ {w'}, Below w.heap.size w w' → ∀ m ∈ ms, DgOk w0 m := fun _ => hok
  by_cases k0 : K = 0
  · subst k0
    refine (rdo_post v ms last a b fr to A n c bs w h hlen h0 h1).mono fun e w' => ?_
    rintro ⟨v3, rfl, hE, hmv, hb⟩
    refine ⟨⟨v3, ms ++ [⟨last + 1, fr, to, A, n, c, bs⟩], zDg, last + 1, 0, last + 1, ?_, rfl, hE, hmv, fun m hm => ?_, zDg_ok w0⟩, hb⟩
    · show ((last + 1, zk, 0), ms.map Dg.k ++ [(last + 1, fr, to, bs)], last + 1) = _
      simp [Dg.k, zDg_k.symm, zDg]
    · rcases List.mem_append.1 hm with hm | hm
      · exact keep hb m hm
      · obtain rfl := List.mem_singleton.1 hm
        exact ⟨ho.bys, ho.len⟩
  by_cases hx : outB ms.length a = true ∨ (K = 3 ∧ outB ms.length b = true)
  · have hs : stepS ⟨K, a, b, fr, to, A, n, c, bs⟩ (ms.map Dg.k) last = ((0, zk, 10), ms.map Dg.k, last) := by
      unfold stepS
      rw [if_neg k0, if_pos (by rw [List.length_map]; exact hx)]
    refine (rdo_out K v ms last a b fr to A n c bs w h k0 hx (by omega)).mono fun e w' => ?_
    rintro ⟨v3, rfl, hE, hmv, hb⟩
    exact ⟨⟨v3, ms, zDg, 0, 10, last, by rw [hs]; rfl, rfl, hE, hmv, keep hb, zDg_ok w0⟩, hb⟩
  · have hx1 : outB ms.length a = false := by
      cases hq : outB ms.length a
      · rfl
      · exact absurd (.inl hq) hx
    obtain ⟨i, rfl, hil⟩ := outB_not hx1
    obtain ⟨d, hd⟩ : ∃ d, ms[i]? = some d := ⟨_, List.getElem?_eq_getElem hil⟩
    have hdok := hok d (List.mem_of_getElem? hd)
    by_cases k1 : K = 1
    · subst k1
      have hs : stepS ⟨1, i, b, fr, to, A, n, c, bs⟩ (ms.map Dg.k) last = ((0, zk, 0), (ms.map Dg.k).eraseIdx i, last) := by
        unfold stepS
        rw [if_neg k0, if_neg (by rw [List.length_map]; exact hx), if_pos rfl]
        rfl
      refine (rdo_drop v ms last 0 b fr to A n c bs w h i d hd (by omega)).mono fun e w' => ?_
      rintro ⟨v3, rfl, hE, hmv, hb⟩
      exact ⟨⟨v3, ms.eraseIdx i, zDg, 0, 0, last, by rw [hs, map_erase]; rfl, rfl, hE, hmv, fun m hm => keep hb m (List.mem_of_mem_eraseIdx hm), zDg_ok w0⟩, hb⟩
    by_cases k2 : K = 2
    · subst k2
      have hs : stepS ⟨2, i, b, fr, to, A, n, c, bs⟩ (ms.map Dg.k) last = ((last + 1, zk, 0), ms.map Dg.k ++ [(last + 1, d.fr, d.to, d.bs)], last + 1) := by
        unfold stepS
        rw [if_neg k0, if_neg (by rw [List.length_map]; exact hx), if_neg k1, if_pos rfl]
        simp only [Int.toNat_natCast, getD_k hd]
        rfl
      refine (rdo_copy v ms last 0 b fr to A n c bs w h i d hd hlen h0 h1).mono fun e w' => ?_
      rintro ⟨v3, rfl, hE, hmv, hb⟩
      refine ⟨⟨v3, ms ++ [⟨last + 1, d.fr, d.to, d.A, d.n, d.c, d.bs⟩], zDg, last + 1, 0, last + 1, by rw [hs]; simp [Dg.k, zDg, zk], rfl, hE, hmv, fun m hm => ?_, zDg_ok w0⟩, hb⟩
      rcases List.mem_append.1 hm with hm | hm
      · exact keep hb m hm
      · obtain rfl := List.mem_singleton.1 hm
        exact ⟨hdok.bys, hdok.len⟩
    by_cases k3 : K = 3
    · subst k3
      have hx2 : outB ms.length b = false := by
        cases hq : outB ms.length b
        · rfl
        · exact absurd (.inr ⟨rfl, hq⟩) hx
      obtain ⟨j, rfl, hjl⟩ := outB_not hx2
      obtain ⟨d', hd'⟩ : ∃ d, ms[j]? = some d := ⟨_, List.getElem?_eq_getElem hjl⟩
      have hs : stepS ⟨3, i, j, fr, to, A, n, c, bs⟩ (ms.map Dg.k) last = ((0, zk, 0), ((ms.map Dg.k).set i d'.k).set j d.k, last) := by
        unfold stepS
        rw [if_neg k0, if_neg (by rw [List.length_map]; exact hx), if_neg k1, if_neg k2, if_pos rfl]
        simp only [Int.toNat_natCast, getD_k hd, getD_k hd']
      refine (rdo_swap v ms last 0 0 fr to A n c bs w h i j d d' hd hd' (by omega)).mono fun e w' => ?_
      rintro ⟨v3, rfl, hE, hmv, hb⟩
      refine ⟨⟨v3, _, zDg, 0, 0, last, by rw [hs, map_set, map_set]; rfl, rfl, hE, hmv, fun m hm => ?_, zDg_ok w0⟩, hb⟩
      rcases List.mem_or_eq_of_mem_set hm with hm | rfl
      · rcases List.mem_or_eq_of_mem_set hm with hm | rfl
        · exact keep hb m hm
        · exact keep hb _ (List.mem_of_getElem? hd')
      · exact keep hb _ (List.mem_of_getElem? hd)
    · have hs : stepS ⟨K, i, b, fr, to, A, n, c, bs⟩ (ms.map Dg.k) last = ((0, d.k, 0), (ms.map Dg.k).eraseIdx i, last) := by
        unfold stepS
        rw [if_neg k0, if_neg (by rw [List.length_map]; exact hx), if_neg k1, if_neg k2, if_neg k3]
        simp only [Int.toNat_natCast, getD_k hd]
      refine (rdo_take K v ms last 0 b fr to A n c bs w h i d hd (by omega) (by simp; exact k0) (by simp; exact k1) (by simp; exact k2) (by simp; exact k3)).mono fun e w' => ?_
      rintro ⟨v3, rfl, hE, hmv, hb⟩
      exact ⟨⟨v3, ms.eraseIdx i, d, 0, 0, last, by rw [hs, map_erase], rfl, hE, hmv, fun m hm => keep hb m (List.mem_of_mem_eraseIdx hm), hdok⟩, hb⟩
end Go.Proofs.Ythgbgkpchchicaa
