/-
  THE ROWS: for every input each of these laws returns true and leaves what it was handed as it was: NetworkMatchesReference. No condition.
-/
import Derived.Test.YthgbgkpchchicaaLwe
import Derived.Maps.Own
import Derived.Deep.Slices
import Derived.Deep.Fields
import Derived.Lib.SmallJoins
import Derived.ChangeSame
namespace Go.Proofs.Ythgbgkpchchicaa
open Go.ChangeShapes Go.WideShapes Go.ChangeAt Go.RowKit
open Go.ChangeMaps (open_string shut_string)
set_option linter.unusedVariables false
set_option linter.unusedSimpArgs false
theorem own : ownKnob Try.prog.godebug = none := by kernel_rfl
theorem laidOut : laidOutB Try.prog = true := by kernel_rfl
theorem one_of {α : Type} {a b : α} (h : [a] = [b]) : a = b := by injection h
theorem cells26 : Try.prog.cellsOf 26 = 1 := by kernel_rfl
theorem cells48 : Try.prog.cellsOf 48 = 6 := by kernel_rfl
theorem cells5 : Try.prog.cellsOf 5 = 1 := by kernel_rfl
theorem trod_bys {H : Type} {enc : TypeId × Value → H} {w : World} {spare : Nat → Bool} {held : Bool} {fuel : Nat} {v : Value} {x : DataW H × List MemPlace}
    (hf : DataW.trod enc Try.prog w 0 spare held fuel 26 [v] = some x) : ∃ A n c bs, v = .slice A n c ∧ Bys w A n bs ∧ n ≤ maxLen := by
  rcases open_ints Try.underlying26 Try.underlying5 cells5 hf with ⟨hcs, _⟩ | ⟨y, l, c, zs, hcs, _, hl, hm, hz, hp, hcell, hwz⟩
  · simp at hcs
    exact ⟨none, 0, 0, [], hcs, Bys.none_ w, by unfold maxLen; omega⟩
  · simp at hcs
    have hzl : l ≤ zs.length := by rw [hz]; split <;> omega
    refine ⟨some y, l, c, (zs.take l).map Int.toNat, hcs, Bys.of_ints (c := c) ⟨by simp; omega, hl, fun n hn => hwz n (List.mem_of_mem_take hn), fun h0 => ?_⟩, by omega⟩
    have hc0 := hcell 0 (by omega)
    have hsp : (y.add 0).spot = none := World.cell?_spot hc0
    obtain ⟨b, o, sp⟩ := y
    simp [Addr.add] at hsp
    subst hsp
    have := lt_of_cell hc0
    refine ⟨b, o, rfl, by simpa [Addr.add] using this, fun i hi => ?_⟩
    have h1 := hcell i (by omega)
    rw [add_none] at h1
    rw [h1]
    simp [List.getD, List.getElem?_take_of_lt hi]
theorem list_of {α : Type} {p : Nat → α → Prop} : ∀ (n : Nat), (∀ i, i < n → ∃ x, p i x) → ∃ l : List α, l.length = n ∧ ∀ i x, l[i]? = some x → p i x
  | 0, _ => ⟨[], rfl, by simp⟩
  | n + 1, h => by
    obtain ⟨l, hl, hp⟩ := list_of n fun i hi => h i (by omega)
    obtain ⟨x, hx⟩ := h n (by omega)
    refine ⟨l ++ [x], by simp [hl], fun i y hy => ?_⟩
    by_cases hi : i < n
    · exact hp i y (by rwa [List.getElem?_append_left (by omega)] at hy)
    · rw [List.getElem?_append_right (by omega)] at hy
      have hlt := (List.getElem?_eq_some_iff.1 hy).1
      simp at hlt
      have : i = n := by omega
      subst this
      simp [hl] at hy
      exact hy ▸ hx
open Go.Deep in
theorem open_bds {H : Type} {enc : TypeId × Value → H} {w : World} {spare : Nat → Bool} {held : Bool} {v : Value} {d : DataW H} {p : List MemPlace} {r : Reach} {b0 : Nat}
    (hv : Value.okWide Try.prog w r b0 22 v) (h : DataW.Trod enc Try.prog w 0 spare held 22 v d p) :
    ∃ A n cap l, v = .slice A n cap ∧ Bds w A n l ∧ n ≤ maxLen := by
  obtain ⟨a, len, cap, rfl⟩ := okWide_slice Try.underlying22 hv
  obtain ⟨fuel, hf⟩ := h
  rcases open_slice Try.underlying22 hf with ⟨hcs, _⟩ | ⟨y, l, c, m, n, D, Pl, hcs, _, hl, hm, hmm, _, hi⟩
  · simp [Value.cells] at hcs
    obtain ⟨rfl, rfl, rfl⟩ := hcs
    exact ⟨none, 0, 0, [], rfl, Bds.none_ w, by unfold maxLen; omega⟩
  · simp [Value.cells] at hcs
    obtain ⟨rfl, rfl, rfl⟩ := hcs
    have hlm : len ≤ m := by rw [hmm]; split <;> omega
    obtain ⟨es, hes, hp⟩ := list_of (p := fun i (e : Bd) => BdOk w e ∧ w.cell? (y.add i) = some e.v) len (fun i hil => by
      obtain ⟨cs', hc, ht⟩ := hi i (by omega)
      rw [cells26, Nat.mul_one] at hc
      obtain ⟨_, hcl, hat⟩ := World.cells?_some hc
      match cs', hcl with
      | [v0], _ =>
        have h0 := hat 0 (by omega)
        obtain ⟨A, n, c, bs, rfl, hB, hn⟩ := trod_bys ht
        refine ⟨⟨A, n, c, bs⟩, ⟨hB, hn⟩, ?_⟩
        rw [Go.Deep.add_add, Nat.add_zero] at h0
        exact h0)
    have hcell : ∀ k u, (es.map Bd.v)[k]? = some u → w.cell? (y.add k) = some u := fun k u hu => by
      simp only [List.getElem?_map, Option.map_eq_some_iff] at hu
      obtain ⟨e, he, rfl⟩ := hu
      exact (hp _ _ he).2
    refine ⟨some y, len, cap, es, rfl, ⟨⟨by simp [hes], fun h0 => ⟨y, rfl, ?_, hcell⟩⟩, hes, fun e he => ?_⟩, by omega⟩
    · have hc0 := hcell 0 _ (List.getElem?_eq_getElem (by simp; omega))
      have := lt_of_cell hc0
      rwa [block_of_add] at this
    · obtain ⟨i, hi', rfl⟩ := List.mem_iff_getElem.1 he
      exact (hp i _ (List.getElem?_eq_getElem hi')).1
theorem open_opr6 {H : Type} {enc : TypeId × Value → H} {w : World} {spare : Nat → Bool} {held : Bool} {n0 n1 n2 n3 n4 n5 : Nat} {v0 v1 v2 v3 v4 v5 : Value} {y0 y1 y2 y3 y4 y5 : DataW H × List MemPlace}
    (g0 : DataW.trod enc Try.prog w 0 spare held n0 3 [v0] = some y0) (g1 : DataW.trod enc Try.prog w 0 spare held n1 3 [v1] = some y1) (g2 : DataW.trod enc Try.prog w 0 spare held n2 3 [v2] = some y2)
    (g3 : DataW.trod enc Try.prog w 0 spare held n3 9 [v3] = some y3) (g4 : DataW.trod enc Try.prog w 0 spare held n4 9 [v4] = some y4) (g5 : DataW.trod enc Try.prog w 0 spare held n5 26 [v5] = some y5) :
    ∃ e : Opr, [v0, v1, v2, v3, v4, v5] = e.cells ∧ OprOk w e := by
  obtain ⟨a0, e0, _, _⟩ := DataW.trod_int Try.underlying3 g0
  obtain ⟨a1, e1, _, _⟩ := DataW.trod_int Try.underlying3 g1
  obtain ⟨a2, e2, _, _⟩ := DataW.trod_int Try.underlying3 g2
  obtain ⟨s3, e3, _, w3⟩ := DataW.trod_string Try.underlying9 g3
  obtain ⟨s4, e4, _, w4⟩ := DataW.trod_string Try.underlying9 g4
  obtain ⟨A, n, c, bs, rfl, hB, hn⟩ := trod_bys g5
  exact ⟨⟨a0, a1, a2, s3, s4, A, n, c, bs⟩, by rw [one_of e0, one_of e1, one_of e2, one_of e3, one_of e4]; rfl, ⟨hB, hn, w3, w4⟩⟩
theorem open_oprs {H : Type} {enc : TypeId × Value → H} {w : World} {spare : Nat → Bool} {held : Bool} {v : Value} {d : DataW H} {p : List MemPlace} {r : Reach} {b0 : Nat}
    (hv : Value.okWide Try.prog w r b0 40 v) (h : DataW.Trod enc Try.prog w 0 spare held 40 v d p) :
    ∃ A n cap es, v = .slice A n cap ∧ Oprs w A n es ∧ n ≤ maxLen := by
  obtain ⟨a, len, cap, rfl⟩ := okWide_slice Try.underlying40 hv
  obtain ⟨fuel, hf⟩ := h
  rcases open_slice_fields Try.underlying40 Try.underlying48 (by kernel_rfl) cells48 hf with ⟨hcs, _⟩ | ⟨y, l, c, m, D, Pl, hcs, _, hl, hm, hmm, _, hi⟩
  · simp [Value.cells] at hcs
    obtain ⟨rfl, rfl, rfl⟩ := hcs
    exact ⟨none, 0, 0, [], rfl, Oprs.none_ w, by unfold maxLen; omega⟩
  · simp [Value.cells] at hcs
    obtain ⟨rfl, rfl, rfl⟩ := hcs
    have hlm : len ≤ m := by rw [hmm]; split <;> omega
    obtain ⟨es, hes, hp⟩ := list_of (p := fun i (e : Opr) => OprOk w e ∧ ∀ j u, e.cells[j]? = some u → w.cell? (y.add (i * 6 + j)) = some u) len (fun i hil => by
      obtain ⟨ys, n, _, _, _, hj⟩ := hi i (by omega)
      obtain ⟨v0, y0, c0, _, g0⟩ := hj 0 _ rfl
      obtain ⟨v1, y1, c1, _, g1⟩ := hj 1 _ rfl
      obtain ⟨v2, y2, c2, _, g2⟩ := hj 2 _ rfl
      obtain ⟨v3, y3, c3, _, g3⟩ := hj 3 _ rfl
      obtain ⟨v4, y4, c4, _, g4⟩ := hj 4 _ rfl
      obtain ⟨v5, y5, c5, _, g5⟩ := hj 5 _ rfl
      obtain ⟨e, he, hok⟩ := open_opr6 g0 g1 g2 g3 g4 g5
      refine ⟨e, hok, fun j u hu => ?_⟩
      rw [← he] at hu
      match j, hu with
      | 0, hu => cases hu; exact c0
      | 1, hu => cases hu; exact c1
      | 2, hu => cases hu; exact c2
      | 3, hu => cases hu; exact c3
      | 4, hu => cases hu; exact c4
      | 5, hu => cases hu; exact c5
      | j + 6, hu => simp at hu)
    have hcell : ∀ k u, (opCells es)[k]? = some u → w.cell? (y.add k) = some u := fun k u hu => by
      have hk : k < es.length * 6 := by rw [← opCells_len]; exact (List.getElem?_eq_some_iff.1 hu).1
      obtain ⟨ev, hev⟩ : ∃ ev, es[k / 6]? = some ev := ⟨_, List.getElem?_eq_getElem (by omega)⟩
      have h1 := flat_at Opr.cells_len es (k / 6) (k % 6) ev hev (by omega)
      rw [show k / 6 * 6 + k % 6 = k by omega] at h1
      have h2 := (hp _ _ hev).2 (k % 6) u (by rw [← h1]; exact hu)
      rwa [show k / 6 * 6 + k % 6 = k by omega] at h2
    refine ⟨some y, len, cap, es, rfl, ⟨⟨by rw [opCells_len, hes], fun h0 => ⟨y, rfl, ?_, hcell⟩⟩, hes, fun e he => ?_⟩, by omega⟩
    · have hl7 : 0 < (opCells es).length := by rw [opCells_len, hes]; omega
      have hc0 := hcell 0 _ (List.getElem?_eq_getElem hl7)
      have := lt_of_cell hc0
      rwa [block_of_add] at this
    · obtain ⟨i, hi', rfl⟩ := List.mem_iff_getElem.1 he
      exact (hp i _ (List.getElem?_eq_getElem hi')).1


set_option maxRecDepth 100000 in
theorem networkMatchesReference_lifted (os : Os) (started : os.Started) (H : Type) (enc : TypeId × Value → H) :
    ReturnsInHanded {} Try.checked os 4 .any (Rows.networkMatchesReferenceSpec.pre6 enc Try.prog Try.f4 Rows.networkMatchesReferenceRow.domain false) (Rows.networkMatchesReferenceSpec.post enc Try.prog Try.f4 false true false false) := by
  refine returnsInHanded_of_change (C := Try.checked) own started (by kernel_rfl) Try.func4
    (ChangeSpec.witness6 (enc := enc) (C := Try.checked) false ⟨#[], #[.slice none 0 0], []⟩ 8 (by kernel_rfl) (by kernel_rfl) (by kernel_rfl) (by kernel_rfl)) ?_
  intro W base args ds gs before hval0 hW hcnd hsz
  have hval : ∀ (j : Nat) t v, Try.f4.params[j]? = some t → args[j]? = some v → Value.okWide Try.prog W .any base t v := hval0
  have hW' := hW
  obtain ⟨p, q, hA0, hV, rfl, hfz, hnd⟩ := hW
  have hA : DataW.TrodAll enc Try.prog W 0 (fun _ => true) true Try.f4.params.toList args.toList ds p := hA0
  rw [Try.params4] at hA hval
  obtain ⟨v0, vs0, d0, ds0, p0, q0, hargs, rfl, rfl, h0, r0⟩ := trodAll_cons hA
  obtain ⟨rfl, rfl, rfl⟩ := trodAll_nil r0
  obtain rfl : args = #[v0] := by cases args; simp_all
  obtain ⟨rfl, rfl⟩ := trodVars_none hV
  have k0 := h0
  have lt0 : ∀ x ∈ p0, x.block < W.heap.size := by obtain ⟨m, hm⟩ := k0; exact DataW.trod_lt m _ _ _ hm
  obtain ⟨A0, n0, cap0, l0, rfl, hE0, hm0⟩ := open_oprs (hval 0 40 v0 rfl rfl) h0
  refine (match_any W A0 n0 cap0 l0 hE0 hm0).mono fun e W' ⟨he, bel⟩ => ?_
  subst he
  exact ⟨_, rfl, _, _, _, [], _, [], hW', trodAll_mk1 (shut_bool Try.underlying4 _), (trodAll_cons_mk (Below.trod laidOut (by kernel_rfl) (of_decide_eq_true (by kernel_rfl)) k0 bel lt0) trodAll_mk0), rfl, bel.frame _, fun h => by cases h⟩

theorem networkMatchesReference_holds : Rows.NetworkMatchesReferenceSaid :=
  OpenClaim.holds_of_wide 4 Try.f4 rfl rfl rfl rfl rfl rfl rfl ⟨rfl, rfl, rfl, rfl, rfl⟩ rfl rfl rfl rfl rfl (by kernel_rfl) Try.func4 (by kernel_rfl)
    (of_decide_eq_true (by kernel_rfl)) (by unfold Func.isWrapper; first | (rw [if_pos (by decide +kernel)]; kernel_rfl) | (rw [if_neg (by decide +kernel)]; exact ⟨rfl, rfl⟩))
    (fun os started H enc _ => networkMatchesReference_lifted os started H enc)
#print axioms networkMatchesReference_holds

end Go.Proofs.Ythgbgkpchchicaa
