/-
  THE ROWS: for every input each of these laws returns true and leaves what it was handed as it was: EventMatchesReference. No condition.
-/
import Derived.Test.YtgnegllehcpdpaaDoorLwf
import Derived.Test.YtgnegllehcpdpaaDoorTie
import Derived.Test.YtgnegllehcpdpaaDoorCards
import Derived.Maps.Own
import Derived.SevenTiedAt
import Derived.ChangeVars
import Derived.JoinedOf
import Derived.LaidLaws
import Derived.Stop.LaidErr
import Derived.Lib.LaidTab
import Derived.Deep.Slices
import Derived.Deep.Fields
import Derived.Lib.SmallJoins
import Derived.ChangeSame
namespace Go.Proofs.YtgnegllehcpdpaaDoor
open Go.ChangeShapes Go.WideShapes Go.ChangeAt Go.RowKit
open Go.ChangeMaps (open_string shut_string)
set_option linter.unusedVariables false
set_option linter.unusedSimpArgs false
theorem own : ownKnob Tryd.prog.godebug = none := by kernel_rfl
theorem one_of {α : Type} {a b : α} (h : [a] = [b]) : a = b := by injection h
theorem cells25 : Tryd.prog.cellsOf 25 = 7 := by kernel_rfl
theorem cells23 : Tryd.prog.cellsOf 23 = 1 := by kernel_rfl
theorem cells5 : Tryd.prog.cellsOf 5 = 1 := by kernel_rfl
theorem trod_bys {H : Type} {enc : TypeId × Value → H} {w : World} {spare : Nat → Bool} {held : Bool} {fuel : Nat} {v : Value} {x : DataW H × List MemPlace}
    (hf : DataW.trod enc Tryd.prog w 0 spare held fuel 23 [v] = some x) : ∃ A n c bs, v = .slice A n c ∧ Bys w A n bs ∧ n ≤ maxLen := by
  rcases open_ints Tryd.underlying23 Tryd.underlying5 cells5 hf with ⟨hcs, _⟩ | ⟨y, l, c, zs, hcs, _, hl, hm, hz, hp, hcell, hwz⟩
  · simp at hcs
    exact ⟨none, 0, 0, [], hcs, Bys.none_ w, by unfold maxLen; omega⟩
  · simp at hcs
    have hzl : l ≤ zs.length := by rw [hz]; split <;> omega
    refine ⟨some y, l, c, (zs.take l).map Int.toNat, hcs, Bys.of_ints (c := c) ⟨by simp; omega, hl, fun n hn => hwz n (List.mem_of_mem_take hn), fun h0 => ?_⟩, by omega⟩
    have hc0 := hcell 0 (by omega)
    have hsp : (y.add 0).spot = none := World.cell?_spot hc0
    obtain ⟨b, o, sp⟩ := y
    simp [Addr.add] at hsp
    subst hsp
    have := lt_of_cell hc0
    refine ⟨b, o, rfl, by simpa [Addr.add] using this, fun i hi => ?_⟩
    have h1 := hcell i (by omega)
    rw [add_none] at h1
    rw [h1]
    simp [List.getD, List.getElem?_take_of_lt hi]
structure EvW (e : Ev) : Prop where
  k : (Lit.int .i64 e.kind).wf = true
  w : (Lit.int .i64 e.who).wf = true
  c : (Lit.int .i64 e.code).wf = true
theorem open_ev7 {H : Type} {enc : TypeId × Value → H} {w : World} {spare : Nat → Bool} {held : Bool} {n0 n1 n2 n3 n4 n5 n6 : Nat} {v0 v1 v2 v3 v4 v5 v6 : Value} {y0 y1 y2 y3 y4 y5 y6 : DataW H × List MemPlace}
    (g0 : DataW.trod enc Tryd.prog w 0 spare held n0 3 [v0] = some y0) (g1 : DataW.trod enc Tryd.prog w 0 spare held n1 3 [v1] = some y1) (g2 : DataW.trod enc Tryd.prog w 0 spare held n2 22 [v2] = some y2)
    (g3 : DataW.trod enc Tryd.prog w 0 spare held n3 22 [v3] = some y3) (g4 : DataW.trod enc Tryd.prog w 0 spare held n4 3 [v4] = some y4) (g5 : DataW.trod enc Tryd.prog w 0 spare held n5 23 [v5] = some y5)
    (g6 : DataW.trod enc Tryd.prog w 0 spare held n6 9 [v6] = some y6) :
    ∃ e : Ev, [v0, v1, v2, v3, v4, v5, v6] = e.cells ∧ EvOk w e ∧ EvW e := by
  obtain ⟨a0, e0, _, w0⟩ := DataW.trod_int Tryd.underlying3 g0
  obtain ⟨a1, e1, _, w1⟩ := DataW.trod_int Tryd.underlying3 g1
  obtain ⟨a2, e2, _, w2⟩ := DataW.trod_int Tryd.underlying22 g2
  obtain ⟨a3, e3, _, w3⟩ := DataW.trod_int Tryd.underlying22 g3
  obtain ⟨a4, e4, _, w4⟩ := DataW.trod_int Tryd.underlying3 g4
  obtain ⟨A, n, c, bs, rfl, hB, hn⟩ := trod_bys g5
  obtain ⟨s, e6, _, w6⟩ := DataW.trod_string Tryd.underlying9 g6
  have b2 := bounds_u64 w2
  have b3 := bounds_u64 w3
  exact ⟨⟨a0, a1, a2, a3, a4, A, n, c, bs, s⟩, by rw [one_of e0, one_of e1, one_of e2, one_of e3, one_of e4, one_of e6]; rfl, ⟨hB, hn, w6, b2.1, by show a2 < 18446744073709551616; have := b2.2; omega, b3.1, by show a3 < 18446744073709551616; have := b3.2; omega⟩, ⟨w0, w1, w4⟩⟩
theorem list_of {α : Type} {p : Nat → α → Prop} : ∀ (n : Nat), (∀ i, i < n → ∃ x, p i x) → ∃ l : List α, l.length = n ∧ ∀ i x, l[i]? = some x → p i x
  | 0, _ => ⟨[], rfl, by simp⟩
  | n + 1, h => by
    obtain ⟨l, hl, hp⟩ := list_of n fun i hi => h i (by omega)
    obtain ⟨x, hx⟩ := h n (by omega)
    refine ⟨l ++ [x], by simp [hl], fun i y hy => ?_⟩
    by_cases hi : i < n
    · exact hp i y (by rwa [List.getElem?_append_left (by omega)] at hy)
    · rw [List.getElem?_append_right (by omega)] at hy
      have hlt := (List.getElem?_eq_some_iff.1 hy).1
      simp at hlt
      have : i = n := by omega
      subst this
      simp [hl] at hy
      exact hy ▸ hx
theorem open_evs {H : Type} {enc : TypeId × Value → H} {w : World} {spare : Nat → Bool} {held : Bool} {v : Value} {d : DataW H} {p : List MemPlace} {r : Reach} {b0 : Nat}
    (hv : Value.okWide Tryd.prog w r b0 28 v) (h : DataW.Trod enc Tryd.prog w 0 spare held 28 v d p) :
    ∃ A n cap es, v = .slice A n cap ∧ Evs w A n es ∧ n ≤ maxLen ∧ n ≤ cap ∧ ∀ e ∈ es, EvW e := by
  obtain ⟨a, len, cap, rfl⟩ := okWide_slice Tryd.underlying28 hv
  obtain ⟨fuel, hf⟩ := h
  rcases open_slice_fields Tryd.underlying28 Tryd.underlying25 (by kernel_rfl) cells25 hf with ⟨hcs, _⟩ | ⟨y, l, c, m, D, Pl, hcs, _, hl, hm, hmm, _, hi⟩
  · simp [Value.cells] at hcs
    obtain ⟨rfl, rfl, rfl⟩ := hcs
    exact ⟨none, 0, 0, [], rfl, Evs.none_ w, by unfold maxLen; omega, Nat.le_refl _, by simp⟩
  · simp [Value.cells] at hcs
    obtain ⟨rfl, rfl, rfl⟩ := hcs
    have hlm : len ≤ m := by rw [hmm]; split <;> omega
    obtain ⟨es, hes, hp⟩ := list_of (p := fun i (e : Ev) => EvOk w e ∧ EvW e ∧ ∀ j u, e.cells[j]? = some u → w.cell? (y.add (i * 7 + j)) = some u) len (fun i hil => by
      obtain ⟨ys, n, _, _, _, hj⟩ := hi i (by omega)
      obtain ⟨v0, y0, c0, _, g0⟩ := hj 0 _ rfl
      obtain ⟨v1, y1, c1, _, g1⟩ := hj 1 _ rfl
      obtain ⟨v2, y2, c2, _, g2⟩ := hj 2 _ rfl
      obtain ⟨v3, y3, c3, _, g3⟩ := hj 3 _ rfl
      obtain ⟨v4, y4, c4, _, g4⟩ := hj 4 _ rfl
      obtain ⟨v5, y5, c5, _, g5⟩ := hj 5 _ rfl
      obtain ⟨v6, y6, c6, _, g6⟩ := hj 6 _ rfl
      obtain ⟨e, he, hok, hw⟩ := open_ev7 g0 g1 g2 g3 g4 g5 g6
      refine ⟨e, hok, hw, fun j u hu => ?_⟩
      rw [← he] at hu
      match j, hu with
      | 0, hu => cases hu; exact c0
      | 1, hu => cases hu; exact c1
      | 2, hu => cases hu; exact c2
      | 3, hu => cases hu; exact c3
      | 4, hu => cases hu; exact c4
      | 5, hu => cases hu; exact c5
      | 6, hu => cases hu; exact c6
      | j + 7, hu => simp at hu)
    have hmem : ∀ e ∈ es, EvOk w e ∧ EvW e := fun e he => by
      obtain ⟨i, hi', rfl⟩ := List.mem_iff_getElem.1 he
      have := hp i _ (List.getElem?_eq_getElem hi')
      exact ⟨this.1, this.2.1⟩
    have hcell : ∀ k u, (evCells es)[k]? = some u → w.cell? (y.add k) = some u := fun k u hu => by
      have hk : k < es.length * 7 := by rw [← evCells_len]; exact (List.getElem?_eq_some_iff.1 hu).1
      obtain ⟨ev, hev⟩ : ∃ ev, es[k / 7]? = some ev := ⟨_, List.getElem?_eq_getElem (by omega)⟩
      have h1 := flat_at Ev.cells_len es (k / 7) (k % 7) ev hev (by omega)
      rw [show k / 7 * 7 + k % 7 = k by omega] at h1
      have h2 := (hp _ _ hev).2.2 (k % 7) u (by rw [← h1]; exact hu)
      rwa [show k / 7 * 7 + k % 7 = k by omega] at h2
    refine ⟨some y, len, cap, es, rfl, ⟨⟨by rw [evCells_len, hes], fun h0 => ⟨y, rfl, ?_, hcell⟩⟩, hes, fun e he => (hmem e he).1⟩, by omega, hl, fun e he => (hmem e he).2⟩
    have hl7 : 0 < (evCells es).length := by rw [evCells_len, hes]; omega
    have hc0 := hcell 0 _ (List.getElem?_eq_getElem hl7)
    have := lt_of_cell hc0
    rwa [block_of_add] at this
open Go.Deep in
theorem open_ev {H : Type} {enc : TypeId × Value → H} {w : World} {spare : Nat → Bool} {held : Bool} {v : Value} {d : DataW H} {p : List MemPlace} {r : Reach} {b0 : Nat}
    (hv : Value.okWide Tryd.prog w r b0 25 v) (h : DataW.Trod enc Tryd.prog w 0 spare held 25 v d p) : ∃ e : Ev, v = e.v ∧ EvOk w e ∧ EvW e := by
  obtain ⟨cs, rfl, hsz⟩ := okWide_struct Tryd.underlying25 hv
  obtain ⟨l⟩ := cs
  match l, hsz.trans cells25 with
  | [c0, c1, c2, c3, c4, c5, c6], _ =>
    obtain ⟨fuel, hf⟩ := h
    obtain ⟨xs, n, _, hx, _, hlen, hg⟩ := DataW.trod_struct Tryd.underlying25 hf
    match xs, hlen with
    | [y0, y1, y2, y3, y4, y5, y6], _ =>
      obtain ⟨e, he, hok, hw⟩ := open_ev7 (by simpa [Value.cells, cells3, cells22, cells23, cells9] using hg 0 _ rfl) (by simpa [Value.cells, cells3, cells22, cells23, cells9] using hg 1 _ rfl) (by simpa [Value.cells, cells3, cells22, cells23, cells9] using hg 2 _ rfl) (by simpa [Value.cells, cells3, cells22, cells23, cells9] using hg 3 _ rfl) (by simpa [Value.cells, cells3, cells22, cells23, cells9] using hg 4 _ rfl) (by simpa [Value.cells, cells3, cells22, cells23, cells9] using hg 5 _ rfl) (by simpa [Value.cells, cells3, cells22, cells23, cells9] using hg 6 _ rfl)
      refine ⟨e, ?_, hok, hw⟩
      have : (Value.agg ⟨[c0, c1, c2, c3, c4, c5, c6]⟩) = Value.agg ⟨e.cells⟩ := by rw [he]
      exact this
abbrev L32 : String × DataW Unit := ("math/bits.deBruijn32tab", Rows.laid_math_bits_deBruijn32tab)
abbrev L64 : String × DataW Unit := ("math/bits.deBruijn64tab", Rows.laid_math_bits_deBruijn64tab)
abbrev LP : String × DataW Unit := ("internal/strconv.uint64pow10", Rows.laid_internal_strconv_uint64pow10)
abbrev LN : String × DataW Unit := ("mooring/fault.names", Rows.laid_mooring_fault_names)
abbrev LW : String × DataW Unit := ("mooring/event.words", Rows.laid_mooring_event_words)
abbrev LM : String × DataW Unit := ("mooring/event.names", Rows.laid_mooring_event_names)
abbrev laidL : List (String × DataW Unit) := [L32, L64, LP, LN, LW, LM]
theorem gPT : (Tryd.prog.globals[3]?).map (·.type) = some 81 := by kernel_rfl
theorem gN : Tryd.prog.globalNamed "mooring/fault.names" = some 2 := by kernel_rfl
theorem gNT : (Tryd.prog.globals[2]?).map (·.type) = some 62 := by kernel_rfl
theorem gW : Tryd.prog.globalNamed "mooring/event.words" = some 0 := by kernel_rfl
theorem gWT : (Tryd.prog.globals[0]?).map (·.type) = some 45 := by kernel_rfl
theorem gM : Tryd.prog.globalNamed "mooring/event.names" = some 1 := by kernel_rfl
theorem gMT : (Tryd.prog.globals[1]?).map (·.type) = some 46 := by kernel_rfl
theorem cellsPT : Tryd.prog.cellsOf 81 = 20 := by kernel_rfl
theorem cellsPE : Tryd.prog.cellsOf 22 = 1 := by kernel_rfl
theorem pow_is : (Rows.laid_internal_strconv_uint64pow10 : DataW Unit) = Lib.tabData .u64 Lib.pow10Tab := by rfl
theorem pow_of {W : World} (h : laidMet Tryd.prog laidL W) : Pow W := by
  have h3 := laidMet.tail (laidMet.tail h)
  rw [show LP = ("internal/strconv.uint64pow10", Lib.tabData .u64 Lib.pow10Tab) by rw [← pow_is]] at h3
  have ht := Lib.tabIs_of_head gPow gPT Tryd.underlying81 Tryd.underlying22 cellsPE cellsPT h3
  exact ⟨lt_of_cell (a := ⟨3, 0, none⟩) (ht.cell gPow 0 (by rw [Lib.pow10Tab_length]; omega)), ht⟩
theorem strs_cells {W : World} {fuel : Nat} {cs : List Value} {p : List MemPlace} {T : TypeId} {L : List ByteArray} {D : DataW Unit} (hT : Tryd.prog.underlying T = some (.array L.length 9))
    (hD : D = .agg (L.map fun s => .lit (.string s.data.toList)))
    (h : DataW.trod (fun _ => ()) Tryd.prog W 0 (fun _ => true) false fuel T cs = some (D, p)) : ∀ i, i < L.length → cs[i]? = some (.string (L.getD i ByteArray.empty)) := by
  obtain ⟨xs, m, rfl, hx, hl, hxl, hg⟩ := DataW.trod_array hT h
  have hxs : xs.map (·.1) = L.map fun s => (.lit (.string s.data.toList) : DataW Unit) := by
    have := congrArg Prod.fst hx
    rw [hD] at this
    simpa using this.symm
  intro i hi
  have h1 := hg i hi
  rw [cells9, Nat.mul_one] at h1
  obtain ⟨x, hxi⟩ : ∃ x, xs[i]? = some x := ⟨_, List.getElem?_eq_getElem (by omega)⟩
  rw [hxi] at h1
  obtain ⟨s, e, hxe, _⟩ := DataW.trod_string Tryd.underlying9 h1
  have h2 : (xs.map (·.1))[i]? = (L.map fun s => (.lit (.string s.data.toList) : DataW Unit))[i]? := by rw [hxs]
  simp only [List.getElem?_map, hxi, Option.map_some, List.getElem?_eq_getElem hi, Option.some.injEq] at h2
  rw [hxe] at h2
  simp only [DataW.lit.injEq, Lit.string.injEq] at h2
  have hs : s = L.getD i ByteArray.empty := by
    have : L.getD i ByteArray.empty = L[i] := by simp [List.getD, List.getElem?_eq_getElem hi]
    rw [this]
    cases s; rename_i sd
    cases hn : L[i]; rename_i nd
    rw [hn] at h2
    simp only at h2
    rw [Array.toList_inj.1 h2]
  rw [← hs]
  have := congrArg (·[0]?) e
  simpa [List.getElem?_take, List.getElem?_drop] using this
theorem strs_of {W : World} {N : String} {g T k : Nat} {L : List ByteArray} {D : DataW Unit} {rest : List (String × DataW Unit)} (hg : Tryd.prog.globalNamed N = some g) (hgt : (Tryd.prog.globals[g]?).map (·.type) = some T)
    (hT : Tryd.prog.underlying T = some (.array L.length 9)) (hD : D = .agg (L.map fun s => .lit (.string s.data.toList))) (hk : L.length = k + 1) (h : laidMet Tryd.prog ((N, D) :: rest) W) :
    g < W.heap.size ∧ ∀ n, n < L.length → W.cell? ⟨g, n, none⟩ = some (.string (L.getD n ByteArray.empty)) := by
  obtain ⟨ps, ⟨g', t', cs, fuel, p, q, hg', ht', hvar, hd, _, _⟩, _⟩ := h
  obtain rfl := Option.some.inj (hg.symm.trans hg')
  obtain rfl := Option.some.inj (hgt.symm.trans ht')
  have hcs := strs_cells hT hD hd
  have hc : ∀ n, n < L.length → W.cell? ⟨g, n, none⟩ = some (.string (L.getD n ByteArray.empty)) := fun n hn => by
    rw [World.var?_cell hg hvar n, ← Array.getElem?_toList]
    exact hcs n hn
  exact ⟨lt_of_cell (a := ⟨g, 0, none⟩) (hc 0 (by omega)), hc⟩
theorem tab_of {W : World} (h : laidMet Tryd.prog laidL W) : Tabs W := by
  have h3 := laidMet.tail (laidMet.tail (laidMet.tail h))
  have h4 := laidMet.tail h3
  exact ⟨strs_of (L := wdL) (k := 5) gW gWT Tryd.underlying45 rfl rfl h4, strs_of (L := n2L) (k := 1) gM gMT Tryd.underlying46 rfl rfl (laidMet.tail h4), strs_of (L := nmL) (k := 12) gN gNT Tryd.underlying62 rfl rfl h3, pow_of h⟩
def cells_of (d : DataW Unit) : List Value := match d with
  | .agg ds => ds.map fun x => match x with
    | .lit (.int k n) => .int k n
    | .lit (.string s) => .string ⟨s.toArray⟩
    | _ => .nilIface
  | _ => []
/-- The settled world, the six variables laid: the witness. -/
noncomputable def laidWorld (os : Os) : World :=
  let w0 := World.holding Tryd.prog os ⟨#[], #[], []⟩
  let put (h : Array Obj) (g : Nat) (cs : List Value) : Array Obj := h.modify g fun o => match o with
    | .cells _ t frozen => .cells cs.toArray t frozen
    | o => o
  { w0 with heap := put (put (put (put (put (put w0.heap 0 (cells_of LW.2)) 1 (cells_of LM.2)) 2 (cells_of LN.2)) 3 (cells_of LP.2)) 5 (cells_of L32.2)) 6 (cells_of L64.2) }
theorem laid_met (os : Os) (args : Array Value) : laidMet Tryd.prog laidL ((laidWorld os).forCall (fun _ _ => 0) ⟨#[], args, []⟩).memory :=
  laidMet_of_run' 8 (by kernel_rfl) (by kernel_rfl)


set_option maxRecDepth 100000 in
theorem eventMatchesReference_lifted (os : Os) (started : os.Started) (H : Type) (enc : TypeId × Value → H) :
    ReturnsInHanded {} Tryd.checked os 3 .any (fun w args => (Rows.eventMatchesReferenceSpec.pre enc Tryd.prog Tryd.f3 [] false w args ∧ laidMet Tryd.prog Rows.eventMatchesReferenceRow.laid w) ∧ sizedMet enc Tryd.prog Tryd.f3 (OpenSpec.ofChange Rows.eventMatchesReferenceSpec) false w args) (Rows.eventMatchesReferenceSpec.post enc Tryd.prog Tryd.f3 false true false false) := by
  refine returnsInHanded_of_change_and (C := Tryd.checked) (X := fun w _ => laidMet Tryd.prog Rows.eventMatchesReferenceRow.laid w) (fun _ _ _ hh h => h.of_heap hh) own started (by kernel_rfl) Tryd.func3
    (ChangeSpec.witness_at (enc := enc) (C := Tryd.checked) (os := os) (X := fun w _ => laidMet Tryd.prog Rows.eventMatchesReferenceRow.laid w) false (laidWorld os) #[.agg #[.int .i64 0, .int .i64 0, .int .u64 0, .int .u64 0, .int .i64 0, .slice none 0 0, .string ByteArray.empty], .agg #[.int .i64 0, .int .i64 0, .int .u64 0, .int .u64 0, .int .i64 0, .slice none 0 0, .string ByteArray.empty]] 8 rfl (by kernel_rfl) (by kernel_rfl) (by kernel_rfl) (by kernel_rfl) (by kernel_rfl) (laid_met os _)) ?_
  intro W base args ds gs before hval0 hW hcnd hsz hL hno
  have hT := tab_of hL
  have hval : ∀ (j : Nat) t v, Tryd.f3.params[j]? = some t → args[j]? = some v → Value.okWide Tryd.prog W .any base t v := hval0
  have hW' := hW
  obtain ⟨p, q, hA0, hV, rfl, hfz, hnd⟩ := hW
  have hA : DataW.TrodAll enc Tryd.prog W 0 (fun _ => true) true Tryd.f3.params.toList args.toList ds p := hA0
  rw [Tryd.params3] at hA hval
  obtain ⟨v0, vs0, d0, ds0, p0, q0, hargs, rfl, rfl, h0, r0⟩ := trodAll_cons hA
  obtain ⟨v1, vs1, d1, ds1, p1, q1, rfl, rfl, rfl, h1, r1⟩ := trodAll_cons r0
  obtain ⟨rfl, rfl, rfl⟩ := trodAll_nil r1
  obtain rfl : args = #[v0, v1] := by cases args; simp_all
  obtain ⟨rfl, rfl⟩ := trodVars_none hV
  have k0 := h0
  have lt0 : ∀ x ∈ p0, x.block < W.heap.size := by obtain ⟨m, hm⟩ := k0; exact DataW.trod_lt m _ _ _ hm
  obtain ⟨ev0, rfl, hE0, hw0⟩ := open_ev (hval 0 25 v0 rfl rfl) h0
  have k1 := h1
  have lt1 : ∀ x ∈ p1, x.block < W.heap.size := by obtain ⟨m, hm⟩ := k1; exact DataW.trod_lt m _ _ _ hm
  obtain ⟨ev1, rfl, hE1, hw1⟩ := open_ev (hval 1 25 v1 rfl rfl) h1
  refine (matches_any ev0 ev1 W hE0 hE1 hT).mono fun e W' ⟨he, bel⟩ => ?_
  subst he
  exact ⟨_, rfl, _, _, _, [], _, [], hW', trodAll_mk1 (shut_bool Tryd.underlying4 _), (trodAll_cons_mk (Below.trod laidOut (by kernel_rfl) (of_decide_eq_true (by kernel_rfl)) k0 bel lt0) (trodAll_cons_mk (Below.trod laidOut (by kernel_rfl) (of_decide_eq_true (by kernel_rfl)) k1 bel lt1) trodAll_mk0)), rfl, bel.frame _, fun h => by cases h⟩

theorem eventMatchesReference_holds : Rows.EventMatchesReferenceSaid :=
  OpenClaim.holds_of_wide 3 Tryd.f3 rfl rfl rfl rfl rfl rfl rfl ⟨rfl, rfl, rfl, rfl, rfl⟩ rfl rfl rfl rfl rfl (by kernel_rfl) Tryd.func3 (by kernel_rfl)
    (of_decide_eq_true (by kernel_rfl)) (by unfold Func.isWrapper; first | (rw [if_pos (by decide +kernel)]; kernel_rfl) | (rw [if_neg (by decide +kernel)]; exact ⟨rfl, rfl⟩))
    (fun os started H enc _ => eventMatchesReference_lifted os started H enc)
theorem eventMatchesReferenceCardSaid_holds : Rows.EventMatchesReferenceCardSaid :=
  Claim7.holds_tied_plain_at .later [] [.data, .data, .data, .data, .data, .data] true (true, "7250aafe2bab14f4b6fc9c3fa4b10c0439cf151fd71de21fc0c7743ae83ac681") false
    eventMatchesReference_holds (fun _ h => by cases h) (by kernel_rfl) (fun _ h => by cases h) eventMatchesReference_row_tie rfl ⟨rfl, rfl⟩ (by kernel_rfl) rfl
    (fun f fn hf hfn => by
      obtain rfl : f = 3 := Option.some.inj ((show Tryd.prog.funcNamed "mooring/mooringlaw24.EventMatchesReference" = some 3 by kernel_rfl).symm.trans hf) |>.symm
      obtain rfl : fn = Tryd.f3 := (Option.some.inj (Tryd.func3.symm.trans hfn)).symm
      exact ⟨by kernel_rfl, fun j t ht => by
        rw [Tryd.params3] at ht
        have hm : t ∈ [25, 25] := by have := Array.mem_of_getElem? ht; simpa using this
        have ha := (show ([25, 25].all fun t => !Tryd.prog.wantsStandIn t) = true by kernel_rfl)
        have := List.all_eq_true.1 ha t hm
        have hw : Tryd.prog.wantsStandIn t = false := by simpa using this
        exact hw⟩)
    (by kernel_rfl)
#print axioms eventMatchesReferenceCardSaid_holds

end Go.Proofs.YtgnegllehcpdpaaDoor
