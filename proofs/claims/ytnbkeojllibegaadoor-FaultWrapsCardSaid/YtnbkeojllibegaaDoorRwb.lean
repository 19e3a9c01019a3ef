/-
  THE ROWS: for every input each of these laws returns true and leaves what it was handed as it was: FaultNames, FaultWraps. No condition.
-/
import Derived.Test.YtnbkeojllibegaaDoorLwc
import Derived.Test.YtnbkeojllibegaaDoorTie
import Derived.Test.YtnbkeojllibegaaDoorCards
import Derived.Maps.Own
import Derived.SevenTiedAt
import Derived.ChangeVars
import Derived.JoinedOf
import Derived.LaidLaws
import Derived.LaidHandle
import Derived.Lib.LaidTab
import Derived.Stop.Joined
import Derived.Stop.LaidErr
import Derived.Deep.Fields
namespace Go.Proofs.YtnbkeojllibegaaDoor
open Go.ChangeShapes Go.WideShapes Go.ChangeAt Go.RowKit
open Go.ChangeMaps (open_string shut_string)
set_option linter.unusedVariables false
set_option linter.unusedSimpArgs false
theorem own : ownKnob Tryd.prog.godebug = none := by kernel_rfl
theorem laidOut : laidOutB Tryd.prog = true := by kernel_rfl
theorem trod_Strs {H : Type} {enc : TypeId × Value → H} {P : Program} {w : World} {spare : Nat → Bool} {held : Bool} {t e : TypeId} {fuel : Nat} {v : Value} {x : DataW H × List MemPlace}
    (ht : P.underlying t = some (.slice e)) (he : P.underlying e = some .string) (hc : P.cellsOf e = 1) (hf : DataW.trod enc P w 0 spare held fuel t [v] = some x) :
    ∃ a len cap ss, v = .slice a len cap ∧ Strs w a len ss ∧ len ≤ maxLen := by
  rcases open_strings ht he hc hf with ⟨hcs, _⟩ | ⟨x, l, c, ss, hcs, _, hl, hm, hz, hp, hcell, hws⟩
  · simp at hcs
    exact ⟨none, 0, 0, [], hcs, ⟨Reads.none_, by simp⟩, by unfold maxLen; omega⟩
  · simp at hcs
    have hzl : l ≤ ss.length := by rw [hz]; split <;> omega
    refine ⟨some x, l, c, ss.take l, hcs, ⟨⟨by simp; omega, fun h0 => ⟨x, rfl, ?_, fun j u hu => ?_⟩⟩, fun s hs => hws s (List.mem_of_mem_take hs)⟩, by omega⟩
    · have hc0 := hcell 0 (by omega)
      have := lt_of_cell hc0
      rwa [block_of_add] at this
    · simp only [List.getElem?_map, Option.map_eq_some_iff] at hu
      obtain ⟨y, hy, rfl⟩ := hu
      have hj : j < l := by
        have := (List.getElem?_eq_some_iff.1 hy).1
        simp at this; omega
      rw [List.getElem?_take_of_lt hj] at hy
      rw [hcell j (by omega)]
      simp [List.getD, hy]
theorem one_of {α : Type} {a b : α} (h : [a] = [b]) : a = b := by injection h
theorem cells24 : Tryd.prog.cellsOf 24 = 5 := by kernel_rfl
theorem cells9 : Tryd.prog.cellsOf 9 = 1 := by kernel_rfl
set_option maxRecDepth 100000 in
theorem open_err {H : Type} {enc : TypeId × Value → H} {w : World} {spare : Nat → Bool} {held : Bool} {v : Value} {d : DataW H} {p : List MemPlace} {r : Reach} {b0 : Nat}
    (hv : Value.okWide Tryd.prog w r b0 24 v) (h : DataW.Trod enc Tryd.prog w 0 spare held 24 v d p) :
    ∃ nl A n cap c a fl ss, v = errE nl A n cap c a fl ∧ Strs w A n ss ∧ n ≤ maxLen ∧ (Lit.int .i64 c).wf = true ∧ (Lit.int .i64 a).wf = true := by
  obtain ⟨v0, v1, v2, v3, v4, y0, y1, y2, y3, y4, n, rfl, _, _, g0, g1, g2, g3, g4⟩ := open_agg5 Tryd.underlying24 (by kernel_rfl) cells24 hv h
  obtain ⟨b0, e0, _⟩ := DataW.trod_bool Tryd.underlying4 g0
  obtain ⟨A, len, cap, ss, e1, hS, hm⟩ := trod_Strs Tryd.underlying22 Tryd.underlying9 cells9 g1
  obtain ⟨c, e2, _, w2⟩ := DataW.trod_int Tryd.underlying3 g2
  obtain ⟨a, e3, _, w3⟩ := DataW.trod_int Tryd.underlying3 g3
  obtain ⟨b4, e4, _⟩ := DataW.trod_bool Tryd.underlying4 g4
  exact ⟨b0, A, len, cap, c, a, b4, ss, by rw [one_of e0, e1, one_of e2, one_of e3, one_of e4]; rfl, hS, hm, w2, w3⟩
abbrev L32 : String × DataW Unit := ("math/bits.deBruijn32tab", Rows.laid_math_bits_deBruijn32tab)
abbrev L64 : String × DataW Unit := ("math/bits.deBruijn64tab", Rows.laid_math_bits_deBruijn64tab)
abbrev LP : String × DataW Unit := ("internal/strconv.uint64pow10", Rows.laid_internal_strconv_uint64pow10)
abbrev LE : String × DataW Unit := ("errors.errorType", Rows.laid_errors_errorType)
abbrev LN : String × DataW Unit := ("mooring/fault.names", Rows.laid_mooring_fault_names)
abbrev laidL : List (String × DataW Unit) := [L32, L64, LP, LE, LN]
theorem met_two {W : World} (h : laidMetH Tryd.prog laidL W) : laidMet Tryd.prog [L32, L64, LP, LN] W ∧ handlesMet Tryd.prog [LE] W := h
theorem gPT : (Tryd.prog.globals[2]?).map (·.type) = some 101 := by kernel_rfl
theorem gN : Tryd.prog.globalNamed "mooring/fault.names" = some 0 := by kernel_rfl
theorem gNT : (Tryd.prog.globals[0]?).map (·.type) = some 54 := by kernel_rfl
theorem gE : Tryd.prog.globalNamed "errors.errorType" = some 1 := by kernel_rfl
theorem rt : (Tryd.prog.cutTypes.find? (·.1 == "internal/reflectlite.rtype")).map (·.2) = some 78 := by kernel_rfl
theorem oneRow : ((List.range 138).filter fun t => Tryd.prog.rowNamed t [101, 114, 114, 111, 114]) = [28] := by kernel_rfl
theorem tySize : Tryd.prog.types.size = 138 := by kernel_rfl
theorem cellsPT : Tryd.prog.cellsOf 101 = 20 := by kernel_rfl
theorem cellsPE : Tryd.prog.cellsOf 93 = 1 := by kernel_rfl
theorem cells54 : Tryd.prog.cellsOf 54 = 13 := by kernel_rfl
theorem pow_is : (Rows.laid_internal_strconv_uint64pow10 : DataW Unit) = Lib.tabData .u64 Lib.pow10Tab := by rfl
theorem pow_of {W : World} (h : laidMetH Tryd.prog laidL W) : Pow W := by
  have h3 := laidMet.tail (laidMet.tail (met_two h).1)
  rw [show LP = ("internal/strconv.uint64pow10", Lib.tabData .u64 Lib.pow10Tab) by rw [← pow_is]] at h3
  have ht := Lib.tabIs_of_head gPow gPT Tryd.underlying101 Tryd.underlying93 cellsPE cellsPT h3
  exact ⟨lt_of_cell (a := ⟨2, 0, none⟩) (ht.cell gPow 0 (by rw [Lib.pow10Tab_length]; omega)), ht⟩
theorem err_of {W : World} (h : laidMetH Tryd.prog laidL W) : Err W := by
  obtain ⟨name, u, ty, e1, e2, e3, e4, e5⟩ := (met_two h).2 _ (List.mem_singleton.2 rfl)
  have en : name = [101, 114, 114, 111, 114] := (Option.some.inj e1).symm
  subst en
  obtain rfl := Option.some.inj (rt.symm.trans e2)
  have hm : ty ∈ (List.range 138).filter fun t => Tryd.prog.rowNamed t [101, 114, 114, 111, 114] := List.mem_filter.2 ⟨List.mem_range.2 (by rw [← tySize]; exact e3), e4⟩
  rw [oneRow] at hm
  obtain rfl := List.mem_singleton.1 hm
  have hh : typeHandle Tryd.prog 28 = .pointer (some ⟨5, 28, none⟩) := by kernel_rfl
  rw [hh] at e5
  exact World.var?_cell gE e5 0
theorem names_is : (Rows.laid_mooring_fault_names : DataW Unit) = .agg (nmL.map fun s => .lit (.string s.data.toList)) := rfl
theorem names_cells {W : World} {fuel : Nat} {cs : List Value} {p : List MemPlace}
    (h : DataW.trod (fun _ => ()) Tryd.prog W 0 (fun _ => true) false fuel 54 cs = some (Rows.laid_mooring_fault_names, p)) : ∀ i, i < 13 → cs[i]? = some (.string (nm i)) := by
  obtain ⟨xs, m, rfl, hx, hl, hxl, hg⟩ := DataW.trod_array Tryd.underlying54 h
  rw [cells54] at hl
  have hxs : xs.map (·.1) = nmL.map fun s => (.lit (.string s.data.toList) : DataW Unit) := by
    have := congrArg Prod.fst hx
    rw [names_is] at this
    simpa using this.symm
  intro i hi
  have h1 := hg i hi
  rw [cells9, Nat.mul_one] at h1
  obtain ⟨x, hxi⟩ : ∃ x, xs[i]? = some x := ⟨_, List.getElem?_eq_getElem (by omega)⟩
  rw [hxi] at h1
  obtain ⟨s, e, hxe, _⟩ := DataW.trod_string Tryd.underlying9 h1
  have h2 : (xs.map (·.1))[i]? = (nmL.map fun s => (.lit (.string s.data.toList) : DataW Unit))[i]? := by rw [hxs]
  have hil : i < nmL.length := hi
  simp only [List.getElem?_map, hxi, Option.map_some, List.getElem?_eq_getElem hil, Option.some.injEq] at h2
  rw [hxe] at h2
  simp only [DataW.lit.injEq, Lit.string.injEq] at h2
  have hs : s = nm i := by
    have : nm i = nmL[i] := by unfold nm; simp [List.getD, List.getElem?_eq_getElem hil]
    rw [this]
    cases s; rename_i sd
    cases hn : nmL[i]; rename_i nd
    rw [hn] at h2
    simp only at h2
    rw [Array.toList_inj.1 h2]
  rw [← hs]
  have := congrArg (·[0]?) e
  simpa [List.getElem?_take, List.getElem?_drop] using this
theorem nms_of {W : World} (h : laidMetH Tryd.prog laidL W) : Nms W := by
  obtain ⟨ps, ⟨g', t', cs, fuel, p, q, hg', ht', hvar, hd, _, _⟩, _⟩ := laidMet.tail (laidMet.tail (laidMet.tail (met_two h).1))
  obtain rfl := Option.some.inj (gN.symm.trans hg')
  obtain rfl := Option.some.inj (gNT.symm.trans ht')
  have hcs := names_cells hd
  have hc : ∀ n, n < 13 → W.cell? ⟨0, n, none⟩ = some (.string (nm n)) := fun n hn => by
    rw [World.var?_cell gN hvar n, ← Array.getElem?_toList]
    exact hcs n hn
  exact ⟨lt_of_cell (a := ⟨0, 0, none⟩) (hc 0 (by omega)), hc⟩
theorem tab_of {W : World} (h : laidMetH Tryd.prog laidL W) : Laid W := ⟨err_of h, nms_of h, pow_of h⟩
def cells_of (d : DataW Unit) : List Value := match d with
  | .agg ds => ds.map fun x => match x with
    | .lit (.int k n) => .int k n
    | .lit (.string s) => .string ⟨s.toArray⟩
    | _ => .nilIface
  | _ => []
/-- The settled world, the five variables laid: the witness. -/
noncomputable def laidWorld (os : Os) : World :=
  let w0 := World.holding Tryd.prog os ⟨#[], #[], []⟩
  let put (h : Array Obj) (g : Nat) (cs : List Value) : Array Obj := h.modify g fun o => match o with
    | .cells _ t frozen => .cells cs.toArray t frozen
    | o => o
  { w0 with heap := put (put (put (put (put w0.heap 0 (cells_of LN.2)) 1 [.iface 78 (.agg #[.pointer (some ⟨5, 28, none⟩)])]) 2 (cells_of LP.2)) 3 (cells_of L32.2)) 4 (cells_of L64.2) }
theorem laid_met (os : Os) (args : Array Value) : laidMetH Tryd.prog laidL ((laidWorld os).forCall (fun _ _ => 0) ⟨#[], args, []⟩).memory :=
  laidMetH_of_parts (show laidMet Tryd.prog [L32, L64, LP, LN] _ from laidMet_of_run' 8 (by kernel_rfl) (by kernel_rfl)) (by kernel_rfl)


set_option maxRecDepth 100000 in
theorem faultNames_lifted (os : Os) (started : os.Started) (H : Type) (enc : TypeId × Value → H) :
    ReturnsInHanded {} Tryd.checked os 5 .any (fun w args => (Rows.faultNamesSpec.pre enc Tryd.prog Tryd.f5 [] false w args ∧ laidMetH Tryd.prog Rows.faultNamesRow.laid w) ∧ sizedMet enc Tryd.prog Tryd.f5 (OpenSpec.ofChange Rows.faultNamesSpec) false w args) (Rows.faultNamesSpec.post enc Tryd.prog Tryd.f5 false true false false) := by
  refine returnsInHanded_of_change_and (C := Tryd.checked) (X := fun w _ => laidMetH Tryd.prog Rows.faultNamesRow.laid w) (fun _ _ _ hh h => h.of_heap hh) own started (by kernel_rfl) Tryd.func5
    (ChangeSpec.witness_at (enc := enc) (C := Tryd.checked) (os := os) (X := fun w _ => laidMetH Tryd.prog Rows.faultNamesRow.laid w) false (laidWorld os) #[.int .i64 0, .agg #[.bool false, .slice none 0 0, .int .i64 0, .int .i64 0, .bool false]] 8 rfl (by kernel_rfl) (by kernel_rfl) (by kernel_rfl) (by kernel_rfl) (by kernel_rfl) (laid_met os _)) ?_
  intro W base args ds gs before hval0 hW hcnd hsz hL hno
  have hT := tab_of hL
  have hval : ∀ (j : Nat) t v, Tryd.f5.params[j]? = some t → args[j]? = some v → Value.okWide Tryd.prog W .any base t v := hval0
  have hW' := hW
  obtain ⟨p, q, hA0, hV, rfl, hfz, hnd⟩ := hW
  have hA : DataW.TrodAll enc Tryd.prog W 0 (fun _ => true) true Tryd.f5.params.toList args.toList ds p := hA0
  rw [Tryd.params5] at hA hval
  obtain ⟨v0, vs0, d0, ds0, p0, q0, hargs, rfl, rfl, h0, r0⟩ := trodAll_cons hA
  obtain ⟨v1, vs1, d1, ds1, p1, q1, rfl, rfl, rfl, h1, r1⟩ := trodAll_cons r0
  obtain ⟨rfl, rfl, rfl⟩ := trodAll_nil r1
  obtain rfl : args = #[v0, v1] := by cases args; simp_all
  obtain ⟨rfl, rfl⟩ := trodVars_none hV
  have k0 := h0
  have lt0 : ∀ x ∈ p0, x.block < W.heap.size := by obtain ⟨m, hm⟩ := k0; exact DataW.trod_lt m _ _ _ hm
  obtain ⟨a0, rfl, e0, f0, w0⟩ := open_int Tryd.underlying3 (hval 0 3 v0 rfl rfl) h0
  have k1 := h1
  have lt1 : ∀ x ∈ p1, x.block < W.heap.size := by obtain ⟨m, hm⟩ := k1; exact DataW.trod_lt m _ _ _ hm
  obtain ⟨nl1, A1, n1, cap1, c1, a1, fl1, ss1, rfl, hS1, hm1, wc1, wa1⟩ := open_err (hval 1 24 v1 rfl rfl) h1
  have b0 := bounds_i64 w0
  refine (names_any W a0 nl1 fl1 A1 n1 cap1 c1 a1 ss1 hS1 hm1 (bounds_i64 wc1).1 (bounds_i64 wc1).2 (bounds_i64 wa1).1 (bounds_i64 wa1).2 hT).mono fun e W' ⟨he, bel⟩ => ?_
  subst he
  exact ⟨_, rfl, _, _, _, [], _, [], hW', trodAll_mk1 (shut_bool Tryd.underlying4 _), (trodAll_cons_mk (Below.trod laidOut (by kernel_rfl) (of_decide_eq_true (by kernel_rfl)) k0 bel lt0) (trodAll_cons_mk (Below.trod laidOut (by kernel_rfl) (of_decide_eq_true (by kernel_rfl)) k1 bel lt1) trodAll_mk0)), rfl, bel.frame _, fun h => by cases h⟩

theorem faultNames_holds : Rows.FaultNamesSaid :=
  OpenClaim.holds_of_wide 5 Tryd.f5 rfl rfl rfl rfl rfl rfl rfl ⟨rfl, rfl, rfl, rfl, rfl⟩ rfl rfl rfl rfl rfl (by kernel_rfl) Tryd.func5 (by kernel_rfl)
    (of_decide_eq_true (by kernel_rfl)) (by unfold Func.isWrapper; first | (rw [if_pos (by decide +kernel)]; kernel_rfl) | (rw [if_neg (by decide +kernel)]; exact ⟨rfl, rfl⟩))
    (fun os started H enc _ => faultNames_lifted os started H enc)
theorem faultNamesCardSaid_holds : Rows.FaultNamesCardSaid :=
  Claim7.holds_tied_plain_at .later [] [.data, .data, .data, .handle, .data] true (true, "b84fa25a7a53f22e4a8847d74a5f1d0bd15e230f3295bb5eeb0b3591be23cc4c") true
    faultNames_holds (fun _ h => by cases h) (by kernel_rfl) (fun _ h => by cases h) faultNames_row_tie rfl ⟨rfl, rfl⟩ (by kernel_rfl) rfl
    (fun f fn hf hfn => by
      obtain rfl : f = 5 := Option.some.inj ((show Tryd.prog.funcNamed "mooring/mooringlaw02.FaultNames" = some 5 by kernel_rfl).symm.trans hf) |>.symm
      obtain rfl : fn = Tryd.f5 := (Option.some.inj (Tryd.func5.symm.trans hfn)).symm
      exact ⟨by kernel_rfl, fun j t ht => by
        rw [Tryd.params5] at ht
        have hm : t ∈ [3, 24] := by have := Array.mem_of_getElem? ht; simpa using this
        have ha := (show ([3, 24].all fun t => !Tryd.prog.wantsStandIn t) = true by kernel_rfl)
        have := List.all_eq_true.1 ha t hm
        have hw : Tryd.prog.wantsStandIn t = false := by simpa using this
        exact hw⟩)
    (by kernel_rfl)
#print axioms faultNamesCardSaid_holds


set_option maxRecDepth 100000 in
theorem faultWraps_lifted (os : Os) (started : os.Started) (H : Type) (enc : TypeId × Value → H) :
    ReturnsInHanded {} Tryd.checked os 6 .any (fun w args => (Rows.faultWrapsSpec.pre enc Tryd.prog Tryd.f6 [] false w args ∧ laidMetH Tryd.prog Rows.faultWrapsRow.laid w) ∧ sizedMet enc Tryd.prog Tryd.f6 (OpenSpec.ofChange Rows.faultWrapsSpec) false w args) (Rows.faultWrapsSpec.post enc Tryd.prog Tryd.f6 false true false false) := by
  refine returnsInHanded_of_change_and (C := Tryd.checked) (X := fun w _ => laidMetH Tryd.prog Rows.faultWrapsRow.laid w) (fun _ _ _ hh h => h.of_heap hh) own started (by kernel_rfl) Tryd.func6
    (ChangeSpec.witness_at (enc := enc) (C := Tryd.checked) (os := os) (X := fun w _ => laidMetH Tryd.prog Rows.faultWrapsRow.laid w) false (laidWorld os) #[.agg #[.bool false, .slice none 0 0, .int .i64 0, .int .i64 0, .bool false], .string ByteArray.empty] 8 rfl (by kernel_rfl) (by kernel_rfl) (by kernel_rfl) (by kernel_rfl) (by kernel_rfl) (laid_met os _)) ?_
  intro W base args ds gs before hval0 hW hcnd hsz hL hno
  have hT := tab_of hL
  have hval : ∀ (j : Nat) t v, Tryd.f6.params[j]? = some t → args[j]? = some v → Value.okWide Tryd.prog W .any base t v := hval0
  have hW' := hW
  obtain ⟨p, q, hA0, hV, rfl, hfz, hnd⟩ := hW
  have hA : DataW.TrodAll enc Tryd.prog W 0 (fun _ => true) true Tryd.f6.params.toList args.toList ds p := hA0
  rw [Tryd.params6] at hA hval
  obtain ⟨v0, vs0, d0, ds0, p0, q0, hargs, rfl, rfl, h0, r0⟩ := trodAll_cons hA
  obtain ⟨v1, vs1, d1, ds1, p1, q1, rfl, rfl, rfl, h1, r1⟩ := trodAll_cons r0
  obtain ⟨rfl, rfl, rfl⟩ := trodAll_nil r1
  obtain rfl : args = #[v0, v1] := by cases args; simp_all
  obtain ⟨rfl, rfl⟩ := trodVars_none hV
  have k0 := h0
  have lt0 : ∀ x ∈ p0, x.block < W.heap.size := by obtain ⟨m, hm⟩ := k0; exact DataW.trod_lt m _ _ _ hm
  obtain ⟨nl0, A0, n0, cap0, c0, a0, fl0, ss0, rfl, hS0, hm0, wc0, wa0⟩ := open_err (hval 0 24 v0 rfl rfl) h0
  have k1 := h1
  have lt1 : ∀ x ∈ p1, x.block < W.heap.size := by obtain ⟨m, hm⟩ := k1; exact DataW.trod_lt m _ _ _ hm
  obtain ⟨a1, rfl, e1, f1, w1⟩ := open_string Tryd.underlying9 (hval 1 9 v1 rfl rfl) h1
  refine (wraps_any W nl0 fl0 A0 n0 cap0 c0 a0 ss0 a1 hS0 hm0 (bounds_i64 wc0).1 (bounds_i64 wc0).2 w1 hT).mono fun e W' ⟨he, bel⟩ => ?_
  subst he
  exact ⟨_, rfl, _, _, _, [], _, [], hW', trodAll_mk1 (shut_bool Tryd.underlying4 _), (trodAll_cons_mk (Below.trod laidOut (by kernel_rfl) (of_decide_eq_true (by kernel_rfl)) k0 bel lt0) (trodAll_cons_mk (Below.trod laidOut (by kernel_rfl) (of_decide_eq_true (by kernel_rfl)) k1 bel lt1) trodAll_mk0)), rfl, bel.frame _, fun h => by cases h⟩

theorem faultWraps_holds : Rows.FaultWrapsSaid :=
  OpenClaim.holds_of_wide 6 Tryd.f6 rfl rfl rfl rfl rfl rfl rfl ⟨rfl, rfl, rfl, rfl, rfl⟩ rfl rfl rfl rfl rfl (by kernel_rfl) Tryd.func6 (by kernel_rfl)
    (of_decide_eq_true (by kernel_rfl)) (by unfold Func.isWrapper; first | (rw [if_pos (by decide +kernel)]; kernel_rfl) | (rw [if_neg (by decide +kernel)]; exact ⟨rfl, rfl⟩))
    (fun os started H enc _ => faultWraps_lifted os started H enc)
theorem faultWrapsCardSaid_holds : Rows.FaultWrapsCardSaid :=
  Claim7.holds_tied_plain_at .later [] [.data, .data, .data, .handle, .data] true (true, "b84fa25a7a53f22e4a8847d74a5f1d0bd15e230f3295bb5eeb0b3591be23cc4c") true
    faultWraps_holds (fun _ h => by cases h) (by kernel_rfl) (fun _ h => by cases h) faultWraps_row_tie rfl ⟨rfl, rfl⟩ (by kernel_rfl) rfl
    (fun f fn hf hfn => by
      obtain rfl : f = 6 := Option.some.inj ((show Tryd.prog.funcNamed "mooring/mooringlaw02.FaultWraps" = some 6 by kernel_rfl).symm.trans hf) |>.symm
      obtain rfl : fn = Tryd.f6 := (Option.some.inj (Tryd.func6.symm.trans hfn)).symm
      exact ⟨by kernel_rfl, fun j t ht => by
        rw [Tryd.params6] at ht
        have hm : t ∈ [24, 9] := by have := Array.mem_of_getElem? ht; simpa using this
        have ha := (show ([24, 9].all fun t => !Tryd.prog.wantsStandIn t) = true by kernel_rfl)
        have := List.all_eq_true.1 ha t hm
        have hw : Tryd.prog.wantsStandIn t = false := by simpa using this
        exact hw⟩)
    (by kernel_rfl)
#print axioms faultWrapsCardSaid_holds

end Go.Proofs.YtnbkeojllibegaaDoor
