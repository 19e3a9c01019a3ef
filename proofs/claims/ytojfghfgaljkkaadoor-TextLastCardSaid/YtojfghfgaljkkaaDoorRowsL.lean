/-
  THE ROWS: for every input each of these laws returns true and leaves what it was handed as it was: TextLast. No condition.
-/
import Derived.Test.YtojfghfgaljkkaaDoorLawL
import Derived.Test.YtojfghfgaljkkaaDoorTie
import Derived.Test.YtojfghfgaljkkaaDoorCards
import Derived.Maps.Own
import Derived.SevenTiedAt
import Derived.ChangeVars
import Derived.JoinedOf
import Derived.LaidLaws
import Derived.LaidHandle
import Derived.Lib.LaidTab
import Derived.Stop.Joined
namespace Go.Proofs.YtojfghfgaljkkaaDoor
open Go.ChangeShapes Go.WideShapes Go.ChangeAt Go.RowKit
open Go.ChangeMaps (open_string shut_string)
set_option linter.unusedVariables false
set_option linter.unusedSimpArgs false
theorem own : ownKnob Tryd.prog.godebug = none := by kernel_rfl
theorem laidOut : laidOutB Tryd.prog = true := by kernel_rfl
theorem gR : Tryd.prog.globalNamed "mooring/text.ranges" = some 0 := by kernel_rfl
theorem gRT : (Tryd.prog.globals[0]?).map (·.type) = some 52 := by kernel_rfl
theorem gE : Tryd.prog.globalNamed "errors.errorType" = some 1 := by kernel_rfl
theorem rt : (Tryd.prog.cutTypes.find? (·.1 == "internal/reflectlite.rtype")).map (·.2) = some 71 := by kernel_rfl
theorem oneRow : ((List.range 113).filter fun t => Tryd.prog.rowNamed t [101, 114, 114, 111, 114]) = [26] := by kernel_rfl
theorem tySize : Tryd.prog.types.size = 113 := by kernel_rfl
theorem cells3 : Tryd.prog.cellsOf 3 = 1 := by kernel_rfl
theorem cells51 : Tryd.prog.cellsOf 51 = 3 := by kernel_rfl
theorem cells52 : Tryd.prog.cellsOf 52 = 15 := by kernel_rfl
def tabRows : List (List Int) := [[65, 26, 0], [97, 26, 26], [48, 10, 52], [43, 1, 62], [47, 1, 63]]
theorem data_is : (Rows.laid_mooring_text_ranges : DataW Unit) = .agg (tabRows.map fun r => Lib.tabData .i64 r) := rfl
theorem cells_nest {W : World} {fuel : Nat} {cs : List Value} {p : List MemPlace}
    (h : DataW.trod (fun _ => ()) Tryd.prog W 0 (fun _ => true) false fuel 52 cs = some (Rows.laid_mooring_text_ranges, p)) : cs = tabV := by
  obtain ⟨xs, m, rfl, hx, hl, hxl, hg⟩ := DataW.trod_array Tryd.underlying52 h
  rw [cells52] at hl
  have hxs : xs.map (·.1) = tabRows.map fun r => (Lib.tabData .i64 r : DataW Unit) := by
    have := congrArg Prod.fst hx
    rw [data_is] at this
    simpa using this.symm
  have hr : ∀ i (hi : i < 5), (cs.drop (i * 3)).take 3 = (tabRows.getD i []).map fun z => Value.int .i64 z := by
    intro i hi
    have h1 := hg i hi
    rw [cells51] at h1
    have h2 : (xs.map (·.1))[i]? = (tabRows.map fun r => (Lib.tabData .i64 r : DataW Unit))[i]? := by rw [hxs]
    have hil : i < tabRows.length := hi
    obtain ⟨x, hxi⟩ : ∃ x, xs[i]? = some x := ⟨_, List.getElem?_eq_getElem (by omega)⟩
    rw [hxi] at h1
    simp only [List.getElem?_map, hxi, Option.map_some, List.getElem?_eq_getElem hil, Option.some.injEq] at h2
    obtain ⟨x1, x2⟩ := x
    simp only at h2
    subst h2
    rw [Lib.cells_of_tab Tryd.underlying51 Tryd.underlying3 cells3 cells51 h1, List.getD, List.getElem?_eq_getElem hil]
    rfl
  have h0 := hr 0 (by omega)
  have h1 := hr 1 (by omega)
  have h2 := hr 2 (by omega)
  have h3 := hr 3 (by omega)
  have h4 := hr 4 (by omega)
  match cs, hl with
  | [c0, c1, c2, c3, c4, c5, c6, c7, c8, c9, c10, c11, c12, c13, c14], _ =>
    simp [tabRows] at h0 h1 h2 h3 h4
    simp [tabV, h0, h1, h2, h3, h4]
abbrev laidL : List (String × DataW Unit) := [("errors.errorType", Rows.laid_errors_errorType), ("mooring/text.ranges", Rows.laid_mooring_text_ranges)]
theorem met_two {W : World} (h : laidMetH Tryd.prog laidL W) : laidMet Tryd.prog [("mooring/text.ranges", Rows.laid_mooring_text_ranges)] W ∧ handlesMet Tryd.prog [("errors.errorType", Rows.laid_errors_errorType)] W := h
theorem tab_of {W : World} (h : laidMetH Tryd.prog laidL W) : Tab W := by
  obtain ⟨ps, ⟨g', t', cs, fuel, p, q, hg', ht', hvar, hd, _, _⟩, _⟩ := (met_two h).1
  obtain rfl := Option.some.inj (gR.symm.trans hg')
  obtain rfl := Option.some.inj (gRT.symm.trans ht')
  have hcs := cells_nest hd
  have hc : ∀ j v, tabV[j]? = some v → W.cell? ⟨0, j, none⟩ = some v := by
    intro j v hv
    rw [World.var?_cell gR hvar j, ← hv, ← hcs, Array.getElem?_toList]
  exact ⟨lt_of_cell (hc 0 _ rfl), fun j v hv => by rw [Nat.zero_add]; exact hc j v hv⟩
theorem err_of {W : World} (h : laidMetH Tryd.prog laidL W) : Err W := by
  obtain ⟨name, u, ty, e1, e2, e3, e4, e5⟩ := (met_two h).2 _ (List.mem_singleton.2 rfl)
  have en : name = [101, 114, 114, 111, 114] := (Option.some.inj e1).symm
  subst en
  obtain rfl := Option.some.inj (rt.symm.trans e2)
  have hm : ty ∈ (List.range 113).filter fun t => Tryd.prog.rowNamed t [101, 114, 114, 111, 114] := List.mem_filter.2 ⟨List.mem_range.2 (by rw [← tySize]; exact e3), e4⟩
  rw [oneRow] at hm
  obtain rfl := List.mem_singleton.1 hm
  have hh : typeHandle Tryd.prog 26 = .pointer (some ⟨2, 26, none⟩) := by kernel_rfl
  rw [hh] at e5
  exact World.var?_cell gE e5 0
/-- The settled world, the two variables laid: the witness. -/
noncomputable def laidWorld (os : Os) : World :=
  let w0 := World.holding Tryd.prog os ⟨#[], #[], []⟩
  { w0 with heap := (w0.heap.modify 0 (fun o => match o with
      | .cells _ t frozen => .cells tabV.toArray t frozen
      | o => o)).modify 1 (fun o => match o with
      | .cells _ t frozen => .cells #[.iface 71 (.agg #[.pointer (some ⟨2, 26, none⟩)])] t frozen
      | o => o) }
theorem laid_met (os : Os) (args : Array Value) : laidMetH Tryd.prog laidL ((laidWorld os).forCall (fun _ _ => 0) ⟨#[], args, []⟩).memory :=
  laidMetH_of_parts (show laidMet Tryd.prog [("mooring/text.ranges", Rows.laid_mooring_text_ranges)] _ from laidMet_of_run' 8 (by kernel_rfl) (by kernel_rfl)) (by kernel_rfl)


set_option maxRecDepth 100000 in
theorem textLast_lifted (os : Os) (started : os.Started) (H : Type) (enc : TypeId × Value → H) :
    ReturnsInHanded {} Tryd.checked os 6 .any (fun w args => (Rows.textLastSpec.pre enc Tryd.prog Tryd.f6 [] false w args ∧ laidMetH Tryd.prog Rows.textLastRow.laid w) ∧ sizedMet enc Tryd.prog Tryd.f6 (OpenSpec.ofChange Rows.textLastSpec) false w args) (Rows.textLastSpec.post enc Tryd.prog Tryd.f6 false true false false) := by
  refine returnsInHanded_of_change_and (C := Tryd.checked) (X := fun w _ => laidMetH Tryd.prog Rows.textLastRow.laid w) (fun _ _ _ hh h => h.of_heap hh) own started (by kernel_rfl) Tryd.func6
    (ChangeSpec.witness_at (enc := enc) (C := Tryd.checked) (os := os) (X := fun w _ => laidMetH Tryd.prog Rows.textLastRow.laid w) false (laidWorld os) #[.agg #[.int .u8 0, .int .u8 0, .int .u8 0, .int .u8 0, .int .u8 0, .int .u8 0, .int .u8 0, .int .u8 0, .int .u8 0, .int .u8 0, .int .u8 0, .int .u8 0, .int .u8 0, .int .u8 0, .int .u8 0, .int .u8 0], .int .u8 0] 8 rfl (by kernel_rfl) (by kernel_rfl) (by kernel_rfl) (by kernel_rfl) (by kernel_rfl) (laid_met os _)) ?_
  intro W base args ds gs before hval0 hW hcnd hsz hL hno
  have hT := tab_of hL
  have hE := err_of hL
  have hval : ∀ (j : Nat) t v, Tryd.f6.params[j]? = some t → args[j]? = some v → Value.okWide Tryd.prog W .any base t v := hval0
  have hW' := hW
  obtain ⟨p, q, hA0, hV, rfl, hfz, hnd⟩ := hW
  have hA : DataW.TrodAll enc Tryd.prog W 0 (fun _ => true) true Tryd.f6.params.toList args.toList ds p := hA0
  rw [Tryd.params6] at hA hval
  obtain ⟨v0, vs0, d0, ds0, p0, q0, hargs, rfl, rfl, h0, r0⟩ := trodAll_cons hA
  obtain ⟨v1, vs1, d1, ds1, p1, q1, rfl, rfl, rfl, h1, r1⟩ := trodAll_cons r0
  obtain ⟨rfl, rfl, rfl⟩ := trodAll_nil r1
  obtain rfl : args = #[v0, v1] := by cases args; simp_all
  obtain ⟨rfl, rfl⟩ := trodVars_none hV
  have k0 := h0
  have lt0 : ∀ x ∈ p0, x.block < W.heap.size := by obtain ⟨m, hm⟩ := k0; exact DataW.trod_lt m _ _ _ hm
  obtain ⟨l0, rfl, ll0, lb0⟩ := open_arr_u8 Tryd.underlying22 Tryd.underlying5 (by kernel_rfl) (by kernel_rfl) (hval 0 22 v0 rfl rfl) h0
  have k1 := h1
  have lt1 : ∀ x ∈ p1, x.block < W.heap.size := by obtain ⟨m, hm⟩ := k1; exact DataW.trod_lt m _ _ _ hm
  obtain ⟨a1, rfl, e1, f1, w1⟩ := open_int Tryd.underlying5 (hval 1 5 v1 rfl rfl) h1
  have b1 := bounds_u8 w1
  obtain ⟨n1, rfl⟩ : ∃ n : Nat, a1 = n := ⟨a1.toNat, by omega⟩
  refine (last_any l0 n1 W ll0 lb0 (by omega) hT hE).mono fun e W' ⟨he, bel⟩ => ?_
  subst he
  exact ⟨_, rfl, _, _, _, [], _, [], hW', trodAll_mk1 (shut_bool Tryd.underlying4 _), (trodAll_cons_mk (Below.trod laidOut (by kernel_rfl) (of_decide_eq_true (by kernel_rfl)) k0 bel lt0) (trodAll_cons_mk (Below.trod laidOut (by kernel_rfl) (of_decide_eq_true (by kernel_rfl)) k1 bel lt1) trodAll_mk0)), rfl, bel.frame _, fun h => by cases h⟩

theorem textLast_holds : Rows.TextLastSaid :=
  OpenClaim.holds_of_wide 6 Tryd.f6 rfl rfl rfl rfl rfl rfl rfl ⟨rfl, rfl, rfl, rfl, rfl⟩ rfl rfl rfl rfl rfl (by kernel_rfl) Tryd.func6 (by kernel_rfl)
    (of_decide_eq_true (by kernel_rfl)) (by unfold Func.isWrapper; first | (rw [if_pos (by decide +kernel)]; kernel_rfl) | (rw [if_neg (by decide +kernel)]; exact ⟨rfl, rfl⟩))
    (fun os started H enc _ => textLast_lifted os started H enc)
theorem textLastCardSaid_holds : Rows.TextLastCardSaid :=
  Claim7.holds_tied_plain_at .later [] [.handle, .data] true (true, "b60f61c655db733ee6a689e7a697cbc4ba6f1e700e2c10a557544e48c0724d65") true
    textLast_holds (fun _ h => by cases h) (by kernel_rfl) (fun _ h => by cases h) textLast_row_tie rfl ⟨rfl, rfl⟩ (by kernel_rfl) rfl
    (fun f fn hf hfn => by
      obtain rfl : f = 6 := Option.some.inj ((show Tryd.prog.funcNamed "mooring/mooringlaw14.TextLast" = some 6 by kernel_rfl).symm.trans hf) |>.symm
      obtain rfl : fn = Tryd.f6 := (Option.some.inj (Tryd.func6.symm.trans hfn)).symm
      exact ⟨by kernel_rfl, fun j t ht => by
        rw [Tryd.params6] at ht
        have hm : t ∈ [22, 5] := by have := Array.mem_of_getElem? ht; simpa using this
        have ha := (show ([22, 5].all fun t => !Tryd.prog.wantsStandIn t) = true by kernel_rfl)
        have := List.all_eq_true.1 ha t hm
        have hw : Tryd.prog.wantsStandIn t = false := by simpa using this
        exact hw⟩)
    (by kernel_rfl)
#print axioms textLastCardSaid_holds

end Go.Proofs.YtojfghfgaljkkaaDoor
