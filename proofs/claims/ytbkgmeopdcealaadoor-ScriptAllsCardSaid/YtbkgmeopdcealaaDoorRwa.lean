/-
  THE ROWS: for every input each of these laws returns true and leaves what it was handed as it was: ScriptAlls. No condition.
-/
import Derived.Test.YtbkgmeopdcealaaDoorLwa
import Derived.Test.YtbkgmeopdcealaaDoorTie
import Derived.Test.YtbkgmeopdcealaaDoorCards
import Derived.Maps.Own
import Derived.SevenTiedAt
import Derived.ChangeVars
import Derived.JoinedOf
import Derived.LaidLaws
import Derived.Stop.LaidErr
import Derived.Lib.LaidTab
import Derived.Deep.Slices
import Derived.Deep.Fields
import Derived.Lib.SmallJoins
import Derived.ChangeSame
namespace Go.Proofs.YtbkgmeopdcealaaDoor
open Go.ChangeShapes Go.WideShapes Go.ChangeAt Go.RowKit
open Go.ChangeMaps (open_string shut_string)
set_option linter.unusedVariables false
set_option linter.unusedSimpArgs false
theorem own : ownKnob Tryd.prog.godebug = none := by kernel_rfl
theorem laidOut : laidOutB Tryd.prog = true := by kernel_rfl
theorem one_of {α : Type} {a b : α} (h : [a] = [b]) : a = b := by injection h
theorem cells3 : Tryd.prog.cellsOf 3 = 1 := by kernel_rfl
theorem cells5 : Tryd.prog.cellsOf 5 = 1 := by kernel_rfl
theorem cells9 : Tryd.prog.cellsOf 9 = 1 := by kernel_rfl
theorem cells22 : Tryd.prog.cellsOf 22 = 1 := by kernel_rfl
theorem cells24 : Tryd.prog.cellsOf 24 = 6 := by kernel_rfl
theorem cells56 : Tryd.prog.cellsOf 56 = 2 := by kernel_rfl
theorem cells57 : Tryd.prog.cellsOf 57 = 20 := by kernel_rfl
theorem cells107 : Tryd.prog.cellsOf 107 = 1 := by kernel_rfl
theorem cells133 : Tryd.prog.cellsOf 133 = 1 := by kernel_rfl
theorem trod_bys {H : Type} {enc : TypeId × Value → H} {w : World} {spare : Nat → Bool} {held : Bool} {fuel : Nat} {v : Value} {x : DataW H × List MemPlace}
    (hf : DataW.trod enc Tryd.prog w 0 spare held fuel 22 [v] = some x) : ∃ A n c bs, v = .slice A n c ∧ Bys w A n bs ∧ n ≤ c ∧ c ≤ maxLen := by
  rcases open_ints Tryd.underlying22 Tryd.underlying5 cells5 hf with ⟨hcs, _⟩ | ⟨y, l, c, zs, hcs, _, hl, hm, hz, hp, hcell, hwz⟩
  · simp at hcs
    exact ⟨none, 0, 0, [], hcs, Bys.none_ w, Nat.le_refl _, by unfold maxLen; omega⟩
  · simp at hcs
    have hzl : l ≤ zs.length := by rw [hz]; split <;> omega
    refine ⟨some y, l, c, (zs.take l).map Int.toNat, hcs, Bys.of_ints (c := c) ⟨by simp; omega, hl, fun n hn => hwz n (List.mem_of_mem_take hn), fun h0 => ?_⟩, hl, hm⟩
    have hc0 := hcell 0 (by omega)
    have hsp : (y.add 0).spot = none := World.cell?_spot hc0
    obtain ⟨b, o, sp⟩ := y
    simp [Addr.add] at hsp
    subst hsp
    have := lt_of_cell hc0
    refine ⟨b, o, rfl, by simpa [Addr.add] using this, fun i hi => ?_⟩
    have h1 := hcell i (by omega)
    rw [add_none] at h1
    rw [h1]
    simp [List.getD, List.getElem?_take_of_lt hi]
set_option maxRecDepth 100000 in
/-- A slice of bytes. -/
theorem open_bys {H : Type} {enc : TypeId × Value → H} {w : World} {spare : Nat → Bool} {held : Bool} {v : Value} {d : DataW H} {p : List MemPlace} {r : Reach} {b0 : Nat}
    (hv : Value.okWide Tryd.prog w r b0 22 v) (h : DataW.Trod enc Tryd.prog w 0 spare held 22 v d p) : ∃ A n c bs, v = .slice A n c ∧ Bys w A n bs ∧ n ≤ c ∧ c ≤ maxLen := by
  obtain ⟨A, n, c, rfl⟩ := okWide_slice Tryd.underlying22 hv
  obtain ⟨fuel, hf⟩ := h
  rcases open_ints Tryd.underlying22 Tryd.underlying5 cells5 hf with ⟨hcs, _⟩ | ⟨y, l, c', zs, hcs, _, hl, hm, hz, hp, hcell, hwz⟩
  · simp [Value.cells] at hcs
    obtain ⟨rfl, rfl, rfl⟩ := hcs
    exact ⟨none, 0, 0, [], rfl, Bys.none_ w, Nat.le_refl _, by unfold maxLen; omega⟩
  · simp [Value.cells] at hcs
    obtain ⟨rfl, rfl, rfl⟩ := hcs
    have hzl : n ≤ zs.length := by rw [hz]; split <;> omega
    refine ⟨some y, n, c, (zs.take n).map Int.toNat, rfl, Bys.of_ints (c := c) ⟨by simp; omega, hl, fun n hn => hwz n (List.mem_of_mem_take hn), fun h0 => ?_⟩, hl, hm⟩
    have hc0 := hcell 0 (by omega)
    have hsp : (y.add 0).spot = none := World.cell?_spot hc0
    obtain ⟨b, o, sp⟩ := y
    simp [Addr.add] at hsp
    subst hsp
    have := lt_of_cell hc0
    refine ⟨b, o, rfl, by simpa [Addr.add] using this, fun i hi => ?_⟩
    have h1 := hcell i (by omega)
    rw [add_none] at h1
    rw [h1]
    simp [List.getD, List.getElem?_take_of_lt hi]
set_option maxRecDepth 100000 in
open Go.Deep in
/-- An operation by value. -/
theorem open_op {H : Type} {enc : TypeId × Value → H} {w : World} {spare : Nat → Bool} {held : Bool} {v : Value} {d : DataW H} {p : List MemPlace} {r : Reach} {b0 : Nat}
    (hv : Value.okWide Tryd.prog w r b0 24 v) (h : DataW.Trod enc Tryd.prog w 0 spare held 24 v d p) : ∃ o : Op, v = o.v ∧ OpOk w o := by
  obtain ⟨cs, rfl, hsz⟩ := okWide_struct Tryd.underlying24 hv
  obtain ⟨l⟩ := cs
  match l, hsz.trans cells24 with
  | [c0, c1, c2, c3, c4, c5], _ =>
    obtain ⟨fuel, hf⟩ := h
    obtain ⟨xs, n, _, hx, _, hlen, hg⟩ := DataW.trod_struct Tryd.underlying24 hf
    match xs, hlen with
    | [y0, y1, y2, y3, y4, y5], _ =>
      have g0 : DataW.trod enc Tryd.prog w 0 spare held n 3 [c0] = some y0 := by simpa [Value.cells, cells3, cells9, cells22] using hg 0 _ rfl
      have g1 : DataW.trod enc Tryd.prog w 0 spare held n 3 [c1] = some y1 := by simpa [Value.cells, cells3, cells9, cells22] using hg 1 _ rfl
      have g2 : DataW.trod enc Tryd.prog w 0 spare held n 3 [c2] = some y2 := by simpa [Value.cells, cells3, cells9, cells22] using hg 2 _ rfl
      have g3 : DataW.trod enc Tryd.prog w 0 spare held n 3 [c3] = some y3 := by simpa [Value.cells, cells3, cells9, cells22] using hg 3 _ rfl
      have g4 : DataW.trod enc Tryd.prog w 0 spare held n 22 [c4] = some y4 := by simpa [Value.cells, cells3, cells9, cells22] using hg 4 _ rfl
      have g5 : DataW.trod enc Tryd.prog w 0 spare held n 9 [c5] = some y5 := by simpa [Value.cells, cells3, cells9, cells22] using hg 5 _ rfl
      obtain ⟨a0, e0, _, w0⟩ := DataW.trod_int Tryd.underlying3 g0
      obtain ⟨a1, e1, _, w1⟩ := DataW.trod_int Tryd.underlying3 g1
      obtain ⟨a2, e2, _, w2⟩ := DataW.trod_int Tryd.underlying3 g2
      obtain ⟨a3, e3, _, w3⟩ := DataW.trod_int Tryd.underlying3 g3
      obtain ⟨A, m, c, bs, rfl, hB, hmc, hcm⟩ := trod_bys g4
      obtain ⟨s, e5, _, w5⟩ := DataW.trod_string Tryd.underlying9 g5
      have b0 := bounds_i64 w0
      have b1 := bounds_i64 w1
      have b2 := bounds_i64 w2
      have b3 := bounds_i64 w3
      refine ⟨⟨a0, a1, a2, a3, A, m, c, bs, s⟩, ?_, ⟨hB, hmc, hcm, b0.1, b0.2, b1.1, b1.2, b2.1, b2.2, b3.1, b3.2, w5⟩⟩
      rw [one_of e0, one_of e1, one_of e2, one_of e3, one_of e5]; rfl
abbrev L32 : String × DataW Unit := ("math/bits.deBruijn32tab", Rows.laid_math_bits_deBruijn32tab)
abbrev L64 : String × DataW Unit := ("math/bits.deBruijn64tab", Rows.laid_math_bits_deBruijn64tab)
abbrev LP : String × DataW Unit := ("internal/strconv.uint64pow10", Rows.laid_internal_strconv_uint64pow10)
abbrev LA : String × DataW Unit := ("unicode/utf8.acceptRanges", Rows.laid_unicode_utf8_acceptRanges)
abbrev LR : String × DataW Unit := ("strconv.ErrRange", Rows.laid_strconv_ErrRange)
abbrev LS : String × DataW Unit := ("strconv.ErrSyntax", Rows.laid_strconv_ErrSyntax)
abbrev LU : String × DataW Unit := ("mooring/script.rules", Rows.laid_mooring_script_rules)
abbrev LN : String × DataW Unit := ("mooring/script.names", Rows.laid_mooring_script_names)
abbrev LF : String × DataW Unit := ("unicode/utf8.first", Rows.laid_unicode_utf8_first)
abbrev laidL : List (String × DataW Unit) := [L32, L64, LP, LA, LR, LS, LU, LN, LF]
theorem gPT : (Tryd.prog.globals[7]?).map (·.type) = some 126 := by kernel_rfl
theorem cellsPT : Tryd.prog.cellsOf 126 = 20 := by kernel_rfl
theorem gST : (Tryd.prog.globals[5]?).map (·.type) = some 79 := by kernel_rfl
theorem gRT : (Tryd.prog.globals[6]?).map (·.type) = some 79 := by kernel_rfl
theorem gU : Tryd.prog.globalNamed "mooring/script.rules" = some 0 := by kernel_rfl
theorem gUT : (Tryd.prog.globals[0]?).map (·.type) = some 57 := by kernel_rfl
theorem gN : Tryd.prog.globalNamed "mooring/script.names" = some 1 := by kernel_rfl
theorem gNT : (Tryd.prog.globals[1]?).map (·.type) = some 73 := by kernel_rfl
theorem pow_is : (Rows.laid_internal_strconv_uint64pow10 : DataW Unit) = Lib.tabData .u64 Lib.pow10Tab := by rfl
theorem pow_of {W : World} (h : laidMet Tryd.prog laidL W) : Pow W := by
  have h3 := laidMet.tail (laidMet.tail h)
  rw [show LP = ("internal/strconv.uint64pow10", Lib.tabData .u64 Lib.pow10Tab) by rw [← pow_is]] at h3
  have ht := Lib.tabIs_of_head gPow gPT Tryd.underlying126 Tryd.underlying107 cells107 cellsPT h3
  exact ⟨lt_of_cell (a := ⟨7, 0, none⟩) (ht.cell gPow 0 (by rw [Lib.pow10Tab_length]; omega)), ht⟩
theorem strs_cells {W : World} {fuel : Nat} {cs : List Value} {p : List MemPlace} {T : TypeId} {L : List ByteArray} {D : DataW Unit} (hT : Tryd.prog.underlying T = some (.array L.length 9))
    (hD : D = .agg (L.map fun s => .lit (.string s.data.toList)))
    (h : DataW.trod (fun _ => ()) Tryd.prog W 0 (fun _ => true) false fuel T cs = some (D, p)) : ∀ i, i < L.length → cs[i]? = some (.string (L.getD i ByteArray.empty)) := by
  obtain ⟨xs, m, rfl, hx, hl, hxl, hg⟩ := DataW.trod_array hT h
  have hxs : xs.map (·.1) = L.map fun s => (.lit (.string s.data.toList) : DataW Unit) := by
    have := congrArg Prod.fst hx
    rw [hD] at this
    simpa using this.symm
  intro i hi
  have h1 := hg i hi
  rw [cells9, Nat.mul_one] at h1
  obtain ⟨x, hxi⟩ : ∃ x, xs[i]? = some x := ⟨_, List.getElem?_eq_getElem (by omega)⟩
  rw [hxi] at h1
  obtain ⟨s, e, hxe, _⟩ := DataW.trod_string Tryd.underlying9 h1
  have h2 : (xs.map (·.1))[i]? = (L.map fun s => (.lit (.string s.data.toList) : DataW Unit))[i]? := by rw [hxs]
  simp only [List.getElem?_map, hxi, Option.map_some, List.getElem?_eq_getElem hi, Option.some.injEq] at h2
  rw [hxe] at h2
  simp only [DataW.lit.injEq, Lit.string.injEq] at h2
  have hs : s = L.getD i ByteArray.empty := by
    have : L.getD i ByteArray.empty = L[i] := by simp [List.getD, List.getElem?_eq_getElem hi]
    rw [this]
    cases s; rename_i sd
    cases hn : L[i]; rename_i nd
    rw [hn] at h2
    simp only at h2
    rw [Array.toList_inj.1 h2]
  rw [← hs]
  have := congrArg (·[0]?) e
  simpa [List.getElem?_take, List.getElem?_drop] using this
theorem strs_of {W : World} {N : String} {g T k : Nat} {L : List ByteArray} {D : DataW Unit} {rest : List (String × DataW Unit)} (hg : Tryd.prog.globalNamed N = some g) (hgt : (Tryd.prog.globals[g]?).map (·.type) = some T)
    (hT : Tryd.prog.underlying T = some (.array L.length 9)) (hD : D = .agg (L.map fun s => .lit (.string s.data.toList))) (hk : L.length = k + 1) (h : laidMet Tryd.prog ((N, D) :: rest) W) :
    g < W.heap.size ∧ ∀ n, n < L.length → W.cell? ⟨g, n, none⟩ = some (.string (L.getD n ByteArray.empty)) := by
  obtain ⟨ps, ⟨g', t', cs, fuel, p, q, hg', ht', hvar, hd, _, _⟩, _⟩ := h
  obtain rfl := Option.some.inj (hg.symm.trans hg')
  obtain rfl := Option.some.inj (hgt.symm.trans ht')
  have hcs := strs_cells hT hD hd
  have hc : ∀ n, n < L.length → W.cell? ⟨g, n, none⟩ = some (.string (L.getD n ByteArray.empty)) := fun n hn => by
    rw [World.var?_cell hg hvar n, ← Array.getElem?_toList]
    exact hcs n hn
  exact ⟨lt_of_cell (a := ⟨g, 0, none⟩) (hc 0 (by omega)), hc⟩
theorem str_of_data {s t : ByteArray} (h : s.data.toList = t.data.toList) : s = t := by
  cases s; cases t
  simp only at h
  rw [Array.toList_inj.1 h]
theorem rules_is : (Rows.laid_mooring_script_rules : DataW Unit) = .agg ((List.range 10).map fun i => .agg [.lit (.string (rwS i).data.toList), .lit (.string (rfS i).data.toList)]) := by rfl
theorem rules_cells {W : World} {fuel : Nat} {cs : List Value} {p : List MemPlace}
    (h : DataW.trod (fun _ => ()) Tryd.prog W 0 (fun _ => true) false fuel 57 cs = some (Rows.laid_mooring_script_rules, p)) : ∀ i, i < 10 → cs[i * 2]? = some (.string (rwS i)) ∧ cs[i * 2 + 1]? = some (.string (rfS i)) := by
  obtain ⟨xs, m, rfl, hx, hl, hxl, hg⟩ := DataW.trod_array Tryd.underlying57 h
  rw [cells57] at hl
  have hxs : xs.map (·.1) = (List.range 10).map fun i => (.agg [.lit (.string (rwS i).data.toList), .lit (.string (rfS i).data.toList)] : DataW Unit) := by
    have := congrArg Prod.fst hx
    rw [rules_is] at this
    simpa using this.symm
  intro i hi
  have h1 := hg i hi
  rw [cells56] at h1
  obtain ⟨x, hxi⟩ : ∃ x, xs[i]? = some x := ⟨_, List.getElem?_eq_getElem (by omega)⟩
  rw [hxi] at h1
  have h2 : (xs.map (·.1))[i]? = ((List.range 10).map fun i => (.agg [.lit (.string (rwS i).data.toList), .lit (.string (rfS i).data.toList)] : DataW Unit))[i]? := by rw [hxs]
  simp only [List.getElem?_map, hxi, Option.map_some, List.getElem?_range hi, Option.some.injEq] at h2
  obtain ⟨c0, c1, hc⟩ : ∃ c0 c1, (cs.drop (i * 2)).take 2 = [c0, c1] := by
    have hlen : ((cs.drop (i * 2)).take 2).length = 2 := by rw [List.length_take, List.length_drop]; omega
    match (cs.drop (i * 2)).take 2, hlen with
    | [a, b], _ => exact ⟨a, b, rfl⟩
  have e0 : cs[i * 2]? = some c0 := by
    have := congrArg (·[0]?) hc
    simpa [List.getElem?_take, List.getElem?_drop] using this
  have e1 : cs[i * 2 + 1]? = some c1 := by
    have := congrArg (·[1]?) hc
    simpa [List.getElem?_take, List.getElem?_drop] using this
  rw [hc] at h1
  obtain ⟨ys, n, _, hx2, _, hlen2, hg2⟩ := DataW.trod_struct Tryd.underlying56 h1
  match ys, hlen2 with
  | [y0, y1], _ =>
    have g0 : DataW.trod (fun _ => ()) Tryd.prog W 0 (fun _ => true) false n 9 [c0] = some y0 := by simpa [Value.cells, cells9] using hg2 0 _ rfl
    have g1 : DataW.trod (fun _ => ()) Tryd.prog W 0 (fun _ => true) false n 9 [c1] = some y1 := by simpa [Value.cells, cells9] using hg2 1 _ rfl
    obtain ⟨s0, k0, d0, _⟩ := DataW.trod_string Tryd.underlying9 g0
    obtain ⟨s1, k1, d1, _⟩ := DataW.trod_string Tryd.underlying9 g1
    have hx3 := congrArg Prod.fst hx2
    rw [h2] at hx3
    simp only [List.map_cons, List.map_nil, DataW.agg.injEq, List.cons.injEq, and_true] at hx3
    rw [d0, d1] at hx3
    simp only [DataW.lit.injEq, Lit.string.injEq] at hx3
    rw [e0, e1, one_of k0, one_of k1, str_of_data hx3.1, str_of_data hx3.2]
    exact ⟨rfl, rfl⟩
theorem rules_of {W : World} {rest : List (String × DataW Unit)} (h : laidMet Tryd.prog (LU :: rest) W) : W.rangeAt 0 0 rulesL := by
  obtain ⟨ps, ⟨g', t', cs, fuel, p, q, hg', ht', hvar, hd, _, _⟩, _⟩ := h
  obtain rfl := Option.some.inj (gU.symm.trans hg')
  obtain rfl := Option.some.inj (gUT.symm.trans ht')
  have hcs := rules_cells hd
  have hc : ∀ n v, cs.toList[n]? = some v → W.cell? ⟨0, n, none⟩ = some v := fun n v hv => by
    rw [World.var?_cell gU hvar n, ← Array.getElem?_toList]; exact hv
  have hall : ∀ k, k < 10 → rulesL[k * 2]? = some (.string (rwS k)) ∧ rulesL[k * 2 + 1]? = some (.string (rfS k)) := by
    intro k hk
    rcases (show k = 0 ∨ k = 1 ∨ k = 2 ∨ k = 3 ∨ k = 4 ∨ k = 5 ∨ k = 6 ∨ k = 7 ∨ k = 8 ∨ k = 9 by omega) with rfl | rfl | rfl | rfl | rfl | rfl | rfl | rfl | rfl | rfl <;> exact ⟨rfl, rfl⟩
  intro j v hv
  rw [Nat.zero_add]
  have hj : j < 20 := (List.getElem?_eq_some_iff.1 hv).1
  rcases Nat.mod_two_eq_zero_or_one j with h2 | h2
  · obtain ⟨k, rfl⟩ : ∃ k, j = k * 2 := ⟨j / 2, by omega⟩
    have h3 := (hall k (by omega)).1
    rw [hv] at h3
    rw [h3]
    exact hc _ _ (hcs k (by omega)).1
  · obtain ⟨k, rfl⟩ : ∃ k, j = k * 2 + 1 := ⟨j / 2, by omega⟩
    have h3 := (hall k (by omega)).2
    rw [hv] at h3
    rw [h3]
    exact hc _ _ (hcs k (by omega)).2
theorem star : "*" ++ "errors.errorString" = "*errors.errorString" := by decide
/-- The one row of that name. -/
theorem row131 (u : TypeId) (h : Tryd.prog.typeName? 3 u = some "*errors.errorString") : u = 131 :=
  typeName_ptr_named (nm := "errors.errorString") (by rw [star]; kernel_rfl) (by kernel_rfl) (by decide) u (by rw [star]; exact h)
theorem tab_of {W : World} (h : laidMet Tryd.prog laidL W) (hsh : W.ShapedOpen Tryd.prog) : Tab W := by
  obtain ⟨m, hm⟩ : ∃ m, W.cell? ⟨2, 0, none⟩ = some (.int .i64 m) := Go.Proofs.cell_of_shapedOpen_int (zero := #[.int .i64 0]) (t := 3) hsh (of_decide_eq_true (by kernel_rfl)) (by kernel_rfl) rfl (by kernel_rfl) (by kernel_rfl) Tryd.underlying3
  have h4 := laidMet.tail (laidMet.tail (laidMet.tail (laidMet.tail h)))
  have h5 := laidMet.tail h4
  have h6 := laidMet.tail h5
  have h7 := laidMet.tail h6
  obtain ⟨a0, s0, hv0, _, _, _⟩ := laid_sentinel h4 gRng gRT Tryd.underlying79 row131 Tryd.underlying131 Tryd.underlying133 rfl rfl Tryd.underlying9 cells133 cells9
  obtain ⟨a1, s1, hv1, _, _, _⟩ := laid_sentinel h5 gSyn gST Tryd.underlying79 row131 Tryd.underlying131 Tryd.underlying133 rfl rfl Tryd.underlying9 cells133 cells9
  have hn := strs_of (L := [clS, svS]) (k := 1) gN gNT Tryd.underlying73 rfl rfl h7
  have h10 : 10 ≤ W.heap.size := by
    obtain ⟨ps, ⟨g', t', cs, fuel, p, q, hg', ht', hvar, hd, _, _⟩, _⟩ := laidMet.tail h
    obtain rfl := Option.some.inj ((show Tryd.prog.globalNamed "math/bits.deBruijn64tab" = some 9 by kernel_rfl).symm.trans hg')
    have hz : 9 < W.heap.size := by
      rcases Nat.lt_or_ge 9 W.heap.size with hlt | hge
      · exact hlt
      · unfold World.var? at hvar
        rw [show Tryd.prog.globalNamed "math/bits.deBruijn64tab" = some 9 by kernel_rfl] at hvar
        simp only [Option.bind_some] at hvar
        rw [Array.getElem?_eq_none hge] at hvar
        cases hvar
    omega
  refine ⟨pow_of h, h10, ⟨m, hm⟩, ⟨_, _, hv1⟩, ⟨_, _, hv0⟩, rules_of h6, fun j v hv => ?_⟩
  rw [Nat.zero_add]
  have hj : j < 2 := (List.getElem?_eq_some_iff.1 hv).1
  have h2 := hn.2 j hj
  rcases (show j = 0 ∨ j = 1 by omega) with rfl | rfl
  · injection hv with hv; rw [← hv]; exact h2
  · injection hv with hv; rw [← hv]; exact h2
/-- A row's claim out of a walk that is told the world's shape, too. -/
theorem returned_shaped {H : Type} {enc : TypeId × Value → H} {a : Assume} {C : Checked} {os : Os} {f : FuncId} {fn : Func} {s : ChangeSpec} {conds : List PathCond} {apart fresh handsOn again : Bool} {X : World → Array Value → Prop}
    (hX : ∀ (w w' : World) (args : Array Value), w.heap = w'.heap → X w args → X w' args)
    (own : ownKnob C.prog.godebug = none) (started : os.Started) (noInit : C.prog.inits.idxOf? f = none) (hfn : C.prog.funcs[f]? = some fn)
    (witness : ∃ (w : World) (tape : Tape) (i : Input), w.os = os ∧ (w.forCall tape i).Shaped C.prog ∧ i.vars = [] ∧ Input.okWide C.prog (w.forCall tape i) .any w.heap.size f i ∧
      ((s.pre enc C.prog fn conds apart (w.forCall tape i).memory i.args ∧ X (w.forCall tape i).memory i.args) ∧ sizedMet enc C.prog fn (OpenSpec.ofChange s) apart (w.forCall tape i).memory i.args) ∧ a.holds C.prog (lone (Frame.enter C.prog f i.args .normal) [] (w.forCall tape i)))
    (contract : ∀ (W : World) (base : Nat) (args : Array Value) (ds gs : List (DataW H)) (before : List MemPlace),
      (∀ (j : Nat) t v, fn.params[j]? = some t → args[j]? = some v → Value.okWide C.prog W .any base t v) →
      DataW.Whole enc C.prog fn.params.toList s.vars apart W args.toList ds gs before →
      conds.all (PathCond.test C.prog ⟨fn.params.toList, ds, s.plain.varTypes C.prog, gs⟩) = true →
      (DataW.weightsEach C.prog (fn.params.toList ++ s.plain.varTypes C.prog) (ds ++ gs)).all (· ≤ reachBytes) = true → X W args → W.ShapedOpen C.prog →
      a.holds C.prog (lone (Frame.enter C.prog f args .normal) [] W) →
      Calls C.prog f args W fun e W' => ∃ v, e = .returned v ∧ s.post enc C.prog fn apart fresh handsOn again W args v W') :
    ReturnsInHanded a C os f .any (fun w args => (s.pre enc C.prog fn conds apart w args ∧ X w args) ∧ sizedMet enc C.prog fn (OpenSpec.ofChange s) apart w args) (s.post enc C.prog fn apart fresh handsOn again) := by
  refine returnsInHanded_of_calls own started noInit witness ?_
  intro w tape i _ hsh _ hok hpre hholds
  obtain ⟨_, _, _, fn', hfn', _, _, _, _, hval⟩ := hok
  obtain rfl : fn' = fn := Option.some.inj (hfn'.symm.trans hfn)
  obtain ⟨⟨⟨ds, gs, before, hw, hc⟩, hx⟩, hz⟩ := hpre
  refine (contract (w.forCall tape i) w.heap.size i.args ds gs before hval (DataW.Whole.of_heap (w' := w.forCall tape i) (by rfl) hw) hc (hz.weights hw) (hX _ _ _ (by rfl) hx) hsh hholds).mono fun e W' ⟨v, he, hp⟩ => ?_
  subst he
  exact ChangeSpec.post_blind hp
def cells_of (d : DataW Unit) : List Value := match d with
  | .agg ds => ds.flatMap fun x => match x with
    | .lit (.int k n) => [.int k n]
    | .lit (.string s) => [.string ⟨s.toArray⟩]
    | .agg es => es.map fun y => match y with
      | .lit (.int k n) => .int k n
      | .lit (.string s) => .string ⟨s.toArray⟩
      | _ => .nilIface
    | _ => [.nilIface]
  | _ => []
noncomputable def low : Nat := (World.holding Tryd.prog default ⟨#[], #[], []⟩).heap.size
def synS : ByteArray := ⟨#[105, 110, 118, 97, 108, 105, 100, 32, 115, 121, 110, 116, 97, 120]⟩
def rngS : ByteArray := ⟨#[118, 97, 108, 117, 101, 32, 111, 117, 116, 32, 111, 102, 32, 114, 97, 110, 103, 101]⟩
/-- The settled world, the nine variables laid: the witness. -/
noncomputable def laidWorld (os : Os) : World :=
  let w0 := World.holding Tryd.prog os ⟨#[.cells #[.string synS] 133, .cells #[.string rngS] 133], #[], []⟩
  let put (h : Array Obj) (g : Nat) (cs : List Value) : Array Obj := h.modify g fun o => match o with
    | .cells _ t frozen => .cells cs.toArray t frozen
    | o => o
  { w0 with heap := put (put (put (put (put (put (put (put (put w0.heap 0 (cells_of LU.2)) 1 (cells_of LN.2)) 3 (cells_of LF.2)) 4 (cells_of LA.2)) 5 [.iface 131 (.pointer (some ⟨low, 0, none⟩))]) 6 [.iface 131 (.pointer (some ⟨low + 1, 0, none⟩))]) 7 (cells_of LP.2)) 8 (cells_of L32.2)) 9 (cells_of L64.2) }
theorem laid_met (os : Os) (args : Array Value) : laidMet Tryd.prog laidL ((laidWorld os).forCall (fun _ _ => 0) ⟨#[], args, []⟩).memory :=
  laidMet_of_run' 8 (by kernel_rfl) (by kernel_rfl)


set_option maxRecDepth 100000 in
theorem scriptAlls_lifted (os : Os) (started : os.Started) (H : Type) (enc : TypeId × Value → H) :
    ReturnsInHanded {} Tryd.checked os 7 .any (fun w args => (Rows.scriptAllsSpec.pre enc Tryd.prog Tryd.f7 [] false w args ∧ laidMet Tryd.prog Rows.scriptAllsRow.laid w) ∧ sizedMet enc Tryd.prog Tryd.f7 (OpenSpec.ofChange Rows.scriptAllsSpec) false w args) (Rows.scriptAllsSpec.post enc Tryd.prog Tryd.f7 false true false false) := by
  refine returned_shaped (C := Tryd.checked) (X := fun w _ => laidMet Tryd.prog Rows.scriptAllsRow.laid w) (fun _ _ _ hh h => h.of_heap hh) own started (by kernel_rfl) Tryd.func7
    (ChangeSpec.witness_at (enc := enc) (C := Tryd.checked) (os := os) (X := fun w _ => laidMet Tryd.prog Rows.scriptAllsRow.laid w) false (laidWorld os) #[.string ByteArray.empty] 8 rfl (by kernel_rfl) (by kernel_rfl) (by kernel_rfl) (by kernel_rfl) (by kernel_rfl) (laid_met os _)) ?_
  intro W base args ds gs before hval0 hW hcnd hsz hL hsh hno
  have hT := tab_of hL hsh
  have hval : ∀ (j : Nat) t v, Tryd.f7.params[j]? = some t → args[j]? = some v → Value.okWide Tryd.prog W .any base t v := hval0
  have hW' := hW
  obtain ⟨p, q, hA0, hV, rfl, hfz, hnd⟩ := hW
  have hA : DataW.TrodAll enc Tryd.prog W 0 (fun _ => true) true Tryd.f7.params.toList args.toList ds p := hA0
  rw [Tryd.params7] at hA hval
  obtain ⟨v0, vs0, d0, ds0, p0, q0, hargs, rfl, rfl, h0, r0⟩ := trodAll_cons hA
  obtain ⟨rfl, rfl, rfl⟩ := trodAll_nil r0
  obtain rfl : args = #[v0] := by cases args; simp_all
  obtain ⟨rfl, rfl⟩ := trodVars_none hV
  have k0 := h0
  have lt0 : ∀ x ∈ p0, x.block < W.heap.size := by obtain ⟨m, hm⟩ := k0; exact DataW.trod_lt m _ _ _ hm
  obtain ⟨a0, rfl, e0, f0, w0⟩ := open_string Tryd.underlying9 (hval 0 9 v0 rfl rfl) h0
  refine (alls_any a0 W hT w0).mono fun e W' ⟨he, bel⟩ => ?_
  subst he
  exact ⟨_, rfl, _, _, _, [], _, [], hW', trodAll_mk1 (shut_bool Tryd.underlying4 _), (trodAll_cons_mk (Below.trod laidOut (by kernel_rfl) (of_decide_eq_true (by kernel_rfl)) k0 bel lt0) trodAll_mk0), rfl, bel.frame _, fun h => by cases h⟩

theorem scriptAlls_holds : Rows.ScriptAllsSaid :=
  OpenClaim.holds_of_wide 7 Tryd.f7 rfl rfl rfl rfl rfl rfl rfl ⟨rfl, rfl, rfl, rfl, rfl⟩ rfl rfl rfl rfl rfl (by kernel_rfl) Tryd.func7 (by kernel_rfl)
    (of_decide_eq_true (by kernel_rfl)) (by unfold Func.isWrapper; first | (rw [if_pos (by decide +kernel)]; kernel_rfl) | (rw [if_neg (by decide +kernel)]; exact ⟨rfl, rfl⟩))
    (fun os started H enc _ => scriptAlls_lifted os started H enc)
theorem scriptAllsCardSaid_holds : Rows.ScriptAllsCardSaid :=
  Claim7.holds_tied_plain_at .later [] [.data, .data, .data, .data, .sentinel, .sentinel, .data, .data, .pinned] true (true, "9207fa4960fb9161e5dcc37a6745bf2c357041884824de73bd46ee690c6aca44") true
    scriptAlls_holds (fun _ h => by cases h) (by kernel_rfl) (fun _ h => by cases h) scriptAlls_row_tie rfl ⟨rfl, rfl⟩ (by kernel_rfl) rfl
    (fun f fn hf hfn => by
      obtain rfl : f = 7 := Option.some.inj ((show Tryd.prog.funcNamed "mooring/mooringlaw25.ScriptAlls" = some 7 by kernel_rfl).symm.trans hf) |>.symm
      obtain rfl : fn = Tryd.f7 := (Option.some.inj (Tryd.func7.symm.trans hfn)).symm
      exact ⟨by kernel_rfl, fun j t ht => by
        rw [Tryd.params7] at ht
        have hm : t ∈ [9] := by have := Array.mem_of_getElem? ht; simpa using this
        have ha := (show ([9].all fun t => !Tryd.prog.wantsStandIn t) = true by kernel_rfl)
        have := List.all_eq_true.1 ha t hm
        have hw : Tryd.prog.wantsStandIn t = false := by simpa using this
        exact hw⟩)
    (by kernel_rfl)
#print axioms scriptAllsCardSaid_holds

end Go.Proofs.YtbkgmeopdcealaaDoor
