/-
  THE ROWS: for every input each of these laws returns true and leaves what it was handed as it was: ShowDatagrams. No condition.
-/
import Derived.Test.YtbifakhalnkfbaaDoorLwg
import Derived.Test.YtbifakhalnkfbaaDoorTie
import Derived.Test.YtbifakhalnkfbaaDoorCards
import Derived.Maps.Own
import Derived.SevenTiedAt
import Derived.ChangeVars
import Derived.JoinedOf
import Derived.LaidLaws
import Derived.Stop.LaidErr
import Derived.Lib.LaidTab
import Derived.Deep.Slices
import Derived.Deep.Fields
import Derived.Lib.SmallJoins
import Derived.ChangeSame
namespace Go.Proofs.YtbifakhalnkfbaaDoor
open Go.ChangeShapes Go.WideShapes Go.ChangeAt Go.RowKit
open Go.ChangeMaps (open_string shut_string)
set_option linter.unusedVariables false
set_option linter.unusedSimpArgs false
theorem own : ownKnob Tryd.prog.godebug = none := by kernel_rfl
theorem laidOut : laidOutB Tryd.prog = true := by kernel_rfl
theorem one_of {α : Type} {a b : α} (h : [a] = [b]) : a = b := by injection h
theorem cells3 : Tryd.prog.cellsOf 3 = 1 := by kernel_rfl
theorem cells4 : Tryd.prog.cellsOf 4 = 1 := by kernel_rfl
theorem cells9 : Tryd.prog.cellsOf 9 = 1 := by kernel_rfl
theorem cells22 : Tryd.prog.cellsOf 22 = 1 := by kernel_rfl
theorem cells23 : Tryd.prog.cellsOf 23 = 1 := by kernel_rfl
theorem cells25 : Tryd.prog.cellsOf 25 = 10 := by kernel_rfl
theorem cells128 : Tryd.prog.cellsOf 128 = 1 := by kernel_rfl
set_option maxRecDepth 100000 in
open Go.Deep in
/-- A status by value. -/
theorem open_st {H : Type} {enc : TypeId × Value → H} {w : World} {spare : Nat → Bool} {held : Bool} {v : Value} {d : DataW H} {p : List MemPlace} {r : Reach} {b0 : Nat}
    (hv : Value.okWide Tryd.prog w r b0 25 v) (h : DataW.Trod enc Tryd.prog w 0 spare held 25 v d p) : ∃ s : St, v = s.v ∧ StOk s := by
  obtain ⟨cs, rfl, hsz⟩ := okWide_struct Tryd.underlying25 hv
  obtain ⟨l⟩ := cs
  match l, hsz.trans cells25 with
  | [c0, c1, c2, c3, c4, c5, c6, c7, c8, c9], _ =>
    obtain ⟨fuel, hf⟩ := h
    obtain ⟨xs, n, _, hx, _, hlen, hg⟩ := DataW.trod_struct Tryd.underlying25 hf
    match xs, hlen with
    | [y0, y1, y2, y3, y4, y5, y6, y7, y8, y9], _ =>
      have g0 : DataW.trod enc Tryd.prog w 0 spare held n 22 [c0] = some y0 := by simpa [Value.cells, cells3, cells4, cells9, cells22, cells23] using hg 0 _ rfl
      have g1 : DataW.trod enc Tryd.prog w 0 spare held n 22 [c1] = some y1 := by simpa [Value.cells, cells3, cells4, cells9, cells22, cells23] using hg 1 _ rfl
      have g2 : DataW.trod enc Tryd.prog w 0 spare held n 4 [c2] = some y2 := by simpa [Value.cells, cells3, cells4, cells9, cells22, cells23] using hg 2 _ rfl
      have g3 : DataW.trod enc Tryd.prog w 0 spare held n 3 [c3] = some y3 := by simpa [Value.cells, cells3, cells4, cells9, cells22, cells23] using hg 3 _ rfl
      have g4 : DataW.trod enc Tryd.prog w 0 spare held n 3 [c4] = some y4 := by simpa [Value.cells, cells3, cells4, cells9, cells22, cells23] using hg 4 _ rfl
      have g5 : DataW.trod enc Tryd.prog w 0 spare held n 9 [c5] = some y5 := by simpa [Value.cells, cells3, cells4, cells9, cells22, cells23] using hg 5 _ rfl
      have g6 : DataW.trod enc Tryd.prog w 0 spare held n 3 [c6] = some y6 := by simpa [Value.cells, cells3, cells4, cells9, cells22, cells23] using hg 6 _ rfl
      have g7 : DataW.trod enc Tryd.prog w 0 spare held n 3 [c7] = some y7 := by simpa [Value.cells, cells3, cells4, cells9, cells22, cells23] using hg 7 _ rfl
      have g8 : DataW.trod enc Tryd.prog w 0 spare held n 23 [c8] = some y8 := by simpa [Value.cells, cells3, cells4, cells9, cells22, cells23] using hg 8 _ rfl
      have g9 : DataW.trod enc Tryd.prog w 0 spare held n 4 [c9] = some y9 := by simpa [Value.cells, cells3, cells4, cells9, cells22, cells23] using hg 9 _ rfl
      obtain ⟨a0, e0, _, w0⟩ := DataW.trod_int Tryd.underlying22 g0
      obtain ⟨a1, e1, _, w1⟩ := DataW.trod_int Tryd.underlying22 g1
      obtain ⟨a2, e2, _⟩ := DataW.trod_bool Tryd.underlying4 g2
      obtain ⟨a3, e3, _, w3⟩ := DataW.trod_int Tryd.underlying3 g3
      obtain ⟨a4, e4, _, w4⟩ := DataW.trod_int Tryd.underlying3 g4
      obtain ⟨a5, e5, _, w5⟩ := DataW.trod_string Tryd.underlying9 g5
      obtain ⟨a6, e6, _, w6⟩ := DataW.trod_int Tryd.underlying3 g6
      obtain ⟨a7, e7, _, w7⟩ := DataW.trod_int Tryd.underlying3 g7
      obtain ⟨a8, e8, _, w8⟩ := DataW.trod_int Tryd.underlying23 g8
      obtain ⟨a9, e9, _⟩ := DataW.trod_bool Tryd.underlying4 g9
      have b0 := bounds_u64 w0
      have b1 := bounds_u64 w1
      have b3 := bounds_i64 w3
      have b4 := bounds_i64 w4
      have b6 := bounds_i64 w6
      have b7 := bounds_i64 w7
      have b8 := bounds_u16 w8
      obtain ⟨n0, rfl⟩ : ∃ n : Nat, a0 = (n : Int) := ⟨a0.toNat, by omega⟩
      obtain ⟨n1, rfl⟩ : ∃ n : Nat, a1 = (n : Int) := ⟨a1.toNat, by omega⟩
      obtain ⟨n8, rfl⟩ : ∃ n : Nat, a8 = (n : Int) := ⟨a8.toNat, by omega⟩
      refine ⟨⟨n0, n1, a2, a3, a4, a5, a6, a7, n8, a9⟩, ?_, ⟨?_, ?_, ?_, b3.1, b3.2, b4.1, b4.2, b6.1, b6.2, b7.1, b7.2, w5⟩⟩
      · rw [one_of e0, one_of e1, one_of e2, one_of e3, one_of e4, one_of e5, one_of e6, one_of e7, one_of e8, one_of e9]; rfl
      · show n0 < 18446744073709551616; omega
      · show n1 < 18446744073709551616; omega
      · show n8 < 65536; omega
abbrev L32 : String × DataW Unit := ("math/bits.deBruijn32tab", Rows.laid_math_bits_deBruijn32tab)
abbrev L64 : String × DataW Unit := ("math/bits.deBruijn64tab", Rows.laid_math_bits_deBruijn64tab)
abbrev LP : String × DataW Unit := ("internal/strconv.uint64pow10", Rows.laid_internal_strconv_uint64pow10)
abbrev LA : String × DataW Unit := ("unicode/utf8.acceptRanges", Rows.laid_unicode_utf8_acceptRanges)
abbrev LR : String × DataW Unit := ("strconv.ErrRange", Rows.laid_strconv_ErrRange)
abbrev LS : String × DataW Unit := ("strconv.ErrSyntax", Rows.laid_strconv_ErrSyntax)
abbrev LF : String × DataW Unit := ("unicode/utf8.first", Rows.laid_unicode_utf8_first)
abbrev laidL : List (String × DataW Unit) := [L32, L64, LP, LA, LR, LS, LF]
theorem gPT : (Tryd.prog.globals[0]?).map (·.type) = some 109 := by kernel_rfl
theorem cellsPT : Tryd.prog.cellsOf 109 = 20 := by kernel_rfl
theorem gST : (Tryd.prog.globals[1]?).map (·.type) = some 73 := by kernel_rfl
theorem gRT : (Tryd.prog.globals[2]?).map (·.type) = some 73 := by kernel_rfl
theorem pow_is : (Rows.laid_internal_strconv_uint64pow10 : DataW Unit) = Lib.tabData .u64 Lib.pow10Tab := by rfl
theorem pow_of {W : World} (h : laidMet Tryd.prog laidL W) : Pow W := by
  have h3 := laidMet.tail (laidMet.tail h)
  rw [show LP = ("internal/strconv.uint64pow10", Lib.tabData .u64 Lib.pow10Tab) by rw [← pow_is]] at h3
  have ht := Lib.tabIs_of_head gPow gPT Tryd.underlying109 Tryd.underlying22 cells22 cellsPT h3
  exact ⟨lt_of_cell (a := ⟨0, 0, none⟩) (ht.cell gPow 0 (by rw [Lib.pow10Tab_length]; omega)), ht⟩
theorem star : "*" ++ "errors.errorString" = "*errors.errorString" := by decide
/-- The one row of that name. -/
theorem row126 (u : TypeId) (h : Tryd.prog.typeName? 3 u = some "*errors.errorString") : u = 126 :=
  typeName_ptr_named (nm := "errors.errorString") (by rw [star]; kernel_rfl) (by kernel_rfl) (by decide) u (by rw [star]; exact h)
theorem tab_of {W : World} (h : laidMet Tryd.prog laidL W) (hsh : W.ShapedOpen Tryd.prog) : Tab W := by
  obtain ⟨m, hm⟩ : ∃ m, W.cell? ⟨3, 0, none⟩ = some (.int .i64 m) := Go.Proofs.cell_of_shapedOpen_int (zero := #[.int .i64 0]) (t := 3) hsh (of_decide_eq_true (by kernel_rfl)) (by kernel_rfl) rfl (by kernel_rfl) (by kernel_rfl) Tryd.underlying3
  have h4 := laidMet.tail (laidMet.tail (laidMet.tail (laidMet.tail h)))
  have h5 := laidMet.tail h4
  obtain ⟨a0, s0, hv0, _, _, _⟩ := laid_sentinel h4 gRng gRT Tryd.underlying73 row126 Tryd.underlying126 Tryd.underlying128 rfl rfl Tryd.underlying9 cells128 cells9
  obtain ⟨a1, s1, hv1, _, _, _⟩ := laid_sentinel h5 gSyn gST Tryd.underlying73 row126 Tryd.underlying126 Tryd.underlying128 rfl rfl Tryd.underlying9 cells128 cells9
  exact ⟨pow_of h, lt_of_cell (a := ⟨3, 0, none⟩) hm, ⟨m, hm⟩, ⟨_, _, hv1⟩, ⟨_, _, hv0⟩⟩
/-- A row's claim out of a walk that is told the world's shape, too. -/
theorem returned_shaped {H : Type} {enc : TypeId × Value → H} {a : Assume} {C : Checked} {os : Os} {f : FuncId} {fn : Func} {s : ChangeSpec} {conds : List PathCond} {apart fresh handsOn again : Bool} {X : World → Array Value → Prop}
    (hX : ∀ (w w' : World) (args : Array Value), w.heap = w'.heap → X w args → X w' args)
    (own : ownKnob C.prog.godebug = none) (started : os.Started) (noInit : C.prog.inits.idxOf? f = none) (hfn : C.prog.funcs[f]? = some fn)
    (witness : ∃ (w : World) (tape : Tape) (i : Input), w.os = os ∧ (w.forCall tape i).Shaped C.prog ∧ i.vars = [] ∧ Input.okWide C.prog (w.forCall tape i) .any w.heap.size f i ∧
      ((s.pre enc C.prog fn conds apart (w.forCall tape i).memory i.args ∧ X (w.forCall tape i).memory i.args) ∧ sizedMet enc C.prog fn (OpenSpec.ofChange s) apart (w.forCall tape i).memory i.args) ∧ a.holds C.prog (lone (Frame.enter C.prog f i.args .normal) [] (w.forCall tape i)))
    (contract : ∀ (W : World) (base : Nat) (args : Array Value) (ds gs : List (DataW H)) (before : List MemPlace),
      (∀ (j : Nat) t v, fn.params[j]? = some t → args[j]? = some v → Value.okWide C.prog W .any base t v) →
      DataW.Whole enc C.prog fn.params.toList s.vars apart W args.toList ds gs before →
      conds.all (PathCond.test C.prog ⟨fn.params.toList, ds, s.plain.varTypes C.prog, gs⟩) = true →
      (DataW.weightsEach C.prog (fn.params.toList ++ s.plain.varTypes C.prog) (ds ++ gs)).all (· ≤ reachBytes) = true → X W args → W.ShapedOpen C.prog →
      a.holds C.prog (lone (Frame.enter C.prog f args .normal) [] W) →
      Calls C.prog f args W fun e W' => ∃ v, e = .returned v ∧ s.post enc C.prog fn apart fresh handsOn again W args v W') :
    ReturnsInHanded a C os f .any (fun w args => (s.pre enc C.prog fn conds apart w args ∧ X w args) ∧ sizedMet enc C.prog fn (OpenSpec.ofChange s) apart w args) (s.post enc C.prog fn apart fresh handsOn again) := by
  refine returnsInHanded_of_calls own started noInit witness ?_
  intro w tape i _ hsh _ hok hpre hholds
  obtain ⟨_, _, _, fn', hfn', _, _, _, _, hval⟩ := hok
  obtain rfl : fn' = fn := Option.some.inj (hfn'.symm.trans hfn)
  obtain ⟨⟨⟨ds, gs, before, hw, hc⟩, hx⟩, hz⟩ := hpre
  refine (contract (w.forCall tape i) w.heap.size i.args ds gs before hval (DataW.Whole.of_heap (w' := w.forCall tape i) (by rfl) hw) hc (hz.weights hw) (hX _ _ _ (by rfl) hx) hsh hholds).mono fun e W' ⟨v, he, hp⟩ => ?_
  subst he
  exact ChangeSpec.post_blind hp
def cells_of (d : DataW Unit) : List Value := match d with
  | .agg ds => ds.flatMap fun x => match x with
    | .lit (.int k n) => [.int k n]
    | .agg es => es.map fun y => match y with
      | .lit (.int k n) => .int k n
      | _ => .nilIface
    | _ => [.nilIface]
  | _ => []
noncomputable def low : Nat := (World.holding Tryd.prog default ⟨#[], #[], []⟩).heap.size
def synS : ByteArray := ⟨#[105, 110, 118, 97, 108, 105, 100, 32, 115, 121, 110, 116, 97, 120]⟩
def rngS : ByteArray := ⟨#[118, 97, 108, 117, 101, 32, 111, 117, 116, 32, 111, 102, 32, 114, 97, 110, 103, 101]⟩
/-- The settled world, the seven variables laid: the witness. -/
noncomputable def laidWorld (os : Os) : World :=
  let w0 := World.holding Tryd.prog os ⟨#[.cells #[.string synS] 128, .cells #[.string rngS] 128], #[], []⟩
  let put (h : Array Obj) (g : Nat) (cs : List Value) : Array Obj := h.modify g fun o => match o with
    | .cells _ t frozen => .cells cs.toArray t frozen
    | o => o
  { w0 with heap := put (put (put (put (put (put (put w0.heap 0 (cells_of LP.2)) 1 [.iface 126 (.pointer (some ⟨low, 0, none⟩))]) 2 [.iface 126 (.pointer (some ⟨low + 1, 0, none⟩))]) 4 (cells_of L32.2)) 5 (cells_of L64.2)) 6 (cells_of LF.2)) 7 (cells_of LA.2) }
theorem laid_met (os : Os) (args : Array Value) : laidMet Tryd.prog laidL ((laidWorld os).forCall (fun _ _ => 0) ⟨#[], args, []⟩).memory :=
  laidMet_of_run' 8 (by kernel_rfl) (by kernel_rfl)
theorem cells39 : Tryd.prog.cellsOf 39 = 1 := by kernel_rfl
theorem cells41 : Tryd.prog.cellsOf 41 = 4 := by kernel_rfl
theorem cells5 : Tryd.prog.cellsOf 5 = 1 := by kernel_rfl
set_option maxRecDepth 100000 in
theorem trod_bys {H : Type} {enc : TypeId × Value → H} {w : World} {spare : Nat → Bool} {held : Bool} {fuel : Nat} {v : Value} {x : DataW H × List MemPlace}
    (hf : DataW.trod enc Tryd.prog w 0 spare held fuel 39 [v] = some x) : ∃ A n c bs, v = .slice A n c ∧ Bys w A n bs ∧ n ≤ c ∧ c ≤ maxLen := by
  rcases open_ints Tryd.underlying39 Tryd.underlying5 cells5 hf with ⟨hcs, _⟩ | ⟨y, l, c, zs, hcs, _, hl, hm, hz, hp, hcell, hwz⟩
  · simp at hcs
    exact ⟨none, 0, 0, [], hcs, Bys.none_ w, Nat.le_refl _, by unfold maxLen; omega⟩
  · simp at hcs
    have hzl : l ≤ zs.length := by rw [hz]; split <;> omega
    refine ⟨some y, l, c, (zs.take l).map Int.toNat, hcs, Bys.of_ints (c := c) ⟨by simp; omega, hl, fun n hn => hwz n (List.mem_of_mem_take hn), fun h0 => ?_⟩, hl, by omega⟩
    have hc0 := hcell 0 (by omega)
    have hsp : (y.add 0).spot = none := World.cell?_spot hc0
    obtain ⟨b, o, sp⟩ := y
    simp [Addr.add] at hsp
    subst hsp
    have := lt_of_cell hc0
    refine ⟨b, o, rfl, by simpa [Addr.add] using this, fun i hi => ?_⟩
    have h1 := hcell i (by omega)
    rw [add_none] at h1
    rw [h1]
    simp [List.getD, List.getElem?_take_of_lt hi]
set_option maxRecDepth 100000 in
theorem open_dg4 {H : Type} {enc : TypeId × Value → H} {w : World} {spare : Nat → Bool} {held : Bool} {n0 n1 n2 n3 : Nat} {v0 v1 v2 v3 : Value} {y0 y1 y2 y3 : DataW H × List MemPlace}
    (g0 : DataW.trod enc Tryd.prog w 0 spare held n0 3 [v0] = some y0) (g1 : DataW.trod enc Tryd.prog w 0 spare held n1 9 [v1] = some y1) (g2 : DataW.trod enc Tryd.prog w 0 spare held n2 9 [v2] = some y2)
    (g3 : DataW.trod enc Tryd.prog w 0 spare held n3 39 [v3] = some y3) : ∃ d : Dg, [v0, v1, v2, v3] = d.cells ∧ DgOk w d := by
  obtain ⟨a0, e0, _, w0⟩ := DataW.trod_int Tryd.underlying3 g0
  obtain ⟨a1, e1, _, w1⟩ := DataW.trod_string Tryd.underlying9 g1
  obtain ⟨a2, e2, _, w2⟩ := DataW.trod_string Tryd.underlying9 g2
  obtain ⟨A, n, c, bs, rfl, hB, hn, hc⟩ := trod_bys g3
  have b0 := bounds_i64 w0
  exact ⟨⟨a0, a1, a2, A, n, c, bs⟩, by rw [one_of e0, one_of e1, one_of e2]; rfl, ⟨hB, hn, hc, b0.1, b0.2, w1, w2⟩⟩
theorem list_of {α : Type} {p : Nat → α → Prop} : ∀ (n : Nat), (∀ i, i < n → ∃ x, p i x) → ∃ l : List α, l.length = n ∧ ∀ i x, l[i]? = some x → p i x
  | 0, _ => ⟨[], rfl, by simp⟩
  | n + 1, h => by
    obtain ⟨l, hl, hp⟩ := list_of n fun i hi => h i (by omega)
    obtain ⟨x, hx⟩ := h n (by omega)
    refine ⟨l ++ [x], by simp [hl], fun i y hy => ?_⟩
    by_cases hi : i < n
    · exact hp i y (by rwa [List.getElem?_append_left (by omega)] at hy)
    · rw [List.getElem?_append_right (by omega)] at hy
      have hlt := (List.getElem?_eq_some_iff.1 hy).1
      simp at hlt
      have : i = n := by omega
      subst this
      simp [hl] at hy
      exact hy ▸ hx
set_option maxRecDepth 100000 in
theorem open_dgs {H : Type} {enc : TypeId × Value → H} {w : World} {spare : Nat → Bool} {held : Bool} {v : Value} {d : DataW H} {p : List MemPlace} {r : Reach} {b0 : Nat}
    (hv : Value.okWide Tryd.prog w r b0 38 v) (h : DataW.Trod enc Tryd.prog w 0 spare held 38 v d p) :
    ∃ A n cap ds, v = .slice A n cap ∧ Dgs w A n ds ∧ n ≤ maxLen ∧ n ≤ cap := by
  obtain ⟨a, len, cap, rfl⟩ := okWide_slice Tryd.underlying38 hv
  obtain ⟨fuel, hf⟩ := h
  rcases open_slice_fields Tryd.underlying38 Tryd.underlying41 (by kernel_rfl) cells41 hf with ⟨hcs, _⟩ | ⟨y, l, c, m, D, Pl, hcs, _, hl, hm, hmm, _, hi⟩
  · simp [Value.cells] at hcs
    obtain ⟨rfl, rfl, rfl⟩ := hcs
    exact ⟨none, 0, 0, [], rfl, Dgs.none_ w, by unfold maxLen; omega, Nat.le_refl _⟩
  · simp [Value.cells] at hcs
    obtain ⟨rfl, rfl, rfl⟩ := hcs
    have hlm : len ≤ m := by rw [hmm]; split <;> omega
    obtain ⟨es, hes, hp⟩ := list_of (p := fun i (e : Dg) => DgOk w e ∧ ∀ j u, e.cells[j]? = some u → w.cell? (y.add (i * 4 + j)) = some u) len (fun i hil => by
      obtain ⟨ys, n, _, _, _, hj⟩ := hi i (by omega)
      obtain ⟨v0, y0, c0, _, g0⟩ := hj 0 _ rfl
      obtain ⟨v1, y1, c1, _, g1⟩ := hj 1 _ rfl
      obtain ⟨v2, y2, c2, _, g2⟩ := hj 2 _ rfl
      obtain ⟨v3, y3, c3, _, g3⟩ := hj 3 _ rfl
      obtain ⟨e, he, hok⟩ := open_dg4 g0 g1 g2 g3
      refine ⟨e, hok, fun j u hu => ?_⟩
      rw [← he] at hu
      match j, hu with
      | 0, hu => cases hu; exact c0
      | 1, hu => cases hu; exact c1
      | 2, hu => cases hu; exact c2
      | 3, hu => cases hu; exact c3
      | j + 4, hu => simp at hu)
    have hmem : ∀ e ∈ es, DgOk w e := fun e he => by
      obtain ⟨i, hi', rfl⟩ := List.mem_iff_getElem.1 he
      exact (hp i _ (List.getElem?_eq_getElem hi')).1
    have hcell : ∀ k u, (dgCells es)[k]? = some u → w.cell? (y.add k) = some u := fun k u hu => by
      have hk : k < es.length * 4 := by rw [← dgCells_len]; exact (List.getElem?_eq_some_iff.1 hu).1
      obtain ⟨ev, hev⟩ : ∃ ev, es[k / 4]? = some ev := ⟨_, List.getElem?_eq_getElem (by omega)⟩
      have h1 := flat_at Dg.cells_len es (k / 4) (k % 4) ev hev (by omega)
      rw [show k / 4 * 4 + k % 4 = k by omega] at h1
      have h2 := (hp _ _ hev).2 (k % 4) u (by rw [← h1]; exact hu)
      rwa [show k / 4 * 4 + k % 4 = k by omega] at h2
    refine ⟨some y, len, cap, es, rfl, ⟨⟨by rw [dgCells_len, hes], fun h0 => ⟨y, rfl, ?_, hcell⟩⟩, hes, hmem⟩, by omega, hl⟩
    have hl4 : 0 < (dgCells es).length := by rw [dgCells_len, hes]; omega
    have hc0 := hcell 0 _ (List.getElem?_eq_getElem hl4)
    have := lt_of_cell hc0
    rwa [block_of_add] at this


set_option maxRecDepth 100000 in
theorem showDatagrams_lifted (os : Os) (started : os.Started) (H : Type) (enc : TypeId × Value → H) :
    ReturnsInHanded {} Tryd.checked os 5 .any (fun w args => (Rows.showDatagramsSpec.pre enc Tryd.prog Tryd.f5 [] false w args ∧ laidMet Tryd.prog Rows.showDatagramsRow.laid w) ∧ sizedMet enc Tryd.prog Tryd.f5 (OpenSpec.ofChange Rows.showDatagramsSpec) false w args) (Rows.showDatagramsSpec.post enc Tryd.prog Tryd.f5 false true false false) := by
  refine returned_shaped (C := Tryd.checked) (X := fun w _ => laidMet Tryd.prog Rows.showDatagramsRow.laid w) (fun _ _ _ hh h => h.of_heap hh) own started (by kernel_rfl) Tryd.func5
    (ChangeSpec.witness_at (enc := enc) (C := Tryd.checked) (os := os) (X := fun w _ => laidMet Tryd.prog Rows.showDatagramsRow.laid w) false (laidWorld os) #[.slice none 0 0] 8 rfl (by kernel_rfl) (by kernel_rfl) (by kernel_rfl) (by kernel_rfl) (by kernel_rfl) (laid_met os _)) ?_
  intro W base args ds gs before hval0 hW hcnd hsz hL hsh hno
  have hT := tab_of hL hsh
  have hval : ∀ (j : Nat) t v, Tryd.f5.params[j]? = some t → args[j]? = some v → Value.okWide Tryd.prog W .any base t v := hval0
  have hW' := hW
  obtain ⟨p, q, hA0, hV, rfl, hfz, hnd⟩ := hW
  have hA : DataW.TrodAll enc Tryd.prog W 0 (fun _ => true) true Tryd.f5.params.toList args.toList ds p := hA0
  rw [Tryd.params5] at hA hval
  obtain ⟨v0, vs0, d0, ds0, p0, q0, hargs, rfl, rfl, h0, r0⟩ := trodAll_cons hA
  obtain ⟨rfl, rfl, rfl⟩ := trodAll_nil r0
  obtain rfl : args = #[v0] := by cases args; simp_all
  obtain ⟨rfl, rfl⟩ := trodVars_none hV
  have k0 := h0
  have lt0 : ∀ x ∈ p0, x.block < W.heap.size := by obtain ⟨m, hm⟩ := k0; exact DataW.trod_lt m _ _ _ hm
  obtain ⟨A0, n0, cap0, es0, rfl, hD0, hm0, hc0⟩ := open_dgs (hval 0 38 v0 rfl rfl) h0
  refine (dgrams_law W A0 n0 cap0 es0 hD0 hm0 hT).mono fun e W' ⟨he, bel⟩ => ?_
  subst he
  exact ⟨_, rfl, _, _, _, [], _, [], hW', trodAll_mk1 (shut_bool Tryd.underlying4 _), (trodAll_cons_mk (Below.trod laidOut (by kernel_rfl) (of_decide_eq_true (by kernel_rfl)) k0 bel lt0) trodAll_mk0), rfl, bel.frame _, fun h => by cases h⟩

theorem showDatagrams_holds : Rows.ShowDatagramsSaid :=
  OpenClaim.holds_of_wide 5 Tryd.f5 rfl rfl rfl rfl rfl rfl rfl ⟨rfl, rfl, rfl, rfl, rfl⟩ rfl rfl rfl rfl rfl (by kernel_rfl) Tryd.func5 (by kernel_rfl)
    (of_decide_eq_true (by kernel_rfl)) (by unfold Func.isWrapper; first | (rw [if_pos (by decide +kernel)]; kernel_rfl) | (rw [if_neg (by decide +kernel)]; exact ⟨rfl, rfl⟩))
    (fun os started H enc _ => showDatagrams_lifted os started H enc)
theorem showDatagramsCardSaid_holds : Rows.ShowDatagramsCardSaid :=
  Claim7.holds_tied_plain_at .later [] [.data, .data, .data, .data, .sentinel, .sentinel, .pinned] true (true, "bad1a9fc8e37cd71ad2d69f75a94848a6c0bbb180bdc79eab884bddd6a64388b") true
    showDatagrams_holds (fun _ h => by cases h) (by kernel_rfl) (fun _ h => by cases h) showDatagrams_row_tie rfl ⟨rfl, rfl⟩ (by kernel_rfl) rfl
    (fun f fn hf hfn => by
      obtain rfl : f = 5 := Option.some.inj ((show Tryd.prog.funcNamed "mooring/mooringlaw27.ShowDatagrams" = some 5 by kernel_rfl).symm.trans hf) |>.symm
      obtain rfl : fn = Tryd.f5 := (Option.some.inj (Tryd.func5.symm.trans hfn)).symm
      exact ⟨by kernel_rfl, fun j t ht => by
        rw [Tryd.params5] at ht
        have hm : t ∈ [38] := by have := Array.mem_of_getElem? ht; simpa using this
        have ha := (show ([38].all fun t => !Tryd.prog.wantsStandIn t) = true by kernel_rfl)
        have := List.all_eq_true.1 ha t hm
        have hw : Tryd.prog.wantsStandIn t = false := by simpa using this
        exact hw⟩)
    (by kernel_rfl)
#print axioms showDatagramsCardSaid_holds

end Go.Proofs.YtbifakhalnkfbaaDoor
