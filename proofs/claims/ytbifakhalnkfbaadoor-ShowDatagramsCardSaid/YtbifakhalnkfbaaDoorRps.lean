import Derived.Test.YtbifakhalnkfbaaDoorPrs
import Derived.Test.YtbifakhalnkfbaaDoorWds
import Derived.Test.YtbifakhalnkfbaaDoorRsr
namespace Go.Proofs.YtbifakhalnkfbaaDoor
open Go.ChangeShapes Go.WideShapes Go.ChangeAt Go.RowKit Go.Sort Go.Deep
set_option linter.unusedVariables false
set_option linter.unusedSimpArgs false
/-- What stands while the reference's Parse runs. -/
structure RI (w0 : World) (g b : Nat) (xs : List ByteArray) (W : World) : Prop where
  bel : Below g w0 W
  tab : Tab W
  k0 : Blk W g 25 zSt.arr
  wd : ∀ j x, xs[j]? = some x → W.cell? ⟨b, j, none⟩ = some (.string x)
  gb : g < b
  blt : b < W.heap.size
theorem RI.below {w0 W W' : World} {g b : Nat} {xs : List ByteArray} (h : RI w0 g b xs W) (hb : Below W.heap.size W W') : RI w0 g b xs W' :=
  have hlt := h.k0.lt
  ⟨h.bel.trans (hb.mono (by omega)), h.tab.below hb, h.k0.below hb h.k0.lt, fun j x hx => (hb.cell (p := ⟨b, j, none⟩) h.blt).trans (h.wd j x hx), h.gb, Nat.lt_of_lt_of_le h.blt hb.size⟩
theorem RI.alloc {w0 W : World} {g b : Nat} {xs : List ByteArray} (h : RI w0 g b xs W) (o : Obj) : RI w0 g b xs (W.alloc o) := h.below ((Below.refl _ W).alloc (Nat.le_refl _) o)
theorem RI.set {w0 W : World} {g b q i : Nat} {xs : List ByteArray} (h : RI w0 g b xs W) (hq : b < q) (h4 : 4 ≤ g) (v : Value) : RI w0 g b xs (W.setCell ⟨q, i, none⟩ v) :=
  have hgb := h.gb
  have hg : W.grownBy (W.setCell ⟨q, i, none⟩ v) (some q) := only_setCell (World.grownBy.refl _ _) (.inl rfl) _
  ⟨h.bel.setCell (p := ⟨q, i, none⟩) (show g ≤ q by omega) v, h.tab.only hg (by omega), h.k0.only hg (by omega), fun j x hx => (World.cell?_setCell_other W ⟨q, i, none⟩ ⟨b, j, none⟩ v (fun e => by injection e with e1; omega)).trans (h.wd j x hx), hgb, by simpa using h.blt⟩
theorem RI.c {w0 W : World} {g b : Nat} {xs : List ByteArray} (h : RI w0 g b xs W) (hl : xs.length = 17) (j : Nat) (hj : j < 17) : W.cell? ⟨b, j, none⟩ = some (.string (gw xs j)) :=
  h.wd j _ (by unfold gw; rw [List.getD_eq_getElem?_getD, List.getElem?_eq_getElem (by omega)]; rfl)
theorem gw_size {xs : List ByteArray} (h : ∀ x ∈ xs, x.size ≤ 300000) (j : Nat) : (gw xs j).size ≤ maxLen := by
  have h7 : (gw xs j).size ≤ 300000 := by
    unfold gw
    rw [List.getD_eq_getElem?_getD]
    cases he : xs[j]? with
    | none => simp
    | some x => exact h x (List.mem_of_getElem? he)
  unfold maxLen; omega
/-- The five numbers so far. -/
def lv (l0 l1 l2 l3 l4 i : Nat) : Array Value := #[.int .i64 ((if 0 < i then l0 else 0 : Nat) : Int), .int .i64 ((if 1 < i then l1 else 0 : Nat) : Int), .int .i64 ((if 2 < i then l2 else 0 : Nat) : Int), .int .i64 ((if 3 < i then l3 else 0 : Nat) : Int), .int .i64 ((if 4 < i then l4 else 0 : Nat) : Int)]
def lm (l0 l1 l2 l3 l4 i : Nat) : Prop := (0 < i → l0 ≤ 2147483647) ∧ (1 < i → l1 ≤ 2147483647) ∧ (2 < i → l2 ≤ 2147483647) ∧ (3 < i → l3 ≤ 2147483647) ∧ (4 < i → l4 ≤ 2147483647)
theorem wpList_load_g {P : Program} {ops : Array Oper} {rest : List Oper} {op : Oper} {a : Act} {w : World} {Q : Exit → Act → World → Prop} (hgd : Region.wanted op (yielded ops a.tmps) = true) (ty : TypeId) (x : Operand) (ho : op.op = .load ty x)
    (b o : Nat) (hx : a.eval x = .pointer (some ⟨b, o, none⟩)) (cs : List Value) (d : TypeDesc) (hc : w.rangeAt b o cs)
    (hu : P.underlying ty = some d) (hd : d.isRow = true) (hi : (P.info? ty).map (·.size) = some cs.length)
    (h : wpList P ops Q rest (a.put op.dst (.agg cs.toArray)) w) : wpList P ops Q (op :: rest) a w :=
  wpList_step fun K hK => by
    rw [if_pos hgd]
    exact wp_load_mid ty x ho b o hx cs d hc hu hd hi (hK _ _ h)
theorem okR_no {xs : List ByteArray} {text : ByteArray} (h : ¬ limR xs) : okR xs text = false := by unfold okR; rw [decide_eq_false h]; simp
set_option maxRecDepth 100000 in
set_option maxHeartbeats 4000000 in
theorem rparse_gen (text : ByteArray) (w : World) (xs : List ByteArray) (hT : Tab w) (hz : ∀ x ∈ xs, x.size ≤ 300000)
    (hsp : ∀ W : World, Calls Tryd.prog 33 #[.string text] W fun e w' => (∃ v, e = .returned v ∧ w'.ownsRow W.heap.size 9 1 v xs.length (xs.map Value.string)) ∧ Below W.heap.size W w') :
    Calls Tryd.prog 14 #[.string text] w fun e w' => e = .returned (.tuple #[(if okR xs text = true then candR xs else zSt).v, .bool (okR xs text)]) ∧ Below w.heap.size w w' := by
  have K0 := Blk.new w 25 zSt.arr
  have B0 : Below w.heap.size w (w.alloc (.cells zSt.arr 25)) := (Below.refl _ w).alloc (Nat.le_refl _) _
  have h4 : 4 ≤ w.heap.size := hT.sz
  have H0 := Lib.hid (And.intro K0 (And.intro B0 (hT.below B0)))
  have HZS := Lib.hid hz
  have hw := hsp (w.alloc (.cells zSt.arr 25))
  obtain ⟨RB, hRB⟩ : ∃ b, okR xs text = b := ⟨_, rfl⟩
  obtain ⟨RV, hRV⟩ : ∃ v, (if RB = true then candR xs else zSt).v = v := ⟨_, rfl⟩
  rw [hRB, hRV]
  have HRB := Lib.hid hRB
  have HRV := Lib.hid hRV
  rw [show zSt.arr = #[.int .u64 0, .int .u64 0, .bool false, .int .i64 0, .int .i64 0, .string ⟨#[]⟩, .int .i64 0, .int .i64 0, .int .u16 0, .bool false] from rfl] at hw
  clear K0 B0 hT hz hsp hRB hRV
  go_enter Tryd.func14, Tryd.ntmps14
  go_wp2_with (go_at_call 33; refine hw.mono ?_; rintro _ w1 ⟨⟨v, rfl, ho⟩, hb⟩; refine Hid.out ?_)
  refine Lib.hid ?_
  clear hw
  have hb1 : w.heap.size < (w.alloc (.cells zSt.arr 25)).heap.size := by simp
  have HK1 := Lib.hid (H0.out.1.below hb (H0.out.1.lt))
  have HB1 := Lib.hid (And.intro (H0.out.2.1.trans (hb.mono (by simp))) (H0.out.2.2.below hb))
  obtain ⟨A, c, rfl⟩ := own_form ho
  have HO := Lib.hid ho
  clear ho hb H0
  obtain ⟨N, hN⟩ : ∃ N, xs.length = N := ⟨_, rfl⟩
  rw [hN] at HO ⊢
  by_cases h17 : N = 17
  · subst h17
    have hO := HO.out
    obtain ⟨b, cap, hv, hbase, hblt⟩ := hO.form (by omega)
    obtain ⟨rfl, rfl⟩ : A = some ⟨b, 0, none⟩ ∧ c = cap := by injection hv with h1 h2 h3; exact ⟨h1, h3⟩
    have hcells := hO.cells (g := b) rfl
    have hgb : w.heap.size < b := by simp at hbase; omega
    have hc17 : 17 ≤ c := by rcases hO.2 with ⟨e, _⟩ | ⟨g', cap', cur, e, _, _, hcap, _⟩; cases e; injection e with e1 e2 e3; omega
    have R1 : RI w w.heap.size b xs w1 := ⟨HB1.out.1, HB1.out.2, HK1.out, fun j x hx => by have := hcells j (.string x) (by simp [hx]); rwa [add_none, Nat.zero_add] at this, hgb, hblt⟩
    have HR1 := Lib.hid R1
    have hci : (17 : Int) ≤ (c : Int) := by omega
    have hcm : c ≤ 9223372036854775807 := by rcases hO.2 with ⟨e, _⟩ | ⟨g', cap', cur, e, _, _, hcap, hcap2, _⟩; cases e; injection e with e1 e2 e3; unfold maxLen at hcap2; omega
    clear hO hv hbase hcells R1 HK1 HB1 HO
    obtain ⟨a16, h16⟩ : ∃ x, gw xs 16 = x := ⟨_, rfl⟩
    obtain ⟨cl, hcl⟩ : ∃ x, (a16.toList == [99, 108, 111, 115, 101, 100]) = x := ⟨_, rfl⟩
    have HCL := Lib.hid (show decide (gw xs 16 = closedS) = cl by
      rw [h16, ← hcl]
      by_cases h : a16 = closedS
      · rw [decide_eq_true h, h]; first | rfl | decide | simp [closedS]
      · have := toList_ne h
        rw [show closedS.toList = [99, 108, 111, 115, 101, 100] by first | rfl | decide | simp [closedS]] at this
        rw [decide_eq_false h, this])
    have c16 := HR1.out.c hN 16 (by omega)
    rw [h16] at c16
    clear h16
    go_upto_region 5 with (fail)
    have hq1 : b < w1.heap.size := HR1.out.blt
    have Rq := HR1.out.alloc (.cells #[.int .u64 0, .int .u64 0, .bool false, .int .i64 0, .int .i64 0, .string ⟨#[]⟩, .int .i64 0, .int .i64 0, .int .u16 0, .bool cl] 25)
    have Kq := Blk.new w1 25 #[.int .u64 0, .int .u64 0, .bool false, .int .i64 0, .int .i64 0, .string ⟨#[]⟩, .int .i64 0, .int .i64 0, .int .u16 0, .bool cl]
    obtain ⟨w2, hw2⟩ : ∃ W, w1.alloc (.cells #[.int .u64 0, .int .u64 0, .bool false, .int .i64 0, .int .i64 0, .string ⟨#[]⟩, .int .i64 0, .int .i64 0, .int .u16 0, .bool cl] 25) = W := ⟨_, rfl⟩
    rw [hw2] at Rq Kq ⊢
    clear hw2 HR1 c16 hcl
    generalize w1.heap.size = q at *
    obtain ⟨a1, h1⟩ : ∃ x, gw xs 1 = x := ⟨_, rfl⟩
    obtain ⟨n1, hn1⟩ : ∃ x, decN a1 = x := ⟨_, rfl⟩
    obtain ⟨e1, he1⟩ : ∃ x, decB a1 = x := ⟨_, rfl⟩
    obtain ⟨a3, h3⟩ : ∃ x, gw xs 3 = x := ⟨_, rfl⟩
    obtain ⟨n3, hn3⟩ : ∃ x, decN a3 = x := ⟨_, rfl⟩
    obtain ⟨e3, he3⟩ : ∃ x, decB a3 = x := ⟨_, rfl⟩
    have hd1 := rdecimal_any a1 w2 (by rw [← h1]; exact gw_size HZS.out 1)
    rw [hn1, he1] at hd1
    have c1 := Rq.c hN 1 (by omega)
    rw [h1] at c1
    have X1 := Lib.hid (show decN (gw xs 1) = n1 by rw [h1, hn1])
    have X3 := Lib.hid (show decN (gw xs 3) = n3 ∧ decB (gw xs 3) = e3 from ⟨by rw [h3, hn3], by rw [h3, he3]⟩)
    have hd3 : ∀ W : World, Calls Tryd.prog 20 #[.string a3] W fun e w' => e = .returned (.tuple #[.int .u64 n3, .bool e3]) ∧ Below W.heap.size W w' := fun W => by
      have := rdecimal_any a3 W (by rw [← h3]; exact gw_size HZS.out 3)
      rwa [hn3, he3] at this
    have HD3 := Lib.hid (And.intro hd3 h3)
    have HRq := Lib.hid Rq
    have HKq := Lib.hid Kq
    clear Rq Kq h1 hn1 he1 h3 hn3 he3 hd3
    go_wp2_with (go_at_call 20; refine hd1.mono ?_; rintro _ w3 ⟨rfl, hb⟩; refine Hid.out ?_)
    refine Lib.hid ?_
    have HR3 := Lib.hid (HRq.out.below hb)
    have HK3 := Lib.hid (HKq.out.below hb HKq.out.lt)
    clear hb hd1 HRq HKq c1
    have d0 : w3.cell? ⟨q, 0, none⟩ = some (.int .u64 0) := (HK3.out.cell 0).trans rfl
    have f0 := HK3.out.frozen 0
    go_upto_region 6 with (fail)
    have R4 := HR3.out.set hq1 h4 (.int .u64 n1) (i := 0)
    have K4 : Blk _ q 25 #[.int .u64 n1, .int .u64 0, .bool false, .int .i64 0, .int .i64 0, .string ⟨#[]⟩, .int .i64 0, .int .i64 0, .int .u16 0, .bool cl] := HK3.out.set_ 0 (.int .u64 n1)
    obtain ⟨w4, hw4⟩ : ∃ W, w3.setCell ⟨q, 0, none⟩ (.int .u64 n1) = W := ⟨_, rfl⟩
    rw [hw4] at R4 K4 ⊢
    have HR4 := Lib.hid R4
    have HK4 := Lib.hid K4
    clear hw4 HR3 HK3 d0 f0 R4 K4
    have c3 := HR4.out.c hN 3 (by omega)
    rw [HD3.out.2] at c3
    have hd3 := HD3.out.1 w4
    go_wp2_with (go_at_call 20; refine hd3.mono ?_; rintro _ w5 ⟨rfl, hb⟩; refine Hid.out ?_)
    refine Lib.hid ?_
    have HR5 := Lib.hid (HR4.out.below hb)
    have HK5 := Lib.hid (HK4.out.below hb HK4.out.lt)
    clear hb hd3 HR4 HK4 c3 HD3
    have d1 : w5.cell? ⟨q, 1, none⟩ = some (.int .u64 0) := (HK5.out.cell 1).trans rfl
    have d2 : w5.cell? ⟨q, 2, none⟩ = some (.bool false) := (HK5.out.cell 2).trans rfl
    have f1 := HK5.out.frozen 1
    have f2 := HK5.out.frozen 2
    go_upto_region 7 with (fail)
    have R6 := (HR5.out.set hq1 h4 (.int .u64 n3) (i := 1)).set hq1 h4 (.bool e3) (i := 2)
    have K6 : Blk _ q 25 #[.int .u64 n1, .int .u64 n3, .bool e3, .int .i64 0, .int .i64 0, .string ⟨#[]⟩, .int .i64 0, .int .i64 0, .int .u16 0, .bool cl] := (HK5.out.set_ 1 (.int .u64 n3)).set_ 2 (.bool e3)
    obtain ⟨w6, hw6⟩ : ∃ W, (w5.setCell ⟨q, 1, none⟩ (.int .u64 n3)).setCell ⟨q, 2, none⟩ (.bool e3) = W := ⟨_, rfl⟩
    rw [hw6] at R6 K6 ⊢
    clear hw6 HR5 HK5 d1 d2 f1 f2
    have hqr : q < w6.heap.size := K6.lt
    have R7 := R6.alloc (.cells #[.int .i64 0, .int .i64 0, .int .i64 0, .int .i64 0, .int .i64 0] 65)
    have K7 := K6.alloc (.cells #[.int .i64 0, .int .i64 0, .int .i64 0, .int .i64 0, .int .i64 0] 65)
    have L7 := Blk.new w6 65 #[.int .i64 0, .int .i64 0, .int .i64 0, .int .i64 0, .int .i64 0]
    have HR7 := Lib.hid R7
    have HK7 := Lib.hid K7
    have HL7 := Lib.hid L7
    clear R6 K6 R7 K7 L7
    go_upto_region 8 with (fail)
    obtain ⟨w7, hw7⟩ : ∃ W, w6.alloc (.cells #[.int .i64 0, .int .i64 0, .int .i64 0, .int .i64 0, .int .i64 0] 65) = W := ⟨_, rfl⟩
    rw [hw7] at HR7 HK7 HL7 ⊢
    clear hw7
    generalize w6.heap.size = r at *
    have hbr : b < r := by omega
    obtain ⟨a5, h5⟩ : ∃ x, gw xs 5 = x := ⟨_, rfl⟩
    obtain ⟨l0, hl0⟩ : ∃ x, decN a5 = x := ⟨_, rfl⟩
    obtain ⟨e5, he5⟩ : ∃ x, decB a5 = x := ⟨_, rfl⟩
    have hd5 : ∀ W : World, Calls Tryd.prog 20 #[.string a5] W fun e w' => e = .returned (.tuple #[.int .u64 l0, .bool e5]) ∧ Below W.heap.size W w' := fun W => by
      have := rdecimal_any a5 W (by rw [← h5]; exact gw_size HZS.out 5)
      rwa [hl0, he5] at this
    have HD5 := Lib.hid (And.intro hd5 h5)
    have Xl0 := Lib.hid (show decN (gw xs 5) = l0 ∧ l0 < 18446744073709551616 from ⟨by rw [h5, hl0], by rw [← hl0]; exact decN_lt _⟩)
    clear h5 hl0 he5 hd5
    obtain ⟨a7, h7⟩ : ∃ x, gw xs 7 = x := ⟨_, rfl⟩
    obtain ⟨l1, hl1⟩ : ∃ x, decN a7 = x := ⟨_, rfl⟩
    obtain ⟨e7, he7⟩ : ∃ x, decB a7 = x := ⟨_, rfl⟩
    have hd7 : ∀ W : World, Calls Tryd.prog 20 #[.string a7] W fun e w' => e = .returned (.tuple #[.int .u64 l1, .bool e7]) ∧ Below W.heap.size W w' := fun W => by
      have := rdecimal_any a7 W (by rw [← h7]; exact gw_size HZS.out 7)
      rwa [hl1, he7] at this
    have HD7 := Lib.hid (And.intro hd7 h7)
    have Xl1 := Lib.hid (show decN (gw xs 7) = l1 ∧ l1 < 18446744073709551616 from ⟨by rw [h7, hl1], by rw [← hl1]; exact decN_lt _⟩)
    clear h7 hl1 he7 hd7
    obtain ⟨a9, h9⟩ : ∃ x, gw xs 9 = x := ⟨_, rfl⟩
    obtain ⟨l2, hl2⟩ : ∃ x, decN a9 = x := ⟨_, rfl⟩
    obtain ⟨e9, he9⟩ : ∃ x, decB a9 = x := ⟨_, rfl⟩
    have hd9 : ∀ W : World, Calls Tryd.prog 20 #[.string a9] W fun e w' => e = .returned (.tuple #[.int .u64 l2, .bool e9]) ∧ Below W.heap.size W w' := fun W => by
      have := rdecimal_any a9 W (by rw [← h9]; exact gw_size HZS.out 9)
      rwa [hl2, he9] at this
    have HD9 := Lib.hid (And.intro hd9 h9)
    have Xl2 := Lib.hid (show decN (gw xs 9) = l2 ∧ l2 < 18446744073709551616 from ⟨by rw [h9, hl2], by rw [← hl2]; exact decN_lt _⟩)
    clear h9 hl2 he9 hd9
    obtain ⟨a11, h11⟩ : ∃ x, gw xs 11 = x := ⟨_, rfl⟩
    obtain ⟨l3, hl3⟩ : ∃ x, decN a11 = x := ⟨_, rfl⟩
    obtain ⟨e11, he11⟩ : ∃ x, decB a11 = x := ⟨_, rfl⟩
    have hd11 : ∀ W : World, Calls Tryd.prog 20 #[.string a11] W fun e w' => e = .returned (.tuple #[.int .u64 l3, .bool e11]) ∧ Below W.heap.size W w' := fun W => by
      have := rdecimal_any a11 W (by rw [← h11]; exact gw_size HZS.out 11)
      rwa [hl3, he11] at this
    have HD11 := Lib.hid (And.intro hd11 h11)
    have Xl3 := Lib.hid (show decN (gw xs 11) = l3 ∧ l3 < 18446744073709551616 from ⟨by rw [h11, hl3], by rw [← hl3]; exact decN_lt _⟩)
    clear h11 hl3 he11 hd11
    obtain ⟨a13, h13⟩ : ∃ x, gw xs 13 = x := ⟨_, rfl⟩
    obtain ⟨l4, hl4⟩ : ∃ x, decN a13 = x := ⟨_, rfl⟩
    obtain ⟨e13, he13⟩ : ∃ x, decB a13 = x := ⟨_, rfl⟩
    have hd13 : ∀ W : World, Calls Tryd.prog 20 #[.string a13] W fun e w' => e = .returned (.tuple #[.int .u64 l4, .bool e13]) ∧ Below W.heap.size W w' := fun W => by
      have := rdecimal_any a13 W (by rw [← h13]; exact gw_size HZS.out 13)
      rwa [hl4, he13] at this
    have HD13 := Lib.hid (And.intro hd13 h13)
    have Xl4 := Lib.hid (show decN (gw xs 13) = l4 ∧ l4 < 18446744073709551616 from ⟨by rw [h13, hl4], by rw [← hl4]; exact decN_lt _⟩)
    clear h13 hl4 he13 hd13
    go_wp2_with fail
    go_loopw [7] (fun s7 wr => ∃ i : Nat, s7 = .int .i64 i ∧ i ≤ 5 ∧ RI w w.heap.size b xs wr ∧ Blk wr q 25 #[.int .u64 n1, .int .u64 n3, .bool e3, .int .i64 0, .int .i64 0, .string ⟨#[]⟩, .int .i64 0, .int .i64 0, .int .u16 0, .bool cl] ∧ Blk wr r 65 (lv l0 l1 l2 l3 l4 i) ∧ lm l0 l1 l2 l3 l4 i) (fun i _ => 5 - (intOf i).toNat)
    case atStart => exact ⟨0, rfl, by omega, HR7.out, HK7.out, HL7.out, by unfold lm; omega⟩
    case round =>
      obtain ⟨i, rfl, hi5, hR, hK, hL, hM⟩ := hrel
      have HRr := Lib.hid hR
      have HKr := Lib.hid hK
      have HLr := Lib.hid hL
      have HMr := Lib.hid hM
      clear hR hK hL hM HR7 HK7 HL7
      obtain rfl | rfl | rfl | rfl | rfl | rfl : i = 0 ∨ i = 1 ∨ i = 2 ∨ i = 3 ∨ i = 4 ∨ i = 5 := by omega
      · have ca := HRr.out.c hN 5 (by omega)
        rw [HD5.out.2] at ca
        have hda := HD5.out.1 wr
        have hlt := Xl0.out.2
        by_cases hx : l0 ≤ 2147483647
        · have hcv : IntKind.i64.wrap (l0 : Int) = (l0 : Int) := IntWalk.i64_in _ (by omega)
          have hi : (l0 : Int) ≤ 2147483647 := by omega
          go_wp2_with (go_at_call 20; refine hda.mono ?_; rintro _ ws ⟨rfl, hb⟩; refine Hid.out ?_)
          refine Lib.hid ?_
          have HRs := Lib.hid (HRr.out.below hb)
          have HKs := Lib.hid (HKr.out.below hb HKr.out.lt)
          have HLs := Lib.hid (HLr.out.below hb HLr.out.lt)
          have da : ws.cell? ⟨r, 0, none⟩ = some (.int .i64 0) := (HLs.out.cell 0).trans rfl
          have fa := HLs.out.frozen 0
          clear hb hda ca
          go_wp2_with fail
          go_roundw
          case rel => exact ⟨1, by first | rfl | go_num, by omega, HRs.out.set hbr h4 (.int .i64 l0) (i := 0), HKs.out.far (p := ⟨r, 0, none⟩) (show q ≠ r by omega) _, HLs.out.set_ 0 (.int .i64 l0), by have := HMr.out; unfold lm at this ⊢; omega⟩
          case measure => simp [intOf]
        · have hi : (2147483647 : Int) < (l0 : Int) := by omega
          go_wp2_with (go_at_call 20; refine hda.mono ?_; rintro _ ws ⟨rfl, hb⟩; refine Hid.out ?_)
          refine Lib.hid ?_
          have HRs := Lib.hid (HRr.out.below hb)
          clear hb hda ca
          have HB := Lib.hid (show okR xs text = false by exact okR_no (fun h => by unfold limR at h; rw [Xl0.out.1, Xl1.out.1, Xl2.out.1, Xl3.out.1, Xl4.out.1] at h; omega))
          go_wp2_with ((with_reducible (show wpList _ _ _ ({ dst := _, op := Op.store 25 _ _, type := _, pos := _, after := _, guard := _ } :: _) _ _)); refine wpList_store_mid rfl 25 (.tmp 2) (.tmp 54) rfl w.heap.size 0 zSt.arr rfl rfl (Blk.there HRs.out.k0 rfl) info25 (arr_one _) ?_; refine Hid.out ?_)
          refine Lib.hid ?_
          obtain ⟨wz, hwz⟩ : ∃ W, ws.setCells w.heap.size 0 (zSt.arr).toList = W := ⟨_, rfl⟩
          have HZ := Lib.hid (And.intro (Blk.setAll HRs.out.k0 (cs' := zSt.arr) (by rfl)) (below_setCells (zSt.arr).toList 0 ws HRs.out.bel (Nat.le_refl _)))
          rw [hwz] at HZ ⊢
          clear hwz
          repeat go_step
          (try simp only [Exit.then])
          refine ret_ct (by rfl) (by rfl) (by rfl) (Blk.rangeAt HZ.out.1) Tryd.underlying25 (by rfl) (by kernel_rfl) ?_
          exact ⟨by rw [← HRV.out, show RB = false from HRB.out.symm.trans HB.out, if_neg (by decide)]; rfl, HZ.out.2⟩
      · have ca := HRr.out.c hN 7 (by omega)
        rw [HD7.out.2] at ca
        have hda := HD7.out.1 wr
        have hlt := Xl1.out.2
        by_cases hx : l1 ≤ 2147483647
        · have hcv : IntKind.i64.wrap (l1 : Int) = (l1 : Int) := IntWalk.i64_in _ (by omega)
          have hi : (l1 : Int) ≤ 2147483647 := by omega
          go_wp2_with (go_at_call 20; refine hda.mono ?_; rintro _ ws ⟨rfl, hb⟩; refine Hid.out ?_)
          refine Lib.hid ?_
          have HRs := Lib.hid (HRr.out.below hb)
          have HKs := Lib.hid (HKr.out.below hb HKr.out.lt)
          have HLs := Lib.hid (HLr.out.below hb HLr.out.lt)
          have da : ws.cell? ⟨r, 1, none⟩ = some (.int .i64 0) := (HLs.out.cell 1).trans rfl
          have fa := HLs.out.frozen 1
          clear hb hda ca
          go_wp2_with fail
          go_roundw
          case rel => exact ⟨2, by first | rfl | go_num, by omega, HRs.out.set hbr h4 (.int .i64 l1) (i := 1), HKs.out.far (p := ⟨r, 1, none⟩) (show q ≠ r by omega) _, HLs.out.set_ 1 (.int .i64 l1), by have := HMr.out; unfold lm at this ⊢; omega⟩
          case measure => simp [intOf]
        · have hi : (2147483647 : Int) < (l1 : Int) := by omega
          go_wp2_with (go_at_call 20; refine hda.mono ?_; rintro _ ws ⟨rfl, hb⟩; refine Hid.out ?_)
          refine Lib.hid ?_
          have HRs := Lib.hid (HRr.out.below hb)
          clear hb hda ca
          have HB := Lib.hid (show okR xs text = false by exact okR_no (fun h => by unfold limR at h; rw [Xl0.out.1, Xl1.out.1, Xl2.out.1, Xl3.out.1, Xl4.out.1] at h; omega))
          go_wp2_with ((with_reducible (show wpList _ _ _ ({ dst := _, op := Op.store 25 _ _, type := _, pos := _, after := _, guard := _ } :: _) _ _)); refine wpList_store_mid rfl 25 (.tmp 2) (.tmp 54) rfl w.heap.size 0 zSt.arr rfl rfl (Blk.there HRs.out.k0 rfl) info25 (arr_one _) ?_; refine Hid.out ?_)
          refine Lib.hid ?_
          obtain ⟨wz, hwz⟩ : ∃ W, ws.setCells w.heap.size 0 (zSt.arr).toList = W := ⟨_, rfl⟩
          have HZ := Lib.hid (And.intro (Blk.setAll HRs.out.k0 (cs' := zSt.arr) (by rfl)) (below_setCells (zSt.arr).toList 0 ws HRs.out.bel (Nat.le_refl _)))
          rw [hwz] at HZ ⊢
          clear hwz
          repeat go_step
          (try simp only [Exit.then])
          refine ret_ct (by rfl) (by rfl) (by rfl) (Blk.rangeAt HZ.out.1) Tryd.underlying25 (by rfl) (by kernel_rfl) ?_
          exact ⟨by rw [← HRV.out, show RB = false from HRB.out.symm.trans HB.out, if_neg (by decide)]; rfl, HZ.out.2⟩
      · have ca := HRr.out.c hN 9 (by omega)
        rw [HD9.out.2] at ca
        have hda := HD9.out.1 wr
        have hlt := Xl2.out.2
        by_cases hx : l2 ≤ 2147483647
        · have hcv : IntKind.i64.wrap (l2 : Int) = (l2 : Int) := IntWalk.i64_in _ (by omega)
          have hi : (l2 : Int) ≤ 2147483647 := by omega
          go_wp2_with (go_at_call 20; refine hda.mono ?_; rintro _ ws ⟨rfl, hb⟩; refine Hid.out ?_)
          refine Lib.hid ?_
          have HRs := Lib.hid (HRr.out.below hb)
          have HKs := Lib.hid (HKr.out.below hb HKr.out.lt)
          have HLs := Lib.hid (HLr.out.below hb HLr.out.lt)
          have da : ws.cell? ⟨r, 2, none⟩ = some (.int .i64 0) := (HLs.out.cell 2).trans rfl
          have fa := HLs.out.frozen 2
          clear hb hda ca
          go_wp2_with fail
          go_roundw
          case rel => exact ⟨3, by first | rfl | go_num, by omega, HRs.out.set hbr h4 (.int .i64 l2) (i := 2), HKs.out.far (p := ⟨r, 2, none⟩) (show q ≠ r by omega) _, HLs.out.set_ 2 (.int .i64 l2), by have := HMr.out; unfold lm at this ⊢; omega⟩
          case measure => simp [intOf]
        · have hi : (2147483647 : Int) < (l2 : Int) := by omega
          go_wp2_with (go_at_call 20; refine hda.mono ?_; rintro _ ws ⟨rfl, hb⟩; refine Hid.out ?_)
          refine Lib.hid ?_
          have HRs := Lib.hid (HRr.out.below hb)
          clear hb hda ca
          have HB := Lib.hid (show okR xs text = false by exact okR_no (fun h => by unfold limR at h; rw [Xl0.out.1, Xl1.out.1, Xl2.out.1, Xl3.out.1, Xl4.out.1] at h; omega))
          go_wp2_with ((with_reducible (show wpList _ _ _ ({ dst := _, op := Op.store 25 _ _, type := _, pos := _, after := _, guard := _ } :: _) _ _)); refine wpList_store_mid rfl 25 (.tmp 2) (.tmp 54) rfl w.heap.size 0 zSt.arr rfl rfl (Blk.there HRs.out.k0 rfl) info25 (arr_one _) ?_; refine Hid.out ?_)
          refine Lib.hid ?_
          obtain ⟨wz, hwz⟩ : ∃ W, ws.setCells w.heap.size 0 (zSt.arr).toList = W := ⟨_, rfl⟩
          have HZ := Lib.hid (And.intro (Blk.setAll HRs.out.k0 (cs' := zSt.arr) (by rfl)) (below_setCells (zSt.arr).toList 0 ws HRs.out.bel (Nat.le_refl _)))
          rw [hwz] at HZ ⊢
          clear hwz
          repeat go_step
          (try simp only [Exit.then])
          refine ret_ct (by rfl) (by rfl) (by rfl) (Blk.rangeAt HZ.out.1) Tryd.underlying25 (by rfl) (by kernel_rfl) ?_
          exact ⟨by rw [← HRV.out, show RB = false from HRB.out.symm.trans HB.out, if_neg (by decide)]; rfl, HZ.out.2⟩
      · have ca := HRr.out.c hN 11 (by omega)
        rw [HD11.out.2] at ca
        have hda := HD11.out.1 wr
        have hlt := Xl3.out.2
        by_cases hx : l3 ≤ 2147483647
        · have hcv : IntKind.i64.wrap (l3 : Int) = (l3 : Int) := IntWalk.i64_in _ (by omega)
          have hi : (l3 : Int) ≤ 2147483647 := by omega
          go_wp2_with (go_at_call 20; refine hda.mono ?_; rintro _ ws ⟨rfl, hb⟩; refine Hid.out ?_)
          refine Lib.hid ?_
          have HRs := Lib.hid (HRr.out.below hb)
          have HKs := Lib.hid (HKr.out.below hb HKr.out.lt)
          have HLs := Lib.hid (HLr.out.below hb HLr.out.lt)
          have da : ws.cell? ⟨r, 3, none⟩ = some (.int .i64 0) := (HLs.out.cell 3).trans rfl
          have fa := HLs.out.frozen 3
          clear hb hda ca
          go_wp2_with fail
          go_roundw
          case rel => exact ⟨4, by first | rfl | go_num, by omega, HRs.out.set hbr h4 (.int .i64 l3) (i := 3), HKs.out.far (p := ⟨r, 3, none⟩) (show q ≠ r by omega) _, HLs.out.set_ 3 (.int .i64 l3), by have := HMr.out; unfold lm at this ⊢; omega⟩
          case measure => simp [intOf]
        · have hi : (2147483647 : Int) < (l3 : Int) := by omega
          go_wp2_with (go_at_call 20; refine hda.mono ?_; rintro _ ws ⟨rfl, hb⟩; refine Hid.out ?_)
          refine Lib.hid ?_
          have HRs := Lib.hid (HRr.out.below hb)
          clear hb hda ca
          have HB := Lib.hid (show okR xs text = false by exact okR_no (fun h => by unfold limR at h; rw [Xl0.out.1, Xl1.out.1, Xl2.out.1, Xl3.out.1, Xl4.out.1] at h; omega))
          go_wp2_with ((with_reducible (show wpList _ _ _ ({ dst := _, op := Op.store 25 _ _, type := _, pos := _, after := _, guard := _ } :: _) _ _)); refine wpList_store_mid rfl 25 (.tmp 2) (.tmp 54) rfl w.heap.size 0 zSt.arr rfl rfl (Blk.there HRs.out.k0 rfl) info25 (arr_one _) ?_; refine Hid.out ?_)
          refine Lib.hid ?_
          obtain ⟨wz, hwz⟩ : ∃ W, ws.setCells w.heap.size 0 (zSt.arr).toList = W := ⟨_, rfl⟩
          have HZ := Lib.hid (And.intro (Blk.setAll HRs.out.k0 (cs' := zSt.arr) (by rfl)) (below_setCells (zSt.arr).toList 0 ws HRs.out.bel (Nat.le_refl _)))
          rw [hwz] at HZ ⊢
          clear hwz
          repeat go_step
          (try simp only [Exit.then])
          refine ret_ct (by rfl) (by rfl) (by rfl) (Blk.rangeAt HZ.out.1) Tryd.underlying25 (by rfl) (by kernel_rfl) ?_
          exact ⟨by rw [← HRV.out, show RB = false from HRB.out.symm.trans HB.out, if_neg (by decide)]; rfl, HZ.out.2⟩
      · have ca := HRr.out.c hN 13 (by omega)
        rw [HD13.out.2] at ca
        have hda := HD13.out.1 wr
        have hlt := Xl4.out.2
        by_cases hx : l4 ≤ 2147483647
        · have hcv : IntKind.i64.wrap (l4 : Int) = (l4 : Int) := IntWalk.i64_in _ (by omega)
          have hi : (l4 : Int) ≤ 2147483647 := by omega
          go_wp2_with (go_at_call 20; refine hda.mono ?_; rintro _ ws ⟨rfl, hb⟩; refine Hid.out ?_)
          refine Lib.hid ?_
          have HRs := Lib.hid (HRr.out.below hb)
          have HKs := Lib.hid (HKr.out.below hb HKr.out.lt)
          have HLs := Lib.hid (HLr.out.below hb HLr.out.lt)
          have da : ws.cell? ⟨r, 4, none⟩ = some (.int .i64 0) := (HLs.out.cell 4).trans rfl
          have fa := HLs.out.frozen 4
          clear hb hda ca
          go_wp2_with fail
          go_roundw
          case rel => exact ⟨5, by first | rfl | go_num, by omega, HRs.out.set hbr h4 (.int .i64 l4) (i := 4), HKs.out.far (p := ⟨r, 4, none⟩) (show q ≠ r by omega) _, HLs.out.set_ 4 (.int .i64 l4), by have := HMr.out; unfold lm at this ⊢; omega⟩
          case measure => simp [intOf]
        · have hi : (2147483647 : Int) < (l4 : Int) := by omega
          go_wp2_with (go_at_call 20; refine hda.mono ?_; rintro _ ws ⟨rfl, hb⟩; refine Hid.out ?_)
          refine Lib.hid ?_
          have HRs := Lib.hid (HRr.out.below hb)
          clear hb hda ca
          have HB := Lib.hid (show okR xs text = false by exact okR_no (fun h => by unfold limR at h; rw [Xl0.out.1, Xl1.out.1, Xl2.out.1, Xl3.out.1, Xl4.out.1] at h; omega))
          go_wp2_with ((with_reducible (show wpList _ _ _ ({ dst := _, op := Op.store 25 _ _, type := _, pos := _, after := _, guard := _ } :: _) _ _)); refine wpList_store_mid rfl 25 (.tmp 2) (.tmp 54) rfl w.heap.size 0 zSt.arr rfl rfl (Blk.there HRs.out.k0 rfl) info25 (arr_one _) ?_; refine Hid.out ?_)
          refine Lib.hid ?_
          obtain ⟨wz, hwz⟩ : ∃ W, ws.setCells w.heap.size 0 (zSt.arr).toList = W := ⟨_, rfl⟩
          have HZ := Lib.hid (And.intro (Blk.setAll HRs.out.k0 (cs' := zSt.arr) (by rfl)) (below_setCells (zSt.arr).toList 0 ws HRs.out.bel (Nat.le_refl _)))
          rw [hwz] at HZ ⊢
          clear hwz
          repeat go_step
          (try simp only [Exit.then])
          refine ret_ct (by rfl) (by rfl) (by rfl) (Blk.rangeAt HZ.out.1) Tryd.underlying25 (by rfl) (by kernel_rfl) ?_
          exact ⟨by rw [← HRV.out, show RB = false from HRB.out.symm.trans HB.out, if_neg (by decide)]; rfl, HZ.out.2⟩
      · have m0 : wr.cell? ⟨r, 0, none⟩ = some (.int .i64 l0) := (HLr.out.cell 0).trans rfl
        have m1 : wr.cell? ⟨r, 1, none⟩ = some (.int .i64 l1) := (HLr.out.cell 1).trans rfl
        have m2 : wr.cell? ⟨r, 2, none⟩ = some (.int .i64 l2) := (HLr.out.cell 2).trans rfl
        have m3 : wr.cell? ⟨r, 3, none⟩ = some (.int .i64 l3) := (HLr.out.cell 3).trans rfl
        have d3 : wr.cell? ⟨q, 3, none⟩ = some (.int .i64 0) := (HKr.out.cell 3).trans rfl
        have d4 : wr.cell? ⟨q, 4, none⟩ = some (.int .i64 0) := (HKr.out.cell 4).trans rfl
        have d6 : wr.cell? ⟨q, 6, none⟩ = some (.int .i64 0) := (HKr.out.cell 6).trans rfl
        have d7 : wr.cell? ⟨q, 7, none⟩ = some (.int .i64 0) := (HKr.out.cell 7).trans rfl
        have f3 := HKr.out.frozen 3
        have f4 := HKr.out.frozen 4
        have f6 := HKr.out.frozen 6
        have f7 := HKr.out.frozen 7
        have hne1 : ¬ q = r := by omega
        have hne2 : ¬ r = q := by omega
        go_upto_region 19 with (fail)
        have R8 := (((HRr.out.set hq1 h4 (.int .i64 l0) (i := 3)).set hq1 h4 (.int .i64 l1) (i := 4)).set hq1 h4 (.int .i64 l2) (i := 6)).set hq1 h4 (.int .i64 l3) (i := 7)
        have K8 : Blk _ q 25 #[.int .u64 n1, .int .u64 n3, .bool e3, .int .i64 l0, .int .i64 l1, .string ⟨#[]⟩, .int .i64 l2, .int .i64 l3, .int .u16 0, .bool cl] := (((HKr.out.set_ 3 (.int .i64 l0)).set_ 4 (.int .i64 l1)).set_ 6 (.int .i64 l2)).set_ 7 (.int .i64 l3)
        have L8 := (((HLr.out.far (p := ⟨q, 3, none⟩) hne2 (.int .i64 l0)).far (p := ⟨q, 4, none⟩) hne2 (.int .i64 l1)).far (p := ⟨q, 6, none⟩) hne2 (.int .i64 l2)).far (p := ⟨q, 7, none⟩) hne2 (.int .i64 l3)
        obtain ⟨w8, hw8⟩ : ∃ W, (((wr.setCell ⟨q, 3, none⟩ (.int .i64 l0)).setCell ⟨q, 4, none⟩ (.int .i64 l1)).setCell ⟨q, 6, none⟩ (.int .i64 l2)).setCell ⟨q, 7, none⟩ (.int .i64 l3) = W := ⟨_, rfl⟩
        rw [hw8] at R8 K8 L8 ⊢
        have HR8 := Lib.hid R8
        have HK8 := Lib.hid K8
        have HL8 := Lib.hid L8
        clear hw8 R8 K8 L8 HRr HKr HLr m0 m1 m2 m3 d3 d4 d6 d7 f3 f4 f6 f7
        have m4 : w8.cell? ⟨r, 4, none⟩ = some (.int .i64 l4) := (HL8.out.cell 4).trans rfl
        by_cases hx : l4 ≤ 65535
        · have hi : (l4 : Int) ≤ 65535 := by omega
          have hcv : IntKind.u16.wrap (l4 : Int) = (l4 : Int) := IntWalk.u16_in _ (by omega)
          have d8 : w8.cell? ⟨q, 8, none⟩ = some (.int .u16 0) := (HK8.out.cell 8).trans rfl
          have f8 := HK8.out.frozen 8
          go_upto_region 22 with (fail)
          have R9 := HR8.out.set hq1 h4 (.int .u16 l4) (i := 8)
          have K9 : Blk _ q 25 #[.int .u64 n1, .int .u64 n3, .bool e3, .int .i64 l0, .int .i64 l1, .string ⟨#[]⟩, .int .i64 l2, .int .i64 l3, .int .u16 l4, .bool cl] := HK8.out.set_ 8 (.int .u16 l4)
          obtain ⟨w9, hw9⟩ : ∃ W, w8.setCell ⟨q, 8, none⟩ (.int .u16 l4) = W := ⟨_, rfl⟩
          rw [hw9] at R9 K9 ⊢
          have HR9 := Lib.hid R9
          have HK9 := Lib.hid K9
          clear hw9 R9 K9 HR8 HK8 HL8 m4 d8 f8
          obtain ⟨a15, h15⟩ : ∃ x, gw xs 15 = x := ⟨_, rfl⟩
          have X15 := Lib.hid h15
          have c15 := HR9.out.c hN 15 (by omega)
          rw [h15] at c15
          clear h15
          go_upto_if 82 with (fail)
          go_cut [7] (fun s wx => s = .int .i64 5 ∧ RI w w.heap.size b xs wx ∧ Blk wx q 25 #[.int .u64 n1, .int .u64 n3, .bool e3, .int .i64 l0, .int .i64 l1, .string (adP a15), .int .i64 l2, .int .i64 l3, .int .u16 l4, .bool cl])
          case first =>
            have d5 : w9.cell? ⟨q, 5, none⟩ = some (.string ⟨#[]⟩) := (HK9.out.cell 5).trans rfl
            have f5 := HK9.out.frozen 5
            have HA1 := Lib.hid (show (!a15.toList == [42]) = false → adP a15 = ByteArray.empty by
              intro h1
              unfold adP
              rw [if_pos]
              refine Classical.byContradiction fun h => ?_
              have h2 := toList_ne h
              rw [show starS.toList = [42] by first | rfl | decide | simp [starS]] at h2
              rw [h2] at h1
              cases h1)
            have HA2 := Lib.hid (show (!a15.toList == [42]) = true → adP a15 = a15 by
              intro h1
              unfold adP
              rw [if_neg]
              intro h
              rw [h, show starS.toList = [42] by first | rfl | decide | simp [starS]] at h1
              cases h1)
            go_wp2_with fail
            all_goals rename_i h1
            all_goals go_meet
            · exact ⟨rfl, HR9.out.set hq1 h4 (.string a15) (i := 5), by rw [HA2.out h1]; exact HK9.out.set_ 5 (.string a15)⟩
            · exact ⟨rfl, HR9.out, by rw [HA1.out h1]; exact HK9.out⟩
          case rest =>
            obtain ⟨rfl, hr, hk⟩ := hcut
            have HRc := Lib.hid hr
            have HKc := Lib.hid hk
            have HLIM := Lib.hid (show limR xs by unfold limR; rw [Xl0.out.1, Xl1.out.1, Xl2.out.1, Xl3.out.1, Xl4.out.1]; have := HMr.out; unfold lm at this; omega)
            have HCE := Lib.hid (show candR xs = ⟨n1, n3, e3, (l0 : Nat), (l1 : Nat), adP a15, (l2 : Nat), (l3 : Nat), l4, cl⟩ by
              unfold candR
              rw [X1.out, X3.out.1, X3.out.2, Xl0.out.1, Xl1.out.1, Xl2.out.1, Xl3.out.1, Xl4.out.1, X15.out, HCL.out])
            have hcok := candR_ok HLIM.out HZS.out
            rw [HCE.out] at hcok
            clear HR9 HK9 c15 hr hk
            generalize wc = wg at *
            obtain ⟨aw, haw⟩ : ∃ v, adP a15 = v := ⟨_, rfl⟩
            rw [haw] at hcok HKc HCE
            have hS := rsright_any _ wg hcok
            obtain ⟨tx, htx⟩ : ∃ v, textS ⟨n1, n3, e3, (l0 : Nat), (l1 : Nat), aw, (l2 : Nat), (l3 : Nat), l4, cl⟩ = v := ⟨_, rfl⟩
            obtain ⟨rg, hrg⟩ : ∃ v, rgtS ⟨n1, n3, e3, (l0 : Nat), (l1 : Nat), aw, (l2 : Nat), (l3 : Nat), l4, cl⟩ = v := ⟨_, rfl⟩
            have hT : rg = true → ∀ W, Calls Tryd.prog 13 #[(⟨n1, n3, e3, (l0 : Nat), (l1 : Nat), aw, (l2 : Nat), (l3 : Nat), l4, cl⟩ : St).v] W fun e w' => e = .returned (.string tx) ∧ Below W.heap.size W w' := fun hr W => by
              rw [hr] at hrg
              have := rtext_any _ W hcok hrg
              unfold textS at htx
              rw [if_pos hrg] at htx
              rwa [htx] at this
            rw [hrg] at hS
            have HO := Lib.hid (show okR xs text = (rg && decide (tx = text)) by
              unfold okR
              rw [decide_eq_true hN, decide_eq_true HLIM.out, HCE.out]
              unfold okP
              rw [htx, hrg]
              simp)
            have HT := Lib.hid hT
            clear htx hrg hcok hT haw X1 X3 Xl0 Xl1 Xl2 Xl3 Xl4 X15 HCL HMr HD5 HD7 HD9 HD11 HD13 HLIM HZS
            unfold St.v at hS HT
            simp only at hS HT
            go_wp2_with (first
              | ((with_reducible (show wpList _ _ _ ({ dst := _, op := Op.load 25 _, type := _, pos := _, after := _, guard := _ } :: _) _ _)); refine wpList_load_mid rfl 25 (.tmp 5) rfl q 0 rfl _ _ (Blk.rangeAt HKc.out) Tryd.underlying25 rfl (by kernel_rfl) ?_)
              | (go_at_call 11; refine hS.mono ?_; rintro _ wh ⟨rfl, hb⟩; refine Hid.out ?_))
            refine Lib.hid ?_
            have HH := Lib.hid (HRc.out.below hb)
            have HKH := Lib.hid (HKc.out.below hb HKc.out.lt)
            clear hS hb HRc HKc
            cases rg
            · clear HT
              have HB := Lib.hid (show okR xs text = false by rw [HO.out]; rfl)
              go_wp2_with ((with_reducible (show wpList _ _ _ ({ dst := _, op := Op.store 25 _ _, type := _, pos := _, after := _, guard := _ } :: _) _ _)); refine wpList_store_mid rfl 25 (.tmp 2) (.tmp 96) rfl w.heap.size 0 zSt.arr rfl rfl (Blk.there HH.out.k0 rfl) info25 (arr_one _) ?_; refine Hid.out ?_)
              refine Lib.hid ?_
              obtain ⟨wz, hwz⟩ : ∃ W, wh.setCells w.heap.size 0 (zSt.arr).toList = W := ⟨_, rfl⟩
              have HZ := Lib.hid (And.intro (Blk.setAll HH.out.k0 (cs' := zSt.arr) (by rfl)) (below_setCells (zSt.arr).toList 0 wh HH.out.bel (Nat.le_refl _)))
              rw [hwz] at HZ ⊢
              clear hwz
              repeat go_step
              (try simp only [Exit.then])
              refine ret_ct (by rfl) (by rfl) (by rfl) (Blk.rangeAt HZ.out.1) Tryd.underlying25 (by rfl) (by kernel_rfl) ?_
              exact ⟨by rw [← HRV.out, show RB = false from HRB.out.symm.trans HB.out, if_neg (by decide)]; rfl, HZ.out.2⟩
            have hT1 := HT.out rfl wh
            clear HT
            go_wp2_with (first
              | ((with_reducible (show wpList _ _ _ ({ dst := _, op := Op.load 25 _, type := _, pos := _, after := _, guard := _ } :: _) _ _)); refine wpList_load_g rfl 25 (.tmp 5) rfl q 0 rfl _ _ (Blk.rangeAt HKH.out) Tryd.underlying25 rfl (by kernel_rfl) ?_)
              | (go_at_call 13; refine hT1.mono ?_; rintro _ wi ⟨rfl, hb⟩; refine Hid.out ?_))
            refine Lib.hid ?_
            have HI := Lib.hid (HH.out.below hb)
            have HKI := Lib.hid (HKH.out.below hb HKH.out.lt)
            clear hT1 hb HH HKH
            by_cases ht : tx = text
            · have HB := Lib.hid (show okR xs text = true by rw [HO.out, decide_eq_true ht]; rfl)
              subst ht
              clear HO
              go_wp2_with (first
                | ((with_reducible (show wpList _ _ _ ({ dst := _, op := Op.load 25 _, type := _, pos := _, after := _, guard := _ } :: _) _ _)); refine wpList_load_mid rfl 25 (.tmp 5) rfl q 0 rfl _ _ (Blk.rangeAt HKI.out) Tryd.underlying25 rfl (by kernel_rfl) ?_)
                | ((with_reducible (show wpList _ _ _ ({ dst := _, op := Op.store 25 _ _, type := _, pos := _, after := _, guard := _ } :: _) _ _)); refine wpList_store_mid rfl 25 (.tmp 2) (.tmp 97) rfl w.heap.size 0 (St.mk n1 n3 e3 (l0 : Nat) (l1 : Nat) aw (l2 : Nat) (l3 : Nat) l4 cl).arr rfl rfl (Blk.there HI.out.k0 rfl) info25 (arr_one _) ?_; refine Hid.out ?_))
              refine Lib.hid ?_
              obtain ⟨wz, hwz⟩ : ∃ W, wi.setCells w.heap.size 0 ((St.mk n1 n3 e3 (l0 : Nat) (l1 : Nat) aw (l2 : Nat) (l3 : Nat) l4 cl).arr).toList = W := ⟨_, rfl⟩
              have HZ := Lib.hid (And.intro (Blk.setAll HI.out.k0 (cs' := (St.mk n1 n3 e3 (l0 : Nat) (l1 : Nat) aw (l2 : Nat) (l3 : Nat) l4 cl).arr) (by rfl)) (below_setCells ((St.mk n1 n3 e3 (l0 : Nat) (l1 : Nat) aw (l2 : Nat) (l3 : Nat) l4 cl).arr).toList 0 wi HI.out.bel (Nat.le_refl _)))
              rw [hwz] at HZ ⊢
              clear hwz
              repeat go_step
              (try simp only [Exit.then])
              refine ret_ct (by rfl) (by rfl) (by rfl) (Blk.rangeAt HZ.out.1) Tryd.underlying25 (by rfl) (by kernel_rfl) ?_
              exact ⟨by rw [← HRV.out, show RB = true from HRB.out.symm.trans HB.out, if_pos rfl, HCE.out]; rfl, HZ.out.2⟩
            · have hq9 : (tx.toList == text.toList) = false := toList_ne ht
              have HB := Lib.hid (show okR xs text = false by rw [HO.out, decide_eq_false ht]; rfl)
              go_wp2_with ((with_reducible (show wpList _ _ _ ({ dst := _, op := Op.store 25 _ _, type := _, pos := _, after := _, guard := _ } :: _) _ _)); refine wpList_store_mid rfl 25 (.tmp 2) (.tmp 96) rfl w.heap.size 0 zSt.arr rfl rfl (Blk.there HI.out.k0 rfl) info25 (arr_one _) ?_; refine Hid.out ?_)
              refine Lib.hid ?_
              obtain ⟨wz, hwz⟩ : ∃ W, wi.setCells w.heap.size 0 (zSt.arr).toList = W := ⟨_, rfl⟩
              have HZ := Lib.hid (And.intro (Blk.setAll HI.out.k0 (cs' := zSt.arr) (by rfl)) (below_setCells (zSt.arr).toList 0 wi HI.out.bel (Nat.le_refl _)))
              rw [hwz] at HZ ⊢
              clear hwz
              repeat go_step
              (try simp only [Exit.then])
              refine ret_ct (by rfl) (by rfl) (by rfl) (Blk.rangeAt HZ.out.1) Tryd.underlying25 (by rfl) (by kernel_rfl) ?_
              exact ⟨by rw [← HRV.out, show RB = false from HRB.out.symm.trans HB.out, if_neg (by decide)]; rfl, HZ.out.2⟩
        · have hi : (65535 : Int) < (l4 : Int) := by omega
          have HB := Lib.hid (show okR xs text = false by exact okR_no (fun h => by unfold limR at h; rw [Xl0.out.1, Xl1.out.1, Xl2.out.1, Xl3.out.1, Xl4.out.1] at h; omega))
          go_wp2_with ((with_reducible (show wpList _ _ _ ({ dst := _, op := Op.store 25 _ _, type := _, pos := _, after := _, guard := _ } :: _) _ _)); refine wpList_store_mid rfl 25 (.tmp 2) (.tmp 74) rfl w.heap.size 0 zSt.arr rfl rfl (Blk.there HR8.out.k0 rfl) info25 (arr_one _) ?_; refine Hid.out ?_)
          refine Lib.hid ?_
          obtain ⟨wz, hwz⟩ : ∃ W, w8.setCells w.heap.size 0 (zSt.arr).toList = W := ⟨_, rfl⟩
          have HZ := Lib.hid (And.intro (Blk.setAll HR8.out.k0 (cs' := zSt.arr) (by rfl)) (below_setCells (zSt.arr).toList 0 w8 HR8.out.bel (Nat.le_refl _)))
          rw [hwz] at HZ ⊢
          clear hwz
          repeat go_step
          (try simp only [Exit.then])
          refine ret_ct (by rfl) (by rfl) (by rfl) (Blk.rangeAt HZ.out.1) Tryd.underlying25 (by rfl) (by kernel_rfl) ?_
          exact ⟨by rw [← HRV.out, show RB = false from HRB.out.symm.trans HB.out, if_neg (by decide)]; rfl, HZ.out.2⟩

  · have hi17 : ¬ (N : Int) = 17 := by omega
    have hb17 : ((N : Int) == 17) = false := beq_false_of_ne hi17
    have HB := Lib.hid (show okR xs text = false by unfold okR; rw [decide_eq_false (by omega)]; rfl)
    go_wp2_with ((with_reducible (show wpList _ _ _ ({ dst := _, op := Op.store 25 _ _, type := _, pos := _, after := _, guard := _ } :: _) _ _)); refine wpList_store_mid rfl 25 (.tmp 2) (.tmp 15) rfl w.heap.size 0 zSt.arr rfl rfl (Blk.there HK1.out rfl) info25 (arr_one _) ?_; refine Hid.out ?_)
    refine Lib.hid ?_
    obtain ⟨wz, hwz⟩ : ∃ W, w1.setCells w.heap.size 0 (zSt.arr).toList = W := ⟨_, rfl⟩
    have HZ := Lib.hid (And.intro (Blk.setAll HK1.out (cs' := zSt.arr) (by rfl)) (below_setCells (zSt.arr).toList 0 w1 HB1.out.1 (Nat.le_refl _)))
    rw [hwz] at HZ ⊢
    clear hwz
    repeat go_step
    (try simp only [Exit.then])
    refine ret_ct (by rfl) (by rfl) (by rfl) (Blk.rangeAt HZ.out.1) Tryd.underlying25 (by rfl) (by kernel_rfl) ?_
    exact ⟨by rw [← HRV.out, show RB = false from HRB.out.symm.trans HB.out, if_neg (by decide)]; rfl, HZ.out.2⟩
/-- The reference's Parse. -/
theorem rparse_any (text : ByteArray) (w : World) (hT : Tab w) (hs : text.size ≤ 300000) :
    Calls Tryd.prog 14 #[.string text] w fun e w' => e = .returned (.tuple #[(if okR (cutS text) text = true then candR (cutS text) else zSt).v, .bool (okR (cutS text) text)]) ∧ Below w.heap.size w w' :=
  rparse_gen text w (cutS text) hT (fun x hx => Nat.le_trans (cut_size text x hx) hs) (fun W => words_any text W hs)
/-- The answer of both parsers. -/
def parS (text : ByteArray) : St := if okR (cutS text) text = true then candR (cutS text) else zSt
def parB (text : ByteArray) : Bool := okR (cutS text) text
theorem show_parse (text : ByteArray) (w : World) (hT : Tab w) (hs : text.size ≤ 300000) :
    Calls Tryd.prog 12 #[.string text] w fun e w' => e = .returned (.tuple #[(parS text).v, .bool (parB text)]) ∧ Below w.heap.size w w' := by
  refine (parse_any text w hT hs).mono fun e w' ⟨he, hb⟩ => ⟨?_, hb⟩
  obtain ⟨h1, h2⟩ := parse_same text hs
  rw [he, h1]
  unfold parS parB
  cases hb : okR (cutS text) text with
  | false => rfl
  | true => rw [h2 hb]
theorem ref_parse (text : ByteArray) (w : World) (hT : Tab w) (hs : text.size ≤ 300000) :
    Calls Tryd.prog 14 #[.string text] w fun e w' => e = .returned (.tuple #[(parS text).v, .bool (parB text)]) ∧ Below w.heap.size w w' := rparse_any text w hT hs
theorem par_text {s : St} (hs : StOk s) (h : rgtS s = true) : parS (textS s) = s ∧ parB (textS s) = true := by
  obtain ⟨h1, h2⟩ := okR_of hs h
  unfold parS parB
  rw [h1, h2]
  exact ⟨rfl, rfl⟩
theorem par_back {text : ByteArray} (hs : text.size ≤ 300000) : (parB text = true → rgtS (parS text) = true ∧ textS (parS text) = text) ∧ StOk (parS text) := by
  have hx : ∀ x ∈ cutS text, x.size ≤ 300000 := fun x hx => Nat.le_trans (cut_size text x hx) hs
  unfold parB parS
  cases hb : okR (cutS text) text with
  | false => exact ⟨fun h => (by cases h), by rw [if_neg (by decide)]; exact ⟨by decide, by decide, by decide, by decide, by decide, by decide, by decide, by decide, by decide, by decide, by decide, by decide⟩⟩
  | true =>
    have h := hb
    unfold okR at h
    simp only [Bool.and_eq_true, decide_eq_true_eq] at h
    rw [if_pos rfl]
    exact ⟨fun _ => okP_parts h.2, candR_ok h.1.2 hx⟩
end Go.Proofs.YtbifakhalnkfbaaDoor
