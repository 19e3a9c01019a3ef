import Derived.Test.YtgnegllehcpdpaaDoorAwf
import Derived.Lib.SlBytesConst
import Derived.ArgAppend
namespace Go.Proofs.YtgnegllehcpdpaaDoor
open Go.ChangeShapes Go.WideShapes Go.ChangeAt Go.RowKit Go.Sort Go.Maps
set_option linter.unusedVariables false
set_option linter.unusedSimpArgs false
def Ev.arr (e : Ev) : Array Value := #[.int .i64 e.kind, .int .i64 e.who, .int .u64 e.seq, .int .u64 e.tick, .int .i64 e.code, .slice e.A e.n e.c, .string e.ad]
/-- What awake has made ahead of its test. -/
structure AwkI (w : World) (g : Nat) (W : World) : Prop where
  bel : Below w.heap.size w W
  tabs : Tabs W
  own : W.ownsRow w.heap.size 29 7 (.slice (some ⟨g + 1 + 1 + 1 + 1 + 1, 0, none⟩) 3 3) 3 (evCells [sE (some ⟨g, 0, none⟩), dE (some ⟨g + 1 + 1, 0, none⟩), fE])
  oks : EvOk W (sE (some ⟨g, 0, none⟩))
  okd : EvOk W (dE (some ⟨g + 1 + 1, 0, none⟩))
  okf : EvOk W fE
  okz : EvOk W zE
  bs : Blk W (g + 1) 29 (sE (some ⟨g, 0, none⟩)).arr
  bd : Blk W (g + 1 + 1 + 1) 29 (dE (some ⟨g + 1 + 1, 0, none⟩)).arr
theorem AwkI.below {w W W' : World} {g : Nat} (h : AwkI w g W) (hb : Below W.heap.size W W') : AwkI w g W' :=
  ⟨h.bel.trans (hb.mono h.bel.size), h.tabs.below hb, own_below h.own hb, h.oks.below hb, h.okd.below hb, h.okf.below hb, h.okz.below hb, Blk.below h.bs hb h.bs.lt, Blk.below h.bd hb h.bd.lt⟩
theorem AwkI.evs {w W : World} {g : Nat} (h : AwkI w g W) : Evs W (some ⟨g + 1 + 1 + 1 + 1 + 1, 0, none⟩) 3 [sE (some ⟨g, 0, none⟩), dE (some ⟨g + 1 + 1, 0, none⟩), fE] :=
  Evs.of_own h.own (fun e he => by
    simp at he
    rcases he with rfl | rfl | rfl
    · exact h.oks
    · exact h.okd
    · exact h.okf)
theorem bys_one (w : World) : Bys (w.alloc (.cells #[.int .u8 120] 5 (1, 2))) (some ⟨w.heap.size, 0, none⟩) 1 [120] := by
  refine ⟨⟨rfl, fun _ => ⟨_, rfl, by simp, fun j u hu => ?_⟩⟩, by simp⟩
  have hj : j = 0 := by
    have := (List.getElem?_eq_some_iff.1 hu).1
    simpa using this
  subst hj
  simp at hu
  subst hu
  have hh : (w.alloc (.cells #[.int .u8 120] 5 (1, 2))).heap[w.heap.size]? = some (.cells #[.int .u8 120] 5 (1, 2)) := by
    show (w.heap.push (.cells #[.int .u8 120] 5 (1, 2)))[w.heap.size]? = _
    simp
  rw [show (⟨w.heap.size, 0, none⟩ : Addr).add 0 = ⟨w.heap.size, 0, none⟩ from rfl]
  exact cell_of_row _ _ 0 _ 5 (1, 2) hh
def awkW (w : World) : World := (((((w.alloc (.cells #[.int .u8 120] 5 (1, 2))).alloc (.cells (sE (some ⟨w.heap.size, 0, none⟩)).arr 29)).alloc (.cells #[.int .u8 120] 5 (1, 2))).alloc (.cells (dE (some ⟨w.heap.size + 1 + 1, 0, none⟩)).arr 29)).alloc (.cells fE.arr 29)).alloc
  (.cells (evCells [sE (some ⟨w.heap.size, 0, none⟩), dE (some ⟨w.heap.size + 1 + 1, 0, none⟩), fE]).toArray 29)
theorem awk_ok (w : World) (hT : Tabs w) : AwkI w w.heap.size (awkW w) := by
  have al : ∀ (W : World) (o : Obj), Below W.heap.size W (W.alloc o) := fun W o => (Below.refl _ W).alloc (Nat.le_refl _) o
  obtain ⟨w1, hw1⟩ : ∃ w1, w.alloc (.cells #[.int .u8 120] 5 (1, 2)) = w1 := ⟨_, rfl⟩
  have s1 : w1.heap.size = w.heap.size + 1 := by rw [← hw1]; simp
  have B1 : Below w.heap.size w w1 := by rw [← hw1]; exact al w _
  have y1 : Bys w1 (some ⟨w.heap.size, 0, none⟩) 1 [120] := by rw [← hw1]; exact bys_one w
  obtain ⟨w2, hw2⟩ : ∃ w2, w1.alloc (.cells (sE (some ⟨w.heap.size, 0, none⟩)).arr 29) = w2 := ⟨_, rfl⟩
  have s2 : w2.heap.size = w.heap.size + 1 + 1 := by rw [← hw2]; simp [s1]
  have B2 : Below w1.heap.size w1 w2 := by rw [← hw2]; exact al w1 _
  have k2 : Blk w2 (w.heap.size + 1) 29 (sE (some ⟨w.heap.size, 0, none⟩)).arr := by rw [← hw2, ← s1]; exact Blk.new w1 29 _
  obtain ⟨w3, hw3⟩ : ∃ w3, w2.alloc (.cells #[.int .u8 120] 5 (1, 2)) = w3 := ⟨_, rfl⟩
  have s3 : w3.heap.size = w.heap.size + 1 + 1 + 1 := by rw [← hw3]; simp [s2]
  have B3 : Below w2.heap.size w2 w3 := by rw [← hw3]; exact al w2 _
  have y3 : Bys w3 (some ⟨w.heap.size + 1 + 1, 0, none⟩) 1 [120] := by rw [← hw3, ← s2]; exact bys_one w2
  obtain ⟨w4, hw4⟩ : ∃ w4, w3.alloc (.cells (dE (some ⟨w.heap.size + 1 + 1, 0, none⟩)).arr 29) = w4 := ⟨_, rfl⟩
  have s4 : w4.heap.size = w.heap.size + 1 + 1 + 1 + 1 := by rw [← hw4]; simp [s3]
  have B4 : Below w3.heap.size w3 w4 := by rw [← hw4]; exact al w3 _
  have k4 : Blk w4 (w.heap.size + 1 + 1 + 1) 29 (dE (some ⟨w.heap.size + 1 + 1, 0, none⟩)).arr := by rw [← hw4, ← s3]; exact Blk.new w3 29 _
  obtain ⟨w5, hw5⟩ : ∃ w5, w4.alloc (.cells fE.arr 29) = w5 := ⟨_, rfl⟩
  have s5 : w5.heap.size = w.heap.size + 1 + 1 + 1 + 1 + 1 := by rw [← hw5]; simp [s4]
  have B5 : Below w4.heap.size w4 w5 := by rw [← hw5]; exact al w4 _
  have e6 : awkW w = w5.alloc (.cells (evCells [sE (some ⟨w.heap.size, 0, none⟩), dE (some ⟨w.heap.size + 1 + 1, 0, none⟩), fE]).toArray 29) := by rw [← hw5, ← hw4, ← hw3, ← hw2, ← hw1]; rfl
  have B6 : Below w5.heap.size w5 (awkW w) := by rw [e6]; exact al w5 _
  have k6 := Blk.new w5 29 (evCells [sE (some ⟨w.heap.size, 0, none⟩), dE (some ⟨w.heap.size + 1 + 1, 0, none⟩), fE]).toArray
  rw [← e6, s5] at k6
  have up2 : Below w2.heap.size w2 (awkW w) := ((B3.trans (B4.mono B3.size)).trans (B5.mono (Nat.le_trans B3.size B4.size))).trans (B6.mono (Nat.le_trans B3.size (Nat.le_trans B4.size B5.size)))
  have up1 : Below w1.heap.size w1 (awkW w) := B2.trans (up2.mono B2.size)
  have up3 : Below w3.heap.size w3 (awkW w) := (B4.trans (B5.mono B4.size)).trans (B6.mono (Nat.le_trans B4.size B5.size))
  have up4 : Below w4.heap.size w4 (awkW w) := B5.trans (B6.mono B5.size)
  have up0 : Below w.heap.size w (awkW w) := B1.trans (up1.mono B1.size)
  have z : ∀ n : Nat, n ≤ 100 → n ≤ maxLen := fun n hn => by unfold maxLen; omega
  refine ⟨up0, hT.below up0, ?_, ?_, ?_, ?_, ?_, Blk.below k2 up2 k2.lt, Blk.below k4 up4 k4.lt⟩
  · refine ⟨by simp [evCells, Ev.cells], .inr ⟨_, 3, _, rfl, by omega, k6, Nat.le_refl _, z 3 (by omega), by simp [evCells, Ev.cells], by simp [evCells, Ev.cells]⟩⟩
  · exact ⟨y1.below up1, z 1 (by omega), z 1 (by omega), by simp [sE], by simp [sE], by simp [sE], by simp [sE]⟩
  · exact ⟨y3.below up3, z 1 (by omega), z 1 (by omega), by simp [dE], by simp [dE], by simp [dE], by simp [dE]⟩
  · exact ⟨Bys.none_ _, z 0 (by omega), z 0 (by omega), by decide, by decide, by decide, by decide⟩
  · exact ⟨Bys.none_ _, z 0 (by omega), z 0 (by omega), by decide, by decide, by decide, by decide⟩
theorem wpList_append_grows_g {P : Program} (w : World) {ops : Array Oper} {rest : List Oper} {o : Oper} {a : Act} {Q : Exit → Act → World → Prop} (hgd : Region.wanted o (yielded ops a.tmps) = true) (s x : Operand) (t : TypeId)
    (hop : o.op = Op.call { callee := Callee.builtin Builtin.append, args := #[s, x], argTypes := #[t, t] })
    (e : TypeId) (i : TypeInfo) (z : Value) (size bytes : Nat) (h1 : P.underlying t = some (.slice e)) (h2 : P.info? e = some i) (h3 : i.zero = some z) (h4 : i.size = size) (h5 : i.bytes = bytes) (h6 : z.cells.size = size) (h7 : 0 < size)
    (b : Addr) (n cap : Nat) (olds : List Value) (hs : a.eval s = .slice (some b) n cap) (hlo : olds.length = n * size) (holds : ∀ j u, olds[j]? = some u → w.cell? (b.add j) = some u)
    (ad : Addr) (m c : Nat) (news : List Value) (hx : a.eval x = .slice (some ad) m c) (hn : news.length = m * size) (hc : ∀ j u, news[j]? = some u → w.cell? (ad.add j) = some u) (h1c : ∀ u ∈ news, u.oneCell' = true)
    (hfull : cap < n + m) (b1 : n + m ≤ maxLen) (b2 : (n + m) * bytes ≤ 140737488355328)
    (hK : ∀ v' w', w'.ownsRow w.heap.size e size v' (n + m) (olds ++ news) → w.grownBy w' none → wpList P ops Q rest (a.put o.dst v') w') : wpList P ops Q (o :: rest) a w :=
  wpList_step fun K hK' => by
    rw [if_pos hgd]
    obtain ⟨v', w', hrun, r1, r2⟩ := run_append_arg_grows (P := P) w t o.type e i z size bytes h1 h2 h3 h4 h5 h6 h7 b n cap olds hlo holds ad m c news hn hc hfull b1 b2
    unfold Oper.wp
    simp [execOp, hop, resolve, invoke, builtin, hs, hx, hrun, Result.andThen]
    exact hK' _ _ (hK v' w' r1 r2)
theorem below_none {w w' : World} (hg : w.grownBy w' none) : Below w.heap.size w w' := ⟨hg.os, hg.tape, hg.output, hg.size, fun i hi => hg.block i hi (by simp)⟩
theorem who3 (A B : Option Addr) : ∀ e ∈ [sE A, dE B, fE], -1000000 ≤ e.who ∧ e.who ≤ 1000000 := by
  intro e he
  simp at he
  rcases he with rfl | rfl | rfl <;> simp [sE, dE, fE]
theorem code3 (A B : Option Addr) : ∀ e ∈ [sE A, dE B, fE], (Lit.int .i64 e.code).wf = true := by
  intro e he
  simp at he
  rcases he with rfl | rfl | rfl <;> simp [sE, dE, fE] <;> decide
set_option maxRecDepth 100000 in
set_option maxHeartbeats 8000000 in
theorem awake_any (w : World) (hT : Tabs w) : Calls Tryd.prog 8 #[] w fun e w' => e = .returned (.bool true) ∧ Below w.heap.size w w' := by
  have kc := fun (w : World) (C : Array Value) (n c : Nat) => Lib.run_convert_bytes_const (P := Tryd.prog) w 23 5 C n c Tryd.underlying23 Tryd.underlying5
  have kc2 := fun (a b : Obj) (C : Array Value) (n c : Nat) => (show (convert 23 23 (.slice (some ⟨w.heap.size + 1 + 1, 0, none⟩) n c)).run Tryd.prog (((w.alloc a).alloc b).alloc (.cells C 5)) = .ok (.slice (some ⟨w.heap.size + 1 + 1, 0, none⟩) n c) (((w.alloc a).alloc b).alloc (.cells C 5 (C.size, C.size + 1))) by simpa using kc ((w.alloc a).alloc b) C n c)
  have K0 := Lib.hid (awk_ok w hT)
  obtain ⟨W6, hW6⟩ : ∃ W6, awkW w = W6 := ⟨_, rfl⟩
  have HW6 := Lib.hid hW6
  rw [hW6] at K0
  clear hT hW6
  obtain ⟨i0, hi, hz0, hz1, hz2⟩ := info_parts info29
  go_enter Tryd.func8, Tryd.ntmps8
  go_wp2_with fail
  have hw6 := HW6.out
  simp only [awkW, Ev.arr, sE, dE, fE, evCells, List.flatMap_cons, List.flatMap_nil, Ev.cells, List.cons_append, List.nil_append] at hw6
  rw [hw6]
  clear hw6 HW6 kc kc2
  have hq : w.heap.size + 1 ≤ w.heap.size + 1 := Nat.le_refl _
  clear hq
  have h12 := fun W (K : AwkI w w.heap.size W) => text_any fE W K.okf K.tabs (by decide) (by decide)
  have h17 := fun W (K : AwkI w w.heap.size W) => honest_any W (some ⟨w.heap.size + 1 + 1 + 1 + 1 + 1, 0, none⟩) 3 3 _ K.evs (by omega) (who3 _ _)
  have h17b := fun W (K : AwkI w w.heap.size W) => honest_any W (some ⟨w.heap.size + 1 + 1 + 1 + 1 + 1, 0 + 1 * 7, none⟩) 2 2 _ (K.evs.cut (k := 1) (by omega)) (by omega) (fun e he => who3 _ _ e (List.mem_of_mem_drop he))
  have h19 := fun W (K : AwkI w w.heap.size W) => strict_any W (some ⟨w.heap.size + 1 + 1 + 1 + 1 + 1, 0, none⟩) 3 3 _ K.evs (by omega) (who3 _ _)
  have h10 := fun W (K : AwkI w w.heap.size W) => right_any (dE (some ⟨w.heap.size + 1 + 1, 0, none⟩)) W K.okd
  have h10z := fun W (K : AwkI w w.heap.size W) => right_any zE W K.okz
  have h21 := fun W (K : AwkI w w.heap.size W) => choose_any W (some ⟨w.heap.size + 1 + 1 + 1 + 1 + 1, 0, none⟩) 3 3 _ 2 1 K.evs (by omega)
  have h22 := fun W (K : AwkI w w.heap.size W) => codes_any W (some ⟨w.heap.size + 1 + 1 + 1 + 1 + 1, 0, none⟩) 3 3 _ K.evs (by omega) (code3 _ _)
  have h14 := fun W (K : AwkI w w.heap.size W) => same_any (sE (some ⟨w.heap.size, 0, none⟩)) (sE (some ⟨w.heap.size, 0, none⟩)) W K.oks K.oks
  rw [awk_text] at h12
  simp only [awk_honest, awk_strict, awk_right, awk_wrong, awk_same, awk_choose, List.drop_succ_cons, List.drop_zero, awk_dishonest] at h17 h17b h19 h10 h10z h14 h21
  simp only [Ev.v, sE, dE, fE, zE] at h12 h10 h10z h14
  refine (h12 _ K0.out).mono ?_
  rintro _ w1 ⟨rfl, hb⟩
  have K1 := Lib.hid (K0.out.below hb)
  clear hb h12
  go_wp2_with (first | (go_at_call 17; refine (h17 _ K1.out).mono ?_; rintro _ w2 ⟨rfl, hb⟩; refine Hid.out ?_))
  refine Lib.hid ?_
  have K2 := Lib.hid (K1.out.below hb)
  clear hb
  clear h17
  go_wp2_with (first | (go_at_call 17; refine (h17b _ K2.out).mono ?_; rintro _ w3 ⟨rfl, hb⟩; refine Hid.out ?_))
  refine Lib.hid ?_
  have K3 := Lib.hid (K2.out.below hb)
  clear hb
  clear h17b
  go_wp2_with (first | (go_at_call 19; refine (h19 _ K3.out).mono ?_; rintro _ w4 ⟨rfl, hb⟩; refine Hid.out ?_))
  refine Lib.hid ?_
  have K4 := Lib.hid (K3.out.below hb)
  clear hb
  clear h19
  have hbs := K4.out.bel.size
  obtain ⟨c0, c1, c2, c3, c4, c5, c6⟩ := blk_seven K4.out.bs
  simp only [sE] at c0 c1 c2 c3 c4 c5 c6
  have O4 := Lib.hid (K4.out.own.alloc (.cells (sE (some ⟨w.heap.size, 0, none⟩)).arr 29))
  simp only [Ev.arr, sE] at O4
  go_wp2_with (at_builtin; refine wpList_append_grows_g _ rfl (.tmp 34) (.tmp 36) 36 rfl 29 i0 _ 7 80 Tryd.underlying36 hi hz0 hz1 hz2 rfl (by decide) ⟨w.heap.size + 1 + 1 + 1 + 1 + 1, 0, none⟩ 3 3 _ rfl O4.out.1 (O4.out.cells rfl) ⟨w4.heap.size, 0, none⟩ 1 1 (sE (some ⟨w.heap.size, 0, none⟩)).cells rfl rfl (news_ev w4 29 (sE (some ⟨w.heap.size, 0, none⟩))) (cells_one _) (by omega) (by unfold maxLen; omega) (by omega) ?_; refine Hid.out ?_)
  refine Lib.hid ?_
  intro v5 w5 hown5 hg5
  have K5 := Lib.hid ((K4.out.below ((Below.refl _ w4).alloc (Nat.le_refl _) _)).below (below_none hg5))
  obtain ⟨A5, c5', rfl⟩ := own_form hown5
  have hE5 : Evs w5 A5 4 [sE (some ⟨w.heap.size, 0, none⟩), dE (some ⟨w.heap.size + 1 + 1, 0, none⟩), fE, sE (some ⟨w.heap.size, 0, none⟩)] := Evs.of_own (by rw [← evCells_snoc] at hown5; exact hown5) (fun e he => by
    simp at he
    rcases he with rfl | rfl | rfl | rfl
    · exact K5.out.oks
    · exact K5.out.okd
    · exact K5.out.okf
    · exact K5.out.oks)
  have h19b := strict_any w5 A5 4 c5' _ hE5 (by omega) (fun e he => by
    simp at he
    rcases he with rfl | rfl | rfl | rfl <;> simp [sE, dE, fE])
  rw [awk_unstrict] at h19b
  clear hE5 hown5 hg5 c0 c1 c2 c3 c4 c5 c6 O4 hbs
  go_wp2_with (first | (go_at_call 19; refine h19b.mono ?_; rintro _ w6 ⟨rfl, hb⟩; refine Hid.out ?_))
  refine Lib.hid ?_
  have K6 := Lib.hid (K5.out.below hb)
  clear hb h19b
  obtain ⟨c0, c1, c2, c3, c4, c5, c6⟩ := blk_seven K6.out.bd
  simp only [dE] at c0 c1 c2 c3 c4 c5 c6
  go_wp2_with (first | (go_at_call 10; refine (h10 _ K6.out).mono ?_; rintro _ w7 ⟨rfl, hb⟩; refine Hid.out ?_))
  refine Lib.hid ?_
  have K7 := Lib.hid (K6.out.below hb)
  clear hb
  clear h10 c0 c1 c2 c3 c4 c5 c6
  go_wp2_with (first | (go_at_call 10; refine (h10z _ K7.out).mono ?_; rintro _ w8 ⟨rfl, hb⟩; refine Hid.out ?_))
  refine Lib.hid ?_
  have K8 := Lib.hid (K7.out.below hb)
  clear hb
  clear h10z
  go_wp2_with (first | (go_at_call 21; refine (h21 _ K8.out).mono ?_; rintro _ w9 ⟨⟨A9, m9, c9, rfl, hm9, hE9⟩, hb⟩; refine Hid.out ?_))
  refine Lib.hid ?_
  have K9 := Lib.hid (K8.out.below hb)
  obtain rfl : m9 = 1 := by have := hE9.2.1; simpa using this.symm
  clear hb h21 hE9 hm9
  have h22' := h22 _ K9.out
  clear h22
  go_wp2_with (first | (go_at_call 22; refine h22'.mono ?_; rintro _ w10 ⟨⟨D, rfl, hown, hD⟩, hb⟩; refine Hid.out ?_))
  refine Lib.hid ?_
  have K10 := Lib.hid (K9.out.below hb)
  obtain ⟨cc, hlk, hat, _⟩ := hown.lookup_int law3 Tryd.underlying41 Tryd.underlying3 (zero3 _) (keyOf_int_mk Tryd.underlying3 (show (Lit.int .i64 6).wf = true by decide))
  have hcc : cc = 1 := by
    obtain ⟨es0, rfl, _, _, h3⟩ := hD
    have := (h3 6 (by decide)).symm.trans hat
    rw [awk_codes] at this
    simpa using this.symm
  subst hcc
  obtain ⟨c0, c1, c2, c3, c4, c5, c6⟩ := blk_seven K10.out.bs
  simp only [sE] at c0 c1 c2 c3 c4 c5 c6
  clear hb hown hD hat h22'
  go_wp2_with (first | (go_at_call 14; refine (h14 _ K10.out).mono ?_; rintro _ w11 ⟨rfl, hb⟩; refine Hid.out ?_))
  refine Lib.hid ?_
  have K11 := Lib.hid (K10.out.below hb)
  clear hb
  clear h14
  go_wp2_with fail
  go_ret
  exact ⟨ret_true (by simp), K11.out.bel⟩
end Go.Proofs.YtgnegllehcpdpaaDoor
