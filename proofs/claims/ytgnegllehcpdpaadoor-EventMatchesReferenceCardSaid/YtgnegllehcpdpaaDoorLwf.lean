import Derived.Test.YtgnegllehcpdpaaDoorTxc
import Derived.Test.YtgnegllehcpdpaaDoorLwe
namespace Go.Proofs.YtgnegllehcpdpaaDoor
open Go.ChangeShapes Go.WideShapes Go.ChangeAt Go.RowKit Go.Sort
set_option linter.unusedVariables false
set_option linter.unusedSimpArgs false
theorem evs_two (a b : Ev) (w : World) (t : TypeId) (ha : EvOk w a) (hb : EvOk w b) : Evs (w.alloc (.cells (evCells [a, b]).toArray t)) (some ⟨w.heap.size, 0, none⟩) 2 [a, b] := by
  have hB : Below w.heap.size w (w.alloc (.cells (evCells [a, b]).toArray t)) := (Below.refl _ w).alloc (Nat.le_refl _) _
  have K := Blk.new w t (evCells [a, b]).toArray
  refine ⟨⟨by rw [evCells_len]; rfl, fun _ => ⟨_, rfl, K.lt, fun j u hu => ?_⟩⟩, rfl, fun e he => ?_⟩
  · rw [add_none, Nat.zero_add, K.cell, ← Array.getElem?_toList]
    exact hu
  · simp at he
    rcases he with rfl | rfl
    · exact ha.below hB
    · exact hb.below hB
theorem Blk.rangeAt {w : World} {g : Nat} {t : TypeId} {cs : Array Value} (h : Blk w g t cs) : w.rangeAt g 0 cs.toList := fun j v hv => by
  rw [Nat.zero_add, h.cell, ← Array.getElem?_toList]; exact hv
theorem Blk.rangeAtL {w : World} {g : Nat} {t : TypeId} {l : List Value} (h : Blk w g t l.toArray) : w.rangeAt g 0 l := by
  have := Blk.rangeAt h
  simpa using this
theorem Blk.up {w : World} {g : Nat} {t : TypeId} {l : List Value} (h : Blk w g t l.toArray) : ∀ w', (∃ p : Regrown, w' = grow (redrawn w p.d) p.os) → w'.rangeAt g 0 l := by
  rintro _ ⟨p, rfl⟩
  exact Blk.rangeAtL (Blk.below h (below_regrown w p.d p.os) h.lt)
theorem wpList_load_row {P : Program} {ops : Array Oper} {rest : List Oper} {op : Oper} {a : Act} {w : World} {Q : Exit → Act → World → Prop} (hgd : Region.wanted op (yielded ops a.tmps) = true) (ty : TypeId) (x : Operand) (ho : op.op = .load ty x)
    (b o : Nat) (hx : a.eval x = .pointer (some ⟨b, o, none⟩)) (cs : List Value) (d : TypeDesc) (hc : w.rangeAt b o cs)
    (hu : P.underlying ty = some d) (hd : d.isRow = true) (hi : (P.info? ty).map (·.size) = some cs.length)
    (h : wpList P ops Q rest (a.put op.dst (.agg cs.toArray)) w) : wpList P ops Q (op :: rest) a w :=
  wpList_step fun K hK => by
    rw [if_pos hgd]
    exact wp_load_mid ty x ho b o hx cs d hc hu hd hi (hK _ _ h)
set_option maxRecDepth 100000 in
set_option maxHeartbeats 4000000 in
theorem matches_any (a b : Ev) (w : World) (ha : EvOk w a) (hb : EvOk w b) (hT : Tabs w) : Calls Tryd.prog 3 #[a.v, b.v] w fun e w' => e = .returned (.bool true) ∧ Below w.heap.size w w' := by
  have hA := fun W (h : Below w.heap.size w W) => awake_any W (hT.below h)
  have HA := Lib.hid ha
  have HBo := Lib.hid hb
  have HT := Lib.hid hT
  clear ha hb hT
  have K0 : Blk (w.alloc (.cells a.arr 25)) w.heap.size 25 a.arr := Blk.new w 25 a.arr
  obtain ⟨W1, hW1⟩ : ∃ W1, (w.alloc (.cells a.arr 25)) = W1 := ⟨_, rfl⟩
  obtain ⟨W2, hW2⟩ : ∃ W2, (W1.alloc (.cells b.arr 25)) = W2 := ⟨_, rfl⟩
  have hB1 : Below w.heap.size w W1 := by rw [← hW1]; exact (Below.refl _ w).alloc (Nat.le_refl _) _
  have hs1 : W1.heap.size = w.heap.size + 1 := by rw [← hW1]; simp
  have hB2 : Below W1.heap.size W1 W2 := by rw [← hW2]; exact (Below.refl _ W1).alloc (Nat.le_refl _) _
  rw [hW1] at K0
  have KA := Lib.hid (Blk.below K0 hB2 K0.lt)
  have KB := Lib.hid (show Blk W2 (w.heap.size + 1) 25 b.arr by rw [← hW2, ← hs1]; exact Blk.new W1 25 b.arr)
  have H2 := Lib.hid (hB1.trans (hB2.mono hB1.size))
  have HW := Lib.hid (show (w.alloc (.cells a.arr 25)).alloc (.cells b.arr 25) = W2 by rw [hW1, hW2])
  clear K0 hB1 hB2 hs1 hW1 hW2
  unfold Ev.v
  go_enter Tryd.func3, Tryd.ntmps3
  go_upto_region 1 with (fail)
  have hw := HW.out
  simp only [Ev.arr] at hw
  have KA' := Lib.hid (show Blk W2 w.heap.size 25 #[.int .i64 a.kind, .int .i64 a.who, .int .u64 a.seq, .int .u64 a.tick, .int .i64 a.code, .slice a.A a.n a.c, .string a.ad] from KA.out)
  have KB' := Lib.hid (show Blk W2 (w.heap.size + 1) 25 #[.int .i64 b.kind, .int .i64 b.who, .int .u64 b.seq, .int .u64 b.tick, .int .i64 b.code, .slice b.A b.n b.c, .string b.ad] from KB.out)
  clear KA KB
  rw [hw]
  clear hw HW
  go_wp2_with (go_at_call 8; refine (hA _ H2.out).mono ?_; rintro _ w3 ⟨rfl, hb⟩; refine Hid.out ?_)
  refine Lib.hid ?_
  have KA3 := Lib.hid (Blk.below KA'.out hb KA'.out.lt)
  have KB3 := Lib.hid (Blk.below KB'.out hb KB'.out.lt)
  have H3 := Lib.hid (H2.out.trans (hb.mono H2.out.size))
  clear hb KA' KB' H2
  have hfew := few_any (w3.alloc (.cells (evCells [a, b]).toArray 25)) (some ⟨w3.heap.size, 0, none⟩) 2 2 [a, b] (evs_two a b w3 25 (HA.out.below H3.out) (HBo.out.below H3.out)) (by unfold maxLen; omega)
  simp only [evCells, List.flatMap_cons, List.flatMap_nil, Ev.cells, List.cons_append, List.nil_append] at hfew
  go_wp2_with (first
    | ((with_reducible (show wpList _ _ _ ({ dst := _, op := Op.load 25 (.tmp 2), type := _, pos := _, after := _, guard := _ } :: _) _ _)); refine wpList_load_row rfl 25 (.tmp 2) rfl w.heap.size 0 rfl _ _ (Blk.rangeAtL KA3.out) Tryd.underlying25 rfl (by kernel_rfl) ?_)
    | ((with_reducible (show wpList _ _ _ ({ dst := _, op := Op.load 25 (.tmp 3), type := _, pos := _, after := _, guard := _ } :: _) _ _)); refine wpList_load_row rfl 25 (.tmp 3) rfl (w.heap.size + 1) 0 rfl _ _ (Blk.rangeAtL KB3.out) Tryd.underlying25 rfl (by kernel_rfl) ?_)
    | (go_at_call 9; refine hfew.mono ?_; rintro _ w4 ⟨⟨bo, rfl, hF⟩, hb⟩; refine Hid.out ?_))
  refine Lib.hid ?_
  have hs3 := H3.out.size
  have hB4 : Below w3.heap.size w3 w4 := ((Below.refl _ w3).alloc (Nat.le_refl _) _).trans (hb.mono (by simp))
  have KA4 := Lib.hid (Blk.below KA3.out hB4 KA3.out.lt)
  have KB4 := Lib.hid (Blk.below KB3.out hB4 KB3.out.lt)
  have H4 := Lib.hid (H3.out.trans (hB4.mono hs3))
  have HF := Lib.hid hF
  clear hb hF hB4 hfew KA3 KB3 H3 hs3
  cases bo with
  | false =>
    go_wp2_with (go_at_call 8; refine (hA _ H4.out).mono ?_; rintro _ w5 ⟨rfl, hb⟩; refine Hid.out ?_)
    refine Lib.hid ?_
    go_wp2_with fail
    go_ret
    exact ⟨rfl, H4.out.trans (hb.mono H4.out.size)⟩
  | true =>
    have HF2 := Lib.hid (HF.out (by simp))
    clear HF hA
    go_wp2_with (first
      | ((with_reducible (show wpList _ _ _ ({ dst := _, op := Op.load 25 (.tmp 2), type := _, pos := _, after := _, guard := _ } :: _) _ _)); refine wpList_load_row rfl 25 (.tmp 2) rfl w.heap.size 0 rfl _ _ (Blk.rangeAtL KA4.out) Tryd.underlying25 rfl (by kernel_rfl) ?_)
      | ((with_reducible (show wpList _ _ _ ({ dst := _, op := Op.load 25 (.tmp 3), type := _, pos := _, after := _, guard := _ } :: _) _ _)); refine wpList_load_row rfl 25 (.tmp 3) rfl (w.heap.size + 1) 0 rfl _ _ (Blk.rangeAtL (KB4.out.alloc _)) Tryd.underlying25 rfl (by kernel_rfl) ?_))
    obtain ⟨W5, hW5⟩ : ∃ W5, (w4.alloc (.cells #[.int .i64 a.kind, .int .i64 a.who, .int .u64 a.seq, .int .u64 a.tick, .int .i64 a.code, .slice a.A a.n a.c, .string a.ad] 29)) = W5 := ⟨_, rfl⟩
    obtain ⟨W6, hW6⟩ : ∃ W6, (W5.alloc (.cells #[.int .i64 b.kind, .int .i64 b.who, .int .u64 b.seq, .int .u64 b.tick, .int .i64 b.code, .slice b.A b.n b.c, .string b.ad] 29)) = W6 := ⟨_, rfl⟩
    have hB5 : Below w4.heap.size w4 W5 := by rw [← hW5]; exact (Below.refl _ w4).alloc (Nat.le_refl _) _
    have hs5 : W5.heap.size = w4.heap.size + 1 := by rw [← hW5]; simp
    have hB6 : Below W5.heap.size W5 W6 := by rw [← hW6]; exact (Below.refl _ W5).alloc (Nat.le_refl _) _
    have k5 : Blk W5 w4.heap.size 29 #[.int .i64 a.kind, .int .i64 a.who, .int .u64 a.seq, .int .u64 a.tick, .int .i64 a.code, .slice a.A a.n a.c, .string a.ad] := by rw [← hW5]; exact Blk.new w4 29 _
    have K5 := Lib.hid (Blk.below k5 hB6 k5.lt)
    have K6 := Lib.hid (show Blk W6 (w4.heap.size + 1) 29 #[.int .i64 b.kind, .int .i64 b.who, .int .u64 b.seq, .int .u64 b.tick, .int .i64 b.code, .slice b.A b.n b.c, .string b.ad] by rw [← hW6, ← hs5]; exact Blk.new W5 29 _)
    have hB46 : Below w4.heap.size w4 W6 := hB5.trans (hB6.mono hB5.size)
    have KA6 := Lib.hid (Blk.below KA4.out hB46 KA4.out.lt)
    have KB6 := Lib.hid (Blk.below KB4.out hB46 KB4.out.lt)
    have H6 := Lib.hid (H4.out.trans (hB46.mono H4.out.size))
    rw [hW5, hW6]
    clear hB5 hB6 hB46 hs5 k5 hW5 hW6 KA4 KB4 H4
    have hae := HF2.out.2 a (by simp)
    have hz : a.n ≤ 5000 ∧ a.ad.size ≤ 5000 := by have := hae; unfold FewE at this; omega
    have up : ∀ d os, Below w.heap.size w (grow (redrawn W6 d) os) := fun d os => H6.out.trans ((below_regrown W6 d os).mono H6.out.size)
    have h10 := fun d os => right_any a (grow (redrawn W6 d) os) (HA.out.below (up d os))
    have h11 := fun d os => rright_any a (grow (redrawn W6 d) os) (HA.out.below (up d os))
    have h12 := fun d os => text_any a (grow (redrawn W6 d) os) (HA.out.below (up d os)) (HT.out.below (up d os)) hz.1 hz.2
    have h13 := fun d os => rtext_any a (grow (redrawn W6 d) os) (HA.out.below (up d os)) hz.1 hz.2
    have h14 := fun d os => same_any a b (grow (redrawn W6 d) os) (HA.out.below (up d os)) (HBo.out.below (up d os))
    have h15 := fun d os => rsame_any a b (grow (redrawn W6 d) os) (HA.out.below (up d os)) (HBo.out.below (up d os))
    have h16 := fun d os => same_any a a (grow (redrawn W6 d) os) (HA.out.below (up d os)) (HA.out.below (up d os))
    simp only [evEq_self] at h16
    generalize rightB a = ra at *
    generalize textS a = ta at *
    generalize evEq a b = eab at *
    unfold Ev.v at h10 h11 h12 h13 h14 h15 h16
    have HC := Lib.hid (And.intro h10 (And.intro h11 (And.intro h12 (And.intro h13 (And.intro h14 (And.intro h15 h16))))))
    clear h10 h11 h12 h13 h14 h15 h16 up hz hae HF2
    have hr1 : (ra == ra) = true := by simp
    have hr3 : (eab == eab) = true := by simp
    refine wp_region_quiet_below (by kernel_rfl) (by kernel_rfl) ?_
    repeat (first
      | go_big_quiet_skip
      | (refine wpQuiet_load_row rfl 29 (.tmp 5) rfl w4.heap.size 0 rfl _ _ (Blk.up K5.out) Tryd.underlying29 rfl (by kernel_rfl) ?_)
      | (refine wpQuiet_load_row rfl 29 (.tmp 6) rfl (w4.heap.size + 1) 0 rfl _ _ (Blk.up K6.out) Tryd.underlying29 rfl (by kernel_rfl) ?_)
      | (refine wpQuiet_load_row rfl 25 (.tmp 2) rfl w.heap.size 0 rfl _ _ (Blk.up KA6.out) Tryd.underlying25 rfl (by kernel_rfl) ?_)
      | (refine wpQuiet_load_row rfl 25 (.tmp 3) rfl (w.heap.size + 1) 0 rfl _ _ (Blk.up KB6.out) Tryd.underlying25 rfl (by kernel_rfl) ?_)
      | quiet_step (first
        | (go_at_call 10; with_reducible exact Calls.regrown_of (HC.out.1 _ _))
        | (go_at_call 11; with_reducible exact Calls.regrown_of (HC.out.2.1 _ _))
        | (go_at_call 12; with_reducible exact Calls.regrown_of (HC.out.2.2.1 _ _))
        | (go_at_call 13; with_reducible exact Calls.regrown_of (HC.out.2.2.2.1 _ _))
        | (go_at_call 14; with_reducible exact Calls.regrown_of (HC.out.2.2.2.2.1 _ _))
        | (go_at_call 15; with_reducible exact Calls.regrown_of (HC.out.2.2.2.2.2.1 _ _))
        | (go_at_call 14; with_reducible exact Calls.regrown_of (HC.out.2.2.2.2.2.2 _ _))))
    refine wpQuiet_nil ?_
    rintro _ ⟨⟨dq, osq⟩, rfl⟩
    have H7 := Lib.hid (H6.out.trans ((below_regrown W6 dq osq).mono H6.out.size))
    generalize grow (redrawn W6 dq) osq = w7 at *
    go_wp2_with fail
    go_ret
    exact ⟨rfl, H7.out⟩
end Go.Proofs.YtgnegllehcpdpaaDoor
