import Derived.Test.YtnbkeojllibegaaDoorAwk
import Derived.Lib.QuietBelow
namespace Go.Proofs.YtnbkeojllibegaaDoor
open Go.ChangeShapes Go.WideShapes Go.ChangeAt Go.RowKit Go.Sort
set_option linter.unusedVariables false
set_option linter.unusedSimpArgs false
theorem Blk.rangeAt {w : World} {g : Nat} {t : TypeId} {cs : Array Value} (h : Blk w g t cs) : w.rangeAt g 0 cs.toList := fun j v hv => by
  rw [Nat.zero_add, h.cell, ← Array.getElem?_toList]; exact hv
theorem wpList_load_g {P : Program} {ops : Array Oper} {rest : List Oper} {op : Oper} {a : Act} {w : World} {Q : Exit → Act → World → Prop} (hgd : Region.wanted op (yielded ops a.tmps) = true) (ty : TypeId) (x : Operand) (ho : op.op = .load ty x)
    (b o : Nat) (hx : a.eval x = .pointer (some ⟨b, o, none⟩)) (cs : List Value) (d : TypeDesc) (hc : w.rangeAt b o cs)
    (hu : P.underlying ty = some d) (hd : d.isRow = true) (hi : (P.info? ty).map (·.size) = some cs.length)
    (h : wpList P ops Q rest (a.put op.dst (.agg cs.toArray)) w) : wpList P ops Q (op :: rest) a w :=
  wpList_step fun K hK => by
    rw [if_pos hgd]
    exact wp_load_mid ty x ho b o hx cs d hc hu hd hi (hK _ _ h)
theorem wpQuiet_run {P : Program} {ops : Array Oper} {C : World → Prop} {Q : Act → Prop} {a : Act} {o : Oper} {rest : List Oper} (hw : Region.wanted o (yielded ops a.tmps) = true) (v : Value)
    (hr : ∀ w, C w → (execOp a.eval o).run P w = .ok (.value v) w) (h : wpQuiet P ops C Q rest (a.put o.dst v)) : wpQuiet P ops C Q (o :: rest) a := by
  simp only [wpQuiet, hw, if_true]
  refine ⟨v, fun w hC => ?_, h⟩
  unfold Oper.quietAt
  rw [hr w hC]
  exact ⟨rfl, rfl⟩
theorem wpQuiet_load_mid {P : Program} {ops : Array Oper} {C : World → Prop} {Q : Act → Prop} {a : Act} {op : Oper} {rest : List Oper} (hw : Region.wanted op (yielded ops a.tmps) = true) (ty : TypeId) (x : Operand) (ho : op.op = .load ty x)
    (b o : Nat) (hx : a.eval x = .pointer (some ⟨b, o, none⟩)) (cs : List Value) (d : TypeDesc) (hc : ∀ w, C w → w.rangeAt b o cs)
    (hu : P.underlying ty = some d) (hd : d.isRow = true) (hi : (P.info? ty).map (·.size) = some cs.length)
    (h : wpQuiet P ops C Q rest (a.put op.dst (.agg cs.toArray))) : wpQuiet P ops C Q (op :: rest) a :=
  wpQuiet_run hw _ (fun w hC => by
    unfold execOp
    simp only [ho, hx, Instr.loadAt, Instr.sureAddr, Sem.run_bind, Sem.run_pure, Result.andThen_ok, run_loadVar_mid w b o ty cs d (hc w hC) hu hd hi]) h
theorem blk_regrown {w : World} {g : Nat} {t : TypeId} {cs : Array Value} (h : Blk w g t cs) : ∀ w', (∃ p : Regrown, w' = grow (redrawn w p.d) p.os) → w'.rangeAt g 0 cs.toList := by
  rintro _ ⟨p, rfl⟩
  exact Blk.rangeAt (h.below (below_regrown w p.d p.os) h.lt)
theorem blk_cells {w : World} {g : Nat} {t : TypeId} {v0 v1 v2 v3 v4 : Value} (h : Blk w g t #[v0, v1, v2, v3, v4]) : w.cell? ⟨g, 0, none⟩ = some v0 ∧ w.cell? ⟨g, 1, none⟩ = some v1 ∧ w.cell? ⟨g, 2, none⟩ = some v2 ∧ w.cell? ⟨g, 3, none⟩ = some v3 ∧ w.cell? ⟨g, 4, none⟩ = some v4 :=
  ⟨h.cell 0, h.cell 1, h.cell 2, h.cell 3, h.cell 4⟩
/-- The method Error of a whole chain, told by its outermost link. -/
theorem error_any (ps : List ByteArray) (fl : Bool) (c a : Int) (h0 : -9223372036854775808 ≤ c) (h1 : c ≤ 9223372036854775807) (hp : ∀ q ∈ ps, q.size ≤ 50) (hl : ps.length ≤ 100) :
    ∃ ty x F, wrapV ps (coreV fl c a) = .iface ty x ∧ ((ty = 30 ∧ F = 64) ∨ (ty = 50 ∧ F = 65) ∨ (ty = 59 ∧ F = 68)) ∧ ∀ w, Pow w → Calls Tryd.prog F #[x] w fun e w' => e = .returned (.string (txtS ps (errS ++ itS c))) ∧ Below w.heap.size w w' := by
  cases ps with
  | nil =>
    cases fl
    · exact ⟨30, _, 64, rfl, .inl ⟨rfl, rfl⟩, fun w hw => code_error c w hw h0 h1⟩
    · exact ⟨50, _, 65, rfl, .inr (.inl ⟨rfl, rfl⟩), fun w hw => fault_error c a w hw h0 h1⟩
  | cons p ps =>
    exact ⟨59, _, 68, rfl, .inr (.inr ⟨rfl, rfl⟩), fun w hw => wrap_error c a _ (coreV_is fl c a) h0 h1 ps p hp (by simp at hl; omega) w hw⟩
set_option maxRecDepth 100000 in
set_option maxHeartbeats 4000000 in
theorem finds_any (w : World) (nl fl : Bool) (A : Option Addr) (n cap : Nat) (c a : Int) (ss : List ByteArray) (h : Strs w A n ss) (hn : n ≤ maxLen) (h0 : -9223372036854775808 ≤ c) (h1 : c ≤ 9223372036854775807) (hL : Laid w) :
    Calls Tryd.prog 3 #[errE nl A n cap c a fl] w fun e w' => e = .returned (.bool true) ∧ Below w.heap.size w w' := by
  have hfew := fun W (hb : Below w.heap.size w W) => few_any W nl fl A n cap c a ss (h.below hb) hn
  have hbld := fun W (hb : Below w.heap.size w W) => build_any W nl fl A n cap c a ss (h.below hb) hn
  have hA := fun W (hb : Below w.heap.size w W) => awake_any W (hL.below hb)
  have HL := Lib.hid hL
  have HS := Lib.hid (And.intro h hn)
  have HC := Lib.hid (And.intro h0 h1)
  unfold errE at *
  have hB0 : Below w.heap.size w (w.alloc (.cells #[.bool nl, .slice A n cap, .int .i64 c, .int .i64 a, .bool fl] 24)) := (Below.refl _ w).alloc (Nat.le_refl _) _
  have H0 := Lib.hid hB0
  have K0 := Lib.hid (Blk.new w 24 #[.bool nl, .slice A n cap, .int .i64 c, .int .i64 a, .bool fl])
  clear h hn h0 h1 hL hB0
  go_enter Tryd.func3, Tryd.ntmps3
  go_wp2_with (go_at_call 7; refine (hA _ H0.out).mono ?_; rintro _ w1 ⟨rfl, hb⟩; refine Hid.out ?_)
  refine Lib.hid ?_
  have H1 := Lib.hid (H0.out.trans (hb.mono H0.out.size))
  have K1 := Lib.hid (Blk.below K0.out hb (Blk.lt K0.out))
  clear hb
  go_wp2_with (first
    | ((with_reducible (show wpList _ _ _ ({ dst := _, op := Op.load 24 _, type := _, pos := _, after := _, guard := _ } :: _) _ _)); refine wpList_load_g rfl 24 (.tmp 1) rfl w.heap.size 0 rfl _ _ (Blk.rangeAt K1.out) Tryd.underlying24 rfl (by kernel_rfl) ?_)
    | (go_at_call 8; refine (hfew _ H1.out).mono ?_; rintro _ w2 ⟨⟨b, rfl, hF⟩, hb⟩; refine Hid.out ?_))
  refine Lib.hid ?_
  have H2 := Lib.hid (H1.out.trans (hb.mono H1.out.size))
  have K2 := Lib.hid (Blk.below K1.out hb (Blk.lt K1.out))

  have HF := Lib.hid hF
  clear hb hF hfew
  cases b with
  | false =>
    go_wp2_with (go_at_call 7; refine (hA _ H2.out).mono ?_; rintro _ w3 ⟨rfl, hb⟩; refine Hid.out ?_)
    refine Lib.hid ?_
    go_wp2_with fail
    go_ret
    exact ⟨rfl, H2.out.trans (hb.mono H2.out.size)⟩
  | true =>
    obtain ⟨V, hV⟩ : ∃ V, (if nl = true then Value.nilIface else wrapV ss.reverse (coreV fl c a)) = V := ⟨_, rfl⟩
    rw [hV] at hbld
    have HV := Lib.hid hV
    clear hV
    go_wp2_with (first
      | ((with_reducible (show wpList _ _ _ ({ dst := _, op := Op.load 24 _, type := _, pos := _, after := _, guard := _ } :: _) _ _)); refine wpList_load_g rfl 24 (.tmp 1) rfl w.heap.size 0 rfl _ _ (Blk.rangeAt K2.out) Tryd.underlying24 rfl (by kernel_rfl) ?_)
      | (go_at_call 9; refine (hbld _ H2.out).mono ?_; rintro _ w3 ⟨rfl, hb⟩; refine Hid.out ?_))
    refine Lib.hid ?_
    have H3 := Lib.hid (H2.out.trans (hb.mono H2.out.size))
    have K3 := Lib.hid (Blk.below K2.out hb (Blk.lt K2.out))
    clear hb hbld
    cases nl with
    | true =>
      obtain rfl : Value.nilIface = V := by simpa using HV.out
      go_wp2_with (go_at_call 10; refine (code_nil _).mono ?_; rintro _ w4 ⟨rfl, hb⟩; refine Hid.out ?_)
      refine Lib.hid ?_
      have H4 := Lib.hid (H3.out.trans (hb.mono H3.out.size))
      have K4 := Lib.hid (Blk.below K3.out hb (Blk.lt K3.out))
      clear hb
      go_wp2_with (go_at_call 11; refine (at_nil _).mono ?_; rintro _ w5 ⟨rfl, hb⟩; refine Hid.out ?_)
      refine Lib.hid ?_
      have H5 := Lib.hid (H4.out.trans (hb.mono H4.out.size))
      obtain ⟨c0, -, -, -, -⟩ := blk_cells (Blk.below K4.out hb (Blk.lt K4.out))
      clear hb
      go_wp2_with fail
      go_ret
      exact ⟨ret_true (by simp), H5.out⟩
    | false =>
      obtain rfl : wrapV ss.reverse (coreV fl c a) = V := by simpa using HV.out
      have hF := HF.out (by simp)
      have hps : ∀ q ∈ ss.reverse, q.size ≤ 50 := fun q hq => hF.2.1 q (List.mem_reverse.1 hq)
      have hpl : ss.reverse.length ≤ 100 := by rw [List.length_reverse, HS.out.1.len]; have := hF.1; omega
      obtain ⟨ty, x, F, hv, hty, herr⟩ := error_any ss.reverse fl c a HC.out.1 HC.out.2 hps hpl
      have hcd := fun W (hb : Below w.heap.size w W) => code_any ss.reverse (coreV fl c a) c a (coreV_is fl c a) W (HL.out.below hb).1
      have hat := fun W (hb : Below w.heap.size w W) => at_core ss.reverse fl c a W (HL.out.below hb).1
      have hrt := fun W (hb : Below w.heap.size w W) => rtext_any W false fl A n cap c a ss (HS.out.1.below hb) hF HC.out.1 HC.out.2
      have herr2 := fun W (hb : Below w.heap.size w W) => herr W (HL.out.below hb).2.2
      unfold errE at hrt
      rw [hv] at hcd hat ⊢
      generalize txtS ss.reverse (errS ++ itS c) = T at *
      clear hF hps hpl hv herr
      go_wp2_with (go_at_call 10; refine (hcd _ H3.out).mono ?_; rintro _ w4 ⟨rfl, hb⟩; refine Hid.out ?_)
      refine Lib.hid ?_
      have H4 := Lib.hid (H3.out.trans (hb.mono H3.out.size))
      have K4 := Lib.hid (Blk.below K3.out hb (Blk.lt K3.out))
      clear hb hcd
      go_wp2_with (go_at_call 11; refine (hat _ H4.out).mono ?_; rintro _ w5 ⟨rfl, hb⟩; refine Hid.out ?_)
      refine Lib.hid ?_
      have H5 := Lib.hid (H4.out.trans (hb.mono H4.out.size))
      have K5 := Lib.hid (Blk.below K4.out hb (Blk.lt K4.out))
      obtain ⟨c0, c1, c2, c3, c4⟩ := blk_cells K5.out
      have d0 := cell_regrown c0
      have d2 := cell_regrown c2
      have d3 := cell_regrown c3
      have d4 := cell_regrown c4
      have hreg : ∀ d os, Below w.heap.size w (grow (redrawn w5 d) os) := fun d os => H5.out.trans ((below_regrown w5 d os).mono H5.out.size)
      have m59 := err59
      have m50 := err50
      have m30 := err30
      clear hb hat c1 c2 c3 c4
      rcases hty with ⟨rfl, rfl⟩ | ⟨rfl, rfl⟩ | ⟨rfl, rfl⟩ <;> cases fl
      all_goals
        try simp only [offV, if_true, Bool.false_eq_true, if_false]
        go_wp2_with fail
        refine wp_region_quiet_below (by kernel_rfl) (by kernel_rfl) ?_
        repeat (first
          | go_big_quiet_skip
          | (refine wpQuiet_load_mid rfl 24 (.tmp 1) rfl w.heap.size 0 rfl _ _ (blk_regrown K5.out) Tryd.underlying24 rfl (by kernel_rfl) ?_)
          | quiet_step ((first
              | (go_at_call 64; with_reducible exact Calls.regrown_of (herr2 _ (hreg _ _)))
              | (go_at_call 65; with_reducible exact Calls.regrown_of (herr2 _ (hreg _ _)))
              | (go_at_call 68; with_reducible exact Calls.regrown_of (herr2 _ (hreg _ _)))
              | (go_at_call 12; with_reducible exact Calls.regrown_of (hrt _ (hreg _ _))))))
        refine wpQuiet_nil ?_
        rintro _ ⟨⟨dq, osq⟩, rfl⟩
        go_wp2_with fail
        go_ret
        exact ⟨ret_true (by simp), hreg dq osq⟩
end Go.Proofs.YtnbkeojllibegaaDoor
