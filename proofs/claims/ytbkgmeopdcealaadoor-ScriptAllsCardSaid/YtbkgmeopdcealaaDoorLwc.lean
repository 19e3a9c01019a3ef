import Derived.Test.YtbkgmeopdcealaaDoorLwf
import Derived.Lib.QuietBelow
import Derived.BigQuiet
import Derived.Deep.Cut
namespace Go.Proofs.YtbkgmeopdcealaaDoor
open Go.ChangeShapes Go.WideShapes Go.ChangeAt Go.RowKit Go.Sort Go.Deep
set_option linter.unusedVariables false
set_option linter.unusedSimpArgs false
theorem wpQuiet_runV {P : Program} {ops : Array Oper} {C : World → Prop} {Q : Act → Prop} {a : Act} {o : Oper} {rest : List Oper} (hw : Region.wanted o (yielded ops a.tmps) = true) (v : Value)
    (hr : ∀ w, C w → (execOp a.eval o).run P w = .ok (.value v) w) (h : wpQuiet P ops C Q rest (a.put o.dst v)) : wpQuiet P ops C Q (o :: rest) a := by
  simp only [wpQuiet, hw, if_true]
  refine ⟨v, fun w hC => ?_, h⟩
  unfold Oper.quietAt
  rw [hr w hC]
  exact ⟨rfl, rfl⟩
theorem wpQuiet_load_row {P : Program} {ops : Array Oper} {C : World → Prop} {Q : Act → Prop} {a : Act} {op : Oper} {rest : List Oper} (hw : Region.wanted op (yielded ops a.tmps) = true) (ty : TypeId) (x : Operand) (ho : op.op = .load ty x)
    (b o : Nat) (hx : a.eval x = .pointer (some ⟨b, o, none⟩)) (cs : List Value) (d : TypeDesc) (hc : ∀ w, C w → w.rangeAt b o cs)
    (hu : P.underlying ty = some d) (hd : d.isRow = true) (hi : (P.info? ty).map (·.size) = some cs.length)
    (h : wpQuiet P ops C Q rest (a.put op.dst (.agg cs.toArray))) : wpQuiet P ops C Q (op :: rest) a :=
  wpQuiet_runV hw _ (fun w hC => by
    unfold execOp
    simp only [ho, hx, Instr.loadAt, Instr.sureAddr, Sem.run_bind, Sem.run_pure, Result.andThen_ok, run_loadVar_mid w b o ty cs d (hc w hC) hu hd hi]) h
theorem Blk.up {w : World} {g : Nat} {t : TypeId} {l : List Value} (h : Blk w g t l.toArray) : ∀ w', (∃ p : Regrown, w' = grow (redrawn w p.d) p.os) → w'.rangeAt g 0 l := by
  rintro _ ⟨p, rfl⟩
  exact Blk.range (Blk.below h (below_regrown w p.d p.os) h.lt)
/-- Two operations in their boxes. -/
structure AB (w : World) (a b : Op) (W : World) : Prop where
  bel : Below w.heap.size w W
  ka : Blk W w.heap.size 24 a.arr
  kb : Blk W (w.heap.size + 1) 24 b.arr
  oa : OpOk W a
  ob : OpOk W b
theorem AB.step {w W W' : World} {a b : Op} (h : AB w a b W) (hb : Below W.heap.size W W') : AB w a b W' :=
  ⟨thru h.bel hb, h.ka.below hb h.ka.lt, h.kb.below hb h.kb.lt, h.oa.below hb, h.ob.below hb⟩
set_option maxRecDepth 100000 in
set_option maxHeartbeats 3000000 in
/-- ScriptApart. -/
theorem apart_any (X Y : Op) (w : World) (hT : Tab w) (hX : OpOk w X) (hY : OpOk w Y) :
    Calls Tryd.prog 3 #[X.v, Y.v] w fun e w' => e = .returned (.bool true) ∧ Below w.heap.size w w' := by
  have b0 : Below w.heap.size w ((w.alloc (.cells X.arr 24)).alloc (.cells Y.arr 24)) := thru (below_new w _) (below_new _ _)
  have kb := Blk.new (w.alloc (.cells X.arr 24)) 24 Y.arr
  rw [World.size_alloc] at kb
  have B0 := Lib.hid (show AB w X Y ((w.alloc (.cells X.arr 24)).alloc (.cells Y.arr 24)) from ⟨b0, (Blk.new w 24 X.arr).alloc _, kb, hX.below b0, hY.below b0⟩)
  have haw := awake_any _ (hT.below b0)
  have HAW := Lib.hid (fun W (hW : Tab W) => awake_any W hW)
  have HT := Lib.hid hT
  have HQ := Lib.hid (And.intro (opEq_iff X Y) (fun (h1 : RP X.p) (h2 : RP Y.p) => show (lineP X.p = lineP Y.p) ↔ X.p = Y.p from ⟨line_inj h1 h2, fun h => by rw [h]⟩))
  clear hT hX hY b0 kb
  obtain ⟨o, ho⟩ : ∃ o : Op, o = X := ⟨X, rfl⟩
  obtain ⟨u, hu⟩ : ∃ o : Op, o = Y := ⟨Y, rfl⟩
  obtain ⟨ka, wa, na, ma, Aa, la, ca, bsa, ada⟩ := o
  obtain ⟨kb, wb, nb, mb, Ab, lb, cb, bsb, adb⟩ := u
  have HXv := Lib.hid (show X.v = .agg #[.int .i64 ka, .int .i64 wa, .int .i64 na, .int .i64 ma, .slice Aa la ca, .string ada] by rw [← ho]; rfl)
  have HYv := Lib.hid (show Y.v = .agg #[.int .i64 kb, .int .i64 wb, .int .i64 nb, .int .i64 mb, .slice Ab lb cb, .string adb] by rw [← hu]; rfl)
  have hxa : X.arr = #[.int .i64 ka, .int .i64 wa, .int .i64 na, .int .i64 ma, .slice Aa la ca, .string ada] := by rw [← ho]; rfl
  have hya : Y.arr = #[.int .i64 kb, .int .i64 wb, .int .i64 nb, .int .i64 mb, .slice Ab lb cb, .string adb] := by rw [← hu]; rfl
  have HXA := Lib.hid hxa
  have HYA := Lib.hid hya
  rw [hxa, hya] at haw
  rw [hxa, hya] at B0
  rw [HXv.out, HYv.out]
  clear ho hu hxa hya
  go_enter Tryd.func3, Tryd.ntmps3
  go_wp2_with (go_at_call 9; refine haw.mono ?_; rintro _ w1 ⟨rfl, hb⟩; refine Hid.out ?_)
  refine Lib.hid ?_
  have B1 := Lib.hid (AB.step B0.out hb)
  clear hb B0
  clear haw
  have hf := few_any X w1 B1.out.oa
  rw [HXv.out] at hf
  have d0 : w1.cell? ⟨w.heap.size, 0, none⟩ = some (.int .i64 ka) := (B1.out.ka.cell 0).trans (by rw [HXA.out]; rfl)
  have d1 : w1.cell? ⟨w.heap.size, 1, none⟩ = some (.int .i64 wa) := (B1.out.ka.cell 1).trans (by rw [HXA.out]; rfl)
  have d2 : w1.cell? ⟨w.heap.size, 2, none⟩ = some (.int .i64 na) := (B1.out.ka.cell 2).trans (by rw [HXA.out]; rfl)
  have d3 : w1.cell? ⟨w.heap.size, 3, none⟩ = some (.int .i64 ma) := (B1.out.ka.cell 3).trans (by rw [HXA.out]; rfl)
  have d4 : w1.cell? ⟨w.heap.size, 4, none⟩ = some (.slice Aa la ca) := (B1.out.ka.cell 4).trans (by rw [HXA.out]; rfl)
  have d5 : w1.cell? ⟨w.heap.size, 5, none⟩ = some (.string ada) := (B1.out.ka.cell 5).trans (by rw [HXA.out]; rfl)
  have hlt := B1.out.kb.lt
  go_wp2_with (go_at_call 10; refine hf.mono ?_; rintro _ w2 ⟨hfe, hb⟩; refine Hid.out ?_)
  refine Lib.hid ?_
  have B2 := Lib.hid (AB.step B1.out hb)
  clear hb B1
  clear hf d0 d1 d2 d3 d4 d5 hlt
  cases hfe with
  | no hno =>
    clear hno
    have ha2 := HAW.out w2 (HT.out.below B2.out.bel)
    go_wp2_with (go_at_call 9; refine ha2.mono ?_; rintro _ w20 ⟨rfl, hb⟩)
    all_goals go_ret
    exact ⟨rfl, thru B2.out.bel hb⟩
  | yes hfa =>
    have HFA := Lib.hid hfa
    clear hfa
    have hf := few_any Y w2 B2.out.ob
    rw [HYv.out] at hf
    have e0 : w2.cell? ⟨w.heap.size + 1, 0, none⟩ = some (.int .i64 kb) := (B2.out.kb.cell 0).trans (by rw [HYA.out]; rfl)
    have e1 : w2.cell? ⟨w.heap.size + 1, 1, none⟩ = some (.int .i64 wb) := (B2.out.kb.cell 1).trans (by rw [HYA.out]; rfl)
    have e2 : w2.cell? ⟨w.heap.size + 1, 2, none⟩ = some (.int .i64 nb) := (B2.out.kb.cell 2).trans (by rw [HYA.out]; rfl)
    have e3 : w2.cell? ⟨w.heap.size + 1, 3, none⟩ = some (.int .i64 mb) := (B2.out.kb.cell 3).trans (by rw [HYA.out]; rfl)
    have e4 : w2.cell? ⟨w.heap.size + 1, 4, none⟩ = some (.slice Ab lb cb) := (B2.out.kb.cell 4).trans (by rw [HYA.out]; rfl)
    have e5 : w2.cell? ⟨w.heap.size + 1, 5, none⟩ = some (.string adb) := (B2.out.kb.cell 5).trans (by rw [HYA.out]; rfl)
    have hlt := B2.out.kb.lt
    go_wp2_with (go_at_call 10; refine hf.mono ?_; rintro _ w3 ⟨hfe, hb⟩; refine Hid.out ?_)
    refine Lib.hid ?_
    have B3 := Lib.hid (AB.step B2.out hb)
    clear hb B2
    clear hf e0 e1 e2 e3 e4 e5 hlt
    cases hfe with
    | no hno =>
      clear hno
      have ha2 := HAW.out w3 (HT.out.below B3.out.bel)
      go_wp2_with (go_at_call 9; refine ha2.mono ?_; rintro _ w20 ⟨rfl, hb⟩)
      all_goals go_ret
      exact ⟨rfl, thru B3.out.bel hb⟩
    | yes hfb =>
      have HFB := Lib.hid hfb
      clear hfb
      have hf := refright_any X w3 B3.out.oa
      rw [HXv.out] at hf
      have d0 : w3.cell? ⟨w.heap.size, 0, none⟩ = some (.int .i64 ka) := (B3.out.ka.cell 0).trans (by rw [HXA.out]; rfl)
      have d1 : w3.cell? ⟨w.heap.size, 1, none⟩ = some (.int .i64 wa) := (B3.out.ka.cell 1).trans (by rw [HXA.out]; rfl)
      have d2 : w3.cell? ⟨w.heap.size, 2, none⟩ = some (.int .i64 na) := (B3.out.ka.cell 2).trans (by rw [HXA.out]; rfl)
      have d3 : w3.cell? ⟨w.heap.size, 3, none⟩ = some (.int .i64 ma) := (B3.out.ka.cell 3).trans (by rw [HXA.out]; rfl)
      have d4 : w3.cell? ⟨w.heap.size, 4, none⟩ = some (.slice Aa la ca) := (B3.out.ka.cell 4).trans (by rw [HXA.out]; rfl)
      have d5 : w3.cell? ⟨w.heap.size, 5, none⟩ = some (.string ada) := (B3.out.ka.cell 5).trans (by rw [HXA.out]; rfl)
      have hlt := B3.out.kb.lt
      go_wp2_with (go_at_call 11; refine hf.mono ?_; rintro _ w4 ⟨hfe, hb⟩; refine Hid.out ?_)
      refine Lib.hid ?_
      have B4 := Lib.hid (AB.step B3.out hb)
      clear hb B3
      clear hf d0 d1 d2 d3 d4 d5 hlt
      cases hfe with
      | no hno =>
        clear hno
        have ha2 := HAW.out w4 (HT.out.below B4.out.bel)
        go_wp2_with (go_at_call 9; refine ha2.mono ?_; rintro _ w20 ⟨rfl, hb⟩)
        all_goals go_ret
        exact ⟨rfl, thru B4.out.bel hb⟩
      | yes hra =>
        have HRA := Lib.hid hra
        clear hra
        have hf := refright_any Y w4 B4.out.ob
        rw [HYv.out] at hf
        have e0 : w4.cell? ⟨w.heap.size + 1, 0, none⟩ = some (.int .i64 kb) := (B4.out.kb.cell 0).trans (by rw [HYA.out]; rfl)
        have e1 : w4.cell? ⟨w.heap.size + 1, 1, none⟩ = some (.int .i64 wb) := (B4.out.kb.cell 1).trans (by rw [HYA.out]; rfl)
        have e2 : w4.cell? ⟨w.heap.size + 1, 2, none⟩ = some (.int .i64 nb) := (B4.out.kb.cell 2).trans (by rw [HYA.out]; rfl)
        have e3 : w4.cell? ⟨w.heap.size + 1, 3, none⟩ = some (.int .i64 mb) := (B4.out.kb.cell 3).trans (by rw [HYA.out]; rfl)
        have e4 : w4.cell? ⟨w.heap.size + 1, 4, none⟩ = some (.slice Ab lb cb) := (B4.out.kb.cell 4).trans (by rw [HYA.out]; rfl)
        have e5 : w4.cell? ⟨w.heap.size + 1, 5, none⟩ = some (.string adb) := (B4.out.kb.cell 5).trans (by rw [HYA.out]; rfl)
        have hlt := B4.out.kb.lt
        go_wp2_with (go_at_call 11; refine hf.mono ?_; rintro _ w5 ⟨hfe, hb⟩; refine Hid.out ?_)
        refine Lib.hid ?_
        have B5 := Lib.hid (AB.step B4.out hb)
        clear hb B4
        clear hf e0 e1 e2 e3 e4 e5 hlt
        cases hfe with
        | no hno =>
          clear hno
          have ha2 := HAW.out w5 (HT.out.below B5.out.bel)
          go_wp2_with (go_at_call 9; refine ha2.mono ?_; rintro _ w20 ⟨rfl, hb⟩)
          all_goals go_ret
          exact ⟨rfl, thru B5.out.bel hb⟩
        | yes hrb =>
          have HRB := Lib.hid hrb
          clear hrb
          have HLL := Lib.hid (HQ.out.2 HRA.out HRB.out)
          have ht := (text_any X w5 (HT.out.below B5.out.bel) B5.out.oa (by have := HFA.out.1; omega) (by have := HFA.out.2; omega)).mono (R' := fun e w' => e = .returned (.tuple #[.string (lineP X.p), .bool true]) ∧ Below w5.heap.size w5 w') (fun e w' ⟨h1, h2⟩ => ⟨by
            cases h1 with
            | yes h => rfl
            | no h => exact absurd HRA.out h, h2⟩)
          obtain ⟨LX, hLX⟩ : ∃ l, lineP X.p = l := ⟨_, rfl⟩
          obtain ⟨LY, hLY⟩ : ∃ l, lineP Y.p = l := ⟨_, rfl⟩
          rw [hLX, HXv.out] at ht
          rw [hLX, hLY] at HLL
          have HLY := Lib.hid hLY
          clear hLX hLY
          have d0 : w5.cell? ⟨w.heap.size, 0, none⟩ = some (.int .i64 ka) := (B5.out.ka.cell 0).trans (by rw [HXA.out]; rfl)
          have d1 : w5.cell? ⟨w.heap.size, 1, none⟩ = some (.int .i64 wa) := (B5.out.ka.cell 1).trans (by rw [HXA.out]; rfl)
          have d2 : w5.cell? ⟨w.heap.size, 2, none⟩ = some (.int .i64 na) := (B5.out.ka.cell 2).trans (by rw [HXA.out]; rfl)
          have d3 : w5.cell? ⟨w.heap.size, 3, none⟩ = some (.int .i64 ma) := (B5.out.ka.cell 3).trans (by rw [HXA.out]; rfl)
          have d4 : w5.cell? ⟨w.heap.size, 4, none⟩ = some (.slice Aa la ca) := (B5.out.ka.cell 4).trans (by rw [HXA.out]; rfl)
          have d5 : w5.cell? ⟨w.heap.size, 5, none⟩ = some (.string ada) := (B5.out.ka.cell 5).trans (by rw [HXA.out]; rfl)
          have hlt := B5.out.kb.lt
          go_wp2_with (go_at_call 12; refine ht.mono ?_; rintro _ w6 ⟨rfl, hb⟩; refine Hid.out ?_)
          refine Lib.hid ?_
          have B6 := Lib.hid (AB.step B5.out hb)
          clear hb B5
          clear ht
          clear d0 d1 d2 d3 d4 d5 hlt
          have ht := (text_any Y w6 (HT.out.below B6.out.bel) B6.out.ob (by have := HFB.out.1; omega) (by have := HFB.out.2; omega)).mono (R' := fun e w' => e = .returned (.tuple #[.string LY, .bool true]) ∧ Below w6.heap.size w6 w') (fun e w' ⟨h1, h2⟩ => ⟨by
            cases h1 with
            | yes h => rw [HLY.out]
            | no h => exact absurd HRB.out h, h2⟩)
          rw [HYv.out] at ht
          have e0 : w6.cell? ⟨w.heap.size + 1, 0, none⟩ = some (.int .i64 kb) := (B6.out.kb.cell 0).trans (by rw [HYA.out]; rfl)
          have e1 : w6.cell? ⟨w.heap.size + 1, 1, none⟩ = some (.int .i64 wb) := (B6.out.kb.cell 1).trans (by rw [HYA.out]; rfl)
          have e2 : w6.cell? ⟨w.heap.size + 1, 2, none⟩ = some (.int .i64 nb) := (B6.out.kb.cell 2).trans (by rw [HYA.out]; rfl)
          have e3 : w6.cell? ⟨w.heap.size + 1, 3, none⟩ = some (.int .i64 mb) := (B6.out.kb.cell 3).trans (by rw [HYA.out]; rfl)
          have e4 : w6.cell? ⟨w.heap.size + 1, 4, none⟩ = some (.slice Ab lb cb) := (B6.out.kb.cell 4).trans (by rw [HYA.out]; rfl)
          have e5 : w6.cell? ⟨w.heap.size + 1, 5, none⟩ = some (.string adb) := (B6.out.kb.cell 5).trans (by rw [HYA.out]; rfl)
          have hlt := B6.out.kb.lt
          go_wp2_with (go_at_call 12; refine ht.mono ?_; rintro _ w7 ⟨rfl, hb⟩; refine Hid.out ?_)
          refine Lib.hid ?_
          have B7 := Lib.hid (AB.step B6.out hb)
          clear hb B6
          clear ht
          clear e0 e1 e2 e3 e4 e5 hlt
          obtain ⟨q, hq⟩ : ∃ q, opEq X Y = q := ⟨_, rfl⟩
          have hlq : (LX.toList == LY.toList) = q := by
            have h1 := HQ.out.1
            rw [hq] at h1
            cases q with
            | true => rw [HLL.out.2 (h1.1 rfl)]; simp
            | false => exact toList_ne (fun e => by have := h1.2 (HLL.out.1 e); cases this)
          have HS13 := Lib.hid (fun W (hW : AB w X Y W) => show Calls Tryd.prog 13 #[X.v, Y.v] W (fun e w' => e = .returned (.bool q) ∧ Below W.heap.size W w') from by have := rsameo_any X Y W hW.oa hW.ob; rw [hq] at this; exact this)
          have HS14 := Lib.hid (fun W (hW : AB w X Y W) => show Calls Tryd.prog 14 #[X.v, Y.v] W (fun e w' => e = .returned (.bool q) ∧ Below W.heap.size W w') from by have := sameo_any X Y W hW.oa hW.ob; rw [hq] at this; exact this)
          rw [HXv.out, HYv.out] at HS13 HS14
          clear hq
          have up : ∀ d os, AB w X Y (grow (redrawn w7 d) os) := fun d os => B7.out.step (below_regrown w7 d os)
          have h13 := fun d os => HS13.out _ (up d os)
          have h14 := fun d os => HS14.out _ (up d os)
          have HC := Lib.hid (And.intro h13 h14)
          have hqq : (q == q) = true := by simp
          have hka := B7.out.ka
          have hkb := B7.out.kb
          rw [HXA.out] at hka
          rw [HYA.out] at hkb
          have HK := Lib.hid (And.intro hka hkb)
          clear up h13 h14 HS13 HS14 hka hkb
          go_wp2_with fail
          refine wp_region_quiet_below (by kernel_rfl) (by kernel_rfl) ?_
          repeat (first
            | go_big_quiet_skip
            | (refine wpQuiet_load_row rfl 24 (.tmp 2) rfl w.heap.size 0 rfl _ _ (Blk.up HK.out.1) Tryd.underlying24 rfl (by kernel_rfl) ?_)
            | (refine wpQuiet_load_row rfl 24 (.tmp 3) rfl (w.heap.size + 1) 0 rfl _ _ (Blk.up HK.out.2) Tryd.underlying24 rfl (by kernel_rfl) ?_)
            | quiet_step (first
              | (go_at_call 13; with_reducible exact Calls.regrown_of (HC.out.1 _ _))
              | (go_at_call 14; with_reducible exact Calls.regrown_of (HC.out.2 _ _))))
          refine wpQuiet_nil ?_
          rintro _ ⟨⟨dq, osq⟩, rfl⟩
          have H8 := Lib.hid (thru B7.out.bel (below_regrown w7 dq osq))
          generalize grow (redrawn w7 dq) osq = w8 at *
          go_wp2_with fail
          all_goals go_ret
          exact ⟨by first | rfl | simp, H8.out⟩
end Go.Proofs.YtbkgmeopdcealaaDoor
