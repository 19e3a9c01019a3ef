import Derived.Test.YtbifakhalnkfbaaDoorAwk
namespace Go.Proofs.YtbifakhalnkfbaaDoor
open Go.ChangeShapes Go.WideShapes Go.ChangeAt Go.RowKit Go.Sort Go.Deep
set_option linter.unusedVariables false
set_option linter.unusedSimpArgs false
theorem ten_facts {W : World} {g : Nat} {t : TypeId} {v0 v1 v2 v3 v4 v5 v6 v7 v8 v9 : Value} (h : Blk W g t #[v0, v1, v2, v3, v4, v5, v6, v7, v8, v9]) : W.cell? ⟨g, 0, none⟩ = some v0 ∧ W.cell? ⟨g, 1, none⟩ = some v1 ∧ W.cell? ⟨g, 2, none⟩ = some v2 ∧ W.cell? ⟨g, 3, none⟩ = some v3 ∧ W.cell? ⟨g, 4, none⟩ = some v4 ∧ W.cell? ⟨g, 5, none⟩ = some v5 ∧ W.cell? ⟨g, 6, none⟩ = some v6 ∧ W.cell? ⟨g, 7, none⟩ = some v7 ∧ W.cell? ⟨g, 8, none⟩ = some v8 ∧ W.cell? ⟨g, 9, none⟩ = some v9 :=
  ⟨(h.cell 0).trans rfl, (h.cell 1).trans rfl, (h.cell 2).trans rfl, (h.cell 3).trans rfl, (h.cell 4).trans rfl, (h.cell 5).trans rfl, (h.cell 6).trans rfl, (h.cell 7).trans rfl, (h.cell 8).trans rfl, (h.cell 9).trans rfl⟩
set_option maxRecDepth 100000 in
set_option maxHeartbeats 2000000 in
/-- ShowMatchesReference. -/
theorem matches_law (a : St) (w : World) (hT : Tab w) (hA : StOk a) : Calls Tryd.prog 3 #[a.v] w fun e w' => e = .returned (.bool true) ∧ Below w.heap.size w w' := by
  have k1 := Blk.new w 25 a.arr
  have b1 : Below w.heap.size w (w.alloc (.cells a.arr 25)) := (Below.refl _ w).alloc (Nat.le_refl _) _
  have ha := awake_any _ (hT.below b1)
  have hma : a.ad.size ≤ 9223372036854775807 := by have := hA.d1; unfold maxLen at this; omega
  have HT := Lib.hid hT
  have HW := Lib.hid (fun W (h : Tab W) => awake_any W h)
  have HK := Lib.hid (And.intro k1 b1)
  have HRA := Lib.hid (fun W => rsright_any a W hA)
  have HSR := Lib.hid (fun W => sright_any a W hA)
  have HSA := Lib.hid (fun W (h : Tab W) => status_any a W hA h.pow)
  have HTX := Lib.hid (show ∀ b, rgtS a = b → b = true → ∀ W, Calls Tryd.prog 13 #[a.v] W fun e w' => e = .returned (.string (textS a)) ∧ Below W.heap.size W w' from fun b hb h1 W => by
    rw [h1] at hb
    have := rtext_any a W hA hb
    unfold textS
    rw [if_pos hb]
    exact this)
  have HPA := Lib.hid (show ∀ b, rgtS a = b → b = true → ∀ W, Tab W → Calls Tryd.prog 12 #[.string (textS a)] W fun e w' => e = .returned (.tuple #[a.v, .bool true]) ∧ Below W.heap.size W w' from fun b hb h1 W h => by
    rw [h1] at hb
    have := show_parse (textS a) W h (Nat.le_trans (textS_size hA) (by decide))
    rwa [(par_text hA hb).1, (par_text hA hb).2] at this)
  have HEM := Lib.hid (show rgtS a = false → textS a = ByteArray.empty from fun h => by unfold textS; rw [h]; rfl)
  obtain ⟨ra, hra⟩ : ∃ x, rgtS a = x := ⟨_, rfl⟩
  have htx1 := HTX.out ra hra
  have hpa1 := HPA.out ra hra
  obtain ⟨ta, hta⟩ : ∃ x, textS a = x := ⟨_, rfl⟩
  rw [hra] at HRA HSR HSA HEM
  rw [hta] at HSA HEM htx1 hpa1
  have HTY := Lib.hid htx1
  have HPY := Lib.hid hpa1
  clear k1 b1 hT hA hra hta HTX HPA htx1 hpa1
  obtain ⟨nx, ls, an, ac, rf, ad, mv, sm, sp, cl⟩ := a
  unfold St.v at HRA HSR HSA HTY HPY ⊢
  unfold St.arr at HK ha
  simp only at HRA HSR HSA HTY HPY HK ha hma ⊢
  obtain ⟨NX, hNX⟩ : ∃ x : Int, (nx : Int) = x := ⟨_, rfl⟩
  obtain ⟨LS, hLS⟩ : ∃ x : Int, (ls : Int) = x := ⟨_, rfl⟩
  obtain ⟨SP, hSP⟩ : ∃ x : Int, (sp : Int) = x := ⟨_, rfl⟩
  rw [hNX, hLS, hSP] at HRA HSR HSA HTY HPY HK ha ⊢
  clear hNX hLS hSP
  go_enter Tryd.func3, Tryd.ntmps3
  go_wp2_with (go_at_call 8; refine ha.mono ?_; rintro _ w1 ⟨rfl, hb⟩; refine Hid.out ?_)
  refine Lib.hid ?_
  have K1 := Lib.hid (HK.out.1.below hb HK.out.1.lt)
  have B1 := Lib.hid (HK.out.2.trans (hb.mono (by simp)))
  have c5 : w1.cell? ⟨w.heap.size, 5, none⟩ = some (.string ad) := (K1.out.cell 5).trans rfl
  clear hb ha HK
  by_cases hl1 : ad.size ≤ 300
  · have hd1 : decide (300 < (ad.size : Int)) = false := decide_eq_false (by omega)
    go_upto_region 4 with (first
      | ((with_reducible (show wpList _ _ _ ({ dst := _, op := Op.load 25 (Operand.tmp 1), type := _, pos := _, after := _, guard := _ } :: _) _ _)); refine wpList_load_g rfl 25 (.tmp 1) rfl w.heap.size 0 rfl _ _ (Blk.rangeAt K1.out) Tryd.underlying25 rfl (by kernel_rfl) ?_))
    have K2 := K1.out.alloc (.cells #[.int .u64 NX, .int .u64 LS, .bool an, .int .i64 ac, .int .i64 rf, .string ad, .int .i64 mv, .int .i64 sm, .int .u16 SP, .bool cl] 27)
    have L2 := Blk.new w1 27 #[.int .u64 NX, .int .u64 LS, .bool an, .int .i64 ac, .int .i64 rf, .string ad, .int .i64 mv, .int .i64 sm, .int .u16 SP, .bool cl]
    have b2 := B1.out.alloc B1.out.size (.cells #[.int .u64 NX, .int .u64 LS, .bool an, .int .i64 ac, .int .i64 rf, .string ad, .int .i64 mv, .int .i64 sm, .int .u16 SP, .bool cl] 27)
    obtain ⟨w2, hw2⟩ : ∃ W, w1.alloc (.cells #[.int .u64 NX, .int .u64 LS, .bool an, .int .i64 ac, .int .i64 rf, .string ad, .int .i64 mv, .int .i64 sm, .int .u16 SP, .bool cl] 27) = W := ⟨_, rfl⟩
    rw [hw2] at K2 L2 b2 ⊢
    clear hw2 K1 c5
    generalize w1.heap.size = q at *
    have K2H := Lib.hid K2
    have L2H := Lib.hid L2
    have B2 := Lib.hid b2
    have h9 := HSA.out w2 (HT.out.below b2)
    clear K2 L2 b2 B1
    go_wp2_with (first
      | ((with_reducible (show wpList _ _ _ ({ dst := _, op := Op.load 27 (Operand.tmp 3), type := _, pos := _, after := _, guard := _ } :: _) _ _)); refine wpList_load_g rfl 27 (.tmp 3) rfl q 0 rfl _ _ (Blk.rangeAt L2H.out) Tryd.underlying27 rfl (by kernel_rfl) ?_)
      | (go_at_call 9; refine h9.mono ?_; rintro _ w3 ⟨rfl, hb⟩; refine Hid.out ?_))
    refine Lib.hid ?_
    have K3 := K2H.out.below hb K2H.out.lt
    have L3 := L2H.out.below hb L2H.out.lt
    have B3 := Lib.hid (through B2.out hb)
    have hlt1 := K3.lt
    have hlt2 := L3.lt
    clear hb h9 K2H L2H B2
    go_upto_region 5 with (fail)
    have hR := later_below
    obtain ⟨g, hg⟩ : ∃ g, w.heap.size = g := ⟨_, rfl⟩
    rw [hg] at K3 hlt1 ⊢
    have hRA := HRA.out
    have hSR := HSR.out
    refine wp_region_later (X := []) hR (by kernel_rfl) ?_
    refine WK.take hR (i := 0) (v := Value.agg #[Value.int IntKind.u64 NX, Value.int IntKind.u64 LS, Value.bool an, Value.int IntKind.i64 ac, Value.int IntKind.i64 rf, Value.string ad, Value.int IntKind.i64 mv, Value.int IntKind.i64 sm, Value.int IntKind.u16 SP, Value.bool cl]) rfl (by kernel_rfl) (by kernel_rfl) (by kernel_rfl) (by kernel_rfl) (fun _ _ _ h => h) (YK.run (by kernel_rfl) (fun wz hz => by obtain ⟨a0, a1, a2, a3, a4, a5, a6, a7, a8, a9⟩ := ten_facts (L3.below hz hlt2); go_simp)) ?_
    refine WK.frame (a' := { tmps := #[Value.agg #[Value.int IntKind.u64 NX, Value.int IntKind.u64 LS, Value.bool an, Value.int IntKind.i64 ac, Value.int IntKind.i64 rf, Value.string ad, Value.int IntKind.i64 mv, Value.int IntKind.i64 sm, Value.int IntKind.u16 SP, Value.bool cl], Value.pointer (some { block := g, off := 0 }), Value.bool false, Value.pointer (some { block := q, off := 0 }), Value.string ta, Value.bool ra, undef, undef, Value.bool true, Value.bool false, Value.bool false, Value.pointer (some { block := g, off := 5 }), Value.string ad, Value.int IntKind.i64 ad.size, Value.bool false, Value.bool false, undef, Value.agg #[Value.int IntKind.u64 NX, Value.int IntKind.u64 LS, Value.bool an, Value.int IntKind.i64 ac, Value.int IntKind.i64 rf, Value.string ad, Value.int IntKind.i64 mv, Value.int IntKind.i64 sm, Value.int IntKind.u16 SP, Value.bool cl], Value.tuple #[Value.string ta, Value.bool ra], Value.agg #[Value.int IntKind.u64 NX, Value.int IntKind.u64 LS, Value.bool an, Value.int IntKind.i64 ac, Value.int IntKind.i64 rf, Value.string ad, Value.int IntKind.i64 mv, Value.int IntKind.i64 sm, Value.int IntKind.u16 SP, Value.bool cl], Value.tuple #[Value.string ta, Value.bool ra], Value.string ta, Value.bool ra, Value.agg #[Value.int IntKind.u64 NX, Value.int IntKind.u64 LS, Value.bool an, Value.int IntKind.i64 ac, Value.int IntKind.i64 rf, Value.string ad, Value.int IntKind.i64 mv, Value.int IntKind.i64 sm, Value.int IntKind.u16 SP, Value.bool cl], undef, undef, undef, undef, undef, undef, undef, undef, undef, undef, undef, undef, undef, undef, undef, undef, undef, undef, undef, undef, undef, undef, undef, undef, undef, undef, undef, undef, undef, undef, undef, undef, undef], defers := [] }) (by kernel_rfl) ?_
    refine WK.take hR (i := 1) (v := Value.bool ra) rfl (by kernel_rfl) (by kernel_rfl) (by kernel_rfl) (by kernel_rfl) (fun _ _ _ h => h) (YK.call hR (by kernel_rfl) (fun wz => by go_simp; first | done | rfl) (fun wz hz => hSR wz)) ?_
    refine WK.frame (a' := { tmps := #[Value.agg #[Value.int IntKind.u64 NX, Value.int IntKind.u64 LS, Value.bool an, Value.int IntKind.i64 ac, Value.int IntKind.i64 rf, Value.string ad, Value.int IntKind.i64 mv, Value.int IntKind.i64 sm, Value.int IntKind.u16 SP, Value.bool cl], Value.pointer (some { block := g, off := 0 }), Value.bool false, Value.pointer (some { block := q, off := 0 }), Value.string ta, Value.bool ra, undef, undef, Value.bool true, Value.bool false, Value.bool false, Value.pointer (some { block := g, off := 5 }), Value.string ad, Value.int IntKind.i64 ad.size, Value.bool false, Value.bool false, undef, Value.agg #[Value.int IntKind.u64 NX, Value.int IntKind.u64 LS, Value.bool an, Value.int IntKind.i64 ac, Value.int IntKind.i64 rf, Value.string ad, Value.int IntKind.i64 mv, Value.int IntKind.i64 sm, Value.int IntKind.u16 SP, Value.bool cl], Value.tuple #[Value.string ta, Value.bool ra], Value.agg #[Value.int IntKind.u64 NX, Value.int IntKind.u64 LS, Value.bool an, Value.int IntKind.i64 ac, Value.int IntKind.i64 rf, Value.string ad, Value.int IntKind.i64 mv, Value.int IntKind.i64 sm, Value.int IntKind.u16 SP, Value.bool cl], Value.tuple #[Value.string ta, Value.bool ra], Value.string ta, Value.bool ra, Value.agg #[Value.int IntKind.u64 NX, Value.int IntKind.u64 LS, Value.bool an, Value.int IntKind.i64 ac, Value.int IntKind.i64 rf, Value.string ad, Value.int IntKind.i64 mv, Value.int IntKind.i64 sm, Value.int IntKind.u16 SP, Value.bool cl], Value.bool ra, undef, undef, undef, undef, undef, undef, undef, undef, undef, undef, undef, undef, undef, undef, undef, undef, undef, undef, undef, undef, undef, undef, undef, undef, undef, undef, undef, undef, undef, undef, undef, undef], defers := [] }) (by kernel_rfl) ?_
    refine WK.take hR (i := 2) (v := Value.agg #[Value.int IntKind.u64 NX, Value.int IntKind.u64 LS, Value.bool an, Value.int IntKind.i64 ac, Value.int IntKind.i64 rf, Value.string ad, Value.int IntKind.i64 mv, Value.int IntKind.i64 sm, Value.int IntKind.u16 SP, Value.bool cl]) rfl (by kernel_rfl) (by kernel_rfl) (by kernel_rfl) (by kernel_rfl) (fun _ _ _ h => h) (YK.run (by kernel_rfl) (fun wz hz => by obtain ⟨a0, a1, a2, a3, a4, a5, a6, a7, a8, a9⟩ := ten_facts (K3.below hz hlt1); go_simp)) ?_
    refine WK.frame (a' := { tmps := #[Value.agg #[Value.int IntKind.u64 NX, Value.int IntKind.u64 LS, Value.bool an, Value.int IntKind.i64 ac, Value.int IntKind.i64 rf, Value.string ad, Value.int IntKind.i64 mv, Value.int IntKind.i64 sm, Value.int IntKind.u16 SP, Value.bool cl], Value.pointer (some { block := g, off := 0 }), Value.bool false, Value.pointer (some { block := q, off := 0 }), Value.string ta, Value.bool ra, undef, undef, Value.bool true, Value.bool false, Value.bool false, Value.pointer (some { block := g, off := 5 }), Value.string ad, Value.int IntKind.i64 ad.size, Value.bool false, Value.bool false, undef, Value.agg #[Value.int IntKind.u64 NX, Value.int IntKind.u64 LS, Value.bool an, Value.int IntKind.i64 ac, Value.int IntKind.i64 rf, Value.string ad, Value.int IntKind.i64 mv, Value.int IntKind.i64 sm, Value.int IntKind.u16 SP, Value.bool cl], Value.tuple #[Value.string ta, Value.bool ra], Value.agg #[Value.int IntKind.u64 NX, Value.int IntKind.u64 LS, Value.bool an, Value.int IntKind.i64 ac, Value.int IntKind.i64 rf, Value.string ad, Value.int IntKind.i64 mv, Value.int IntKind.i64 sm, Value.int IntKind.u16 SP, Value.bool cl], Value.tuple #[Value.string ta, Value.bool ra], Value.string ta, Value.bool ra, Value.agg #[Value.int IntKind.u64 NX, Value.int IntKind.u64 LS, Value.bool an, Value.int IntKind.i64 ac, Value.int IntKind.i64 rf, Value.string ad, Value.int IntKind.i64 mv, Value.int IntKind.i64 sm, Value.int IntKind.u16 SP, Value.bool cl], Value.bool ra, Value.agg #[Value.int IntKind.u64 NX, Value.int IntKind.u64 LS, Value.bool an, Value.int IntKind.i64 ac, Value.int IntKind.i64 rf, Value.string ad, Value.int IntKind.i64 mv, Value.int IntKind.i64 sm, Value.int IntKind.u16 SP, Value.bool cl], undef, undef, undef, undef, undef, undef, undef, undef, undef, undef, undef, undef, undef, undef, undef, undef, undef, undef, undef, undef, undef, undef, undef, undef, undef, undef, undef, undef, undef, undef, undef], defers := [] }) (by kernel_rfl) ?_
    refine WK.take hR (i := 3) (v := Value.bool ra) rfl (by kernel_rfl) (by kernel_rfl) (by kernel_rfl) (by kernel_rfl) (fun _ _ _ h => h) (YK.call hR (by kernel_rfl) (fun wz => by go_simp; first | done | rfl) (fun wz hz => hRA wz)) ?_
    refine WK.frame (a' := { tmps := #[Value.agg #[Value.int IntKind.u64 NX, Value.int IntKind.u64 LS, Value.bool an, Value.int IntKind.i64 ac, Value.int IntKind.i64 rf, Value.string ad, Value.int IntKind.i64 mv, Value.int IntKind.i64 sm, Value.int IntKind.u16 SP, Value.bool cl], Value.pointer (some { block := g, off := 0 }), Value.bool false, Value.pointer (some { block := q, off := 0 }), Value.string ta, Value.bool ra, undef, undef, Value.bool true, Value.bool false, Value.bool false, Value.pointer (some { block := g, off := 5 }), Value.string ad, Value.int IntKind.i64 ad.size, Value.bool false, Value.bool false, undef, Value.agg #[Value.int IntKind.u64 NX, Value.int IntKind.u64 LS, Value.bool an, Value.int IntKind.i64 ac, Value.int IntKind.i64 rf, Value.string ad, Value.int IntKind.i64 mv, Value.int IntKind.i64 sm, Value.int IntKind.u16 SP, Value.bool cl], Value.tuple #[Value.string ta, Value.bool ra], Value.agg #[Value.int IntKind.u64 NX, Value.int IntKind.u64 LS, Value.bool an, Value.int IntKind.i64 ac, Value.int IntKind.i64 rf, Value.string ad, Value.int IntKind.i64 mv, Value.int IntKind.i64 sm, Value.int IntKind.u16 SP, Value.bool cl], Value.tuple #[Value.string ta, Value.bool ra], Value.string ta, Value.bool ra, Value.agg #[Value.int IntKind.u64 NX, Value.int IntKind.u64 LS, Value.bool an, Value.int IntKind.i64 ac, Value.int IntKind.i64 rf, Value.string ad, Value.int IntKind.i64 mv, Value.int IntKind.i64 sm, Value.int IntKind.u16 SP, Value.bool cl], Value.bool ra, Value.agg #[Value.int IntKind.u64 NX, Value.int IntKind.u64 LS, Value.bool an, Value.int IntKind.i64 ac, Value.int IntKind.i64 rf, Value.string ad, Value.int IntKind.i64 mv, Value.int IntKind.i64 sm, Value.int IntKind.u16 SP, Value.bool cl], Value.bool ra, undef, undef, undef, undef, undef, undef, undef, undef, undef, undef, undef, undef, undef, undef, undef, undef, undef, undef, undef, undef, undef, undef, undef, undef, undef, undef, undef, undef, undef, undef], defers := [] }) (by kernel_rfl) ?_
    refine WK.pure hR (i := 4) (v := Value.bool false) rfl (by kernel_rfl) (by kernel_rfl) (by kernel_rfl) (fun _ _ _ h => h) (by kernel_rfl) (fun wz => by cases ra <;> (go_simp; first | done | rfl)) ?_
    refine WK.frame (a' := { tmps := #[Value.agg #[Value.int IntKind.u64 NX, Value.int IntKind.u64 LS, Value.bool an, Value.int IntKind.i64 ac, Value.int IntKind.i64 rf, Value.string ad, Value.int IntKind.i64 mv, Value.int IntKind.i64 sm, Value.int IntKind.u16 SP, Value.bool cl], Value.pointer (some { block := g, off := 0 }), Value.bool false, Value.pointer (some { block := q, off := 0 }), Value.string ta, Value.bool ra, undef, undef, Value.bool true, Value.bool false, Value.bool false, Value.pointer (some { block := g, off := 5 }), Value.string ad, Value.int IntKind.i64 ad.size, Value.bool false, Value.bool false, undef, Value.agg #[Value.int IntKind.u64 NX, Value.int IntKind.u64 LS, Value.bool an, Value.int IntKind.i64 ac, Value.int IntKind.i64 rf, Value.string ad, Value.int IntKind.i64 mv, Value.int IntKind.i64 sm, Value.int IntKind.u16 SP, Value.bool cl], Value.tuple #[Value.string ta, Value.bool ra], Value.agg #[Value.int IntKind.u64 NX, Value.int IntKind.u64 LS, Value.bool an, Value.int IntKind.i64 ac, Value.int IntKind.i64 rf, Value.string ad, Value.int IntKind.i64 mv, Value.int IntKind.i64 sm, Value.int IntKind.u16 SP, Value.bool cl], Value.tuple #[Value.string ta, Value.bool ra], Value.string ta, Value.bool ra, Value.agg #[Value.int IntKind.u64 NX, Value.int IntKind.u64 LS, Value.bool an, Value.int IntKind.i64 ac, Value.int IntKind.i64 rf, Value.string ad, Value.int IntKind.i64 mv, Value.int IntKind.i64 sm, Value.int IntKind.u16 SP, Value.bool cl], Value.bool ra, Value.agg #[Value.int IntKind.u64 NX, Value.int IntKind.u64 LS, Value.bool an, Value.int IntKind.i64 ac, Value.int IntKind.i64 rf, Value.string ad, Value.int IntKind.i64 mv, Value.int IntKind.i64 sm, Value.int IntKind.u16 SP, Value.bool cl], Value.bool ra, Value.bool false, undef, undef, undef, undef, undef, undef, undef, undef, undef, undef, undef, undef, undef, undef, undef, undef, undef, undef, undef, undef, undef, undef, undef, undef, undef, undef, undef, undef, undef], defers := [] }) (by kernel_rfl) ?_
    refine WK.done (by kernel_rfl) (fun w4 hz => ?_)
    have K4 := Lib.hid (K3.below hz K3.lt)
    have L4 := Lib.hid (L3.below hz L3.lt)
    have B4 := Lib.hid (through B3.out hz)
    clear hz K3 L3 B3 hRA hSR hR hlt1 hlt2 HSR HSA
    have h11 := HRA.out w4
    go_wp2_with (first
      | ((with_reducible (show wpList _ _ _ ({ dst := _, op := Op.load 25 (Operand.tmp 1), type := _, pos := _, after := _, guard := _ } :: _) _ _)); refine wpList_load_g rfl 25 (.tmp 1) rfl g 0 rfl _ _ (Blk.rangeAt K4.out) Tryd.underlying25 rfl (by kernel_rfl) ?_)
      | (go_at_call 11; refine h11.mono ?_; rintro _ w5 ⟨rfl, hb⟩; refine Hid.out ?_))
    refine Lib.hid ?_
    have K5 := Lib.hid (K4.out.below hb K4.out.lt)
    have L5 := Lib.hid (L4.out.below hb L4.out.lt)
    have B5 := Lib.hid (through B4.out hb)
    clear hb h11 K4 L4 B4 HRA
    cases ra
    · obtain rfl := HEM.out rfl
      clear HTY HPY HEM
      go_wp2_with fail
      all_goals go_ret
      exact ⟨rfl, B5.out⟩
    have hp := HPY.out rfl w5 (HT.out.below B5.out)
    have htx := HTY.out rfl
    have HTZ := Lib.hid htx
    clear HTY HPY HEM htx
    go_wp2_with (go_at_call 12; refine hp.mono ?_; rintro _ w6 ⟨rfl, hb⟩; refine Hid.out ?_)
    refine Lib.hid ?_
    have K6 := Lib.hid ((K5.out.below hb K5.out.lt).alloc (.cells #[.int .u64 NX, .int .u64 LS, .bool an, .int .i64 ac, .int .i64 rf, .string ad, .int .i64 mv, .int .i64 sm, .int .u16 SP, .bool cl] 27))
    have L6 := Lib.hid ((L5.out.below hb L5.out.lt).alloc (.cells #[.int .u64 NX, .int .u64 LS, .bool an, .int .i64 ac, .int .i64 rf, .string ad, .int .i64 mv, .int .i64 sm, .int .u16 SP, .bool cl] 27))
    have M6 := Lib.hid (Blk.new w6 27 #[.int .u64 NX, .int .u64 LS, .bool an, .int .i64 ac, .int .i64 rf, .string ad, .int .i64 mv, .int .i64 sm, .int .u16 SP, .bool cl])
    have B6 := Lib.hid ((through B5.out hb).alloc (through B5.out hb).size (.cells #[.int .u64 NX, .int .u64 LS, .bool an, .int .i64 ac, .int .i64 rf, .string ad, .int .i64 mv, .int .i64 sm, .int .u16 SP, .bool cl] 27))
    clear hb hp K5 L5 B5
    go_upto_region 10 with (fail)
    obtain ⟨w7, hw7⟩ : ∃ W, w6.alloc (.cells #[.int .u64 NX, .int .u64 LS, .bool an, .int .i64 ac, .int .i64 rf, .string ad, .int .i64 mv, .int .i64 sm, .int .u16 SP, .bool cl] 27) = W := ⟨_, rfl⟩
    rw [hw7] at K6 L6 M6 B6 ⊢
    clear hw7
    generalize w6.heap.size = r at *
    have h13 := HTZ.out w7
    clear HTZ
    go_wp2_with (first
      | ((with_reducible (show wpList _ _ _ ({ dst := _, op := Op.load 25 (Operand.tmp 1), type := _, pos := _, after := _, guard := _ } :: _) _ _)); refine wpList_load_g rfl 25 (.tmp 1) rfl g 0 rfl _ _ (Blk.rangeAt K6.out) Tryd.underlying25 rfl (by kernel_rfl) ?_)
      | (go_at_call 13; refine h13.mono ?_; rintro _ w8 ⟨rfl, hb⟩; refine Hid.out ?_))
    refine Lib.hid ?_
    have L8 := Lib.hid (L6.out.below hb L6.out.lt)
    have M8 := Lib.hid (M6.out.below hb M6.out.lt)
    have B8 := Lib.hid (through B6.out hb)
    clear hb h13 K6 L6 M6 B6
    go_wp2_with (first
      | ((with_reducible (show wpList _ _ _ ({ dst := _, op := Op.load 27 (Operand.tmp 3), type := _, pos := _, after := _, guard := _ } :: _) _ _)); refine wpList_load_g rfl 27 (.tmp 3) rfl q 0 rfl _ _ (Blk.rangeAt L8.out) Tryd.underlying27 rfl (by kernel_rfl) ?_)
      | ((with_reducible (show wpList _ _ _ ({ dst := _, op := Op.load 27 (Operand.tmp 6), type := _, pos := _, after := _, guard := _ } :: _) _ _)); refine wpList_load_g rfl 27 (.tmp 6) rfl r 0 rfl _ _ (Blk.rangeAt M8.out) Tryd.underlying27 rfl (by kernel_rfl) ?_))
    all_goals go_ret
    exact ⟨rfl, B8.out⟩
  · have hd1 : decide (300 < (ad.size : Int)) = true := decide_eq_true (by omega)
    have h8 := HW.out w1 (HT.out.below B1.out)
    go_wp2_with (go_at_call 8; refine h8.mono ?_; rintro _ w2 ⟨rfl, hb⟩; refine Hid.out ?_)
    refine Lib.hid ?_
    clear h8
    go_wp2_with fail
    all_goals go_ret
    exact ⟨rfl, through B1.out hb⟩
end Go.Proofs.YtbifakhalnkfbaaDoor
