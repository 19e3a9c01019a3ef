import Derived.Test.YtbifakhalnkfbaaDoorAwk
namespace Go.Proofs.YtbifakhalnkfbaaDoor
open Go.ChangeShapes Go.WideShapes Go.ChangeAt Go.RowKit Go.Sort Go.Deep
set_option linter.unusedVariables false
set_option linter.unusedSimpArgs false
def ApP (ra rb x : Bool) (p : Prop) : Prop := ra = true → rb = true → (x = true ↔ p)
theorem ApP.use {x : Bool} {p : Prop} (h : ApP true true x p) : x = true ↔ p := h rfl rfl
set_option maxRecDepth 100000 in
set_option maxHeartbeats 2000000 in
/-- ShowApart. -/
theorem apart_law (a b : St) (w : World) (hT : Tab w) (hA : StOk a) (hB : StOk b) : Calls Tryd.prog 7 #[a.v, b.v] w fun e w' => e = .returned (.bool true) ∧ Below w.heap.size w w' := by
  have k1 := (Blk.new w 25 a.arr).alloc (.cells b.arr 25)
  have k2 := Blk.new (w.alloc (.cells a.arr 25)) 25 b.arr
  have b1 : Below w.heap.size w ((w.alloc (.cells a.arr 25)).alloc (.cells b.arr 25)) := ((Below.refl _ w).alloc (Nat.le_refl _) _).alloc (by simp) _
  rw [show (w.alloc (.cells a.arr 25)).heap.size = w.heap.size + 1 by simp] at k2
  have ha := awake_any _ (hT.below b1)
  have hma : a.ad.size ≤ 9223372036854775807 := by have := hA.d1; unfold maxLen at this; omega
  have hmb : b.ad.size ≤ 9223372036854775807 := by have := hB.d1; unfold maxLen at this; omega
  have HT := Lib.hid hT
  have HW := Lib.hid (fun W (h : Tab W) => awake_any W h)
  have HK := Lib.hid (And.intro k1 (And.intro k2 b1))
  have HRA := Lib.hid (fun W => rsright_any a W hA)
  have HRB := Lib.hid (fun W => rsright_any b W hB)
  have HSA := Lib.hid (fun W (h : Tab W) => status_any a W hA h.pow)
  have HSB := Lib.hid (fun W (h : Tab W) => status_any b W hB h.pow)
  have HE := Lib.hid (show rgtS a = true → rgtS b = true → (textS a = textS b ↔ a = b) from fun h1 h2 => ⟨text_inj hA hB h1 h2, fun e => by rw [e]⟩)
  obtain ⟨ra, hra⟩ : ∃ x, rgtS a = x := ⟨_, rfl⟩
  obtain ⟨rb, hrb⟩ : ∃ x, rgtS b = x := ⟨_, rfl⟩
  obtain ⟨ta, hta⟩ : ∃ x, textS a = x := ⟨_, rfl⟩
  obtain ⟨tb, htb⟩ : ∃ x, textS b = x := ⟨_, rfl⟩
  rw [hra] at HRA HSA HE
  rw [hrb] at HRB HSB HE
  rw [hta] at HSA HE
  rw [htb] at HSB HE
  clear k1 k2 b1 hT hA hB hra hrb hta htb
  obtain ⟨nx, ls, an, ac, rf, ad, mv, sm, sp, cl⟩ := a
  obtain ⟨nx2, ls2, an2, ac2, rf2, ad2, mv2, sm2, sp2, cl2⟩ := b
  have HQ := Lib.hid (show ApP ra rb (ta.toList == tb.toList) ((nx : Int) = nx2 ∧ (ls : Int) = ls2 ∧ an = an2 ∧ ac = ac2 ∧ rf = rf2 ∧ ad.toList = ad2.toList ∧ mv = mv2 ∧ sm = sm2 ∧ (sp : Int) = sp2 ∧ cl = cl2) from fun h1 h2 => by
    have he := HE.out h1 h2
    rw [beq_iff_eq]
    refine ⟨fun h => ?_, fun h => ?_⟩
    · have := he.1 (toList_inj h)
      injection this with g0 g1 g2 g3 g4 g5 g6 g7 g8 g9
      exact ⟨by rw [g0], by rw [g1], g2, g3, g4, by rw [g5], g6, g7, by rw [g8], g9⟩
    · obtain ⟨g0, g1, g2, g3, g4, g5, g6, g7, g8, g9⟩ := h
      rw [he.2 (by rw [Int.ofNat_inj.1 g0, Int.ofNat_inj.1 g1, g2, g3, g4, toList_inj g5, g6, g7, Int.ofNat_inj.1 g8, g9])])
  clear HE
  unfold St.v at HRA HRB HSA HSB ⊢
  unfold St.arr at HK ha
  simp only at HRA HRB HSA HSB HK ha hma hmb ⊢
  go_enter Tryd.func7, Tryd.ntmps7
  go_wp2_with (go_at_call 8; refine ha.mono ?_; rintro _ w1 ⟨rfl, hb⟩; refine Hid.out ?_)
  refine Lib.hid ?_
  have K1 := Lib.hid (HK.out.1.below hb HK.out.1.lt)
  have K2 := Lib.hid (HK.out.2.1.below hb HK.out.2.1.lt)
  have B1 := Lib.hid (HK.out.2.2.trans (hb.mono (by simp; omega)))
  have c5 : w1.cell? ⟨w.heap.size, 5, none⟩ = some (.string ad) := (K1.out.cell 5).trans rfl
  have d5 : w1.cell? ⟨w.heap.size + 1, 5, none⟩ = some (.string ad2) := (K2.out.cell 5).trans rfl
  clear hb ha HK
  by_cases hl1 : ad.size ≤ 300
  · have hd1 : decide (300 < (ad.size : Int)) = false := decide_eq_false (by omega)
    by_cases hl2 : ad2.size ≤ 300
    · have hd2 : decide (300 < (ad2.size : Int)) = false := decide_eq_false (by omega)
      have h11 := HRA.out w1
      go_wp2_with (first
        | ((with_reducible (show wpList _ _ _ ({ dst := _, op := Op.load 25 (Operand.tmp 2), type := _, pos := _, after := _, guard := _ } :: _) _ _)); refine wpList_load_g rfl 25 (.tmp 2) rfl w.heap.size 0 rfl _ _ (Blk.rangeAt K1.out) Tryd.underlying25 rfl (by kernel_rfl) ?_)
        | (go_at_call 11; refine h11.mono ?_; rintro _ w2 ⟨rfl, hb⟩; refine Hid.out ?_))
      refine Lib.hid ?_
      have K1b := Lib.hid (K1.out.below hb K1.out.lt)
      have K2b := Lib.hid (K2.out.below hb K2.out.lt)
      have B2 := Lib.hid (through B1.out hb)
      clear hb h11 K1 K2 c5 d5
      cases ra
      · have h8 := HW.out w2 (HT.out.below B2.out)
        go_wp2_with (go_at_call 8; refine h8.mono ?_; rintro _ w3 ⟨rfl, hb⟩; refine Hid.out ?_)
        refine Lib.hid ?_
        clear h8
        go_wp2_with fail
        all_goals go_ret
        exact ⟨rfl, through B2.out hb⟩
      have h11 := HRB.out w2
      go_wp2_with (first
        | ((with_reducible (show wpList _ _ _ ({ dst := _, op := Op.load 25 (Operand.tmp 3), type := _, pos := _, after := _, guard := _ } :: _) _ _)); refine wpList_load_g rfl 25 (.tmp 3) rfl (w.heap.size + 1) 0 rfl _ _ (Blk.rangeAt K2b.out) Tryd.underlying25 rfl (by kernel_rfl) ?_)
        | (go_at_call 11; refine h11.mono ?_; rintro _ w3 ⟨rfl, hb⟩; refine Hid.out ?_))
      refine Lib.hid ?_
      have K1c := Lib.hid (K1b.out.below hb K1b.out.lt)
      have K2c := Lib.hid (K2b.out.below hb K2b.out.lt)
      have B3 := Lib.hid (through B2.out hb)
      clear hb h11 K1b K2b
      cases rb
      · have h8 := HW.out w3 (HT.out.below B3.out)
        go_wp2_with (go_at_call 8; refine h8.mono ?_; rintro _ w4 ⟨rfl, hb⟩; refine Hid.out ?_)
        refine Lib.hid ?_
        clear h8
        go_wp2_with fail
        all_goals go_ret
        exact ⟨rfl, through B3.out hb⟩
      have h9 := HSA.out w3 (HT.out.below B3.out)
      go_wp2_with (first
        | ((with_reducible (show wpList _ _ _ ({ dst := _, op := Op.load 25 (Operand.tmp 2), type := _, pos := _, after := _, guard := _ } :: _) _ _)); refine wpList_load_g rfl 25 (.tmp 2) rfl w.heap.size 0 rfl _ _ (Blk.rangeAt K1c.out) Tryd.underlying25 rfl (by kernel_rfl) ?_)
        | (go_at_call 9; refine h9.mono ?_; rintro _ w4 ⟨rfl, hb⟩; refine Hid.out ?_))
      refine Lib.hid ?_
      have K1d := Lib.hid (K1c.out.below hb K1c.out.lt)
      have K2d := Lib.hid (K2c.out.below hb K2c.out.lt)
      have B4 := Lib.hid (through B3.out hb)
      clear hb h9 K1c K2c
      have h9 := HSB.out w4 (HT.out.below B4.out)
      go_wp2_with (first
        | ((with_reducible (show wpList _ _ _ ({ dst := _, op := Op.load 25 (Operand.tmp 3), type := _, pos := _, after := _, guard := _ } :: _) _ _)); refine wpList_load_g rfl 25 (.tmp 3) rfl (w.heap.size + 1) 0 rfl _ _ (Blk.rangeAt K2d.out) Tryd.underlying25 rfl (by kernel_rfl) ?_)
        | (go_at_call 9; refine h9.mono ?_; rintro _ w5 ⟨rfl, hb⟩; refine Hid.out ?_))
      refine Lib.hid ?_
      have K1e := Lib.hid (K1d.out.below hb K1d.out.lt)
      have K2e := Lib.hid (K2d.out.below hb K2d.out.lt)
      have B5 := Lib.hid (through B4.out hb)
      clear hb h9 K1d K2d
      go_upto_region 5 with (fail)
      go_wp2_with (first
        | ((with_reducible (show wpList _ _ _ ({ dst := _, op := Op.load 25 (Operand.tmp 2), type := _, pos := _, after := _, guard := _ } :: _) _ _)); refine wpList_load_g rfl 25 (.tmp 2) rfl w.heap.size 0 rfl _ _ (Blk.rangeAt K1e.out) Tryd.underlying25 rfl (by kernel_rfl) ?_)
        | ((with_reducible (show wpList _ _ _ ({ dst := _, op := Op.load 25 (Operand.tmp 3), type := _, pos := _, after := _, guard := _ } :: _) _ _)); refine wpList_load_g rfl 25 (.tmp 3) rfl (w.heap.size + 1) 0 rfl _ _ (Blk.rangeAt K2e.out) Tryd.underlying25 rfl (by kernel_rfl) ?_))
      all_goals go_ret
      all_goals refine ⟨ret_bool ?_, B5.out⟩
      all_goals first
        | exact HQ.out.use.2 ⟨by assumption, by assumption, by assumption, by assumption, by assumption, by assumption, by assumption, by assumption, by assumption, by assumption⟩
        | (have h2 := mt HQ.out.use.1 (fun h => by obtain ⟨g0, g1, g2, g3, g4, g5, g6, g7, g8, g9⟩ := h; contradiction)
           rw [Bool.not_eq_true] at h2
           exact (congrArg (fun x => !x) h2))
    · have hd2 : decide (300 < (ad2.size : Int)) = true := decide_eq_true (by omega)
      have h8 := HW.out w1 (HT.out.below B1.out)
      go_wp2_with (go_at_call 8; refine h8.mono ?_; rintro _ w2 ⟨rfl, hb⟩; refine Hid.out ?_)
      refine Lib.hid ?_
      clear h8
      go_wp2_with fail
      all_goals go_ret
      exact ⟨rfl, through B1.out hb⟩
  · have hd1 : decide (300 < (ad.size : Int)) = true := decide_eq_true (by omega)
    have h8 := HW.out w1 (HT.out.below B1.out)
    go_wp2_with (go_at_call 8; refine h8.mono ?_; rintro _ w2 ⟨rfl, hb⟩; refine Hid.out ?_)
    refine Lib.hid ?_
    clear h8
    go_wp2_with fail
    all_goals go_ret
    exact ⟨rfl, through B1.out hb⟩
end Go.Proofs.YtbifakhalnkfbaaDoor
