import Derived.Test.YtbkgmeopdcealaaDoorLwf
namespace Go.Proofs.YtbkgmeopdcealaaDoor
open Go.ChangeShapes Go.WideShapes Go.ChangeAt Go.RowKit Go.Sort Go.Deep
set_option linter.unusedVariables false
set_option linter.unusedSimpArgs false
set_option maxRecDepth 100000 in
set_option maxHeartbeats 2000000 in
/-- ScriptMatchesReference. -/
theorem matches_any (X : Op) (w : World) (hT : Tab w) (hO : OpOk w X) :
    Calls Tryd.prog 5 #[X.v] w fun e w' => e = .returned (.bool true) ∧ Below w.heap.size w w' := by
  have b0 := below_new w (.cells X.arr 24)
  have B0 := Lib.hid (And.intro b0 (And.intro (Blk.new w 24 X.arr) (hO.below b0)))
  have haw := awake_any (w.alloc (.cells X.arr 24)) (hT.below b0)
  have HAW := Lib.hid (fun W (hW : Tab W) => awake_any W hW)
  have HT := Lib.hid hT
  clear hT hO b0
  obtain ⟨o, ho⟩ : ∃ o : Op, o = X := ⟨X, rfl⟩
  obtain ⟨kd, wh, nn, mm, A, n, c, bs, ad⟩ := o
  have HXv := Lib.hid (show X.v = .agg #[.int .i64 kd, .int .i64 wh, .int .i64 nn, .int .i64 mm, .slice A n c, .string ad] by rw [← ho]; rfl)
  have harr : X.arr = #[.int .i64 kd, .int .i64 wh, .int .i64 nn, .int .i64 mm, .slice A n c, .string ad] := by rw [← ho]; rfl
  rw [harr] at haw B0
  rw [HXv.out]
  clear ho harr
  go_enter Tryd.func5, Tryd.ntmps5
  go_wp2_with (go_at_call 9; refine haw.mono ?_; rintro _ w1 ⟨rfl, hb⟩; refine Hid.out ?_)
  refine Lib.hid ?_
  have B1 := Lib.hid (And.intro (thru B0.out.1 hb) (And.intro (B0.out.2.1.below hb B0.out.2.1.lt) (B0.out.2.2.below hb)))
  clear hb haw B0
  have d0 : w1.cell? ⟨w.heap.size, 0, none⟩ = some (.int .i64 kd) := (B1.out.2.1.cell 0).trans rfl
  have d1 : w1.cell? ⟨w.heap.size, 1, none⟩ = some (.int .i64 wh) := (B1.out.2.1.cell 1).trans rfl
  have d2 : w1.cell? ⟨w.heap.size, 2, none⟩ = some (.int .i64 nn) := (B1.out.2.1.cell 2).trans rfl
  have d3 : w1.cell? ⟨w.heap.size, 3, none⟩ = some (.int .i64 mm) := (B1.out.2.1.cell 3).trans rfl
  have d4 : w1.cell? ⟨w.heap.size, 4, none⟩ = some (.slice A n c) := (B1.out.2.1.cell 4).trans rfl
  have d5 : w1.cell? ⟨w.heap.size, 5, none⟩ = some (.string ad) := (B1.out.2.1.cell 5).trans rfl
  have hlt := B1.out.2.1.lt
  have hfw := few_any X w1 B1.out.2.2
  rw [HXv.out] at hfw
  go_wp2_with (go_at_call 10; refine hfw.mono ?_; rintro _ w2 ⟨hfe, hb⟩; refine Hid.out ?_)
  refine Lib.hid ?_
  have B2 := Lib.hid (And.intro (thru B1.out.1 hb) (And.intro (B1.out.2.1.below hb B1.out.2.1.lt) (B1.out.2.2.below hb)))
  clear hb hfw B1 d0 d1 d2 d3 d4 d5 hlt
  cases hfe with
  | no hno =>
    clear hno
    have ha2 := HAW.out w2 (HT.out.below B2.out.1)
    go_wp2_with (go_at_call 9; refine ha2.mono ?_; rintro _ w3 ⟨rfl, hb⟩)
    all_goals go_ret
    exact ⟨rfl, thru B2.out.1 hb⟩
  | yes hfew =>
    have HF := Lib.hid hfew
    have ht := text_any X w2 (HT.out.below B2.out.1) B2.out.2.2 (by have := hfew.1; omega) (by have := hfew.2; omega)
    rw [HXv.out] at ht
    have d0 : w2.cell? ⟨w.heap.size, 0, none⟩ = some (.int .i64 kd) := (B2.out.2.1.cell 0).trans rfl
    have d1 : w2.cell? ⟨w.heap.size, 1, none⟩ = some (.int .i64 wh) := (B2.out.2.1.cell 1).trans rfl
    have d2 : w2.cell? ⟨w.heap.size, 2, none⟩ = some (.int .i64 nn) := (B2.out.2.1.cell 2).trans rfl
    have d3 : w2.cell? ⟨w.heap.size, 3, none⟩ = some (.int .i64 mm) := (B2.out.2.1.cell 3).trans rfl
    have d4 : w2.cell? ⟨w.heap.size, 4, none⟩ = some (.slice A n c) := (B2.out.2.1.cell 4).trans rfl
    have d5 : w2.cell? ⟨w.heap.size, 5, none⟩ = some (.string ad) := (B2.out.2.1.cell 5).trans rfl
    have hlt := B2.out.2.1.lt
    clear hfew
    go_wp2_with (go_at_call 12; refine ht.mono ?_; rintro _ w3 ⟨htx, hb⟩; refine Hid.out ?_)
    refine Lib.hid ?_
    have B3 := Lib.hid (And.intro (thru B2.out.1 hb) (And.intro (B2.out.2.1.below hb B2.out.2.1.lt) (B2.out.2.2.below hb)))
    clear hb ht B2 d0 d1 d2 d3 d4 d5 hlt
    have hr := refright_any X w3 B3.out.2.2
    rw [HXv.out] at hr
    have d0 : w3.cell? ⟨w.heap.size, 0, none⟩ = some (.int .i64 kd) := (B3.out.2.1.cell 0).trans rfl
    have d1 : w3.cell? ⟨w.heap.size, 1, none⟩ = some (.int .i64 wh) := (B3.out.2.1.cell 1).trans rfl
    have d2 : w3.cell? ⟨w.heap.size, 2, none⟩ = some (.int .i64 nn) := (B3.out.2.1.cell 2).trans rfl
    have d3 : w3.cell? ⟨w.heap.size, 3, none⟩ = some (.int .i64 mm) := (B3.out.2.1.cell 3).trans rfl
    have d4 : w3.cell? ⟨w.heap.size, 4, none⟩ = some (.slice A n c) := (B3.out.2.1.cell 4).trans rfl
    have d5 : w3.cell? ⟨w.heap.size, 5, none⟩ = some (.string ad) := (B3.out.2.1.cell 5).trans rfl
    have hlt := B3.out.2.1.lt
    cases htx with
    | no hno =>
      have HN := Lib.hid hno
      have hr2 := hr.mono (R' := fun e w' => e = .returned (.bool false) ∧ Below w3.heap.size w3 w') (fun e w' ⟨h1, h2⟩ => ⟨by
        cases h1 with
        | yes h => exact absurd h hno
        | no h => rfl, h2⟩)
      clear hr hno
      rw [show em = (⟨#[]⟩ : ByteArray) from rfl]
      go_wp2_with (go_at_call 11; refine hr2.mono ?_; rintro _ w4 ⟨rfl, hb⟩; refine Hid.out ?_)
      refine Lib.hid ?_
      have B4 := Lib.hid (And.intro (thru B3.out.1 hb) (And.intro (B3.out.2.1.below hb B3.out.2.1.lt) (B3.out.2.2.below hb)))
      clear hb hr2 B3
      clear d0 d1 d2 d3 d4 d5 hlt
      have d0 : w4.cell? ⟨w.heap.size, 0, none⟩ = some (.int .i64 kd) := (B4.out.2.1.cell 0).trans rfl
      have d1 : w4.cell? ⟨w.heap.size, 1, none⟩ = some (.int .i64 wh) := (B4.out.2.1.cell 1).trans rfl
      have d2 : w4.cell? ⟨w.heap.size, 2, none⟩ = some (.int .i64 nn) := (B4.out.2.1.cell 2).trans rfl
      have d3 : w4.cell? ⟨w.heap.size, 3, none⟩ = some (.int .i64 mm) := (B4.out.2.1.cell 3).trans rfl
      have d4 : w4.cell? ⟨w.heap.size, 4, none⟩ = some (.slice A n c) := (B4.out.2.1.cell 4).trans rfl
      have d5 : w4.cell? ⟨w.heap.size, 5, none⟩ = some (.string ad) := (B4.out.2.1.cell 5).trans rfl
      have hlt := B4.out.2.1.lt
      have hq := right_op X w4 (HT.out.below B4.out.1) B4.out.2.2 (by have := HF.out.1; omega) (by have := HF.out.2; omega)
      have hq2 := hq.mono (R' := fun e w' => e = .returned (.bool false) ∧ Below w4.heap.size w4 w') (fun e w' ⟨h1, h2⟩ => ⟨by
        cases h1 with
        | yes h => exact absurd h HN.out
        | no h => rfl, h2⟩)
      rw [HXv.out] at hq2
      clear hq
      go_wp2_with (go_at_call 15; refine hq2.mono ?_; rintro _ w5 ⟨rfl, hb⟩; refine Hid.out ?_)
      refine Lib.hid ?_
      have B5 := Lib.hid (And.intro (thru B4.out.1 hb) (And.intro (B4.out.2.1.below hb B4.out.2.1.lt) (B4.out.2.2.below hb)))
      clear hb hq2 B4
      clear d0 d1 d2 d3 d4 d5 hlt
      go_wp2_with fail
      all_goals go_ret
      exact ⟨by first | rfl | simp, B5.out.1⟩
    | yes hyes =>
      have HY := Lib.hid hyes
      have hr2 := hr.mono (R' := fun e w' => e = .returned (.bool true) ∧ Below w3.heap.size w3 w') (fun e w' ⟨h1, h2⟩ => ⟨by
        cases h1 with
        | yes h => rfl
        | no h => exact absurd hyes h, h2⟩)
      obtain ⟨L, hL⟩ : ∃ l, lineP X.p = l := ⟨_, rfl⟩
      rw [hL]
      have HL := Lib.hid hL
      have hk := rp_kd hyes
      have hLz : L.size ≤ 100000 := by
        rw [← hL]
        have hk' : 1 ≤ X.kd ∧ X.kd ≤ 9 := hk
        exact lineP_size B3.out.2.2 (by have := HF.out.1; omega) (by have := HF.out.2; omega) X.kd.toNat (by omega) (by omega) (by omega)
      clear hr hyes hL hk
      go_wp2_with (go_at_call 11; refine hr2.mono ?_; rintro _ w4 ⟨rfl, hb⟩; refine Hid.out ?_)
      refine Lib.hid ?_
      have B4 := Lib.hid (And.intro (thru B3.out.1 hb) (And.intro (B3.out.2.1.below hb B3.out.2.1.lt) (B3.out.2.2.below hb)))
      clear hb hr2 B3
      clear d0 d1 d2 d3 d4 d5 hlt
      have hp := parse_any L w4 (HT.out.below B4.out.1) (by omega)
      have hp2 := hp.mono (R' := fun e w' => (∃ o' : Op, e = .returned (.tuple #[o'.v, .bool true]) ∧ o'.p = X.p ∧ OpOk w' o') ∧ Below w4.heap.size w4 w') (fun e w' ⟨h1, h2⟩ => ⟨by
        cases h1 with
        | no h => exact absurd HL.out (h _ HY.out)
        | yes o' a1 a2 a3 => exact ⟨o', rfl, line_inj a1 HY.out (a2.trans HL.out.symm), a3⟩, h2⟩)
      clear hp
      go_wp2_with (go_at_call 16; refine hp2.mono ?_; rintro _ w5 ⟨⟨o', rfl, hpe, hok⟩, hb⟩; refine Hid.out ?_)
      refine Lib.hid ?_
      have B5 := Lib.hid (And.intro (thru B4.out.1 hb) (And.intro (B4.out.2.1.below hb B4.out.2.1.lt) (B4.out.2.2.below hb)))
      clear hb hp2 B4
      obtain ⟨Y, hY⟩ : ∃ y, o' = y := ⟨_, rfl⟩
      rw [hY] at hpe hok
      have b6 := below_new w5 (.cells o'.arr 29)
      have B6 := Lib.hid (And.intro (thru B5.out.1 b6) (And.intro (B5.out.2.1.below b6 B5.out.2.1.lt) (And.intro (B5.out.2.2.below b6) (And.intro (Blk.new w5 29 o'.arr) (hok.below b6)))))
      have hrt := rtext_any X (w5.alloc (.cells o'.arr 29)) (B5.out.2.2.below b6) HY.out
      rw [HL.out, HXv.out] at hrt
      have HYY := Lib.hid (And.intro hpe hY)
      have k5 := B5.out.2.1
      have d0 : w5.cell? ⟨w.heap.size, 0, none⟩ = some (.int .i64 kd) := (k5.cell 0).trans rfl
      have d1 : w5.cell? ⟨w.heap.size, 1, none⟩ = some (.int .i64 wh) := (k5.cell 1).trans rfl
      have d2 : w5.cell? ⟨w.heap.size, 2, none⟩ = some (.int .i64 nn) := (k5.cell 2).trans rfl
      have d3 : w5.cell? ⟨w.heap.size, 3, none⟩ = some (.int .i64 mm) := (k5.cell 3).trans rfl
      have d4 : w5.cell? ⟨w.heap.size, 4, none⟩ = some (.slice A n c) := (k5.cell 4).trans rfl
      have d5 : w5.cell? ⟨w.heap.size, 5, none⟩ = some (.string ad) := (k5.cell 5).trans rfl
      have hlt := k5.lt
      clear hpe hok b6 B5 hY k5
      obtain ⟨k', wh', nn', mm', A', n', c', bs', ad'⟩ := o'
      have HYV := Lib.hid (show Y.v = .agg #[.int .i64 k', .int .i64 wh', .int .i64 nn', .int .i64 mm', .slice A' n' c', .string ad'] by rw [← HYY.out.2]; rfl)
      unfold Op.v
      unfold Op.arr at B6 hrt
      simp only at B6 hrt ⊢
      go_wp2_with (go_at_call 17; refine hrt.mono ?_; rintro _ w7 ⟨rfl, hb⟩; refine Hid.out ?_)
      refine Lib.hid ?_
      have B7 := Lib.hid (And.intro (thru B6.out.1 hb) (And.intro (B6.out.2.1.below hb B6.out.2.1.lt) (And.intro (B6.out.2.2.1.below hb) (And.intro (B6.out.2.2.2.1.below hb B6.out.2.2.2.1.lt) (B6.out.2.2.2.2.below hb)))))
      clear hb hrt B6 d0 d1 d2 d3 d4 d5 hlt
      have d0 : w7.cell? ⟨w.heap.size, 0, none⟩ = some (.int .i64 kd) := (B7.out.2.1.cell 0).trans rfl
      have d1 : w7.cell? ⟨w.heap.size, 1, none⟩ = some (.int .i64 wh) := (B7.out.2.1.cell 1).trans rfl
      have d2 : w7.cell? ⟨w.heap.size, 2, none⟩ = some (.int .i64 nn) := (B7.out.2.1.cell 2).trans rfl
      have d3 : w7.cell? ⟨w.heap.size, 3, none⟩ = some (.int .i64 mm) := (B7.out.2.1.cell 3).trans rfl
      have d4 : w7.cell? ⟨w.heap.size, 4, none⟩ = some (.slice A n c) := (B7.out.2.1.cell 4).trans rfl
      have d5 : w7.cell? ⟨w.heap.size, 5, none⟩ = some (.string ad) := (B7.out.2.1.cell 5).trans rfl
      have e0 : w7.cell? ⟨w5.heap.size, 0, none⟩ = some (.int .i64 k') := (B7.out.2.2.2.1.cell 0).trans rfl
      have e1 : w7.cell? ⟨w5.heap.size, 1, none⟩ = some (.int .i64 wh') := (B7.out.2.2.2.1.cell 1).trans rfl
      have e2 : w7.cell? ⟨w5.heap.size, 2, none⟩ = some (.int .i64 nn') := (B7.out.2.2.2.1.cell 2).trans rfl
      have e3 : w7.cell? ⟨w5.heap.size, 3, none⟩ = some (.int .i64 mm') := (B7.out.2.2.2.1.cell 3).trans rfl
      have e4 : w7.cell? ⟨w5.heap.size, 4, none⟩ = some (.slice A' n' c') := (B7.out.2.2.2.1.cell 4).trans rfl
      have e5 : w7.cell? ⟨w5.heap.size, 5, none⟩ = some (.string ad') := (B7.out.2.2.2.1.cell 5).trans rfl
      have hlt := B7.out.2.1.lt
      have hlt5 := B7.out.2.2.2.1.lt
      have hsm := rsameo_any Y X w7 B7.out.2.2.2.2 B7.out.2.2.1
      rw [show opEq Y X = true from (opEq_iff _ _).2 HYY.out.1, HYV.out, HXv.out] at hsm
      go_wp2_with (go_at_call 13; refine hsm.mono ?_; rintro _ w8 ⟨rfl, hb⟩; refine Hid.out ?_)
      refine Lib.hid ?_
      have B8 := Lib.hid (And.intro (thru B7.out.1 hb) (And.intro (B7.out.2.1.below hb B7.out.2.1.lt) (B7.out.2.2.1.below hb)))
      clear hb hsm B7 d0 d1 d2 d3 d4 d5 e0 e1 e2 e3 e4 e5 hlt hlt5
      have d0 : w8.cell? ⟨w.heap.size, 0, none⟩ = some (.int .i64 kd) := (B8.out.2.1.cell 0).trans rfl
      have d1 : w8.cell? ⟨w.heap.size, 1, none⟩ = some (.int .i64 wh) := (B8.out.2.1.cell 1).trans rfl
      have d2 : w8.cell? ⟨w.heap.size, 2, none⟩ = some (.int .i64 nn) := (B8.out.2.1.cell 2).trans rfl
      have d3 : w8.cell? ⟨w.heap.size, 3, none⟩ = some (.int .i64 mm) := (B8.out.2.1.cell 3).trans rfl
      have d4 : w8.cell? ⟨w.heap.size, 4, none⟩ = some (.slice A n c) := (B8.out.2.1.cell 4).trans rfl
      have d5 : w8.cell? ⟨w.heap.size, 5, none⟩ = some (.string ad) := (B8.out.2.1.cell 5).trans rfl
      have hlt := B8.out.2.1.lt
      have hq := right_op X w8 (HT.out.below B8.out.1) B8.out.2.2 (by have := HF.out.1; omega) (by have := HF.out.2; omega)
      have hq2 := hq.mono (R' := fun e w' => e = .returned (.bool true) ∧ Below w8.heap.size w8 w') (fun e w' ⟨h1, h2⟩ => ⟨by
        cases h1 with
        | yes h => rfl
        | no h => exact absurd HY.out h, h2⟩)
      rw [HXv.out] at hq2
      clear hq
      go_wp2_with (go_at_call 15; refine hq2.mono ?_; rintro _ w9 ⟨rfl, hb⟩; refine Hid.out ?_)
      refine Lib.hid ?_
      have B9 := Lib.hid (And.intro (thru B8.out.1 hb) (And.intro (B8.out.2.1.below hb B8.out.2.1.lt) (B8.out.2.2.below hb)))
      clear hb hq2 B8
      clear d0 d1 d2 d3 d4 d5 hlt
      go_wp2_with fail
      all_goals go_ret
      exact ⟨by first | rfl | simp, B9.out.1⟩
end Go.Proofs.YtbkgmeopdcealaaDoor
