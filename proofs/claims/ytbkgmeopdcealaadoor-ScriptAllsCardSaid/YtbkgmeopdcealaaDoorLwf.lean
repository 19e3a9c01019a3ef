import Derived.Test.YtbkgmeopdcealaaDoorAwk
import Derived.Test.YtbkgmeopdcealaaDoorRps
namespace Go.Proofs.YtbkgmeopdcealaaDoor
open Go.ChangeShapes Go.WideShapes Go.ChangeAt Go.RowKit Go.Sort Go.Deep
set_option linter.unusedVariables false
set_option linter.unusedSimpArgs false
theorem rp_ad {p : PO} (h : RP p) : p.ad.size ≤ 100 := by
  have hs : ∀ s : ByteArray, rightS s = true → s.size ≤ 100 := fun s h => by unfold rightS at h; simp only [Bool.and_eq_true, decide_eq_true_eq] at h; exact h.2
  cases h with
  | send => show em.size ≤ 100; decide
  | num => show em.size ≤ 100; decide
  | swap => show em.size ≤ 100; decide
  | inject _ _ ad _ _ h => exact hs ad h
  | move ad h => exact hs ad h
  | close => show em.size ≤ 100; decide
theorem rp_sizes {w : World} {o : Op} (h : RP o.p) (hO : OpOk w o) : o.n ≤ 1300 ∧ o.ad.size ≤ 100 := by
  have h1 := (rp_s h).b.1
  have h2 := hO.y.len
  change o.bs.length ≤ 1300 at h1
  exact ⟨by omega, rp_ad h⟩
theorem thru {w w1 w2 : World} (h1 : Below w.heap.size w w1) (h2 : Below w1.heap.size w1 w2) : Below w.heap.size w w2 := h1.trans (h2.mono h1.size)
theorem below_new (W : World) (ob : Obj) : Below W.heap.size W (W.alloc ob) := (Below.refl _ W).alloc (Nat.le_refl _) ob
set_option maxRecDepth 100000 in
set_option maxHeartbeats 2000000 in
/-- ScriptParses. -/
theorem parses_any (s : ByteArray) (w : World) (hT : Tab w) (hs : s.size ≤ maxLen) :
    Calls Tryd.prog 6 #[.string s] w fun e w' => e = .returned (.bool true) ∧ Below w.heap.size w w' := by
  have haw := awake_any w hT
  have HAW := Lib.hid (fun W (hW : Tab W) => awake_any W hW)
  have HT := Lib.hid hT
  unfold maxLen at hs
  clear hT
  by_cases h2 : s.size ≤ 3000
  · have hj : (s.size : Int) ≤ 3000 := by omega
    go_enter Tryd.func6, Tryd.ntmps6
    go_wp2_with (go_at_call 9; refine haw.mono ?_; rintro _ w1 ⟨rfl, hb⟩; refine Hid.out ?_)
    refine Lib.hid ?_
    have B1 := Lib.hid hb
    have hp := parse_any s w1 (HT.out.below hb) (by omega)
    clear hb haw
    go_wp2_with (go_at_call 16; refine hp.mono ?_; rintro _ w2 ⟨hpr, hb⟩; refine Hid.out ?_)
    refine Lib.hid ?_
    have B2 := Lib.hid (thru B1.out hb)
    clear hb hp B1
    cases hpr with
    | no hno =>
      have HNO := Lib.hid hno
      clear hno
      have b3 := below_new w2 (.cells zO.arr 29)
      have k3 := Blk.new w2 29 zO.arr
      have hr := rparse_any s (w2.alloc (.cells zO.arr 29)) (by omega)
      have B3 := Lib.hid (And.intro (thru B2.out b3) k3)
      rw [show zO.arr = #[.int .i64 0, .int .i64 0, .int .i64 0, .int .i64 0, .slice none 0 0, .string ⟨#[]⟩] from rfl] at hr B3
      rw [show zO.v = .agg #[.int .i64 0, .int .i64 0, .int .i64 0, .int .i64 0, .slice none 0 0, .string ⟨#[]⟩] from rfl]
      clear b3 k3 B2
      go_wp2_with (go_at_call 18; refine hr.mono ?_; rintro _ w4 ⟨hpr2, hb⟩; refine Hid.out ?_)
      refine Lib.hid ?_
      have B4 := Lib.hid (And.intro (thru B3.out.1 hb) (B3.out.2.below hb B3.out.2.lt))
      clear hb hr B3
      cases hpr2 with
      | yes o2 hr2 hl2 hok2 => exact absurd hl2 (HNO.out _ hr2)
      | no hno2 =>
        clear hno2
        have b5 := below_new w4 (.cells zO.arr 24)
        have k5 := Blk.new w4 24 zO.arr
        have hsm := rsameo_any zO zO (w4.alloc (.cells zO.arr 24)) (o0_ok _ 0 (by omega)) (o0_ok _ 0 (by omega))
        rw [show opEq zO zO = true from (opEq_iff _ _).2 rfl] at hsm
        have B5 := Lib.hid (And.intro (thru B4.out.1 b5) (And.intro (B4.out.2.below b5 B4.out.2.lt) k5))
        rw [show zO.arr = #[.int .i64 0, .int .i64 0, .int .i64 0, .int .i64 0, .slice none 0 0, .string ⟨#[]⟩] from rfl] at hsm B5
        rw [show zO.v = .agg #[.int .i64 0, .int .i64 0, .int .i64 0, .int .i64 0, .slice none 0 0, .string ⟨#[]⟩] from rfl] at hsm ⊢
        have d0 : w4.cell? ⟨w2.heap.size, 0, none⟩ = some (.int .i64 0) := (B4.out.2.cell 0).trans rfl
        have d1 : w4.cell? ⟨w2.heap.size, 1, none⟩ = some (.int .i64 0) := (B4.out.2.cell 1).trans rfl
        have d2 : w4.cell? ⟨w2.heap.size, 2, none⟩ = some (.int .i64 0) := (B4.out.2.cell 2).trans rfl
        have d3 : w4.cell? ⟨w2.heap.size, 3, none⟩ = some (.int .i64 0) := (B4.out.2.cell 3).trans rfl
        have d4 : w4.cell? ⟨w2.heap.size, 4, none⟩ = some (.slice none 0 0) := (B4.out.2.cell 4).trans rfl
        have d5 : w4.cell? ⟨w2.heap.size, 5, none⟩ = some (.string ⟨#[]⟩) := (B4.out.2.cell 5).trans rfl
        have hlt := B4.out.2.lt
        clear b5 k5 B4
        go_wp2_with (go_at_call 13; refine hsm.mono ?_; rintro _ w6 ⟨rfl, hb⟩; refine Hid.out ?_)
        refine Lib.hid ?_
        have B6 := Lib.hid (And.intro (thru B5.out.1 hb) (B5.out.2.1.below hb B5.out.2.1.lt))
        clear hb hsm B5 d0 d1 d2 d3 d4 d5 hlt
        have ht := text_any zO w6 (HT.out.below B6.out.1) (o0_ok _ 0 (by omega)) (by show 0 ≤ 2500; omega) (by show em.size ≤ 5000; decide)
        have ht2 := ht.mono (R' := fun e w' => e = .returned (.tuple #[.string ⟨#[]⟩, .bool false]) ∧ Below w6.heap.size w6 w') (fun e w' ⟨h1, h2⟩ => ⟨by
          cases h1 with
          | yes h => exact absurd h zero_no
          | no h => rfl, h2⟩)
        rw [show zO.v = .agg #[.int .i64 0, .int .i64 0, .int .i64 0, .int .i64 0, .slice none 0 0, .string ⟨#[]⟩] from rfl] at ht2
        have d0 : w6.cell? ⟨w2.heap.size, 0, none⟩ = some (.int .i64 0) := (B6.out.2.cell 0).trans rfl
        have d1 : w6.cell? ⟨w2.heap.size, 1, none⟩ = some (.int .i64 0) := (B6.out.2.cell 1).trans rfl
        have d2 : w6.cell? ⟨w2.heap.size, 2, none⟩ = some (.int .i64 0) := (B6.out.2.cell 2).trans rfl
        have d3 : w6.cell? ⟨w2.heap.size, 3, none⟩ = some (.int .i64 0) := (B6.out.2.cell 3).trans rfl
        have d4 : w6.cell? ⟨w2.heap.size, 4, none⟩ = some (.slice none 0 0) := (B6.out.2.cell 4).trans rfl
        have d5 : w6.cell? ⟨w2.heap.size, 5, none⟩ = some (.string ⟨#[]⟩) := (B6.out.2.cell 5).trans rfl
        have hlt := B6.out.2.lt
        clear ht
        go_wp2_with (go_at_call 12; refine ht2.mono ?_; rintro _ w7 ⟨rfl, hb⟩; refine Hid.out ?_)
        refine Lib.hid ?_
        have B7 := Lib.hid (thru B6.out.1 hb)
        clear hb ht2 B6 d0 d1 d2 d3 d4 d5 hlt
        go_wp2_with fail
        all_goals go_ret
        exact ⟨by first | rfl | simp, B7.out⟩
    | yes o1 hr1 hl1 hok1 =>
      obtain ⟨X, hX⟩ : ∃ x, o1 = x := ⟨_, rfl⟩
      have HX := Lib.hid hX
      rw [hX] at hr1 hl1 hok1
      have HXP := Lib.hid (And.intro hr1 hl1)
      have b3 := below_new w2 (.cells o1.arr 29)
      have k3 := Blk.new w2 29 o1.arr
      have hr := rparse_any s (w2.alloc (.cells o1.arr 29)) (by omega)
      have B3 := Lib.hid (And.intro (thru B2.out b3) (And.intro k3 (hok1.below b3)))
      clear hr1 hl1 hok1 b3 k3 B2 hX
      obtain ⟨k', wh', nn', mm', A', n', c', bs', ad'⟩ := o1
      unfold Op.v
      unfold Op.arr at hr B3
      simp only at hr B3 ⊢
      go_wp2_with (go_at_call 18; refine hr.mono ?_; rintro _ w4 ⟨hpr2, hb⟩; refine Hid.out ?_)
      refine Lib.hid ?_
      have B4 := Lib.hid (And.intro (thru B3.out.1 hb) (And.intro (B3.out.2.1.below hb B3.out.2.1.lt) (B3.out.2.2.below hb)))
      clear hb hr B3
      cases hpr2 with
      | no hno2 => exact absurd HXP.out.2 (hno2 _ HXP.out.1)
      | yes o2 hr2 hl2 hok2 =>
        have hpe : o2.p = X.p := line_inj hr2 HXP.out.1 (hl2.trans HXP.out.2.symm)
        have b5 := below_new w4 (.cells o2.arr 24)
        have k5 := Blk.new w4 24 o2.arr
        have hsm := rsameo_any X o2 (w4.alloc (.cells o2.arr 24)) (B4.out.2.2.below b5) (hok2.below b5)
        rw [show opEq X o2 = true from (opEq_iff _ _).2 hpe.symm] at hsm
        have B5 := Lib.hid (And.intro (thru B4.out.1 b5) (And.intro (B4.out.2.1.below b5 B4.out.2.1.lt) (And.intro (B4.out.2.2.below b5) k5)))
        rw [show X.v = .agg #[.int .i64 k', .int .i64 wh', .int .i64 nn', .int .i64 mm', .slice A' n' c', .string ad'] by rw [← HX.out]; rfl] at hsm
        have d0 : w4.cell? ⟨w2.heap.size, 0, none⟩ = some (.int .i64 k') := (B4.out.2.1.cell 0).trans rfl
        have d1 : w4.cell? ⟨w2.heap.size, 1, none⟩ = some (.int .i64 wh') := (B4.out.2.1.cell 1).trans rfl
        have d2 : w4.cell? ⟨w2.heap.size, 2, none⟩ = some (.int .i64 nn') := (B4.out.2.1.cell 2).trans rfl
        have d3 : w4.cell? ⟨w2.heap.size, 3, none⟩ = some (.int .i64 mm') := (B4.out.2.1.cell 3).trans rfl
        have d4 : w4.cell? ⟨w2.heap.size, 4, none⟩ = some (.slice A' n' c') := (B4.out.2.1.cell 4).trans rfl
        have d5 : w4.cell? ⟨w2.heap.size, 5, none⟩ = some (.string ad') := (B4.out.2.1.cell 5).trans rfl
        have hlt := B4.out.2.1.lt
        clear hr2 hl2 hok2 hpe b5 k5 B4
        obtain ⟨k2, wh2, nn2, mm2, A2, n2, c2, bs2, ad2⟩ := o2
        unfold Op.v at hsm ⊢
        unfold Op.arr at hsm B5
        simp only at hsm B5 ⊢
        go_wp2_with (go_at_call 13; refine hsm.mono ?_; rintro _ w6 ⟨rfl, hb⟩; refine Hid.out ?_)
        refine Lib.hid ?_
        have B6 := Lib.hid (And.intro (thru B5.out.1 hb) (And.intro (B5.out.2.1.below hb B5.out.2.1.lt) (B5.out.2.2.1.below hb)))
        clear hb hsm B5 d0 d1 d2 d3 d4 d5 hlt
        have hsz := rp_sizes HXP.out.1 B6.out.2.2
        have ht := text_any X w6 (HT.out.below B6.out.1) B6.out.2.2 (by omega) (by omega)
        have ht2 := ht.mono (R' := fun e w' => e = .returned (.tuple #[.string s, .bool true]) ∧ Below w6.heap.size w6 w') (fun e w' ⟨h1, h2⟩ => ⟨by
          cases h1 with
          | yes h => rw [HXP.out.2]
          | no h => exact absurd HXP.out.1 h, h2⟩)
        rw [show X.v = .agg #[.int .i64 k', .int .i64 wh', .int .i64 nn', .int .i64 mm', .slice A' n' c', .string ad'] by rw [← HX.out]; rfl] at ht2
        have d0 : w6.cell? ⟨w2.heap.size, 0, none⟩ = some (.int .i64 k') := (B6.out.2.1.cell 0).trans rfl
        have d1 : w6.cell? ⟨w2.heap.size, 1, none⟩ = some (.int .i64 wh') := (B6.out.2.1.cell 1).trans rfl
        have d2 : w6.cell? ⟨w2.heap.size, 2, none⟩ = some (.int .i64 nn') := (B6.out.2.1.cell 2).trans rfl
        have d3 : w6.cell? ⟨w2.heap.size, 3, none⟩ = some (.int .i64 mm') := (B6.out.2.1.cell 3).trans rfl
        have d4 : w6.cell? ⟨w2.heap.size, 4, none⟩ = some (.slice A' n' c') := (B6.out.2.1.cell 4).trans rfl
        have d5 : w6.cell? ⟨w2.heap.size, 5, none⟩ = some (.string ad') := (B6.out.2.1.cell 5).trans rfl
        have hlt := B6.out.2.1.lt
        clear ht hsz
        go_wp2_with (go_at_call 12; refine ht2.mono ?_; rintro _ w7 ⟨rfl, hb⟩; refine Hid.out ?_)
        refine Lib.hid ?_
        have B7 := Lib.hid (thru B6.out.1 hb)
        clear hb ht2 B6 d0 d1 d2 d3 d4 d5 hlt
        go_wp2_with fail
        all_goals go_ret
        exact ⟨by first | rfl | simp, B7.out⟩
  · have hj2 : (3000 : Int) < (s.size : Int) := by omega
    go_enter Tryd.func6, Tryd.ntmps6
    go_wp2_with (go_at_call 9; refine haw.mono ?_; rintro _ w1 ⟨rfl, hb⟩; refine Hid.out ?_)
    refine Lib.hid ?_
    have B1 := Lib.hid hb
    have ha2 := HAW.out w1 (HT.out.below hb)
    clear hb haw
    go_wp2_with (go_at_call 9; refine ha2.mono ?_; rintro _ w2 ⟨rfl, hb⟩)
    all_goals go_ret
    exact ⟨rfl, thru B1.out hb⟩
end Go.Proofs.YtbkgmeopdcealaaDoor
