import Derived.Test.YtgnegllehcpdpaaDoorLwa
namespace Go.Proofs.YtgnegllehcpdpaaDoor
open Go.ChangeShapes Go.WideShapes Go.ChangeAt Go.RowKit Go.Sort Go.Maps
set_option linter.unusedVariables false
set_option linter.unusedSimpArgs false
theorem cntA_le (es : List Ev) : 0 ≤ cntA es ∧ cntA es ≤ es.length := by
  unfold cntA
  have := List.length_filter_le codedB es
  omega
set_option maxRecDepth 100000 in
set_option maxHeartbeats 4000000 in
theorem codes_law (w : World) (A : Option Addr) (n cap : Nat) (es : List Ev) (code : Int) (h : Evs w A n es) (hn : n ≤ maxLen) (hw : ∀ e ∈ es, (Lit.int .i64 e.code).wf = true) (hcw : (Lit.int .i64 code).wf = true) (hT : Tabs w) :
    Calls Tryd.prog 6 #[.slice A n cap, .int .i64 code] w fun e w' => e = .returned (.bool true) ∧ Below w.heap.size w w' := by
  have hA := fun W (hb : Below w.heap.size w W) => awake_any W (hT.below hb)
  have hfew := fun W (hb : Below w.heap.size w W) => few_any W A n cap es (h.below hb) hn
  have HS := Lib.hid h
  have HL := Lib.hid h.2.1
  have HWF := Lib.hid (And.intro hw hcw)
  clear h hT hw hcw
  go_enter Tryd.func6, Tryd.ntmps6
  go_wp2_with (go_at_call 8; refine (hA _ (Below.refl _ w)).mono ?_; rintro _ w1 ⟨rfl, hb⟩; refine Hid.out ?_)
  refine Lib.hid ?_
  have H1 := Lib.hid hb
  clear hb
  go_wp2_with (go_at_call 9; refine (hfew _ H1.out).mono ?_; rintro _ w2 ⟨⟨b, rfl, hF⟩, hb⟩; refine Hid.out ?_)
  refine Lib.hid ?_
  have H2 := Lib.hid (H1.out.trans (hb.mono H1.out.size))
  have HF := Lib.hid hF
  clear hb hF hfew
  cases b with
  | false =>
    go_wp2_with (go_at_call 8; refine (hA _ H2.out).mono ?_; rintro _ w3 ⟨rfl, hb⟩; refine Hid.out ?_)
    refine Lib.hid ?_
    go_wp2_with fail
    go_ret
    exact ⟨rfl, H2.out.trans (hb.mono H2.out.size)⟩
  | true =>
    have HF2 := Lib.hid (HF.out (by simp))
    have hn60 : n ≤ 60 := by have := HF2.out.1; rw [HL.out] at this; exact this
    have hg := given_any w2 A n cap es (HS.out.below H2.out) (by omega)
    clear HF hA
    go_wp2_with (go_at_call 16; refine hg.mono ?_; rintro _ w3 ⟨⟨A3, c3, rfl, hE⟩, hb⟩; refine Hid.out ?_)
    refine Lib.hid ?_
    have H3 := Lib.hid (H2.out.trans (hb.mono H2.out.size))
    have hcd := codes_any w3 A3 n c3 es hE (by omega) HWF.out.1
    clear hb hE hg
    go_wp2_with (go_at_call 22; refine hcd.mono ?_; rintro _ w4 ⟨⟨D, rfl, hown, hD⟩, hb⟩; refine Hid.out ?_)
    refine Lib.hid ?_
    have H4 := Lib.hid (H3.out.trans (hb.mono H3.out.size))
    have HO := Lib.hid hown
    have HD := Lib.hid hD
    have HE4 := Lib.hid (HS.out.below H4.out)
    have hwb : w3.heap.size < w4.heap.size := hown.lt
    have hw3 := H3.out.size
    clear hb hown hD hcd
    generalize w3.heap.size = bm at *
    go_wp2_with fail
    go_loopw [6, 7, 8] (fun nn al i wr => ∃ (j : Nat), j ≤ n ∧ i = .int .i64 j ∧ nn = .int .i64 (cntC (es.take j) code) ∧ al = .int .i64 (cntA (es.take j)) ∧ wr = w4) (fun _ _ i _ => n - (intOf i).toNat)
    case atStart => exact ⟨0, by omega, rfl, rfl, rfl, rfl⟩
    case round =>
      obtain ⟨j, hj, rfl, rfl, rfl, rfl⟩ := hrel
      have ha1 := cntA_le (es.take j)
      have hc1 := cntC_nonneg (es.take j) code
      have hc2 := cntC_le (es.take j) code
      have hlen : (es.take j).length ≤ 60 := by rw [List.length_take]; omega
      obtain ⟨aa, haa⟩ : ∃ aa, cntA (es.take j) = aa := ⟨_, rfl⟩
      obtain ⟨cc, hcc⟩ : ∃ cc, cntC (es.take j) code = cc := ⟨_, rfl⟩
      rw [haa] at ha1 ⊢
      rw [hcc] at hc1 hc2 ⊢
      obtain ⟨ha0, ha2⟩ := ha1
      have hc3 : cc ≤ 60 := by omega
      have ha3 : aa ≤ 60 := by omega
      have HAC := Lib.hid (And.intro haa hcc)
      clear haa hcc hc2 ha2 hlen
      by_cases h1 : j < n
      · have h1i : (j : Int) < (n : Int) := by omega
        obtain ⟨b, o, e, rfl, hb, hs, hok, hc⟩ := HE4.out.at_ h1
        obtain ⟨c0, c1, c2, c3', c4, c5, c6⟩ := hc
        have HX := Lib.hid hs
        clear hs hok hb
        by_cases hk : codedB e = true
        · have hk' : e.kind = 3 ∨ e.kind = 4 := by simpa [codedB] using hk
          by_cases hcd2 : e.code = code
          · have g1 : (e.code == code) = true := by simp; exact hcd2
            have HN := Lib.hid (show cntA (es.take (j + 1)) = aa + 1 ∧ cntC (es.take (j + 1)) code = cc + 1 by rw [take_snoc HX.out, cntA_snoc, cntC_snoc, HAC.out.1, HAC.out.2, if_pos hk, if_pos ⟨hk, hcd2⟩]; exact ⟨rfl, rfl⟩)
            clear hk hcd2
            rcases hk' with hk' | hk'
            all_goals
              rw [hk'] at c0
              go_wp2_with fail
              go_roundw
              case rel => exact ⟨j + 1, by omega, by go_num, by rw [HN.out.2], by rw [HN.out.1], by simp⟩
              case measure => simp [intOf]; omega
          · have g1 : (e.code == code) = false := by simp; exact hcd2
            have HN := Lib.hid (show cntA (es.take (j + 1)) = aa + 1 ∧ cntC (es.take (j + 1)) code = cc by rw [take_snoc HX.out, cntA_snoc, cntC_snoc, HAC.out.1, HAC.out.2, if_pos hk, if_neg (by rintro ⟨_, h⟩; exact hcd2 h)]; exact ⟨rfl, by omega⟩)
            clear hk hcd2
            rcases hk' with hk' | hk'
            all_goals
              rw [hk'] at c0
              go_wp2_with fail
              go_roundw
              case rel => exact ⟨j + 1, by omega, by go_num, by rw [HN.out.2], by rw [HN.out.1], by simp⟩
              case measure => simp [intOf]; omega
        · have hk' : ¬ (e.kind = 3 ∨ e.kind = 4) := by simpa [codedB] using hk
          have g3 : (e.kind == 3) = false := by simp; omega
          have g4 : (e.kind == 4) = false := by simp; omega
          have hk2 : codedB e = false := by simpa using hk
          have HN := Lib.hid (show cntA (es.take (j + 1)) = aa ∧ cntC (es.take (j + 1)) code = cc by rw [take_snoc HX.out, cntA_snoc, cntC_snoc, HAC.out.1, HAC.out.2, if_neg (by rw [hk2]; simp), if_neg (by rw [hk2]; simp)]; exact ⟨by omega, by omega⟩)
          clear hk hk' hk2
          go_wp2_with fail
          go_roundw
          case rel => exact ⟨j + 1, by omega, by go_num, by rw [HN.out.2], by rw [HN.out.1], by simp⟩
          case measure => simp [intOf]; omega
      · obtain rfl : j = n := by omega
        have hAC : cntA es = aa ∧ cntC es code = cc := by
          have := HAC.out
          rwa [List.take_of_length_le (by rw [HL.out]; exact Nat.le_refl _)] at this
        obtain ⟨wo, hwo⟩ : ∃ wo, wo = wr := ⟨_, rfl⟩
        subst hwo
        obtain ⟨es0, rfl, hap, hkeys⟩ := HO.out.entries law3
        obtain ⟨es1, hDe, hnn, htot, hat⟩ := HD.out
        obtain rfl : es0 = es1 := by injection hDe
        have HQ := Lib.hid (And.intro hnn (And.intro htot (And.intro hat hAC)))
        have HP := Lib.hid hap
        have HK := Lib.hid hkeys
        clear hDe hnn htot hat hAC hap hkeys
        go_wp2_with (first
          | (at_range; refine wpList_range_own _ rfl _ 41 rfl 3 3 law3 Tryd.underlying41 _ bm j _ rfl HO.out ?_; intro w5 hrg5 hg5 hs5))
        go_frame
        go_loopw [9] (fun s wz => ∃ (left : Lit → Bool) (cnt : Nat), wz.ranges Tryd.prog 3 (plainElem Tryd.prog 3) bm wo.heap.size j (.map es0) left cnt ∧ s = .int .i64 (sumL es0 left) ∧ wo.grownBy wz none) (fun _ wz => wz.rangeLeft bm wo.heap.size)
        case atStart => exact ⟨_, _, hrg5, by rw [sumL_start HK.out], hg5⟩
        case round =>
          obtain ⟨left, cnt, hrg, rfl, hgw⟩ := hrel
          have hsb := sumL_bound HQ.out.1 left
          rw [HQ.out.2.1, HQ.out.2.2.2.1] at hsb
          obtain ⟨S, hS⟩ : ∃ S, sumL es0 left = S := ⟨_, rfl⟩
          rw [hS] at hsb ⊢
          obtain ⟨hs0, hs1⟩ := hsb
          have HSS := Lib.hid hS
          clear hS
          go_wp2_with (first
            | (at_next; refine wpList_next_ranges_ii _ rfl _ rfl 3 3 .i64 .i64 law3 Tryd.underlying3 Tryd.underlying3 bm wo.heap.size j _ _ _ rfl hrg ?_ ?_)
            | go_in)
          · intro _ hl0
            obtain rfl : S = aa := by rw [← HSS.out, sumL_end hl0, HQ.out.2.1, HQ.out.2.2.2.1]
            have hown5 := hrg.owns
            have hbel := below_none hgw
            clear hrg hgw hl0
            go_wp2_with (first
              | (at_lookup; refine wpList_lookup_own_int _ rfl _ _ 41 rfl 3 3 .i64 law3 Tryd.underlying41 Tryd.underlying3 (zero3 _) bm j (.map es0) rfl hown5 (.int .i64 code) (.int .i64 code) rfl (keyOf_int_mk Tryd.underlying3 HWF.out.2) ?_; intro c hat hwc; obtain rfl : c = cc := by (have h1 := HQ.out.2.2.1 code HWF.out.2; rw [hat, HQ.out.2.2.2.2] at h1; injection h1 with h1; injection h1))
              | go_in)
            go_ret
            exact ⟨rfl, H4.out.trans (hbel.mono H4.out.size)⟩
          · intro x c w6 cnt6 hwx hwc hlx hat hrg6 hlt hg6 hs6 hen
            have hnx := sumL_next left hlx es0 HP.out
            rw [hat, HSS.out] at hnx
            have hnx2 : sumL es0 (fun z => left z && !z.sameKey (.int .i64 x)) = S + c := hnx
            have hb6 := sumL_bound HQ.out.1 (fun z => left z && !z.sameKey (.int .i64 x))
            rw [hnx2, HQ.out.2.1, HQ.out.2.2.2.1] at hb6
            obtain ⟨hb60, hb61⟩ := hb6
            have hgw6 := hgw.andThen hg6 (fun j hj => by cases hj; exact Or.inl (Nat.le_refl _))
            have HN := Lib.hid hnx2
            have HM := Lib.hid (show w6.rangeLeft bm wo.heap.size < _ by rw [hrg6.left_eq]; exact hlt)
            clear hat hwx hwc hlx hlt hg6 hs6 hnx hnx2 hgw
            go_wp2_with fail
            go_roundw
            case rel => exact ⟨_, cnt6, hrg6, by rw [HN.out], hgw6⟩
            case measure => rw [hrg.left_eq]; exact HM.out
end Go.Proofs.YtgnegllehcpdpaaDoor
