import Derived.Test.YtbifakhalnkfbaaDoorAwk
namespace Go.Proofs.YtbifakhalnkfbaaDoor
open Go.ChangeShapes Go.WideShapes Go.ChangeAt Go.RowKit Go.Sort Go.Deep
set_option linter.unusedVariables false
set_option linter.unusedSimpArgs false
set_option maxRecDepth 100000 in
set_option maxHeartbeats 2000000 in
/-- ShowDecimals. -/
theorem decimals_law (n : Nat) (s : ByteArray) (w : World) (hT : Tab w) (hn : n < 18446744073709551616) (hs : s.size ≤ maxLen) : Calls Tryd.prog 6 #[.int .u64 n, .string s] w fun e w' => e = .returned (.bool true) ∧ Below w.heap.size w w' := by
  have hsm : s.size ≤ 9223372036854775807 := by unfold maxLen at hs; omega
  have ha := awake_any w hT
  have HT := Lib.hid hT
  have HA := Lib.hid (fun W (h : Tab W) => awake_any W h)
  by_cases hlen : s.size ≤ 300
  · have hi : (s.size : Int) ≤ 300 := by omega
    have HN := Lib.hid (fun W => number_any n W hn)
    have HD := Lib.hid (fun W (h : Tab W) => decimal_any (decS n) W h (by have := decS_size n hn; omega))
    rw [decN_dec n hn, decB_dec n hn] at HD
    have HS := Lib.hid (fun W (h : Tab W) => decimal_any s W h (by omega))
    have HR := Lib.hid (fun W => rdecimal_any s W hs)
    obtain ⟨b, hb⟩ : ∃ b, decB s = b := ⟨_, rfl⟩
    obtain ⟨m, hm⟩ : ∃ b, decN s = b := ⟨_, rfl⟩
    rw [hb, hm] at HS HR
    generalize decS n = D at *
    clear hT hn hs hb hm hlen
    go_enter Tryd.func6, Tryd.ntmps6
    go_wp2_with (go_at_call 8; refine ha.mono ?_; rintro _ w1 ⟨rfl, hb⟩; refine Hid.out ?_)
    refine Lib.hid ?_
    have B1 := Lib.hid hb
    have h19 := HN.out w1
    clear hb ha
    go_wp2_with (go_at_call 19; refine h19.mono ?_; rintro _ w2 ⟨rfl, hb⟩; refine Hid.out ?_)
    refine Lib.hid ?_
    have B2 := Lib.hid (through B1.out hb)
    have h18 := HD.out w2 (HT.out.below B2.out)
    clear hb h19
    go_wp2_with (go_at_call 18; refine h18.mono ?_; rintro _ w3 ⟨rfl, hb⟩; refine Hid.out ?_)
    refine Lib.hid ?_
    have B3 := Lib.hid (through B2.out hb)
    have h18 := HS.out w3 (HT.out.below B3.out)
    clear hb
    go_wp2_with (go_at_call 18; refine h18.mono ?_; rintro _ w4 ⟨rfl, hb⟩; refine Hid.out ?_)
    refine Lib.hid ?_
    have B4 := Lib.hid (through B3.out hb)
    have h20 := HR.out w4
    clear hb h18
    go_wp2_with (go_at_call 20; refine h20.mono ?_; rintro _ w5 ⟨rfl, hb⟩; refine Hid.out ?_)
    refine Lib.hid ?_
    have B5 := Lib.hid (through B4.out hb)
    clear hb h20
    cases b
    · go_wp2_with fail
      all_goals go_ret
      exact ⟨rfl, B5.out⟩
    · go_wp2_with fail
      all_goals go_ret
      exact ⟨rfl, B5.out⟩
  · have hi : (300 : Int) < (s.size : Int) := by omega
    clear hT hn hs hlen
    go_enter Tryd.func6, Tryd.ntmps6
    go_wp2_with (go_at_call 8; refine ha.mono ?_; rintro _ w1 ⟨rfl, hb⟩; refine Hid.out ?_)
    refine Lib.hid ?_
    have B1 := Lib.hid hb
    have hb2 := HA.out w1 (HT.out.below hb)
    clear hb ha
    go_wp2_with (go_at_call 8; refine hb2.mono ?_; rintro _ w2 ⟨rfl, hb⟩; refine Hid.out ?_)
    refine Lib.hid ?_
    clear hb2
    go_wp2_with fail
    all_goals go_ret
    exact ⟨rfl, through B1.out hb⟩
set_option maxRecDepth 100000 in
set_option maxHeartbeats 2000000 in
/-- ShowParses. -/
theorem parses_law (s : ByteArray) (w : World) (hT : Tab w) (hs : s.size ≤ maxLen) : Calls Tryd.prog 4 #[.string s] w fun e w' => e = .returned (.bool true) ∧ Below w.heap.size w w' := by
  have hsm : s.size ≤ 9223372036854775807 := by unfold maxLen at hs; omega
  have ha := awake_any w hT
  have HT := Lib.hid hT
  have HA := Lib.hid (fun W (h : Tab W) => awake_any W h)
  by_cases hlen : s.size ≤ 2000
  · have hi : (s.size : Int) ≤ 2000 := by omega
    obtain ⟨hback, hok⟩ := par_back (text := s) (by omega)
    have HS := Lib.hid (fun W (h : Tab W) => show_parse s W h (by omega))
    have HR := Lib.hid (fun W (h : Tab W) => ref_parse s W h (by omega))
    have HX := Lib.hid (fun W (h : Tab W) => status_any (parS s) W hok h.pow)
    obtain ⟨b, hb⟩ : ∃ b, parB s = b := ⟨_, rfl⟩
    obtain ⟨c, hc⟩ : ∃ c, parS s = c := ⟨_, rfl⟩
    rw [hb, hc] at HS HR hback
    rw [hc] at HX
    obtain ⟨tx, htx⟩ : ∃ x, textS c = x := ⟨_, rfl⟩
    obtain ⟨rg, hrg⟩ : ∃ x, rgtS c = x := ⟨_, rfl⟩
    rw [htx, hrg] at HX hback
    have HBK := Lib.hid hback
    have HCA := Lib.hid (show c.arr = c.arr from rfl)
    obtain ⟨nx, ls, an, ac, rf, ad, mv, sm, sp, cl⟩ := c
    unfold St.v at HS HR HX
    simp only at HS HR HX
    clear hT hs hb hc htx hrg hok hlen hback HCA
    go_enter Tryd.func4, Tryd.ntmps4
    go_wp2_with (go_at_call 8; refine ha.mono ?_; rintro _ w1 ⟨rfl, hb⟩; refine Hid.out ?_)
    refine Lib.hid ?_
    have B1 := Lib.hid hb
    have h12 := HS.out w1 (HT.out.below hb)
    clear hb ha
    go_wp2_with (go_at_call 12; refine h12.mono ?_; rintro _ w2 ⟨rfl, hb⟩; refine Hid.out ?_)
    refine Lib.hid ?_
    have B2 := Lib.hid ((through B1.out hb).alloc (through B1.out hb).size (.cells (St.mk nx ls an ac rf ad mv sm sp cl).arr 27))
    have K2 := Blk.new w2 27 (St.mk nx ls an ac rf ad mv sm sp cl).arr
    unfold St.arr at B2 K2
    simp only at B2 K2
    clear hb h12
    go_upto_region 4 with (fail)
    obtain ⟨w3, hw3⟩ : ∃ W, w2.alloc (.cells #[.int .u64 nx, .int .u64 ls, .bool an, .int .i64 ac, .int .i64 rf, .string ad, .int .i64 mv, .int .i64 sm, .int .u16 sp, .bool cl] 27) = W := ⟨_, rfl⟩
    rw [hw3] at B2 K2 ⊢
    clear hw3
    generalize w2.heap.size = q at *
    have HK3 := Lib.hid K2
    have h14 := HR.out w3 (HT.out.below B2.out)
    clear K2
    go_wp2_with (go_at_call 14; refine h14.mono ?_; rintro _ w4 ⟨rfl, hb⟩; refine Hid.out ?_)
    refine Lib.hid ?_
    have B4 := Lib.hid ((through B2.out hb).alloc (through B2.out hb).size (.cells (St.mk nx ls an ac rf ad mv sm sp cl).arr 25))
    have K4 := (HK3.out.below hb HK3.out.lt).alloc (.cells (St.mk nx ls an ac rf ad mv sm sp cl).arr 25)
    have L4 := Blk.new w4 25 (St.mk nx ls an ac rf ad mv sm sp cl).arr
    unfold St.arr at B4 K4 L4
    simp only at B4 K4 L4
    clear hb h14 HK3
    go_upto_region 5 with (fail)
    obtain ⟨w5, hw5⟩ : ∃ W, w4.alloc (.cells #[.int .u64 nx, .int .u64 ls, .bool an, .int .i64 ac, .int .i64 rf, .string ad, .int .i64 mv, .int .i64 sm, .int .u16 sp, .bool cl] 25) = W := ⟨_, rfl⟩
    rw [hw5] at B4 K4 L4 ⊢
    clear hw5
    generalize w4.heap.size = r at *
    have HK5 := Lib.hid K4
    have HL5 := Lib.hid L4
    have h9 := HX.out w5 (HT.out.below B4.out)
    clear K4 L4
    go_wp2_with (first
      | ((with_reducible (show wpList _ _ _ ({ dst := _, op := Op.load 27 _, type := _, pos := _, after := _, guard := _ } :: _) _ _)); refine wpList_load_g rfl 27 (.tmp 3) rfl q 0 rfl _ _ (Blk.rangeAt HK5.out) Tryd.underlying27 rfl (by kernel_rfl) ?_)
      | (go_at_call 9; refine h9.mono ?_; rintro _ w6 ⟨rfl, hb⟩; refine Hid.out ?_))
    refine Lib.hid ?_
    have B6 := Lib.hid (through B4.out hb)
    have HK6 := Lib.hid (HK5.out.below hb HK5.out.lt)
    have HL6 := Lib.hid (HL5.out.below hb HL5.out.lt)
    clear hb h9 HK5 HL5
    cases b
    · clear HBK
      go_wp2_with (first
        | ((with_reducible (show wpList _ _ _ ({ dst := _, op := Op.load 27 _, type := _, pos := _, after := _, guard := _ } :: _) _ _)); refine wpList_load_g rfl 27 (.tmp 3) rfl q 0 rfl _ _ (Blk.rangeAt HK6.out) Tryd.underlying27 rfl (by kernel_rfl) ?_)
        | ((with_reducible (show wpList _ _ _ ({ dst := _, op := Op.load 25 _, type := _, pos := _, after := _, guard := _ } :: _) _ _)); refine wpList_load_g rfl 25 (.tmp 5) rfl r 0 rfl _ _ (Blk.rangeAt HL6.out) Tryd.underlying25 rfl (by kernel_rfl) ?_))
      all_goals go_ret
      exact ⟨rfl, B6.out⟩
    · obtain ⟨hr, ht⟩ := HBK.out rfl
      subst hr ht
      clear HBK
      go_wp2_with (first
        | ((with_reducible (show wpList _ _ _ ({ dst := _, op := Op.load 27 _, type := _, pos := _, after := _, guard := _ } :: _) _ _)); refine wpList_load_g rfl 27 (.tmp 3) rfl q 0 rfl _ _ (Blk.rangeAt HK6.out) Tryd.underlying27 rfl (by kernel_rfl) ?_)
        | ((with_reducible (show wpList _ _ _ ({ dst := _, op := Op.load 25 _, type := _, pos := _, after := _, guard := _ } :: _) _ _)); refine wpList_load_g rfl 25 (.tmp 5) rfl r 0 rfl _ _ (Blk.rangeAt HL6.out) Tryd.underlying25 rfl (by kernel_rfl) ?_))
      all_goals go_ret
      exact ⟨rfl, B6.out⟩
  · have hi : (2000 : Int) < (s.size : Int) := by omega
    clear hT hs hlen
    go_enter Tryd.func4, Tryd.ntmps4
    go_wp2_with (go_at_call 8; refine ha.mono ?_; rintro _ w1 ⟨rfl, hb⟩; refine Hid.out ?_)
    refine Lib.hid ?_
    have B1 := Lib.hid hb
    have hb2 := HA.out w1 (HT.out.below hb)
    clear hb ha
    go_wp2_with (go_at_call 8; refine hb2.mono ?_; rintro _ w2 ⟨rfl, hb⟩; refine Hid.out ?_)
    refine Lib.hid ?_
    clear hb2
    go_wp2_with fail
    all_goals go_ret
    exact ⟨rfl, through B1.out hb⟩
theorem decimals_int (a : Int) (s : ByteArray) (w : World) (hT : Tab w) (ha : (Lit.int .u64 a).wf = true) (hs : s.size ≤ maxLen) : Calls Tryd.prog 6 #[.int .u64 a, .string s] w fun e w' => e = .returned (.bool true) ∧ Below w.heap.size w w' := by
  have b := bounds_u64 ha
  obtain ⟨n, rfl⟩ : ∃ n : Nat, a = (n : Int) := ⟨a.toNat, by omega⟩
  exact decimals_law n s w hT (by omega) hs
end Go.Proofs.YtbifakhalnkfbaaDoor
