import Derived.Test.YtojfghfgaljkkaaDoorAwk
namespace Go.Proofs.YtojfghfgaljkkaaDoor
open Go.ChangeShapes Go.WideShapes Go.ChangeAt Go.RowKit
set_option linter.unusedVariables false
set_option linter.unusedSimpArgs false
theorem vOf_print (l : List Nat) (i : Nat) (h : i < 22) : vOf ((printL l).getD i 0) = ((gv (kb l) (6 * i) 6 : Nat) : Int) := by
  rw [printL_get l i h]
  exact vOf_charN _ (gv_lt (kb l) (kb_le l) _ 6)
theorem last_print (l : List Nat) (hl : l.length = 16) : (vOf ((printL l).getD 21 0)).toNat % 16 = 0 := by
  rw [vOf_print l 21 (by omega)]
  simp only [Int.toNat_natCast]
  have h : ∀ t, t < 4 → kb l (128 + t) = 0 := fun t _ => kb_over l hl _ (by omega)
  have h0 := h 0 (by omega)
  have h1 := h 1 (by omega)
  have h2 := h 2 (by omega)
  have h3 := h 3 (by omega)
  simp only [gv, show 6 * 21 + 2 = 128 + 0 by omega, show 6 * 21 + 3 = 128 + 1 by omega, show 6 * 21 + 4 = 128 + 2 by omega, show 6 * 21 + 5 = 128 + 3 by omega, h0, h1, h2, h3]
  omega
theorem parseR_print (l : List Nat) (hl : l.length = 16) (h9 : ∀ x ∈ l, x < 256) : parseR (printL l) = (l, none) := by
  unfold parseR
  rw [if_neg (by rw [printL_len]; simp), badAt_none (fun k hk => by rw [vOf_print l k hk]; omega)]
  simp only []
  rw [if_neg (by rw [last_print l hl]; simp), parse_print l hl h9]
set_option maxRecDepth 100000 in
set_option maxHeartbeats 4000000 in
theorem matches_any (l : List Nat) (w : World) (hl : l.length = 16) (h9 : ∀ x ∈ l, x < 256) (hT : Tab w) (hE : Err w) : Calls Tryd.prog 3 #[.agg (vc l)] w fun e w' => e = .returned (.bool true) ∧ Below w.heap.size w w' := by
  have hA : ∀ W, Below w.heap.size w W → Calls Tryd.prog 7 #[] W fun e w' => e = .returned (.bool true) ∧ Below W.heap.size W w' := fun W h => awake_any W (hT.below h) (hE.below h)
  have hP := fun W => print_any l W hl h9
  have hR := fun W => rprint_any l W hl h9
  have hpr := parseR_print l hl h9
  obtain ⟨q, hq⟩ : ∃ q, vc l = q := ⟨_, rfl⟩
  have hqs : q.size = 16 := by rw [← hq, vc_size, hl]
  have hqo : q.all (·.oneCell') = true := by rw [← hq]; exact vc_one _
  have heq : ∀ W, (binOp .eql 22 (.agg q) (.agg q)).run Tryd.prog W = .ok (.bool true) W := fun W => by
    rw [← hq]
    have := run_arr_eql W l l hl hl
    simpa using this
  have hpc : ∀ (s : ByteArray) (W : World), Tab W → s.size ≤ maxLen → bys s = printL l → Calls Tryd.prog 9 #[.string s] W fun r w' => r = .returned (.tuple #[.agg q, errV none]) ∧ Below W.heap.size W w' := fun s W h1 h2 h3 =>
    parse_call s W h1 h2 q none ⟨by rw [h3, hpr]; exact hq, by rw [h3, hpr]⟩
  rw [hq] at hP hR ⊢
  have HT := Lib.hid hT
  have HE := Lib.hid hE
  have HL := Lib.hid hl
  clear hT hE hq hpr h9 hl
  go_enter Tryd.func3, Tryd.ntmps3
  go_upto_region 1 with (fail)
  have HB0 := Lib.hid (Blk.new w 22 q)
  have hb0 : Below w.heap.size w (w.alloc (.cells q 22)) := (Below.refl _ w).alloc (Nat.le_refl _) _
  obtain ⟨w0, hw0⟩ : ∃ w0, w.alloc (.cells q 22) = w0 := ⟨_, rfl⟩
  rw [hw0] at HB0 hb0 ⊢
  have H0 := Lib.hid hb0
  clear hb0 hw0
  go_wp2_with (first | (go_at_call 7; refine (hA _ H0.out).mono ?_; rintro _ w1 ⟨rfl, hb⟩; refine Hid.out ?_))
  refine Lib.hid ?_
  have HB1 := Lib.hid (Blk.below HB0.out hb (Blk.lt HB0.out))
  have H1 := Lib.hid (H0.out.trans (hb.mono H0.out.size))
  clear hb HB0 H0
  have hr := Blk.rangeAt HB1.out
  go_wp2_with (first
    | ((with_reducible (show wpList _ _ _ ({ dst := _, op := Op.load 22 _, type := _, pos := _, after := _, guard := _ } :: _) _ _)); refine wpList_load_g rfl 22 (.tmp 1) rfl w.heap.size 0 rfl q.toList (.array 16 5) hr Tryd.underlying22 rfl (by rw [show q.toList.length = 16 by simpa using hqs]; kernel_rfl) ?_)
    | (go_at_call 8; refine (hP _).mono ?_; rintro _ w2 ⟨⟨s, rfl, hs⟩, hb⟩; refine Hid.out ?_))
  refine Lib.hid ?_
  have HB2 := Lib.hid (Blk.below HB1.out hb (Blk.lt HB1.out))
  have H2 := Lib.hid (H1.out.trans (hb.mono H1.out.size))
  have hss : s.size = 22 := by rw [← bys_len, hs, printL_len]
  clear hb HB1 H1 hr
  have hp := hpc s w2 (HT.out.below H2.out) (by rw [hss]; unfold maxLen; decide) hs
  go_wp2_with (first | (go_at_call 9; refine hp.mono ?_; rintro _ w3 ⟨rfl, hb⟩; refine Hid.out ?_))
  refine Lib.hid ?_
  rw [show errV none = Value.nilIface from rfl]
  have HB3 := Lib.hid (Blk.below HB2.out hb (Blk.lt HB2.out))
  have H3 := Lib.hid (H2.out.trans (hb.mono H2.out.size))
  clear hb HB2 H2 hp
  have hth := there_new w3 #[Value.int .u8 0, Value.int .u8 0, Value.int .u8 0, Value.int .u8 0, Value.int .u8 0, Value.int .u8 0, Value.int .u8 0, Value.int .u8 0, Value.int .u8 0, Value.int .u8 0, Value.int .u8 0, Value.int .u8 0, Value.int .u8 0, Value.int .u8 0, Value.int .u8 0, Value.int .u8 0] q (by rw [hqs]; rfl)
  obtain ⟨hv2, hvb⟩ := var_blk w3 #[Value.int .u8 0, Value.int .u8 0, Value.int .u8 0, Value.int .u8 0, Value.int .u8 0, Value.int .u8 0, Value.int .u8 0, Value.int .u8 0, Value.int .u8 0, Value.int .u8 0, Value.int .u8 0, Value.int .u8 0, Value.int .u8 0, Value.int .u8 0, Value.int .u8 0, Value.int .u8 0] q (by rw [hqs]; rfl)
  have HV := Lib.hid (And.intro hv2 hvb)
  clear hv2 hvb
  go_wp2_with ((with_reducible (show wpList _ _ _ ({ dst := none, op := Op.store 22 _ _, type := _, pos := _, after := _, guard := _ } :: _) _ _)); refine wpList_store_mid rfl 22 (.tmp 4) (.tmp 13) rfl w3.heap.size 0 q rfl rfl hth (by rw [show q.size = 16 from hqs]; kernel_rfl) hqo ?_; refine Hid.out ?_)
  refine Lib.hid ?_
  clear hth
  have HB4 := Lib.hid (Blk.below HB3.out HV.out.2 (Blk.lt HB3.out))
  have HV4 := Lib.hid HV.out.1
  have H4 := Lib.hid (H3.out.trans (HV.out.2.mono H3.out.size))
  generalize (w3.alloc (.cells #[Value.int .u8 0, Value.int .u8 0, Value.int .u8 0, Value.int .u8 0, Value.int .u8 0, Value.int .u8 0, Value.int .u8 0, Value.int .u8 0, Value.int .u8 0, Value.int .u8 0, Value.int .u8 0, Value.int .u8 0, Value.int .u8 0, Value.int .u8 0, Value.int .u8 0, Value.int .u8 0] 22)).setCells w3.heap.size 0 q.toList = w4 at *
  generalize w3.heap.size = g3 at *
  clear HV HB3 H3
  have hr := Blk.rangeAt HB4.out
  go_wp2_with (first
    | ((with_reducible (show wpList _ _ _ ({ dst := _, op := Op.load 22 _, type := _, pos := _, after := _, guard := _ } :: _) _ _)); refine wpList_load_g rfl 22 (.tmp 1) rfl w.heap.size 0 rfl q.toList (.array 16 5) hr Tryd.underlying22 rfl (by rw [show q.toList.length = 16 by simpa using hqs]; kernel_rfl) ?_)
    | (go_at_call 10; refine (hR _).mono ?_; rintro _ w5 ⟨⟨s', rfl, hs'⟩, hb⟩; refine Hid.out ?_))
  refine Lib.hid ?_
  obtain rfl : s' = s := bys_inj (by rw [hs', hs])
  have HB5 := Lib.hid (Blk.below HB4.out hb (Blk.lt HB4.out))
  have HV5 := Lib.hid (Blk.below HV4.out hb (Blk.lt HV4.out))
  have H5 := Lib.hid (H4.out.trans (hb.mono H4.out.size))
  clear hb HB4 HV4 H4 hr hs hs'
  have hr := Blk.rangeAt HB5.out
  have hr2 := Blk.rangeAt HV5.out
  go_wp2_with (first
    | ((with_reducible (show wpList _ _ _ ({ dst := _, op := Op.load 22 (.tmp 1), type := _, pos := _, after := _, guard := _ } :: _) _ _)); refine wpList_load_g rfl 22 (.tmp 1) rfl w.heap.size 0 rfl q.toList (.array 16 5) hr Tryd.underlying22 rfl (by rw [show q.toList.length = 16 by simpa using hqs]; kernel_rfl) ?_)
    | ((with_reducible (show wpList _ _ _ ({ dst := _, op := Op.load 22 (.tmp 4), type := _, pos := _, after := _, guard := _ } :: _) _ _)); refine wpList_load_g rfl 22 (.tmp 4) rfl g3 0 rfl q.toList (.array 16 5) hr2 Tryd.underlying22 rfl (by rw [show q.toList.length = 16 by simpa using hqs]; kernel_rfl) ?_))
  all_goals (try go_ret)
  all_goals (exact ⟨ret_true (by simp; try omega), H5.out⟩)
end Go.Proofs.YtojfghfgaljkkaaDoor
