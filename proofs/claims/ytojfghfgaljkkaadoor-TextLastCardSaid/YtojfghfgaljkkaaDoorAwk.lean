import Derived.Test.YtojfghfgaljkkaaDoorEq
namespace Go.Proofs.YtojfghfgaljkkaaDoor
open Go.ChangeShapes Go.WideShapes Go.ChangeAt Go.RowKit
set_option linter.unusedVariables false
set_option linter.unusedSimpArgs false
theorem bys_inj {a b : ByteArray} (h : bys a = bys b) : a = b := by
  unfold bys at h
  have := (List.map_inj_right (fun x y e => UInt8.toNat_inj.1 e)).1 h
  cases a; cases b
  simp at this
  rw [this]
def one16 : List Nat := 1 :: List.replicate 15 0
theorem print0 : printL zeros = List.replicate 22 65 := by decide +kernel
theorem parse1 : parseR (bys ⟨#[65, 81, 65, 65, 65, 65, 65, 65, 65, 65, 65, 65, 65, 65, 65, 65, 65, 65, 65, 65, 65, 65]⟩) = (one16, none) := by decide +kernel
theorem parse2 : parseR (bys ⟨#[65]⟩) = (zeros, some (4, 1)) := by decide +kernel
theorem one_vc : #[Value.int .u8 1, .int .u8 0, .int .u8 0, .int .u8 0, .int .u8 0, .int .u8 0, .int .u8 0, .int .u8 0, .int .u8 0, .int .u8 0, .int .u8 0, .int .u8 0, .int .u8 0, .int .u8 0, .int .u8 0, .int .u8 0] = vc one16 := rfl
theorem wpList_load_g {P : Program} {ops : Array Oper} {rest : List Oper} {op : Oper} {a : Act} {w : World} {Q : Exit → Act → World → Prop} (hgd : Region.wanted op (yielded ops a.tmps) = true) (ty : TypeId) (x : Operand) (ho : op.op = .load ty x)
    (b o : Nat) (hx : a.eval x = .pointer (some ⟨b, o, none⟩)) (cs : List Value) (d : TypeDesc) (hc : w.rangeAt b o cs)
    (hu : P.underlying ty = some d) (hd : d.isRow = true) (hi : (P.info? ty).map (·.size) = some cs.length)
    (h : wpList P ops Q rest (a.put op.dst (.agg cs.toArray)) w) : wpList P ops Q (op :: rest) a w :=
  wpList_step fun K hK => by
    rw [if_pos hgd]
    exact wp_load_mid ty x ho b o hx cs d hc hu hd hi (hK _ _ h)
/-- The block of a new array variable, the array stored. -/
theorem var_blk (w : World) (z q : Array Value) (hz : z.size = q.size) : Blk ((w.alloc (.cells z 22)).setCells w.heap.size 0 q.toList) w.heap.size 22 q ∧ Below w.heap.size w ((w.alloc (.cells z 22)).setCells w.heap.size 0 q.toList) :=
  ⟨Blk.setAll (Blk.new w 22 z) hz, below_setCells _ _ _ ((Below.refl _ w).alloc (Nat.le_refl _) _) (Nat.le_refl _)⟩
theorem there_new (w : World) (z q : Array Value) (hz : z.size = q.size) : (w.alloc (.cells z 22)).there w.heap.size 0 q.size := Blk.there (Blk.new w 22 z) hz.symm
theorem parse_call (s : ByteArray) (w : World) (hT : Tab w) (hs : s.size ≤ maxLen) (q : Array Value) (e : Option (Int × Int)) (h : (vc (parseR (bys s)).1 = q) ∧ (parseR (bys s)).2 = e) :
    Calls Tryd.prog 9 #[.string s] w fun r w' => r = .returned (.tuple #[.agg q, errV e]) ∧ Below w.heap.size w w' := by
  have := parse_any s w hT hs
  unfold parseV at this
  rw [h.1, h.2] at this
  exact this
set_option maxRecDepth 100000 in
set_option maxHeartbeats 4000000 in
theorem awake_any (w : World) (hT : Tab w) (hE : Err w) : Calls Tryd.prog 7 #[] w fun e w' => e = .returned (.bool true) ∧ Below w.heap.size w w' := by
  have hP := print_any zeros w zeros_len (by simp [zeros])
  rw [print0] at hP
  obtain ⟨z, hz⟩ : ∃ z, vc zeros = z := ⟨_, rfl⟩
  obtain ⟨q, hq⟩ : ∃ q, vc one16 = q := ⟨_, rfl⟩
  have hzs : z.size = 16 := by rw [← hz, vc_size, zeros_len]
  have hqs : q.size = 16 := by rw [← hq]; rfl
  have hqo : q.all (·.oneCell') = true := by rw [← hq]; exact vc_one _
  have hzo : z.all (·.oneCell') = true := by rw [← hz]; exact vc_one _
  have heq : ∀ W, (binOp .eql 22 (.agg q) (.agg #[Value.int .u8 1, .int .u8 0, .int .u8 0, .int .u8 0, .int .u8 0, .int .u8 0, .int .u8 0, .int .u8 0, .int .u8 0, .int .u8 0, .int .u8 0, .int .u8 0, .int .u8 0, .int .u8 0, .int .u8 0, .int .u8 0])).run Tryd.prog W = .ok (.bool true) W := fun W => by
    rw [one_vc, ← hq]
    exact run_arr_eql W one16 one16 (by rfl) (by rfl)
  have h1 : vc (parseR (bys ⟨#[65, 81, 65, 65, 65, 65, 65, 65, 65, 65, 65, 65, 65, 65, 65, 65, 65, 65, 65, 65, 65, 65]⟩)).1 = q ∧ (parseR (bys ⟨#[65, 81, 65, 65, 65, 65, 65, 65, 65, 65, 65, 65, 65, 65, 65, 65, 65, 65, 65, 65, 65, 65]⟩)).2 = none := by rw [parse1]; exact ⟨hq, rfl⟩
  have h2 : vc (parseR (bys ⟨#[65]⟩)).1 = z ∧ (parseR (bys ⟨#[65]⟩)).2 = some (4, 1) := by rw [parse2]; exact ⟨hz, rfl⟩
  have HH := Lib.hid (And.intro h1 h2)
  have HT := Lib.hid hT
  have HE := Lib.hid hE
  clear h1 h2 hT hE hq
  go_enter Tryd.func7, Tryd.ntmps7
  go_wp2_with (first | (go_at_call 8; refine hP.mono ?_; rintro _ w1 ⟨⟨s, rfl, hs⟩, hb⟩; refine Hid.out ?_))
  refine Lib.hid ?_
  obtain rfl : s = ⟨#[65, 65, 65, 65, 65, 65, 65, 65, 65, 65, 65, 65, 65, 65, 65, 65, 65, 65, 65, 65, 65, 65]⟩ := bys_inj (by rw [hs]; decide +kernel)
  have HB1 := Lib.hid hb
  have hp := parse_call _ w1 (HT.out.below hb) (by unfold maxLen; decide) q none HH.out.1
  clear hb hs hP
  go_wp2_with (first | (go_at_call 9; refine hp.mono ?_; rintro _ w2 ⟨rfl, hb⟩; refine Hid.out ?_))
  refine Lib.hid ?_
  have HB2 := Lib.hid (HB1.out.trans (hb.mono HB1.out.size))
  clear hb hp HB1
  rw [show errV none = Value.nilIface from rfl]
  have hth := there_new w2 #[Value.int .u8 0, Value.int .u8 0, Value.int .u8 0, Value.int .u8 0, Value.int .u8 0, Value.int .u8 0, Value.int .u8 0, Value.int .u8 0, Value.int .u8 0, Value.int .u8 0, Value.int .u8 0, Value.int .u8 0, Value.int .u8 0, Value.int .u8 0, Value.int .u8 0, Value.int .u8 0] q (by rw [hqs]; rfl)
  obtain ⟨hv2, hvb⟩ := var_blk w2 #[Value.int .u8 0, Value.int .u8 0, Value.int .u8 0, Value.int .u8 0, Value.int .u8 0, Value.int .u8 0, Value.int .u8 0, Value.int .u8 0, Value.int .u8 0, Value.int .u8 0, Value.int .u8 0, Value.int .u8 0, Value.int .u8 0, Value.int .u8 0, Value.int .u8 0, Value.int .u8 0] q (by rw [hqs]; rfl)
  have HV := Lib.hid (And.intro hv2 hvb)
  clear hv2 hvb
  go_wp2_with ((with_reducible (show wpList _ _ _ ({ dst := none, op := Op.store 22 _ _, type := _, pos := _, after := _, guard := _ } :: _) _ _)); refine wpList_store_mid rfl 22 (.tmp 2) (.tmp 12) rfl w2.heap.size 0 q rfl rfl hth (by rw [show q.size = 16 from hqs]; kernel_rfl) hqo ?_; refine Hid.out ?_)
  refine Lib.hid ?_
  clear hth
  have H3 := Lib.hid (HB2.out.trans (HV.out.2.mono HB2.out.size))
  have HQ3 := Lib.hid HV.out.1
  generalize (w2.alloc (.cells #[Value.int .u8 0, Value.int .u8 0, Value.int .u8 0, Value.int .u8 0, Value.int .u8 0, Value.int .u8 0, Value.int .u8 0, Value.int .u8 0, Value.int .u8 0, Value.int .u8 0, Value.int .u8 0, Value.int .u8 0, Value.int .u8 0, Value.int .u8 0, Value.int .u8 0, Value.int .u8 0] 22)).setCells w2.heap.size 0 q.toList = w3 at *
  generalize w2.heap.size = g2 at *
  clear HV HB2
  have hp := parse_call ⟨#[65]⟩ w3 (HT.out.below H3.out) (by unfold maxLen; decide) z (some (4, 1)) HH.out.2
  go_wp2_with (first | (go_at_call 9; refine hp.mono ?_; rintro _ w4 ⟨rfl, hb⟩; refine Hid.out ?_))
  refine Lib.hid ?_
  have HQ4 := Lib.hid (Blk.below HQ3.out hb (Blk.lt HQ3.out))
  have HB4 := Lib.hid (H3.out.trans (hb.mono H3.out.size))
  clear hb hp H3 HQ3
  obtain ⟨v4, hv4⟩ : ∃ v4, errV (some (4, 1)) = v4 := ⟨_, rfl⟩
  rw [hv4]
  have HV4 := Lib.hid hv4
  clear hv4
  have hth := there_new w4 #[Value.int .u8 0, Value.int .u8 0, Value.int .u8 0, Value.int .u8 0, Value.int .u8 0, Value.int .u8 0, Value.int .u8 0, Value.int .u8 0, Value.int .u8 0, Value.int .u8 0, Value.int .u8 0, Value.int .u8 0, Value.int .u8 0, Value.int .u8 0, Value.int .u8 0, Value.int .u8 0] z (by rw [hzs]; rfl)
  obtain ⟨hv2, hvb⟩ := var_blk w4 #[Value.int .u8 0, Value.int .u8 0, Value.int .u8 0, Value.int .u8 0, Value.int .u8 0, Value.int .u8 0, Value.int .u8 0, Value.int .u8 0, Value.int .u8 0, Value.int .u8 0, Value.int .u8 0, Value.int .u8 0, Value.int .u8 0, Value.int .u8 0, Value.int .u8 0, Value.int .u8 0] z (by rw [hzs]; rfl)
  have HV := Lib.hid (And.intro hv2 hvb)
  clear hv2 hvb
  go_wp2_with ((with_reducible (show wpList _ _ _ ({ dst := none, op := Op.store 22 _ _, type := _, pos := _, after := _, guard := _ } :: _) _ _)); refine wpList_store_mid rfl 22 (.tmp 4) (.tmp 16) rfl w4.heap.size 0 z rfl rfl hth (by rw [show z.size = 16 from hzs]; kernel_rfl) hzo ?_; refine Hid.out ?_)
  refine Lib.hid ?_
  clear hth
  have HQ5 := Lib.hid (Blk.below HQ4.out HV.out.2 (Blk.lt HQ4.out))
  have H5 := Lib.hid (HB4.out.trans (HV.out.2.mono HB4.out.size))
  generalize (w4.alloc (.cells #[Value.int .u8 0, Value.int .u8 0, Value.int .u8 0, Value.int .u8 0, Value.int .u8 0, Value.int .u8 0, Value.int .u8 0, Value.int .u8 0, Value.int .u8 0, Value.int .u8 0, Value.int .u8 0, Value.int .u8 0, Value.int .u8 0, Value.int .u8 0, Value.int .u8 0, Value.int .u8 0] 22)).setCells w4.heap.size 0 z.toList = w5 at *
  clear HV HQ4 HB4
  have hc := char_in 63 w5 (by omega)
  have hr := Blk.rangeAt HQ5.out
  have hval := fun (c : Nat) (v : Int) (h : vOf c = v) (hc : c < 256) (W : World) (hW : Below w.heap.size w W) => (h ▸ value_any c W (HT.out.below hW) hc)
  have htold : ∀ W, Below w.heap.size w W → Calls Tryd.prog 12 #[v4, .int .i64 4, .int .i64 1] W fun r w' => r = .returned (.bool true) ∧ Below W.heap.size W w' := fun W hW => by
    have := told_any (some (4, 1)) 4 1 W (HE.out.below hW)
    rw [HV4.out] at this
    exact this
  go_wp2_with (first
    | (go_at_call 14; refine hc.mono ?_; rintro _ _ ⟨rfl, rfl⟩)
    | ((with_reducible (show wpList _ _ _ ({ dst := _, op := Op.load 22 _, type := _, pos := _, after := _, guard := _ } :: _) _ _)); refine wpList_load_g rfl 22 (.tmp 2) rfl g2 0 rfl q.toList (.array 16 5) hr Tryd.underlying22 rfl (by rw [show q.toList.length = 16 by simpa using hqs]; kernel_rfl) ?_)
    | (go_at_call 12; refine (htold _ H5.out).mono ?_; rintro _ w6 ⟨rfl, hb⟩; refine Hid.out ?_))
  refine Lib.hid ?_
  have H6 := Lib.hid (H5.out.trans (hb.mono H5.out.size))
  clear hb
  go_wp2_with (first
    | (go_at_call 13; refine (hval 43 62 (by decide +kernel) (by omega) _ H6.out).mono ?_; rintro _ w7 ⟨rfl, hb⟩; refine Hid.out ?_))
  refine Lib.hid ?_
  have H7 := Lib.hid (H6.out.trans (hb.mono H6.out.size))
  clear hb
  go_wp2_with (first
    | (go_at_call 13; refine (hval 61 (-1) (by decide +kernel) (by omega) _ H7.out).mono ?_; rintro _ w8 ⟨rfl, hb⟩; refine Hid.out ?_))
  refine Lib.hid ?_
  have H8 := Lib.hid (H7.out.trans (hb.mono H7.out.size))
  clear hb
  go_wp2_with fail
  go_ret
  exact ⟨ret_true (by simp; try decide +kernel), H8.out⟩
end Go.Proofs.YtojfghfgaljkkaaDoor
