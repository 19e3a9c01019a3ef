import Derived.Test.YtojfghfgaljkkaaDoorAwk
namespace Go.Proofs.YtojfghfgaljkkaaDoor
open Go.ChangeShapes Go.WideShapes Go.ChangeAt Go.RowKit
set_option linter.unusedVariables false
set_option linter.unusedSimpArgs false
theorem badAt_is_none {cs : List Nat} (h : badAt cs = none) : ∀ k, k < 22 → 0 ≤ vOf (cs.getD k 0) := by
  intro k hk
  unfold badAt at h
  rw [List.find?_eq_none] at h
  have := h k (by simpa using hk)
  simpa using this
theorem parseR_len (cs : List Nat) : (parseR cs).1.length = 16 := by
  unfold parseR
  split
  · exact zeros_len
  · split
    · exact zeros_len
    · split
      · exact zeros_len
      · exact parseL_len _
theorem parseR_lt (cs : List Nat) : ∀ x ∈ (parseR cs).1, x < 256 := by
  unfold parseR
  have hz : ∀ x ∈ zeros, x < 256 := by simp [zeros]
  split
  · exact hz
  · split
    · exact hz
    · split
      · exact hz
      · exact parseL_lt _
theorem parseR_cases (cs : List Nat) (h9 : ∀ x ∈ cs, x < 256) : (∃ c a : Int, (parseR cs).2 = some (c, a) ∧ c ≠ 0) ∨ ((parseR cs).2 = none ∧ printL (parseR cs).1 = cs) := by
  unfold parseR
  split
  · exact .inl ⟨4, _, rfl, by decide⟩
  · rename_i hl
    split
    · exact .inl ⟨11, _, rfl, by decide⟩
    · rename_i hb
      split
      · exact .inl ⟨11, _, rfl, by decide⟩
      · rename_i hs
        exact .inr ⟨rfl, print_parse cs (by omega) h9 (badAt_is_none hb) (by omega)⟩
set_option maxRecDepth 100000 in
set_option maxHeartbeats 4000000 in
theorem parses_any (s : ByteArray) (w : World) (hs : s.size ≤ maxLen) (hT : Tab w) (hE : Err w) : Calls Tryd.prog 4 #[.string s] w fun e w' => e = .returned (.bool true) ∧ Below w.heap.size w w' := by
  have hA : ∀ W, Below w.heap.size w W → Calls Tryd.prog 7 #[] W fun e w' => e = .returned (.bool true) ∧ Below W.heap.size W w' := fun W h => awake_any W (hT.below h) (hE.below h)
  have hPa := fun W (h : Below w.heap.size w W) => parse_any s W (hT.below h) hs
  have hRa := fun W => rparse_any s W hs
  have hlen := parseR_len (bys s)
  have hPr := fun W => print_any (parseR (bys s)).1 W hlen (parseR_lt _)
  have hcs := parseR_cases (bys s) (bys_lt s)
  have htold := fun (W : World) (h : Below w.heap.size w W) => told_any (parseR (bys s)).2 (codeAt (parseR (bys s)).2).1 (codeAt (parseR (bys s)).2).2 W (hE.below h)
  unfold parseV at hPa
  unfold rparseV at hRa
  obtain ⟨q, hq⟩ : ∃ q, vc (parseR (bys s)).1 = q := ⟨_, rfl⟩
  have hqs : q.size = 16 := by rw [← hq, vc_size, hlen]
  have hqo : q.all (·.oneCell') = true := by rw [← hq]; exact vc_one _
  have hne : ∀ W, (binOp .neq 22 (.agg q) (.agg q)).run Tryd.prog W = .ok (.bool false) W := fun W => by
    rw [← hq]
    have := run_arr_neq W _ _ hlen hlen
    simpa using this
  rw [hq] at hPa hRa hPr
  obtain ⟨e, he⟩ : ∃ e, (parseR (bys s)).2 = e := ⟨_, rfl⟩
  rw [he] at hPa hRa hcs htold
  have htb : toldB e (codeAt e).1 (codeAt e).2 = true := by
    rcases hcs with ⟨c, a, rfl, hc⟩ | ⟨rfl, _⟩
    · simp [toldB, codeAt, hc]
    · simp [toldB, codeAt]
  rw [htb] at htold
  have hcode : (codeAt e).1 ≠ 0 ∨ ((codeAt e).1 = 0 ∧ printL (parseR (bys s)).1 = bys s) := by
    rcases hcs with ⟨c, a, rfl, hc⟩ | ⟨rfl, h⟩
    · exact .inl hc
    · exact .inr ⟨rfl, h⟩
  obtain ⟨v, hv⟩ : ∃ v, errV e = v := ⟨_, rfl⟩
  rw [hv] at hPa htold
  obtain ⟨n, hn⟩ : ∃ n, (codeAt e).1 = n := ⟨_, rfl⟩
  obtain ⟨m, hm⟩ : ∃ m, (codeAt e).2 = m := ⟨_, rfl⟩
  rw [hn] at hRa htold hcode
  rw [hm] at hRa htold
  have HC := Lib.hid hcode
  clear htb hcs hq hlen hcode hn hm hv he hT hE
  go_enter Tryd.func4, Tryd.ntmps4
  go_wp2_with (first | (go_at_call 7; refine (hA _ (Below.refl _ w)).mono ?_; rintro _ w1 ⟨rfl, hb⟩; refine Hid.out ?_))
  refine Lib.hid ?_
  have H1 := Lib.hid hb
  clear hb
  by_cases h300 : 300 < s.size
  · have h300' : (300 : Int) < (s.size : Nat) := by omega
    go_wp2_with (first | (go_at_call 7; refine (hA _ H1.out).mono ?_; rintro _ w2 ⟨rfl, hb⟩; refine Hid.out ?_))
    refine Lib.hid ?_
    go_wp2_with fail
    all_goals (try go_ret)
    all_goals (exact ⟨ret_true (by simp; try omega), H1.out.trans (hb.mono H1.out.size)⟩)
  have h300' : ((s.size : Nat) : Int) ≤ 300 := by omega
  clear h300
  go_wp2_with (first | (go_at_call 9; refine (hPa _ H1.out).mono ?_; rintro _ w2 ⟨rfl, hb⟩; refine Hid.out ?_))
  refine Lib.hid ?_
  have H2 := Lib.hid (H1.out.trans (hb.mono H1.out.size))
  clear hb H1
  have hth := there_new w2 #[Value.int .u8 0, Value.int .u8 0, Value.int .u8 0, Value.int .u8 0, Value.int .u8 0, Value.int .u8 0, Value.int .u8 0, Value.int .u8 0, Value.int .u8 0, Value.int .u8 0, Value.int .u8 0, Value.int .u8 0, Value.int .u8 0, Value.int .u8 0, Value.int .u8 0, Value.int .u8 0] q (by rw [hqs]; rfl)
  obtain ⟨hv2, hvb⟩ := var_blk w2 #[Value.int .u8 0, Value.int .u8 0, Value.int .u8 0, Value.int .u8 0, Value.int .u8 0, Value.int .u8 0, Value.int .u8 0, Value.int .u8 0, Value.int .u8 0, Value.int .u8 0, Value.int .u8 0, Value.int .u8 0, Value.int .u8 0, Value.int .u8 0, Value.int .u8 0, Value.int .u8 0] q (by rw [hqs]; rfl)
  have HV := Lib.hid (And.intro hv2 hvb)
  clear hv2 hvb
  go_wp2_with ((with_reducible (show wpList _ _ _ ({ dst := none, op := Op.store 22 _ _, type := _, pos := _, after := _, guard := _ } :: _) _ _)); refine wpList_store_mid rfl 22 (.tmp 3) (.tmp 19) rfl w2.heap.size 0 q rfl rfl hth (by rw [show q.size = 16 from hqs]; kernel_rfl) hqo ?_; refine Hid.out ?_)
  refine Lib.hid ?_
  clear hth
  have HB3 := Lib.hid HV.out.1
  have H3 := Lib.hid (H2.out.trans (HV.out.2.mono H2.out.size))
  generalize (w2.alloc (.cells #[Value.int .u8 0, Value.int .u8 0, Value.int .u8 0, Value.int .u8 0, Value.int .u8 0, Value.int .u8 0, Value.int .u8 0, Value.int .u8 0, Value.int .u8 0, Value.int .u8 0, Value.int .u8 0, Value.int .u8 0, Value.int .u8 0, Value.int .u8 0, Value.int .u8 0, Value.int .u8 0] 22)).setCells w2.heap.size 0 q.toList = w3 at *
  generalize w2.heap.size = g2 at *
  clear HV H2
  go_wp2_with (first | (go_at_call 11; refine (hRa _).mono ?_; rintro _ w4 ⟨rfl, hb⟩; refine Hid.out ?_))
  refine Lib.hid ?_
  have HB4 := Lib.hid (Blk.below HB3.out hb (Blk.lt HB3.out))
  have H4 := Lib.hid (H3.out.trans (hb.mono H3.out.size))
  clear hb HB3 H3
  have hth := there_new w4 #[Value.int .u8 0, Value.int .u8 0, Value.int .u8 0, Value.int .u8 0, Value.int .u8 0, Value.int .u8 0, Value.int .u8 0, Value.int .u8 0, Value.int .u8 0, Value.int .u8 0, Value.int .u8 0, Value.int .u8 0, Value.int .u8 0, Value.int .u8 0, Value.int .u8 0, Value.int .u8 0] q (by rw [hqs]; rfl)
  obtain ⟨hv2, hvb⟩ := var_blk w4 #[Value.int .u8 0, Value.int .u8 0, Value.int .u8 0, Value.int .u8 0, Value.int .u8 0, Value.int .u8 0, Value.int .u8 0, Value.int .u8 0, Value.int .u8 0, Value.int .u8 0, Value.int .u8 0, Value.int .u8 0, Value.int .u8 0, Value.int .u8 0, Value.int .u8 0, Value.int .u8 0] q (by rw [hqs]; rfl)
  have HV := Lib.hid (And.intro hv2 hvb)
  clear hv2 hvb
  go_wp2_with ((with_reducible (show wpList _ _ _ ({ dst := none, op := Op.store 22 _ _, type := _, pos := _, after := _, guard := _ } :: _) _ _)); refine wpList_store_mid rfl 22 (.tmp 5) (.tmp 24) rfl w4.heap.size 0 q rfl rfl hth (by rw [show q.size = 16 from hqs]; kernel_rfl) hqo ?_; refine Hid.out ?_)
  refine Lib.hid ?_
  clear hth
  have HB5 := Lib.hid (Blk.below HB4.out HV.out.2 (Blk.lt HB4.out))
  have HD5 := Lib.hid HV.out.1
  have H5 := Lib.hid (H4.out.trans (HV.out.2.mono H4.out.size))
  generalize (w4.alloc (.cells #[Value.int .u8 0, Value.int .u8 0, Value.int .u8 0, Value.int .u8 0, Value.int .u8 0, Value.int .u8 0, Value.int .u8 0, Value.int .u8 0, Value.int .u8 0, Value.int .u8 0, Value.int .u8 0, Value.int .u8 0, Value.int .u8 0, Value.int .u8 0, Value.int .u8 0, Value.int .u8 0] 22)).setCells w4.heap.size 0 q.toList = w5 at *
  generalize w4.heap.size = g4 at *
  clear HV HB4 H4
  have hr := Blk.rangeAt HB5.out
  have hr2 := Blk.rangeAt HD5.out
  go_wp2_with (first
    | ((with_reducible (show wpList _ _ _ ({ dst := _, op := Op.load 22 (.tmp 3), type := _, pos := _, after := _, guard := _ } :: _) _ _)); refine wpList_load_g rfl 22 (.tmp 3) rfl g2 0 rfl q.toList (.array 16 5) hr Tryd.underlying22 rfl (by rw [show q.toList.length = 16 by simpa using hqs]; kernel_rfl) ?_)
    | ((with_reducible (show wpList _ _ _ ({ dst := _, op := Op.load 22 (.tmp 5), type := _, pos := _, after := _, guard := _ } :: _) _ _)); refine wpList_load_g rfl 22 (.tmp 5) rfl g4 0 rfl q.toList (.array 16 5) hr2 Tryd.underlying22 rfl (by rw [show q.toList.length = 16 by simpa using hqs]; kernel_rfl) ?_)
    | (go_at_call 12; refine (htold _ H5.out).mono ?_; rintro _ w6 ⟨rfl, hb⟩; refine Hid.out ?_))
  refine Lib.hid ?_
  have HB6 := Lib.hid (Blk.below HB5.out hb (Blk.lt HB5.out))
  have H6 := Lib.hid (H5.out.trans (hb.mono H5.out.size))
  clear hb HB5 HD5 H5 hr hr2
  have hr := Blk.rangeAt HB6.out
  obtain hn | ⟨hn, hp⟩ := HC.out
  · clear HC
    go_wp2_with fail
    all_goals (try go_ret)
    all_goals (exact ⟨ret_true (by simp [hn]), H6.out⟩)
  · subst hn
    clear HC
    have hb0 : ∀ t, bys t = printL (parseR (bys s)).1 → t = s := fun t h => bys_inj (h.trans hp)
    clear hp
    go_wp2_with (first
      | ((with_reducible (show wpList _ _ _ ({ dst := _, op := Op.load 22 (.tmp 3), type := _, pos := _, after := _, guard := _ } :: _) _ _)); refine wpList_load_g rfl 22 (.tmp 3) rfl g2 0 rfl q.toList (.array 16 5) hr Tryd.underlying22 rfl (by rw [show q.toList.length = 16 by simpa using hqs]; kernel_rfl) ?_)
      | (go_at_call 8; refine (hPr _).mono ?_; rintro _ w7 ⟨⟨t, rfl, ht⟩, hb⟩; refine Hid.out ?_))
    refine Lib.hid ?_
    obtain rfl := hb0 t ht
    clear hb0 ht
    go_wp2_with fail
    all_goals (try go_ret)
    all_goals (exact ⟨ret_true (by simp; try omega), H6.out.trans (hb.mono H6.out.size)⟩)
end Go.Proofs.YtojfghfgaljkkaaDoor
