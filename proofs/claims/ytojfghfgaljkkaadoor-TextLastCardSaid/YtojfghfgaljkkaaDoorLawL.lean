import Derived.Test.YtojfghfgaljkkaaDoorLawM
import Derived.Test.YtojfghfgaljkkaaDoorLawP
import Derived.Deep.DeepCutAuto
namespace Go.Proofs.YtojfghfgaljkkaaDoor
open Go.ChangeShapes Go.WideShapes Go.ChangeAt Go.RowKit
set_option linter.unusedVariables false
set_option linter.unusedSimpArgs false
theorem keepR {w w' : World} {g : Nat} {cs : List Value} (h : w.rangeAt g 0 cs) (hg : g < w.heap.size) (hb : Below w.heap.size w w') : w'.rangeAt g 0 cs ∧ g < w'.heap.size :=
  ⟨fun j v hv => (hb.cell (p := ⟨g, 0 + j, none⟩) hg).trans (h j v hv), Nat.lt_of_lt_of_le hg hb.size⟩
theorem keepR2 {w w' : World} {g : Nat} {cs : List Value} (h : w.rangeAt g 0 cs ∧ g < w.heap.size) (hb : Below w.heap.size w w') : w'.rangeAt g 0 cs ∧ g < w'.heap.size := keepR h.1 h.2 hb
theorem bys_append (a b : ByteArray) : bys (a ++ b) = bys a ++ bys b := by
  unfold bys
  rw [ByteArray.data_append, Array.toList_append, List.map_append]
theorem bys_take (s : ByteArray) (n : Nat) : bys (s.extract 0 n) = (bys s).take n := by
  unfold bys
  rw [ByteArray.data_extract, Array.toList_extract, List.extract_eq_take_drop, List.drop_zero, Nat.sub_zero, List.map_take]
def lastL (l : List Nat) (v : Nat) : List Nat := (printL l).take 21 ++ [charN (v % 64)]
theorem lastL_len (l : List Nat) (v : Nat) : (lastL l v).length = 22 := by simp [lastL, printL_len]
theorem lastL_get (l : List Nat) (v k : Nat) (h : k < 21) : (lastL l v).getD k 0 = (printL l).getD k 0 := by
  unfold lastL
  rw [List.getD, List.getD, List.getElem?_append_left (by simp [printL_len]; omega), List.getElem?_take, if_pos h]
theorem lastL_21 (l : List Nat) (v : Nat) : (lastL l v).getD 21 0 = charN (v % 64) := by
  unfold lastL
  rw [List.getD, List.getElem?_append_right (by simp [printL_len])]
  simp [printL_len]
theorem parseR_last (l : List Nat) (v : Nat) (hl : l.length = 16) : (parseR (lastL l v)).2 = if v % 16 = 0 then none else some (11, 21) := by
  have h21 : vOf ((lastL l v).getD 21 0) = ((v % 64 : Nat) : Int) := by rw [lastL_21]; exact vOf_charN _ (by omega)
  unfold parseR
  rw [if_neg (by rw [lastL_len]; simp), badAt_none (fun k hk => by
    by_cases h : k < 21
    · rw [lastL_get l v k h, vOf_print l k hk]; omega
    · obtain rfl : k = 21 := by omega
      rw [h21]; omega)]
  simp only []
  rw [h21]
  simp only [Int.toNat_natCast]
  by_cases h : v % 16 = 0
  · rw [if_neg (by omega), if_pos h]
  · rw [if_pos (by omega), if_neg h]
theorem arr16 {q : Array Value} (h : q.size = 16) : ∃ c0 c1 c2 c3 c4 c5 c6 c7 c8 c9 c10 c11 c12 c13 c14 c15, q = #[c0, c1, c2, c3, c4, c5, c6, c7, c8, c9, c10, c11, c12, c13, c14, c15] := by
  obtain ⟨l⟩ := q
  have : l.length = 16 := by simpa using h
  match l, this with
  | [c0, c1, c2, c3, c4, c5, c6, c7, c8, c9, c10, c11, c12, c13, c14, c15], _ => exact ⟨c0, c1, c2, c3, c4, c5, c6, c7, c8, c9, c10, c11, c12, c13, c14, c15, rfl⟩
theorem conv_one {w : World} {a : Addr} {c : Nat} (hc : c < 256) (h : w.cell? a = some (.int .u8 (c : Nat))) : (convert 38 9 (.slice (some a) 1 1)).run Tryd.prog w = .ok (.string (str [c])) w := by
  have := run_convert_bytes_back (P := Tryd.prog) w 38 9 5 a 1 ([c].map UInt8.ofNat) Tryd.underlying38 Tryd.underlying5 Tryd.underlying9 (fun j hj => by
    have hj' : j = 0 := by simpa using hj
    subst hj'
    rw [show a.add 0 = a from rfl, h]
    simp
    omega)
  exact this
theorem cell_top (W : World) (c : Nat) : (W.alloc (.cells #[.int .u8 (c : Nat)] 5)).cell? ⟨W.heap.size, 0, none⟩ = some (.int .u8 (c : Nat)) := by
  exact Blk.cell (Blk.new W 5 #[.int .u8 (c : Nat)]) 0
set_option maxRecDepth 100000 in
set_option maxHeartbeats 4000000 in
theorem last_any (l : List Nat) (v : Nat) (w : World) (hl : l.length = 16) (h9 : ∀ x ∈ l, x < 256) (hv : v < 256) (hT : Tab w) (hE : Err w) : Calls Tryd.prog 6 #[.agg (vc l), .int .u8 (v : Nat)] w fun e w' => e = .returned (.bool true) ∧ Below w.heap.size w w' := by
  have hA : ∀ W, Below w.heap.size w W → Calls Tryd.prog 7 #[] W fun e w' => e = .returned (.bool true) ∧ Below W.heap.size W w' := fun W h => awake_any W (hT.below h) (hE.below h)
  have hR := fun W => rprint_any l W hl h9
  have hC := fun W => char_in (v % 64) W (by omega)
  rw [show (((v % 64 : Nat)) : Int) = (v : Int) % 64 by omega] at hC
  have hc8 := charN_lt (v % 64) (by omega)
  obtain ⟨q, hq⟩ : ∃ q, vc l = q := ⟨_, rfl⟩
  have hqs : q.size = 16 := by rw [← hq, vc_size, hl]
  have hqo : ∀ v ∈ q.toList, v.oneCell' = true := by rw [← hq]; intro x hx; have := vc_one l; rw [Array.all_eq_true'] at this; exact this x (by simpa using hx)
  have hql : q.toList.length = 16 := by simpa using hqs
  have hu := Tryd.underlying22
  have hi : (Tryd.prog.info? 22).map (·.size) = some q.toList.length := by rw [hql]; kernel_rfl
  rw [hq] at hR ⊢
  have HT := Lib.hid hT
  have HE := Lib.hid hE
  have HL := Lib.hid (And.intro hl h9)
  have conv_t : ∀ (W : World) (a : Addr), W.cell? a = some (.int .u8 (charN (v % 64) : Nat)) → (convert 38 9 (.slice (some a) 1 1)).run Tryd.prog W = .ok (.string (str [charN (v % 64)])) W := fun W a h => conv_one hc8 h
  obtain ⟨t, ht⟩ : ∃ t, str [charN (v % 64)] = t := ⟨_, rfl⟩
  have hts : t.size = 1 := by rw [← ht]; rfl
  simp only [ht] at conv_t
  have HC8 := Lib.hid hc8
  have HTT := Lib.hid ht
  clear ht hc8
  have hadd : ∀ s : ByteArray, s.size = 22 → (s.extract 0 21).size + t.size ≤ 9223372036854775807 := fun s h => by simp [hts, h]
  clear hts
  clear hT hE hq h9 hl
  go_enter Tryd.func6, Tryd.ntmps6
  go_upto_region 1 with (fail)
  have HB0 := Lib.hid (Blk.new w 22 q)
  have hb0 : Below w.heap.size w (w.alloc (.cells q 22)) := (Below.refl _ w).alloc (Nat.le_refl _) _
  obtain ⟨w0, hw0⟩ : ∃ w0, w.alloc (.cells q 22) = w0 := ⟨_, rfl⟩
  rw [hw0] at HB0 hb0 ⊢
  have H0 := Lib.hid hb0
  clear hb0 hw0
  go_wp2_with (first | (go_at_call 7; refine (hA _ H0.out).mono ?_; rintro _ w1 ⟨rfl, hb⟩; refine Hid.out ?_))
  refine Lib.hid ?_
  have HB1 := Lib.hid (Blk.below HB0.out hb (Blk.lt HB0.out))
  have H1 := Lib.hid (H0.out.trans (hb.mono H0.out.size))
  clear hb HB0 H0
  go_wp2_with (first | (go_at_call 14; refine (hC _).mono ?_; rintro _ _ ⟨rfl, rfl⟩; refine Hid.out ?_))
  refine Lib.hid ?_
  go_upto_region 4 with (fail)
  have hlt0 : w.heap.size < w1.heap.size := Blk.lt HB1.out
  go_cut [7] (fun s7 wx => ∃ s u : ByteArray, bys s = printL l ∧ s.extract 0 21 = u ∧ s7 = .string (u ++ t) ∧ Below w1.heap.size w1 wx)
  case first =>
    have hlt : w.heap.size < w1.heap.size := Blk.lt HB1.out
    obtain ⟨c0, c1, c2, c3, c4, c5, c6, c7, c8, c9, c10, c11, c12, c13, c14, c15, hcs⟩ := arr16 hqs
    subst hcs
    have m0 := Blk.cell HB1.out 0
    have m1 := Blk.cell HB1.out 1
    have m2 := Blk.cell HB1.out 2
    have m3 := Blk.cell HB1.out 3
    have m4 := Blk.cell HB1.out 4
    have m5 := Blk.cell HB1.out 5
    have m6 := Blk.cell HB1.out 6
    have m7 := Blk.cell HB1.out 7
    have m8 := Blk.cell HB1.out 8
    have m9 := Blk.cell HB1.out 9
    have m10 := Blk.cell HB1.out 10
    have m11 := Blk.cell HB1.out 11
    have m12 := Blk.cell HB1.out 12
    have m13 := Blk.cell HB1.out 13
    have m14 := Blk.cell HB1.out 14
    have m15 := Blk.cell HB1.out 15
    simp only [List.getElem?_toArray, List.getElem?_cons_zero, List.getElem?_cons_succ] at m0 m1 m2 m3 m4 m5 m6 m7 m8 m9 m10 m11 m12 m13 m14 m15
    clear hu hi hqo hql hqs
    go_region_with (go_at_call 10; refine (hR _).mono ?_; rintro _ w4 ⟨⟨s, rfl, hs⟩, hb⟩; have hss : s.size = 22 := (by rw [← bys_len, hs, printL_len]); obtain ⟨u, hu21, hus⟩ : ∃ u, s.extract 0 21 = u ∧ u.size + t.size ≤ 9223372036854775807 := ⟨_, rfl, hadd s hss⟩; try have hcv4 : (convert 38 9 (.slice (some ⟨w1.heap.size, 0, none⟩) 1 1)).run Tryd.prog w4 = .ok (.string t) w4 := conv_t _ _ ((hb.cell (p := ⟨w1.heap.size, 0, none⟩) (by simp)).trans (cell_top w1 _)))
    all_goals (go_wp2_with fail)
    all_goals go_meet
    all_goals (first
      | exact ⟨s, u, hs, hu21, rfl, ((Below.refl _ w1).drew.trans hb).alloc hb.size _⟩
      | exact ⟨s, u, hs, hu21, rfl, (((Below.refl _ w1).alloc (Nat.le_refl _) _).drew).trans (hb.mono (by simp))⟩)
  case rest =>
    obtain ⟨s, u, hs, hu21, rfl, hb⟩ := hcut
    have hbys : bys (u ++ t) = lastL l v := by rw [bys_append, ← hu21, bys_take, hs, ← HTT.out, bys_str _ (by intro x hx; obtain rfl := List.mem_singleton.1 hx; exact HC8.out)]; rfl
    have hsz : (u ++ t).size = 22 := by rw [← bys_len, hbys, lastL_len]
    generalize u ++ t = x at *
    clear hu21 hs conv_t hadd HTT HC8 hR hC hu hi hql hqo
    have H2 := Lib.hid (H1.out.trans (hb.mono H1.out.size))
    clear hb
    have hp := parse_any x wc (HT.out.below H2.out) (by rw [hsz]; unfold maxLen; decide)
    unfold parseV at hp
    rw [hbys] at hp
    have hlen := parseR_len (lastL l v)
    have hpr := parseR_last l v HL.out.1
    obtain ⟨r, hr⟩ : ∃ r, vc (parseR (lastL l v)).1 = r := ⟨_, rfl⟩
    have hrs : r.size = 16 := by rw [← hr, vc_size, hlen]
    have hro : r.all (·.oneCell') = true := by rw [← hr]; exact vc_one _
    rw [hr, hpr] at hp
    clear hr hpr hlen hbys hsz hqs
    obtain ⟨e, he⟩ : ∃ e, errV (if v % 16 = 0 then none else some (11, 21)) = e := ⟨_, rfl⟩
    rw [he] at hp
    have HEE := Lib.hid he
    clear he
    go_wp2_with (first | (go_at_call 9; refine hp.mono ?_; rintro _ w2 ⟨rfl, hb⟩; refine Hid.out ?_))
    refine Lib.hid ?_
    have H3 := Lib.hid (H2.out.trans (hb.mono H2.out.size))
    clear hb hp H2
    have hth := there_new w2 #[Value.int .u8 0, Value.int .u8 0, Value.int .u8 0, Value.int .u8 0, Value.int .u8 0, Value.int .u8 0, Value.int .u8 0, Value.int .u8 0, Value.int .u8 0, Value.int .u8 0, Value.int .u8 0, Value.int .u8 0, Value.int .u8 0, Value.int .u8 0, Value.int .u8 0, Value.int .u8 0] r (by rw [hrs]; rfl)
    obtain ⟨hv2, hvb⟩ := var_blk w2 #[Value.int .u8 0, Value.int .u8 0, Value.int .u8 0, Value.int .u8 0, Value.int .u8 0, Value.int .u8 0, Value.int .u8 0, Value.int .u8 0, Value.int .u8 0, Value.int .u8 0, Value.int .u8 0, Value.int .u8 0, Value.int .u8 0, Value.int .u8 0, Value.int .u8 0, Value.int .u8 0] r (by rw [hrs]; rfl)
    have HV := Lib.hid (And.intro hv2 hvb)
    clear hv2 hvb
    go_wp2_with ((with_reducible (show wpList _ _ _ ({ dst := none, op := Op.store 22 _ _, type := _, pos := _, after := _, guard := _ } :: _) _ _)); refine wpList_store_mid rfl 22 (.tmp 8) (.tmp 29) rfl w2.heap.size 0 r rfl rfl hth (by rw [show r.size = 16 from hrs]; kernel_rfl) hro ?_; refine Hid.out ?_)
    refine Lib.hid ?_
    clear hth
    have H4 := Lib.hid (H3.out.trans (HV.out.2.mono H3.out.size))
    generalize (w2.alloc (.cells #[Value.int .u8 0, Value.int .u8 0, Value.int .u8 0, Value.int .u8 0, Value.int .u8 0, Value.int .u8 0, Value.int .u8 0, Value.int .u8 0, Value.int .u8 0, Value.int .u8 0, Value.int .u8 0, Value.int .u8 0, Value.int .u8 0, Value.int .u8 0, Value.int .u8 0, Value.int .u8 0] 22)).setCells w2.heap.size 0 r.toList = w3 at *
    generalize w2.heap.size = g2 at *
    clear HV H3
    by_cases hv0 : v % 16 = 0
    · have he := HEE.out
      rw [if_pos hv0] at he
      have hv1 : ((v : Int) % 16) = 0 := by omega
      have he' : e = .nilIface := he.symm
      subst he'
      clear HEE he hv0
      go_wp2_with fail
      all_goals (try go_ret)
      all_goals (exact ⟨ret_true (by simp; try omega), H4.out⟩)
    · have he := HEE.out
      rw [if_neg hv0] at he
      have hv1 : ¬((v : Int) % 16) = 0 := by omega
      have ht := told_any (some (11, 21)) 11 21 w3 (HE.out.below H4.out)
      rw [he] at ht
      clear HEE he hv0
      go_wp2_with (first | (go_at_call 12; refine ht.mono ?_; rintro _ w6 ⟨rfl, hb⟩; refine Hid.out ?_))
      all_goals (refine Lib.hid ?_)
      all_goals (go_wp2_with fail)
      all_goals (try go_ret)
      all_goals (exact ⟨ret_true (by simp [toldB]), H4.out.trans (hb.mono H4.out.size)⟩)
end Go.Proofs.YtojfghfgaljkkaaDoor
