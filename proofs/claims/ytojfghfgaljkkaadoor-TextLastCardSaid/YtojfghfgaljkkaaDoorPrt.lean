import Derived.Test.YtojfghfgaljkkaaDoorPrs
namespace Go.Proofs.YtojfghfgaljkkaaDoor
open Go.ChangeShapes Go.WideShapes Go.ChangeAt Go.RowKit
set_option linter.unusedVariables false
set_option linter.unusedSimpArgs false
theorem bys_get (s : ByteArray) (j : Nat) (hj : j < s.size) : (bys s).getD j 0 = (s[j]'hj).toNat := by
  have hl : j < (bys s).length := by rw [bys_len]; exact hj
  rw [List.getD, List.getElem?_eq_getElem hl]
  simp [bys]
  rfl
theorem bys_lt (s : ByteArray) : ∀ x ∈ bys s, x < 256 := by
  intro x hx
  simp only [bys, List.mem_map] at hx
  obtain ⟨y, _, rfl⟩ := hx
  exact y.toNat_lt
def parseV (cs : List Nat) : Value := .tuple #[.agg (vc (parseR cs).1), errV (parseR cs).2]
set_option maxRecDepth 100000 in
set_option maxHeartbeats 4000000 in
theorem parse_long (s : ByteArray) (w : World) (hT : Tab w) (hs : s.size = 22) :
    Calls Tryd.prog 9 #[.string s] w fun e w' => e = .returned (parseV (bys s)) ∧ Below w.heap.size w w' := by
  have hne2 : ((s.size : Int) != 22) = false := by simp; omega
  have HT := Lib.hid hT
  clear hT
  go_enter Tryd.func9, Tryd.ntmps9
  go_wp2_with fail
  go_step3
  go_upto_region 2 with (fail)
  rw [zeros_vc]
  have h2 : Blk ((w.alloc (.cells (vc zeros) 22)).alloc (.cells (vc zeros) 22)) w.heap.size 22 (vc zeros) := (Blk.new w 22 (vc zeros)).alloc _
  have h4 : Blk ((w.alloc (.cells (vc zeros) 22)).alloc (.cells (vc zeros) 22)) (w.heap.size + 1) 22 (vc zeros) := by have := Blk.new (w.alloc (.cells (vc zeros) 22)) 22 (vc zeros); simpa using this
  have hb : Below w.heap.size w ((w.alloc (.cells (vc zeros) 22)).alloc (.cells (vc zeros) 22)) := by go_grown
  generalize (w.alloc (.cells (vc zeros) 22)).alloc (.cells (vc zeros) 22) = w1 at *
  have H2 := Lib.hid h2
  have H4 := Lib.hid h4
  have HB := Lib.hid hb
  clear h2 h4 hb
  go_wp2_with fail
  go_step3
  go_wp2_with fail
  go_loopw [5, 6, 7, 8, 17] (fun s5 s6 s7 s8 s17 wr => ∃ (i n V : Nat), i ≤ 22 ∧ 8 * n ≤ 6 * i ∧ 6 * i - 8 * n < 8 ∧ s5 = .int .u32 ((bp (vb (bys s)) (6 * i) % 4294967296 : Nat) : Int) ∧ s6 = .int .i64 ((6 * i - 8 * n : Nat) : Int) ∧ s7 = .int .i64 n ∧ s8 = .int .i64 (V : Nat) ∧ V < 64 ∧ (i = 22 → (V : Int) = vOf ((bys s).getD 21 0)) ∧ s17 = .int .i64 i ∧
      (∀ k, k < i → 0 ≤ vOf ((bys s).getD k 0)) ∧ Blk wr w.heap.size 22 (vc zeros) ∧ Blk wr (w.heap.size + 1) 22 (vc (outL (bys s) n)) ∧ Below w.heap.size w wr) (fun _ _ _ _ i _ => 22 - (intOf i).toNat)
  case atStart => exact ⟨0, 0, 0, by omega, by omega, by omega, rfl, rfl, rfl, rfl, by omega, by omega, rfl, fun k hk => by omega, H2.out, by rw [outL_0]; exact H4.out, HB.out⟩
  case round =>
    clear H2 H4 HB
    obtain ⟨i, n, V, hi, hin, hin2, rfl, rfl, rfl, rfl, hV, hVl, rfl, hok, h2, h4, hb⟩ := hrel
    have H2 := Lib.hid h2
    have H4 := Lib.hid h4
    have HB := Lib.hid hb
    have HOK := Lib.hid hok
    have HVL := Lib.hid hVl
    clear h2 h4 hb hok hVl
    by_cases hlt : i < 22
    · obtain ⟨c, hc⟩ : ∃ c, (s[i]'(by omega)).toNat = c := ⟨_, rfl⟩
      have hc9 : c < 256 := by rw [← hc]; exact UInt8.toNat_lt _
      have hcb : (bys s).getD i 0 = c := by rw [bys_get s i (by omega), hc]
      have hval := fun W hW => value_any c W hW hc9
      have hge := vOf_ge c hc9
      have HCB := Lib.hid hcb
      obtain ⟨v, hv⟩ : ∃ v, vOf c = v := ⟨_, rfl⟩
      rw [hv] at hval hge
      have HV := Lib.hid hv
      clear hv hcb
      obtain ⟨H, hH⟩ : ∃ H, bp (vb (bys s)) (6 * i) % 4294967296 = H := ⟨_, rfl⟩
      obtain ⟨U, hU⟩ : ∃ U, 6 * i - 8 * n = U := ⟨_, rfl⟩
      rw [hH, hU]
      rw [hU] at hin2
      have HH := Lib.hid hH
      have HU := Lib.hid hU
      clear hH hU
      go_wp2_with (first | (go_at_call 13; refine (hval _ (HT.out.below (by exact HB.out))).mono ?_; rintro _ w2 ⟨rfl, hb2⟩; refine Hid.out ?_))
      refine Lib.hid ?_
      have H2b := Lib.hid (Blk.below H2.out hb2 (Blk.lt H2.out))
      have H4b := Lib.hid (Blk.below H4.out hb2 (Blk.lt H4.out))
      have HBb := Lib.hid (HB.out.trans (hb2.mono HB.out.size))
      clear hb2 H2 H4 HB hval
      by_cases hneg : v < 0
      · have hpr : parseV (bys s) = .tuple #[.agg (vc zeros), errV (some (11, (i : Nat)))] := by
          unfold parseV parseR
          rw [if_neg (by rw [bys_len, hs]; omega), badAt_some hlt (by rw [HCB.out, HV.out]; exact hneg) HOK.out]
        have HPR := Lib.hid hpr
        have ht2 := Blk.there (n := 16) H2b.out (by rw [vc_size, zeros_len])
        clear hpr
        go_wp2_with (first
          | (go_at_call 16; refine (new_any _ _ _).mono ?_; rintro _ _ ⟨rfl, rfl⟩)
          | (refine wpList_store_mid rfl 22 (.tmp 2) (.tmp 26) rfl w.heap.size 0 (vc zeros) rfl rfl ht2 (by kernel_rfl) (vc_one _) ?_))
        simp only [go_sem]
        iterate 6 (try first
          | (show Exit.inBlock _ _ Exit.ret _ _; simp only [go_sem]; done)
          | (show Exit.noGoto _ Exit.ret _ _; rw [Exit.noGoto_ret]; try simp only [go_sem])
          | (show Exit.inBlock _ _ Exit.ret _ _; simp only [go_sem])
          | (show Exit.then _ _ Exit.ret _ _; simp only [go_sem]))
        refine bodyPost_ret (results_row_tmp rfl _ _ w.heap.size 22 (vc zeros) (0, 0) (.array 16 5) rfl (Blk.setAll H2b.out rfl) Tryd.underlying22 rfl (by kernel_rfl)) rfl ⟨by rw [HPR.out]; rfl, below_setCells _ _ _ HBb.out (Nat.le_refl _)⟩
      · obtain ⟨x, rfl⟩ : ∃ x : Nat, v = x := ⟨v.toNat, by omega⟩
        have hx64 : x < 64 := by
          have := (charN_vOf c hc9 (by rw [HV.out]; omega)).2
          rw [HV.out] at this; omega
        have hor := u32_or64 H x hx64
        obtain ⟨H2, hH2⟩ : ∃ H2, (H * 64 + x) % 4294967296 = H2 := ⟨_, rfl⟩
        have hz : ((H : Int) * 64 + (x : Int)) % 4294967296 = (H2 : Int) := by omega
        rw [hH2] at hor
        have hokn : ∀ k, k < i + 1 → 0 ≤ vOf ((bys s).getD k 0) := fun k hk => by
          rcases Nat.lt_or_ge k i with h | h
          · exact HOK.out k h
          · obtain rfl : k = i := by omega
            rw [HCB.out, HV.out]; omega
        have hbp : bp (vb (bys s)) (6 * (i + 1)) % 4294967296 = H2 := by
          have hgc := vb_char (bys s) (bys_lt s) i (by rw [bys_len]; omega) (by rw [HCB.out, HV.out]; omega)
          rw [HCB.out, HV.out] at hgc
          rw [show 6 * (i + 1) = 6 * i + 6 by omega, bp_add, hgc, ← hH2, ← HH.out]
          simp
          omega
        have HBP := Lib.hid hbp
        have HOKN := Lib.hid hokn
        have hHl : H < 4294967296 := by have := HH.out; omega
        have hH2l : H2 < 4294967296 := by omega
        have HVX := Lib.hid (show i + 1 = 22 → (x : Int) = vOf ((bys s).getD 21 0) from fun h => by
          obtain rfl : i = 21 := by omega
          rw [HCB.out, HV.out])
        clear hbp hokn HOK hz hH2 hneg
        by_cases h8 : U + 6 < 8
        · go_wp2_with fail
          go_roundw
          case rel => exact ⟨i + 1, n, x, by omega, by omega, by have := HU.out; omega, by rw [HBP.out], by rw [← HU.out]; congr 1; omega, rfl, rfl, hx64, HVX.out, by go_num, HOKN.out, H2b.out, H4b.out, HBb.out⟩
          case measure => simp [intOf]; omega
        · obtain ⟨T, rfl⟩ : ∃ T, U = T + 2 := ⟨U - 2, by omega⟩
          have hn16 : n < 16 := by have := HU.out; omega
          have c4 := (Blk.cell H4b.out n).trans (vc_get _ n (by rw [outL_len]; exact hn16))
          have f4 := Blk.frozen H4b.out n
          have hby : H2 / 2 ^ T % 256 = gv (vb (bys s)) (8 * n) 8 := by
            have ht := take_bits (vb (bys s)) (vb_le _) (6 * (i + 1)) (8 * n) 8 (by have := HU.out; omega)
            rw [show 6 * (i + 1) - (8 * n + 8) = T by have := HU.out; omega] at ht
            rw [← ht, ← HBP.out]
            exact mod_div256 _ _ (by omega)
          have HBY := Lib.hid hby
          clear hby
          go_wp2_with fail
          go_roundw
          case rel =>
            refine ⟨i + 1, n + 1, x, by omega, by have := HU.out; omega, by have := HU.out; omega, by rw [HBP.out], by have := HU.out; congr 1; omega, by go_num, rfl, hx64, HVX.out, by go_num, HOKN.out, Blk.far H2b.out (by simp) _, ?_, HBb.out.setCell (by simp) _⟩
            rw [← outL_next _ _ hn16, ← HBY.out, ← vc_set]
            push_cast
            exact Blk.set_ H4b.out n _
          case measure => simp [intOf]; omega
    · obtain rfl : i = 22 := by omega
      obtain rfl : n = 16 := by omega
      have hVv := HVL.out rfl
      have hnone := badAt_none HOK.out
      have hand : bits .and .i64 (V : Int) 15 = ((V % 16 : Nat) : Int) := by
        have := i64_and_nat V 15 (by omega) (by omega)
        rw [show V &&& 15 = V % 16 from Nat.and_two_pow_sub_one_eq_mod V 4] at this
        exact this
      have hlen : ¬ (bys s).length ≠ 22 := by rw [bys_len, hs]; omega
      by_cases h16 : V % 16 = 0
      · have hpr : parseV (bys s) = .tuple #[.agg (vc (parseL (bys s))), .nilIface] := by
          unfold parseV parseR
          rw [if_neg hlen, hnone]
          simp only
          rw [if_neg (by rw [← hVv]; simpa using h16)]
          rfl
        have HPR := Lib.hid hpr
        rw [h16] at hand
        have h4 := H4.out
        rw [outL_all] at h4
        obtain ⟨p, hp⟩ : ∃ p, parseL (bys s) = p := ⟨_, rfl⟩
        have hpl : p.length = 16 := by rw [← hp]; exact parseL_len _
        rw [hp] at h4 HPR
        have hr4 := Blk.rangeAt h4
        have ht2 := Blk.there (n := (vc p).size) H2.out (by rw [vc_size, vc_size, zeros_len, hpl])
        clear hpr hnone hlen hVv h4 hp
        go_wp2_with (first
          | (refine wpList_load_mid rfl 22 (.tmp 4) rfl (w.heap.size + 1) 0 rfl (vc p).toList (.array 16 5) hr4 Tryd.underlying22 rfl (info16 hpl) ?_)
          | (refine wpList_store_mid rfl 22 (.tmp 2) (.tmp 54) rfl w.heap.size 0 (vc p) rfl rfl ht2 (info16' hpl) (vc_one _) ?_))
        iterate 6 (try first
          | (show Exit.inBlock _ _ Exit.ret _ _; simp only [go_sem]; done)
          | (show Exit.noGoto _ Exit.ret _ _; rw [Exit.noGoto_ret]; try simp only [go_sem])
          | (show Exit.inBlock _ _ Exit.ret _ _; simp only [go_sem])
          | (show Exit.then _ _ Exit.ret _ _; simp only [go_sem]))
        refine bodyPost_ret (results_row_tmp rfl _ _ w.heap.size 22 (vc p) (0, 0) (.array 16 5) rfl (Blk.setAll H2.out (by rw [vc_size, vc_size, zeros_len, hpl])) Tryd.underlying22 rfl (info16' hpl)) rfl ⟨by rw [HPR.out]; rfl, below_setCells _ _ _ HB.out (Nat.le_refl _)⟩
      · have hpr : parseV (bys s) = .tuple #[.agg (vc zeros), errV (some (11, 21))] := by
          unfold parseV parseR
          rw [if_neg hlen, hnone]
          simp only
          rw [if_pos (by rw [← hVv]; simpa using h16)]
        have HPR := Lib.hid hpr
        have ht2 := Blk.there (n := 16) H2.out (by rw [vc_size, zeros_len])
        have hne0 : (((V % 16 : Nat) : Int) != 0) = true := by simp; omega
        clear hpr hnone hlen hVv
        go_wp2_with (first
          | (go_at_call 16; refine (new_any _ _ _).mono ?_; rintro _ _ ⟨rfl, rfl⟩)
          | (refine wpList_store_mid rfl 22 (.tmp 2) (.tmp 52) rfl w.heap.size 0 (vc zeros) rfl rfl ht2 (by kernel_rfl) (vc_one _) ?_))
        iterate 6 (try first
          | (show Exit.inBlock _ _ Exit.ret _ _; simp only [go_sem]; done)
          | (show Exit.noGoto _ Exit.ret _ _; rw [Exit.noGoto_ret]; try simp only [go_sem])
          | (show Exit.inBlock _ _ Exit.ret _ _; simp only [go_sem])
          | (show Exit.then _ _ Exit.ret _ _; simp only [go_sem]))
        refine bodyPost_ret (results_row_tmp rfl _ _ w.heap.size 22 (vc zeros) (0, 0) (.array 16 5) rfl (Blk.setAll H2.out rfl) Tryd.underlying22 rfl (by kernel_rfl)) rfl ⟨by rw [HPR.out]; rfl, below_setCells _ _ _ HB.out (Nat.le_refl _)⟩
theorem parse_any (s : ByteArray) (w : World) (hT : Tab w) (hs : s.size ≤ maxLen) : Calls Tryd.prog 9 #[.string s] w fun e w' => e = .returned (parseV (bys s)) ∧ Below w.heap.size w w' := by
  by_cases h : s.size = 22
  · exact parse_long s w hT h
  · have e : parseV (bys s) = .tuple #[.agg (vc zeros), errV (some (4, (s.size : Nat)))] := by
      unfold parseV parseR
      rw [if_pos (by rw [bys_len]; exact h), bys_len]
    rw [e]
    exact parse_short s w hs h
end Go.Proofs.YtojfghfgaljkkaaDoor
