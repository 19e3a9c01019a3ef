import Derived.Test.YtojfghfgaljkkaaDoorPrn
namespace Go.Proofs.YtojfghfgaljkkaaDoor
open Go.ChangeShapes Go.WideShapes Go.ChangeAt Go.RowKit
set_option linter.unusedVariables false
set_option linter.unusedSimpArgs false
theorem Bys.of_blk {w : World} {g : Nat} {t : TypeId} {l : List Nat} (h : Blk w g t (vc l)) (h9 : ∀ x ∈ l, x < 256) : Bys w (some ⟨g, 0, none⟩) l.length l := by
  refine ⟨⟨by simp, fun _ => ⟨_, rfl, Blk.lt h, fun j u hu => ?_⟩⟩, h9⟩
  rw [add_none, Nat.zero_add, Blk.cell h]
  simpa [vc] using hu
theorem cells_four (w : World) (a b c d : Value) (t : TypeId) : ∀ j u, [a, b, c, d][j]? = some u → (w.alloc (.cells #[a, b, c, d] t)).cell? ((⟨w.heap.size, 0, none⟩ : Addr).add j) = some u := by
  intro j u hu
  rw [add_none, Nat.zero_add, Blk.cell (Blk.new w t #[a, b, c, d]) j]
  match j with
  | 0 => simpa using hu
  | 1 => simpa using hu
  | 2 => simpa using hu
  | 3 => simpa using hu
  | j + 4 => simp at hu
/-- The bits of the key, and four more. -/
theorem bits132 (l : List Nat) (hl : l.length = 16) : iv (bitsTo l 128) ++ [.int .i64 0, .int .i64 0, .int .i64 0, .int .i64 0] = iv ((List.range 132).map (kb l)) := by
  have e : (List.range 132).map (kb l) = (List.range 128).map (kb l) ++ [0, 0, 0, 0] := by
    rw [show (132 : Nat) = 128 + 4 by rfl, List.range_add, List.map_append]
    congr 1
    simp [List.range, List.range.loop, kb_over l hl]
  rw [e]
  simp [iv, bitsTo, kb]
set_option maxRecDepth 100000 in
set_option maxHeartbeats 4000000 in
theorem rprint_any (l : List Nat) (w : World) (hl : l.length = 16) (h9 : ∀ x ∈ l, x < 256) :
    Calls Tryd.prog 10 #[.agg (vc l)] w fun e w' => (∃ s, e = .returned (.string s) ∧ bys s = printL l) ∧ Below w.heap.size w w' := by
  obtain ⟨q, hq⟩ : ∃ q, q = vc l := ⟨_, rfl⟩
  rw [← hq]
  have HQ := Lib.hid hq
  clear hq
  have HL := Lib.hid hl
  have H9 := Lib.hid h9
  clear hl h9
  obtain ⟨i0, hi, hz0, hz1, hz2⟩ := info_parts info5
  obtain ⟨i3, hj, hy0, hy1, hy2⟩ := info_parts info3
  have hqs : q.size = 16 := by rw [HQ.out, vc_size, HL.out]
  go_enter Tryd.func10, Tryd.ntmps10
  go_upto_region 1 with (fail)
  have hB0 := Blk.new w 22 q
  rw [HQ.out] at hB0
  have hY := Bys.of_blk hB0 H9.out
  rw [HL.out, ← HQ.out] at hY
  have hbits := bits_any (some ⟨w.heap.size, 0, none⟩) 16 16 l _ hY (by omega)
  have hb0 : Below w.heap.size w (w.alloc (.cells q 22)) := (Below.refl _ w).alloc (Nat.le_refl _) _
  have Hb0 := Lib.hid hb0
  clear hB0 hY hb0
  go_wp2_with (first | (go_at_call 17; refine hbits.mono ?_; rintro _ w1 ⟨⟨v1, rfl, ho⟩, hb⟩; refine Hid.out ?_))
  refine Lib.hid ?_
  have HB1 := Lib.hid (Hb0.out.trans (hb.mono (by simp)))
  have hs1 : w.heap.size + 1 ≤ w1.heap.size := by simpa using hb.size
  have HO1 := Lib.hid (show w1.ownsRow (w.alloc (.cells q 22)).heap.size 3 1 v1 128 (iv (bitsTo l 128)) from ho)
  clear hbits hb ho Hb0
  obtain ⟨A1, c1, rfl⟩ := own_form HO1.out
  go_wp2_with (at_builtin; refine wpList_append_any _ rfl (.tmp 10) (.tmp 11) 44 rfl _ 3 i3 (.int .i64 0) 1 8 Tryd.underlying44 hj hy0 hy1 hy2 rfl (by decide) _ _ _ rfl (HO1.out.alloc _) (w1.heap.size + 1) (some ⟨w1.heap.size, 0, none⟩) 4 4 [.int .i64 0, .int .i64 0, .int .i64 0, .int .i64 0] rfl ⟨rfl, fun _ => ⟨_, rfl, by simp, cells_four _ _ _ _ _ _⟩⟩ (by simp [Value.oneCell']) (by unfold maxLen; omega) (by omega) (by simp; omega) ?_; intro v2 w2 ho2 hg2 hx2; refine Hid.out ?_)
  refine Lib.hid ?_
  have hb2 := below_own (HB1.out.alloc HB1.out.size _) (HO1.out.alloc _) hg2 (by simp) (Nat.le_trans HB1.out.size (by simp))
  have ho3 : w2.ownsRow (w.alloc (.cells q 22)).heap.size 3 1 v2 132 (iv ((List.range 132).map (kb l))) := by rw [← bits132 l HL.out]; exact ho2
  obtain ⟨A2, c2, rfl⟩ := own_form ho3
  have HR := Lib.hid (Reads.of_own ho3)
  have HB2 := Lib.hid hb2
  clear ho2 hg2 hx2 hb2 ho3 HO1 HB1 hs1
  go_wp2_with fail
  go_loopw [5, 6] (fun s5 s6 wr => ∃ (e : Nat), e ≤ 22 ∧ s6 = .int .i64 e ∧ wr.ownsRow w2.heap.size 5 1 s5 e (chV l e) ∧ Below w2.heap.size w2 wr) (fun _ i _ => 22 - (intOf i).toNat)
  case atStart => exact ⟨0, by omega, rfl, World.ownsRow_nil w2 _ _ _, Below.refl _ _⟩
  case round =>
    obtain ⟨e, he, rfl, ho, hbel⟩ := hrel
    have HO := Lib.hid ho
    have HBE := Lib.hid hbel
    have hsz := hbel.size
    clear ho hbel
    obtain ⟨A3, c3, rfl⟩ := own_form HO.out
    by_cases hlt : e < 22
    · go_wp2_with fail
      go_loopw [7, 8] (fun s7 s8 wx => ∃ (k : Nat), k ≤ 6 ∧ s7 = .int .i64 ((gv (kb l) (6 * e) k : Nat) : Int) ∧ s8 = .int .i64 k ∧ wx = wr) (fun _ i _ => 6 - (intOf i).toNat)
      case atStart => exact ⟨0, by omega, rfl, rfl, rfl⟩
      case round =>
        obtain ⟨k, hk, rfl, rfl, rfl⟩ := hrel
        have hgl : gv (kb l) (6 * e) k < 64 := by
          have h1 := gv_lt (kb l) (kb_le l) (6 * e) k
          have h2 := Nat.pow_le_pow_right (n := 2) (by omega) hk
          omega
        by_cases hk6 : k < 6
        · obtain ⟨bk, o, u, rfl, hbk, hu, hcu⟩ := HR.out.cell (k := 6 * e + k) (by omega)
          have hc1 := (HBE.out.cell (p := ⟨bk, o + (6 * e + k), none⟩) hbk).trans hcu
          have hue : u = .int .i64 ((kb l (6 * e + k) : Nat) : Int) := by
            simp only [iv, List.getElem?_map, Option.map_eq_some_iff] at hu
            obtain ⟨y, hy, rfl⟩ := hu
            rw [List.getElem?_range (by omega)] at hy
            simp at hy
            obtain rfl := hy
            rfl
          subst hue
          have hkb := kb_le l (6 * e + k)
          have HG := Lib.hid (show gv (kb l) (6 * e) (k + 1) = 2 * gv (kb l) (6 * e) k + kb l (6 * e + k) from rfl)
          obtain ⟨G, hG⟩ : ∃ G, gv (kb l) (6 * e) k = G := ⟨_, rfl⟩
          obtain ⟨K, hK⟩ : ∃ K, kb l (6 * e + k) = K := ⟨_, rfl⟩
          rw [hG, hK] at HG
          rw [hG] at hgl ⊢
          rw [hK] at hc1 hkb
          clear hu hcu hG hK
          go_wp2_with fail
          go_roundw
          case rel => exact ⟨k + 1, by omega, by rw [HG.out]; go_num, by go_num, by simp⟩
          case measure => simp [intOf]; omega
        · obtain rfl : k = 6 := by omega
          obtain ⟨G, hG⟩ : ∃ G, gv (kb l) (6 * e) 6 = G := ⟨_, rfl⟩
          rw [hG] at hgl ⊢
          have hal := fun W => run_alph G hgl W
          unfold alphS at hal
          have HG := Lib.hid hG
          clear hG
          go_wp2_with (at_builtin; refine wpList_append_any _ rfl (.tmp 31) (.tmp 35) 38 rfl w2.heap.size 5 i0 (.int .u8 0) 1 1 Tryd.underlying38 hi hz0 hz1 hz2 rfl (by decide) _ _ _ rfl (HO.out.alloc _) (wr.heap.size + 1) (some ⟨wr.heap.size, 0, none⟩) 1 1 [.int .u8 (charN G : Nat)] rfl ⟨rfl, fun _ => ⟨_, rfl, by simp, new_one _ _ _⟩⟩ (by simp [Value.oneCell']) (by unfold maxLen; omega) (by omega) (by simp; omega) ?_; intro v7 w7 ho7 hg7 hx7)
          have hb7 := below_own (HBE.out.alloc hsz _) (HO.out.alloc _) hg7 (Nat.le_refl _) (by simp; omega)
          have ho8 : w7.ownsRow w2.heap.size 5 1 v7 (e + 1) (chV l (e + 1)) := by rw [chV_next, HG.out]; exact ho7
          have H7 := Lib.hid (And.intro ho8 hb7)
          clear ho7 hg7 hx7 hb7 ho8
          go_roundw
          case rel => exact ⟨e + 1, by omega, by go_num, H7.out.1, H7.out.2⟩
          case measure => simp [intOf]; omega
    · obtain rfl : e = 22 := by omega
      have hcv := run_conv_own (HO.out) (show chV l 22 = (printL l).map fun (x : Nat) => Value.int .u8 x by simp [chV, printL]) (printL_lt l) (by omega)
      have HBB := Lib.hid (HB2.out.trans (HBE.out.mono HB2.out.size))
      clear HO HBE
      go_wp2_with fail
      go_ret
      exact ⟨⟨_, rfl, bys_str _ (printL_lt l)⟩, HBB.out⟩
end Go.Proofs.YtojfghfgaljkkaaDoor
