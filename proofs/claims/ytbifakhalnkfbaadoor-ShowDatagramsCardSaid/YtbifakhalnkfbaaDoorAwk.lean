import Derived.Test.YtbifakhalnkfbaaDoorRps
import Derived.Test.YtbifakhalnkfbaaDoorRdg
namespace Go.Proofs.YtbifakhalnkfbaaDoor
open Go.ChangeShapes Go.WideShapes Go.ChangeAt Go.RowKit Go.Sort Go.Deep
set_option linter.unusedVariables false
set_option linter.unusedSimpArgs false
theorem decS_zero : decS 0 = ⟨#[48]⟩ := by kernel_rfl
theorem decS_big : decS 18446744073709551615 = ⟨#[49, 56, 52, 52, 54, 55, 52, 52, 48, 55, 51, 55, 48, 57, 53, 53, 49, 54, 49, 53]⟩ := by kernel_rfl
theorem base_one : baseD 3 ⟨#[97]⟩ ⟨#[98]⟩ 1 = ⟨#[51, 32, 97, 32, 62, 32, 98, 32, 49]⟩ := by kernel_rfl
theorem text_zero : textS zSt = ⟨([110, 101, 120, 116, 32, 48, 32, 108, 97, 115, 116, 32, 45, 32, 97, 99, 99, 101, 112, 116, 101, 100, 32, 48, 32, 114, 101, 102, 117, 115, 101, 100, 32, 48, 32].append [109, 111, 118, 101, 115, 32, 48, 32, 115, 97, 109, 112, 108, 101, 115, 32, 48, 32, 115, 97, 109, 112, 108, 101, 32, 45, 32, 97, 116, 32, 42, 32, 111, 112, 101, 110]).toArray⟩ := by kernel_rfl
theorem rgt_zero : rgtS zSt = true := by decide
theorem ok_zero : StOk zSt := ⟨by decide, by decide, by decide, by decide, by decide, by decide, by decide, by decide, by decide, by decide, by decide, by decide⟩
set_option maxRecDepth 100000 in
theorem row_none (w : World) : Calls Tryd.prog 17 #[.slice none 0 0] w fun e w' => e = .returned (.string ⟨#[110, 111, 110, 101]⟩) ∧ w = w' := by
  go_enter Tryd.func17, Tryd.ntmps17
  go_wp2_with fail
  go_ret
  exact ⟨rfl, rfl⟩
def bigS : ByteArray := ⟨#[49, 56, 52, 52, 54, 55, 52, 52, 48, 55, 51, 55, 48, 57, 53, 53, 49, 54, 49, 53]⟩
theorem dec_big : decN bigS = 18446744073709551615 ∧ decB bigS = true := by
  rw [show bigS = decS 18446744073709551615 from decS_big.symm]
  exact ⟨decN_dec _ (by decide), decB_dec _ (by decide)⟩
theorem par_zero : parS (textS zSt) = zSt ∧ parB (textS zSt) = true := par_text ok_zero rgt_zero
theorem bys_new (W : World) : Bys (W.alloc (.cells #[.int .u8 1] 5)) (some ⟨W.heap.size, 0, none⟩) 1 [1] := by
  refine ⟨⟨rfl, fun _ => ⟨_, rfl, by simp, fun j u hu => ?_⟩⟩, by simp⟩
  have hj : j = 0 := by
    have := (List.getElem?_eq_some_iff.1 hu).1
    simpa using this
  subst hj
  simp at hu
  subst hu
  rw [show (⟨W.heap.size, 0, none⟩ : Addr).add 0 = ⟨W.heap.size, 0, none⟩ from rfl]
  exact (Blk.new W 5 #[.int .u8 1]).cell 0
theorem dg_one (W : World) (hp : Pow W) : Calls Tryd.prog 15 #[.agg #[.int .i64 3, .string ⟨#[97]⟩, .string ⟨#[98]⟩, .slice (some ⟨W.heap.size, 0, none⟩) 1 1]] (W.alloc (.cells #[.int .u8 1] 5)) fun e w' => e = .returned (.string ⟨#[51, 32, 97, 32, 62, 32, 98, 32, 49]⟩) ∧ Below W.heap.size W w' := by
  have B : Below W.heap.size W (W.alloc (.cells #[.int .u8 1] 5)) := (Below.refl _ W).alloc (Nat.le_refl _) _
  refine (sdg_any 3 ⟨#[97]⟩ ⟨#[98]⟩ (some ⟨W.heap.size, 0, none⟩) 1 1 [1] _ (bys_new W) (by decide) (by decide) (by decide) (Nat.le_refl _) (by unfold maxLen; omega) (hp.below B)).mono fun e w' ⟨he, hb⟩ => ⟨?_, B.trans (hb.mono B.size)⟩
  rw [he]
  unfold textD
  rw [if_neg (by omega), base_one]
theorem zv : zSt.v = .agg #[.int .u64 0, .int .u64 0, .bool false, .int .i64 0, .int .i64 0, .string ⟨#[]⟩, .int .i64 0, .int .i64 0, .int .u16 0, .bool false] := rfl
theorem za : zSt.arr = #[.int .u64 0, .int .u64 0, .bool false, .int .i64 0, .int .i64 0, .string ⟨#[]⟩, .int .i64 0, .int .i64 0, .int .u16 0, .bool false] := rfl
set_option maxRecDepth 100000 in
set_option maxHeartbeats 2000000 in
theorem awake_any (w : World) (hT : Tab w) : Calls Tryd.prog 8 #[] w fun e w' => e = .returned (.bool true) ∧ Below w.heap.size w w' := by
  have h1 := status_any zSt w ok_zero hT.pow
  rw [rgt_zero] at h1
  have HP := Lib.hid (fun W (h : Tab W) => show_parse (textS zSt) W h (Nat.le_trans (textS_size ok_zero) (by decide)))
  rw [par_zero.1, par_zero.2] at HP
  have HD := Lib.hid (fun W (h : Tab W) => decimal_any bigS W h (by decide))
  rw [dec_big.1, dec_big.2] at HD
  have HR := Lib.hid (fun W => sright_any zSt W ok_zero)
  rw [rgt_zero] at HR
  rw [zv] at h1 HP HR
  have HT := Lib.hid hT
  obtain ⟨T, hTx⟩ : ∃ x, textS zSt = x := ⟨_, rfl⟩
  rw [hTx] at h1 HP
  rw [text_zero] at hTx
  clear hT
  go_enter Tryd.func8, Tryd.ntmps8
  go_wp2_with (go_at_call 9; refine h1.mono ?_; rintro _ w1 ⟨rfl, hb⟩; refine Hid.out ?_)
  refine Lib.hid ?_
  have HB1 := Lib.hid hb
  have h2 := HP.out w1 (HT.out.below hb)
  clear hb h1
  go_wp2_with (go_at_call 12; refine h2.mono ?_; rintro _ w2 ⟨rfl, hb⟩; refine Hid.out ?_)
  refine Lib.hid ?_
  have B2 := through HB1.out hb
  have HB2 := Lib.hid (B2.alloc B2.size (.cells zSt.arr 27))
  have K2 := Blk.new w2 27 zSt.arr
  clear hb h2 B2
  go_upto_region 3 with (fail)
  rw [za] at HB2 K2
  have hs2 : w2.heap.size < (w2.alloc (.cells #[.int .u64 0, .int .u64 0, .bool false, .int .i64 0, .int .i64 0, .string ⟨#[]⟩, .int .i64 0, .int .i64 0, .int .u16 0, .bool false] 27)).heap.size := by simp
  obtain ⟨w3, hw3⟩ : ∃ W, w2.alloc (.cells #[.int .u64 0, .int .u64 0, .bool false, .int .i64 0, .int .i64 0, .string ⟨#[]⟩, .int .i64 0, .int .i64 0, .int .u16 0, .bool false] 27) = W := ⟨_, rfl⟩
  rw [hw3] at HB2 K2 hs2 ⊢
  clear hw3
  generalize w2.heap.size = q at *
  have h3 := HD.out w3 (HT.out.below HB2.out)
  have HK2 := Lib.hid K2
  clear K2
  go_wp2_with (go_at_call 18; refine h3.mono ?_; rintro _ w4 ⟨rfl, hb⟩; refine Hid.out ?_)
  refine Lib.hid ?_
  have HB4 := Lib.hid (through HB2.out hb)
  have K4 := HK2.out.below hb HK2.out.lt
  have HK4 := Lib.hid K4
  clear hb h3 hs2 HK2 K4
  go_upto_region 4 with (fail)
  subst hTx
  have h15 := dg_one w4 (HT.out.below HB4.out).pow
  go_wp2_with (first
    | ((with_reducible (show wpList _ _ _ ({ dst := _, op := Op.load 27 _, type := _, pos := _, after := _, guard := _ } :: _) _ _)); refine wpList_load_g rfl 27 (.tmp 3) rfl q 0 rfl _ _ (Blk.rangeAt HK4.out) Tryd.underlying27 rfl (by kernel_rfl) ?_)
    | (go_at_call 15; refine h15.mono ?_; rintro _ w5 ⟨rfl, hb⟩; refine Hid.out ?_))
  refine Lib.hid ?_
  have HB5 := Lib.hid (through HB4.out hb)
  have HK5 := Lib.hid (HK4.out.below hb HK4.out.lt)
  have h10 := HR.out w5
  have h17 := row_none w5
  clear hb h15 HK4 HB4 HB2 HB1 HP HD
  go_wp2_with (first
    | ((with_reducible (show wpList _ _ _ ({ dst := _, op := Op.load 27 _, type := _, pos := _, after := _, guard := _ } :: _) _ _)); refine wpList_load_g rfl 27 (.tmp 3) rfl q 0 rfl _ _ (Blk.rangeAt HK5.out) Tryd.underlying27 rfl (by kernel_rfl) ?_)
    | (go_at_call 17; refine h17.mono ?_; rintro _ _ ⟨rfl, rfl⟩)
    | (go_at_call 10; refine h10.mono ?_; rintro _ w6 ⟨rfl, hb⟩))
  all_goals go_ret
  exact ⟨rfl, through HB5.out hb⟩
end Go.Proofs.YtbifakhalnkfbaaDoor
