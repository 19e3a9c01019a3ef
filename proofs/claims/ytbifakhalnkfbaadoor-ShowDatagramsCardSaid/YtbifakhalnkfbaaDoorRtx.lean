import Derived.Test.YtbifakhalnkfbaaDoorTxt
import Derived.Deep.Cut
import Derived.Deep.DeepCutAuto
namespace Go.Proofs.YtbifakhalnkfbaaDoor
open Go.ChangeShapes Go.WideShapes Go.ChangeAt Go.RowKit Go.Sort
set_option linter.unusedVariables false
set_option linter.unusedSimpArgs false
/-- The text of the reference, as it adds it. -/
def rtextS (s : St) : ByteArray :=
  ((((((((((⟨#[110, 101, 120, 116, 32]⟩ : ByteArray) ++ decS s.nx) ++ ⟨#[32, 108, 97, 115, 116, 32]⟩) ++ lsW s) ++ ⟨#[32, 97, 99, 99, 101, 112, 116, 101, 100, 32]⟩) ++ itS s.ac) ++ ⟨#[32, 114, 101, 102, 117, 115, 101, 100, 32]⟩) ++ itS s.rf) ++ ⟨#[32, 109, 111, 118, 101, 115, 32]⟩) ++ itS s.mv) ++
   ⟨#[32, 115, 97, 109, 112, 108, 101, 115, 32]⟩ ++ itS s.sm ++ ⟨#[32, 115, 97, 109, 112, 108, 101, 32]⟩ ++ spW s ++ ⟨#[32, 97, 116, 32]⟩ ++ atW s ++ (if s.cl = true then ⟨#[32, 99, 108, 111, 115, 101, 100]⟩ else ⟨#[32, 111, 112, 101, 110]⟩)
theorem ba_ext {a b : ByteArray} (h : a.data.toList = b.data.toList) : a = b := by cases a; cases b; simp at h; rw [h]
theorem rtext_eq (s : St) : joinS (wordsS s) = rtextS s := by
  apply ba_ext
  unfold rtextS joinS wordsS
  cases hc : s.cl <;> simp [Lib.join, List.intercalate, List.intersperse, endW, hc, openS, closedS, ByteArray.data_append]
theorem rnumI (x : Int) (w : World) (h : sm31 x = true) : Calls Tryd.prog 32 #[.int .i64 x] w fun e w' => e = .returned (.string (itS x)) ∧ Below w.heap.size w w' := by
  have hx : 0 ≤ x ∧ x ≤ 2147483647 := by simpa [sm31] using h
  obtain ⟨n, rfl⟩ : ∃ n : Nat, x = (n : Int) := ⟨x.toNat, by omega⟩
  rw [itS_nat]
  exact rnum_any n w (by omega)
set_option maxRecDepth 100000 in
set_option maxHeartbeats 4000000 in
theorem rtext_any (s : St) (w : World) (hs : StOk s) (hr : rgtS s = true) : Calls Tryd.prog 13 #[s.v] w fun e w' => e = .returned (.string (joinS (wordsS s))) ∧ Below w.heap.size w w' := by
  rw [rtext_eq]
  obtain ⟨a, b, c, d, e, f, g, i, j⟩ := rgt_parts hr
  have hsz := words_size hs hr
  have zL : (lsW s).size ≤ 6000 := hsz _ (by simp [wordsS])
  have zS : (spW s).size ≤ 6000 := hsz _ (by simp [wordsS])
  have zT : (atW s).size ≤ 6000 := hsz _ (by simp [wordsS])
  have zN : (decS s.nx).size ≤ 6000 := hsz _ (by simp [wordsS])
  have z1 : (itS s.ac).size ≤ 6000 := hsz _ (by simp [wordsS])
  have z2 : (itS s.rf).size ≤ 6000 := hsz _ (by simp [wordsS])
  have z3 : (itS s.mv).size ≤ 6000 := hsz _ (by simp [wordsS])
  have z4 : (itS s.sm).size ≤ 6000 := hsz _ (by simp [wordsS])
  have K0 := Blk.new w 25 s.arr
  have H0 := Lib.hid (And.intro ((Below.refl _ w).alloc (Nat.le_refl _) (.cells s.arr 25)) K0)
  have HN := Lib.hid (fun W => number_any s.nx W hs.n1)
  have HL := Lib.hid (fun W => number_any s.ls W hs.l1)
  have HS := Lib.hid (fun W => rnum_any s.sp W (Nat.lt_trans hs.p1 (by decide)))
  have HI := Lib.hid (And.intro (fun W => rnumI s.ac W a) (And.intro (fun W => rnumI s.rf W b) (And.intro (fun W => rnumI s.mv W c) (fun W => rnumI s.sm W d))))
  have hE : (if s.cl = true then (⟨#[32, 99, 108, 111, 115, 101, 100]⟩ : ByteArray) else ⟨#[32, 111, 112, 101, 110]⟩).size ≤ 6000 := by split <;> decide
  unfold rtextS
  have hp0 : (0 : Int) ≤ (s.sp : Int) := by omega
  have hp1 : (s.sp : Int) < 65536 := by have := hs.p1; omega
  have HA := Lib.hid (show (if s.an = true then decS s.ls else dashS) = lsW s from rfl)
  have HB := Lib.hid (show (if decide (0 < s.sm) = true then decS s.sp else dashS) = spW s from rfl)
  have HC := Lib.hid (show (if s.ad = ByteArray.empty then starS else s.ad) = atW s from rfl)
  have ha : (s.ad.toList == ByteArray.empty.toList) = decide (s.ad = ByteArray.empty) := by
    by_cases h : s.ad = ByteArray.empty
    · rw [h]; simp
    · rw [toList_ne h]; simp [h]
  clear hsz hs hr a b c d e f g i j K0
  generalize hL : lsW s = L at *
  generalize hS : spW s = S at *
  generalize hT : atW s = T at *
  clear hL hS hT
  obtain ⟨nx, ls, an, ac, rf, ad, mv, sm, sp, cl⟩ := s
  unfold St.arr at H0
  unfold St.v
  simp only at H0 HN HL HS HI HA HB HC ha hE hp0 hp1 zN z1 z2 z3 z4 ⊢
  generalize decS nx = N at *
  generalize decS ls = L0 at *
  generalize decS sp = S0 at *
  generalize itS ac = I1 at *
  generalize itS rf = I2 at *
  generalize itS mv = I3 at *
  generalize itS sm = I4 at *
  obtain ⟨E, hEe⟩ : ∃ E, (if cl = true then (⟨#[32, 99, 108, 111, 115, 101, 100]⟩ : ByteArray) else ⟨#[32, 111, 112, 101, 110]⟩) = E := ⟨_, rfl⟩
  rw [hEe] at hE ⊢
  have HEE := Lib.hid hEe
  have HAD := Lib.hid ha
  clear hEe ha
  obtain ⟨SP, hSP⟩ : ∃ x : Int, (sp : Int) = x := ⟨_, rfl⟩
  obtain ⟨NX, hNX⟩ : ∃ x : Int, (nx : Int) = x := ⟨_, rfl⟩
  obtain ⟨LS, hLS⟩ : ∃ x : Int, (ls : Int) = x := ⟨_, rfl⟩
  rw [hSP] at H0 HS hp0 hp1 ⊢
  rw [hNX] at H0 HN ⊢
  rw [hLS] at H0 HL ⊢
  clear hSP hNX hLS
  go_enter Tryd.func13, Tryd.ntmps13
  go_upto_if 9 with (fail)
  obtain ⟨B0, K0⟩ := H0.out
  have hl0 := K0.lt
  have hs0 := B0.size
  have HB0 := Lib.hid B0
  have HK0 := Lib.hid K0
  generalize hw0 : w.alloc (.cells #[Value.int IntKind.u64 NX, Value.int IntKind.u64 LS, Value.bool an, Value.int IntKind.i64 ac, Value.int IntKind.i64 rf, Value.string ad, Value.int IntKind.i64 mv, Value.int IntKind.i64 sm, Value.int IntKind.u16 SP, Value.bool cl] 25) = w0 at *
  clear hw0 H0
  have c1 := (K0.cell 1).trans rfl
  have c2 := (K0.cell 2).trans rfl
  clear B0 K0
  go_cut [3] (fun s3 wx => s3 = .string L ∧ Below w0.heap.size w0 wx)
  case first =>
    cases an
    · go_wp2_with fail
      go_meet
      exact ⟨congrArg Value.string HA.out, Below.refl _ _⟩
    · go_wp2_with (go_at_call 19; refine (HL.out _).mono ?_; rintro _ wq ⟨rfl, hb⟩; refine Hid.out ?_)
      refine Lib.hid ?_
      go_wp2_with fail
      go_meet
      exact ⟨congrArg Value.string HA.out, hb⟩
  case rest =>
    obtain ⟨rfl, hb⟩ := hcut
    have HB1 := Lib.hid hb
    have hs1 := hb.size
    have c7 := (((HK0.out).below hb HK0.out.lt).cell 7).trans rfl
    have c8 := (((HK0.out).below hb HK0.out.lt).cell 8).trans rfl
    clear hb c1 c2
    generalize wc = wx1 at *
    have hl1 : w.heap.size < wx1.heap.size := by omega
    have hcv : IntKind.i64.wrap SP = SP := IntWalk.i64_in _ (by omega)
    go_upto_if 15 with (fail)
    go_cut [4] (fun s4 wx => s4 = .string S ∧ Below wx1.heap.size wx1 wx)
    case first =>
      by_cases h : 0 < sm
      · have hd : decide (0 < sm) = true := decide_eq_true h
        have HH := Lib.hid (show S0 = S by have := HB.out; rw [if_pos hd] at this; exact this)
        clear hd
        go_wp2_with (go_at_call 32; refine (HS.out _).mono ?_; rintro _ wq ⟨rfl, hb⟩; refine Hid.out ?_)
        refine Lib.hid ?_
        go_wp2_with fail
        go_meet
        exact ⟨congrArg Value.string HH.out, hb⟩
      · have hd : decide (0 < sm) = false := decide_eq_false h
        have HH := Lib.hid (show dashS = S by have := HB.out; rw [if_neg (by rw [hd]; decide)] at this; exact this)
        clear hd
        go_wp2_with fail
        go_meet
        exact ⟨congrArg Value.string HH.out, Below.refl _ _⟩
    case rest =>
    obtain ⟨rfl, hb⟩ := hcut
    have hbz := HB1.out.trans (hb.mono hs1)
    have HB2 := Lib.hid hbz
    have hs2 := hbz.size
    have c5 := (((HK0.out).below hbz HK0.out.lt).cell 5).trans rfl
    clear hb hbz c7 c8 HB1 hcv
    generalize wc = wx2 at *
    have hl2 : w.heap.size < wx2.heap.size := by omega
    go_upto_if 22 with (fail)
    go_cut [5] (fun s5 wx => s5 = .string T ∧ wx = wx2)
    case first =>
      have HH := Lib.hid (show ((!ad.toList.isEmpty) = true → ad = T) ∧ ((!ad.toList.isEmpty) = false → starS = T) by
        have := HC.out
        by_cases h : ad = ByteArray.empty
        · rw [if_pos h] at this
          exact ⟨fun h4 => absurd h4 (by rw [h, empty_toList]; decide), fun _ => this⟩
        · rw [if_neg h] at this
          exact ⟨fun _ => this, fun h4 => absurd h4 (by cases hl : ad.toList with | nil => exact absurd (toList_inj (a := ad) (b := ByteArray.empty) (by rw [hl, empty_toList])) h | cons x l => simp)⟩)
      go_wp2_with fail
      all_goals go_meet
      all_goals first
        | exact ⟨congrArg Value.string (HH.out.1 (by assumption)), rfl⟩
        | exact ⟨congrArg Value.string (HH.out.2 (by assumption)), rfl⟩
    case rest =>
    obtain ⟨rfl, rfl⟩ := hcut
    have c9 := (((HK0.out).below HB2.out HK0.out.lt).cell 9).trans rfl
    clear c5
    go_upto_if 26 with (fail)
    go_cut [6] (fun s6 wx => s6 = .string E ∧ wx = wc)
    case first =>
      cases cl
      · go_wp2_with fail
        go_meet
        exact ⟨congrArg Value.string HEE.out, rfl⟩
      · go_wp2_with fail
        go_meet
        exact ⟨congrArg Value.string HEE.out, rfl⟩
    case rest =>
    obtain ⟨rfl, rfl⟩ := hcut
    clear c9
    go_upto_region 13 with (fail)
    have K2 := HK0.out.below HB2.out HK0.out.lt
    have hlt := hl2
    obtain ⟨h1, h2, h3, h4⟩ := HI.out
    obtain ⟨g, hg⟩ : ∃ g, w.heap.size = g := ⟨_, rfl⟩
    have hfw : Below g w wc := hg ▸ HB0.out.trans (HB2.out.mono hs0)
    rw [hg] at K2 hlt ⊢
    obtain ⟨X1, e1, y1⟩ : ∃ x : ByteArray, (⟨#[110, 101, 120, 116, 32]⟩ : ByteArray) ++ N = x ∧ x.size ≤ 7000 := ⟨_, rfl, by rw [ByteArray.size_append]; have h : (⟨#[110, 101, 120, 116, 32]⟩ : ByteArray).size = 5 := rfl; omega⟩
    have f1 : 5 + N.size ≤ 9223372036854775807 := by omega
    obtain ⟨X2, e2, y2⟩ : ∃ x : ByteArray, X1 ++ (⟨#[32, 108, 97, 115, 116, 32]⟩ : ByteArray) = x ∧ x.size ≤ 14000 := ⟨_, rfl, by rw [ByteArray.size_append]; have h : (⟨#[32, 108, 97, 115, 116, 32]⟩ : ByteArray).size = 6 := rfl; omega⟩
    have f2 : X1.size ≤ 9223372036854775801 := by omega
    obtain ⟨X3, e3, y3⟩ : ∃ x : ByteArray, X2 ++ L = x ∧ x.size ≤ 21000 := ⟨_, rfl, by rw [ByteArray.size_append]; omega⟩
    have f3 : X2.size + L.size ≤ 9223372036854775807 := by omega
    obtain ⟨X4, e4, y4⟩ : ∃ x : ByteArray, X3 ++ (⟨#[32, 97, 99, 99, 101, 112, 116, 101, 100, 32]⟩ : ByteArray) = x ∧ x.size ≤ 28000 := ⟨_, rfl, by rw [ByteArray.size_append]; have h : (⟨#[32, 97, 99, 99, 101, 112, 116, 101, 100, 32]⟩ : ByteArray).size = 10 := rfl; omega⟩
    have f4 : X3.size ≤ 9223372036854775797 := by omega
    obtain ⟨X5, e5, y5⟩ : ∃ x : ByteArray, X4 ++ I1 = x ∧ x.size ≤ 35000 := ⟨_, rfl, by rw [ByteArray.size_append]; omega⟩
    have f5 : X4.size + I1.size ≤ 9223372036854775807 := by omega
    obtain ⟨X6, e6, y6⟩ : ∃ x : ByteArray, X5 ++ (⟨#[32, 114, 101, 102, 117, 115, 101, 100, 32]⟩ : ByteArray) = x ∧ x.size ≤ 42000 := ⟨_, rfl, by rw [ByteArray.size_append]; have h : (⟨#[32, 114, 101, 102, 117, 115, 101, 100, 32]⟩ : ByteArray).size = 9 := rfl; omega⟩
    have f6 : X5.size ≤ 9223372036854775798 := by omega
    obtain ⟨X7, e7, y7⟩ : ∃ x : ByteArray, X6 ++ I2 = x ∧ x.size ≤ 49000 := ⟨_, rfl, by rw [ByteArray.size_append]; omega⟩
    have f7 : X6.size + I2.size ≤ 9223372036854775807 := by omega
    obtain ⟨X8, e8, y8⟩ : ∃ x : ByteArray, X7 ++ (⟨#[32, 109, 111, 118, 101, 115, 32]⟩ : ByteArray) = x ∧ x.size ≤ 56000 := ⟨_, rfl, by rw [ByteArray.size_append]; have h : (⟨#[32, 109, 111, 118, 101, 115, 32]⟩ : ByteArray).size = 7 := rfl; omega⟩
    have f8 : X7.size ≤ 9223372036854775800 := by omega
    obtain ⟨X9, e9, y9⟩ : ∃ x : ByteArray, X8 ++ I3 = x ∧ x.size ≤ 63000 := ⟨_, rfl, by rw [ByteArray.size_append]; omega⟩
    have f9 : X8.size + I3.size ≤ 9223372036854775807 := by omega
    obtain ⟨X10, e10, y10⟩ : ∃ x : ByteArray, X9 ++ (⟨#[32, 115, 97, 109, 112, 108, 101, 115, 32]⟩ : ByteArray) = x ∧ x.size ≤ 70000 := ⟨_, rfl, by rw [ByteArray.size_append]; have h : (⟨#[32, 115, 97, 109, 112, 108, 101, 115, 32]⟩ : ByteArray).size = 9 := rfl; omega⟩
    have f10 : X9.size ≤ 9223372036854775798 := by omega
    obtain ⟨X11, e11, y11⟩ : ∃ x : ByteArray, X10 ++ I4 = x ∧ x.size ≤ 77000 := ⟨_, rfl, by rw [ByteArray.size_append]; omega⟩
    have f11 : X10.size + I4.size ≤ 9223372036854775807 := by omega
    obtain ⟨X12, e12, y12⟩ : ∃ x : ByteArray, X11 ++ (⟨#[32, 115, 97, 109, 112, 108, 101, 32]⟩ : ByteArray) = x ∧ x.size ≤ 84000 := ⟨_, rfl, by rw [ByteArray.size_append]; have h : (⟨#[32, 115, 97, 109, 112, 108, 101, 32]⟩ : ByteArray).size = 8 := rfl; omega⟩
    have f12 : X11.size ≤ 9223372036854775799 := by omega
    obtain ⟨X13, e13, y13⟩ : ∃ x : ByteArray, X12 ++ S = x ∧ x.size ≤ 91000 := ⟨_, rfl, by rw [ByteArray.size_append]; omega⟩
    have f13 : X12.size + S.size ≤ 9223372036854775807 := by omega
    obtain ⟨X14, e14, y14⟩ : ∃ x : ByteArray, X13 ++ (⟨#[32, 97, 116, 32]⟩ : ByteArray) = x ∧ x.size ≤ 98000 := ⟨_, rfl, by rw [ByteArray.size_append]; have h : (⟨#[32, 97, 116, 32]⟩ : ByteArray).size = 4 := rfl; omega⟩
    have f14 : X13.size ≤ 9223372036854775803 := by omega
    obtain ⟨X15, e15, y15⟩ : ∃ x : ByteArray, X14 ++ T = x ∧ x.size ≤ 105000 := ⟨_, rfl, by rw [ByteArray.size_append]; omega⟩
    have f15 : X14.size + T.size ≤ 9223372036854775807 := by omega
    obtain ⟨X16, e16, y16⟩ : ∃ x : ByteArray, X15 ++ E = x ∧ x.size ≤ 112000 := ⟨_, rfl, by rw [ByteArray.size_append]; omega⟩
    have f16 : X15.size + E.size ≤ 9223372036854775807 := by omega
    have E1 := Lib.hid e1
    have E2 := Lib.hid e2
    have E3 := Lib.hid e3
    have E4 := Lib.hid e4
    have E5 := Lib.hid e5
    have E6 := Lib.hid e6
    have E7 := Lib.hid e7
    have E8 := Lib.hid e8
    have E9 := Lib.hid e9
    have E10 := Lib.hid e10
    have E11 := Lib.hid e11
    have E12 := Lib.hid e12
    have E13 := Lib.hid e13
    have E14 := Lib.hid e14
    have E15 := Lib.hid e15
    have E16 := Lib.hid e16
    clear e1 e2 e3 e4 e5 e6 e7 e8 e9 e10 e11 e12 e13 e14 e15 e16
    have hR := later_below
    refine wp_region_later (X := []) hR (by kernel_rfl) ?_
    refine WK.pure hR (i := 0) (v := Value.pointer (some { block := g, off := 0 })) rfl (by kernel_rfl) (by kernel_rfl) (by kernel_rfl) (fun _ _ _ h => h) (by kernel_rfl) (fun wz => by go_simp) ?_
    refine WK.frame (a' := { tmps := #[Value.agg #[Value.int IntKind.u64 NX, Value.int IntKind.u64 LS, Value.bool an, Value.int IntKind.i64 ac, Value.int IntKind.i64 rf, Value.string ad, Value.int IntKind.i64 mv, Value.int IntKind.i64 sm, Value.int IntKind.u16 SP, Value.bool cl], Value.pointer (some { block := g, off := 0 }), Value.string { data := #[] }, Value.string L, Value.string S, Value.string T, Value.string E, undef, u8, u9, u10, u11, u12, u13, u14, u15, u16, u17, u18, u19, u20, u21, u22, u23, u24, u25, u26, Value.pointer (some { block := g, off := 0 }), u28, u29, u30, u31, u32, u33, u34, u35, u36, u37, u38, u39, u40, u41, u42, u43, u44, u45, u46, u47, u48, u49, u50, u51, u52, u53, u54, u55, u56, u57, u58, u59, u60, u61, u62], defers := [] }) (by kernel_rfl) ?_
    refine WK.take hR (i := 1) (v := Value.int IntKind.u64 NX) rfl (by kernel_rfl) (by kernel_rfl) (by kernel_rfl) (by kernel_rfl) (fun _ _ _ h => h) (YK.run (by kernel_rfl) (fun wz hz => by have hcell := (hz.cell (p := ⟨g, 0, none⟩) hlt).trans ((K2.cell 0).trans rfl); go_simp)) ?_
    refine WK.frame (a' := { tmps := #[Value.agg #[Value.int IntKind.u64 NX, Value.int IntKind.u64 LS, Value.bool an, Value.int IntKind.i64 ac, Value.int IntKind.i64 rf, Value.string ad, Value.int IntKind.i64 mv, Value.int IntKind.i64 sm, Value.int IntKind.u16 SP, Value.bool cl], Value.pointer (some { block := g, off := 0 }), Value.string { data := #[] }, Value.string L, Value.string S, Value.string T, Value.string E, undef, u8, u9, u10, u11, u12, u13, u14, u15, u16, u17, u18, u19, u20, u21, u22, u23, u24, u25, u26, Value.pointer (some { block := g, off := 0 }), Value.int IntKind.u64 NX, u29, u30, u31, u32, u33, u34, u35, u36, u37, u38, u39, u40, u41, u42, u43, u44, u45, u46, u47, u48, u49, u50, u51, u52, u53, u54, u55, u56, u57, u58, u59, u60, u61, u62], defers := [] }) (by kernel_rfl) ?_
    refine WK.take hR (i := 2) (v := Value.string N) rfl (by kernel_rfl) (by kernel_rfl) (by kernel_rfl) (by kernel_rfl) (fun _ _ _ h => h) (YK.call hR (by kernel_rfl) (fun wz => by go_simp; first | done | rfl) (fun wz hz => HN.out wz)) ?_
    refine WK.frame (a' := { tmps := #[Value.agg #[Value.int IntKind.u64 NX, Value.int IntKind.u64 LS, Value.bool an, Value.int IntKind.i64 ac, Value.int IntKind.i64 rf, Value.string ad, Value.int IntKind.i64 mv, Value.int IntKind.i64 sm, Value.int IntKind.u16 SP, Value.bool cl], Value.pointer (some { block := g, off := 0 }), Value.string { data := #[] }, Value.string L, Value.string S, Value.string T, Value.string E, undef, u8, u9, u10, u11, u12, u13, u14, u15, u16, u17, u18, u19, u20, u21, u22, u23, u24, u25, u26, Value.pointer (some { block := g, off := 0 }), Value.int IntKind.u64 NX, Value.string N, u30, u31, u32, u33, u34, u35, u36, u37, u38, u39, u40, u41, u42, u43, u44, u45, u46, u47, u48, u49, u50, u51, u52, u53, u54, u55, u56, u57, u58, u59, u60, u61, u62], defers := [] }) (by kernel_rfl) ?_
    refine WK.pure hR (i := 3) (v := Value.string X1) rfl (by kernel_rfl) (by kernel_rfl) (by kernel_rfl) (fun _ _ _ h => h) (by kernel_rfl) (fun wz => by rw [← E1.out]; go_simp; first | done | rfl) ?_
    refine WK.frame (a' := { tmps := #[Value.agg #[Value.int IntKind.u64 NX, Value.int IntKind.u64 LS, Value.bool an, Value.int IntKind.i64 ac, Value.int IntKind.i64 rf, Value.string ad, Value.int IntKind.i64 mv, Value.int IntKind.i64 sm, Value.int IntKind.u16 SP, Value.bool cl], Value.pointer (some { block := g, off := 0 }), Value.string { data := #[] }, Value.string L, Value.string S, Value.string T, Value.string E, undef, u8, u9, u10, u11, u12, u13, u14, u15, u16, u17, u18, u19, u20, u21, u22, u23, u24, u25, u26, Value.pointer (some { block := g, off := 0 }), Value.int IntKind.u64 NX, Value.string N, Value.string X1, u31, u32, u33, u34, u35, u36, u37, u38, u39, u40, u41, u42, u43, u44, u45, u46, u47, u48, u49, u50, u51, u52, u53, u54, u55, u56, u57, u58, u59, u60, u61, u62], defers := [] }) (by kernel_rfl) ?_
    refine WK.pure hR (i := 4) (v := Value.string X2) rfl (by kernel_rfl) (by kernel_rfl) (by kernel_rfl) (fun _ _ _ h => h) (by kernel_rfl) (fun wz => by rw [← E2.out]; go_simp; first | done | rfl) ?_
    refine WK.frame (a' := { tmps := #[Value.agg #[Value.int IntKind.u64 NX, Value.int IntKind.u64 LS, Value.bool an, Value.int IntKind.i64 ac, Value.int IntKind.i64 rf, Value.string ad, Value.int IntKind.i64 mv, Value.int IntKind.i64 sm, Value.int IntKind.u16 SP, Value.bool cl], Value.pointer (some { block := g, off := 0 }), Value.string { data := #[] }, Value.string L, Value.string S, Value.string T, Value.string E, undef, u8, u9, u10, u11, u12, u13, u14, u15, u16, u17, u18, u19, u20, u21, u22, u23, u24, u25, u26, Value.pointer (some { block := g, off := 0 }), Value.int IntKind.u64 NX, Value.string N, Value.string X1, Value.string X2, u32, u33, u34, u35, u36, u37, u38, u39, u40, u41, u42, u43, u44, u45, u46, u47, u48, u49, u50, u51, u52, u53, u54, u55, u56, u57, u58, u59, u60, u61, u62], defers := [] }) (by kernel_rfl) ?_
    refine WK.pure hR (i := 5) (v := Value.string L) rfl (by kernel_rfl) (by kernel_rfl) (by kernel_rfl) (fun _ _ _ h => h) (by kernel_rfl) (fun wz => by go_simp) ?_
    refine WK.frame (a' := { tmps := #[Value.agg #[Value.int IntKind.u64 NX, Value.int IntKind.u64 LS, Value.bool an, Value.int IntKind.i64 ac, Value.int IntKind.i64 rf, Value.string ad, Value.int IntKind.i64 mv, Value.int IntKind.i64 sm, Value.int IntKind.u16 SP, Value.bool cl], Value.pointer (some { block := g, off := 0 }), Value.string { data := #[] }, Value.string L, Value.string S, Value.string T, Value.string E, undef, u8, u9, u10, u11, u12, u13, u14, u15, u16, u17, u18, u19, u20, u21, u22, u23, u24, u25, u26, Value.pointer (some { block := g, off := 0 }), Value.int IntKind.u64 NX, Value.string N, Value.string X1, Value.string X2, Value.string L, u33, u34, u35, u36, u37, u38, u39, u40, u41, u42, u43, u44, u45, u46, u47, u48, u49, u50, u51, u52, u53, u54, u55, u56, u57, u58, u59, u60, u61, u62], defers := [] }) (by kernel_rfl) ?_
    refine WK.pure hR (i := 6) (v := Value.string X3) rfl (by kernel_rfl) (by kernel_rfl) (by kernel_rfl) (fun _ _ _ h => h) (by kernel_rfl) (fun wz => by rw [← E3.out]; go_simp; first | done | rfl) ?_
    refine WK.frame (a' := { tmps := #[Value.agg #[Value.int IntKind.u64 NX, Value.int IntKind.u64 LS, Value.bool an, Value.int IntKind.i64 ac, Value.int IntKind.i64 rf, Value.string ad, Value.int IntKind.i64 mv, Value.int IntKind.i64 sm, Value.int IntKind.u16 SP, Value.bool cl], Value.pointer (some { block := g, off := 0 }), Value.string { data := #[] }, Value.string L, Value.string S, Value.string T, Value.string E, undef, u8, u9, u10, u11, u12, u13, u14, u15, u16, u17, u18, u19, u20, u21, u22, u23, u24, u25, u26, Value.pointer (some { block := g, off := 0 }), Value.int IntKind.u64 NX, Value.string N, Value.string X1, Value.string X2, Value.string L, Value.string X3, u34, u35, u36, u37, u38, u39, u40, u41, u42, u43, u44, u45, u46, u47, u48, u49, u50, u51, u52, u53, u54, u55, u56, u57, u58, u59, u60, u61, u62], defers := [] }) (by kernel_rfl) ?_
    refine WK.pure hR (i := 7) (v := Value.string X4) rfl (by kernel_rfl) (by kernel_rfl) (by kernel_rfl) (fun _ _ _ h => h) (by kernel_rfl) (fun wz => by rw [← E4.out]; go_simp; first | done | rfl) ?_
    refine WK.frame (a' := { tmps := #[Value.agg #[Value.int IntKind.u64 NX, Value.int IntKind.u64 LS, Value.bool an, Value.int IntKind.i64 ac, Value.int IntKind.i64 rf, Value.string ad, Value.int IntKind.i64 mv, Value.int IntKind.i64 sm, Value.int IntKind.u16 SP, Value.bool cl], Value.pointer (some { block := g, off := 0 }), Value.string { data := #[] }, Value.string L, Value.string S, Value.string T, Value.string E, undef, u8, u9, u10, u11, u12, u13, u14, u15, u16, u17, u18, u19, u20, u21, u22, u23, u24, u25, u26, Value.pointer (some { block := g, off := 0 }), Value.int IntKind.u64 NX, Value.string N, Value.string X1, Value.string X2, Value.string L, Value.string X3, Value.string X4, u35, u36, u37, u38, u39, u40, u41, u42, u43, u44, u45, u46, u47, u48, u49, u50, u51, u52, u53, u54, u55, u56, u57, u58, u59, u60, u61, u62], defers := [] }) (by kernel_rfl) ?_
    refine WK.pure hR (i := 8) (v := Value.pointer (some { block := g, off := 3 })) rfl (by kernel_rfl) (by kernel_rfl) (by kernel_rfl) (fun _ _ _ h => h) (by kernel_rfl) (fun wz => by go_simp) ?_
    refine WK.frame (a' := { tmps := #[Value.agg #[Value.int IntKind.u64 NX, Value.int IntKind.u64 LS, Value.bool an, Value.int IntKind.i64 ac, Value.int IntKind.i64 rf, Value.string ad, Value.int IntKind.i64 mv, Value.int IntKind.i64 sm, Value.int IntKind.u16 SP, Value.bool cl], Value.pointer (some { block := g, off := 0 }), Value.string { data := #[] }, Value.string L, Value.string S, Value.string T, Value.string E, undef, u8, u9, u10, u11, u12, u13, u14, u15, u16, u17, u18, u19, u20, u21, u22, u23, u24, u25, u26, Value.pointer (some { block := g, off := 0 }), Value.int IntKind.u64 NX, Value.string N, Value.string X1, Value.string X2, Value.string L, Value.string X3, Value.string X4, Value.pointer (some { block := g, off := 3 }), u36, u37, u38, u39, u40, u41, u42, u43, u44, u45, u46, u47, u48, u49, u50, u51, u52, u53, u54, u55, u56, u57, u58, u59, u60, u61, u62], defers := [] }) (by kernel_rfl) ?_
    refine WK.take hR (i := 9) (v := Value.int IntKind.i64 ac) rfl (by kernel_rfl) (by kernel_rfl) (by kernel_rfl) (by kernel_rfl) (fun _ _ _ h => h) (YK.run (by kernel_rfl) (fun wz hz => by have hcell := (hz.cell (p := ⟨g, 3, none⟩) hlt).trans ((K2.cell 3).trans rfl); go_simp)) ?_
    refine WK.frame (a' := { tmps := #[Value.agg #[Value.int IntKind.u64 NX, Value.int IntKind.u64 LS, Value.bool an, Value.int IntKind.i64 ac, Value.int IntKind.i64 rf, Value.string ad, Value.int IntKind.i64 mv, Value.int IntKind.i64 sm, Value.int IntKind.u16 SP, Value.bool cl], Value.pointer (some { block := g, off := 0 }), Value.string { data := #[] }, Value.string L, Value.string S, Value.string T, Value.string E, undef, u8, u9, u10, u11, u12, u13, u14, u15, u16, u17, u18, u19, u20, u21, u22, u23, u24, u25, u26, Value.pointer (some { block := g, off := 0 }), Value.int IntKind.u64 NX, Value.string N, Value.string X1, Value.string X2, Value.string L, Value.string X3, Value.string X4, Value.pointer (some { block := g, off := 3 }), Value.int IntKind.i64 ac, u37, u38, u39, u40, u41, u42, u43, u44, u45, u46, u47, u48, u49, u50, u51, u52, u53, u54, u55, u56, u57, u58, u59, u60, u61, u62], defers := [] }) (by kernel_rfl) ?_
    refine WK.take hR (i := 10) (v := Value.string I1) rfl (by kernel_rfl) (by kernel_rfl) (by kernel_rfl) (by kernel_rfl) (fun _ _ _ h => h) (YK.call hR (by kernel_rfl) (fun wz => by go_simp; first | done | rfl) (fun wz hz => h1 wz)) ?_
    refine WK.frame (a' := { tmps := #[Value.agg #[Value.int IntKind.u64 NX, Value.int IntKind.u64 LS, Value.bool an, Value.int IntKind.i64 ac, Value.int IntKind.i64 rf, Value.string ad, Value.int IntKind.i64 mv, Value.int IntKind.i64 sm, Value.int IntKind.u16 SP, Value.bool cl], Value.pointer (some { block := g, off := 0 }), Value.string { data := #[] }, Value.string L, Value.string S, Value.string T, Value.string E, undef, u8, u9, u10, u11, u12, u13, u14, u15, u16, u17, u18, u19, u20, u21, u22, u23, u24, u25, u26, Value.pointer (some { block := g, off := 0 }), Value.int IntKind.u64 NX, Value.string N, Value.string X1, Value.string X2, Value.string L, Value.string X3, Value.string X4, Value.pointer (some { block := g, off := 3 }), Value.int IntKind.i64 ac, Value.string I1, u38, u39, u40, u41, u42, u43, u44, u45, u46, u47, u48, u49, u50, u51, u52, u53, u54, u55, u56, u57, u58, u59, u60, u61, u62], defers := [] }) (by kernel_rfl) ?_
    refine WK.pure hR (i := 11) (v := Value.string X5) rfl (by kernel_rfl) (by kernel_rfl) (by kernel_rfl) (fun _ _ _ h => h) (by kernel_rfl) (fun wz => by rw [← E5.out]; go_simp; first | done | rfl) ?_
    refine WK.frame (a' := { tmps := #[Value.agg #[Value.int IntKind.u64 NX, Value.int IntKind.u64 LS, Value.bool an, Value.int IntKind.i64 ac, Value.int IntKind.i64 rf, Value.string ad, Value.int IntKind.i64 mv, Value.int IntKind.i64 sm, Value.int IntKind.u16 SP, Value.bool cl], Value.pointer (some { block := g, off := 0 }), Value.string { data := #[] }, Value.string L, Value.string S, Value.string T, Value.string E, undef, u8, u9, u10, u11, u12, u13, u14, u15, u16, u17, u18, u19, u20, u21, u22, u23, u24, u25, u26, Value.pointer (some { block := g, off := 0 }), Value.int IntKind.u64 NX, Value.string N, Value.string X1, Value.string X2, Value.string L, Value.string X3, Value.string X4, Value.pointer (some { block := g, off := 3 }), Value.int IntKind.i64 ac, Value.string I1, Value.string X5, u39, u40, u41, u42, u43, u44, u45, u46, u47, u48, u49, u50, u51, u52, u53, u54, u55, u56, u57, u58, u59, u60, u61, u62], defers := [] }) (by kernel_rfl) ?_
    refine WK.pure hR (i := 12) (v := Value.string X6) rfl (by kernel_rfl) (by kernel_rfl) (by kernel_rfl) (fun _ _ _ h => h) (by kernel_rfl) (fun wz => by rw [← E6.out]; go_simp; first | done | rfl) ?_
    refine WK.frame (a' := { tmps := #[Value.agg #[Value.int IntKind.u64 NX, Value.int IntKind.u64 LS, Value.bool an, Value.int IntKind.i64 ac, Value.int IntKind.i64 rf, Value.string ad, Value.int IntKind.i64 mv, Value.int IntKind.i64 sm, Value.int IntKind.u16 SP, Value.bool cl], Value.pointer (some { block := g, off := 0 }), Value.string { data := #[] }, Value.string L, Value.string S, Value.string T, Value.string E, undef, u8, u9, u10, u11, u12, u13, u14, u15, u16, u17, u18, u19, u20, u21, u22, u23, u24, u25, u26, Value.pointer (some { block := g, off := 0 }), Value.int IntKind.u64 NX, Value.string N, Value.string X1, Value.string X2, Value.string L, Value.string X3, Value.string X4, Value.pointer (some { block := g, off := 3 }), Value.int IntKind.i64 ac, Value.string I1, Value.string X5, Value.string X6, u40, u41, u42, u43, u44, u45, u46, u47, u48, u49, u50, u51, u52, u53, u54, u55, u56, u57, u58, u59, u60, u61, u62], defers := [] }) (by kernel_rfl) ?_
    refine WK.pure hR (i := 13) (v := Value.pointer (some { block := g, off := 4 })) rfl (by kernel_rfl) (by kernel_rfl) (by kernel_rfl) (fun _ _ _ h => h) (by kernel_rfl) (fun wz => by go_simp) ?_
    refine WK.frame (a' := { tmps := #[Value.agg #[Value.int IntKind.u64 NX, Value.int IntKind.u64 LS, Value.bool an, Value.int IntKind.i64 ac, Value.int IntKind.i64 rf, Value.string ad, Value.int IntKind.i64 mv, Value.int IntKind.i64 sm, Value.int IntKind.u16 SP, Value.bool cl], Value.pointer (some { block := g, off := 0 }), Value.string { data := #[] }, Value.string L, Value.string S, Value.string T, Value.string E, undef, u8, u9, u10, u11, u12, u13, u14, u15, u16, u17, u18, u19, u20, u21, u22, u23, u24, u25, u26, Value.pointer (some { block := g, off := 0 }), Value.int IntKind.u64 NX, Value.string N, Value.string X1, Value.string X2, Value.string L, Value.string X3, Value.string X4, Value.pointer (some { block := g, off := 3 }), Value.int IntKind.i64 ac, Value.string I1, Value.string X5, Value.string X6, Value.pointer (some { block := g, off := 4 }), u41, u42, u43, u44, u45, u46, u47, u48, u49, u50, u51, u52, u53, u54, u55, u56, u57, u58, u59, u60, u61, u62], defers := [] }) (by kernel_rfl) ?_
    refine WK.take hR (i := 14) (v := Value.int IntKind.i64 rf) rfl (by kernel_rfl) (by kernel_rfl) (by kernel_rfl) (by kernel_rfl) (fun _ _ _ h => h) (YK.run (by kernel_rfl) (fun wz hz => by have hcell := (hz.cell (p := ⟨g, 4, none⟩) hlt).trans ((K2.cell 4).trans rfl); go_simp)) ?_
    refine WK.frame (a' := { tmps := #[Value.agg #[Value.int IntKind.u64 NX, Value.int IntKind.u64 LS, Value.bool an, Value.int IntKind.i64 ac, Value.int IntKind.i64 rf, Value.string ad, Value.int IntKind.i64 mv, Value.int IntKind.i64 sm, Value.int IntKind.u16 SP, Value.bool cl], Value.pointer (some { block := g, off := 0 }), Value.string { data := #[] }, Value.string L, Value.string S, Value.string T, Value.string E, undef, u8, u9, u10, u11, u12, u13, u14, u15, u16, u17, u18, u19, u20, u21, u22, u23, u24, u25, u26, Value.pointer (some { block := g, off := 0 }), Value.int IntKind.u64 NX, Value.string N, Value.string X1, Value.string X2, Value.string L, Value.string X3, Value.string X4, Value.pointer (some { block := g, off := 3 }), Value.int IntKind.i64 ac, Value.string I1, Value.string X5, Value.string X6, Value.pointer (some { block := g, off := 4 }), Value.int IntKind.i64 rf, u42, u43, u44, u45, u46, u47, u48, u49, u50, u51, u52, u53, u54, u55, u56, u57, u58, u59, u60, u61, u62], defers := [] }) (by kernel_rfl) ?_
    refine WK.take hR (i := 15) (v := Value.string I2) rfl (by kernel_rfl) (by kernel_rfl) (by kernel_rfl) (by kernel_rfl) (fun _ _ _ h => h) (YK.call hR (by kernel_rfl) (fun wz => by go_simp; first | done | rfl) (fun wz hz => h2 wz)) ?_
    refine WK.frame (a' := { tmps := #[Value.agg #[Value.int IntKind.u64 NX, Value.int IntKind.u64 LS, Value.bool an, Value.int IntKind.i64 ac, Value.int IntKind.i64 rf, Value.string ad, Value.int IntKind.i64 mv, Value.int IntKind.i64 sm, Value.int IntKind.u16 SP, Value.bool cl], Value.pointer (some { block := g, off := 0 }), Value.string { data := #[] }, Value.string L, Value.string S, Value.string T, Value.string E, undef, u8, u9, u10, u11, u12, u13, u14, u15, u16, u17, u18, u19, u20, u21, u22, u23, u24, u25, u26, Value.pointer (some { block := g, off := 0 }), Value.int IntKind.u64 NX, Value.string N, Value.string X1, Value.string X2, Value.string L, Value.string X3, Value.string X4, Value.pointer (some { block := g, off := 3 }), Value.int IntKind.i64 ac, Value.string I1, Value.string X5, Value.string X6, Value.pointer (some { block := g, off := 4 }), Value.int IntKind.i64 rf, Value.string I2, u43, u44, u45, u46, u47, u48, u49, u50, u51, u52, u53, u54, u55, u56, u57, u58, u59, u60, u61, u62], defers := [] }) (by kernel_rfl) ?_
    refine WK.pure hR (i := 16) (v := Value.string X7) rfl (by kernel_rfl) (by kernel_rfl) (by kernel_rfl) (fun _ _ _ h => h) (by kernel_rfl) (fun wz => by rw [← E7.out]; go_simp; first | done | rfl) ?_
    refine WK.frame (a' := { tmps := #[Value.agg #[Value.int IntKind.u64 NX, Value.int IntKind.u64 LS, Value.bool an, Value.int IntKind.i64 ac, Value.int IntKind.i64 rf, Value.string ad, Value.int IntKind.i64 mv, Value.int IntKind.i64 sm, Value.int IntKind.u16 SP, Value.bool cl], Value.pointer (some { block := g, off := 0 }), Value.string { data := #[] }, Value.string L, Value.string S, Value.string T, Value.string E, undef, u8, u9, u10, u11, u12, u13, u14, u15, u16, u17, u18, u19, u20, u21, u22, u23, u24, u25, u26, Value.pointer (some { block := g, off := 0 }), Value.int IntKind.u64 NX, Value.string N, Value.string X1, Value.string X2, Value.string L, Value.string X3, Value.string X4, Value.pointer (some { block := g, off := 3 }), Value.int IntKind.i64 ac, Value.string I1, Value.string X5, Value.string X6, Value.pointer (some { block := g, off := 4 }), Value.int IntKind.i64 rf, Value.string I2, Value.string X7, u44, u45, u46, u47, u48, u49, u50, u51, u52, u53, u54, u55, u56, u57, u58, u59, u60, u61, u62], defers := [] }) (by kernel_rfl) ?_
    refine WK.pure hR (i := 17) (v := Value.string X7) rfl (by kernel_rfl) (by kernel_rfl) (by kernel_rfl) (fun _ _ _ h => h) (by kernel_rfl) (fun wz => by go_simp) ?_
    refine WK.frame (a' := { tmps := #[Value.agg #[Value.int IntKind.u64 NX, Value.int IntKind.u64 LS, Value.bool an, Value.int IntKind.i64 ac, Value.int IntKind.i64 rf, Value.string ad, Value.int IntKind.i64 mv, Value.int IntKind.i64 sm, Value.int IntKind.u16 SP, Value.bool cl], Value.pointer (some { block := g, off := 0 }), Value.string { data := #[] }, Value.string L, Value.string S, Value.string T, Value.string E, Value.string X7, u8, u9, u10, u11, u12, u13, u14, u15, u16, u17, u18, u19, u20, u21, u22, u23, u24, u25, u26, Value.pointer (some { block := g, off := 0 }), Value.int IntKind.u64 NX, Value.string N, Value.string X1, Value.string X2, Value.string L, Value.string X3, Value.string X4, Value.pointer (some { block := g, off := 3 }), Value.int IntKind.i64 ac, Value.string I1, Value.string X5, Value.string X6, Value.pointer (some { block := g, off := 4 }), Value.int IntKind.i64 rf, Value.string I2, Value.string X7, u44, u45, u46, u47, u48, u49, u50, u51, u52, u53, u54, u55, u56, u57, u58, u59, u60, u61, u62], defers := [] }) (by kernel_rfl) ?_
    refine WK.done (by kernel_rfl) (fun wd hd => ?_)
    have K3 := K2.below hd K2.lt
    have hlt3 := K3.lt
    have hfw3 : Below g w wd := hfw.trans (hd.mono (by have := hfw.size; omega))
    clear hd hlt K2 hfw
    go_upto_region 14 with (fail)
    refine wp_region_later (X := []) hR (by kernel_rfl) ?_
    refine WK.pure hR (i := 0) (v := Value.string X7) rfl (by kernel_rfl) (by kernel_rfl) (by kernel_rfl) (fun _ _ _ h => h) (by kernel_rfl) (fun wz => by go_simp) ?_
    refine WK.frame (a' := { tmps := #[Value.agg #[Value.int IntKind.u64 NX, Value.int IntKind.u64 LS, Value.bool an, Value.int IntKind.i64 ac, Value.int IntKind.i64 rf, Value.string ad, Value.int IntKind.i64 mv, Value.int IntKind.i64 sm, Value.int IntKind.u16 SP, Value.bool cl], Value.pointer (some { block := g, off := 0 }), Value.string { data := #[] }, Value.string L, Value.string S, Value.string T, Value.string E, Value.string X7, u8, u9, u10, u11, u12, u13, u14, u15, u16, u17, u18, u19, u20, u21, u22, u23, u24, u25, u26, Value.pointer (some { block := g, off := 0 }), Value.int IntKind.u64 NX, Value.string N, Value.string X1, Value.string X2, Value.string L, Value.string X3, Value.string X4, Value.pointer (some { block := g, off := 3 }), Value.int IntKind.i64 ac, Value.string I1, Value.string X5, Value.string X6, Value.pointer (some { block := g, off := 4 }), Value.int IntKind.i64 rf, Value.string I2, Value.string X7, Value.string X7, u45, u46, u47, u48, u49, u50, u51, u52, u53, u54, u55, u56, u57, u58, u59, u60, u61, u62], defers := [] }) (by kernel_rfl) ?_
    refine WK.pure hR (i := 1) (v := Value.string X8) rfl (by kernel_rfl) (by kernel_rfl) (by kernel_rfl) (fun _ _ _ h => h) (by kernel_rfl) (fun wz => by rw [← E8.out]; go_simp; first | done | rfl) ?_
    refine WK.frame (a' := { tmps := #[Value.agg #[Value.int IntKind.u64 NX, Value.int IntKind.u64 LS, Value.bool an, Value.int IntKind.i64 ac, Value.int IntKind.i64 rf, Value.string ad, Value.int IntKind.i64 mv, Value.int IntKind.i64 sm, Value.int IntKind.u16 SP, Value.bool cl], Value.pointer (some { block := g, off := 0 }), Value.string { data := #[] }, Value.string L, Value.string S, Value.string T, Value.string E, Value.string X7, u8, u9, u10, u11, u12, u13, u14, u15, u16, u17, u18, u19, u20, u21, u22, u23, u24, u25, u26, Value.pointer (some { block := g, off := 0 }), Value.int IntKind.u64 NX, Value.string N, Value.string X1, Value.string X2, Value.string L, Value.string X3, Value.string X4, Value.pointer (some { block := g, off := 3 }), Value.int IntKind.i64 ac, Value.string I1, Value.string X5, Value.string X6, Value.pointer (some { block := g, off := 4 }), Value.int IntKind.i64 rf, Value.string I2, Value.string X7, Value.string X7, Value.string X8, u46, u47, u48, u49, u50, u51, u52, u53, u54, u55, u56, u57, u58, u59, u60, u61, u62], defers := [] }) (by kernel_rfl) ?_
    refine WK.pure hR (i := 2) (v := Value.pointer (some { block := g, off := 6 })) rfl (by kernel_rfl) (by kernel_rfl) (by kernel_rfl) (fun _ _ _ h => h) (by kernel_rfl) (fun wz => by go_simp) ?_
    refine WK.frame (a' := { tmps := #[Value.agg #[Value.int IntKind.u64 NX, Value.int IntKind.u64 LS, Value.bool an, Value.int IntKind.i64 ac, Value.int IntKind.i64 rf, Value.string ad, Value.int IntKind.i64 mv, Value.int IntKind.i64 sm, Value.int IntKind.u16 SP, Value.bool cl], Value.pointer (some { block := g, off := 0 }), Value.string { data := #[] }, Value.string L, Value.string S, Value.string T, Value.string E, Value.string X7, u8, u9, u10, u11, u12, u13, u14, u15, u16, u17, u18, u19, u20, u21, u22, u23, u24, u25, u26, Value.pointer (some { block := g, off := 0 }), Value.int IntKind.u64 NX, Value.string N, Value.string X1, Value.string X2, Value.string L, Value.string X3, Value.string X4, Value.pointer (some { block := g, off := 3 }), Value.int IntKind.i64 ac, Value.string I1, Value.string X5, Value.string X6, Value.pointer (some { block := g, off := 4 }), Value.int IntKind.i64 rf, Value.string I2, Value.string X7, Value.string X7, Value.string X8, Value.pointer (some { block := g, off := 6 }), u47, u48, u49, u50, u51, u52, u53, u54, u55, u56, u57, u58, u59, u60, u61, u62], defers := [] }) (by kernel_rfl) ?_
    refine WK.take hR (i := 3) (v := Value.int IntKind.i64 mv) rfl (by kernel_rfl) (by kernel_rfl) (by kernel_rfl) (by kernel_rfl) (fun _ _ _ h => h) (YK.run (by kernel_rfl) (fun wz hz => by have hcell := (hz.cell (p := ⟨g, 6, none⟩) hlt3).trans ((K3.cell 6).trans rfl); go_simp)) ?_
    refine WK.frame (a' := { tmps := #[Value.agg #[Value.int IntKind.u64 NX, Value.int IntKind.u64 LS, Value.bool an, Value.int IntKind.i64 ac, Value.int IntKind.i64 rf, Value.string ad, Value.int IntKind.i64 mv, Value.int IntKind.i64 sm, Value.int IntKind.u16 SP, Value.bool cl], Value.pointer (some { block := g, off := 0 }), Value.string { data := #[] }, Value.string L, Value.string S, Value.string T, Value.string E, Value.string X7, u8, u9, u10, u11, u12, u13, u14, u15, u16, u17, u18, u19, u20, u21, u22, u23, u24, u25, u26, Value.pointer (some { block := g, off := 0 }), Value.int IntKind.u64 NX, Value.string N, Value.string X1, Value.string X2, Value.string L, Value.string X3, Value.string X4, Value.pointer (some { block := g, off := 3 }), Value.int IntKind.i64 ac, Value.string I1, Value.string X5, Value.string X6, Value.pointer (some { block := g, off := 4 }), Value.int IntKind.i64 rf, Value.string I2, Value.string X7, Value.string X7, Value.string X8, Value.pointer (some { block := g, off := 6 }), Value.int IntKind.i64 mv, u48, u49, u50, u51, u52, u53, u54, u55, u56, u57, u58, u59, u60, u61, u62], defers := [] }) (by kernel_rfl) ?_
    refine WK.take hR (i := 4) (v := Value.string I3) rfl (by kernel_rfl) (by kernel_rfl) (by kernel_rfl) (by kernel_rfl) (fun _ _ _ h => h) (YK.call hR (by kernel_rfl) (fun wz => by go_simp; first | done | rfl) (fun wz hz => h3 wz)) ?_
    refine WK.frame (a' := { tmps := #[Value.agg #[Value.int IntKind.u64 NX, Value.int IntKind.u64 LS, Value.bool an, Value.int IntKind.i64 ac, Value.int IntKind.i64 rf, Value.string ad, Value.int IntKind.i64 mv, Value.int IntKind.i64 sm, Value.int IntKind.u16 SP, Value.bool cl], Value.pointer (some { block := g, off := 0 }), Value.string { data := #[] }, Value.string L, Value.string S, Value.string T, Value.string E, Value.string X7, u8, u9, u10, u11, u12, u13, u14, u15, u16, u17, u18, u19, u20, u21, u22, u23, u24, u25, u26, Value.pointer (some { block := g, off := 0 }), Value.int IntKind.u64 NX, Value.string N, Value.string X1, Value.string X2, Value.string L, Value.string X3, Value.string X4, Value.pointer (some { block := g, off := 3 }), Value.int IntKind.i64 ac, Value.string I1, Value.string X5, Value.string X6, Value.pointer (some { block := g, off := 4 }), Value.int IntKind.i64 rf, Value.string I2, Value.string X7, Value.string X7, Value.string X8, Value.pointer (some { block := g, off := 6 }), Value.int IntKind.i64 mv, Value.string I3, u49, u50, u51, u52, u53, u54, u55, u56, u57, u58, u59, u60, u61, u62], defers := [] }) (by kernel_rfl) ?_
    refine WK.pure hR (i := 5) (v := Value.string X9) rfl (by kernel_rfl) (by kernel_rfl) (by kernel_rfl) (fun _ _ _ h => h) (by kernel_rfl) (fun wz => by rw [← E9.out]; go_simp; first | done | rfl) ?_
    refine WK.frame (a' := { tmps := #[Value.agg #[Value.int IntKind.u64 NX, Value.int IntKind.u64 LS, Value.bool an, Value.int IntKind.i64 ac, Value.int IntKind.i64 rf, Value.string ad, Value.int IntKind.i64 mv, Value.int IntKind.i64 sm, Value.int IntKind.u16 SP, Value.bool cl], Value.pointer (some { block := g, off := 0 }), Value.string { data := #[] }, Value.string L, Value.string S, Value.string T, Value.string E, Value.string X7, u8, u9, u10, u11, u12, u13, u14, u15, u16, u17, u18, u19, u20, u21, u22, u23, u24, u25, u26, Value.pointer (some { block := g, off := 0 }), Value.int IntKind.u64 NX, Value.string N, Value.string X1, Value.string X2, Value.string L, Value.string X3, Value.string X4, Value.pointer (some { block := g, off := 3 }), Value.int IntKind.i64 ac, Value.string I1, Value.string X5, Value.string X6, Value.pointer (some { block := g, off := 4 }), Value.int IntKind.i64 rf, Value.string I2, Value.string X7, Value.string X7, Value.string X8, Value.pointer (some { block := g, off := 6 }), Value.int IntKind.i64 mv, Value.string I3, Value.string X9, u50, u51, u52, u53, u54, u55, u56, u57, u58, u59, u60, u61, u62], defers := [] }) (by kernel_rfl) ?_
    refine WK.pure hR (i := 6) (v := Value.string X10) rfl (by kernel_rfl) (by kernel_rfl) (by kernel_rfl) (fun _ _ _ h => h) (by kernel_rfl) (fun wz => by rw [← E10.out]; go_simp; first | done | rfl) ?_
    refine WK.frame (a' := { tmps := #[Value.agg #[Value.int IntKind.u64 NX, Value.int IntKind.u64 LS, Value.bool an, Value.int IntKind.i64 ac, Value.int IntKind.i64 rf, Value.string ad, Value.int IntKind.i64 mv, Value.int IntKind.i64 sm, Value.int IntKind.u16 SP, Value.bool cl], Value.pointer (some { block := g, off := 0 }), Value.string { data := #[] }, Value.string L, Value.string S, Value.string T, Value.string E, Value.string X7, u8, u9, u10, u11, u12, u13, u14, u15, u16, u17, u18, u19, u20, u21, u22, u23, u24, u25, u26, Value.pointer (some { block := g, off := 0 }), Value.int IntKind.u64 NX, Value.string N, Value.string X1, Value.string X2, Value.string L, Value.string X3, Value.string X4, Value.pointer (some { block := g, off := 3 }), Value.int IntKind.i64 ac, Value.string I1, Value.string X5, Value.string X6, Value.pointer (some { block := g, off := 4 }), Value.int IntKind.i64 rf, Value.string I2, Value.string X7, Value.string X7, Value.string X8, Value.pointer (some { block := g, off := 6 }), Value.int IntKind.i64 mv, Value.string I3, Value.string X9, Value.string X10, u51, u52, u53, u54, u55, u56, u57, u58, u59, u60, u61, u62], defers := [] }) (by kernel_rfl) ?_
    refine WK.pure hR (i := 7) (v := Value.pointer (some { block := g, off := 7 })) rfl (by kernel_rfl) (by kernel_rfl) (by kernel_rfl) (fun _ _ _ h => h) (by kernel_rfl) (fun wz => by go_simp) ?_
    refine WK.frame (a' := { tmps := #[Value.agg #[Value.int IntKind.u64 NX, Value.int IntKind.u64 LS, Value.bool an, Value.int IntKind.i64 ac, Value.int IntKind.i64 rf, Value.string ad, Value.int IntKind.i64 mv, Value.int IntKind.i64 sm, Value.int IntKind.u16 SP, Value.bool cl], Value.pointer (some { block := g, off := 0 }), Value.string { data := #[] }, Value.string L, Value.string S, Value.string T, Value.string E, Value.string X7, u8, u9, u10, u11, u12, u13, u14, u15, u16, u17, u18, u19, u20, u21, u22, u23, u24, u25, u26, Value.pointer (some { block := g, off := 0 }), Value.int IntKind.u64 NX, Value.string N, Value.string X1, Value.string X2, Value.string L, Value.string X3, Value.string X4, Value.pointer (some { block := g, off := 3 }), Value.int IntKind.i64 ac, Value.string I1, Value.string X5, Value.string X6, Value.pointer (some { block := g, off := 4 }), Value.int IntKind.i64 rf, Value.string I2, Value.string X7, Value.string X7, Value.string X8, Value.pointer (some { block := g, off := 6 }), Value.int IntKind.i64 mv, Value.string I3, Value.string X9, Value.string X10, Value.pointer (some { block := g, off := 7 }), u52, u53, u54, u55, u56, u57, u58, u59, u60, u61, u62], defers := [] }) (by kernel_rfl) ?_
    refine WK.take hR (i := 8) (v := Value.int IntKind.i64 sm) rfl (by kernel_rfl) (by kernel_rfl) (by kernel_rfl) (by kernel_rfl) (fun _ _ _ h => h) (YK.run (by kernel_rfl) (fun wz hz => by have hcell := (hz.cell (p := ⟨g, 7, none⟩) hlt3).trans ((K3.cell 7).trans rfl); go_simp)) ?_
    refine WK.frame (a' := { tmps := #[Value.agg #[Value.int IntKind.u64 NX, Value.int IntKind.u64 LS, Value.bool an, Value.int IntKind.i64 ac, Value.int IntKind.i64 rf, Value.string ad, Value.int IntKind.i64 mv, Value.int IntKind.i64 sm, Value.int IntKind.u16 SP, Value.bool cl], Value.pointer (some { block := g, off := 0 }), Value.string { data := #[] }, Value.string L, Value.string S, Value.string T, Value.string E, Value.string X7, u8, u9, u10, u11, u12, u13, u14, u15, u16, u17, u18, u19, u20, u21, u22, u23, u24, u25, u26, Value.pointer (some { block := g, off := 0 }), Value.int IntKind.u64 NX, Value.string N, Value.string X1, Value.string X2, Value.string L, Value.string X3, Value.string X4, Value.pointer (some { block := g, off := 3 }), Value.int IntKind.i64 ac, Value.string I1, Value.string X5, Value.string X6, Value.pointer (some { block := g, off := 4 }), Value.int IntKind.i64 rf, Value.string I2, Value.string X7, Value.string X7, Value.string X8, Value.pointer (some { block := g, off := 6 }), Value.int IntKind.i64 mv, Value.string I3, Value.string X9, Value.string X10, Value.pointer (some { block := g, off := 7 }), Value.int IntKind.i64 sm, u53, u54, u55, u56, u57, u58, u59, u60, u61, u62], defers := [] }) (by kernel_rfl) ?_
    refine WK.take hR (i := 9) (v := Value.string I4) rfl (by kernel_rfl) (by kernel_rfl) (by kernel_rfl) (by kernel_rfl) (fun _ _ _ h => h) (YK.call hR (by kernel_rfl) (fun wz => by go_simp; first | done | rfl) (fun wz hz => h4 wz)) ?_
    refine WK.frame (a' := { tmps := #[Value.agg #[Value.int IntKind.u64 NX, Value.int IntKind.u64 LS, Value.bool an, Value.int IntKind.i64 ac, Value.int IntKind.i64 rf, Value.string ad, Value.int IntKind.i64 mv, Value.int IntKind.i64 sm, Value.int IntKind.u16 SP, Value.bool cl], Value.pointer (some { block := g, off := 0 }), Value.string { data := #[] }, Value.string L, Value.string S, Value.string T, Value.string E, Value.string X7, u8, u9, u10, u11, u12, u13, u14, u15, u16, u17, u18, u19, u20, u21, u22, u23, u24, u25, u26, Value.pointer (some { block := g, off := 0 }), Value.int IntKind.u64 NX, Value.string N, Value.string X1, Value.string X2, Value.string L, Value.string X3, Value.string X4, Value.pointer (some { block := g, off := 3 }), Value.int IntKind.i64 ac, Value.string I1, Value.string X5, Value.string X6, Value.pointer (some { block := g, off := 4 }), Value.int IntKind.i64 rf, Value.string I2, Value.string X7, Value.string X7, Value.string X8, Value.pointer (some { block := g, off := 6 }), Value.int IntKind.i64 mv, Value.string I3, Value.string X9, Value.string X10, Value.pointer (some { block := g, off := 7 }), Value.int IntKind.i64 sm, Value.string I4, u54, u55, u56, u57, u58, u59, u60, u61, u62], defers := [] }) (by kernel_rfl) ?_
    refine WK.pure hR (i := 10) (v := Value.string X11) rfl (by kernel_rfl) (by kernel_rfl) (by kernel_rfl) (fun _ _ _ h => h) (by kernel_rfl) (fun wz => by rw [← E11.out]; go_simp; first | done | rfl) ?_
    refine WK.frame (a' := { tmps := #[Value.agg #[Value.int IntKind.u64 NX, Value.int IntKind.u64 LS, Value.bool an, Value.int IntKind.i64 ac, Value.int IntKind.i64 rf, Value.string ad, Value.int IntKind.i64 mv, Value.int IntKind.i64 sm, Value.int IntKind.u16 SP, Value.bool cl], Value.pointer (some { block := g, off := 0 }), Value.string { data := #[] }, Value.string L, Value.string S, Value.string T, Value.string E, Value.string X7, u8, u9, u10, u11, u12, u13, u14, u15, u16, u17, u18, u19, u20, u21, u22, u23, u24, u25, u26, Value.pointer (some { block := g, off := 0 }), Value.int IntKind.u64 NX, Value.string N, Value.string X1, Value.string X2, Value.string L, Value.string X3, Value.string X4, Value.pointer (some { block := g, off := 3 }), Value.int IntKind.i64 ac, Value.string I1, Value.string X5, Value.string X6, Value.pointer (some { block := g, off := 4 }), Value.int IntKind.i64 rf, Value.string I2, Value.string X7, Value.string X7, Value.string X8, Value.pointer (some { block := g, off := 6 }), Value.int IntKind.i64 mv, Value.string I3, Value.string X9, Value.string X10, Value.pointer (some { block := g, off := 7 }), Value.int IntKind.i64 sm, Value.string I4, Value.string X11, u55, u56, u57, u58, u59, u60, u61, u62], defers := [] }) (by kernel_rfl) ?_
    refine WK.pure hR (i := 11) (v := Value.string X12) rfl (by kernel_rfl) (by kernel_rfl) (by kernel_rfl) (fun _ _ _ h => h) (by kernel_rfl) (fun wz => by rw [← E12.out]; go_simp; first | done | rfl) ?_
    refine WK.frame (a' := { tmps := #[Value.agg #[Value.int IntKind.u64 NX, Value.int IntKind.u64 LS, Value.bool an, Value.int IntKind.i64 ac, Value.int IntKind.i64 rf, Value.string ad, Value.int IntKind.i64 mv, Value.int IntKind.i64 sm, Value.int IntKind.u16 SP, Value.bool cl], Value.pointer (some { block := g, off := 0 }), Value.string { data := #[] }, Value.string L, Value.string S, Value.string T, Value.string E, Value.string X7, u8, u9, u10, u11, u12, u13, u14, u15, u16, u17, u18, u19, u20, u21, u22, u23, u24, u25, u26, Value.pointer (some { block := g, off := 0 }), Value.int IntKind.u64 NX, Value.string N, Value.string X1, Value.string X2, Value.string L, Value.string X3, Value.string X4, Value.pointer (some { block := g, off := 3 }), Value.int IntKind.i64 ac, Value.string I1, Value.string X5, Value.string X6, Value.pointer (some { block := g, off := 4 }), Value.int IntKind.i64 rf, Value.string I2, Value.string X7, Value.string X7, Value.string X8, Value.pointer (some { block := g, off := 6 }), Value.int IntKind.i64 mv, Value.string I3, Value.string X9, Value.string X10, Value.pointer (some { block := g, off := 7 }), Value.int IntKind.i64 sm, Value.string I4, Value.string X11, Value.string X12, u56, u57, u58, u59, u60, u61, u62], defers := [] }) (by kernel_rfl) ?_
    refine WK.pure hR (i := 12) (v := Value.string S) rfl (by kernel_rfl) (by kernel_rfl) (by kernel_rfl) (fun _ _ _ h => h) (by kernel_rfl) (fun wz => by go_simp) ?_
    refine WK.frame (a' := { tmps := #[Value.agg #[Value.int IntKind.u64 NX, Value.int IntKind.u64 LS, Value.bool an, Value.int IntKind.i64 ac, Value.int IntKind.i64 rf, Value.string ad, Value.int IntKind.i64 mv, Value.int IntKind.i64 sm, Value.int IntKind.u16 SP, Value.bool cl], Value.pointer (some { block := g, off := 0 }), Value.string { data := #[] }, Value.string L, Value.string S, Value.string T, Value.string E, Value.string X7, u8, u9, u10, u11, u12, u13, u14, u15, u16, u17, u18, u19, u20, u21, u22, u23, u24, u25, u26, Value.pointer (some { block := g, off := 0 }), Value.int IntKind.u64 NX, Value.string N, Value.string X1, Value.string X2, Value.string L, Value.string X3, Value.string X4, Value.pointer (some { block := g, off := 3 }), Value.int IntKind.i64 ac, Value.string I1, Value.string X5, Value.string X6, Value.pointer (some { block := g, off := 4 }), Value.int IntKind.i64 rf, Value.string I2, Value.string X7, Value.string X7, Value.string X8, Value.pointer (some { block := g, off := 6 }), Value.int IntKind.i64 mv, Value.string I3, Value.string X9, Value.string X10, Value.pointer (some { block := g, off := 7 }), Value.int IntKind.i64 sm, Value.string I4, Value.string X11, Value.string X12, Value.string S, u57, u58, u59, u60, u61, u62], defers := [] }) (by kernel_rfl) ?_
    refine WK.pure hR (i := 13) (v := Value.string X13) rfl (by kernel_rfl) (by kernel_rfl) (by kernel_rfl) (fun _ _ _ h => h) (by kernel_rfl) (fun wz => by rw [← E13.out]; go_simp; first | done | rfl) ?_
    refine WK.frame (a' := { tmps := #[Value.agg #[Value.int IntKind.u64 NX, Value.int IntKind.u64 LS, Value.bool an, Value.int IntKind.i64 ac, Value.int IntKind.i64 rf, Value.string ad, Value.int IntKind.i64 mv, Value.int IntKind.i64 sm, Value.int IntKind.u16 SP, Value.bool cl], Value.pointer (some { block := g, off := 0 }), Value.string { data := #[] }, Value.string L, Value.string S, Value.string T, Value.string E, Value.string X7, u8, u9, u10, u11, u12, u13, u14, u15, u16, u17, u18, u19, u20, u21, u22, u23, u24, u25, u26, Value.pointer (some { block := g, off := 0 }), Value.int IntKind.u64 NX, Value.string N, Value.string X1, Value.string X2, Value.string L, Value.string X3, Value.string X4, Value.pointer (some { block := g, off := 3 }), Value.int IntKind.i64 ac, Value.string I1, Value.string X5, Value.string X6, Value.pointer (some { block := g, off := 4 }), Value.int IntKind.i64 rf, Value.string I2, Value.string X7, Value.string X7, Value.string X8, Value.pointer (some { block := g, off := 6 }), Value.int IntKind.i64 mv, Value.string I3, Value.string X9, Value.string X10, Value.pointer (some { block := g, off := 7 }), Value.int IntKind.i64 sm, Value.string I4, Value.string X11, Value.string X12, Value.string S, Value.string X13, u58, u59, u60, u61, u62], defers := [] }) (by kernel_rfl) ?_
    refine WK.pure hR (i := 14) (v := Value.string X14) rfl (by kernel_rfl) (by kernel_rfl) (by kernel_rfl) (fun _ _ _ h => h) (by kernel_rfl) (fun wz => by rw [← E14.out]; go_simp; first | done | rfl) ?_
    refine WK.frame (a' := { tmps := #[Value.agg #[Value.int IntKind.u64 NX, Value.int IntKind.u64 LS, Value.bool an, Value.int IntKind.i64 ac, Value.int IntKind.i64 rf, Value.string ad, Value.int IntKind.i64 mv, Value.int IntKind.i64 sm, Value.int IntKind.u16 SP, Value.bool cl], Value.pointer (some { block := g, off := 0 }), Value.string { data := #[] }, Value.string L, Value.string S, Value.string T, Value.string E, Value.string X7, u8, u9, u10, u11, u12, u13, u14, u15, u16, u17, u18, u19, u20, u21, u22, u23, u24, u25, u26, Value.pointer (some { block := g, off := 0 }), Value.int IntKind.u64 NX, Value.string N, Value.string X1, Value.string X2, Value.string L, Value.string X3, Value.string X4, Value.pointer (some { block := g, off := 3 }), Value.int IntKind.i64 ac, Value.string I1, Value.string X5, Value.string X6, Value.pointer (some { block := g, off := 4 }), Value.int IntKind.i64 rf, Value.string I2, Value.string X7, Value.string X7, Value.string X8, Value.pointer (some { block := g, off := 6 }), Value.int IntKind.i64 mv, Value.string I3, Value.string X9, Value.string X10, Value.pointer (some { block := g, off := 7 }), Value.int IntKind.i64 sm, Value.string I4, Value.string X11, Value.string X12, Value.string S, Value.string X13, Value.string X14, u59, u60, u61, u62], defers := [] }) (by kernel_rfl) ?_
    refine WK.pure hR (i := 15) (v := Value.string T) rfl (by kernel_rfl) (by kernel_rfl) (by kernel_rfl) (fun _ _ _ h => h) (by kernel_rfl) (fun wz => by go_simp) ?_
    refine WK.frame (a' := { tmps := #[Value.agg #[Value.int IntKind.u64 NX, Value.int IntKind.u64 LS, Value.bool an, Value.int IntKind.i64 ac, Value.int IntKind.i64 rf, Value.string ad, Value.int IntKind.i64 mv, Value.int IntKind.i64 sm, Value.int IntKind.u16 SP, Value.bool cl], Value.pointer (some { block := g, off := 0 }), Value.string { data := #[] }, Value.string L, Value.string S, Value.string T, Value.string E, Value.string X7, u8, u9, u10, u11, u12, u13, u14, u15, u16, u17, u18, u19, u20, u21, u22, u23, u24, u25, u26, Value.pointer (some { block := g, off := 0 }), Value.int IntKind.u64 NX, Value.string N, Value.string X1, Value.string X2, Value.string L, Value.string X3, Value.string X4, Value.pointer (some { block := g, off := 3 }), Value.int IntKind.i64 ac, Value.string I1, Value.string X5, Value.string X6, Value.pointer (some { block := g, off := 4 }), Value.int IntKind.i64 rf, Value.string I2, Value.string X7, Value.string X7, Value.string X8, Value.pointer (some { block := g, off := 6 }), Value.int IntKind.i64 mv, Value.string I3, Value.string X9, Value.string X10, Value.pointer (some { block := g, off := 7 }), Value.int IntKind.i64 sm, Value.string I4, Value.string X11, Value.string X12, Value.string S, Value.string X13, Value.string X14, Value.string T, u60, u61, u62], defers := [] }) (by kernel_rfl) ?_
    refine WK.pure hR (i := 16) (v := Value.string X15) rfl (by kernel_rfl) (by kernel_rfl) (by kernel_rfl) (fun _ _ _ h => h) (by kernel_rfl) (fun wz => by rw [← E15.out]; go_simp; first | done | rfl) ?_
    refine WK.frame (a' := { tmps := #[Value.agg #[Value.int IntKind.u64 NX, Value.int IntKind.u64 LS, Value.bool an, Value.int IntKind.i64 ac, Value.int IntKind.i64 rf, Value.string ad, Value.int IntKind.i64 mv, Value.int IntKind.i64 sm, Value.int IntKind.u16 SP, Value.bool cl], Value.pointer (some { block := g, off := 0 }), Value.string { data := #[] }, Value.string L, Value.string S, Value.string T, Value.string E, Value.string X7, u8, u9, u10, u11, u12, u13, u14, u15, u16, u17, u18, u19, u20, u21, u22, u23, u24, u25, u26, Value.pointer (some { block := g, off := 0 }), Value.int IntKind.u64 NX, Value.string N, Value.string X1, Value.string X2, Value.string L, Value.string X3, Value.string X4, Value.pointer (some { block := g, off := 3 }), Value.int IntKind.i64 ac, Value.string I1, Value.string X5, Value.string X6, Value.pointer (some { block := g, off := 4 }), Value.int IntKind.i64 rf, Value.string I2, Value.string X7, Value.string X7, Value.string X8, Value.pointer (some { block := g, off := 6 }), Value.int IntKind.i64 mv, Value.string I3, Value.string X9, Value.string X10, Value.pointer (some { block := g, off := 7 }), Value.int IntKind.i64 sm, Value.string I4, Value.string X11, Value.string X12, Value.string S, Value.string X13, Value.string X14, Value.string T, Value.string X15, u61, u62], defers := [] }) (by kernel_rfl) ?_
    refine WK.pure hR (i := 17) (v := Value.string E) rfl (by kernel_rfl) (by kernel_rfl) (by kernel_rfl) (fun _ _ _ h => h) (by kernel_rfl) (fun wz => by go_simp) ?_
    refine WK.frame (a' := { tmps := #[Value.agg #[Value.int IntKind.u64 NX, Value.int IntKind.u64 LS, Value.bool an, Value.int IntKind.i64 ac, Value.int IntKind.i64 rf, Value.string ad, Value.int IntKind.i64 mv, Value.int IntKind.i64 sm, Value.int IntKind.u16 SP, Value.bool cl], Value.pointer (some { block := g, off := 0 }), Value.string { data := #[] }, Value.string L, Value.string S, Value.string T, Value.string E, Value.string X7, u8, u9, u10, u11, u12, u13, u14, u15, u16, u17, u18, u19, u20, u21, u22, u23, u24, u25, u26, Value.pointer (some { block := g, off := 0 }), Value.int IntKind.u64 NX, Value.string N, Value.string X1, Value.string X2, Value.string L, Value.string X3, Value.string X4, Value.pointer (some { block := g, off := 3 }), Value.int IntKind.i64 ac, Value.string I1, Value.string X5, Value.string X6, Value.pointer (some { block := g, off := 4 }), Value.int IntKind.i64 rf, Value.string I2, Value.string X7, Value.string X7, Value.string X8, Value.pointer (some { block := g, off := 6 }), Value.int IntKind.i64 mv, Value.string I3, Value.string X9, Value.string X10, Value.pointer (some { block := g, off := 7 }), Value.int IntKind.i64 sm, Value.string I4, Value.string X11, Value.string X12, Value.string S, Value.string X13, Value.string X14, Value.string T, Value.string X15, Value.string E, u62], defers := [] }) (by kernel_rfl) ?_
    refine WK.pure hR (i := 18) (v := Value.string X16) rfl (by kernel_rfl) (by kernel_rfl) (by kernel_rfl) (fun _ _ _ h => h) (by kernel_rfl) (fun wz => by rw [← E16.out]; go_simp; first | done | rfl) ?_
    refine WK.frame (a' := { tmps := #[Value.agg #[Value.int IntKind.u64 NX, Value.int IntKind.u64 LS, Value.bool an, Value.int IntKind.i64 ac, Value.int IntKind.i64 rf, Value.string ad, Value.int IntKind.i64 mv, Value.int IntKind.i64 sm, Value.int IntKind.u16 SP, Value.bool cl], Value.pointer (some { block := g, off := 0 }), Value.string { data := #[] }, Value.string L, Value.string S, Value.string T, Value.string E, Value.string X7, u8, u9, u10, u11, u12, u13, u14, u15, u16, u17, u18, u19, u20, u21, u22, u23, u24, u25, u26, Value.pointer (some { block := g, off := 0 }), Value.int IntKind.u64 NX, Value.string N, Value.string X1, Value.string X2, Value.string L, Value.string X3, Value.string X4, Value.pointer (some { block := g, off := 3 }), Value.int IntKind.i64 ac, Value.string I1, Value.string X5, Value.string X6, Value.pointer (some { block := g, off := 4 }), Value.int IntKind.i64 rf, Value.string I2, Value.string X7, Value.string X7, Value.string X8, Value.pointer (some { block := g, off := 6 }), Value.int IntKind.i64 mv, Value.string I3, Value.string X9, Value.string X10, Value.pointer (some { block := g, off := 7 }), Value.int IntKind.i64 sm, Value.string I4, Value.string X11, Value.string X12, Value.string S, Value.string X13, Value.string X14, Value.string T, Value.string X15, Value.string E, Value.string X16], defers := [] }) (by kernel_rfl) ?_
    refine WK.pure hR (i := 19) (v := Value.string X16) rfl (by kernel_rfl) (by kernel_rfl) (by kernel_rfl) (fun _ _ _ h => h) (by kernel_rfl) (fun wz => by go_simp) ?_
    refine WK.frame (a' := { tmps := #[Value.agg #[Value.int IntKind.u64 NX, Value.int IntKind.u64 LS, Value.bool an, Value.int IntKind.i64 ac, Value.int IntKind.i64 rf, Value.string ad, Value.int IntKind.i64 mv, Value.int IntKind.i64 sm, Value.int IntKind.u16 SP, Value.bool cl], Value.pointer (some { block := g, off := 0 }), Value.string X16, Value.string L, Value.string S, Value.string T, Value.string E, Value.string X7, u8, u9, u10, u11, u12, u13, u14, u15, u16, u17, u18, u19, u20, u21, u22, u23, u24, u25, u26, Value.pointer (some { block := g, off := 0 }), Value.int IntKind.u64 NX, Value.string N, Value.string X1, Value.string X2, Value.string L, Value.string X3, Value.string X4, Value.pointer (some { block := g, off := 3 }), Value.int IntKind.i64 ac, Value.string I1, Value.string X5, Value.string X6, Value.pointer (some { block := g, off := 4 }), Value.int IntKind.i64 rf, Value.string I2, Value.string X7, Value.string X7, Value.string X8, Value.pointer (some { block := g, off := 6 }), Value.int IntKind.i64 mv, Value.string I3, Value.string X9, Value.string X10, Value.pointer (some { block := g, off := 7 }), Value.int IntKind.i64 sm, Value.string I4, Value.string X11, Value.string X12, Value.string S, Value.string X13, Value.string X14, Value.string T, Value.string X15, Value.string E, Value.string X16], defers := [] }) (by kernel_rfl) ?_
    refine WK.done (by kernel_rfl) (fun we he => ?_)
    have hfin : Below w.heap.size w we := by rw [hg]; exact hfw3.trans (he.mono (by have := K3.lt; omega))
    have HF := Lib.hid hfin
    clear he hfin hfw3 K3 h1 h2 h3 h4
    go_wp2_with fail
    go_ret
    exact ⟨by rw [E1.out, E2.out, E3.out, E4.out, E5.out, E6.out, E7.out, E8.out, E9.out, E10.out, E11.out, E12.out, E13.out, E14.out, E15.out, E16.out]; rfl, HF.out⟩
end Go.Proofs.YtbifakhalnkfbaaDoor
