import Derived.Test.YtbifakhalnkfbaaDoorDg
import Derived.Test.YtbifakhalnkfbaaDoorRtx
import Derived.Deep.Cut
import Derived.Deep.DeepCutAuto
namespace Go.Proofs.YtbifakhalnkfbaaDoor
open Go.ChangeShapes Go.WideShapes Go.ChangeAt Go.RowKit Go.Sort Go.Deep
set_option linter.unusedVariables false
set_option linter.unusedSimpArgs false
def sdirS (d : Nat) : ByteArray := if d = 0 then ⟨#[32, 115, 101, 114, 118, 101, 114, 32]⟩ else ⟨#[32, 99, 108, 105, 101, 110, 116, 32]⟩
theorem rbase_eq (a b c d : ByteArray) : ((((a ++ (⟨#[32]⟩ : ByteArray)) ++ b) ++ ⟨#[32, 62, 32]⟩) ++ c) ++ ⟨#[32]⟩ ++ d = joinS [a, b, gtS, c, d] := by
  apply ba_ext
  unfold joinS gtS
  simp [Lib.join, List.intercalate, List.intersperse, ByteArray.data_append]
theorem rdat_eq (a y : ByteArray) (d : Nat) : a ++ sdirS d ++ y = joinS [a, dirS d, y] := by
  apply ba_ext
  unfold joinS sdirS dirS serverS clientS
  by_cases h : d = 0
  · simp [h, Lib.join, List.intercalate, List.intersperse, ByteArray.data_append]
  · simp [h, Lib.join, List.intercalate, List.intersperse, ByteArray.data_append]
theorem itS_neg (k : Nat) (h : 0 < k) : itS (-(k : Int)) = (⟨#[45]⟩ : ByteArray) ++ decS k := by
  apply ba_ext
  unfold itS decS Lib.itoa
  rw [if_pos (by omega), Int.natAbs_neg, Int.natAbs_natCast]
  simp [ByteArray.data_append]
set_option maxRecDepth 100000 in
theorem rnum_neg (k : Nat) (w : World) (h0 : 0 < k) (h1 : k ≤ 9223372036854775808) : Calls Tryd.prog 32 #[.int .i64 (-(k : Int))] w fun e w' => e = .returned (.string (decS (18446744073709551616 - k))) ∧ Below w.heap.size w w' := by
  have hf := number_any (18446744073709551616 - k) w (by omega)
  have hw : IntKind.u64.wrap (-(k : Int)) = ((18446744073709551616 - k : Nat) : Int) := by rw [IntKind.wrap_u64]; omega
  obtain ⟨q, hq⟩ : ∃ q, 18446744073709551616 - k = q := ⟨_, rfl⟩
  rw [hq] at hf hw ⊢
  clear h0 h1 hq
  go_enter Tryd.func32, Tryd.ntmps32
  go_wp2_with (go_at_call 19; refine hf.mono ?_; rintro _ w1 ⟨rfl, hb⟩; refine Hid.out ?_)
  refine Lib.hid ?_
  go_wp2_with fail
  go_ret
  exact ⟨rfl, hb⟩
/-- The head of a datagram's text as the reference begins it. -/
theorem rid_any (id : Int) (w : World) (h0 : -9223372036854775808 ≤ id) (h1 : id ≤ 9223372036854775807) : ∃ t, Calls Tryd.prog 32 #[.int .i64 id] w (fun e w' => e = .returned (.string t) ∧ Below w.heap.size w w') ∧ (0 ≤ id → t = itS id) := by
  by_cases h : 0 ≤ id
  · obtain ⟨n, rfl⟩ : ∃ n : Nat, id = (n : Int) := ⟨id.toNat, by omega⟩
    exact ⟨decS n, rnum_any n w (by omega), fun _ => (itS_nat n).symm⟩
  · obtain ⟨k, hk, rfl⟩ : ∃ k : Nat, 0 < k ∧ id = -(k : Int) := ⟨(-id).toNat, by omega, by omega⟩
    exact ⟨_, rnum_neg k w hk (by omega), fun h => absurd h (by omega)⟩
set_option maxRecDepth 100000 in
set_option maxHeartbeats 4000000 in
theorem rdg_any (id : Int) (fr tw : ByteArray) (A : Option Addr) (n c : Nat) (bs : List Nat) (w : World) (hb : Bys w A n bs) (h0 : -9223372036854775808 ≤ id) (h1 : id ≤ 9223372036854775807) (hn : n + fr.size + tw.size ≤ 4000) (hnc : n ≤ c) (hcm : c ≤ maxLen) :
    Calls Tryd.prog 16 #[.agg #[.int .i64 id, .string fr, .string tw, .slice A n c]] w fun e w' => e = .returned (.string (textD id fr tw n bs)) ∧ Below w.heap.size w w' := by
  have K0 := Blk.new w 41 #[.int .i64 id, .string fr, .string tw, .slice A n c]
  have B0 : Below w.heap.size w (w.alloc (.cells #[.int .i64 id, .string fr, .string tw, .slice A n c] 41)) := (Below.refl _ w).alloc (Nat.le_refl _) _
  have Y0 := hb.below B0
  have za := itS_le id h0 h1
  have zb := itS_le (n : Int) (by omega) (by omega)
  have hx := hd_lt hb
  have HNL : ∀ W, Calls Tryd.prog 32 #[.int .i64 n] W fun e w' => e = .returned (.string (itS (n : Int))) ∧ Below W.heap.size W w' := fun W => by rw [itS_nat]; exact rnum_any n W (by omega)
  have HRT := Lib.hid (show textD id fr tw n bs = if 28 ≤ n ∧ n ≤ 1228 then joinS [baseD id fr tw n, dirS (hd bs / 9223372036854775808), decS (hd bs % 9223372036854775808)] else baseD id fr tw n from rfl)
  have HBD := Lib.hid (show baseD id fr tw n = joinS [itS id, fr, gtS, tw, itS (n : Int)] from rfl)
  have zc := baseD_size id fr tw n h0 h1 hn
  generalize textD id fr tw n bs = RT at *
  generalize baseD id fr tw n = BD at *
  have hn4 : n ≤ 4000 := by omega
  have hfs : fr.size ≤ 4000 := by omega
  have hts : tw.size ≤ 4000 := by omega
  have hrid := rid_any id (w.alloc (.cells #[.int .i64 id, .string fr, .string tw, .slice A n c] 41)) h0 h1
  obtain ⟨t0, hrid, ht0⟩ := hrid
  have HT0 := Lib.hid ht0
  have HA := Lib.hid (And.intro K0 (And.intro B0 Y0))
  have HH := Lib.hid (And.intro hx (And.intro hnc hcm))
  have HN := Lib.hid HNL
  have HZ := Lib.hid (And.intro za (And.intro zb (And.intro zc (And.intro hfs hts))))
  have HID := Lib.hid (And.intro h0 h1)
  clear K0 B0 Y0 za zb zc hx HNL hb hnc hcm hn ht0 hfs hts h0 h1
  obtain ⟨NL, hNL⟩ : ∃ x, itS (n : Int) = x := ⟨_, rfl⟩
  obtain ⟨IW, hIW⟩ : ∃ x, itS id = x := ⟨_, rfl⟩
  rw [hNL] at HN HBD HZ
  rw [hIW] at HT0 HBD HZ
  have HIW := Lib.hid hIW
  clear hNL hIW
  go_enter Tryd.func16, Tryd.ntmps16
  go_wp2_with (go_at_call 32; refine hrid.mono ?_; rintro _ w1 ⟨rfl, hb⟩; refine Hid.out ?_)
  refine Lib.hid ?_
  have K1 := HA.out.1.below hb HA.out.1.lt
  have HA1 := Lib.hid (And.intro K1 (And.intro (HA.out.2.1.trans (hb.mono (by simp))) (HA.out.2.2.below hb)))
  have hlt : w.heap.size < w1.heap.size := K1.lt
  have c0 : w1.cell? ⟨w.heap.size, 0, none⟩ = some (.int .i64 id) := (K1.cell 0).trans rfl
  clear K1 HA hb hrid
  go_upto_if 12 with (fail)
  go_cut [3] (fun s wx => s = .string IW ∧ Below w1.heap.size w1 wx)
  case first =>
    by_cases h : 0 ≤ id
    · have HS := Lib.hid (HT0.out h)
      have hd : decide (id < 0) = false := decide_eq_false (by omega)
      have h' : ¬ id < 0 := by omega
      go_wp2_with fail
      go_meet
      exact ⟨congrArg Value.string HS.out, Below.refl _ _⟩
    · obtain ⟨k, hk, hik⟩ : ∃ k : Nat, 0 < k ∧ id = -(k : Int) := ⟨(-id).toNat, by omega, by omega⟩
      have hk2 : k ≤ 9223372036854775808 := by have := HID.out.1; omega
      have hd : decide (id < 0) = true := decide_eq_true (by omega)
      have h' : id < 0 := by omega
      have hcv : IntKind.u64.wrap id = ((18446744073709551616 - k : Nat) : Int) := by rw [hik, IntKind.wrap_u64]; omega
      obtain ⟨q, hq⟩ : ∃ q, 18446744073709551616 - k = q := ⟨_, rfl⟩
      rw [hq] at hcv
      have hng : IntKind.u64.wrap (-(q : Int)) = (k : Int) := by rw [IntKind.wrap_u64]; omega
      have hf := number_any k w1 (by omega)
      have hsz := decS_size k (by omega)
      have HS := Lib.hid (show (⟨#[45]⟩ : ByteArray) ++ decS k = IW by rw [← HIW.out, hik, itS_neg k hk])
      generalize decS k = DK at *
      have hsum : 1 + DK.size ≤ 9223372036854775807 := by omega
      clear h hk hk2 hik hq hsz HT0
      go_wp2_with (go_at_call 19; refine hf.mono ?_; rintro _ w2 ⟨rfl, hb⟩; refine Hid.out ?_)
      refine Lib.hid ?_
      have HBB := Lib.hid hb
      clear hb hf
      go_wp2_with fail
      go_meet
      exact ⟨congrArg Value.string HS.out, HBB.out⟩
  case rest =>
    obtain ⟨rfl, hb⟩ := hcut
    have K2 := HA1.out.1.below hb HA1.out.1.lt
    have B2 := HA1.out.2.1.trans (hb.mono (by have := HA1.out.2.1.size; omega))
    have Y2 := HA1.out.2.2.below hb
    clear hb HA1 HT0 HIW HID c0
    generalize wc = wx1 at *
    have hlt1 : w.heap.size < wx1.heap.size := K2.lt
    clear hlt
    obtain ⟨zi, zn, zc, zf, zt⟩ := HZ.out
    have e32 : (⟨#[32]⟩ : ByteArray).size = 1 := rfl
    have e3 : (⟨#[32, 62, 32]⟩ : ByteArray).size = 3 := rfl
    obtain ⟨X1, e1, y1⟩ : ∃ x : ByteArray, IW ++ (⟨#[32]⟩ : ByteArray) = x ∧ x.size ≤ 100 := ⟨_, rfl, by rw [ByteArray.size_append]; omega⟩
    obtain ⟨X2, e2, y2⟩ : ∃ x : ByteArray, X1 ++ fr = x ∧ x.size ≤ 4200 := ⟨_, rfl, by rw [ByteArray.size_append]; omega⟩
    obtain ⟨X3, e3', y3⟩ : ∃ x : ByteArray, X2 ++ (⟨#[32, 62, 32]⟩ : ByteArray) = x ∧ x.size ≤ 4300 := ⟨_, rfl, by rw [ByteArray.size_append]; omega⟩
    obtain ⟨X4, e4, y4⟩ : ∃ x : ByteArray, X3 ++ tw = x ∧ x.size ≤ 9000 := ⟨_, rfl, by rw [ByteArray.size_append]; omega⟩
    obtain ⟨X5, e5, y5⟩ : ∃ x : ByteArray, X4 ++ (⟨#[32]⟩ : ByteArray) = x ∧ x.size ≤ 9010 := ⟨_, rfl, by rw [ByteArray.size_append]; omega⟩
    have e6 : X5 ++ NL = BD := by rw [HBD.out, ← rbase_eq, ← e5, ← e4, ← e3', ← e2, ← e1]
    have f1 : IW.size ≤ 9223372036854775806 := by omega
    have f2 : X1.size + fr.size ≤ 9223372036854775807 := by omega
    have f3 : X2.size ≤ 9223372036854775804 := by omega
    have f4 : X3.size + tw.size ≤ 9223372036854775807 := by omega
    have f5 : X4.size ≤ 9223372036854775806 := by omega
    have f6 : X5.size + NL.size ≤ 9223372036854775807 := by omega
    have E1 := Lib.hid e1
    have E2 := Lib.hid e2
    have E3 := Lib.hid e3'
    have E4 := Lib.hid e4
    have E5 := Lib.hid e5
    have E6 := Lib.hid e6
    have hN := HN.out
    have hR := later_below
    have hB2 := Lib.hid B2
    obtain ⟨g, hg⟩ : ∃ g, w.heap.size = g := ⟨_, rfl⟩
    rw [hg] at K2 hlt1 ⊢
    clear e1 e2 e3' e4 e5 e6 e32 e3 HN HZ B2 HBD zi zn zf zt
    go_upto_region 4 with (fail)
    refine wp_region_later (X := []) hR (by kernel_rfl) ?_
    refine WK.pure hR (i := 0) (v := Value.string IW) rfl (by kernel_rfl) (by kernel_rfl) (by kernel_rfl) (fun _ _ _ h => h) (by kernel_rfl) (fun wz => by go_simp) ?_
    refine WK.frame (a' := { tmps := #[Value.agg #[Value.int IntKind.i64 id, Value.string fr, Value.string tw, Value.slice A n c], Value.pointer (some { block := g, off := 0 }), Value.string { data := #[] }, Value.string IW, undef, undef, undef, u7, u8, u9, u10, u11, u12, u13, u14, u15, u16, u17, u18, Value.string IW, u20, u21, u22, u23, u24, u25, u26, u27, u28, u29, u30, u31, u32, u33, u34, u35, u36, u37, u38, u39, u40, u41, u42, u43, u44, u45, u46, u47, u48, u49, u50, u51, u52, u53, u54, u55, u56, u57, u58, u59], defers := [] }) (by kernel_rfl) ?_
    refine WK.pure hR (i := 1) (v := Value.string X1) rfl (by kernel_rfl) (by kernel_rfl) (by kernel_rfl) (fun _ _ _ h => h) (by kernel_rfl) (fun wz => by rw [← E1.out]; go_simp; first | done | rfl) ?_
    refine WK.frame (a' := { tmps := #[Value.agg #[Value.int IntKind.i64 id, Value.string fr, Value.string tw, Value.slice A n c], Value.pointer (some { block := g, off := 0 }), Value.string { data := #[] }, Value.string IW, undef, undef, undef, u7, u8, u9, u10, u11, u12, u13, u14, u15, u16, u17, u18, Value.string IW, Value.string X1, u21, u22, u23, u24, u25, u26, u27, u28, u29, u30, u31, u32, u33, u34, u35, u36, u37, u38, u39, u40, u41, u42, u43, u44, u45, u46, u47, u48, u49, u50, u51, u52, u53, u54, u55, u56, u57, u58, u59], defers := [] }) (by kernel_rfl) ?_
    refine WK.pure hR (i := 2) (v := Value.pointer (some { block := g, off := 1 })) rfl (by kernel_rfl) (by kernel_rfl) (by kernel_rfl) (fun _ _ _ h => h) (by kernel_rfl) (fun wz => by go_simp) ?_
    refine WK.frame (a' := { tmps := #[Value.agg #[Value.int IntKind.i64 id, Value.string fr, Value.string tw, Value.slice A n c], Value.pointer (some { block := g, off := 0 }), Value.string { data := #[] }, Value.string IW, undef, undef, undef, u7, u8, u9, u10, u11, u12, u13, u14, u15, u16, u17, u18, Value.string IW, Value.string X1, Value.pointer (some { block := g, off := 1 }), u22, u23, u24, u25, u26, u27, u28, u29, u30, u31, u32, u33, u34, u35, u36, u37, u38, u39, u40, u41, u42, u43, u44, u45, u46, u47, u48, u49, u50, u51, u52, u53, u54, u55, u56, u57, u58, u59], defers := [] }) (by kernel_rfl) ?_
    refine WK.take hR (i := 3) (v := Value.string fr) rfl (by kernel_rfl) (by kernel_rfl) (by kernel_rfl) (by kernel_rfl) (fun _ _ _ h => h) (YK.run (by kernel_rfl) (fun wz hz => by have hcell := (hz.cell (p := ⟨g, 1, none⟩) hlt1).trans ((K2.cell 1).trans rfl); go_simp)) ?_
    refine WK.frame (a' := { tmps := #[Value.agg #[Value.int IntKind.i64 id, Value.string fr, Value.string tw, Value.slice A n c], Value.pointer (some { block := g, off := 0 }), Value.string { data := #[] }, Value.string IW, undef, undef, undef, u7, u8, u9, u10, u11, u12, u13, u14, u15, u16, u17, u18, Value.string IW, Value.string X1, Value.pointer (some { block := g, off := 1 }), Value.string fr, u23, u24, u25, u26, u27, u28, u29, u30, u31, u32, u33, u34, u35, u36, u37, u38, u39, u40, u41, u42, u43, u44, u45, u46, u47, u48, u49, u50, u51, u52, u53, u54, u55, u56, u57, u58, u59], defers := [] }) (by kernel_rfl) ?_
    refine WK.pure hR (i := 4) (v := Value.string X2) rfl (by kernel_rfl) (by kernel_rfl) (by kernel_rfl) (fun _ _ _ h => h) (by kernel_rfl) (fun wz => by rw [← E2.out]; go_simp; first | done | rfl) ?_
    refine WK.frame (a' := { tmps := #[Value.agg #[Value.int IntKind.i64 id, Value.string fr, Value.string tw, Value.slice A n c], Value.pointer (some { block := g, off := 0 }), Value.string { data := #[] }, Value.string IW, undef, undef, undef, u7, u8, u9, u10, u11, u12, u13, u14, u15, u16, u17, u18, Value.string IW, Value.string X1, Value.pointer (some { block := g, off := 1 }), Value.string fr, Value.string X2, u24, u25, u26, u27, u28, u29, u30, u31, u32, u33, u34, u35, u36, u37, u38, u39, u40, u41, u42, u43, u44, u45, u46, u47, u48, u49, u50, u51, u52, u53, u54, u55, u56, u57, u58, u59], defers := [] }) (by kernel_rfl) ?_
    refine WK.pure hR (i := 5) (v := Value.string X3) rfl (by kernel_rfl) (by kernel_rfl) (by kernel_rfl) (fun _ _ _ h => h) (by kernel_rfl) (fun wz => by rw [← E3.out]; go_simp; first | done | rfl) ?_
    refine WK.frame (a' := { tmps := #[Value.agg #[Value.int IntKind.i64 id, Value.string fr, Value.string tw, Value.slice A n c], Value.pointer (some { block := g, off := 0 }), Value.string { data := #[] }, Value.string IW, undef, undef, undef, u7, u8, u9, u10, u11, u12, u13, u14, u15, u16, u17, u18, Value.string IW, Value.string X1, Value.pointer (some { block := g, off := 1 }), Value.string fr, Value.string X2, Value.string X3, u25, u26, u27, u28, u29, u30, u31, u32, u33, u34, u35, u36, u37, u38, u39, u40, u41, u42, u43, u44, u45, u46, u47, u48, u49, u50, u51, u52, u53, u54, u55, u56, u57, u58, u59], defers := [] }) (by kernel_rfl) ?_
    refine WK.pure hR (i := 6) (v := Value.pointer (some { block := g, off := 2 })) rfl (by kernel_rfl) (by kernel_rfl) (by kernel_rfl) (fun _ _ _ h => h) (by kernel_rfl) (fun wz => by go_simp) ?_
    refine WK.frame (a' := { tmps := #[Value.agg #[Value.int IntKind.i64 id, Value.string fr, Value.string tw, Value.slice A n c], Value.pointer (some { block := g, off := 0 }), Value.string { data := #[] }, Value.string IW, undef, undef, undef, u7, u8, u9, u10, u11, u12, u13, u14, u15, u16, u17, u18, Value.string IW, Value.string X1, Value.pointer (some { block := g, off := 1 }), Value.string fr, Value.string X2, Value.string X3, Value.pointer (some { block := g, off := 2 }), u26, u27, u28, u29, u30, u31, u32, u33, u34, u35, u36, u37, u38, u39, u40, u41, u42, u43, u44, u45, u46, u47, u48, u49, u50, u51, u52, u53, u54, u55, u56, u57, u58, u59], defers := [] }) (by kernel_rfl) ?_
    refine WK.take hR (i := 7) (v := Value.string tw) rfl (by kernel_rfl) (by kernel_rfl) (by kernel_rfl) (by kernel_rfl) (fun _ _ _ h => h) (YK.run (by kernel_rfl) (fun wz hz => by have hcell := (hz.cell (p := ⟨g, 2, none⟩) hlt1).trans ((K2.cell 2).trans rfl); go_simp)) ?_
    refine WK.frame (a' := { tmps := #[Value.agg #[Value.int IntKind.i64 id, Value.string fr, Value.string tw, Value.slice A n c], Value.pointer (some { block := g, off := 0 }), Value.string { data := #[] }, Value.string IW, undef, undef, undef, u7, u8, u9, u10, u11, u12, u13, u14, u15, u16, u17, u18, Value.string IW, Value.string X1, Value.pointer (some { block := g, off := 1 }), Value.string fr, Value.string X2, Value.string X3, Value.pointer (some { block := g, off := 2 }), Value.string tw, u27, u28, u29, u30, u31, u32, u33, u34, u35, u36, u37, u38, u39, u40, u41, u42, u43, u44, u45, u46, u47, u48, u49, u50, u51, u52, u53, u54, u55, u56, u57, u58, u59], defers := [] }) (by kernel_rfl) ?_
    refine WK.pure hR (i := 8) (v := Value.string X4) rfl (by kernel_rfl) (by kernel_rfl) (by kernel_rfl) (fun _ _ _ h => h) (by kernel_rfl) (fun wz => by rw [← E4.out]; go_simp; first | done | rfl) ?_
    refine WK.frame (a' := { tmps := #[Value.agg #[Value.int IntKind.i64 id, Value.string fr, Value.string tw, Value.slice A n c], Value.pointer (some { block := g, off := 0 }), Value.string { data := #[] }, Value.string IW, undef, undef, undef, u7, u8, u9, u10, u11, u12, u13, u14, u15, u16, u17, u18, Value.string IW, Value.string X1, Value.pointer (some { block := g, off := 1 }), Value.string fr, Value.string X2, Value.string X3, Value.pointer (some { block := g, off := 2 }), Value.string tw, Value.string X4, u28, u29, u30, u31, u32, u33, u34, u35, u36, u37, u38, u39, u40, u41, u42, u43, u44, u45, u46, u47, u48, u49, u50, u51, u52, u53, u54, u55, u56, u57, u58, u59], defers := [] }) (by kernel_rfl) ?_
    refine WK.pure hR (i := 9) (v := Value.string X5) rfl (by kernel_rfl) (by kernel_rfl) (by kernel_rfl) (fun _ _ _ h => h) (by kernel_rfl) (fun wz => by rw [← E5.out]; go_simp; first | done | rfl) ?_
    refine WK.frame (a' := { tmps := #[Value.agg #[Value.int IntKind.i64 id, Value.string fr, Value.string tw, Value.slice A n c], Value.pointer (some { block := g, off := 0 }), Value.string { data := #[] }, Value.string IW, undef, undef, undef, u7, u8, u9, u10, u11, u12, u13, u14, u15, u16, u17, u18, Value.string IW, Value.string X1, Value.pointer (some { block := g, off := 1 }), Value.string fr, Value.string X2, Value.string X3, Value.pointer (some { block := g, off := 2 }), Value.string tw, Value.string X4, Value.string X5, u29, u30, u31, u32, u33, u34, u35, u36, u37, u38, u39, u40, u41, u42, u43, u44, u45, u46, u47, u48, u49, u50, u51, u52, u53, u54, u55, u56, u57, u58, u59], defers := [] }) (by kernel_rfl) ?_
    refine WK.pure hR (i := 10) (v := Value.pointer (some { block := g, off := 3 })) rfl (by kernel_rfl) (by kernel_rfl) (by kernel_rfl) (fun _ _ _ h => h) (by kernel_rfl) (fun wz => by go_simp) ?_
    refine WK.frame (a' := { tmps := #[Value.agg #[Value.int IntKind.i64 id, Value.string fr, Value.string tw, Value.slice A n c], Value.pointer (some { block := g, off := 0 }), Value.string { data := #[] }, Value.string IW, undef, undef, undef, u7, u8, u9, u10, u11, u12, u13, u14, u15, u16, u17, u18, Value.string IW, Value.string X1, Value.pointer (some { block := g, off := 1 }), Value.string fr, Value.string X2, Value.string X3, Value.pointer (some { block := g, off := 2 }), Value.string tw, Value.string X4, Value.string X5, Value.pointer (some { block := g, off := 3 }), u30, u31, u32, u33, u34, u35, u36, u37, u38, u39, u40, u41, u42, u43, u44, u45, u46, u47, u48, u49, u50, u51, u52, u53, u54, u55, u56, u57, u58, u59], defers := [] }) (by kernel_rfl) ?_
    refine WK.take hR (i := 11) (v := Value.slice A n c) rfl (by kernel_rfl) (by kernel_rfl) (by kernel_rfl) (by kernel_rfl) (fun _ _ _ h => h) (YK.run (by kernel_rfl) (fun wz hz => by have hcell := (hz.cell (p := ⟨g, 3, none⟩) hlt1).trans ((K2.cell 3).trans rfl); go_simp)) ?_
    refine WK.frame (a' := { tmps := #[Value.agg #[Value.int IntKind.i64 id, Value.string fr, Value.string tw, Value.slice A n c], Value.pointer (some { block := g, off := 0 }), Value.string { data := #[] }, Value.string IW, undef, undef, undef, u7, u8, u9, u10, u11, u12, u13, u14, u15, u16, u17, u18, Value.string IW, Value.string X1, Value.pointer (some { block := g, off := 1 }), Value.string fr, Value.string X2, Value.string X3, Value.pointer (some { block := g, off := 2 }), Value.string tw, Value.string X4, Value.string X5, Value.pointer (some { block := g, off := 3 }), Value.slice A n c, u31, u32, u33, u34, u35, u36, u37, u38, u39, u40, u41, u42, u43, u44, u45, u46, u47, u48, u49, u50, u51, u52, u53, u54, u55, u56, u57, u58, u59], defers := [] }) (by kernel_rfl) ?_
    refine WK.pure hR (i := 12) (v := Value.int IntKind.i64 n) rfl (by kernel_rfl) (by kernel_rfl) (by kernel_rfl) (fun _ _ _ h => h) (by kernel_rfl) (fun wz => by go_simp; first | done | rfl) ?_
    refine WK.frame (a' := { tmps := #[Value.agg #[Value.int IntKind.i64 id, Value.string fr, Value.string tw, Value.slice A n c], Value.pointer (some { block := g, off := 0 }), Value.string { data := #[] }, Value.string IW, undef, undef, undef, u7, u8, u9, u10, u11, u12, u13, u14, u15, u16, u17, u18, Value.string IW, Value.string X1, Value.pointer (some { block := g, off := 1 }), Value.string fr, Value.string X2, Value.string X3, Value.pointer (some { block := g, off := 2 }), Value.string tw, Value.string X4, Value.string X5, Value.pointer (some { block := g, off := 3 }), Value.slice A n c, Value.int IntKind.i64 n, u32, u33, u34, u35, u36, u37, u38, u39, u40, u41, u42, u43, u44, u45, u46, u47, u48, u49, u50, u51, u52, u53, u54, u55, u56, u57, u58, u59], defers := [] }) (by kernel_rfl) ?_
    refine WK.take hR (i := 13) (v := Value.string NL) rfl (by kernel_rfl) (by kernel_rfl) (by kernel_rfl) (by kernel_rfl) (fun _ _ _ h => h) (YK.call hR (by kernel_rfl) (fun wz => by go_simp; first | done | rfl) (fun wz hz => hN wz)) ?_
    refine WK.frame (a' := { tmps := #[Value.agg #[Value.int IntKind.i64 id, Value.string fr, Value.string tw, Value.slice A n c], Value.pointer (some { block := g, off := 0 }), Value.string { data := #[] }, Value.string IW, undef, undef, undef, u7, u8, u9, u10, u11, u12, u13, u14, u15, u16, u17, u18, Value.string IW, Value.string X1, Value.pointer (some { block := g, off := 1 }), Value.string fr, Value.string X2, Value.string X3, Value.pointer (some { block := g, off := 2 }), Value.string tw, Value.string X4, Value.string X5, Value.pointer (some { block := g, off := 3 }), Value.slice A n c, Value.int IntKind.i64 n, Value.string NL, u33, u34, u35, u36, u37, u38, u39, u40, u41, u42, u43, u44, u45, u46, u47, u48, u49, u50, u51, u52, u53, u54, u55, u56, u57, u58, u59], defers := [] }) (by kernel_rfl) ?_
    refine WK.pure hR (i := 14) (v := Value.string BD) rfl (by kernel_rfl) (by kernel_rfl) (by kernel_rfl) (fun _ _ _ h => h) (by kernel_rfl) (fun wz => by rw [← E6.out]; go_simp; first | done | rfl) ?_
    refine WK.frame (a' := { tmps := #[Value.agg #[Value.int IntKind.i64 id, Value.string fr, Value.string tw, Value.slice A n c], Value.pointer (some { block := g, off := 0 }), Value.string { data := #[] }, Value.string IW, undef, undef, undef, u7, u8, u9, u10, u11, u12, u13, u14, u15, u16, u17, u18, Value.string IW, Value.string X1, Value.pointer (some { block := g, off := 1 }), Value.string fr, Value.string X2, Value.string X3, Value.pointer (some { block := g, off := 2 }), Value.string tw, Value.string X4, Value.string X5, Value.pointer (some { block := g, off := 3 }), Value.slice A n c, Value.int IntKind.i64 n, Value.string NL, Value.string BD, u34, u35, u36, u37, u38, u39, u40, u41, u42, u43, u44, u45, u46, u47, u48, u49, u50, u51, u52, u53, u54, u55, u56, u57, u58, u59], defers := [] }) (by kernel_rfl) ?_
    refine WK.pure hR (i := 15) (v := Value.string BD) rfl (by kernel_rfl) (by kernel_rfl) (by kernel_rfl) (fun _ _ _ h => h) (by kernel_rfl) (fun wz => by go_simp) ?_
    refine WK.frame (a' := { tmps := #[Value.agg #[Value.int IntKind.i64 id, Value.string fr, Value.string tw, Value.slice A n c], Value.pointer (some { block := g, off := 0 }), Value.string { data := #[] }, Value.string IW, Value.string BD, undef, undef, u7, u8, u9, u10, u11, u12, u13, u14, u15, u16, u17, u18, Value.string IW, Value.string X1, Value.pointer (some { block := g, off := 1 }), Value.string fr, Value.string X2, Value.string X3, Value.pointer (some { block := g, off := 2 }), Value.string tw, Value.string X4, Value.string X5, Value.pointer (some { block := g, off := 3 }), Value.slice A n c, Value.int IntKind.i64 n, Value.string NL, Value.string BD, u34, u35, u36, u37, u38, u39, u40, u41, u42, u43, u44, u45, u46, u47, u48, u49, u50, u51, u52, u53, u54, u55, u56, u57, u58, u59], defers := [] }) (by kernel_rfl) ?_
    refine WK.done (by kernel_rfl) (fun wz hz => ?_)
    have K3 := K2.below hz K2.lt
    have Y3 := Y2.below hz
    have B3 : Below w.heap.size w wz := hB2.out.trans (hz.mono (by have := hB2.out.size; omega))
    have hlt3 := K3.lt
    have c3 : wz.cell? ⟨g, 3, none⟩ = some (.slice A n c) := (K3.cell 3).trans rfl
    have HF := Lib.hid (And.intro B3 (And.intro Y3 K3))
    clear hz K2 K3 Y2 Y3 B3 hB2 hN hR E1 E2 E3 E4 E5 E6 f1 f2 f3 f4 f5 f6 y1 y2 y3 y4 y5
    have hni : (n : Int) ≤ 4000 := by omega
    by_cases hr : 28 ≤ n ∧ n ≤ 1228
    · have hres : joinS [BD, dirS (hd bs / 9223372036854775808), decS (hd bs % 9223372036854775808)] = RT := by rw [HRT.out, if_pos hr]
      have hp := rhead_any A n c bs wz HF.out.2.1 hr.1 hr.2 HH.out.2.1 HH.out.2.2
      have hx := HH.out.1
      have hd2 : hd bs / 9223372036854775808 < 2 := by omega
      have hy : hd bs % 9223372036854775808 < 18446744073709551616 := by omega
      have hF : ∀ W, Calls Tryd.prog 19 #[.int .u64 ((hd bs % 9223372036854775808 : Nat) : Int)] W fun e w' => e = .returned (.string (decS (hd bs % 9223372036854775808))) ∧ Below W.heap.size W w' := fun W => number_any _ W hy
      have hsz := decS_size (hd bs % 9223372036854775808) hy
      obtain ⟨d, hd0⟩ : ∃ x, hd bs / 9223372036854775808 = x := ⟨_, rfl⟩
      obtain ⟨y, hy0⟩ : ∃ x, hd bs % 9223372036854775808 = x := ⟨_, rfl⟩
      rw [hd0] at hd2 hp hres
      rw [hy0] at hp hF hsz hres
      obtain ⟨DY, hDY⟩ : ∃ x, decS y = x := ⟨_, rfl⟩
      obtain ⟨Y, hYY⟩ : ∃ x : Int, (y : Int) = x := ⟨_, rfl⟩
      rw [hDY] at hF hres hsz
      rw [hYY] at hp hF
      rw [← rdat_eq] at hres
      have HG := Lib.hid hF
      have HRS := Lib.hid hres
      have r1 : (28 : Int) ≤ (n : Int) := by omega
      have r2 : (n : Int) ≤ 1228 := by omega
      have b1 : decide ((n : Int) < 28) = false := decide_eq_false (by omega)
      have b2 : decide (1228 < (n : Int)) = false := decide_eq_false (by omega)
      clear hres HRT hx hy hd0 hy0 hDY hYY hF HH hr
      have hdd : d = 0 ∨ d = 1 := by omega
      clear hd2
      rcases hdd with rfl | rfl
      · go_wp2_with (go_at_call 35; refine hp.mono ?_; rintro _ _ ⟨rfl, rfl⟩; refine Hid.out ?_)
        refine Lib.hid ?_
        clear hp b1 b2
        go_wp2_with fail
        have hF := HG.out
        obtain ⟨hB3, hY3, K3⟩ := HF.out
        clear HG HF c3 hY3
        have hR := later_below
        obtain ⟨X7, e7, y7⟩ : ∃ x : ByteArray, BD ++ (⟨#[32, 115, 101, 114, 118, 101, 114, 32]⟩ : ByteArray) = x ∧ x.size ≤ 4200 := ⟨_, rfl, by rw [ByteArray.size_append]; have h : (⟨#[32, 115, 101, 114, 118, 101, 114, 32]⟩ : ByteArray).size = 8 := rfl; omega⟩
        have e8 : X7 ++ DY = RT := by rw [← HRS.out, ← e7]; rfl
        have f7 : BD.size ≤ 9223372036854775799 := by omega
        have f8 : X7.size + DY.size ≤ 9223372036854775807 := by omega
        have E7 := Lib.hid e7
        have E8 := Lib.hid e8
        clear e7 e8 HRS
        refine wp_region_later (X := []) hR (by kernel_rfl) ?_
        refine WK.pure hR (i := 0) (v := Value.string BD) rfl (by kernel_rfl) (by kernel_rfl) (by kernel_rfl) (fun _ _ _ h => h) (by kernel_rfl) (fun wz => by go_simp) ?_
        refine WK.frame (a' := { tmps := #[Value.agg #[Value.int IntKind.i64 id, Value.string fr, Value.string tw, Value.slice A n c], Value.pointer (some { block := g, off := 0 }), Value.string { data := #[] }, Value.string IW, Value.string BD, Value.int IntKind.i64 0, Value.int IntKind.u64 Y, u7, u8, u9, u10, u11, u12, u13, u14, u15, u16, u17, u18, Value.string IW, Value.string X1, Value.pointer (some { block := g, off := 1 }), Value.string fr, Value.string X2, Value.string X3, Value.pointer (some { block := g, off := 2 }), Value.string tw, Value.string X4, Value.string X5, Value.pointer (some { block := g, off := 3 }), Value.slice A n c, Value.int IntKind.i64 n, Value.string NL, Value.string BD, Value.pointer (some { block := g, off := 3 }), Value.slice A n c, Value.int IntKind.i64 n, Value.bool false, Value.bool false, Value.pointer (some { block := g, off := 3 }), Value.slice A n c, Value.int IntKind.i64 n, Value.bool false, Value.bool false, u44, Value.tuple #[Value.int IntKind.i64 0, Value.int IntKind.u64 Y], Value.pointer (some { block := g, off := 3 }), Value.slice A n c, Value.tuple #[Value.int IntKind.i64 0, Value.int IntKind.u64 Y], Value.int IntKind.i64 0, Value.int IntKind.u64 Y, Value.string BD, u52, u53, u54, u55, u56, u57, u58, u59], defers := [] }) (by kernel_rfl) ?_
        refine WK.pure hR (i := 2) (v := Value.int IntKind.i64 0) rfl (by kernel_rfl) (by kernel_rfl) (by kernel_rfl) (fun _ _ _ h => h) (by kernel_rfl) (fun wz => by go_simp) ?_
        refine WK.frame (a' := { tmps := #[Value.agg #[Value.int IntKind.i64 id, Value.string fr, Value.string tw, Value.slice A n c], Value.pointer (some { block := g, off := 0 }), Value.string { data := #[] }, Value.string IW, Value.string BD, Value.int IntKind.i64 0, Value.int IntKind.u64 Y, u7, u8, u9, u10, u11, u12, u13, u14, u15, u16, u17, u18, Value.string IW, Value.string X1, Value.pointer (some { block := g, off := 1 }), Value.string fr, Value.string X2, Value.string X3, Value.pointer (some { block := g, off := 2 }), Value.string tw, Value.string X4, Value.string X5, Value.pointer (some { block := g, off := 3 }), Value.slice A n c, Value.int IntKind.i64 n, Value.string NL, Value.string BD, Value.pointer (some { block := g, off := 3 }), Value.slice A n c, Value.int IntKind.i64 n, Value.bool false, Value.bool false, Value.pointer (some { block := g, off := 3 }), Value.slice A n c, Value.int IntKind.i64 n, Value.bool false, Value.bool false, u44, Value.tuple #[Value.int IntKind.i64 0, Value.int IntKind.u64 Y], Value.pointer (some { block := g, off := 3 }), Value.slice A n c, Value.tuple #[Value.int IntKind.i64 0, Value.int IntKind.u64 Y], Value.int IntKind.i64 0, Value.int IntKind.u64 Y, Value.string BD, u52, Value.int IntKind.i64 0, u54, u55, u56, u57, u58, u59], defers := [] }) (by kernel_rfl) ?_
        refine WK.pure hR (i := 6) (v := Value.int IntKind.u64 Y) rfl (by kernel_rfl) (by kernel_rfl) (by kernel_rfl) (fun _ _ _ h => h) (by kernel_rfl) (fun wz => by go_simp) ?_
        refine WK.frame (a' := { tmps := #[Value.agg #[Value.int IntKind.i64 id, Value.string fr, Value.string tw, Value.slice A n c], Value.pointer (some { block := g, off := 0 }), Value.string { data := #[] }, Value.string IW, Value.string BD, Value.int IntKind.i64 0, Value.int IntKind.u64 Y, u7, u8, u9, u10, u11, u12, u13, u14, u15, u16, u17, u18, Value.string IW, Value.string X1, Value.pointer (some { block := g, off := 1 }), Value.string fr, Value.string X2, Value.string X3, Value.pointer (some { block := g, off := 2 }), Value.string tw, Value.string X4, Value.string X5, Value.pointer (some { block := g, off := 3 }), Value.slice A n c, Value.int IntKind.i64 n, Value.string NL, Value.string BD, Value.pointer (some { block := g, off := 3 }), Value.slice A n c, Value.int IntKind.i64 n, Value.bool false, Value.bool false, Value.pointer (some { block := g, off := 3 }), Value.slice A n c, Value.int IntKind.i64 n, Value.bool false, Value.bool false, u44, Value.tuple #[Value.int IntKind.i64 0, Value.int IntKind.u64 Y], Value.pointer (some { block := g, off := 3 }), Value.slice A n c, Value.tuple #[Value.int IntKind.i64 0, Value.int IntKind.u64 Y], Value.int IntKind.i64 0, Value.int IntKind.u64 Y, Value.string BD, u52, Value.int IntKind.i64 0, u54, u55, u56, Value.int IntKind.u64 Y, u58, u59], defers := [] }) (by kernel_rfl) ?_
        refine WK.take hR (i := 7) (v := Value.string DY) rfl (by kernel_rfl) (by kernel_rfl) (by kernel_rfl) (by kernel_rfl) (fun _ _ _ h => h) (YK.call hR (by kernel_rfl) (fun wz => by go_simp; first | done | rfl) (fun wz hz => hF wz)) ?_
        refine WK.frame (a' := { tmps := #[Value.agg #[Value.int IntKind.i64 id, Value.string fr, Value.string tw, Value.slice A n c], Value.pointer (some { block := g, off := 0 }), Value.string { data := #[] }, Value.string IW, Value.string BD, Value.int IntKind.i64 0, Value.int IntKind.u64 Y, u7, u8, u9, u10, u11, u12, u13, u14, u15, u16, u17, u18, Value.string IW, Value.string X1, Value.pointer (some { block := g, off := 1 }), Value.string fr, Value.string X2, Value.string X3, Value.pointer (some { block := g, off := 2 }), Value.string tw, Value.string X4, Value.string X5, Value.pointer (some { block := g, off := 3 }), Value.slice A n c, Value.int IntKind.i64 n, Value.string NL, Value.string BD, Value.pointer (some { block := g, off := 3 }), Value.slice A n c, Value.int IntKind.i64 n, Value.bool false, Value.bool false, Value.pointer (some { block := g, off := 3 }), Value.slice A n c, Value.int IntKind.i64 n, Value.bool false, Value.bool false, u44, Value.tuple #[Value.int IntKind.i64 0, Value.int IntKind.u64 Y], Value.pointer (some { block := g, off := 3 }), Value.slice A n c, Value.tuple #[Value.int IntKind.i64 0, Value.int IntKind.u64 Y], Value.int IntKind.i64 0, Value.int IntKind.u64 Y, Value.string BD, u52, Value.int IntKind.i64 0, u54, u55, u56, Value.int IntKind.u64 Y, Value.string DY, u59], defers := [] }) (by kernel_rfl) ?_
        refine WK.each (rs := [1]) (by kernel_rfl) (by simp) (fun x3 hx3 i hi => ?_)
        simp only [List.mem_cons, List.not_mem_nil, or_false] at hi
        subst hi
        refine wpOp_makes (v := Value.slice (some { block := x3.heap.size, off := 0 }) 2 2) (w2 := x3.alloc (.cells #[.string ⟨#[32, 115, 101, 114, 118, 101, 114, 32]⟩, .string ⟨#[32, 99, 108, 105, 101, 110, 116, 32]⟩] 9)) rfl (by kernel_rfl) (by go_simp; first | done | rfl) ⟨.inr ((Below.refl _ x3).alloc (Nat.le_refl _) _), ?_⟩
        have K4 := Blk.new x3 9 #[.string ⟨#[32, 115, 101, 114, 118, 101, 114, 32]⟩, .string ⟨#[32, 99, 108, 105, 101, 110, 116, 32]⟩]
        have hB4 : Below wz.heap.size wz (x3.alloc (.cells #[.string ⟨#[32, 115, 101, 114, 118, 101, 114, 32]⟩, .string ⟨#[32, 99, 108, 105, 101, 110, 116, 32]⟩] 9)) := hx3.alloc hx3.size _
        obtain ⟨bj, hbj⟩ : ∃ bk, x3.heap.size = bk := ⟨_, rfl⟩
        rw [hbj] at K4 ⊢
        generalize x3.alloc (.cells #[.string ⟨#[32, 115, 101, 114, 118, 101, 114, 32]⟩, .string ⟨#[32, 99, 108, 105, 101, 110, 116, 32]⟩] 9) = x4 at *
        have hlt4 := K4.lt
        refine WK.frame (a' := { tmps := #[Value.agg #[Value.int IntKind.i64 id, Value.string fr, Value.string tw, Value.slice A n c], Value.pointer (some { block := g, off := 0 }), Value.string { data := #[] }, Value.string IW, Value.string BD, Value.int IntKind.i64 0, Value.int IntKind.u64 Y, u7, u8, u9, u10, u11, u12, u13, u14, u15, u16, u17, u18, Value.string IW, Value.string X1, Value.pointer (some { block := g, off := 1 }), Value.string fr, Value.string X2, Value.string X3, Value.pointer (some { block := g, off := 2 }), Value.string tw, Value.string X4, Value.string X5, Value.pointer (some { block := g, off := 3 }), Value.slice A n c, Value.int IntKind.i64 n, Value.string NL, Value.string BD, Value.pointer (some { block := g, off := 3 }), Value.slice A n c, Value.int IntKind.i64 n, Value.bool false, Value.bool false, Value.pointer (some { block := g, off := 3 }), Value.slice A n c, Value.int IntKind.i64 n, Value.bool false, Value.bool false, u44, Value.tuple #[Value.int IntKind.i64 0, Value.int IntKind.u64 Y], Value.pointer (some { block := g, off := 3 }), Value.slice A n c, Value.tuple #[Value.int IntKind.i64 0, Value.int IntKind.u64 Y], Value.int IntKind.i64 0, Value.int IntKind.u64 Y, Value.string BD, Value.slice (some { block := bj, off := 0 }) 2 2, Value.int IntKind.i64 0, u54, u55, u56, Value.int IntKind.u64 Y, Value.string DY, u59], defers := [] }) (by kernel_rfl) ?_
        refine WK.pure hR (i := 3) (v := Value.pointer (some { block := bj, off := 0 })) rfl (by kernel_rfl) (by kernel_rfl) (by kernel_rfl) (fun _ _ _ h => h) (by kernel_rfl) (fun wz => by go_simp; first | done | rfl) ?_
        refine WK.frame (a' := { tmps := #[Value.agg #[Value.int IntKind.i64 id, Value.string fr, Value.string tw, Value.slice A n c], Value.pointer (some { block := g, off := 0 }), Value.string { data := #[] }, Value.string IW, Value.string BD, Value.int IntKind.i64 0, Value.int IntKind.u64 Y, u7, u8, u9, u10, u11, u12, u13, u14, u15, u16, u17, u18, Value.string IW, Value.string X1, Value.pointer (some { block := g, off := 1 }), Value.string fr, Value.string X2, Value.string X3, Value.pointer (some { block := g, off := 2 }), Value.string tw, Value.string X4, Value.string X5, Value.pointer (some { block := g, off := 3 }), Value.slice A n c, Value.int IntKind.i64 n, Value.string NL, Value.string BD, Value.pointer (some { block := g, off := 3 }), Value.slice A n c, Value.int IntKind.i64 n, Value.bool false, Value.bool false, Value.pointer (some { block := g, off := 3 }), Value.slice A n c, Value.int IntKind.i64 n, Value.bool false, Value.bool false, u44, Value.tuple #[Value.int IntKind.i64 0, Value.int IntKind.u64 Y], Value.pointer (some { block := g, off := 3 }), Value.slice A n c, Value.tuple #[Value.int IntKind.i64 0, Value.int IntKind.u64 Y], Value.int IntKind.i64 0, Value.int IntKind.u64 Y, Value.string BD, Value.slice (some { block := bj, off := 0 }) 2 2, Value.int IntKind.i64 0, Value.pointer (some { block := bj, off := 0 }), u55, u56, Value.int IntKind.u64 Y, Value.string DY, u59], defers := [] }) (by kernel_rfl) ?_
        refine WK.take hR (i := 4) (v := Value.string { data := #[32, 115, 101, 114, 118, 101, 114, 32] }) rfl (by kernel_rfl) (by kernel_rfl) (by kernel_rfl) (by kernel_rfl) (fun _ _ _ h => h) (YK.run (by kernel_rfl) (fun wz hz => by have hcell := (hz.cell (p := ⟨bj, 0, none⟩) hlt4).trans ((K4.cell 0).trans rfl); go_simp)) ?_
        refine WK.frame (a' := { tmps := #[Value.agg #[Value.int IntKind.i64 id, Value.string fr, Value.string tw, Value.slice A n c], Value.pointer (some { block := g, off := 0 }), Value.string { data := #[] }, Value.string IW, Value.string BD, Value.int IntKind.i64 0, Value.int IntKind.u64 Y, u7, u8, u9, u10, u11, u12, u13, u14, u15, u16, u17, u18, Value.string IW, Value.string X1, Value.pointer (some { block := g, off := 1 }), Value.string fr, Value.string X2, Value.string X3, Value.pointer (some { block := g, off := 2 }), Value.string tw, Value.string X4, Value.string X5, Value.pointer (some { block := g, off := 3 }), Value.slice A n c, Value.int IntKind.i64 n, Value.string NL, Value.string BD, Value.pointer (some { block := g, off := 3 }), Value.slice A n c, Value.int IntKind.i64 n, Value.bool false, Value.bool false, Value.pointer (some { block := g, off := 3 }), Value.slice A n c, Value.int IntKind.i64 n, Value.bool false, Value.bool false, u44, Value.tuple #[Value.int IntKind.i64 0, Value.int IntKind.u64 Y], Value.pointer (some { block := g, off := 3 }), Value.slice A n c, Value.tuple #[Value.int IntKind.i64 0, Value.int IntKind.u64 Y], Value.int IntKind.i64 0, Value.int IntKind.u64 Y, Value.string BD, Value.slice (some { block := bj, off := 0 }) 2 2, Value.int IntKind.i64 0, Value.pointer (some { block := bj, off := 0 }), Value.string { data := #[32, 115, 101, 114, 118, 101, 114, 32] }, u56, Value.int IntKind.u64 Y, Value.string DY, u59], defers := [] }) (by kernel_rfl) ?_
        refine WK.pure hR (i := 5) (v := Value.string X7) rfl (by kernel_rfl) (by kernel_rfl) (by kernel_rfl) (fun _ _ _ h => h) (by kernel_rfl) (fun wz => by rw [← E7.out]; go_simp; first | done | rfl) ?_
        refine WK.frame (a' := { tmps := #[Value.agg #[Value.int IntKind.i64 id, Value.string fr, Value.string tw, Value.slice A n c], Value.pointer (some { block := g, off := 0 }), Value.string { data := #[] }, Value.string IW, Value.string BD, Value.int IntKind.i64 0, Value.int IntKind.u64 Y, u7, u8, u9, u10, u11, u12, u13, u14, u15, u16, u17, u18, Value.string IW, Value.string X1, Value.pointer (some { block := g, off := 1 }), Value.string fr, Value.string X2, Value.string X3, Value.pointer (some { block := g, off := 2 }), Value.string tw, Value.string X4, Value.string X5, Value.pointer (some { block := g, off := 3 }), Value.slice A n c, Value.int IntKind.i64 n, Value.string NL, Value.string BD, Value.pointer (some { block := g, off := 3 }), Value.slice A n c, Value.int IntKind.i64 n, Value.bool false, Value.bool false, Value.pointer (some { block := g, off := 3 }), Value.slice A n c, Value.int IntKind.i64 n, Value.bool false, Value.bool false, u44, Value.tuple #[Value.int IntKind.i64 0, Value.int IntKind.u64 Y], Value.pointer (some { block := g, off := 3 }), Value.slice A n c, Value.tuple #[Value.int IntKind.i64 0, Value.int IntKind.u64 Y], Value.int IntKind.i64 0, Value.int IntKind.u64 Y, Value.string BD, Value.slice (some { block := bj, off := 0 }) 2 2, Value.int IntKind.i64 0, Value.pointer (some { block := bj, off := 0 }), Value.string { data := #[32, 115, 101, 114, 118, 101, 114, 32] }, Value.string X7, Value.int IntKind.u64 Y, Value.string DY, u59], defers := [] }) (by kernel_rfl) ?_
        refine WK.pure hR (i := 8) (v := Value.string RT) rfl (by kernel_rfl) (by kernel_rfl) (by kernel_rfl) (fun _ _ _ h => h) (by kernel_rfl) (fun wz => by rw [← E8.out]; go_simp; first | done | rfl) ?_
        refine WK.frame (a' := { tmps := #[Value.agg #[Value.int IntKind.i64 id, Value.string fr, Value.string tw, Value.slice A n c], Value.pointer (some { block := g, off := 0 }), Value.string { data := #[] }, Value.string IW, Value.string BD, Value.int IntKind.i64 0, Value.int IntKind.u64 Y, u7, u8, u9, u10, u11, u12, u13, u14, u15, u16, u17, u18, Value.string IW, Value.string X1, Value.pointer (some { block := g, off := 1 }), Value.string fr, Value.string X2, Value.string X3, Value.pointer (some { block := g, off := 2 }), Value.string tw, Value.string X4, Value.string X5, Value.pointer (some { block := g, off := 3 }), Value.slice A n c, Value.int IntKind.i64 n, Value.string NL, Value.string BD, Value.pointer (some { block := g, off := 3 }), Value.slice A n c, Value.int IntKind.i64 n, Value.bool false, Value.bool false, Value.pointer (some { block := g, off := 3 }), Value.slice A n c, Value.int IntKind.i64 n, Value.bool false, Value.bool false, u44, Value.tuple #[Value.int IntKind.i64 0, Value.int IntKind.u64 Y], Value.pointer (some { block := g, off := 3 }), Value.slice A n c, Value.tuple #[Value.int IntKind.i64 0, Value.int IntKind.u64 Y], Value.int IntKind.i64 0, Value.int IntKind.u64 Y, Value.string BD, Value.slice (some { block := bj, off := 0 }) 2 2, Value.int IntKind.i64 0, Value.pointer (some { block := bj, off := 0 }), Value.string { data := #[32, 115, 101, 114, 118, 101, 114, 32] }, Value.string X7, Value.int IntKind.u64 Y, Value.string DY, Value.string RT], defers := [] }) (by kernel_rfl) ?_
        refine WK.pure hR (i := 9) (v := Value.string RT) rfl (by kernel_rfl) (by kernel_rfl) (by kernel_rfl) (fun _ _ _ h => h) (by kernel_rfl) (fun wz => by go_simp) ?_
        refine WK.frame (a' := { tmps := #[Value.agg #[Value.int IntKind.i64 id, Value.string fr, Value.string tw, Value.slice A n c], Value.pointer (some { block := g, off := 0 }), Value.string RT, Value.string IW, Value.string BD, Value.int IntKind.i64 0, Value.int IntKind.u64 Y, u7, u8, u9, u10, u11, u12, u13, u14, u15, u16, u17, u18, Value.string IW, Value.string X1, Value.pointer (some { block := g, off := 1 }), Value.string fr, Value.string X2, Value.string X3, Value.pointer (some { block := g, off := 2 }), Value.string tw, Value.string X4, Value.string X5, Value.pointer (some { block := g, off := 3 }), Value.slice A n c, Value.int IntKind.i64 n, Value.string NL, Value.string BD, Value.pointer (some { block := g, off := 3 }), Value.slice A n c, Value.int IntKind.i64 n, Value.bool false, Value.bool false, Value.pointer (some { block := g, off := 3 }), Value.slice A n c, Value.int IntKind.i64 n, Value.bool false, Value.bool false, u44, Value.tuple #[Value.int IntKind.i64 0, Value.int IntKind.u64 Y], Value.pointer (some { block := g, off := 3 }), Value.slice A n c, Value.tuple #[Value.int IntKind.i64 0, Value.int IntKind.u64 Y], Value.int IntKind.i64 0, Value.int IntKind.u64 Y, Value.string BD, Value.slice (some { block := bj, off := 0 }) 2 2, Value.int IntKind.i64 0, Value.pointer (some { block := bj, off := 0 }), Value.string { data := #[32, 115, 101, 114, 118, 101, 114, 32] }, Value.string X7, Value.int IntKind.u64 Y, Value.string DY, Value.string RT], defers := [] }) (by kernel_rfl) ?_
        refine WK.done (by kernel_rfl) (fun wy hy => ?_)
        have hfin : Below w.heap.size w wy := hB3.trans ((hB4.trans (hy.mono hB4.size)).mono hB3.size)
        have HQ := Lib.hid hfin
        clear hfin hy hB3 hB4 K3 K4 hx3 hF hR
        go_wp2_with fail
        go_ret
        exact ⟨rfl, HQ.out⟩
      · go_wp2_with (go_at_call 35; refine hp.mono ?_; rintro _ _ ⟨rfl, rfl⟩; refine Hid.out ?_)
        refine Lib.hid ?_
        clear hp b1 b2
        go_wp2_with fail
        have hF := HG.out
        obtain ⟨hB3, hY3, K3⟩ := HF.out
        clear HG HF c3 hY3
        have hR := later_below
        obtain ⟨X7, e7, y7⟩ : ∃ x : ByteArray, BD ++ (⟨#[32, 99, 108, 105, 101, 110, 116, 32]⟩ : ByteArray) = x ∧ x.size ≤ 4200 := ⟨_, rfl, by rw [ByteArray.size_append]; have h : (⟨#[32, 99, 108, 105, 101, 110, 116, 32]⟩ : ByteArray).size = 8 := rfl; omega⟩
        have e8 : X7 ++ DY = RT := by rw [← HRS.out, ← e7]; rfl
        have f7 : BD.size ≤ 9223372036854775799 := by omega
        have f8 : X7.size + DY.size ≤ 9223372036854775807 := by omega
        have E7 := Lib.hid e7
        have E8 := Lib.hid e8
        clear e7 e8 HRS
        refine wp_region_later (X := []) hR (by kernel_rfl) ?_
        refine WK.pure hR (i := 0) (v := Value.string BD) rfl (by kernel_rfl) (by kernel_rfl) (by kernel_rfl) (fun _ _ _ h => h) (by kernel_rfl) (fun wz => by go_simp) ?_
        refine WK.frame (a' := { tmps := #[Value.agg #[Value.int IntKind.i64 id, Value.string fr, Value.string tw, Value.slice A n c], Value.pointer (some { block := g, off := 0 }), Value.string { data := #[] }, Value.string IW, Value.string BD, Value.int IntKind.i64 1, Value.int IntKind.u64 Y, u7, u8, u9, u10, u11, u12, u13, u14, u15, u16, u17, u18, Value.string IW, Value.string X1, Value.pointer (some { block := g, off := 1 }), Value.string fr, Value.string X2, Value.string X3, Value.pointer (some { block := g, off := 2 }), Value.string tw, Value.string X4, Value.string X5, Value.pointer (some { block := g, off := 3 }), Value.slice A n c, Value.int IntKind.i64 n, Value.string NL, Value.string BD, Value.pointer (some { block := g, off := 3 }), Value.slice A n c, Value.int IntKind.i64 n, Value.bool false, Value.bool false, Value.pointer (some { block := g, off := 3 }), Value.slice A n c, Value.int IntKind.i64 n, Value.bool false, Value.bool false, u44, Value.tuple #[Value.int IntKind.i64 1, Value.int IntKind.u64 Y], Value.pointer (some { block := g, off := 3 }), Value.slice A n c, Value.tuple #[Value.int IntKind.i64 1, Value.int IntKind.u64 Y], Value.int IntKind.i64 1, Value.int IntKind.u64 Y, Value.string BD, u52, u53, u54, u55, u56, u57, u58, u59], defers := [] }) (by kernel_rfl) ?_
        refine WK.pure hR (i := 2) (v := Value.int IntKind.i64 1) rfl (by kernel_rfl) (by kernel_rfl) (by kernel_rfl) (fun _ _ _ h => h) (by kernel_rfl) (fun wz => by go_simp) ?_
        refine WK.frame (a' := { tmps := #[Value.agg #[Value.int IntKind.i64 id, Value.string fr, Value.string tw, Value.slice A n c], Value.pointer (some { block := g, off := 0 }), Value.string { data := #[] }, Value.string IW, Value.string BD, Value.int IntKind.i64 1, Value.int IntKind.u64 Y, u7, u8, u9, u10, u11, u12, u13, u14, u15, u16, u17, u18, Value.string IW, Value.string X1, Value.pointer (some { block := g, off := 1 }), Value.string fr, Value.string X2, Value.string X3, Value.pointer (some { block := g, off := 2 }), Value.string tw, Value.string X4, Value.string X5, Value.pointer (some { block := g, off := 3 }), Value.slice A n c, Value.int IntKind.i64 n, Value.string NL, Value.string BD, Value.pointer (some { block := g, off := 3 }), Value.slice A n c, Value.int IntKind.i64 n, Value.bool false, Value.bool false, Value.pointer (some { block := g, off := 3 }), Value.slice A n c, Value.int IntKind.i64 n, Value.bool false, Value.bool false, u44, Value.tuple #[Value.int IntKind.i64 1, Value.int IntKind.u64 Y], Value.pointer (some { block := g, off := 3 }), Value.slice A n c, Value.tuple #[Value.int IntKind.i64 1, Value.int IntKind.u64 Y], Value.int IntKind.i64 1, Value.int IntKind.u64 Y, Value.string BD, u52, Value.int IntKind.i64 1, u54, u55, u56, u57, u58, u59], defers := [] }) (by kernel_rfl) ?_
        refine WK.pure hR (i := 6) (v := Value.int IntKind.u64 Y) rfl (by kernel_rfl) (by kernel_rfl) (by kernel_rfl) (fun _ _ _ h => h) (by kernel_rfl) (fun wz => by go_simp) ?_
        refine WK.frame (a' := { tmps := #[Value.agg #[Value.int IntKind.i64 id, Value.string fr, Value.string tw, Value.slice A n c], Value.pointer (some { block := g, off := 0 }), Value.string { data := #[] }, Value.string IW, Value.string BD, Value.int IntKind.i64 1, Value.int IntKind.u64 Y, u7, u8, u9, u10, u11, u12, u13, u14, u15, u16, u17, u18, Value.string IW, Value.string X1, Value.pointer (some { block := g, off := 1 }), Value.string fr, Value.string X2, Value.string X3, Value.pointer (some { block := g, off := 2 }), Value.string tw, Value.string X4, Value.string X5, Value.pointer (some { block := g, off := 3 }), Value.slice A n c, Value.int IntKind.i64 n, Value.string NL, Value.string BD, Value.pointer (some { block := g, off := 3 }), Value.slice A n c, Value.int IntKind.i64 n, Value.bool false, Value.bool false, Value.pointer (some { block := g, off := 3 }), Value.slice A n c, Value.int IntKind.i64 n, Value.bool false, Value.bool false, u44, Value.tuple #[Value.int IntKind.i64 1, Value.int IntKind.u64 Y], Value.pointer (some { block := g, off := 3 }), Value.slice A n c, Value.tuple #[Value.int IntKind.i64 1, Value.int IntKind.u64 Y], Value.int IntKind.i64 1, Value.int IntKind.u64 Y, Value.string BD, u52, Value.int IntKind.i64 1, u54, u55, u56, Value.int IntKind.u64 Y, u58, u59], defers := [] }) (by kernel_rfl) ?_
        refine WK.take hR (i := 7) (v := Value.string DY) rfl (by kernel_rfl) (by kernel_rfl) (by kernel_rfl) (by kernel_rfl) (fun _ _ _ h => h) (YK.call hR (by kernel_rfl) (fun wz => by go_simp; first | done | rfl) (fun wz hz => hF wz)) ?_
        refine WK.frame (a' := { tmps := #[Value.agg #[Value.int IntKind.i64 id, Value.string fr, Value.string tw, Value.slice A n c], Value.pointer (some { block := g, off := 0 }), Value.string { data := #[] }, Value.string IW, Value.string BD, Value.int IntKind.i64 1, Value.int IntKind.u64 Y, u7, u8, u9, u10, u11, u12, u13, u14, u15, u16, u17, u18, Value.string IW, Value.string X1, Value.pointer (some { block := g, off := 1 }), Value.string fr, Value.string X2, Value.string X3, Value.pointer (some { block := g, off := 2 }), Value.string tw, Value.string X4, Value.string X5, Value.pointer (some { block := g, off := 3 }), Value.slice A n c, Value.int IntKind.i64 n, Value.string NL, Value.string BD, Value.pointer (some { block := g, off := 3 }), Value.slice A n c, Value.int IntKind.i64 n, Value.bool false, Value.bool false, Value.pointer (some { block := g, off := 3 }), Value.slice A n c, Value.int IntKind.i64 n, Value.bool false, Value.bool false, u44, Value.tuple #[Value.int IntKind.i64 1, Value.int IntKind.u64 Y], Value.pointer (some { block := g, off := 3 }), Value.slice A n c, Value.tuple #[Value.int IntKind.i64 1, Value.int IntKind.u64 Y], Value.int IntKind.i64 1, Value.int IntKind.u64 Y, Value.string BD, u52, Value.int IntKind.i64 1, u54, u55, u56, Value.int IntKind.u64 Y, Value.string DY, u59], defers := [] }) (by kernel_rfl) ?_
        refine WK.each (rs := [1]) (by kernel_rfl) (by simp) (fun x3 hx3 i hi => ?_)
        simp only [List.mem_cons, List.not_mem_nil, or_false] at hi
        subst hi
        refine wpOp_makes (v := Value.slice (some { block := x3.heap.size, off := 0 }) 2 2) (w2 := x3.alloc (.cells #[.string ⟨#[32, 115, 101, 114, 118, 101, 114, 32]⟩, .string ⟨#[32, 99, 108, 105, 101, 110, 116, 32]⟩] 9)) rfl (by kernel_rfl) (by go_simp; first | done | rfl) ⟨.inr ((Below.refl _ x3).alloc (Nat.le_refl _) _), ?_⟩
        have K4 := Blk.new x3 9 #[.string ⟨#[32, 115, 101, 114, 118, 101, 114, 32]⟩, .string ⟨#[32, 99, 108, 105, 101, 110, 116, 32]⟩]
        have hB4 : Below wz.heap.size wz (x3.alloc (.cells #[.string ⟨#[32, 115, 101, 114, 118, 101, 114, 32]⟩, .string ⟨#[32, 99, 108, 105, 101, 110, 116, 32]⟩] 9)) := hx3.alloc hx3.size _
        obtain ⟨bj, hbj⟩ : ∃ bk, x3.heap.size = bk := ⟨_, rfl⟩
        rw [hbj] at K4 ⊢
        generalize x3.alloc (.cells #[.string ⟨#[32, 115, 101, 114, 118, 101, 114, 32]⟩, .string ⟨#[32, 99, 108, 105, 101, 110, 116, 32]⟩] 9) = x4 at *
        have hlt4 := K4.lt
        refine WK.frame (a' := { tmps := #[Value.agg #[Value.int IntKind.i64 id, Value.string fr, Value.string tw, Value.slice A n c], Value.pointer (some { block := g, off := 0 }), Value.string { data := #[] }, Value.string IW, Value.string BD, Value.int IntKind.i64 1, Value.int IntKind.u64 Y, u7, u8, u9, u10, u11, u12, u13, u14, u15, u16, u17, u18, Value.string IW, Value.string X1, Value.pointer (some { block := g, off := 1 }), Value.string fr, Value.string X2, Value.string X3, Value.pointer (some { block := g, off := 2 }), Value.string tw, Value.string X4, Value.string X5, Value.pointer (some { block := g, off := 3 }), Value.slice A n c, Value.int IntKind.i64 n, Value.string NL, Value.string BD, Value.pointer (some { block := g, off := 3 }), Value.slice A n c, Value.int IntKind.i64 n, Value.bool false, Value.bool false, Value.pointer (some { block := g, off := 3 }), Value.slice A n c, Value.int IntKind.i64 n, Value.bool false, Value.bool false, u44, Value.tuple #[Value.int IntKind.i64 1, Value.int IntKind.u64 Y], Value.pointer (some { block := g, off := 3 }), Value.slice A n c, Value.tuple #[Value.int IntKind.i64 1, Value.int IntKind.u64 Y], Value.int IntKind.i64 1, Value.int IntKind.u64 Y, Value.string BD, Value.slice (some { block := bj, off := 0 }) 2 2, Value.int IntKind.i64 1, u54, u55, u56, Value.int IntKind.u64 Y, Value.string DY, u59], defers := [] }) (by kernel_rfl) ?_
        refine WK.pure hR (i := 3) (v := Value.pointer (some { block := bj, off := 1 })) rfl (by kernel_rfl) (by kernel_rfl) (by kernel_rfl) (fun _ _ _ h => h) (by kernel_rfl) (fun wz => by go_simp; first | done | rfl) ?_
        refine WK.frame (a' := { tmps := #[Value.agg #[Value.int IntKind.i64 id, Value.string fr, Value.string tw, Value.slice A n c], Value.pointer (some { block := g, off := 0 }), Value.string { data := #[] }, Value.string IW, Value.string BD, Value.int IntKind.i64 1, Value.int IntKind.u64 Y, u7, u8, u9, u10, u11, u12, u13, u14, u15, u16, u17, u18, Value.string IW, Value.string X1, Value.pointer (some { block := g, off := 1 }), Value.string fr, Value.string X2, Value.string X3, Value.pointer (some { block := g, off := 2 }), Value.string tw, Value.string X4, Value.string X5, Value.pointer (some { block := g, off := 3 }), Value.slice A n c, Value.int IntKind.i64 n, Value.string NL, Value.string BD, Value.pointer (some { block := g, off := 3 }), Value.slice A n c, Value.int IntKind.i64 n, Value.bool false, Value.bool false, Value.pointer (some { block := g, off := 3 }), Value.slice A n c, Value.int IntKind.i64 n, Value.bool false, Value.bool false, u44, Value.tuple #[Value.int IntKind.i64 1, Value.int IntKind.u64 Y], Value.pointer (some { block := g, off := 3 }), Value.slice A n c, Value.tuple #[Value.int IntKind.i64 1, Value.int IntKind.u64 Y], Value.int IntKind.i64 1, Value.int IntKind.u64 Y, Value.string BD, Value.slice (some { block := bj, off := 0 }) 2 2, Value.int IntKind.i64 1, Value.pointer (some { block := bj, off := 1 }), u55, u56, Value.int IntKind.u64 Y, Value.string DY, u59], defers := [] }) (by kernel_rfl) ?_
        refine WK.take hR (i := 4) (v := Value.string { data := #[32, 99, 108, 105, 101, 110, 116, 32] }) rfl (by kernel_rfl) (by kernel_rfl) (by kernel_rfl) (by kernel_rfl) (fun _ _ _ h => h) (YK.run (by kernel_rfl) (fun wz hz => by have hcell := (hz.cell (p := ⟨bj, 1, none⟩) hlt4).trans ((K4.cell 1).trans rfl); go_simp)) ?_
        refine WK.frame (a' := { tmps := #[Value.agg #[Value.int IntKind.i64 id, Value.string fr, Value.string tw, Value.slice A n c], Value.pointer (some { block := g, off := 0 }), Value.string { data := #[] }, Value.string IW, Value.string BD, Value.int IntKind.i64 1, Value.int IntKind.u64 Y, u7, u8, u9, u10, u11, u12, u13, u14, u15, u16, u17, u18, Value.string IW, Value.string X1, Value.pointer (some { block := g, off := 1 }), Value.string fr, Value.string X2, Value.string X3, Value.pointer (some { block := g, off := 2 }), Value.string tw, Value.string X4, Value.string X5, Value.pointer (some { block := g, off := 3 }), Value.slice A n c, Value.int IntKind.i64 n, Value.string NL, Value.string BD, Value.pointer (some { block := g, off := 3 }), Value.slice A n c, Value.int IntKind.i64 n, Value.bool false, Value.bool false, Value.pointer (some { block := g, off := 3 }), Value.slice A n c, Value.int IntKind.i64 n, Value.bool false, Value.bool false, u44, Value.tuple #[Value.int IntKind.i64 1, Value.int IntKind.u64 Y], Value.pointer (some { block := g, off := 3 }), Value.slice A n c, Value.tuple #[Value.int IntKind.i64 1, Value.int IntKind.u64 Y], Value.int IntKind.i64 1, Value.int IntKind.u64 Y, Value.string BD, Value.slice (some { block := bj, off := 0 }) 2 2, Value.int IntKind.i64 1, Value.pointer (some { block := bj, off := 1 }), Value.string { data := #[32, 99, 108, 105, 101, 110, 116, 32] }, u56, Value.int IntKind.u64 Y, Value.string DY, u59], defers := [] }) (by kernel_rfl) ?_
        refine WK.pure hR (i := 5) (v := Value.string X7) rfl (by kernel_rfl) (by kernel_rfl) (by kernel_rfl) (fun _ _ _ h => h) (by kernel_rfl) (fun wz => by rw [← E7.out]; go_simp; first | done | rfl) ?_
        refine WK.frame (a' := { tmps := #[Value.agg #[Value.int IntKind.i64 id, Value.string fr, Value.string tw, Value.slice A n c], Value.pointer (some { block := g, off := 0 }), Value.string { data := #[] }, Value.string IW, Value.string BD, Value.int IntKind.i64 1, Value.int IntKind.u64 Y, u7, u8, u9, u10, u11, u12, u13, u14, u15, u16, u17, u18, Value.string IW, Value.string X1, Value.pointer (some { block := g, off := 1 }), Value.string fr, Value.string X2, Value.string X3, Value.pointer (some { block := g, off := 2 }), Value.string tw, Value.string X4, Value.string X5, Value.pointer (some { block := g, off := 3 }), Value.slice A n c, Value.int IntKind.i64 n, Value.string NL, Value.string BD, Value.pointer (some { block := g, off := 3 }), Value.slice A n c, Value.int IntKind.i64 n, Value.bool false, Value.bool false, Value.pointer (some { block := g, off := 3 }), Value.slice A n c, Value.int IntKind.i64 n, Value.bool false, Value.bool false, u44, Value.tuple #[Value.int IntKind.i64 1, Value.int IntKind.u64 Y], Value.pointer (some { block := g, off := 3 }), Value.slice A n c, Value.tuple #[Value.int IntKind.i64 1, Value.int IntKind.u64 Y], Value.int IntKind.i64 1, Value.int IntKind.u64 Y, Value.string BD, Value.slice (some { block := bj, off := 0 }) 2 2, Value.int IntKind.i64 1, Value.pointer (some { block := bj, off := 1 }), Value.string { data := #[32, 99, 108, 105, 101, 110, 116, 32] }, Value.string X7, Value.int IntKind.u64 Y, Value.string DY, u59], defers := [] }) (by kernel_rfl) ?_
        refine WK.pure hR (i := 8) (v := Value.string RT) rfl (by kernel_rfl) (by kernel_rfl) (by kernel_rfl) (fun _ _ _ h => h) (by kernel_rfl) (fun wz => by rw [← E8.out]; go_simp; first | done | rfl) ?_
        refine WK.frame (a' := { tmps := #[Value.agg #[Value.int IntKind.i64 id, Value.string fr, Value.string tw, Value.slice A n c], Value.pointer (some { block := g, off := 0 }), Value.string { data := #[] }, Value.string IW, Value.string BD, Value.int IntKind.i64 1, Value.int IntKind.u64 Y, u7, u8, u9, u10, u11, u12, u13, u14, u15, u16, u17, u18, Value.string IW, Value.string X1, Value.pointer (some { block := g, off := 1 }), Value.string fr, Value.string X2, Value.string X3, Value.pointer (some { block := g, off := 2 }), Value.string tw, Value.string X4, Value.string X5, Value.pointer (some { block := g, off := 3 }), Value.slice A n c, Value.int IntKind.i64 n, Value.string NL, Value.string BD, Value.pointer (some { block := g, off := 3 }), Value.slice A n c, Value.int IntKind.i64 n, Value.bool false, Value.bool false, Value.pointer (some { block := g, off := 3 }), Value.slice A n c, Value.int IntKind.i64 n, Value.bool false, Value.bool false, u44, Value.tuple #[Value.int IntKind.i64 1, Value.int IntKind.u64 Y], Value.pointer (some { block := g, off := 3 }), Value.slice A n c, Value.tuple #[Value.int IntKind.i64 1, Value.int IntKind.u64 Y], Value.int IntKind.i64 1, Value.int IntKind.u64 Y, Value.string BD, Value.slice (some { block := bj, off := 0 }) 2 2, Value.int IntKind.i64 1, Value.pointer (some { block := bj, off := 1 }), Value.string { data := #[32, 99, 108, 105, 101, 110, 116, 32] }, Value.string X7, Value.int IntKind.u64 Y, Value.string DY, Value.string RT], defers := [] }) (by kernel_rfl) ?_
        refine WK.pure hR (i := 9) (v := Value.string RT) rfl (by kernel_rfl) (by kernel_rfl) (by kernel_rfl) (fun _ _ _ h => h) (by kernel_rfl) (fun wz => by go_simp) ?_
        refine WK.frame (a' := { tmps := #[Value.agg #[Value.int IntKind.i64 id, Value.string fr, Value.string tw, Value.slice A n c], Value.pointer (some { block := g, off := 0 }), Value.string RT, Value.string IW, Value.string BD, Value.int IntKind.i64 1, Value.int IntKind.u64 Y, u7, u8, u9, u10, u11, u12, u13, u14, u15, u16, u17, u18, Value.string IW, Value.string X1, Value.pointer (some { block := g, off := 1 }), Value.string fr, Value.string X2, Value.string X3, Value.pointer (some { block := g, off := 2 }), Value.string tw, Value.string X4, Value.string X5, Value.pointer (some { block := g, off := 3 }), Value.slice A n c, Value.int IntKind.i64 n, Value.string NL, Value.string BD, Value.pointer (some { block := g, off := 3 }), Value.slice A n c, Value.int IntKind.i64 n, Value.bool false, Value.bool false, Value.pointer (some { block := g, off := 3 }), Value.slice A n c, Value.int IntKind.i64 n, Value.bool false, Value.bool false, u44, Value.tuple #[Value.int IntKind.i64 1, Value.int IntKind.u64 Y], Value.pointer (some { block := g, off := 3 }), Value.slice A n c, Value.tuple #[Value.int IntKind.i64 1, Value.int IntKind.u64 Y], Value.int IntKind.i64 1, Value.int IntKind.u64 Y, Value.string BD, Value.slice (some { block := bj, off := 0 }) 2 2, Value.int IntKind.i64 1, Value.pointer (some { block := bj, off := 1 }), Value.string { data := #[32, 99, 108, 105, 101, 110, 116, 32] }, Value.string X7, Value.int IntKind.u64 Y, Value.string DY, Value.string RT], defers := [] }) (by kernel_rfl) ?_
        refine WK.done (by kernel_rfl) (fun wy hy => ?_)
        have hfin : Below w.heap.size w wy := hB3.trans ((hB4.trans (hy.mono hB4.size)).mono hB3.size)
        have HQ := Lib.hid hfin
        clear hfin hy hB3 hB4 K3 K4 hx3 hF hR
        go_wp2_with fail
        go_ret
        exact ⟨rfl, HQ.out⟩
    · have hres : BD = RT := by rw [HRT.out, if_neg hr]
      have HRS := Lib.hid hres
      by_cases hlo : n < 28
      · have r1 : (n : Int) < 28 := by omega
        have b1 : decide ((n : Int) < 28) = true := decide_eq_true r1
        clear hres HRT hr HH
        go_wp2_with fail
        go_ret
        exact ⟨by rw [← HRS.out]; rfl, HF.out.1⟩
      · have r1 : (28 : Int) ≤ (n : Int) := by omega
        have r2 : 1228 < (n : Int) := by omega
        have b1 : decide ((n : Int) < 28) = false := decide_eq_false (by omega)
        have b2 : decide (1228 < (n : Int)) = true := decide_eq_true r2
        clear hres HRT hr HH
        go_wp2_with fail
        go_ret
        exact ⟨by rw [← HRS.out]; rfl, HF.out.1⟩
end Go.Proofs.YtbifakhalnkfbaaDoor
