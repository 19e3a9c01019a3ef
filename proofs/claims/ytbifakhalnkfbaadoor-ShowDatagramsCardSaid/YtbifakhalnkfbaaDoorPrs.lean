import Derived.Test.YtbifakhalnkfbaaDoorCnd
import Derived.Test.YtbifakhalnkfbaaDoorRes
namespace Go.Proofs.YtbifakhalnkfbaaDoor
open Go.ChangeShapes Go.WideShapes Go.ChangeAt Go.RowKit Go.Sort Go.Deep
set_option linter.unusedVariables false
set_option linter.unusedSimpArgs false
theorem arr_one (s : St) : s.arr.all (·.oneCell') = true := by simp [St.arr, Value.oneCell']
theorem info27 : (Tryd.prog.info? 27).map (·.size) = some 10 := by kernel_rfl
theorem info25 : (Tryd.prog.info? 25).map (·.size) = some 10 := by kernel_rfl
theorem PI.c3 {w0 W : World} {g : Nat} {xs : List ByteArray} (h : PI w0 g xs W) : W.cell? ⟨g + 1 + 1 + 1, 0, none⟩ = some (.func (.func 29) #[] #[.pointer (some ⟨g + 1 + 1, 0, none⟩)]) := (h.k3.cell 0).trans rfl
theorem PI.c4 {w0 W : World} {g : Nat} {xs : List ByteArray} (h : PI w0 g xs W) : W.cell? ⟨g + 1 + 1 + 1 + 1, 0, none⟩ = some (.func (.func 30) #[] #[.pointer (some ⟨g + 1 + 1 + 1, 0, none⟩)]) := (h.k4.cell 0).trans rfl
theorem PI.takes {w0 W : World} {g : Nat} {xs : List ByteArray} (h : PI w0 g xs W) (u t : ByteArray) (hu : u = t) : Calls Tryd.prog 29 #[.string u, .pointer (some ⟨g + 1 + 1, 0, none⟩)] W fun e w' => e = .returned (.string (tk t xs).1) ∧ PI w0 g (tk t xs).2 w' ∧ W.grownBy w' (some (g + 1 + 1)) := by
  subst hu
  exact (take_any u xs _ W h.wd).mono fun e w' ⟨he, hw, hg⟩ => ⟨he, h.only hw hg, hg⟩
theorem PI.nums {w0 W : World} {g : Nat} {xs : List ByteArray} (h : PI w0 g xs W) (u t : ByteArray) (hu : u = t) : Calls Tryd.prog 30 #[.string u, .pointer (some ⟨g + 1 + 1 + 1, 0, none⟩)] W fun e w' => e = .returned (.int .u64 (decN (tk t xs).1)) ∧ PI w0 g (tk t xs).2 w' ∧ W.grownBy w' (some (g + 1 + 1)) := by
  subst hu
  exact (numw_any u xs _ _ W h.tab h.wd (by have := h.g4; omega) h.k3).mono fun e w' ⟨he, hw, hg⟩ => ⟨he, h.only hw hg, hg⟩
theorem PI.smls {w0 W : World} {g : Nat} {xs : List ByteArray} (h : PI w0 g xs W) (u t : ByteArray) (hu : u = t) : Calls Tryd.prog 31 #[.string u, .pointer (some ⟨g + 1 + 1 + 1 + 1, 0, none⟩)] W fun e w' => e = .returned (.int .i64 ((sml (tk t xs).1 : Nat) : Int)) ∧ PI w0 g (tk t xs).2 w' ∧ W.grownBy w' (some (g + 1 + 1)) := by
  subst hu
  exact (smw_any u xs _ _ _ W h.tab h.wd (by have := h.g4; omega) h.k3 h.k4).mono fun e w' ⟨he, hw, hg⟩ => ⟨he, h.only hw hg, hg⟩
theorem PI.sz {w0 W : World} {g : Nat} {xs : List ByteArray} (h : PI w0 g xs W) (t : ByteArray) : (tk t xs).1.size ≤ 300000 := (tk_sz (by obtain ⟨_, _, _, _, _, _, _, _, h⟩ := h.wd; exact h)).1
/-- The status block while it is made: its cells can be written. -/
theorem Blk.puts {W : World} {q : Nat} {t : TypeId} {cs : Array Value} (h : Blk W q t cs) (i : Nat) : W.frozen? ⟨q, i, none⟩ = false := h.frozen i
set_option maxRecDepth 100000 in
set_option maxHeartbeats 2000000 in
theorem parse_gen (text : ByteArray) (w : World) (xs : List ByteArray) (n : Nat) (hn : xs.length = n) (hT : Tab w) (hz : ∀ x ∈ xs, x.size ≤ 300000) (hl : xs.length ≤ maxLen)
    (hsp : Calls Tryd.prog 28 #[.string text, .string ⟨#[32]⟩] (w.alloc (.cells zSt.arr 27)) fun e w' => e = .returned (.slice (some ⟨w.heap.size + 1, 0, none⟩) n n) ∧ w' = (w.alloc (.cells zSt.arr 27)).alloc (.cells (xs.map Value.string).toArray 9)) :
    Calls Tryd.prog 12 #[.string text] w fun e w' => e = .returned (.tuple #[(if okP (cand xs) text = true then cand xs else zSt).v, .bool (okP (cand xs) text)]) ∧ Below w.heap.size w w' := by
  have hS := PI.start (w := w) hT hz hl
  have hN := hS.nums ⟨#[110, 101, 120, 116]⟩ nxN rfl
  obtain ⟨nx, hnx⟩ : ∃ v, decN (tk nxN xs).1 = v := ⟨_, rfl⟩
  rw [hnx, show (tk nxN xs).2 = x1 xs from rfl] at hN
  have X1 := Lib.hid hnx
  have hc := cand_ok hz
  have HS := Lib.hid hS
  have HC := Lib.hid hc
  obtain ⟨RB, hRB⟩ : ∃ b, okP (cand xs) text = b := ⟨_, rfl⟩
  obtain ⟨RV, hRV⟩ : ∃ v, (if RB = true then cand xs else zSt).v = v := ⟨_, rfl⟩
  rw [hRB, hRV]
  have HRB := Lib.hid hRB
  have HRV := Lib.hid hRV
  rw [show zSt.arr = #[.int .u64 0, .int .u64 0, .bool false, .int .i64 0, .int .i64 0, .string ByteArray.empty, .int .i64 0, .int .i64 0, .int .u16 0, .bool false] from rfl] at hN hsp
  rw [hn] at hN
  clear hS hc hz hl hT hn hnx hRB hRV
  go_enter Tryd.func12, Tryd.ntmps12
  go_wp2_with (go_at_call 28; refine hsp.mono ?_; rintro _ w1 ⟨rfl, rfl⟩; refine Hid.out ?_)
  refine Lib.hid ?_
  clear hsp
  go_wp2_with (go_at_call 30; refine hN.mono ?_; rintro _ w1 ⟨rfl, hP, hg⟩; refine Hid.out ?_)
  refine Lib.hid ?_
  have H1 := Lib.hid hP
  clear hN hP hg HS
  go_upto_region 6 with (fail)
  have hq1 : w.heap.size + 1 + 1 + 1 + 1 < w1.heap.size := H1.out.k4.lt
  have P2 := H1.out.below ((Below.refl _ w1).alloc (Nat.le_refl _) (.cells #[.int .u64 nx, .int .u64 0, .bool false, .int .i64 0, .int .i64 0, .string ⟨#[]⟩, .int .i64 0, .int .i64 0, .int .u16 0, .bool false] 27))
  have K2 := Blk.new w1 27 #[.int .u64 nx, .int .u64 0, .bool false, .int .i64 0, .int .i64 0, .string ⟨#[]⟩, .int .i64 0, .int .i64 0, .int .u16 0, .bool false]
  obtain ⟨w2, hw2⟩ : ∃ W, w1.alloc (.cells #[.int .u64 nx, .int .u64 0, .bool false, .int .i64 0, .int .i64 0, .string ⟨#[]⟩, .int .i64 0, .int .i64 0, .int .u16 0, .bool false] 27) = W := ⟨_, rfl⟩
  rw [hw2] at P2 K2 ⊢
  clear hw2 H1
  generalize w1.heap.size = q at *
  have c3 := P2.c3
  have hT := P2.takes ⟨#[108, 97, 115, 116]⟩ lsN rfl
  have hsz := P2.sz lsN
  obtain ⟨lt, hlt⟩ : ∃ v, (tk lsN (x1 xs)).1 = v := ⟨_, rfl⟩
  rw [hlt, show (tk lsN (x1 xs)).2 = x2 xs from rfl] at hT
  rw [hlt] at hsz
  have X2 := Lib.hid hlt
  have HK2 := Lib.hid K2
  have HSZ := Lib.hid hsz
  clear P2 K2 hlt hsz
  go_wp2_with (go_at_call 29; refine hT.mono ?_; rintro _ w3 ⟨rfl, hP, hg⟩; refine Hid.out ?_)
  refine Lib.hid ?_
  have H3 := Lib.hid hP
  have K3 := Lib.hid (HK2.out.only hg (by omega))
  have hD := decimal_any lt w3 hP.tab (by have := HSZ.out; omega)
  obtain ⟨ls, hls⟩ : ∃ v, decN lt = v := ⟨_, rfl⟩
  obtain ⟨an, han⟩ : ∃ v, decB lt = v := ⟨_, rfl⟩
  rw [hls, han] at hD
  have X3 := Lib.hid (And.intro hls han)
  clear hP hg hls han hT c3 HK2 HSZ
  go_wp2_with (go_at_call 18; refine hD.mono ?_; rintro _ w4 ⟨rfl, hb⟩; refine Hid.out ?_)
  refine Lib.hid ?_
  have H4 := Lib.hid (H3.out.below hb)
  have K4 := Lib.hid (K3.out.below hb K3.out.lt)
  clear hb hD K3 H3
  have d1 : w4.cell? ⟨q, 1, none⟩ = some (.int .u64 0) := (K4.out.cell 1).trans rfl
  have d2 : w4.cell? ⟨q, 2, none⟩ = some (.bool false) := (K4.out.cell 2).trans rfl
  have f1 := K4.out.frozen 1
  have f2 := K4.out.frozen 2
  go_upto_region 8 with (fail)
  have P5 := (H4.out.set hq1 (.int .u64 ls) (i := 1)).set hq1 (.bool an) (i := 2)
  have K5 : Blk _ q 27 #[.int .u64 nx, .int .u64 ls, .bool an, .int .i64 0, .int .i64 0, .string ⟨#[]⟩, .int .i64 0, .int .i64 0, .int .u16 0, .bool false] := (K4.out.set_ 1 (.int .u64 ls)).set_ 2 (.bool an)
  obtain ⟨w5, hw5⟩ : ∃ W, (w4.setCell ⟨q, 1, none⟩ (.int .u64 ls)).setCell ⟨q, 2, none⟩ (.bool an) = W := ⟨_, rfl⟩
  rw [hw5] at P5 K5 ⊢
  have HK5 := Lib.hid K5
  clear hw5 H4 K4 d1 d2 f1 f2 K5
  have hC := P5.smls ⟨#[97, 99, 99, 101, 112, 116, 101, 100]⟩ acN rfl
  obtain ⟨ac, hv⟩ : ∃ v, sml (tk acN (x2 xs)).1 = v := ⟨_, rfl⟩
  have hlac : ac ≤ 2147483647 := by rw [← hv]; exact sml_le _
  rw [hv, show (tk acN (x2 xs)).2 = x3 xs from rfl] at hC
  have Xac := Lib.hid hv
  clear hv P5
  go_wp2_with (go_at_call 31; refine hC.mono ?_; rintro _ w6 ⟨rfl, P6, hg⟩; refine Hid.out ?_)
  refine Lib.hid ?_
  have HK6 := Lib.hid (HK5.out.only hg (by omega))
  clear hC hg HK5
  have hC := P6.smls ⟨#[114, 101, 102, 117, 115, 101, 100]⟩ rfN rfl
  obtain ⟨rf, hv⟩ : ∃ v, sml (tk rfN (x3 xs)).1 = v := ⟨_, rfl⟩
  have hlrf : rf ≤ 2147483647 := by rw [← hv]; exact sml_le _
  rw [hv, show (tk rfN (x3 xs)).2 = x4 xs from rfl] at hC
  have Xrf := Lib.hid hv
  clear hv P6
  go_wp2_with (go_at_call 31; refine hC.mono ?_; rintro _ w7 ⟨rfl, P7, hg⟩; refine Hid.out ?_)
  refine Lib.hid ?_
  have HK7 := Lib.hid (HK6.out.only hg (by omega))
  clear hC hg HK6
  have hC := P7.smls ⟨#[109, 111, 118, 101, 115]⟩ mvN rfl
  obtain ⟨mv, hv⟩ : ∃ v, sml (tk mvN (x4 xs)).1 = v := ⟨_, rfl⟩
  have hlmv : mv ≤ 2147483647 := by rw [← hv]; exact sml_le _
  rw [hv, show (tk mvN (x4 xs)).2 = x5 xs from rfl] at hC
  have Xmv := Lib.hid hv
  clear hv P7
  go_wp2_with (go_at_call 31; refine hC.mono ?_; rintro _ w8 ⟨rfl, P8, hg⟩; refine Hid.out ?_)
  refine Lib.hid ?_
  have HK8 := Lib.hid (HK7.out.only hg (by omega))
  clear hC hg HK7
  have hC := P8.smls ⟨#[115, 97, 109, 112, 108, 101, 115]⟩ smN rfl
  obtain ⟨sm, hv⟩ : ∃ v, sml (tk smN (x5 xs)).1 = v := ⟨_, rfl⟩
  have hlsm : sm ≤ 2147483647 := by rw [← hv]; exact sml_le _
  rw [hv, show (tk smN (x5 xs)).2 = x6 xs from rfl] at hC
  have Xsm := Lib.hid hv
  clear hv P8
  go_wp2_with (go_at_call 31; refine hC.mono ?_; rintro _ w9 ⟨rfl, P9, hg⟩; refine Hid.out ?_)
  refine Lib.hid ?_
  have HK9 := Lib.hid (HK8.out.only hg (by omega))
  clear hC hg HK8
  have H9 := Lib.hid P9
  have d3 : w9.cell? ⟨q, 3, none⟩ = some (.int .i64 0) := (HK9.out.cell 3).trans rfl
  have d4 : w9.cell? ⟨q, 4, none⟩ = some (.int .i64 0) := (HK9.out.cell 4).trans rfl
  have d6 : w9.cell? ⟨q, 6, none⟩ = some (.int .i64 0) := (HK9.out.cell 6).trans rfl
  have d7 : w9.cell? ⟨q, 7, none⟩ = some (.int .i64 0) := (HK9.out.cell 7).trans rfl
  have f3 := HK9.out.frozen 3
  have f4 := HK9.out.frozen 4
  have f6 := HK9.out.frozen 6
  have f7 := HK9.out.frozen 7
  clear P9
  go_upto_region 9 with (fail)
  have PA := (((H9.out.set hq1 (.int .i64 ac) (i := 3)).set hq1 (.int .i64 rf) (i := 4)).set hq1 (.int .i64 mv) (i := 6)).set hq1 (.int .i64 sm) (i := 7)
  have KA : Blk _ q 27 #[.int .u64 nx, .int .u64 ls, .bool an, .int .i64 ac, .int .i64 rf, .string ⟨#[]⟩, .int .i64 mv, .int .i64 sm, .int .u16 0, .bool false] := (((HK9.out.set_ 3 (.int .i64 ac)).set_ 4 (.int .i64 rf)).set_ 6 (.int .i64 mv)).set_ 7 (.int .i64 sm)
  obtain ⟨wa, hwa⟩ : ∃ W, (((w9.setCell ⟨q, 3, none⟩ (.int .i64 ac)).setCell ⟨q, 4, none⟩ (.int .i64 rf)).setCell ⟨q, 6, none⟩ (.int .i64 mv)).setCell ⟨q, 7, none⟩ (.int .i64 sm) = W := ⟨_, rfl⟩
  rw [hwa] at PA KA ⊢
  have HKA := Lib.hid KA
  clear hwa H9 HK9 d3 d4 d6 d7 f3 f4 f6 f7 KA
  have c4 := PA.c4
  have hC := PA.nums ⟨#[115, 97, 109, 112, 108, 101]⟩ spN rfl
  obtain ⟨sv, hv⟩ : ∃ v, decN (tk spN (x6 xs)).1 = v := ⟨_, rfl⟩
  have hl9 : sv < 18446744073709551616 := by rw [← hv]; exact decN_lt _
  rw [hv, show (tk spN (x6 xs)).2 = x7 xs from rfl] at hC
  have Xsv := Lib.hid hv
  clear hv PA
  go_wp2_with (go_at_call 30; refine hC.mono ?_; rintro _ wb ⟨rfl, PB, hg⟩; refine Hid.out ?_)
  refine Lib.hid ?_
  have HKB := Lib.hid (HKA.out.only hg (by omega))
  have HB := Lib.hid PB
  clear hC hg HKA PB c4
  obtain ⟨sp, hsp⟩ : ∃ v, min sv 65535 = v := ⟨_, rfl⟩
  have hmi : min (sv : Int) 65535 = (sp : Int) := by omega
  have hsp5 : sp ≤ 65535 := by omega
  have hcv : IntKind.u16.wrap (sp : Int) = (sp : Int) := IntWalk.u16_in _ (by omega)
  have Xsp := Lib.hid hsp
  have d8 : wb.cell? ⟨q, 8, none⟩ = some (.int .u16 0) := (HKB.out.cell 8).trans rfl
  have f8 := HKB.out.frozen 8
  clear hsp
  go_upto_region 10 with (fail)
  have PC := HB.out.set hq1 (.int .u16 sp) (i := 8)
  have KC : Blk _ q 27 #[.int .u64 nx, .int .u64 ls, .bool an, .int .i64 ac, .int .i64 rf, .string ⟨#[]⟩, .int .i64 mv, .int .i64 sm, .int .u16 sp, .bool false] := HKB.out.set_ 8 (.int .u16 sp)
  obtain ⟨wd, hwd⟩ : ∃ W, wb.setCell ⟨q, 8, none⟩ (.int .u16 sp) = W := ⟨_, rfl⟩
  rw [hwd] at PC KC ⊢
  have HKC := Lib.hid KC
  clear hwd HB HKB d8 f8 KC hmi hcv
  have c3 := PC.c3
  have hC := PC.takes ⟨#[97, 116]⟩ atN rfl
  have hsz := PC.sz atN
  obtain ⟨av, hv⟩ : ∃ v, (tk atN (x7 xs)).1 = v := ⟨_, rfl⟩
  rw [hv] at hsz
  rw [hv, show (tk atN (x7 xs)).2 = x8 xs from rfl] at hC
  have Xav := Lib.hid hv
  have HSZ := Lib.hid hsz
  clear hv PC hsz
  go_wp2_with (go_at_call 29; refine hC.mono ?_; rintro _ we ⟨rfl, PE, hg⟩; refine Hid.out ?_)
  refine Lib.hid ?_
  have HKE := Lib.hid (HKC.out.only hg (by omega))
  have HE := Lib.hid PE
  clear hC hg HKC PE c3
  go_upto_if 50 with (fail)
  go_cut [10] (fun s wx => s = .string av ∧ PI w w.heap.size (x8 xs) wx ∧ Blk wx q 27 #[.int .u64 nx, .int .u64 ls, .bool an, .int .i64 ac, .int .i64 rf, .string (adP av), .int .i64 mv, .int .i64 sm, .int .u16 sp, .bool false])
  case first =>
    have d5 : we.cell? ⟨q, 5, none⟩ = some (.string ⟨#[]⟩) := (HKE.out.cell 5).trans rfl
    have f5 := HKE.out.frozen 5
    have HA1 := Lib.hid (show (!av.toList == [42]) = false → adP av = ByteArray.empty by
      intro h1
      unfold adP
      rw [if_pos]
      refine Classical.byContradiction fun h => ?_
      have h2 := toList_ne h
      rw [show starS.toList = [42] by first | rfl | decide | simp [starS]] at h2
      rw [h2] at h1
      cases h1)
    have HA2 := Lib.hid (show (!av.toList == [42]) = true → adP av = av by
      intro h1
      unfold adP
      rw [if_neg]
      intro h
      rw [h, show starS.toList = [42] by first | rfl | decide | simp [starS]] at h1
      cases h1)
    go_wp2_with fail
    all_goals rename_i h1
    all_goals go_meet
    · exact ⟨rfl, HE.out.set hq1 (.string av) (i := 5), by rw [HA2.out h1]; exact HKE.out.set_ 5 (.string av)⟩
    · exact ⟨rfl, HE.out, by rw [HA1.out h1]; exact HKE.out⟩
  case rest =>
    obtain ⟨rfl, hp, hk⟩ := hcut
    have HF := Lib.hid hp
    have HKF := Lib.hid hk
    obtain ⟨A, m, c, Kw, Rw, hlw, hcw, hmw, hzw⟩ := hp.wd
    have hm63 : m ≤ 9223372036854775807 := by unfold maxLen at hmw; omega
    have cw : wc.cell? ⟨w.heap.size + 1 + 1, 0, none⟩ = some (.slice A m c) := (Kw.cell 0).trans rfl
    have HR := Lib.hid (And.intro Rw hlw)
    clear hp hk Kw Rw hlw hcw hmw hzw HE HKE
    generalize wc = wf at *
    obtain ⟨clv, hcl⟩ : ∃ v, clB (x8 xs) = v := ⟨_, rfl⟩
    have Xcl := Lib.hid hcl
    clear hcl
    go_upto_region 13 with (fail)
    go_cut [10] (fun s wx => s = .string av ∧ PI w w.heap.size (x8 xs) wx ∧ Blk wx q 27 #[.int .u64 nx, .int .u64 ls, .bool an, .int .i64 ac, .int .i64 rf, .string (adP av), .int .i64 mv, .int .i64 sm, .int .u16 sp, .bool clv])
    case first =>
      have d9 : wf.cell? ⟨q, 9, none⟩ = some (.bool false) := (HKF.out.cell 9).trans rfl
      have f9 := HKF.out.frozen 9
      by_cases hm0 : m = 0
      · subst hm0
        have HA := Lib.hid (show clv = false by
          have h1 := HR.out.2
          have h2 := Xcl.out
          rw [List.length_eq_zero_iff.1 h1] at h2
          exact h2.symm)
        go_wp2_with fail
        go_meet
        exact ⟨rfl, HF.out.set hq1 (.bool false) (i := 9), by rw [HA.out]; exact HKF.out.set_ 9 (.bool false)⟩
      · obtain ⟨ad, u, rfl, hb, hx0, hc0⟩ := HR.out.1.at_ (k := 0) (by omega)
        obtain ⟨bb, oo, spot⟩ := ad
        rw [show (⟨bb, oo, spot⟩ : Addr).add 0 = ⟨bb, oo, spot⟩ from rfl] at hc0
        obtain rfl : spot = none := World.cell?_spot hc0
        obtain ⟨a, r, hxr⟩ : ∃ a r, x8 xs = a :: r := by
          have h1 := HR.out.2
          cases hx : x8 xs with
          | nil => rw [hx] at h1; exact absurd h1.symm hm0
          | cons a r => exact ⟨a, r, rfl⟩
        obtain rfl : u = .string a := by
          rw [hxr] at hx0
          simpa using hx0.symm
        have HA := Lib.hid (show clv = decide (a = closedS) by
          have h2 := Xcl.out
          rw [hxr] at h2
          exact h2.symm)
        have hm1 : (0 : Int) < (m : Int) := by omega
        clear hx0 hxr hb
        by_cases h : a = closedS
        · have HA2 := Lib.hid (show clv = true by rw [HA.out]; exact decide_eq_true h)
          have h1 : (a.toList == [99, 108, 111, 115, 101, 100]) = true := by rw [h]; first | rfl | decide | simp [closedS]
          clear h
          go_wp2_with fail
          go_meet
          exact ⟨rfl, HF.out.set hq1 (.bool true) (i := 9), by rw [HA2.out]; exact HKF.out.set_ 9 (.bool true)⟩
        · have HA2 := Lib.hid (show clv = false by rw [HA.out]; exact decide_eq_false h)
          have h1 : (a.toList == [99, 108, 111, 115, 101, 100]) = false := by have := toList_ne h; rwa [show closedS.toList = [99, 108, 111, 115, 101, 100] by first | rfl | decide | simp [closedS]] at this
          clear h
          go_wp2_with fail
          go_meet
          exact ⟨rfl, HF.out.set hq1 (.bool false) (i := 9), by rw [HA2.out]; exact HKF.out.set_ 9 (.bool false)⟩
    case rest =>
      obtain ⟨rfl, hp, hk⟩ := hcut
      clear HF HKF cw HR
      have HG := Lib.hid hp
      have HKG := Lib.hid hk
      have HCE := Lib.hid (show cand xs = ⟨nx, ls, an, (ac : Nat), (rf : Nat), adP av, (mv : Nat), (sm : Nat), sp, clv⟩ by
        unfold cand
        rw [X1.out, X2.out, X3.out.1, X3.out.2, Xac.out, Xrf.out, Xmv.out, Xsm.out, Xsv.out, Xsp.out, Xav.out, Xcl.out])
      have hcok := HC.out
      rw [HCE.out] at hcok
      have hS := status_any _ wc hcok hp.tab.pow
      generalize wc = wg at *
      obtain ⟨aw, haw⟩ : ∃ v, adP av = v := ⟨_, rfl⟩
      rw [haw] at hS HKG HCE
      obtain ⟨tx, htx⟩ : ∃ v, textS ⟨nx, ls, an, (ac : Nat), (rf : Nat), aw, (mv : Nat), (sm : Nat), sp, clv⟩ = v := ⟨_, rfl⟩
      obtain ⟨rg, hrg⟩ : ∃ v, rgtS ⟨nx, ls, an, (ac : Nat), (rf : Nat), aw, (mv : Nat), (sm : Nat), sp, clv⟩ = v := ⟨_, rfl⟩
      rw [htx, hrg] at hS
      have HO := Lib.hid (show okP (cand xs) text = (rg && decide (tx = text)) by rw [HCE.out]; unfold okP; rw [htx, hrg])
      clear htx hrg hcok hp hk HC X1 X2 X3 Xac Xrf Xmv Xsm Xsv Xsp Xav Xcl haw HSZ
      unfold St.v at hS
      simp only at hS
      go_wp2_with (first
        | ((with_reducible (show wpList _ _ _ ({ dst := _, op := Op.load 27 _, type := _, pos := _, after := _, guard := _ } :: _) _ _)); refine wpList_load_mid rfl 27 (.tmp 8) rfl q 0 rfl _ _ (Blk.rangeAt HKG.out) Tryd.underlying27 rfl (by kernel_rfl) ?_)
        | (go_at_call 9; refine hS.mono ?_; rintro _ wh ⟨rfl, hb⟩; refine Hid.out ?_))
      refine Lib.hid ?_
      have HH := Lib.hid (HG.out.below hb)
      have HKH := Lib.hid (HKG.out.below hb HKG.out.lt)
      have K0 := Lib.hid HH.out.k0
      have h0 : w.heap.size < q := by omega
      clear hS hb HG HKG
      cases rg
      · have HB := Lib.hid (show okP (cand xs) text = false by rw [HO.out]; rfl)
        clear HO HCE
        go_wp2_with ((with_reducible (show wpList _ _ _ ({ dst := _, op := Op.store 27 _ _, type := _, pos := _, after := _, guard := _ } :: _) _ _)); refine wpList_store_mid rfl 27 (.tmp 2) (.tmp 75) rfl w.heap.size 0 zSt.arr rfl rfl (Blk.there K0.out rfl) info27 (arr_one _) ?_; refine Hid.out ?_)
        refine Lib.hid ?_
        obtain ⟨wz, hwz⟩ : ∃ W, wh.setCells w.heap.size 0 (zSt.arr).toList = W := ⟨_, rfl⟩
        have HZ := Lib.hid (And.intro (Blk.setAll K0.out (cs' := zSt.arr) (by rfl)) (below_setCells (zSt.arr).toList 0 wh HH.out.bel (Nat.le_refl _)))
        rw [hwz] at HZ ⊢
        clear hwz HH HKH K0
        repeat go_step
        (try simp only [Exit.then])
        refine ret_ct (by rfl) (by rfl) (by rfl) (Blk.rangeAt HZ.out.1) Tryd.underlying27 (by rfl) (by kernel_rfl) ?_
        exact ⟨by rw [← HRV.out, show RB = false from HRB.out.symm.trans HB.out, if_neg (by decide)]; rfl, HZ.out.2⟩
      by_cases ht : tx = text
      · have HB := Lib.hid (show okP (cand xs) text = true by rw [HO.out, decide_eq_true ht]; rfl)
        subst ht
        clear HO
        go_wp2_with (first
          | ((with_reducible (show wpList _ _ _ ({ dst := _, op := Op.load 27 _, type := _, pos := _, after := _, guard := _ } :: _) _ _)); refine wpList_load_mid rfl 27 (.tmp 8) rfl q 0 rfl _ _ (Blk.rangeAt HKH.out) Tryd.underlying27 rfl (by kernel_rfl) ?_)
          | ((with_reducible (show wpList _ _ _ ({ dst := _, op := Op.store 27 _ _, type := _, pos := _, after := _, guard := _ } :: _) _ _)); refine wpList_store_mid rfl 27 (.tmp 2) (.tmp 76) rfl w.heap.size 0 (St.mk nx ls an (ac : Nat) (rf : Nat) aw (mv : Nat) (sm : Nat) sp clv).arr rfl rfl (Blk.there K0.out rfl) info27 (arr_one _) ?_; refine Hid.out ?_))
        refine Lib.hid ?_
        obtain ⟨wz, hwz⟩ : ∃ W, wh.setCells w.heap.size 0 ((St.mk nx ls an (ac : Nat) (rf : Nat) aw (mv : Nat) (sm : Nat) sp clv).arr).toList = W := ⟨_, rfl⟩
        have HZ := Lib.hid (And.intro (Blk.setAll K0.out (cs' := (St.mk nx ls an (ac : Nat) (rf : Nat) aw (mv : Nat) (sm : Nat) sp clv).arr) (by rfl)) (below_setCells ((St.mk nx ls an (ac : Nat) (rf : Nat) aw (mv : Nat) (sm : Nat) sp clv).arr).toList 0 wh HH.out.bel (Nat.le_refl _)))
        rw [hwz] at HZ ⊢
        clear hwz HH HKH K0
        repeat go_step
        (try simp only [Exit.then])
        refine ret_ct (by rfl) (by rfl) (by rfl) (Blk.rangeAt HZ.out.1) Tryd.underlying27 (by rfl) (by kernel_rfl) ?_
        exact ⟨by rw [← HRV.out, show RB = true from HRB.out.symm.trans HB.out, if_pos rfl, HCE.out]; rfl, HZ.out.2⟩
      · have h1 : (tx.toList == text.toList) = false := toList_ne ht
        have HB := Lib.hid (show okP (cand xs) text = false by rw [HO.out]; rw [decide_eq_false ht]; rfl)
        clear HO HCE ht
        go_wp2_with ((with_reducible (show wpList _ _ _ ({ dst := _, op := Op.store 27 _ _, type := _, pos := _, after := _, guard := _ } :: _) _ _)); refine wpList_store_mid rfl 27 (.tmp 2) (.tmp 75) rfl w.heap.size 0 zSt.arr rfl rfl (Blk.there K0.out rfl) info27 (arr_one _) ?_; refine Hid.out ?_)
        refine Lib.hid ?_
        obtain ⟨wz, hwz⟩ : ∃ W, wh.setCells w.heap.size 0 (zSt.arr).toList = W := ⟨_, rfl⟩
        have HZ := Lib.hid (And.intro (Blk.setAll K0.out (cs' := zSt.arr) (by rfl)) (below_setCells (zSt.arr).toList 0 wh HH.out.bel (Nat.le_refl _)))
        rw [hwz] at HZ ⊢
        clear hwz HH HKH K0
        repeat go_step
        (try simp only [Exit.then])
        refine ret_ct (by rfl) (by rfl) (by rfl) (Blk.rangeAt HZ.out.1) Tryd.underlying27 (by rfl) (by kernel_rfl) ?_
        exact ⟨by rw [← HRV.out, show RB = false from HRB.out.symm.trans HB.out, if_neg (by decide)]; rfl, HZ.out.2⟩
/-- ParseStatus: the status that the words make, where its text is this one. -/
theorem parse_any (text : ByteArray) (w : World) (hT : Tab w) (hs : text.size ≤ 300000) :
    Calls Tryd.prog 12 #[.string text] w fun e w' => e = .returned (.tuple #[(if okP (cand (cutS text)) text = true then cand (cutS text) else zSt).v, .bool (okP (cand (cutS text)) text)]) ∧ Below w.heap.size w w' := by
  refine parse_gen text w (cutS text) (Lib.countB text ⟨#[32]⟩ + 1) (cut_count text) hT (fun x hx => Nat.le_trans (cut_size text x hx) hs) (by have := cut_len text; unfold maxLen; omega) ?_
  have hT1 := hT.below ((Below.refl _ w).alloc (Nat.le_refl _) (.cells zSt.arr 27))
  obtain ⟨m, hm⟩ := hT1.mx
  refine (Tryd.strings_Split text ⟨#[32]⟩ m _ (by omega) hm (by decide)).mono fun e w' ⟨he, hw⟩ => ⟨?_, ?_⟩
  · rw [he]; simp
  · rw [hw, split_cut]
end Go.Proofs.YtbifakhalnkfbaaDoor
