import Derived.Test.YthgbgkpchchicaaKep
namespace Go.Proofs.Ythgbgkpchchicaa
open Go.ChangeShapes Go.WideShapes Go.ChangeAt Go.RowKit Go.Maps Go.Sort
set_option linter.unusedVariables false
set_option linter.unusedSimpArgs false
theorem Net.farRow {B g : Nat} {row : Option Nat} {w w' : World} {v : Value} {ds : List Dg} {last : Int} (h : Net B w g v ds last) (hg : w.grownBy w' row) (hr : ∀ p, row = some p → p ≠ g ∧ v.ownBlock ≠ some p ∧ ∀ d ∈ ds, d.sl.ownBlock ≠ some p) : Net B w' g v ds last := by
  cases row with
  | some p => exact h.far hg (hr p rfl).1 (hr p rfl).2.1 (hr p rfl).2.2
  | none => exact h.below ⟨hg.os, hg.tape, hg.output, hg.size, fun k hk => hg.block k hk (by simp)⟩
theorem below_grown_of {B : Nat} {a w w' : World} {row : Option Nat} (h : Below B a w) (hg : w.grownBy w' row) (hr : ∀ k, row = some k → B ≤ k) (hB : B ≤ w.heap.size) : Below B a w' := h.grown hg hB hr
set_option maxRecDepth 100000 in
set_option maxHeartbeats 16000000 in
theorem keeps_any (w : World) (A : Option Addr) (n c : Nat) (bs : List Nat) (h : Bys w A n bs) (hm : n ≤ maxLen) : Calls Try.prog 7 #[.slice A n c] w fun e w' => e = .returned (.bool true) ∧ Below w.heap.size w w' := by
  have hl := h.len
  unfold maxLen at hm
  by_cases hn : 500 < n
  · have hni : (500 : Int) < (n : Int) := by omega
    clear h hl
    go_enter Try.func7, Try.ntmps7
    go_wp2_with (go_at_call 8; refine (awake_any _).mono ?_; rintro _ w1 ⟨rfl, hb1⟩; refine Hid.out ?_)
    refine Lib.hid ?_
    have H1 := Lib.hid hb1
    clear hb1
    go_wp2_with (go_at_call 8; refine (awake_any _).mono ?_; rintro _ w2 ⟨rfl, hb2⟩)
    go_ret
    exact ⟨rfl, H1.out.trans (hb2.mono H1.out.size)⟩
  have hn5 : n ≤ 500 := by omega
  clear hn
  have H := Lib.hid h
  have hni : ¬ (500 : Int) < (n : Int) := by omega
  obtain ⟨i5, hi, hz0, hz1, hz2⟩ := info_parts info5
  clear h
  go_enter Try.func7, Try.ntmps7
  go_wp2_with (go_at_call 8; refine (awake_any _).mono ?_; rintro _ w1 ⟨rfl, hb1⟩; refine Hid.out ?_)
  refine Lib.hid ?_
  have hnew := new_any w1
  have H1 := Lib.hid hb1
  have hs1 := hb1.size
  unfold P1 at hnew
  clear hb1
  go_wp2_with (go_at_call 9; refine hnew.mono ?_; rintro _ w2 ⟨rfl, hN, hB⟩; refine Hid.out ?_)
  refine Lib.hid ?_
  have HN := Lib.hid hN
  have hww2 := Nat.le_trans hs1 hB.size
  have HB := Lib.hid (H1.out.trans (hB.mono hs1))
  clear hN hB hnew
  obtain ⟨g, hg⟩ : ∃ g, w1.heap.size = g := ⟨_, rfl⟩
  rw [hg] at HN hs1 ⊢
  -- own := append([]byte{}, body...)
  have HR := Lib.hid (Reads.alloc (H.out.below HB.out).1 (Nat.le_refl _) (.cells #[] 5))
  have HO := Lib.hid (made0 w2)
  go_wp2_with (at_builtin; refine wpList_append_any _ rfl (.tmp 27) (.tmp 28) 26 rfl w2.heap.size 5 i5 (.int .u8 0) 1 1 Try.underlying26 hi hz0 hz1 hz2 rfl (by decide) (.slice (some ⟨w2.heap.size, 0, none⟩) 0 0) 0 [] rfl HO.out w2.heap.size A n c (bv bs) rfl HR.out (bv_one _) (by unfold maxLen; omega) (by omega) (by simp) ?_)
  intro oV w3 ho3 hg3 _
  have ho3 : w3.ownsRow w2.heap.size 5 1 oV n (bv bs) := by simpa using ho3
  have hb3 : Below w2.heap.size w2 w3 := below_own ((Below.refl w2.heap.size w2).alloc (Nat.le_refl _) _) HO.out hg3 (Nat.le_refl _) (by simp)
  obtain ⟨oA, oc, rfl⟩ := own_form ho3
  have HO3 := Lib.hid ho3
  have N3 := HN.out.below hb3
  have HB3 := Lib.hid (HB.out.trans (hb3.mono HB.out.size))
  clear ho3 hg3 hb3 HR HO HN HB
  -- Post
  have hp := post_any g _ [] 0 g w3 ⟨#[97]⟩ ⟨#[98]⟩ oA n oc bs N3 (by decide) (by decide) (by decide) (Bys.of_own HO3.out H.out.2) (by omega)
  have HN3 := Lib.hid N3
  unfold P1 at hp
  clear N3
  go_wp2_with (go_at_call 10; refine hp.mono ?_; rintro _ w4 ⟨v4, d1, rfl, hN, hk, hf, hT, _⟩; refine Hid.out ?_)
  refine Lib.hid ?_
  have HB4 := Lib.hid (HB3.out.trans ((HN3.out.base hT).mono (by omega)))
  have HK1 := Lib.hid hk
  have HF1 := Lib.hid hf
  have HO4 := Lib.hid (HN3.out.other hT HO3.out (by decide) (by decide))
  have HSz4 := Lib.hid hT.size
  have N4 : Net g w4 g v4 [d1] 1 := hN
  clear hp hk hf hT hN HN3 HB3
  -- Copy
  have hd1 : d1.bs = bs := by have := HK1.out; simp only [Dg.k, Prod.mk.injEq] at this; exact this.2.2.2
  have hp := copy_in g 0 v4 [d1] 1 d1 g w4 N4 rfl (by simp) (by decide) (by decide) (by rw [hd1]; omega)
  have HN4 := Lib.hid N4
  unfold P1 at hp
  clear N4
  go_wp2_with (go_at_call 23; refine hp.mono ?_; rintro _ w5 ⟨v5, d2, rfl, hN, hk, hf, hT, _⟩; refine Hid.out ?_)
  refine Lib.hid ?_
  have HB5 := Lib.hid (HB4.out.trans ((HN4.out.base hT).mono (by omega)))
  have HK2 := Lib.hid hk
  have HF2 := Lib.hid hf
  have HO5 := Lib.hid (HN4.out.other hT HO4.out (by decide) (by decide))
  have HD1 := Lib.hid (HN4.out.own d1 (by simp))
  have N5 : Net g w5 g v5 [d1, d2] 2 := hN
  have hd2 : d2.bs = bs := by have := HK2.out; simp only [Dg.k, Prod.mk.injEq] at this; exact this.2.2.2.trans hd1
  have hx2 : d2.id = 2 := by have := HK2.out; simp only [Dg.k, Prod.mk.injEq] at this; exact this.1
  -- the blocks of the three bodies are three
  have A1 := Lib.hid (show ∀ k, (Value.slice oA n oc).ownBlock = some k → d1.sl.ownBlock ≠ some k ∧ d2.sl.ownBlock ≠ some k from fun k hk => by
    have h1 := (HO3.out.lt k hk).2
    have h2 := (HO4.out.lt k hk).2
    exact ⟨fun e => by have := HF1.out k e; omega, fun e => by have := HF2.out k e; omega⟩)
  have A2 := Lib.hid (show ∀ k, d1.sl.ownBlock = some k → d2.sl.ownBlock ≠ some k from fun k hk e => by
    have h1 := (HD1.out.1.lt k hk).2
    have h2 := HF2.out k e
    omega)
  clear hp hk hf hT hN HN4 HB4 HO3 HO4 HD1 HF1 HF2
  -- List
  have hp := list_any g v5 [d1, d2] 2 g w5 N5 (by simp) (by simp [hd1, hd2]; omega)
  have HN5 := Lib.hid N5
  have HL5 := Lib.hid N5.low
  have HDL := Lib.hid (And.intro hd1 (And.intro hd2 hx2))
  unfold P1 at hp
  simp only [List.length_cons, List.length_nil] at hp
  clear N5 hd1 hd2 hx2
  go_wp2_with (go_at_call 19; refine hp.mono ?_; rintro _ w6 ⟨lA, lc, es, rfl, hro, hke, hbo, hb6⟩; refine Hid.out ?_)
  refine Lib.hid ?_
  obtain ⟨e1, e2, rfl⟩ : ∃ e1 e2, es = [e1, e2] := by
    match es, hke with
    | [a, b], _ => exact ⟨a, b, rfl⟩
    | [], h => simp at h
    | [_], h => simp at h
    | _ :: _ :: _ :: _, h => simp at h
  have HN6 := Lib.hid (HN5.out.below hb6)
  have HO6 := Lib.hid (own_below HO5.out hb6)
  have HB6 := Lib.hid (HB5.out.trans (hb6.mono HB5.out.size))
  have HRO := Lib.hid hro
  have HE1 := Lib.hid (hbo e1 (by simp))
  have HE2 := Lib.hid (hbo e2 (by simp))
  have hs56 := hb6.size
  have hws5 := HB5.out.size
  have A3 := Lib.hid (show ∀ k, (Value.slice oA n oc).ownBlock = some k → k < w5.heap.size from fun k hk => (HO5.out.lt k hk).2)
  have hke1 : e1.bs = bs := by
    have := congrArg (List.map fun x : Int × ByteArray × ByteArray × List Nat => x.2.2.2) hke
    simp only [List.map_cons, List.map_nil, Dg.k] at this
    injection this with this
    exact this.trans HDL.out.1
  have hke2 : e2.bs = bs := by
    have := congrArg (List.map fun x : Int × ByteArray × ByteArray × List Nat => x.2.2.2) hke
    simp only [List.map_cons, List.map_nil, Dg.k] at this
    injection this with _ this
    injection this with this
    exact this.trans HDL.out.2.1
  have he1n : e1.n = n := by rw [← (hbo e1 (by simp)).ok.bys.len, hke1, hl]
  have he2n : e2.n = n := by rw [← (hbo e2 (by simp)).ok.bys.len, hke2, hl]
  clear hke1 hke2
  clear hp hro hke hbo hb6 HN5 HB5 HO5
  obtain ⟨s5, hs5⟩ : ∃ s5, w5.heap.size = s5 := ⟨_, rfl⟩
  rw [hs5] at HL5 HRO HE1 HE2 hs56 A3 hws5
  clear hs5
  go_wp2_with fail
  go_loopw [6] (fun i wr => ∃ (j : Nat), j ≤ n ∧ i = .int .i64 j ∧ U8s wr oA n ∧ w6.grownBy wr (Value.slice oA n oc).ownBlock) (fun i _ => n - (intOf i).toNat)
  case atStart => exact ⟨0, by omega, rfl, U8s.of_own HO6.out, World.grownBy.refl _ _⟩
  case round =>
    obtain ⟨j, hj, rfl, hU, hG⟩ := hrel
    have HU := Lib.hid hU
    have HG := Lib.hid hG
    clear hU hG
    by_cases h1 : j < n
    · have h1i : (j : Int) < (n : Int) := by omega
      obtain ⟨k, x, rfl, hk, hc, hf, _⟩ := HU.out.at_ h1
      go_wp2_with fail
      go_roundw
      case rel => exact ⟨j + 1, by omega, by go_num, HU.out.set_ _ _ _, (later_grown _).trans HG.out (only_setCell (only_refl wr k) (.inl rfl) _)⟩
      case measure => simp [intOf]; omega
    · obtain rfl : j = n := by omega
      obtain ⟨w7, rfl⟩ : ∃ w7, w7 = wr := ⟨_, rfl⟩
      have HN7 := Lib.hid (HN6.out.farRow HG.out (fun p hp => ⟨fun e => own_blk_ne HO6.out HN6.out.blk (by decide) (e ▸ hp), (own_own_ne HN6.out.row HO6.out (by decide)).elim (fun h => by rw [h]; simp) (fun h => fun e => h (e.trans hp.symm)), fun d hd => by
        have := A1.out p hp
        simp at hd
        rcases hd with rfl | rfl
        · exact this.1
        · exact this.2⟩))
      have HR7 := Lib.hid (HRO.out.kept HG.out (own_own_ne HRO.out HO6.out (by decide)))
      have HE17 := Lib.hid (HE1.out.kept HG.out (by
        cases hq : e1.sl.ownBlock with
        | none => exact .inl rfl
        | some k => exact .inr fun e => by have h1 := A3.out k e.symm; have h2 := (HE1.out.1.lt k hq).1; omega))
      have HE27 := Lib.hid (HE2.out.kept HG.out (by
        cases hq : e2.sl.ownBlock with
        | none => exact .inl rfl
        | some k => exact .inr fun e => by have h1 := A3.out k e.symm; have h2 := (HE2.out.1.lt k hq).1; omega))
      have HB7 := Lib.hid (below_grown_of HB6.out HG.out (fun k hk => by have := (HO6.out.lt k hk).1; omega) HB6.out.size)
      have hs7 := Nat.le_trans hs56 HG.out.size
      clear HG HU HN6 HRO HE1 HE2 HB6 HO6 A3 A1
      obtain ⟨x1, f1, t1, B1, n1, c1, b1⟩ := e1
      obtain ⟨x2, f2, t2, B2, n2, c2, b2⟩ := e2
      simp only at he1n he2n
      obtain rfl := he1n.symm
      obtain rfl := he2n.symm
      go_wp2_with fail
      go_loopw [7] (fun i wr => ∃ (m : Nat), m ≤ j ∧ i = .int .i64 m ∧ U8s wr B1 j ∧ U8s wr B2 j ∧ wr.ownsRow s5 32 4 (.slice lA 2 lc) 2 (dgCells [⟨x1, f1, t1, B1, j, c1, b1⟩, ⟨x2, f2, t2, B2, j, c2, b2⟩]) ∧ Below s5 w7 wr) (fun i _ => j - (intOf i).toNat)
      case atStart => exact ⟨0, by omega, rfl, U8s.of_bown HE17.out, U8s.of_bown HE27.out, HR7.out, Below.refl _ _⟩
      case round =>
        obtain ⟨m, hm2, rfl, hU1, hU2, hR, hB⟩ := hrel
        obtain ⟨lr, rfl, hrl, hrb, _, _, _, q3⟩ := own_dg_cells hR (i := 0) rfl
        obtain ⟨lr', e, _, _, _, _, _, q7⟩ := own_dg_cells hR (i := 1) rfl
        injection e with e
        injection e with e
        subst e
        simp only [Nat.zero_mul, Nat.zero_add, Nat.one_mul] at q3 q7
        have HU1 := Lib.hid hU1
        have HU2 := Lib.hid hU2
        have HR := Lib.hid hR
        have HB := Lib.hid hB
        clear hU1 hU2 hR hB
        by_cases h1 : m < j
        · have h1i : (m : Int) < (j : Int) := by omega
          obtain ⟨k1, y1, rfl, hk1, hc1, hf1, cs1, hq1⟩ := HU1.out.at_ h1
          have hk1s : s5 ≤ k1 := (HE17.out.1.lt k1 rfl).1
          have HQ1 := Lib.hid hq1
          clear hq1
          go_upto_region 18 with (fail)
          have HU3 := Lib.hid (HU1.out.set_ k1 m ((y1 + 1) % 256))
          have HU4 := Lib.hid (HU2.out.set_ k1 m ((y1 + 1) % 256))
          have HR3 := Lib.hid (ownsRow_set (p := ⟨k1, m, none⟩) HR.out (own_blk_ne HR.out HQ1.out (by decide)) (.int .u8 ((y1 + 1) % 256)))
          have HB3 := Lib.hid (HB.out.setCell (p := ⟨k1, m, none⟩) hk1s (.int .u8 ((y1 + 1) % 256)))
          have hrl3 : lr < (wr.setCell ⟨k1, m, none⟩ (.int .u8 ((y1 + 1) % 256))).heap.size := by simpa [World.setCell] using hrl
          clear hc1 hf1 q3 q7 HU1 HU2 HR HB HQ1 hk1 hrl
          generalize wr.setCell ⟨k1, m, none⟩ (.int .u8 ((y1 + 1) % 256)) = w9 at *
          obtain ⟨lr', e, _, _, _, _, _, q7⟩ := own_dg_cells HR3.out (i := 1) rfl
          injection e with e
          injection e with e
          subst e
          simp only [Nat.one_mul] at q7
          obtain ⟨k2, y2, rfl, hk2, hc2, hf2, cs2, hq2⟩ := HU4.out.at_ h1
          have hk2s : s5 ≤ k2 := (HE27.out.1.lt k2 rfl).1
          have HQ2 := Lib.hid hq2
          clear hq2
          go_wp2_with fail
          go_roundw
          case rel => exact ⟨m + 1, by omega, by go_num, HU3.out.set_ _ _ _, HU4.out.set_ _ _ _, ownsRow_set (p := ⟨k2, m, none⟩) HR3.out (own_blk_ne HR3.out HQ2.out (by decide)) _, HB3.out.setCell (p := ⟨k2, m, none⟩) hk2s _⟩
          case measure => simp [intOf]; omega
        · obtain rfl : m = j := by omega
          obtain ⟨w8, rfl⟩ : ∃ w8, w8 = wr := ⟨_, rfl⟩
          have N8 := HN7.out.lows HL5.out HB.out
          have HB8 := Lib.hid (HB7.out.trans (HB.out.mono (by omega)))
          clear HU1 HU2 HR HB HN7 HB7 HR7 HE17 HE27 HL5 h1
          -- Take 0
          have hp := take_in g 0 v5 [d1, d2] 2 d1 g w8 N8 rfl (by simp)
          have HO8 := Lib.hid (N8.own d1 (by simp))
          have HN8 := Lib.hid N8
          unfold P1 Dg.v at hp
          clear N8
          go_wp2_with (go_at_call 11; refine hp.mono ?_; rintro _ w9 ⟨v9, rfl, hN, hT, _, _⟩; refine Hid.out ?_)
          refine Lib.hid ?_
          have N9 : Net g w9 g v9 [d2] 2 := hN
          have O9 := HN8.out.otherB hT HO8.out
          have B9 := HB8.out.trans ((HN8.out.base hT).mono (by omega))
          have hb10 : Below w9.heap.size w9 (w9.alloc (.cells #[.int .i64 d1.id, .string d1.fr, .string d1.to, .slice d1.A d1.n d1.c] 32)) := (Below.refl _ _).alloc (Nat.le_refl _) _
          have HQ := Lib.hid (Blk.new w9 32 #[.int .i64 d1.id, .string d1.fr, .string d1.to, .slice d1.A d1.n d1.c])
          have HN := Lib.hid (N9.below hb10)
          have HO := Lib.hid (O9.below hb10)
          have HB := Lib.hid (B9.trans (hb10.mono B9.size))
          have HV := Lib.hid (show v9.ownBlock ≠ some w9.heap.size from fun e => by have := (N9.row.lt _ e).2; omega)
          have HDN := Lib.hid (show d1.n = m by rw [← HO.out.ok.bys.len, HDL.out.1, hl])
          clear hp hN hT N9 O9 B9 hb10 HN8 HO8 HB8
          go_wp2_with fail
          generalize w9.alloc (.cells #[.int .i64 d1.id, .string d1.fr, .string d1.to, .slice d1.A d1.n d1.c] 32) = w10 at *
          generalize w9.heap.size = q9 at *
          obtain ⟨id1, fr1, to1, A1', n1', c1', bs1⟩ := d1
          have hd1n := HDN.out
          clear HDN
          simp only at hd1n HQ
          obtain rfl := hd1n.symm
          go_loopw [10] (fun i wr => ∃ (k : Nat), k ≤ m ∧ i = .int .i64 k ∧ U8s wr A1' m ∧ w10.grownBy wr (Value.slice A1' m c1').ownBlock ∧ Blk wr q9 32 #[.int .i64 id1, .string fr1, .string to1, .slice A1' m c1']) (fun i _ => m - (intOf i).toNat)
          case atStart => exact ⟨0, by omega, rfl, U8s.of_bown HO.out, World.grownBy.refl _ _, HQ.out⟩
          case round =>
            obtain ⟨k, hk, rfl, hU, hG, hQ⟩ := hrel
            have hq3 : wr.cell? ⟨q9, 3, none⟩ = some (.slice A1' m c1') := (hQ.cell 3).trans rfl
            have HU := Lib.hid hU
            have HG := Lib.hid hG
            have HQ2 := Lib.hid hQ
            clear hU hG hQ
            by_cases h1 : k < m
            · have h1i : (k : Int) < (m : Int) := by omega
              obtain ⟨kk, x, rfl, hkl, hc, hf, cs, hkb⟩ := HU.out.at_ h1
              have HKB := Lib.hid hkb
              clear hkb
              go_wp2_with fail
              go_roundw
              case rel => exact ⟨k + 1, by omega, by go_num, HU.out.set_ _ _ _, (later_grown _).trans HG.out (only_setCell (only_refl wr kk) (.inl rfl) _), HQ2.out.far (p := ⟨kk, k, none⟩) (HQ2.out.ne_ HKB.out (by decide)) _⟩
              case measure => simp [intOf]; omega
            · obtain rfl : k = m := by omega
              obtain ⟨w11, rfl⟩ : ∃ w11, w11 = wr := ⟨_, rfl⟩
              have N11 := HN.out.farRow HG.out (fun p hp => ⟨fun e => own_blk_ne HO.out.1 HN.out.blk (by decide) (e ▸ hp), (own_own_ne HN.out.row HO.out.1 (by decide)).elim (fun h => by rw [h]; simp) (fun h => fun e => h (e.trans hp.symm)), fun d hd => by
                simp at hd
                subst hd
                exact A2.out p hp⟩)
              have B11 := HB.out.grown HG.out HB.out.size (fun p hp => by have := (HO.out.1.lt p hp).1; omega)
              clear HU HG HN HO HB h1
              -- Take 0
              have hp := take_in g 0 v9 [d2] 2 d2 g w11 N11 rfl (by simp)
              have HO2 := Lib.hid (N11.own d2 (by simp))
              have HN11 := Lib.hid N11
              have HB11 := Lib.hid B11
              unfold P1 Dg.v at hp
              clear N11 B11
              go_wp2_with (go_at_call 11; refine hp.mono ?_; rintro _ w12 ⟨v12, rfl, hN, hT, _, _⟩; refine Hid.out ?_)
              refine Lib.hid ?_
              have Q12 := HN11.out.boxOther hT HQ2.out (by decide) HV.out
              have O12 := HN11.out.otherB hT HO2.out
              have B12 := HB11.out.trans ((HN11.out.base hT).mono (by omega))
              have hb13 : Below w12.heap.size w12 (w12.alloc (.cells #[.int .i64 d2.id, .string d2.fr, .string d2.to, .slice d2.A d2.n d2.c] 32)) := (Below.refl _ _).alloc (Nat.le_refl _) _
              have R13 := Lib.hid (Blk.new w12 32 #[.int .i64 d2.id, .string d2.fr, .string d2.to, .slice d2.A d2.n d2.c])
              have Q13 := Lib.hid (Q12.below hb13 Q12.lt)
              have O13 := Lib.hid (O12.below hb13)
              have B13 := Lib.hid (B12.trans (hb13.mono B12.size))
              clear hp hN hT Q12 O12 B12 hb13 HN11 HO2 HB11 HQ2 HV hq3
              have c0 : (w12.alloc (.cells #[.int .i64 d2.id, .string d2.fr, .string d2.to, .slice d2.A d2.n d2.c] 32)).heap.size = w12.heap.size + 1 := by simp
              have hp := take_nil 0 (w12.alloc (.cells #[.int .i64 d2.id, .string d2.fr, .string d2.to, .slice d2.A d2.n d2.c] 32))
              rw [show errV 7 = .iface 62 (.int .i64 7) from rfl] at hp
              unfold zdV at hp
              clear c0
              go_wp2_with (go_at_call 11; refine hp.mono ?_; rintro _ w14 ⟨rfl, hb⟩; refine Hid.out ?_)
              refine Lib.hid ?_
              have h15 : Below (w12.alloc (.cells #[.int .i64 d2.id, .string d2.fr, .string d2.to, .slice d2.A d2.n d2.c] 32)).heap.size (w12.alloc (.cells #[.int .i64 d2.id, .string d2.fr, .string d2.to, .slice d2.A d2.n d2.c] 32)) (w14.alloc (.cells #[.int .i64 0, .string ⟨#[]⟩, .string ⟨#[]⟩, .slice none 0 0] 32)) := hb.alloc hb.size _
              have R15 := Lib.hid (R13.out.below h15 R13.out.lt)
              have Q15 := Lib.hid (Q13.out.below h15 Q13.out.lt)
              have O15 := Lib.hid (O13.out.below h15)
              have B15 := Lib.hid (B13.out.trans (h15.mono B13.out.size))
              clear hp hb h15 R13 Q13 O13 B13
              have hp := fun W => copy_nil 0 W
              rw [show errV 7 = .iface 62 (.int .i64 7) from rfl] at hp
              go_wp2_with (go_at_call 23; refine (hp _).mono ?_; rintro _ w16 ⟨rfl, hb⟩; refine Hid.out ?_)
              refine Lib.hid ?_
              have R16 := Lib.hid (R15.out.below hb R15.out.lt)
              have Q16 := Lib.hid (Q15.out.below hb Q15.out.lt)
              have O16 := Lib.hid (O15.out.below hb)
              have B16 := Lib.hid (B15.out.trans (hb.mono B15.out.size))
              clear hp hb R15 Q15 O15 B15
              generalize w12.heap.size = r12 at *
              have q3 : w16.cell? ⟨q9, 3, none⟩ = some (.slice A1' k c1') := (Q16.out.cell 3).trans rfl
              have r3 : w16.cell? ⟨r12, 3, none⟩ = some (.slice d2.A d2.n d2.c) := (R16.out.cell 3).trans rfl
              have hsm := same_below d2.A A d2.n d2.c k c d2.bs bs w16 O16.out.ok.bys (H.out.below B16.out) O16.out.ok.len (by unfold maxLen; omega)
              rw [show decide (d2.bs = bs) = true by simp [HDL.out.2.1]] at hsm
              go_wp2_with (go_at_call 12; refine hsm.mono ?_; rintro _ w17 ⟨rfl, hb⟩; refine Hid.out ?_)
              refine Lib.hid ?_
              have r0 : w17.cell? ⟨r12, 0, none⟩ = some (.int .i64 2) := ((R16.out.below hb R16.out.lt).cell 0).trans (by simp [HDL.out.2.2])
              have B17 := Lib.hid (B16.out.trans (hb.mono B16.out.size))
              clear hsm hb R16 Q16 O16 B16 q3 r3
              have htl := fun W => told_any 7 7 W
              rw [show errV 7 = .iface 62 (.int .i64 7) from rfl, show decide ((7 : Int) = 7) = true from rfl] at htl
              have hdn := fun W => drop_nil 0 W
              rw [show errV 7 = .iface 62 (.int .i64 7) from rfl] at hdn
              have hsn := fun W => swap_nil 0 0 W
              rw [show errV 7 = .iface 62 (.int .i64 7) from rfl] at hsn
              go_wp2_with (go_at_call 14; refine (htl _).mono ?_; rintro _ w18 ⟨rfl, hb⟩; refine Hid.out ?_)
              refine Lib.hid ?_
              have B18 := Lib.hid (B17.out.trans (hb.mono B17.out.size))
              clear hb B17 r0
              go_wp2_with (go_at_call 14; refine (htl _).mono ?_; rintro _ w19 ⟨rfl, hb⟩; refine Hid.out ?_)
              refine Lib.hid ?_
              have B19 := Lib.hid (B18.out.trans (hb.mono B18.out.size))
              clear hb B18
              go_wp2_with (go_at_call 15; refine (hdn _).mono ?_; rintro _ w20 ⟨rfl, hb⟩; refine Hid.out ?_)
              refine Lib.hid ?_
              have B20 := Lib.hid (B19.out.trans (hb.mono B19.out.size))
              clear hb B19
              go_wp2_with (go_at_call 14; refine (htl _).mono ?_; rintro _ w21 ⟨rfl, hb⟩; refine Hid.out ?_)
              refine Lib.hid ?_
              have B21 := Lib.hid (B20.out.trans (hb.mono B20.out.size))
              clear hb B20
              go_wp2_with (go_at_call 24; refine (hsn _).mono ?_; rintro _ w22 ⟨rfl, hb⟩; refine Hid.out ?_)
              refine Lib.hid ?_
              have B22 := Lib.hid (B21.out.trans (hb.mono B21.out.size))
              clear hb B21
              go_wp2_with (go_at_call 14; refine (htl _).mono ?_; rintro _ w23 ⟨rfl, hb⟩; refine Hid.out ?_)
              refine Lib.hid ?_
              have B23 := Lib.hid (B22.out.trans (hb.mono B22.out.size))
              clear hb B22
              go_wp2_with (first
                | (go_at_call 19; refine (list_nil _).mono ?_; rintro _ _ ⟨rfl, rfl⟩)
                | (go_at_call 21; refine (bodies_nil _).mono ?_; rintro _ w24 ⟨rfl, hm, hb⟩; refine Hid.out ?_))
              refine Lib.hid ?_
              have hlm := fun ty => hm.len Try.underlying56 ty
              rw [show Maps.size (DataW.map ([] : List (Lit × DataW Unit))) = 0 from rfl] at hlm
              have B24 := Lib.hid (B23.out.trans (hb.mono B23.out.size))
              clear hb hm
              go_wp2_with fail
              go_ret
              exact ⟨rfl, B24.out⟩
end Go.Proofs.Ythgbgkpchchicaa
