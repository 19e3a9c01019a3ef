import Derived.Test.YthfjjphpnakgnaaDoorAwk
namespace Go.Proofs.YthfjjphpnakgnaaDoor
open Go.ChangeShapes Go.WideShapes Go.ChangeAt Go.RowKit Go.Sort
set_option linter.unusedVariables false
set_option linter.unusedSimpArgs false
theorem xl_back (la : List Nat) : ∀ lb : List Nat, xl (xl la lb) lb = la.take (min la.length lb.length) := by
  induction la with
  | nil => intro lb; simp [xl]
  | cons a la ih =>
    intro lb
    cases lb with
    | nil => simp [xl]
    | cons b lb =>
      have := ih lb
      unfold xl at *
      rw [List.zipWith_cons_cons, List.zipWith_cons_cons, this, Nat.xor_assoc, Nat.xor_self, Nat.xor_zero]
      rw [List.length_cons, List.length_cons, show min (la.length + 1) (lb.length + 1) = min la.length lb.length + 1 by omega, List.take_succ_cons]
theorem Bys.cut {w : World} {A : Option Addr} {n : Nat} {bs : List Nat} (h : Bys w A n bs) (k : Nat) (hk : k ≤ n) : Bys w A k (bs.take k) := by
  have hl := h.len
  refine ⟨⟨by simp [hl]; omega, fun hn => ?_⟩, fun x hx => h.2 x (List.mem_of_mem_take hx)⟩
  obtain ⟨ad, e, hb, hc⟩ := h.1.2 (by omega)
  refine ⟨ad, e, hb, fun j u hu => hc j u ?_⟩
  rw [List.map_take] at hu
  rw [List.getElem?_take] at hu
  split at hu
  · exact hu
  · cases hu
theorem Filled.blk {w : World} {g m : Nat} {l : List Nat} (h : Filled w g m m l) (hl : l.length = m) : Blk w g 5 (vc l) := by
  obtain ⟨cur, hb, hs, ht⟩ := h
  rw [List.take_of_length_le (by simp [hs]), List.take_of_length_le (by omega)] at ht
  have : cur = vc l := by unfold vc; rw [← ht]
  rw [← this]; exact hb
theorem vc_size (l : List Nat) : (vc l).size = l.length := by simp [vc]
theorem vc_get (l : List Nat) (i : Nat) (h : i < l.length) : (vc l)[i]? = some (.int .u8 (l.getD i 0 : Nat)) := by simp [vc, List.getD, h]
theorem vc_set (l : List Nat) (i x : Nat) : (vc l).setIfInBounds i (.int .u8 (x : Nat)) = vc (l.set i x) := by simp [vc, List.map_set]
theorem getD_lt {l : List Nat} (h : ∀ x ∈ l, x < 256) (i : Nat) : l.getD i 0 < 256 := by
  rw [List.getD]
  cases e : l[i]? with
  | none => simp
  | some x => exact h x (List.mem_of_getElem? e)
theorem own_none (w : World) : (w.alloc (.cells #[] 5)).ownsRow w.heap.size 5 1 (.slice (some ⟨w.heap.size, 0, none⟩) 0 0) 0 [] := by
  refine ⟨rfl, .inr ⟨w.heap.size, 0, #[], rfl, Nat.le_refl _, heap_alloc_new w _, Nat.le_refl _, by decide, rfl, rfl⟩⟩
theorem grown_of_none {w w' : World} (hg : (w.alloc (.cells #[] 5)).grownBy w' (Value.slice (some ⟨w.heap.size, 0, none⟩) 0 0).ownBlock) : Below w.heap.size w w' := by
  refine ⟨hg.os, hg.tape, hg.output, Nat.le_trans (by simp) hg.size, fun i hi => ?_⟩
  rw [hg.block i (by simp; omega) (by intro h; simp [Value.ownBlock] at h; omega)]
  exact Below.heap_alloc w _ i hi
theorem xor_at (A B : Option Addr) (n c m d k : Nat) (la lb l : List Nat) (w : World) (hA : Bys w A n la) (hB : Bys w B m lb) (hn : n ≤ 1000) (hm : m ≤ 1000) (hk : min n m = k) (hl : xl la lb = l) :
    Calls Tryd.prog 16 #[.slice A n c, .slice B m d] w fun e w' => e = .returned (.slice (some ⟨w.heap.size, 0, none⟩) k k) ∧ Blk w' w.heap.size 5 (vc l) ∧ (l.length = k ∧ ∀ x ∈ l, x < 256) ∧ Below w.heap.size w w' := by
  have h := xor_any A B n c m d la lb w hA hB hn hm
  have hle : l.length = k := by rw [← hl, xl_len, hA.len, hB.len, hk]
  have hlt : ∀ x ∈ l, x < 256 := by rw [← hl]; exact xl_lt la lb hA.2 hB.2
  rw [hk, hl] at h
  exact h.mono fun e w' ⟨h1, h2, h3⟩ => ⟨h1, h2.blk hle, ⟨hle, hlt⟩, h3⟩
theorem rxor_at (A B : Option Addr) (n c m d k : Nat) (la lb l : List Nat) (w : World) (hA : Bys w A n la) (hB : Bys w B m lb) (hn : n ≤ 1000) (hm : m ≤ 1000) (hk : min n m = k) (hl : xl la lb = l) :
    Calls Tryd.prog 17 #[.slice A n c, .slice B m d] w fun e w' => (∃ A c, e = .returned (.slice A k c) ∧ Bys w' A k l) ∧ Below w.heap.size w w' := by
  have h := rxor_any A B n c m d la lb w hA hB hn hm
  rwa [hk, hl] at h
theorem same_at (A B : Option Addr) (n c m d : Nat) (xs ys : List Nat) (b : Bool) (w : World) (hx : Bys w A n xs) (hy : Bys w B m ys) (hn : n ≤ 1000) (hm : m ≤ 1000) (hb : decide (xs = ys) = b) :
    Calls Tryd.prog 11 #[.slice A n c, .slice B m d] w fun e w' => e = .returned (.bool b) ∧ Below w.heap.size w w' := by
  have h := same_below A B n c m d xs ys w hx hy (by unfold maxLen; omega) (by unfold maxLen; omega)
  rwa [hb] at h
theorem equal_at (A B : Option Addr) (n c m d : Nat) (xs ys : List Nat) (b : Bool) (w : World) (hx : Bys w A n xs) (hy : Bys w B m ys) (hn : n ≤ 1000) (hm : m ≤ 1000) (hb : decide (xs = ys) = b) :
    Calls Tryd.prog 18 #[.slice A n c, .slice B m d] w fun e w' => e = .returned (.bool b) ∧ Below w.heap.size w w' := by
  have h := equal_any A B n c m d xs ys w hx hy hn hm
  rwa [hb] at h
theorem bv_one' (l : List Nat) : ∀ u ∈ l.map (fun (x : Nat) => Value.int .u8 x), u.oneCell' = true := by
  intro u hu
  simp only [List.mem_map] at hu
  obtain ⟨x, _, rfl⟩ := hu
  rfl
set_option maxRecDepth 100000 in
set_option maxHeartbeats 2000000 in
theorem xors_any (A B : Option Addr) (n c m d : Nat) (la lb : List Nat) (w : World) (hT : Tab w) (hA : Bys w A n la) (hB : Bys w B m lb) (hnc : n ≤ c) :
    Calls Tryd.prog 6 #[.slice A n c, .slice B m d] w fun e w' => e = .returned (.bool true) ∧ Below w.heap.size w w' := by
  have HT := Lib.hid hT
  have HA := Lib.hid hA
  have HB := Lib.hid hB
  have hla := hA.len
  have hlb := hB.len
  have hlb9 := hB.2
  clear hT hA hB
  by_cases h1 : 500 < n
  · clear hla hlb hlb9
    go_enter Tryd.func6, Tryd.ntmps6
    go_wp2_with fail
    refine (awake_any _ HT.out).mono ?_
    rintro e w1 ⟨rfl, hb1⟩
    go_wp2_with fail
    refine (awake_any _ (HT.out.below hb1)).mono ?_
    rintro e w2 ⟨rfl, hb2⟩
    go_wp2_with fail
    go_ret
    exact ⟨rfl, hb1.trans (hb2.mono hb1.size)⟩
  by_cases h2 : 500 < m
  · clear hla hlb hlb9
    go_enter Tryd.func6, Tryd.ntmps6
    go_wp2_with fail
    refine (awake_any _ HT.out).mono ?_
    rintro e w1 ⟨rfl, hb1⟩
    go_wp2_with fail
    refine (awake_any _ (HT.out.below hb1)).mono ?_
    rintro e w2 ⟨rfl, hb2⟩
    go_wp2_with fail
    go_ret
    exact ⟨rfl, hb1.trans (hb2.mono hb1.size)⟩
  have hn1 : n ≤ 1000 := by omega
  have hm1 : m ≤ 1000 := by omega
  obtain ⟨l, hl⟩ : ∃ l, xl la lb = l := ⟨_, rfl⟩
  obtain ⟨eq, heq⟩ : ∃ b, decide (la = lb) = b := ⟨_, rfl⟩
  obtain ⟨i0, hi, hz0, hz1, hz2⟩ := info_parts info5
  rcases (show (n ≤ m ∧ min n m = n) ∨ (m < n ∧ min n m = m) by omega) with ⟨h3, h4⟩ | ⟨h3, h4⟩
  · have hy : xl l lb = la.take n := by rw [← hl, xl_back, hla, hlb, h4]
    have hk1 : n ≤ 1000 := by omega
    have hkn : n ≤ n := by omega
    have hkm : min n m = n := by omega
    have HLL := Lib.hid hl
    have HEQ := Lib.hid heq
    have HY := Lib.hid hy
    have H4 := Lib.hid h4
    have HKM := Lib.hid hkm
    clear hla hlb hlb9 hl heq hy h4 hkm
    go_enter Tryd.func6, Tryd.ntmps6
    go_wp2_with fail
    refine (awake_any _ HT.out).mono ?_
    rintro e w1 ⟨rfl, hb⟩
    have HA1 := Lib.hid (HA.out.below hb)
    have HB1 := Lib.hid (HB.out.below hb)
    have HE1 := Lib.hid hb
    clear hb HA HB HT
    go_wp2_with (at_builtin; refine wpList_append_any _ rfl (.tmp 22) (.tmp 23) 22 rfl w1.heap.size 5 i0 (.int .u8 0) 1 1 Tryd.underlying22 hi hz0 hz1 hz2 rfl (by decide) (.slice (some ⟨w1.heap.size, 0, none⟩) 0 0) 0 [] rfl (own_none w1) w1.heap.size A n c _ rfl (Reads.alloc HA1.out.1 (Nat.le_refl _) _) (bv_one' _) (by unfold maxLen; omega) (by omega) (by simp) ?_)
    intro v2 w2 ho2 hg2 hor
    have ho2 : w2.ownsRow w1.heap.size 5 1 v2 n (la.map fun (x : Nat) => Value.int .u8 x) := by simpa using ho2
    have hb2 : Below w1.heap.size w1 w2 := grown_of_none hg2
    obtain ⟨A2, c2, rfl⟩ := own_form ho2
    have HO2 := Lib.hid (Bys.of_own ho2 HA1.out.2)
    have HA2 := Lib.hid (HA1.out.below hb2)
    have HB2 := Lib.hid (HB1.out.below hb2)
    have HE2 := Lib.hid (HE1.out.trans (hb2.mono HE1.out.size))
    clear ho2 hg2 hor hb2 HE1 HA1 HB1
    go_wp2_with fail
    refine (xor_at A2 B n c2 m d n la lb l _ HO2.out HB2.out hn1 hm1 H4.out HLL.out).mono ?_
    rintro e w3 ⟨rfl, hx, hxl, hb⟩
    have HX3 := Lib.hid hx
    have HXL := Lib.hid hxl
    have hg3 := hx.lt
    have HXB3 := Lib.hid (Bys.of_blk hx hxl.1 hxl.2)
    have HO3 := Lib.hid hb
    have HA3 := Lib.hid (HA2.out.below hb)
    have HB3 := Lib.hid (HB2.out.below hb)
    have HOO3 := Lib.hid (HO2.out.below hb)
    have HE3 := Lib.hid (HE2.out.trans (hb.mono HE2.out.size))
    have hs3 := hb.size
    clear hb hx hxl
    go_wp2_with fail
    refine (xor_at (some ⟨w2.heap.size, 0, none⟩) B n n m d n l lb _ _ HXB3.out HB3.out hk1 hm1 HKM.out HY.out).mono ?_
    rintro e w4 ⟨rfl, hx, hxl, hb⟩
    have HYB4 := Lib.hid (Bys.of_blk hx hxl.1 hxl.2)
    have HX4 := Lib.hid (HX3.out.below hb HX3.out.lt)
    have HXB4 := Lib.hid (HXB3.out.below hb)
    have HA4 := Lib.hid (HA3.out.below hb)
    have HB4 := Lib.hid (HB3.out.below hb)
    have HOO4 := Lib.hid (HOO3.out.below hb)
    have HE4 := Lib.hid (HE3.out.trans (hb.mono HE3.out.size))
    have HO4 := Lib.hid (HO3.out.trans (hb.mono hs3))
    have hs4 := HO4.out.size
    clear hb hx hxl HX3 HXB3 HA3 HB3 HOO3 HE3 HO3
    generalize w3.heap.size = g4 at *
    go_wp2_with fail
    refine (rxor_at A B n c m d n la lb l _ HA4.out HB4.out hn1 hm1 H4.out HLL.out).mono ?_
    rintro e w5 ⟨⟨A5, c5, rfl, hr⟩, hb⟩
    have HR5 := Lib.hid hr
    have HX5 := Lib.hid (HX4.out.below hb HX4.out.lt)
    have HXB5 := Lib.hid (HXB4.out.below hb)
    have HYB5 := Lib.hid (HYB4.out.below hb)
    have HA5 := Lib.hid (HA4.out.below hb)
    have HB5 := Lib.hid (HB4.out.below hb)
    have HOO5 := Lib.hid (HOO4.out.below hb)
    have HE5 := Lib.hid (HE4.out.trans (hb.mono HE4.out.size))
    have HO5 := Lib.hid (HO4.out.trans (hb.mono hs4))
    have hs5 := HO5.out.size
    clear hb hr HX4 HXB4 HYB4 HA4 HB4 HOO4 HE4 HO4 hs4 hs3
    go_wp2_with fail
    refine (same_at (some ⟨w2.heap.size, 0, none⟩) A5 n n n c5 l l true _ HXB5.out HR5.out hk1 hk1 (by simp)).mono ?_
    rintro e w6 ⟨rfl, hb⟩
    have HX6 := Lib.hid (HX5.out.below hb HX5.out.lt)
    have HYB6 := Lib.hid (HYB5.out.below hb)
    have HA6 := Lib.hid (HA5.out.below hb)
    have HB6 := Lib.hid (HB5.out.below hb)
    have HOO6 := Lib.hid (HOO5.out.below hb)
    have HE6 := Lib.hid (HE5.out.trans (hb.mono HE5.out.size))
    have HO6 := Lib.hid (HO5.out.trans (hb.mono hs5))
    have hs6 := HO6.out.size
    clear hb HX5 HXB5 HYB5 HA5 HB5 HOO5 HE5 HO5 HR5 hs5
    go_wp2_with fail
    refine (same_at (some ⟨g4, 0, none⟩) A n n n c (la.take n) (la.take n) true _ HYB6.out (HA6.out.cut n hkn) hk1 hk1 (by simp)).mono ?_
    rintro e w7 ⟨rfl, hb⟩
    have HX7 := Lib.hid (HX6.out.below hb HX6.out.lt)
    have HA7 := Lib.hid (HA6.out.below hb)
    have HB7 := Lib.hid (HB6.out.below hb)
    have HOO7 := Lib.hid (HOO6.out.below hb)
    have HE7 := Lib.hid (HE6.out.trans (hb.mono HE6.out.size))
    have HO7 := Lib.hid (HO6.out.trans (hb.mono hs6))
    have hs7 := HO7.out.size
    clear hb HX6 HYB6 HA6 HB6 HOO6 HE6 HO6 hs6
    go_wp2_with fail
    refine (equal_at A B n c m d la lb eq _ HA7.out HB7.out hn1 hm1 HEQ.out).mono ?_
    rintro e w8 ⟨rfl, hb⟩
    have HX8 := Lib.hid (HX7.out.below hb HX7.out.lt)
    have HA8 := Lib.hid (HA7.out.below hb)
    have HB8 := Lib.hid (HB7.out.below hb)
    have HOO8 := Lib.hid (HOO7.out.below hb)
    have HE8 := Lib.hid (HE7.out.trans (hb.mono HE7.out.size))
    have HO8 := Lib.hid (HO7.out.trans (hb.mono hs7))
    have hs8 := HO8.out.size
    clear hb HX7 HA7 HB7 HOO7 HE7 HO7 hs7
    go_wp2_with fail
    refine (same_at A B n c m d la lb eq _ HA8.out HB8.out hn1 hm1 HEQ.out).mono ?_
    rintro e w9 ⟨rfl, hb⟩
    have HX9 := Lib.hid (HX8.out.below hb HX8.out.lt)
    have HA9 := Lib.hid (HA8.out.below hb)
    have HOO9 := Lib.hid (HOO8.out.below hb)
    have HE9 := Lib.hid (HE8.out.trans (hb.mono HE8.out.size))
    have HO9 := Lib.hid (HO8.out.trans (hb.mono hs8))
    have hs9 := HO9.out.size
    have hbb : (eq != eq) = false := by simp
    clear hb HX8 HA8 HB8 HOO8 HE8 HO8 hs8 HEQ
    go_wp2_with fail
    refine (equal_at A A2 n c n c2 la la true _ HA9.out HOO9.out hn1 hn1 (by simp)).mono ?_
    rintro e w10 ⟨rfl, hb⟩
    have HX := Lib.hid (HX9.out.below hb HX9.out.lt)
    have HE := Lib.hid (HE9.out.trans (hb.mono HE9.out.size))
    have HO := Lib.hid (HO9.out.trans (hb.mono hs9))
    clear hb HX9 HA9 HOO9 HE9 HO9 hs9 hbb
    go_wp2_with fail
    have hs2 := HE2.out.size
    go_loopw [8] (fun i wr => ∃ (j : Nat) (zs : List Nat), j ≤ n ∧ i = .int .i64 j ∧ zs.length = n ∧ (∀ x ∈ zs, x < 256) ∧ Blk wr w2.heap.size 5 (vc zs) ∧ Below w2.heap.size w2 wr ∧ Below w.heap.size w wr) (fun i _ => n - (intOf i).toNat)
    case atStart => exact ⟨0, l, by omega, rfl, HXL.out.1, HXL.out.2, HX.out, HO.out, HE.out⟩
    case round =>
      clear HX HE HO
      obtain ⟨j, zs, hj, rfl, hzl, hz9, hX, hO, hE⟩ := hrel
      have HX := Lib.hid hX
      have HO := Lib.hid hO
      have HE := Lib.hid hE
      by_cases hlt : j < n
      · have c0 := (Blk.cell hX j).trans (vc_get zs j (by omega))
        have f0 := Blk.frozen hX j
        have hlt' := hX.lt
        have hx9 := getD_lt hz9 j
        obtain ⟨x, hx⟩ : ∃ x, zs.getD j 0 = x := ⟨_, rfl⟩
        rw [hx] at c0 hx9
        have HN : Hid (Blk (wr.setCell ⟨w2.heap.size, j, none⟩ (.int .u8 (((x : Int) + 1) % 256))) w2.heap.size 5 (vc (zs.set j ((x + 1) % 256))) ∧ (zs.set j ((x + 1) % 256)).length = n ∧ ∀ y ∈ zs.set j ((x + 1) % 256), y < 256) := Lib.hid ⟨by rw [show ((x : Int) + 1) % 256 = (((x + 1) % 256 : Nat) : Int) by omega, ← vc_set]; exact Blk.set_ hX j _, by simpa using hzl, fun y hy => by
            rcases List.mem_or_eq_of_mem_set hy with h | h
            · exact hz9 y h
            · rw [h]; omega⟩
        have hw8 : IntKind.u8.wrap ((x : Int) + 1) = (((x + 1) % 256 : Nat) : Int) := by rw [IntKind.wrap_u8]; omega
        clear hX hO hE hx hzl hz9
        go_wp2_with fail
        go_roundw
        case rel => exact ⟨j + 1, _, by omega, by go_num, HN.out.2.1, HN.out.2.2, HN.out.1, HO.out.setCell (by simp) _, HE.out.setCell (by simp; omega) _⟩
        case measure => simp [intOf]; omega
      · obtain rfl : n = j := by omega
        clear hX hO hE
        go_wp2_with fail
        refine (same_at A2 A n c2 n c la la true _ (HO2.out.below HO.out) (HA2.out.below HO.out) hn1 hn1 (by simp)).mono ?_
        rintro e w11 ⟨rfl, hb⟩
        have HF := Lib.hid (HE.out.trans (hb.mono HE.out.size))
        clear hb
        go_wp2_with fail
        go_ret
        exact ⟨rfl, HF.out⟩
  · have hy : xl l lb = la.take m := by rw [← hl, xl_back, hla, hlb, h4]
    have hk1 : m ≤ 1000 := by omega
    have hkn : m ≤ n := by omega
    have hkm : min m m = m := by omega
    have HLL := Lib.hid hl
    have HEQ := Lib.hid heq
    have HY := Lib.hid hy
    have H4 := Lib.hid h4
    have HKM := Lib.hid hkm
    clear hla hlb hlb9 hl heq hy h4 hkm
    go_enter Tryd.func6, Tryd.ntmps6
    go_wp2_with fail
    refine (awake_any _ HT.out).mono ?_
    rintro e w1 ⟨rfl, hb⟩
    have HA1 := Lib.hid (HA.out.below hb)
    have HB1 := Lib.hid (HB.out.below hb)
    have HE1 := Lib.hid hb
    clear hb HA HB HT
    go_wp2_with (at_builtin; refine wpList_append_any _ rfl (.tmp 22) (.tmp 23) 22 rfl w1.heap.size 5 i0 (.int .u8 0) 1 1 Tryd.underlying22 hi hz0 hz1 hz2 rfl (by decide) (.slice (some ⟨w1.heap.size, 0, none⟩) 0 0) 0 [] rfl (own_none w1) w1.heap.size A n c _ rfl (Reads.alloc HA1.out.1 (Nat.le_refl _) _) (bv_one' _) (by unfold maxLen; omega) (by omega) (by simp) ?_)
    intro v2 w2 ho2 hg2 hor
    have ho2 : w2.ownsRow w1.heap.size 5 1 v2 n (la.map fun (x : Nat) => Value.int .u8 x) := by simpa using ho2
    have hb2 : Below w1.heap.size w1 w2 := grown_of_none hg2
    obtain ⟨A2, c2, rfl⟩ := own_form ho2
    have HO2 := Lib.hid (Bys.of_own ho2 HA1.out.2)
    have HA2 := Lib.hid (HA1.out.below hb2)
    have HB2 := Lib.hid (HB1.out.below hb2)
    have HE2 := Lib.hid (HE1.out.trans (hb2.mono HE1.out.size))
    clear ho2 hg2 hor hb2 HE1 HA1 HB1
    go_wp2_with fail
    refine (xor_at A2 B n c2 m d m la lb l _ HO2.out HB2.out hn1 hm1 H4.out HLL.out).mono ?_
    rintro e w3 ⟨rfl, hx, hxl, hb⟩
    have HX3 := Lib.hid hx
    have HXL := Lib.hid hxl
    have hg3 := hx.lt
    have HXB3 := Lib.hid (Bys.of_blk hx hxl.1 hxl.2)
    have HO3 := Lib.hid hb
    have HA3 := Lib.hid (HA2.out.below hb)
    have HB3 := Lib.hid (HB2.out.below hb)
    have HOO3 := Lib.hid (HO2.out.below hb)
    have HE3 := Lib.hid (HE2.out.trans (hb.mono HE2.out.size))
    have hs3 := hb.size
    clear hb hx hxl
    go_wp2_with fail
    refine (xor_at (some ⟨w2.heap.size, 0, none⟩) B m m m d m l lb _ _ HXB3.out HB3.out hk1 hm1 HKM.out HY.out).mono ?_
    rintro e w4 ⟨rfl, hx, hxl, hb⟩
    have HYB4 := Lib.hid (Bys.of_blk hx hxl.1 hxl.2)
    have HX4 := Lib.hid (HX3.out.below hb HX3.out.lt)
    have HXB4 := Lib.hid (HXB3.out.below hb)
    have HA4 := Lib.hid (HA3.out.below hb)
    have HB4 := Lib.hid (HB3.out.below hb)
    have HOO4 := Lib.hid (HOO3.out.below hb)
    have HE4 := Lib.hid (HE3.out.trans (hb.mono HE3.out.size))
    have HO4 := Lib.hid (HO3.out.trans (hb.mono hs3))
    have hs4 := HO4.out.size
    clear hb hx hxl HX3 HXB3 HA3 HB3 HOO3 HE3 HO3
    generalize w3.heap.size = g4 at *
    go_wp2_with fail
    refine (rxor_at A B n c m d m la lb l _ HA4.out HB4.out hn1 hm1 H4.out HLL.out).mono ?_
    rintro e w5 ⟨⟨A5, c5, rfl, hr⟩, hb⟩
    have HR5 := Lib.hid hr
    have HX5 := Lib.hid (HX4.out.below hb HX4.out.lt)
    have HXB5 := Lib.hid (HXB4.out.below hb)
    have HYB5 := Lib.hid (HYB4.out.below hb)
    have HA5 := Lib.hid (HA4.out.below hb)
    have HB5 := Lib.hid (HB4.out.below hb)
    have HOO5 := Lib.hid (HOO4.out.below hb)
    have HE5 := Lib.hid (HE4.out.trans (hb.mono HE4.out.size))
    have HO5 := Lib.hid (HO4.out.trans (hb.mono hs4))
    have hs5 := HO5.out.size
    clear hb hr HX4 HXB4 HYB4 HA4 HB4 HOO4 HE4 HO4 hs4 hs3
    go_wp2_with fail
    refine (same_at (some ⟨w2.heap.size, 0, none⟩) A5 m m m c5 l l true _ HXB5.out HR5.out hk1 hk1 (by simp)).mono ?_
    rintro e w6 ⟨rfl, hb⟩
    have HX6 := Lib.hid (HX5.out.below hb HX5.out.lt)
    have HYB6 := Lib.hid (HYB5.out.below hb)
    have HA6 := Lib.hid (HA5.out.below hb)
    have HB6 := Lib.hid (HB5.out.below hb)
    have HOO6 := Lib.hid (HOO5.out.below hb)
    have HE6 := Lib.hid (HE5.out.trans (hb.mono HE5.out.size))
    have HO6 := Lib.hid (HO5.out.trans (hb.mono hs5))
    have hs6 := HO6.out.size
    clear hb HX5 HXB5 HYB5 HA5 HB5 HOO5 HE5 HO5 HR5 hs5
    go_wp2_with fail
    refine (same_at (some ⟨g4, 0, none⟩) A m m m c (la.take m) (la.take m) true _ HYB6.out (HA6.out.cut m hkn) hk1 hk1 (by simp)).mono ?_
    rintro e w7 ⟨rfl, hb⟩
    have HX7 := Lib.hid (HX6.out.below hb HX6.out.lt)
    have HA7 := Lib.hid (HA6.out.below hb)
    have HB7 := Lib.hid (HB6.out.below hb)
    have HOO7 := Lib.hid (HOO6.out.below hb)
    have HE7 := Lib.hid (HE6.out.trans (hb.mono HE6.out.size))
    have HO7 := Lib.hid (HO6.out.trans (hb.mono hs6))
    have hs7 := HO7.out.size
    clear hb HX6 HYB6 HA6 HB6 HOO6 HE6 HO6 hs6
    go_wp2_with fail
    refine (equal_at A B n c m d la lb eq _ HA7.out HB7.out hn1 hm1 HEQ.out).mono ?_
    rintro e w8 ⟨rfl, hb⟩
    have HX8 := Lib.hid (HX7.out.below hb HX7.out.lt)
    have HA8 := Lib.hid (HA7.out.below hb)
    have HB8 := Lib.hid (HB7.out.below hb)
    have HOO8 := Lib.hid (HOO7.out.below hb)
    have HE8 := Lib.hid (HE7.out.trans (hb.mono HE7.out.size))
    have HO8 := Lib.hid (HO7.out.trans (hb.mono hs7))
    have hs8 := HO8.out.size
    clear hb HX7 HA7 HB7 HOO7 HE7 HO7 hs7
    go_wp2_with fail
    refine (same_at A B n c m d la lb eq _ HA8.out HB8.out hn1 hm1 HEQ.out).mono ?_
    rintro e w9 ⟨rfl, hb⟩
    have HX9 := Lib.hid (HX8.out.below hb HX8.out.lt)
    have HA9 := Lib.hid (HA8.out.below hb)
    have HOO9 := Lib.hid (HOO8.out.below hb)
    have HE9 := Lib.hid (HE8.out.trans (hb.mono HE8.out.size))
    have HO9 := Lib.hid (HO8.out.trans (hb.mono hs8))
    have hs9 := HO9.out.size
    have hbb : (eq != eq) = false := by simp
    clear hb HX8 HA8 HB8 HOO8 HE8 HO8 hs8 HEQ
    go_wp2_with fail
    refine (equal_at A A2 n c n c2 la la true _ HA9.out HOO9.out hn1 hn1 (by simp)).mono ?_
    rintro e w10 ⟨rfl, hb⟩
    have HX := Lib.hid (HX9.out.below hb HX9.out.lt)
    have HE := Lib.hid (HE9.out.trans (hb.mono HE9.out.size))
    have HO := Lib.hid (HO9.out.trans (hb.mono hs9))
    clear hb HX9 HA9 HOO9 HE9 HO9 hs9 hbb
    go_wp2_with fail
    have hs2 := HE2.out.size
    go_loopw [8] (fun i wr => ∃ (j : Nat) (zs : List Nat), j ≤ m ∧ i = .int .i64 j ∧ zs.length = m ∧ (∀ x ∈ zs, x < 256) ∧ Blk wr w2.heap.size 5 (vc zs) ∧ Below w2.heap.size w2 wr ∧ Below w.heap.size w wr) (fun i _ => m - (intOf i).toNat)
    case atStart => exact ⟨0, l, by omega, rfl, HXL.out.1, HXL.out.2, HX.out, HO.out, HE.out⟩
    case round =>
      clear HX HE HO
      obtain ⟨j, zs, hj, rfl, hzl, hz9, hX, hO, hE⟩ := hrel
      have HX := Lib.hid hX
      have HO := Lib.hid hO
      have HE := Lib.hid hE
      by_cases hlt : j < m
      · have c0 := (Blk.cell hX j).trans (vc_get zs j (by omega))
        have f0 := Blk.frozen hX j
        have hlt' := hX.lt
        have hx9 := getD_lt hz9 j
        obtain ⟨x, hx⟩ : ∃ x, zs.getD j 0 = x := ⟨_, rfl⟩
        rw [hx] at c0 hx9
        have HN : Hid (Blk (wr.setCell ⟨w2.heap.size, j, none⟩ (.int .u8 (((x : Int) + 1) % 256))) w2.heap.size 5 (vc (zs.set j ((x + 1) % 256))) ∧ (zs.set j ((x + 1) % 256)).length = m ∧ ∀ y ∈ zs.set j ((x + 1) % 256), y < 256) := Lib.hid ⟨by rw [show ((x : Int) + 1) % 256 = (((x + 1) % 256 : Nat) : Int) by omega, ← vc_set]; exact Blk.set_ hX j _, by simpa using hzl, fun y hy => by
            rcases List.mem_or_eq_of_mem_set hy with h | h
            · exact hz9 y h
            · rw [h]; omega⟩
        have hw8 : IntKind.u8.wrap ((x : Int) + 1) = (((x + 1) % 256 : Nat) : Int) := by rw [IntKind.wrap_u8]; omega
        clear hX hO hE hx hzl hz9
        go_wp2_with fail
        go_roundw
        case rel => exact ⟨j + 1, _, by omega, by go_num, HN.out.2.1, HN.out.2.2, HN.out.1, HO.out.setCell (by simp) _, HE.out.setCell (by simp; omega) _⟩
        case measure => simp [intOf]; omega
      · obtain rfl : m = j := by omega
        clear hX hO hE
        go_wp2_with fail
        refine (same_at A2 A n c2 n c la la true _ (HO2.out.below HO.out) (HA2.out.below HO.out) hn1 hn1 (by simp)).mono ?_
        rintro e w11 ⟨rfl, hb⟩
        have HF := Lib.hid (HE.out.trans (hb.mono HE.out.size))
        clear hb
        go_wp2_with fail
        go_ret
        exact ⟨rfl, HF.out⟩
end Go.Proofs.YthfjjphpnakgnaaDoor
