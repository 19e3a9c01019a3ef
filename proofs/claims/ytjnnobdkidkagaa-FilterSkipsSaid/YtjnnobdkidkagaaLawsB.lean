import Derived.Test.YtjnnobdkidkagaaLawsA
namespace Go.Proofs.Ytjnnobdkidkagaa
open Go.ChangeShapes Go.WideShapes Go.ChangeAt Go.RowKit
set_option linter.unusedVariables false
set_option linter.unusedSimpArgs false
attribute [local go_sem] eqlErr
/-- What came before is not fresh any more. -/
def Old (zs : List Int) (j : Nat) (l : Int) : Prop := ∀ i, i < j → zs.getD i 0 < l ∨ 9223372036854775807 < zs.getD i 0
theorem Old.next {zs : List Int} {j : Nat} {l l' : Int} (h : Old zs j l) (hl : l ≤ l') (hj : zs.getD j 0 < l' ∨ 9223372036854775807 < zs.getD j 0) : Old zs (j + 1) l' := by
  intro i hi
  rcases Nat.lt_or_ge i j with h1 | h1
  · have := h i h1; omega
  · obtain rfl : i = j := by omega
    exact hj

set_option maxHeartbeats 4000000 in
set_option maxRecDepth 100000 in
theorem frises_any (a : Option Addr) (len cap : Nat) (zs : List Int) (w : World) (hz : Ints .u64 w a len cap zs) (hcap : cap ≤ maxLen) :
    Calls Try.prog 4 #[.slice a len cap] w fun e w' => e = .returned (.bool true) ∧ Below w.heap.size w w' := by
  unfold maxLen at hcap
  have hlc := hz.2.1
  by_cases hl : 100 < len
  · go_enter Try.func4, Try.ntmps4
    go_wp2_with fail
    refine (awake_any _).mono ?_
    rintro e w1 ⟨rfl, hb1⟩
    go_wp2_with fail
    refine (awake_any _).mono ?_
    rintro e w2 ⟨rfl, hb2⟩
    go_wp2_with fail
    go_ret
    exact ⟨rfl, hb1.trans (hb2.mono hb1.size)⟩
  · have HZ := Lib.hid hz
    clear hz
    go_enter Try.func4, Try.ntmps4
    go_wp2_with fail
    refine (awake_any _).mono ?_
    rintro e w1 ⟨rfl, hb1⟩
    go_wp2_with fail
    refine (new_any _).mono ?_
    rintro e w2 ⟨b, rfl, hf0, hlb, hb2, hlt2⟩
    go_wp2_with fail
    have s1 := hb1.size
    have s2 := hb2.size
    have hbb : Below w.heap.size w w2 := hb1.trans (hb2.mono (by omega))
    clear hb1 hb2
    go_loopw [4, 5, 6] (fun la an i wr => ∃ (j : Nat) (y : Int) (any : Bool) (l p q : Int), j ≤ len ∧ i = .int .i64 j ∧ la = .int .u64 y ∧ an = .bool any ∧ (any = true → y + 1 = l) ∧ 0 ≤ l ∧ l ≤ 9223372036854775808 ∧ 0 ≤ p ∧ p ≤ j ∧ 0 ≤ q ∧ q ≤ j ∧ Flt wr b p q l ∧ Old zs j l ∧ Below w.heap.size w wr) (fun _ _ i _ => len - (intOf i).toNat)
    case atStart => exact ⟨0, 0, false, 0, 0, 0, by omega, rfl, rfl, rfl, by simp, by omega, by omega, by omega, by omega, by omega, by omega, hf0, fun i hi => absurd hi (by omega), hbb⟩
    case round =>
      clear hf0 hbb
      obtain ⟨j, y, any, l, p, q, hj, rfl, rfl, rfl, hany, hl0, hl9, hp0, hpj, hq0, hqj, hf, hold, hb⟩ := hrel
      by_cases hlt : j < len
      · have HANY := Lib.hid hany
        have HOLD := Lib.hid hold
        clear hany hold
        obtain ⟨ba, off, rfl, hlba, hcell⟩ := HZ.out.2.2.2 (by omega)
        have hcj := hcell j hlt
        have hsb : 0 ≤ zs.getD j 0 ∧ zs.getD j 0 ≤ 18446744073709551615 := by
          have hl' := HZ.out.1
          have : zs.getD j 0 ∈ zs := by rw [List.getD, List.getElem?_eq_getElem (by omega)]; simp
          exact bounds_u64 (HZ.out.2.2.1 _ this)
        clear hcell
        have hcw : wr.cell? ⟨ba, off + j, none⟩ = some (.int .u64 (zs.getD j 0)) := (hb.cell (p := ⟨ba, off + j, none⟩) hlba).trans hcj
        clear hcj
        obtain ⟨s, hs⟩ : ∃ s, zs.getD j 0 = s := ⟨_, rfl⟩
        rw [hs] at hcw hsb
        have HS := Lib.hid hs
        clear hs
        have HF := Lib.hid hf
        have HB := Lib.hid hb
        clear hf hb
        by_cases hA : l ≤ s ∧ s ≤ 9223372036854775807
        · obtain ⟨hA1, hA2⟩ := hA
          go_wp2_with fail
          refine (accept_yes b _ _ l s _ HF.out hp0 (by omega) hl0 hA1 hA2).mono ?_
          rintro e w6 ⟨rfl, hf6, hg6⟩
          have hb6 := below_only HB.out hg6 HB.out.size (by omega)
          have hcw6 : w6.cell? ⟨ba, off + j, none⟩ = some (.int .u64 s) := (hb6.cell (p := ⟨ba, off + j, none⟩) hlba).trans ((HB.out.cell (p := ⟨ba, off + j, none⟩) hlba).symm.trans hcw)
          clear hcw
          have HF6 := Lib.hid hf6
          clear hf6
          rcases Bool.eq_false_or_eq_true any with rfl | rfl
          · have hys : y < s := by have := HANY.out rfl; omega
            go_wp2_with fail
            go_roundw
            case rel => exact ⟨j + 1, s, true, s + 1, p + 1, q, by omega, by go_num, rfl, rfl, fun _ => rfl, by omega, by omega, by omega, by omega, by omega, by omega, HF6.out, HOLD.out.next (by omega) (by have := HS.out; omega), hb6⟩
            case measure => simp [intOf]; omega
          · go_wp2_with fail
            go_roundw
            case rel => exact ⟨j + 1, s, true, s + 1, p + 1, q, by omega, by go_num, rfl, rfl, fun _ => rfl, by omega, by omega, by omega, by omega, by omega, by omega, HF6.out, HOLD.out.next (by omega) (by have := HS.out; omega), hb6⟩
            case measure => simp [intOf]; omega
        · by_cases hs2 : s ≤ 9223372036854775807
          · have hs1 : s < l := by omega
            go_wp2_with fail
            refine (accept_replay b _ _ l s _ HF.out hq0 (by omega) hs1 hs2).mono ?_
            rintro e w6 ⟨rfl, hf6, hg6⟩
            have hb6 := below_only HB.out hg6 HB.out.size (by omega)
            go_wp2_with fail
            go_roundw
            case rel => exact ⟨j + 1, y, any, l, p, q + 1, by omega, by go_num, rfl, rfl, HANY.out, by omega, by omega, by omega, by omega, by omega, by omega, hf6, HOLD.out.next (by omega) (by have := HS.out; omega), hb6⟩
            case measure => simp [intOf]; omega
          · have hs1 : 9223372036854775807 < s := by omega
            go_wp2_with fail
            refine (accept_range b _ _ l s _ HF.out hq0 (by omega) hs1).mono ?_
            rintro e w6 ⟨rfl, hf6, hg6⟩
            have hb6 := below_only HB.out hg6 HB.out.size (by omega)
            go_wp2_with fail
            go_roundw
            case rel => exact ⟨j + 1, y, any, l, p, q + 1, by omega, by go_num, rfl, rfl, HANY.out, by omega, by omega, by omega, by omega, by omega, by omega, hf6, HOLD.out.next (by omega) (by have := HS.out; omega), hb6⟩
            case measure => simp [intOf]; omega
      · obtain rfl : j = len := by omega
        have HOLD := Lib.hid hold
        clear hany hold
        go_wp2_with fail
        go_loopw [7] (fun i wr => ∃ (k : Nat) (q : Int), k ≤ j ∧ i = .int .i64 k ∧ 0 ≤ q ∧ q ≤ 200 + k ∧ Flt wr b p q l ∧ Below w.heap.size w wr) (fun i _ => j - (intOf i).toNat)
        case atStart => exact ⟨0, q, by omega, rfl, by omega, by omega, hf, hb⟩
        case round =>
          clear hf hb
          rename World => wq
          obtain ⟨k, q, hk, rfl, hq0, hqk, hf, hb⟩ := hrel
          by_cases hlt : k < j
          · obtain ⟨ba, off, rfl, hlba, hcell⟩ := HZ.out.2.2.2 (by omega)
            have hcj := hcell k hlt
            clear hcell
            have hcw := (hb.cell (p := ⟨ba, off + k, none⟩) hlba).trans hcj
            clear hcj
            have hok := HOLD.out k hlt
            generalize zs.getD k 0 = s at *
            have HF := Lib.hid hf
            have HB := Lib.hid hb
            have HOK := Lib.hid hok
            clear hf hb hok
            by_cases hs2 : s ≤ 9223372036854775807
            · have hs1 : s < l := by have := HOK.out; omega
              go_wp2_with (go_at_call 11; refine (fresh_no b _ _ l s _ HF.out (.inl hs1)).mono ?_; rintro e w8 ⟨rfl, rfl⟩)
              refine (accept_replay b _ _ l s _ HF.out hq0 (by omega) hs1 hs2).mono ?_
              rintro e w6 ⟨rfl, hf6, hg6⟩
              have hb6 := below_only HB.out hg6 HB.out.size (by omega)
              go_wp2_with fail
              go_roundw
              case rel => exact ⟨k + 1, q + 1, by omega, by go_num, by omega, by omega, hf6, hb6⟩
              case measure => simp [intOf]; omega
            · have hs1 : 9223372036854775807 < s := by omega
              go_wp2_with (go_at_call 11; refine (fresh_no b _ _ l s _ HF.out (.inr hs1)).mono ?_; rintro e w8 ⟨rfl, rfl⟩)
              refine (accept_range b _ _ l s _ HF.out hq0 (by omega) hs1).mono ?_
              rintro e w6 ⟨rfl, hf6, hg6⟩
              have hb6 := below_only HB.out hg6 HB.out.size (by omega)
              go_wp2_with fail
              go_roundw
              case rel => exact ⟨k + 1, q + 1, by omega, by go_num, by omega, by omega, hf6, hb6⟩
              case measure => simp [intOf]; omega
          · have HB := Lib.hid hb
            clear hf hb
            go_wp2_with fail
            go_ret
            exact ⟨rfl, HB.out⟩

theorem Nums.of_lit (w : World) (x : Int) (t : Nat) : Nums (w.alloc (.cells #[.int .u64 x] t)) (some ⟨w.heap.size, 0, none⟩) 1 [x] := by
  refine ⟨by simp, fun _ => ⟨⟨w.heap.size, 0, none⟩, rfl, by simp, new_one w _ t⟩⟩
theorem AllRel.one {x : Int} (h0 : 0 ≤ x) (h : x ≤ 9223372036854775807) : AllRel [x] (x + 1) := AllRel.nil.push h0 h

set_option maxHeartbeats 4000000 in
theorem frefuses_any (f : Int) (n : Nat) (p : Int) (w : World) (hf0 : 0 ≤ f) (hf9 : f ≤ 18446744073709551615) (hn : n ≤ 255) (hp0 : 0 ≤ p) :
    Calls Try.prog 6 #[.int .u64 f, .int .u8 n, .int .u64 p] w fun e w' => e = .returned (.bool true) ∧ Below w.heap.size w w' := by
  by_cases hbig : 9223372036854775808 ≤ f
  · go_enter Try.func6, Try.ntmps6
    go_wp2_with fail
    refine (awake_any _).mono ?_
    rintro e w1 ⟨rfl, hb1⟩
    go_wp2_with fail
    refine (awake_any _).mono ?_
    rintro e w2 ⟨rfl, hb2⟩
    go_wp2_with fail
    go_ret
    exact ⟨rfl, hb1.trans (hb2.mono hb1.size)⟩
  · go_enter Try.func6, Try.ntmps6
    go_wp2_with fail
    refine (awake_any _).mono ?_
    rintro e w1 ⟨rfl, hb1⟩
    go_wp2_with fail
    refine (new_any _).mono ?_
    rintro e w2 ⟨b, rfl, hfl, hlb, hb2, hlt2⟩
    have s1 := hb1.size
    have s2 := hb2.size
    have hbb : Below w.heap.size w w2 := hb1.trans (hb2.mono (by omega))
    clear hb1 hb2
    go_wp2_with fail
    refine (accept_yes b _ _ 0 f _ hfl (by omega) (by omega) (by omega) hf0 (by omega)).mono ?_
    rintro e w3 ⟨rfl, hf3, hg3⟩
    have hb3 := below_only hbb hg3 hbb.size (by omega)
    clear hfl hbb
    go_wp2_with fail
    go_loopw [8] (fun i wr => ∃ (k : Nat), k ≤ n ∧ i = .int .i64 k ∧ Flt wr b 1 k (f + 1) ∧ Below w.heap.size w wr) (fun i _ => n - (intOf i).toNat)
    case atStart => exact ⟨0, by omega, rfl, hf3.eq (by omega) rfl rfl, hb3⟩
    case round =>
      clear hf3 hb3
      obtain ⟨k, hk, rfl, hf, hb⟩ := hrel
      have HF := Lib.hid hf
      have HB := Lib.hid hb
      clear hf hb
      by_cases hlt : k < n
      · go_wp2_with fail
        refine (refuse_any b _ _ _ _ HF.out (by omega) (by omega)).mono ?_
        rintro e w6 ⟨rfl, hf6, hg6⟩
        have hb6 := below_only HB.out hg6 HB.out.size (by omega)
        go_wp2_with fail
        go_roundw
        case rel => exact ⟨k + 1, by omega, by go_num, hf6.eq rfl (by omega) rfl, hb6⟩
        case measure => simp [intOf]; omega
      · obtain rfl : k = n := by omega
        go_wp2_with (go_at_call 15; refine (last_some b _ _ _ _ HF.out (by omega) (by omega)).mono ?_; rintro e w8 ⟨rfl, rfl⟩)
        refine (counts_any b _ _ _ _ HF.out).mono ?_
        rintro e w8 ⟨rfl, nd, rfl⟩
        go_wp2_with (first | (go_at_call 18; refine (refuse_nil _).mono ?_; rintro e w8 ⟨rfl, rfl⟩) | (go_at_call 16; refine (counts_nil _).mono ?_; rintro e w8 ⟨rfl, rfl⟩) | (go_at_call 11; refine (fresh_any b _ _ _ _ _ (HF.out.drewN _)).mono ?_; rintro e w8 ⟨rfl, rfl⟩))
        refine (rfresh_any _ _ _ _ _ _ _ (Nums.of_lit _ _ _) (by omega) (AllRel.one hf0 (by omega)) hp0).mono ?_
        rintro e w9 ⟨rfl, rfl⟩
        go_wp2_with fail
        go_ret
        exact ⟨rfl, (below_drewN HB.out _).alloc HB.out.size _⟩

set_option maxHeartbeats 4000000 in
set_option maxRecDepth 100000 in
theorem fskips_any (a : Option Addr) (len cap : Nat) (zs : List Int) (w : World) (hz : Ints .u64 w a len cap zs) (hcap : cap ≤ maxLen) :
    Calls Try.prog 7 #[.slice a len cap] w fun e w' => e = .returned (.bool true) ∧ Below w.heap.size w w' := by
  unfold maxLen at hcap
  have hlc := hz.2.1
  by_cases hl : 100 < len
  · go_enter Try.func7, Try.ntmps7
    go_wp2_with fail
    refine (awake_any _).mono ?_
    rintro e w1 ⟨rfl, hb1⟩
    go_wp2_with fail
    refine (awake_any _).mono ?_
    rintro e w2 ⟨rfl, hb2⟩
    go_wp2_with fail
    go_ret
    exact ⟨rfl, hb1.trans (hb2.mono hb1.size)⟩
  · have HZ := Lib.hid hz
    clear hz
    go_enter Try.func7, Try.ntmps7
    go_wp2_with fail
    refine (awake_any _).mono ?_
    rintro e w1 ⟨rfl, hb1⟩
    go_wp2_with fail
    refine (new_any _).mono ?_
    rintro e w2 ⟨b, rfl, hf0, hlb, hb2, hlt2⟩
    go_wp2_with fail
    have s1 := hb1.size
    have s2 := hb2.size
    have hbb : Below w.heap.size w w2 := hb1.trans (hb2.mono (by omega))
    clear hb1 hb2
    refine (new_any _).mono ?_
    rintro e w3 ⟨c, rfl, hf1, hlc2, hb3, hlt3⟩
    go_wp2_with fail
    have s3 := hb3.size
    have hbb3 : Below w.heap.size w w3 := hbb.trans (hb3.mono (by omega))
    have hf2 := hf0.below hb3
    have hne : b ≠ c := by omega
    clear hf0 hbb hb3
    go_loopw [5] (fun i wr => ∃ (j : Nat) (l p q r : Int), j ≤ len ∧ i = .int .i64 j ∧ 0 ≤ l ∧ l ≤ 9223372036854775808 ∧ 0 ≤ p ∧ p ≤ j ∧ 0 ≤ q ∧ q ≤ j ∧ 0 ≤ r ∧ r ≤ j ∧ Flt wr b p q l ∧ Flt wr c r 0 l ∧ Below w.heap.size w wr) (fun i _ => len - (intOf i).toNat)
    case atStart => exact ⟨0, 0, 0, 0, 0, by omega, rfl, by omega, by omega, by omega, by omega, by omega, by omega, by omega, by omega, hf2, hf1, hbb3⟩
    case round =>
      clear hf1 hf2 hbb3
      obtain ⟨j, l, p, q, r, hj, rfl, hl0, hl9, hp0, hpj, hq0, hqj, hr0, hrj, hfb, hfc, hb⟩ := hrel
      by_cases hlt : j < len
      ·
        obtain ⟨ba, off, rfl, hlba, hcell⟩ := HZ.out.2.2.2 (by omega)
        have hcj := hcell j hlt
        have hsb : 0 ≤ zs.getD j 0 ∧ zs.getD j 0 ≤ 18446744073709551615 := by
          have hl' := HZ.out.1
          have : zs.getD j 0 ∈ zs := by rw [List.getD, List.getElem?_eq_getElem (by omega)]; simp
          exact bounds_u64 (HZ.out.2.2.1 _ this)
        clear hcell
        have hcw : wr.cell? ⟨ba, off + j, none⟩ = some (.int .u64 (zs.getD j 0)) := (hb.cell (p := ⟨ba, off + j, none⟩) hlba).trans hcj
        clear hcj
        obtain ⟨s, hs⟩ : ∃ s, zs.getD j 0 = s := ⟨_, rfl⟩
        rw [hs] at hcw hsb
        have HS := Lib.hid hs
        clear hs
        have HF := Lib.hid hfb
        have HC := Lib.hid hfc
        have HB := Lib.hid hb
        clear hfb hfc hb
        by_cases hA : l ≤ s ∧ s ≤ 9223372036854775807
        · obtain ⟨hA1, hA2⟩ := hA
          go_wp2_with (go_at_call 11; refine (fresh_yes b _ _ l s _ HF.out hA1 hA2).mono ?_; rintro e w8 ⟨rfl, rfl⟩)
          refine (accept_yes b _ _ l s _ HF.out hp0 (by omega) hl0 hA1 hA2).mono ?_
          rintro e w6 ⟨rfl, hf6, hg6⟩
          have hb6 := below_only HB.out hg6 HB.out.size (by omega)
          have hc6 : Flt w6 c r 0 l := Blk.only HC.out hg6 hne.symm
          have hcw6 : w6.cell? ⟨ba, off + j, none⟩ = some (.int .u64 s) := (hb6.cell (p := ⟨ba, off + j, none⟩) hlba).trans ((HB.out.cell (p := ⟨ba, off + j, none⟩) hlba).symm.trans hcw)
          clear hcw
          have HF6 := Lib.hid hf6
          have HC6 := Lib.hid hc6
          have HB6 := Lib.hid hb6
          clear hf6 hc6 hb6
          go_wp2_with fail
          refine (accept_yes c _ _ l s _ HC6.out hr0 (by omega) hl0 hA1 hA2).mono ?_
          rintro e w7 ⟨rfl, hc7, hg7⟩
          have hb7 := below_only HB6.out hg7 HB6.out.size (by omega)
          have hf7 : Flt w7 b (p + 1) q (s + 1) := Blk.only HF6.out hg7 hne
          go_wp2_with fail
          go_roundw
          case rel => exact ⟨j + 1, s + 1, p + 1, q, r + 1, by omega, by go_num, by omega, by omega, by omega, by omega, by omega, by omega, by omega, by omega, hf7, hc7, hb7⟩
          case measure => simp [intOf]; omega
        · by_cases hs2 : s ≤ 9223372036854775807
          · have hs1 : s < l := by omega
            go_wp2_with (go_at_call 11; refine (fresh_no b _ _ l s _ HF.out (.inl hs1)).mono ?_; rintro e w8 ⟨rfl, rfl⟩)
            refine (accept_replay b _ _ l s _ HF.out hq0 (by omega) hs1 hs2).mono ?_
            rintro e w6 ⟨rfl, hf6, hg6⟩
            have hb6 := below_only HB.out hg6 HB.out.size (by omega)
            have hc6 : Flt w6 c r 0 l := Blk.only HC.out hg6 hne.symm
            go_wp2_with fail
            go_roundw
            case rel => exact ⟨j + 1, l, p, q + 1, r, by omega, by go_num, by omega, by omega, by omega, by omega, by omega, by omega, by omega, by omega, hf6, hc6, hb6⟩
            case measure => simp [intOf]; omega
          · have hs1 : 9223372036854775807 < s := by omega
            go_wp2_with (go_at_call 11; refine (fresh_no b _ _ l s _ HF.out (.inr hs1)).mono ?_; rintro e w8 ⟨rfl, rfl⟩)
            refine (accept_range b _ _ l s _ HF.out hq0 (by omega) hs1).mono ?_
            rintro e w6 ⟨rfl, hf6, hg6⟩
            have hb6 := below_only HB.out hg6 HB.out.size (by omega)
            have hc6 : Flt w6 c r 0 l := Blk.only HC.out hg6 hne.symm
            go_wp2_with fail
            go_roundw
            case rel => exact ⟨j + 1, l, p, q + 1, r, by omega, by go_num, by omega, by omega, by omega, by omega, by omega, by omega, by omega, by omega, hf6, hc6, hb6⟩
            case measure => simp [intOf]; omega
      · have HF := Lib.hid hfb
        have HC := Lib.hid hfc
        have HB := Lib.hid hb
        clear hfb hfc hb
        by_cases hl1 : l = 0
        · subst hl1
          go_wp2_with (first | (go_at_call 15; ((with_reducible refine (last_none b _ _ _ HF.out).mono ?_); rintro e w8 ⟨rfl, rfl⟩)) | (go_at_call 15; ((with_reducible refine (last_none c _ _ _ HC.out).mono ?_); rintro e w8 ⟨rfl, rfl⟩)))
          refine (counts_any c _ _ _ _ HC.out).mono ?_
          rintro e w8 ⟨rfl, nd, rfl⟩
          go_wp2_with fail
          go_ret
          exact ⟨rfl, below_drewN HB.out _⟩
        · go_wp2_with (first | (go_at_call 15; ((with_reducible refine (last_some b _ _ _ _ HF.out (by omega) hl9).mono ?_); rintro e w8 ⟨rfl, rfl⟩)) | (go_at_call 15; ((with_reducible refine (last_some c _ _ _ _ HC.out (by omega) hl9).mono ?_); rintro e w8 ⟨rfl, rfl⟩)))
          refine (counts_any c _ _ _ _ HC.out).mono ?_
          rintro e w8 ⟨rfl, nd, rfl⟩
          go_wp2_with fail
          go_ret
          exact ⟨rfl, below_drewN HB.out _⟩

set_option maxHeartbeats 4000000 in
theorem fafter_any (x s : Int) (w : World) (hx0 : 0 ≤ x) (hx9 : x ≤ 18446744073709551615) (hs0 : 0 ≤ s) (hs9 : s ≤ 18446744073709551615) :
    Calls Try.prog 5 #[.int .u64 x, .int .u64 s] w fun e w' => e = .returned (.bool true) ∧ Below w.heap.size w w' := by
  by_cases hx : x ≤ 9223372036854775807
  · by_cases hs : s ≤ 9223372036854775807
    · by_cases hxs : x < s
      · go_enter Try.func5, Try.ntmps5
        go_wp2_with fail
        refine (awake_any _).mono ?_
        rintro e w1 ⟨rfl, hb1⟩
        go_wp2_with fail
        refine (after_any _ _ hx0 hx9).mono ?_
        rintro e w2 ⟨b, rfl, hfl, hlb, hb2, hlt2⟩
        have s1 := hb1.size
        have s2 := hb2.size
        have hbb : Below w.heap.size w w2 := hb1.trans (hb2.mono (by omega))
        have hf := Lib.hid (hfl.eq rfl rfl (show _ = (x + 1 : Int) by first | (rw [if_pos (by omega)]) | (rw [if_neg (by omega)]; rfl)))
        clear hb1 hb2 hfl
        go_wp2_with (go_at_call 15; refine (last_some b _ _ _ _ hf.out (by omega) (by omega)).mono ?_; rintro e w8 ⟨rfl, rfl⟩)
        refine (counts_any b _ _ _ _ hf.out).mono ?_
        rintro e w8 ⟨rfl, nd, rfl⟩
        go_wp2_with (go_at_call 11; refine (fresh_any b _ _ _ _ _ (hf.out.drewN _)).mono ?_; rintro e w8 ⟨rfl, rfl⟩)
        refine (rfresh_any _ _ _ _ (x + 1) _ _ (Nums.of_lit _ _ _) (by omega) (AllRel.one (by omega) (by omega)) hs0).mono ?_
        rintro e w9 ⟨rfl, rfl⟩
        go_wp2_with fail
        refine (accept_yes b _ _ (x + 1) s _ (Blk.alloc (hf.out.drewN _) _) (by omega) (by omega) (by omega) (by omega) (by omega)).mono ?_
        rintro e w6 ⟨rfl, hf6, hg6⟩
        have hb6 := below_only ((below_drewN hbb nd).alloc hbb.size (.cells #[.int .u64 x] 23)) hg6 (by simp; omega) (by omega)
        have hs6 := hb6.size
        go_wp2_with fail
        refine (rcode_ok _ _ _ _ _ _ (Nums.of_lit _ _ _) (by omega) (fun z hz => by simp only [List.mem_singleton] at hz; omega) (by omega) (by omega)).mono ?_
        rintro e w9 ⟨rfl, rfl⟩
        go_wp2_with (go_at_call 13; refine (told_ok _).mono ?_; rintro e w8 ⟨rfl, rfl⟩)
        go_ret
        exact ⟨ret_true (by simp), hb6.alloc (by omega) _⟩
      · go_enter Try.func5, Try.ntmps5
        go_wp2_with fail
        refine (awake_any _).mono ?_
        rintro e w1 ⟨rfl, hb1⟩
        go_wp2_with fail
        refine (after_any _ _ hx0 hx9).mono ?_
        rintro e w2 ⟨b, rfl, hfl, hlb, hb2, hlt2⟩
        have s1 := hb1.size
        have s2 := hb2.size
        have hbb : Below w.heap.size w w2 := hb1.trans (hb2.mono (by omega))
        have hf := Lib.hid (hfl.eq rfl rfl (show _ = (x + 1 : Int) by first | (rw [if_pos (by omega)]) | (rw [if_neg (by omega)]; rfl)))
        clear hb1 hb2 hfl
        go_wp2_with (go_at_call 15; refine (last_some b _ _ _ _ hf.out (by omega) (by omega)).mono ?_; rintro e w8 ⟨rfl, rfl⟩)
        refine (counts_any b _ _ _ _ hf.out).mono ?_
        rintro e w8 ⟨rfl, nd, rfl⟩
        go_wp2_with (go_at_call 11; refine (fresh_any b _ _ _ _ _ (hf.out.drewN _)).mono ?_; rintro e w8 ⟨rfl, rfl⟩)
        refine (rfresh_any _ _ _ _ (x + 1) _ _ (Nums.of_lit _ _ _) (by omega) (AllRel.one (by omega) (by omega)) hs0).mono ?_
        rintro e w9 ⟨rfl, rfl⟩
        go_wp2_with fail
        refine (accept_replay b _ _ (x + 1) s _ (Blk.alloc (hf.out.drewN _) _) (by omega) (by omega) (by omega) (by omega)).mono ?_
        rintro e w6 ⟨rfl, hf6, hg6⟩
        have hb6 := below_only ((below_drewN hbb nd).alloc hbb.size (.cells #[.int .u64 x] 23)) hg6 (by simp; omega) (by omega)
        have hs6 := hb6.size
        go_wp2_with fail
        refine (rcode_no _ _ _ _ _ _ (Nums.of_lit _ _ _) (by omega) 0 _ rfl (by omega) (by omega)).mono ?_
        rintro e w9 ⟨rfl, rfl⟩
        go_wp2_with (go_at_call 13; refine (told_err _ _ (by omega)).mono ?_; rintro e w8 ⟨rfl, rfl⟩)
        go_ret
        exact ⟨ret_true (by simp), hb6.alloc (by omega) _⟩
    · go_enter Try.func5, Try.ntmps5
      go_wp2_with fail
      refine (awake_any _).mono ?_
      rintro e w1 ⟨rfl, hb1⟩
      go_wp2_with fail
      refine (after_any _ _ hx0 hx9).mono ?_
      rintro e w2 ⟨b, rfl, hfl, hlb, hb2, hlt2⟩
      have s1 := hb1.size
      have s2 := hb2.size
      have hbb : Below w.heap.size w w2 := hb1.trans (hb2.mono (by omega))
      have hf := Lib.hid (hfl.eq rfl rfl (show _ = (x + 1 : Int) by first | (rw [if_pos (by omega)]) | (rw [if_neg (by omega)]; rfl)))
      clear hb1 hb2 hfl
      go_wp2_with (go_at_call 15; refine (last_some b _ _ _ _ hf.out (by omega) (by omega)).mono ?_; rintro e w8 ⟨rfl, rfl⟩)
      refine (counts_any b _ _ _ _ hf.out).mono ?_
      rintro e w8 ⟨rfl, nd, rfl⟩
      go_wp2_with (go_at_call 11; refine (fresh_any b _ _ _ _ _ (hf.out.drewN _)).mono ?_; rintro e w8 ⟨rfl, rfl⟩)
      refine (rfresh_any _ _ _ _ (x + 1) _ _ (Nums.of_lit _ _ _) (by omega) (AllRel.one (by omega) (by omega)) hs0).mono ?_
      rintro e w9 ⟨rfl, rfl⟩
      go_wp2_with fail
      refine (accept_range b _ _ (x + 1) s _ (Blk.alloc (hf.out.drewN _) _) (by omega) (by omega) (by omega)).mono ?_
      rintro e w6 ⟨rfl, hf6, hg6⟩
      have hb6 := below_only ((below_drewN hbb nd).alloc hbb.size (.cells #[.int .u64 x] 23)) hg6 (by simp; omega) (by omega)
      have hs6 := hb6.size
      go_wp2_with fail
      refine (rcode_big _ _ _ _ _ _ (Nums.of_lit _ _ _) (by omega) (by omega)).mono ?_
      rintro e w9 ⟨rfl, rfl⟩
      go_wp2_with (go_at_call 13; refine (told_err _ _ (by omega)).mono ?_; rintro e w8 ⟨rfl, rfl⟩)
      go_ret
      exact ⟨ret_true (by simp), hb6.alloc (by omega) _⟩
  · by_cases hs : s ≤ 9223372036854775807
    · by_cases hxs : 9223372036854775807 < s
      · exfalso; omega
      · go_enter Try.func5, Try.ntmps5
        go_wp2_with fail
        refine (awake_any _).mono ?_
        rintro e w1 ⟨rfl, hb1⟩
        go_wp2_with fail
        refine (after_any _ _ hx0 hx9).mono ?_
        rintro e w2 ⟨b, rfl, hfl, hlb, hb2, hlt2⟩
        have s1 := hb1.size
        have s2 := hb2.size
        have hbb : Below w.heap.size w w2 := hb1.trans (hb2.mono (by omega))
        have hf := Lib.hid (hfl.eq rfl rfl (show _ = (9223372036854775808 : Int) by first | (rw [if_pos (by omega)]) | (rw [if_neg (by omega)]; rfl)))
        clear hb1 hb2 hfl
        go_wp2_with (go_at_call 15; refine (last_some b _ _ _ _ hf.out (by omega) (by omega)).mono ?_; rintro e w8 ⟨rfl, rfl⟩)
        refine (counts_any b _ _ _ _ hf.out).mono ?_
        rintro e w8 ⟨rfl, nd, rfl⟩
        go_wp2_with (go_at_call 11; refine (fresh_any b _ _ _ _ _ (hf.out.drewN _)).mono ?_; rintro e w8 ⟨rfl, rfl⟩)
        refine (rfresh_any _ _ _ _ (9223372036854775808) _ _ (Nums.of_lit _ _ _) (by omega) (AllRel.one (by omega) (by omega)) hs0).mono ?_
        rintro e w9 ⟨rfl, rfl⟩
        go_wp2_with fail
        refine (accept_replay b _ _ (9223372036854775808) s _ (Blk.alloc (hf.out.drewN _) _) (by omega) (by omega) (by omega) (by omega)).mono ?_
        rintro e w6 ⟨rfl, hf6, hg6⟩
        have hb6 := below_only ((below_drewN hbb nd).alloc hbb.size (.cells #[.int .u64 9223372036854775807] 23)) hg6 (by simp; omega) (by omega)
        have hs6 := hb6.size
        go_wp2_with fail
        refine (rcode_no _ _ _ _ _ _ (Nums.of_lit _ _ _) (by omega) 0 _ rfl (by omega) (by omega)).mono ?_
        rintro e w9 ⟨rfl, rfl⟩
        go_wp2_with (go_at_call 13; refine (told_err _ _ (by omega)).mono ?_; rintro e w8 ⟨rfl, rfl⟩)
        go_ret
        exact ⟨ret_true (by simp), hb6.alloc (by omega) _⟩
    · go_enter Try.func5, Try.ntmps5
      go_wp2_with fail
      refine (awake_any _).mono ?_
      rintro e w1 ⟨rfl, hb1⟩
      go_wp2_with fail
      refine (after_any _ _ hx0 hx9).mono ?_
      rintro e w2 ⟨b, rfl, hfl, hlb, hb2, hlt2⟩
      have s1 := hb1.size
      have s2 := hb2.size
      have hbb : Below w.heap.size w w2 := hb1.trans (hb2.mono (by omega))
      have hf := Lib.hid (hfl.eq rfl rfl (show _ = (9223372036854775808 : Int) by first | (rw [if_pos (by omega)]) | (rw [if_neg (by omega)]; rfl)))
      clear hb1 hb2 hfl
      go_wp2_with (go_at_call 15; refine (last_some b _ _ _ _ hf.out (by omega) (by omega)).mono ?_; rintro e w8 ⟨rfl, rfl⟩)
      refine (counts_any b _ _ _ _ hf.out).mono ?_
      rintro e w8 ⟨rfl, nd, rfl⟩
      go_wp2_with (go_at_call 11; refine (fresh_any b _ _ _ _ _ (hf.out.drewN _)).mono ?_; rintro e w8 ⟨rfl, rfl⟩)
      refine (rfresh_any _ _ _ _ (9223372036854775808) _ _ (Nums.of_lit _ _ _) (by omega) (AllRel.one (by omega) (by omega)) hs0).mono ?_
      rintro e w9 ⟨rfl, rfl⟩
      go_wp2_with fail
      refine (accept_range b _ _ (9223372036854775808) s _ (Blk.alloc (hf.out.drewN _) _) (by omega) (by omega) (by omega)).mono ?_
      rintro e w6 ⟨rfl, hf6, hg6⟩
      have hb6 := below_only ((below_drewN hbb nd).alloc hbb.size (.cells #[.int .u64 9223372036854775807] 23)) hg6 (by simp; omega) (by omega)
      have hs6 := hb6.size
      go_wp2_with fail
      refine (rcode_big _ _ _ _ _ _ (Nums.of_lit _ _ _) (by omega) (by omega)).mono ?_
      rintro e w9 ⟨rfl, rfl⟩
      go_wp2_with (go_at_call 13; refine (told_err _ _ (by omega)).mono ?_; rintro e w8 ⟨rfl, rfl⟩)
      go_ret
      exact ⟨ret_true (by simp), hb6.alloc (by omega) _⟩
end Go.Proofs.Ytjnnobdkidkagaa
