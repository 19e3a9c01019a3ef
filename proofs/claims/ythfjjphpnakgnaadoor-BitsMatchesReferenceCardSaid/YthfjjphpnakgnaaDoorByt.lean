import Derived.Test.YthfjjphpnakgnaaDoorNum
import Derived.Deep.Cut
namespace Go.Proofs.YthfjjphpnakgnaaDoor
open Go.ChangeShapes Go.WideShapes Go.ChangeAt Go.RowKit
set_option linter.unusedVariables false
set_option linter.unusedSimpArgs false
/-- The bytes of a number, m of them. -/
def byL (x m : Nat) : List Nat := (List.range m).map fun i => x / 2 ^ (8 * (m - 1 - i)) % 256
theorem byL_len (x m : Nat) : (byL x m).length = m := by simp [byL]
theorem byL_lt (x m : Nat) : ∀ y ∈ byL x m, y < 256 := by
  intro y hy; simp only [byL, List.mem_map] at hy; obtain ⟨i, _, rfl⟩ := hy; omega
theorem byL_succ (x m : Nat) : byL x (m + 1) = (x / 256 ^ m % 256) :: byL x m := by
  unfold byL
  rw [List.range_succ_eq_map, List.map_cons, List.map_map]
  congr 1
  · rw [show m + 1 - 1 - 0 = m by omega, show (256 : Nat) = 2 ^ 8 from rfl, ← Nat.pow_mul]
  · apply List.map_congr_left
    intro i _
    simp only [Function.comp]
    rw [show m + 1 - 1 - (i + 1) = m - 1 - i by omega]
theorem num_cons (a : Nat) (bs : List Nat) : num (a :: bs) = a * 256 ^ bs.length + num bs := by
  unfold num
  have gen : ∀ (l : List Nat) (s : Nat), l.foldl (fun x b => x * 256 + b) s = s * 256 ^ l.length + l.foldl (fun x b => x * 256 + b) 0 := by
    intro l
    induction l with
    | nil => intro s; simp
    | cons b l ih =>
      intro s
      rw [List.foldl_cons, ih, List.foldl_cons, ih (0 * 256 + b), List.length_cons, Nat.pow_succ]
      rw [Nat.add_mul, Nat.zero_mul, Nat.zero_add, Nat.mul_assoc, Nat.mul_comm 256, Nat.add_assoc]
  rw [List.foldl_cons, gen]; simp
theorem num_byL (x m : Nat) : num (byL x m) = x % 256 ^ m := by
  induction m with
  | zero => simp [byL, num]; omega
  | succ m ih =>
    rw [byL_succ, num_cons, byL_len, ih, Nat.pow_succ, Nat.mod_mul]
    rw [Nat.add_comm, Nat.mul_comm]
theorem byL_num (bs : List Nat) (h : ∀ x ∈ bs, x < 256) : byL (num bs) bs.length = bs := by
  induction bs with
  | nil => rfl
  | cons a bs ih =>
    have hlt := num_take_lt bs (fun y hy => h y (by simp [hy])) bs.length
    rw [List.take_length] at hlt
    have ha := h a (by simp)
    rw [List.length_cons, byL_succ, num_cons]
    have hp : 0 < 256 ^ bs.length := Nat.pow_pos (by omega)
    have e1 : (a * 256 ^ bs.length + num bs) / 256 ^ bs.length % 256 = a := by
      rw [Nat.mul_comm, Nat.mul_add_div hp, Nat.div_eq_of_lt hlt, Nat.add_zero, Nat.mod_eq_of_lt ha]
    rw [e1]
    congr 1
    rw [← ih (fun y hy => h y (by simp [hy]))]
    -- the higher byte does not matter
    unfold byL
    rw [List.length_map, List.length_range]
    apply List.map_congr_left
    intro i hi
    have hi := List.mem_range.1 hi
    have hs : 256 ^ bs.length = 2 ^ (8 * (bs.length - 1 - i)) * (256 * 256 ^ i) := by
      rw [show (256 : Nat) = 2 ^ 8 from rfl, ← Nat.pow_mul, ← Nat.pow_mul, ← Nat.pow_add, ← Nat.pow_add]
      congr 1; omega
    have ihn : num ((List.range bs.length).map fun i => num bs / 2 ^ (8 * (bs.length - 1 - i)) % 256) = num bs := by
      have := num_byL (num bs) bs.length
      unfold byL at this
      rw [this, Nat.mod_eq_of_lt hlt]
    rw [ihn, hs, Nat.mul_left_comm, Nat.mul_add_div (Nat.pow_pos (by omega)), Nat.mul_left_comm, Nat.mul_add_mod]
def mOf (n : Int) : Nat := (min (max n 0) 8).toNat
theorem mOf_le (n : Int) : mOf n ≤ 8 := by unfold mOf; omega
theorem info5 : (Tryd.prog.info? 5).map (fun i => (i.zero, i.size, i.bytes)) = some (some (.int .u8 0), 1, 1) := by kernel_rfl
/-- The first j cells of a block hold the list's. -/
def Filled (w : World) (g m j : Nat) (l : List Nat) : Prop := ∃ cur : Array Value, Blk w g 5 cur ∧ cur.size = m ∧ cur.toList.take j = (l.take j).map fun (x : Nat) => Value.int .u8 x
theorem Filled.next {w : World} {g m j : Nat} {l : List Nat} (h : Filled w g m j l) (hj : j < m) (x : Nat) (hx : l[j]? = some x) : Filled (w.setCell ⟨g, j, none⟩ (.int .u8 (x : Nat))) g m (j + 1) l := by
  obtain ⟨cur, hb, hs, ht⟩ := h
  refine ⟨cur.setIfInBounds j (.int .u8 (x : Nat)), Blk.set_ hb j _, by simpa using hs, ?_⟩
  have hl : j < cur.toList.length := by simpa [hs] using hj
  rw [List.take_add_one, List.take_add_one, hx, Array.toList_setIfInBounds, List.take_set_of_le (by omega), ht, List.getElem?_set_self hl]
  simp
theorem Filled.cell {w : World} {g m j : Nat} {l : List Nat} (h : Filled w g m j l) (hj : j < m) : ∃ v, w.cell? ⟨g, j, none⟩ = some v ∧ w.frozen? ⟨g, j, none⟩ = false ∧ g < w.heap.size := by
  obtain ⟨cur, hb, hs, ht⟩ := h
  exact ⟨cur[j], (Blk.cell hb j).trans (Array.getElem?_eq_getElem (by omega)), Blk.frozen hb j, hb.lt⟩
theorem Filled.bys {w : World} {g m : Nat} {l : List Nat} (h : Filled w g m m l) (hl : l.length = m) (h2 : ∀ x ∈ l, x < 256) : Bys w (some ⟨g, 0, none⟩) m l := by
  obtain ⟨cur, hb, hs, ht⟩ := h
  rw [List.take_of_length_le (by simp [hs]), List.take_of_length_le (by omega)] at ht
  refine ⟨⟨by simp [hl], fun _ => ⟨_, rfl, hb.lt, fun j u hu => ?_⟩⟩, h2⟩
  rw [add_none, Nat.zero_add, Blk.cell hb, ← hu, ← ht]; simp
theorem Filled.start {w : World} {base g m : Nat} {l : List Nat} {xs : List Value} (h : w.ownsRow base 5 1 (.slice (some ⟨g, 0, none⟩) m m) m xs) : Filled w g m 0 l := by
  rcases h.2 with ⟨h0, _⟩ | ⟨g', cap', cur, hv, hb, hh, hn, hm, hs, ht⟩
  · cases h0
  · simp only [Value.slice.injEq, Option.some.injEq, Addr.mk.injEq] at hv
    obtain ⟨⟨rfl, _⟩, _, rfl⟩ := hv
    exact ⟨cur, hh, by simpa using hs, by simp⟩
theorem below_of_none {w w' : World} (h : w.grownBy w' none) : Below w.heap.size w w' := ⟨h.os, h.tape, h.output, h.size, fun i hi => h.block i hi (by simp)⟩
set_option maxRecDepth 100000 in
theorem bytes_any (x : Nat) (n : Int) (w : World) (hx : x < 18446744073709551616) :
    Calls Tryd.prog 12 #[.int .u64 (x : Nat), .int .i64 n] w fun e w' => (∃ A, e = .returned (.slice A (mOf n) (mOf n)) ∧ Bys w' A (mOf n) (byL x (mOf n))) ∧ Below w.heap.size w w' := by
  have hm8 := mOf_le n
  have hmn : min (max n 0) 8 = (mOf n : Int) := by unfold mOf; omega
  obtain ⟨m, hm⟩ : ∃ m, mOf n = m := ⟨_, rfl⟩
  rw [hm] at hm8 hmn ⊢
  clear hm
  obtain ⟨i0, hi, hz0, hz1, hz2⟩ := info_parts info5
  rcases (show (n < 0 ∧ m = 0) ∨ (0 ≤ n ∧ n ≤ 8 ∧ n = m) ∨ (8 < n ∧ m = 8) by omega) with ⟨h1, rfl⟩ | ⟨h1, h2, rfl⟩ | ⟨h1, rfl⟩
  · clear hmn
    go_enter Tryd.func12, Tryd.ntmps12
    go_wp2_with (refine wpList_make_full _ rfl (.tmp 10) (.tmp 10) 22 rfl w.heap.size 5 i0 (.int .u8 0) 1 Tryd.underlying22 hi hz0 hz1 .i64 .i64 _ _ 0 rfl rfl rfl rfl (by rw [hz2]; omega) (by unfold maxLen; omega) (Nat.le_refl _) ?_)
    intro w1 ho hg
    have HF := Lib.hid (Filled.start (l := byL x 0) ho)
    have HBE := Lib.hid (below_of_none hg)
    clear ho hg
    go_wp2_with fail
    go_loopw [13] (fun i wr => ∃ (j : Nat), j ≤ 0 ∧ i = .int .i64 j ∧ Filled wr w.heap.size 0 j (byL x 0) ∧ Below w.heap.size w wr) (fun i _ => 0 - (intOf i).toNat)
    case atStart => exact ⟨0, by omega, rfl, HF.out, HBE.out⟩
    case round =>
      clear HF HBE
      obtain ⟨j, hj, rfl, hF, hbel⟩ := hrel
      have HF := Lib.hid hF
      have HBE := Lib.hid hbel
      clear hF hbel
      obtain rfl : 0 = j := by omega
      go_wp2_with fail
      go_ret
      exact ⟨⟨_, rfl, HF.out.bys (byL_len _ _) (byL_lt _ _)⟩, HBE.out⟩
  · clear hmn
    go_enter Tryd.func12, Tryd.ntmps12
    go_wp2_with (refine wpList_make_full _ rfl (.tmp 10) (.tmp 10) 22 rfl w.heap.size 5 i0 (.int .u8 0) 1 Tryd.underlying22 hi hz0 hz1 .i64 .i64 _ _ m rfl rfl rfl rfl (by rw [hz2]; omega) (by unfold maxLen; omega) (Nat.le_refl _) ?_)
    intro w1 ho hg
    have HF := Lib.hid (Filled.start (l := byL x m) ho)
    have HBE := Lib.hid (below_of_none hg)
    clear ho hg
    go_wp2_with fail
    go_loopw [13] (fun i wr => ∃ (j : Nat), j ≤ m ∧ i = .int .i64 j ∧ Filled wr w.heap.size m j (byL x m) ∧ Below w.heap.size w wr) (fun i _ => m - (intOf i).toNat)
    case atStart => exact ⟨0, by omega, rfl, HF.out, HBE.out⟩
    case round =>
      clear HF HBE
      obtain ⟨j, hj, rfl, hF, hbel⟩ := hrel
      have HF := Lib.hid hF
      have HBE := Lib.hid hbel
      clear hF hbel
      by_cases hlt : j < m
      · obtain ⟨v0, c0, f0, hg0⟩ := HF.out.cell hlt
        have hgx : (byL x m)[j]? = some (x / 2 ^ (8 * (m - 1 - j)) % 256) := by simp [byL, hlt]
        have HN := Lib.hid (HF.out.next hlt _ hgx)
        obtain ⟨r, hr⟩ : ∃ r, 8 * (m - 1 - j) = r := ⟨_, rfl⟩
        rw [hr] at HN
        have hr1 : (8 * (((m : Int) - 1) - (j : Int))).toNat = r := by omega
        have hr2 : (0 : Int) ≤ 8 * (((m : Int) - 1) - (j : Int)) := by omega
        clear hr hgx
        go_wp2_with fail
        go_roundw
        case rel => exact ⟨j + 1, by omega, by go_num, HN.out, HBE.out.setCell (by simp) _⟩
        case measure => simp [intOf]; omega
      · obtain rfl : j = m := by omega
        go_wp2_with fail
        go_ret
        exact ⟨⟨_, rfl, HF.out.bys (byL_len _ _) (byL_lt _ _)⟩, HBE.out⟩
  · clear hmn
    go_enter Tryd.func12, Tryd.ntmps12
    go_wp2_with (refine wpList_make_full _ rfl (.tmp 10) (.tmp 10) 22 rfl w.heap.size 5 i0 (.int .u8 0) 1 Tryd.underlying22 hi hz0 hz1 .i64 .i64 _ _ 8 rfl rfl rfl rfl (by rw [hz2]; omega) (by unfold maxLen; omega) (Nat.le_refl _) ?_)
    intro w1 ho hg
    have HF := Lib.hid (Filled.start (l := byL x 8) ho)
    have HBE := Lib.hid (below_of_none hg)
    clear ho hg
    go_wp2_with fail
    go_loopw [13] (fun i wr => ∃ (j : Nat), j ≤ 8 ∧ i = .int .i64 j ∧ Filled wr w.heap.size 8 j (byL x 8) ∧ Below w.heap.size w wr) (fun i _ => 8 - (intOf i).toNat)
    case atStart => exact ⟨0, by omega, rfl, HF.out, HBE.out⟩
    case round =>
      clear HF HBE
      obtain ⟨j, hj, rfl, hF, hbel⟩ := hrel
      have HF := Lib.hid hF
      have HBE := Lib.hid hbel
      clear hF hbel
      by_cases hlt : j < 8
      · obtain ⟨v0, c0, f0, hg0⟩ := HF.out.cell hlt
        have hgx : (byL x 8)[j]? = some (x / 2 ^ (8 * (8 - 1 - j)) % 256) := by simp [byL, hlt]
        have HN := Lib.hid (HF.out.next hlt _ hgx)
        obtain ⟨r, hr⟩ : ∃ r, 8 * (8 - 1 - j) = r := ⟨_, rfl⟩
        rw [hr] at HN
        have hr1 : (8 * (7 - (j : Int))).toNat = r := by omega
        have hr2 : (0 : Int) ≤ 8 * (7 - (j : Int)) := by omega
        clear hr hgx
        go_wp2_with fail
        go_roundw
        case rel => exact ⟨j + 1, by omega, by go_num, HN.out, HBE.out.setCell (by simp) _⟩
        case measure => simp [intOf]; omega
      · obtain rfl : 8 = j := by omega
        go_wp2_with fail
        go_ret
        exact ⟨⟨_, rfl, HF.out.bys (byL_len _ _) (byL_lt _ _)⟩, HBE.out⟩
theorem bv_one (l : List Nat) : ∀ u ∈ l.map (fun (x : Nat) => Value.int .u8 x), u.oneCell' = true := by
  intro u hu
  simp only [List.mem_map] at hu
  obtain ⟨x, _, rfl⟩ := hu
  rfl
theorem own_one (w : World) (v : Value) : (w.alloc (.cells #[v] 5)).ownsRow w.heap.size 5 1 (.slice (some ⟨w.heap.size, 0, none⟩) 1 1) 1 [v] := by
  refine ⟨rfl, .inr ⟨w.heap.size, 1, #[v], rfl, Nat.le_refl _, heap_alloc_new w _, Nat.le_refl _, by decide, rfl, rfl⟩⟩
theorem grown_of_one {w w' : World} {v : Value} (hg : (w.alloc (.cells #[v] 5)).grownBy w' (Value.slice (some ⟨w.heap.size, 0, none⟩) 1 1).ownBlock) : Below w.heap.size w w' := by
  refine ⟨hg.os, hg.tape, hg.output, Nat.le_trans (by simp) hg.size, fun i hi => ?_⟩
  rw [hg.block i (by simp; omega) (by intro h; simp [Value.ownBlock] at h; omega)]
  exact Below.heap_alloc w _ i hi
set_option maxRecDepth 100000 in
theorem rbytes_any (x : Nat) (n : Int) (w : World) (hx : x < 18446744073709551616) :
    Calls Tryd.prog 13 #[.int .u64 (x : Nat), .int .i64 n] w fun e w' => (∃ A c, e = .returned (.slice A (mOf n) c) ∧ Bys w' A (mOf n) (byL x (mOf n))) ∧ Below w.heap.size w w' := by
  have hm8 := mOf_le n
  have hmn : ∀ j : Nat, ((j : Int) < n ∧ (j : Int) < 8) ↔ j < mOf n := by intro j; unfold mOf; omega
  obtain ⟨m, hm⟩ : ∃ m, mOf n = m := ⟨_, rfl⟩
  rw [hm] at hm8 hmn ⊢
  clear hm
  obtain ⟨i0, hi, hz0, hz1, hz2⟩ := info_parts info5
  go_enter Tryd.func13, Tryd.ntmps13
  go_wp2_with fail
  go_loopw [0, 5, 6] (fun y s i wr => ∃ (j : Nat) (A : Option Addr) (c : Nat), j ≤ m ∧ i = .int .i64 j ∧ y = .int .u64 ((x / 256 ^ j : Nat) : Int) ∧ s = .slice A j c ∧ Bys wr A j (byL x j) ∧ Below w.heap.size w wr) (fun _ _ i _ => m - (intOf i).toNat)
  case atStart => exact ⟨0, none, 0, by omega, rfl, by simp, rfl, Bys.none_ _, Below.refl _ _⟩
  case round =>
    obtain ⟨j, A, c, hj, rfl, rfl, rfl, hB, hbel⟩ := hrel
    have HB := Lib.hid hB
    have HBE := Lib.hid hbel
    clear hB hbel
    by_cases hlt : j < m
    · obtain ⟨g1, g2⟩ := (hmn j).2 hlt
      have hs := byL_succ x j
      have hd : x / 256 ^ (j + 1) = x / 256 ^ j / 256 := by rw [Nat.pow_succ, Nat.div_div_eq_div_mul]
      have hq := Nat.lt_of_le_of_lt (Nat.div_le_self x (256 ^ j)) hx
      obtain ⟨q, hqq⟩ : ∃ q, x / 256 ^ j = q := ⟨_, rfl⟩
      rw [hqq] at hs hd hq ⊢
      have HS := Lib.hid hs
      have HD := Lib.hid hd
      clear hs hd hqq hmn
      have hu8 : IntKind.u8.wrap ((q : Int) % 256) = (q : Int) % 256 := IntWalk.u8_in _ (by omega)
      go_upto_region 5 with (fail)
      go_wp2_with (at_builtin; refine wpList_append_any _ rfl (.tmp 19) (.tmp 20) 22 rfl wr.heap.size 5 i0 (.int .u8 0) 1 1 Tryd.underlying22 hi hz0 hz1 hz2 rfl (by decide) (.slice (some ⟨wr.heap.size, 0, none⟩) 1 1) 1 [.int .u8 ((q : Int) % 256)] rfl (own_one wr _) wr.heap.size A j c _ rfl (Reads.alloc HB.out.1 (Nat.le_refl _) _) (bv_one _) (by unfold maxLen; omega) (by omega) (by simp) ?_)
      intro v' w' ho hg _
      obtain ⟨A', c', rfl⟩ := own_form ho
      have HO := Lib.hid ho
      have HG := Lib.hid (show Below wr.heap.size wr w' from grown_of_one hg)
      clear ho hg
      go_wp2_with fail
      go_roundw
      case rel => exact ⟨j + 1, A', c', by omega, by go_num, by rw [HD.out]; simp, by rw [Nat.add_comm], by
          refine ⟨?_, byL_lt _ _⟩
          have := Reads.of_own HO.out
          rw [HS.out]
          rw [Nat.add_comm] at this
          simpa using this, (HBE.out.trans (HG.out.mono HBE.out.size))⟩
      case measure => simp [intOf]; omega
    · obtain rfl : j = m := by omega
      have g1 : decide ((j : Int) < n) = true → ¬ ((j : Int) < 8) := by intro h h2; have := (hmn j).1 ⟨by simpa using h, h2⟩; omega
      by_cases g2 : (j : Int) < n
      · have g3 := g1 (by simpa using g2)
        clear g1 hmn
        go_wp2_with fail
        go_ret
        exact ⟨⟨A, ⟨c, rfl⟩, HB.out⟩, HBE.out⟩
      · clear g1 hmn
        go_wp2_with fail
        go_ret
        exact ⟨⟨A, ⟨c, rfl⟩, HB.out⟩, HBE.out⟩
end Go.Proofs.YthfjjphpnakgnaaDoor
