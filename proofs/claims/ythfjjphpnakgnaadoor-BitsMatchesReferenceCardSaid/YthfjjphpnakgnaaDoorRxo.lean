import Derived.Test.YthfjjphpnakgnaaDoorXo
import Derived.Deep.Cut
namespace Go.Proofs.YthfjjphpnakgnaaDoor
open Go.ChangeShapes Go.WideShapes Go.ChangeAt Go.RowKit
set_option linter.unusedVariables false
set_option linter.unusedSimpArgs false
theorem bit_xor (x y k : Nat) : (x ^^^ y) / 2 ^ k % 2 = if x / 2 ^ k % 2 = y / 2 ^ k % 2 then 0 else 1 := by
  have h := Nat.testBit_xor (x := x) (y := y) (i := k)
  rw [Nat.testBit_eq_decide_div_mod_eq, Nat.testBit_eq_decide_div_mod_eq, Nat.testBit_eq_decide_div_mod_eq] at h
  have h1 := Nat.mod_lt (x / 2 ^ k) (y := 2) (by omega)
  have h2 := Nat.mod_lt (y / 2 ^ k) (y := 2) (by omega)
  have h3 := Nat.mod_lt ((x ^^^ y) / 2 ^ k) (y := 2) (by omega)
  generalize x / 2 ^ k % 2 = a at *
  generalize y / 2 ^ k % 2 = b at *
  generalize (x ^^^ y) / 2 ^ k % 2 = c at *
  rcases (show a = 0 ∨ a = 1 by omega) with rfl | rfl <;> rcases (show b = 0 ∨ b = 1 by omega) with rfl | rfl <;> rcases (show c = 0 ∨ c = 1 by omega) with rfl | rfl <;> simp at h ⊢
def lowX (x y k : Nat) : Nat := (x ^^^ y) % 2 ^ k
theorem lowX_next (x y k : Nat) : lowX x y (k + 1) = if x / 2 ^ k % 2 = y / 2 ^ k % 2 then lowX x y k else lowX x y k + 2 ^ k := by
  unfold lowX
  rw [Nat.mod_pow_succ, bit_xor]
  split <;> simp
theorem lowX_8 (x y : Nat) (hx : x < 256) (hy : y < 256) : lowX x y 8 = x ^^^ y := Nat.mod_eq_of_lt (Nat.xor_lt_two_pow (n := 8) hx hy)
theorem tm2 (x q : Nat) : ((x : Int) / 2 ^ q).tmod 2 = ((x / 2 ^ q % 2 : Nat) : Int) := by
  rw [show (x : Int) / 2 ^ q = ((x / 2 ^ q : Nat) : Int) by rw [Int.natCast_ediv, Int.natCast_pow]; rfl]; exact (Int.ofNat_tmod _ 2).symm
theorem pow_wraps (z q : Nat) (hz : z < 2 ^ q) (h : 2 ^ q ≤ 128) : wrap64 ((2 : Int) ^ q) = (2 : Int) ^ q ∧ wrap64 ((z : Int) + (2 : Int) ^ q) = (z : Int) + (2 : Int) ^ q := by
  have e : (2 : Int) ^ q = ((2 ^ q : Nat) : Int) := by rw [Int.natCast_pow]; rfl
  rw [e, ← IntWalk.i64_left, ← IntWalk.i64_left]
  generalize 2 ^ q = p at *
  exact ⟨IntWalk.i64_in _ (by omega), IntWalk.i64_in _ (by omega)⟩
theorem pow_le7 (k : Nat) (h : k < 8) : 2 ^ k ≤ 128 := by
  have := Nat.pow_le_pow_right (n := 2) (by omega) (show k ≤ 7 by omega)
  omega
theorem xl_take_next {la lb : List Nat} {j x y : Nat} (hx : la[j]? = some x) (hy : lb[j]? = some y) : (xl la lb).take (j + 1) = (xl la lb).take j ++ [x ^^^ y] := take_next _ _ _ (xl_get hx hy)
def bv (l : List Nat) : List Value := l.map fun x => Value.int .u8 (x : Nat)
set_option maxRecDepth 100000 in
set_option maxHeartbeats 1000000 in
theorem rxor_any (A B : Option Addr) (n c m d : Nat) (la lb : List Nat) (w : World) (hA : Bys w A n la) (hB : Bys w B m lb) (hn : n ≤ 1000) (hm : m ≤ 1000) :
    Calls Tryd.prog 17 #[.slice A n c, .slice B m d] w fun e w' => (∃ A c, e = .returned (.slice A (min n m) c) ∧ Bys w' A (min n m) (xl la lb)) ∧ Below w.heap.size w w' := by
  have HA := Lib.hid hA
  have HB := Lib.hid hB
  have HL := Lib.hid (show (xl la lb).length = min n m by rw [xl_len, hA.len, hB.len])
  have HX := Lib.hid (xl_lt la lb hA.2 hB.2)
  have hkn : ∀ j : Nat, (j < n ∧ j < m) ↔ j < min n m := by intro j; omega
  have hkm : min n m ≤ 1000 := by omega
  obtain ⟨k, hk⟩ : ∃ k, min n m = k := ⟨_, rfl⟩
  rw [hk] at HL hkn hkm ⊢
  clear hA hB hk
  obtain ⟨i0, hi, hz0, hz1, hz2⟩ := info_parts info5
  go_enter Tryd.func17, Tryd.ntmps17
  go_wp2_with fail
  go_loopw [5, 6] (fun s i wr => ∃ (j : Nat), j ≤ k ∧ i = .int .i64 j ∧ wr.ownsRow w.heap.size 5 1 s j (bv ((xl la lb).take j)) ∧ Below w.heap.size w wr) (fun _ i _ => k - (intOf i).toNat)
  case atStart => exact ⟨0, by omega, rfl, World.ownsRow_nil w _ _ _, Below.refl _ _⟩
  case round =>
    obtain ⟨j, hj, rfl, ho, hbel⟩ := hrel
    have HO := Lib.hid ho
    have HBE := Lib.hid hbel
    clear ho
    by_cases hlt : j < k
    · obtain ⟨hjn, hjm⟩ := (hkn j).2 hlt
      obtain ⟨b1, o1, x, rfl, hb1, hx1, hx9, hcx⟩ := HA.out.cell (k := j) (by omega)
      obtain ⟨b2, o2, y, rfl, hb2, hy1, hy9, hcy⟩ := HB.out.cell (k := j) (by omega)
      have c1 := (hbel.cell (p := ⟨b1, o1 + j, none⟩) hb1).trans hcx
      have c2 := (hbel.cell (p := ⟨b2, o2 + j, none⟩) hb2).trans hcy
      have HN := Lib.hid (xl_take_next hx1 hy1)
      have HL8 := Lib.hid (lowX_8 x y hx9 hy9)
      clear hbel hcx hcy hx1 hy1 HA HB hkn
      go_wp2_with fail
      obtain ⟨wo, hwo⟩ : ∃ wo : World, wo = wr := ⟨_, rfl⟩
      go_loopw [7, 8] (fun z i wr' => ∃ (q t : Nat), q ≤ 8 ∧ i = .int .i64 q ∧ z = .int .i64 ((lowX x y q : Nat) : Int) ∧ wr' = wo.drewN t) (fun _ i _ => 8 - (intOf i).toNat)
      case atStart => exact ⟨0, 0, by omega, rfl, by simp [lowX, Nat.mod_one], by rw [hwo]; rfl⟩
      case round =>
        subst hwo
        obtain ⟨q, t, hq, rfl, rfl, rfl⟩ := hrel
        by_cases hq8 : q < 8
        · have cx : (wo.drewN t).cell? ⟨b1, o1 + j, none⟩ = some (.int .u8 (x : Nat)) := c1
          have cy : (wo.drewN t).cell? ⟨b2, o2 + j, none⟩ = some (.int .u8 (y : Nat)) := c2
          have hp := pow_le7 q hq8
          have hln := lowX_next x y q
          have hlz : lowX x y q < 2 ^ q := Nat.mod_lt _ (Nat.pow_pos (by omega))
          have hxq : x / 2 ^ q ≤ x := Nat.div_le_self _ _
          have hyq : y / 2 ^ q ≤ y := Nat.div_le_self _ _
          obtain ⟨z, hz⟩ : ∃ z, lowX x y q = z := ⟨_, rfl⟩
          obtain ⟨z', hz'⟩ : ∃ z, lowX x y (q + 1) = z := ⟨_, rfl⟩
          rw [hz, hz'] at hln
          rw [hz] at hlz ⊢
          have HZ' := Lib.hid hz'
          clear hz hz' HL8 HN
          by_cases hbb : x / 2 ^ q % 2 = y / 2 ^ q % 2
          · rw [if_pos hbb] at hln
            have hb : (((x : Int) / 2 ^ q).tmod 2 != ((y : Int) / 2 ^ q).tmod 2) = false := by rw [tm2, tm2, hbb]; simp
            have HLN := Lib.hid hln
            clear hln hbb
            go_wp2_with fail
            go_quiet (fail)
            go_wp2_with fail
            go_roundw
            case rel => exact ⟨q + 1, _, by omega, by go_num, by rw [HZ'.out, HLN.out], rfl⟩
            case measure => simp [intOf]; omega
          · rw [if_neg hbb] at hln
            have hb : (((x : Int) / 2 ^ q).tmod 2 != ((y : Int) / 2 ^ q).tmod 2) = true := by
              rw [tm2, tm2]
              simp only [bne_iff_ne, ne_eq]
              intro h; exact hbb (by exact_mod_cast h)
            have HLN := Lib.hid hln
            obtain ⟨hw1, hw2⟩ := pow_wraps z q hlz hp
            clear hln hbb
            go_wp2_with fail
            go_quiet (fail)
            go_wp2_with fail
            go_roundw
            case rel => exact ⟨q + 1, _, by omega, by go_num, by rw [HZ'.out, HLN.out]; push_cast; rw [hw2], rfl⟩
            case measure => simp [intOf]; omega
        · obtain rfl : q = 8 := by omega
          rw [HL8.out]
          have hz9 := xor_lt hx9 hy9
          obtain ⟨z, hz⟩ : ∃ z, x ^^^ y = z := ⟨_, rfl⟩
          rw [hz] at HN hz9 ⊢
          have hu8 : IntKind.u8.wrap (z : Int) = (z : Int) := IntWalk.u8_in _ (by omega)
          have hbd := HBE.out.size
          clear hz HL8
          obtain ⟨A', c', rfl⟩ := own_form HO.out
          go_wp2_with (at_builtin; refine wpList_append_own _ rfl _ _ 22 rfl w.heap.size 5 i0 (.int .u8 0) 1 1 Tryd.underlying22 hi hz0 hz1 hz2 rfl (by decide) _ _ _ rfl ((own_drewN HO.out t).alloc _) ⟨wo.heap.size, 0, none⟩ 1 1 [.int .u8 (z : Nat)] rfl rfl (new_one (wo.drewN t) _ _) (by intro u hu; simp at hu; subst hu; rfl) (by unfold maxLen; omega) (by omega) (by simp; omega) ?_; intro v7 w7 hown7 hg7 hx7; clear hx7)
          have hb7 := below_own ((below_drewN HBE.out t).alloc (by simp; omega) _) ((own_drewN HO.out t).alloc _) hg7 (by omega) (by simp; omega)
          have hown8 : w7.ownsRow w.heap.size 5 1 v7 (j + 1) (bv ((xl la lb).take (j + 1))) := by
            rw [HN.out]
            unfold bv; rw [List.map_append]
            exact hown7
          have HO8 := Lib.hid hown8
          have HB8 := Lib.hid hb7
          clear hown7 hg7 hb7 hown8
          go_wp2_with fail
          go_roundw
          case rel => exact ⟨j + 1, by omega, by go_num, HO8.out, HB8.out⟩
          case measure => simp [intOf]; omega
    · obtain rfl : j = k := by omega
      obtain ⟨A', c', rfl⟩ := own_form HO.out
      have hB2 : Bys wr A' j (xl la lb) := by
        have := HO.out
        rw [List.take_of_length_le (by rw [HL.out]; omega)] at this
        exact Bys.of_own this HX.out
      have HB2 := Lib.hid hB2
      have g1 : (j : Int) < n → ¬ ((j : Int) < m) := by intro h h2; have := (hkn j).1 ⟨by omega, by omega⟩; omega
      clear hB2 hkn hbel
      by_cases g2 : (j : Int) < n
      · have g3 := g1 g2
        clear g1
        go_wp2_with fail
        go_ret
        exact ⟨⟨A', ⟨c', rfl⟩, HB2.out⟩, HBE.out⟩
      · clear g1
        go_wp2_with fail
        go_ret
        exact ⟨⟨A', ⟨c', rfl⟩, HB2.out⟩, HBE.out⟩
end Go.Proofs.YthfjjphpnakgnaaDoor
