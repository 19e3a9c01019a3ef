import Derived.Test.YtojfghfgaljkkaaDoorArr
namespace Go.Proofs.YtojfghfgaljkkaaDoor
open Go.ChangeShapes Go.WideShapes Go.ChangeAt Go.RowKit
set_option linter.unusedVariables false
set_option linter.unusedSimpArgs false
/-- The bits of bytes, from the top. -/
def bit (bs : List Nat) (i : Nat) : Nat := bs.getD (i / 8) 0 / 2 ^ (7 - i % 8) % 2
def bitsTo (bs : List Nat) (m : Nat) : List Nat := (List.range m).map (bit bs)
def iv (l : List Nat) : List Value := l.map fun x => Value.int .i64 (x : Nat)
theorem bitsTo_len (bs : List Nat) (m : Nat) : (bitsTo bs m).length = m := by simp [bitsTo]
theorem iv_len (l : List Nat) : (iv l).length = l.length := by simp [iv]
theorem bitsTo_next (bs : List Nat) (m : Nat) : iv (bitsTo bs (m + 1)) = iv (bitsTo bs m) ++ [.int .i64 (bit bs m : Nat)] := by simp [bitsTo, iv, List.range_succ]
theorem info3 : (Tryd.prog.info? 3).map (fun i => (i.zero, i.size, i.bytes)) = some (some (.int .i64 0), 1, 8) := by kernel_rfl
theorem pw_bd (x k : Nat) (h : x < 256) : (0 : Int) ≤ (x : Int) / 2 ^ k ∧ (x : Int) / 2 ^ k ≤ 255 := by
  have e : (x : Int) / 2 ^ k = ((x / 2 ^ k : Nat) : Int) := by push_cast; rfl
  have := Nat.div_le_self x (2 ^ k)
  rw [e]; generalize x / 2 ^ k = q at *; omega
set_option maxRecDepth 100000 in
theorem bits_any (A : Option Addr) (n c : Nat) (bs : List Nat) (w : World) (hb : Bys w A n bs) (hn : n ≤ 1000) :
    Calls Tryd.prog 17 #[.slice A n c] w fun e w' => (∃ v, e = .returned v ∧ w'.ownsRow w.heap.size 3 1 v (8 * n) (iv (bitsTo bs (8 * n)))) ∧ Below w.heap.size w w' := by
  have HB := Lib.hid hb
  clear hb
  go_enter Tryd.func17, Tryd.ntmps17
  go_wp2_with fail
  go_loopw [3, 4] (fun v i wr => ∃ (j : Nat), j ≤ n ∧ i = .int .i64 j ∧ wr.ownsRow w.heap.size 3 1 v (8 * j) (iv (bitsTo bs (8 * j))) ∧ Below w.heap.size w wr) (fun _ i _ => n - (intOf i).toNat)
  case atStart => exact ⟨0, by omega, rfl, World.ownsRow_nil w _ _ _, Below.refl _ _⟩
  case round =>
    obtain ⟨j, hj, rfl, ho, hbel⟩ := hrel
    have HO := Lib.hid ho
    have HBE := Lib.hid hbel
    clear ho hbel
    by_cases hlt : j < n
    · obtain ⟨bk, o, x, rfl, hbl, hbx, hx9, hcx⟩ := Bys.cell HB.out hlt
      have hbj : ∀ t, t < 8 → bit bs (8 * j + t) = x / 2 ^ (7 - t) % 2 := by
        intro t ht
        unfold bit
        rw [show (8 * j + t) / 8 = j by omega, show (8 * j + t) % 8 = t by omega, List.getD, hbx]
        rfl
      have HBJ := Lib.hid hbj
      clear hbj hbx
      obtain ⟨wo, rfl⟩ : ∃ wo : World, wo = wr := ⟨_, rfl⟩
      go_wp2_with fail
      go_loopw [3, 5] (fun v k wr => ∃ (t : Nat), t ≤ 8 ∧ k = .int .i64 (7 - t) ∧ wr.ownsRow w.heap.size 3 1 v (8 * j + t) (iv (bitsTo bs (8 * j + t))) ∧ Below w.heap.size w wr) (fun _ k _ => (intOf k + 1).toNat)
      case atStart => exact ⟨0, by omega, rfl, HO.out, HBE.out⟩
      case round =>
        clear HO HBE
        obtain ⟨t, ht, rfl, ho, hbel⟩ := hrel
        have HO := Lib.hid ho
        have hcw : wr.cell? ⟨bk, o + j, none⟩ = some (.int .u8 (x : Nat)) := (hbel.cell (p := ⟨bk, o + j, none⟩) hbl).trans hcx
        have HBE := Lib.hid hbel
        have hsz := hbel.size
        clear ho hbel hcx
        by_cases ht8 : t < 8
        · have hbt := HBJ.out t ht8
          have HBT := Lib.hid hbt
          clear hbt
          obtain ⟨i0, hi, hz0, hz1, hz2⟩ := info_parts info3
          have hk0 : (0 : Int) ≤ 7 - (t : Int) := by omega
          have hk7 : (7 - (t : Int)).toNat = 7 - t := by omega
          obtain ⟨hq0, hq9⟩ := pw_bd x (7 - t) hx9
          obtain ⟨A', c', rfl⟩ := own_form HO.out
          go_wp2_with (at_builtin; refine wpList_append_own _ rfl _ _ 44 rfl w.heap.size 3 i0 (.int .i64 0) 1 8 Tryd.underlying44 hi hz0 hz1 hz2 rfl (by decide) _ _ _ rfl (HO.out.alloc _) ⟨wr.heap.size, 0, none⟩ 1 1 [.int .i64 ((x : Int) / 2 ^ (7 - t) % 2)] rfl rfl (new_one _ _ _) (by simp [Value.oneCell']) (by unfold maxLen; omega) (by omega) (by simp; omega) ?_; intro v7 w7 hown7 hg7 hx7; clear hx7)
          have hg7' : (wr.alloc (.cells #[.int .i64 ((x : Int) / 2 ^ (7 - t) % 2)] 3)).grownBy w7 (Value.slice A' (8 * j + t) c').ownBlock := hg7
          have hb7 := below_own (HBE.out.alloc (by omega) _) (HO.out.alloc _) hg7' (by omega) (by simp; omega)
          have hown8 : w7.ownsRow w.heap.size 3 1 v7 (8 * j + (t + 1)) (iv (bitsTo bs (8 * j + (t + 1)))) := by
            rw [← Nat.add_assoc, bitsTo_next, HBT.out]
            push_cast
            exact hown7
          have HO8 := Lib.hid hown8
          have HB8 := Lib.hid hb7
          clear hown7 hg7 hg7' hb7 hown8
          go_wp2_with fail
          go_roundw
          case rel => exact ⟨t + 1, by omega, by congr 1; omega, HO8.out, HB8.out⟩
          case measure => simp [intOf]; omega
        · obtain rfl : t = 8 := by omega
          go_wp2_with fail
          go_roundw
          case rel => exact ⟨j + 1, by omega, by go_num, HO.out, HBE.out⟩
          case measure => simp [intOf]; omega
    · obtain rfl : j = n := by omega
      go_wp2_with fail
      go_ret
      exact ⟨⟨_, rfl, HO.out⟩, HBE.out⟩
end Go.Proofs.YtojfghfgaljkkaaDoor
