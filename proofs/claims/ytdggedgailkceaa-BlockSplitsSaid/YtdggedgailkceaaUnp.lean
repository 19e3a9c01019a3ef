import Derived.Test.YtdggedgailkceaaRpad
namespace Go.Proofs.Ytdggedgailkceaa
open Go.ChangeShapes Go.WideShapes Go.ChangeAt Go.RowKit
set_option linter.unusedVariables false
set_option linter.unusedSimpArgs false
/-- The place of the last byte other than 0, or 0. -/
def upn (l : List Nat) : Nat → Nat
  | 0 => 0
  | k + 1 => if l.getD (k + 1) 0 = 0 then upn l k else k + 1
theorem upn_le (l : List Nat) (k : Nat) : upn l k ≤ k := by
  induction k with
  | zero => simp [upn]
  | succ k ih => simp only [upn]; split <;> omega
theorem upn_step (l : List Nat) (k : Nat) (h0 : 0 < k) (hz : l.getD k 0 = 0) : upn l k = upn l (k - 1) := by
  obtain ⟨m, rfl⟩ : ∃ m, k = m + 1 := ⟨k - 1, by omega⟩
  simp only [upn, hz, if_true, Nat.add_sub_cancel]
theorem upn_stop (l : List Nat) (k : Nat) (h0 : 0 < k) (hz : l.getD k 0 ≠ 0) : upn l k = k := by
  obtain ⟨m, rfl⟩ : ∃ m, k = m + 1 := ⟨k - 1, by omega⟩
  simp only [upn, hz, if_false]
def Unp (l : List Nat) (B : Nat) (e : Ending) (w' : World) : Prop :=
  if l.getD (upn l 15) 0 = 128 then ∃ A c, e = .returned (.tuple #[.slice A (upn l 15) c, .bool true]) ∧ Bys w' A (upn l 15) (l.take (upn l 15))
  else e = .returned (.tuple #[.slice none 0 0, .bool false])
theorem run_slice16 (w : World) (a : Addr) (k : Nat) (hk : k ≤ 15) : (Instr.sliceAt 24 (.pointer (some a)) none (some (.int .i64 (k : Nat))) none).run Try.prog w = .ok (.slice (some a) k 16) w := by
  have hal : Try.prog.arrayLen 24 = 16 := by kernel_rfl
  have hu : Try.prog.underlying 24 = some (.array (Try.prog.arrayLen 24) (Try.prog.elem 24)) := by kernel_rfl
  have hsz : (sizeOf (Try.prog.elem 24)).run Try.prog w = .ok 1 w := by kernel_rfl
  rw [run_sliceAt_array_h w 24 a hu .i64 (k : Int) (by omega) (by rw [hal]; omega), hsz, hal]
  simp [slicedAt, Addr.add]
set_option maxRecDepth 100000 in
theorem unpad_any (l : List Nat) (w : World) (ha : l.length = 16) (ha2 : ∀ x ∈ l, x < 256) :
    Calls Try.prog 16 #[.agg (vc l)] w fun e w' => Unp l w.heap.size e w' ∧ Below w.heap.size w w' := by
  have H2 := Lib.hid ha2
  have H1 := Lib.hid ha
  clear ha ha2
  go_enter Try.func16, Try.ntmps16
  go_upto_region 1 with (fail)
  have hA : Blk (w.alloc (.cells (vc l) 24)) w.heap.size 24 (vc l) := Blk.new w 24 (vc l)
  have hbe : Below w.heap.size w (w.alloc (.cells (vc l) 24)) := by go_grown
  generalize w.alloc (.cells (vc l) 24) = w1 at *
  have hr1 := Bys.of_blk hA H1.out H2.out
  have HA := Lib.hid hA
  have HBE := Lib.hid hbe
  have HR := Lib.hid hr1
  have hws := hbe.size
  clear hA hbe hr1
  go_wp2_with fail
  go_loop [4] (fun i => ∃ (k : Nat), k ≤ 15 ∧ i = .int .i64 k ∧ upn l 15 = upn l k) (fun i => (intOf i).toNat)
  case atStart => exact ⟨15, by omega, rfl, rfl⟩
  case round =>
    obtain ⟨k, hk, rfl, hup⟩ := hrel
    have HUP := Lib.hid hup
    clear hup
    have c0 := (Blk.cell HA.out k).trans (vc_get l k (by rw [H1.out]; omega))
    have hx9 := getD_lt H2.out k
    obtain ⟨x, hx⟩ : ∃ x, l.getD k 0 = x := ⟨_, rfl⟩
    rw [hx] at c0 hx9
    have HX := Lib.hid hx
    clear hx
    by_cases h : 0 < k ∧ x = 0
    · obtain ⟨h0, rfl⟩ := h
      have HN := Lib.hid (HUP.out.trans (upn_step l k h0 HX.out))
      have hk1 : (1 : Int) ≤ (k : Int) := by omega
      go_wp2_with fail
      go_round
      case rel => exact ⟨k - 1, by omega, by congr 1; omega, HN.out⟩
      case measure => simp [intOf]; omega
    · have hn : upn l 15 = k := by
        rw [HUP.out]
        rcases Nat.eq_zero_or_pos k with h0 | h0
        · subst h0; rfl
        · exact upn_stop l k h0 (by rw [HX.out]; exact fun e => h ⟨h0, e⟩)
      have HN := Lib.hid hn
      clear hn HUP
      by_cases h128 : x = 128
      · subst h128
        obtain ⟨i0, hi, hz0, hz1, hz2⟩ := info_parts info5
        have hrd := (Reads.take HR.out.1 (m := k) (by omega)).alloc (Nat.le_refl _) (.cells #[] 5)
        have HRD := Lib.hid (show Reads (w1.alloc (.cells #[] 5)) w1.heap.size 1 (some ⟨w.heap.size, 0, none⟩) k (bv (l.take k)) by simpa [bv, List.map_take] using hrd)
        have HO := Lib.hid (made0 w1)
        clear hrd h c0
        have c0 := (Blk.cell HA.out k).trans (vc_get l k (by rw [H1.out]; omega))
        rw [HX.out] at c0
        have hsl := fun W => run_slice16 W ⟨w.heap.size, 0, none⟩ k hk
        by_cases h0 : 0 < k
        all_goals
          go_wp2_with (at_builtin; refine wpList_append_any _ rfl (.tmp 19) (.tmp 21) 27 rfl w1.heap.size 5 i0 (.int .u8 0) 1 1 Try.underlying27 hi hz0 hz1 hz2 rfl (by decide) (.slice (some ⟨w1.heap.size, 0, none⟩) 0 0) 0 [] rfl HO.out w1.heap.size (some ⟨w.heap.size, 0, none⟩) k 16 (bv (l.take k)) rfl HRD.out (bv_one _) (by unfold maxLen; omega) (by omega) (by simp) ?_)
          intro v2 w2 ho2 hg2 hor
          have hb2 : Below w1.heap.size w1 w2 := below_own ((Below.refl w1.heap.size w1).alloc (Nat.le_refl _) _) HO.out hg2 (Nat.le_refl _) (by simp)
          obtain ⟨A2, c2, rfl⟩ := own_form ho2
          have hbys : Bys w2 A2 k (l.take k) := Bys.of_own ho2 (fun x hx => H2.out x (List.mem_of_mem_take hx))
          have HBY := Lib.hid hbys
          have HBE2 := Lib.hid (HBE.out.trans (hb2.mono (by omega)))
          clear ho2 hg2 hor hb2 hbys hsl
          go_wp2_with fail
          go_ret2
          refine ⟨?_, HBE2.out⟩
          unfold Unp
          rw [HN.out, HX.out, if_pos rfl]
          exact ⟨_, _, rfl, HBY.out⟩
      · have hb2 : ((x : Int) != 128) = true := by simp; omega
        have hb3 : ((x : Int) == 128) = false := by simp; omega
        rcases Nat.eq_zero_or_pos k with h0 | h0
        · subst h0
          clear h
          go_wp2_with fail
          go_ret2
          refine ⟨?_, HBE.out⟩
          unfold Unp
          rw [HN.out, HX.out, if_neg h128]
          rfl
        · have hxz : ((x : Int) == 0) = false := by simp; exact fun e => h ⟨h0, by omega⟩
          clear h
          go_wp2_with fail
          go_ret2
          refine ⟨?_, HBE.out⟩
          unfold Unp
          rw [HN.out, HX.out, if_neg h128]
          rfl
end Go.Proofs.Ytdggedgailkceaa
