import Derived.Test.YtdggedgailkceaaPad
import Derived.Laws.Cover3
namespace Go.Proofs.Ytdggedgailkceaa
open Go.ChangeShapes Go.WideShapes Go.ChangeAt Go.RowKit
set_option linter.unusedVariables false
set_option linter.unusedSimpArgs false
theorem info5 : (Try.prog.info? 5).map (fun i => (i.zero, i.size, i.bytes)) = some (some (.int .u8 0), 1, 1) := by kernel_rfl
def bv (l : List Nat) : List Value := l.map fun x => Value.int .u8 (x : Nat)
theorem bv_len (l : List Nat) : (bv l).length = l.length := by simp [bv]
theorem bv_app (a b : List Nat) : bv (a ++ b) = bv a ++ bv b := by simp [bv]
theorem bv_one (l : List Nat) : ∀ u ∈ bv l, u.oneCell' = true := by simp [bv, Value.oneCell']
theorem made0 (w : World) : (w.alloc (.cells #[] 5)).ownsRow w.heap.size 5 1 (.slice (some ⟨w.heap.size, 0, none⟩) 0 0) 0 [] := World.ownsRow_made w #[] 0 (Nat.le_refl _) (by unfold maxLen; omega) rfl
def rpadTo (bs : List Nat) (k : Nat) : List Nat := bs ++ 128 :: List.replicate k 0
theorem rpadTo_next (bs : List Nat) (k : Nat) : bv (rpadTo bs (k + 1)) = bv (rpadTo bs k) ++ [.int .u8 0] := by simp [bv, rpadTo, List.replicate_succ']
theorem rpadTo_len (bs : List Nat) (k : Nat) : (rpadTo bs k).length = bs.length + 1 + k := by simp [rpadTo]; omega
set_option maxRecDepth 100000 in
theorem rpad_any (A : Option Addr) (n c : Nat) (bs : List Nat) (w : World) (hb : Bys w A n bs) (hn : n < 16) :
    Calls Try.prog 17 #[.slice A n c] w fun e w' => e = .returned (.agg (vc (rpadTo bs (15 - n)))) ∧ Below w.heap.size w w' := by
  have HL := Lib.hid hb.len
  obtain ⟨i0, hi, hz0, hz1, hz2⟩ := info_parts info5
  go_enter Try.func17, Try.ntmps17
  go_upto_region 1 with (fail)
  rw [zeros_vc]
  have hA : Blk (w.alloc (.cells (vc zeros) 24)) w.heap.size 24 (vc zeros) := Blk.new w 24 (vc zeros)
  have hbe : Below w.heap.size w (w.alloc (.cells (vc zeros) 24)) := by go_grown
  have hs1 : w.heap.size < (w.alloc (.cells (vc zeros) 24)).heap.size := by simp
  generalize w.alloc (.cells (vc zeros) 24) = w1 at *
  have hb1 := hb.below hbe
  have HA := Lib.hid hA
  have HBE := Lib.hid hbe
  have HR := Lib.hid (Reads.alloc hb1.1 (Nat.le_refl _) (.cells #[] 5))
  have HO := Lib.hid (made0 w1)
  clear hA hbe hb1 hb
  go_wp2_with (at_builtin; refine wpList_append_any _ rfl (.tmp 4) (.tmp 5) 27 rfl w1.heap.size 5 i0 (.int .u8 0) 1 1 Try.underlying27 hi hz0 hz1 hz2 rfl (by decide) (.slice (some ⟨w1.heap.size, 0, none⟩) 0 0) 0 [] rfl HO.out w1.heap.size A n c (bv bs) rfl HR.out (bv_one _) (by unfold maxLen; omega) (by omega) (by simp) ?_)
  intro v2 w2 ho2 hg2 hor
  have ho2 : w2.ownsRow w1.heap.size 5 1 v2 n (bv bs) := by simpa using ho2
  have hb2 : Below w1.heap.size w1 w2 := below_own ((Below.refl w1.heap.size w1).alloc (Nat.le_refl _) _) HO.out hg2 (Nat.le_refl _) (by simp)
  have hs2 := hb2.size
  obtain ⟨A2, c2, rfl⟩ := own_form ho2
  have HO2 := Lib.hid ho2
  have HBE2 := Lib.hid (HBE.out.trans (hb2.mono (by omega)))
  have HB2 := Lib.hid hb2
  clear ho2 hg2 hor hb2 HBE HR HO
  go_wp2_with (at_builtin; refine wpList_append_own _ rfl (.tmp 6) (.tmp 7) 27 rfl w1.heap.size 5 i0 (.int .u8 0) 1 1 Try.underlying27 hi hz0 hz1 hz2 rfl (by decide) (.slice A2 n c2) n (bv bs) rfl (HO2.out.alloc _) ⟨w2.heap.size, 0, none⟩ 1 1 [.int .u8 128] rfl rfl (new_one _ _ _) (by simp [Value.oneCell']) (by unfold maxLen; omega) (by omega) (by simp; omega) ?_; intro v3 w3 ho3 hg3 hx3; clear hx3)
  have ho4 : w3.ownsRow w1.heap.size 5 1 v3 (n + 1 + 0) (bv (rpadTo bs 0)) := by simpa [rpadTo, bv] using ho3
  have hbe3 := below_own (HBE2.out.alloc (by omega) _) (HO2.out.alloc _) hg3 (by omega) (by simp; omega)
  have hbe3' := below_own (HB2.out.alloc (by omega) _) (HO2.out.alloc _) hg3 (by omega) (by simp; omega)
  have HA3 := Lib.hid (HA.out.below hbe3' HA.out.lt)
  obtain ⟨A3, c3, rfl⟩ := own_form ho3
  have hs3 := hbe3'.size
  have HO3 := Lib.hid ho4
  have HBE3 := Lib.hid hbe3
  clear ho3 ho4 hg3 hbe3 hbe3' HA HO2 HBE2 HB2
  go_wp2_with fail
  go_loopw [3] (fun v wr => ∃ (k : Nat), n + 1 + k ≤ 16 ∧ wr.ownsRow w1.heap.size 5 1 v (n + 1 + k) (bv (rpadTo bs k)) ∧ Blk wr w.heap.size 24 (vc zeros) ∧ Below w.heap.size w wr ∧ w1.heap.size ≤ wr.heap.size) (fun v _ => 16 - (match v with | .slice _ n _ => n | _ => 0))
  case atStart => exact ⟨0, by omega, HO3.out, HA3.out, HBE3.out, hs3⟩
  case round =>
    clear HO3 HA3 HBE3
    obtain ⟨k, hk, ho, hA, hbe, hws⟩ := hrel
    obtain ⟨A4, c4, rfl⟩ := own_form ho
    have HO := Lib.hid ho
    have HA := Lib.hid hA
    have HBE := Lib.hid hbe
    clear ho hA hbe
    by_cases hlt : n + 1 + k < 16
    · go_wp2_with (at_builtin; refine wpList_append_own _ rfl (.tmp 12) (.tmp 13) 27 rfl w1.heap.size 5 i0 (.int .u8 0) 1 1 Try.underlying27 hi hz0 hz1 hz2 rfl (by decide) (.slice A4 (n + 1 + k) c4) (n + 1 + k) (bv (rpadTo bs k)) rfl (HO.out.alloc _) ⟨wr.heap.size, 0, none⟩ 1 1 [.int .u8 0] rfl rfl (new_one _ _ _) (by simp [Value.oneCell']) (by unfold maxLen; omega) (by omega) (by simp; omega) ?_; intro v5 w5 ho5 hg5 hx5; clear hx5)
      have ho6 : w5.ownsRow w1.heap.size 5 1 v5 (n + 1 + (k + 1)) (bv (rpadTo bs (k + 1))) := by rw [rpadTo_next, ← Nat.add_assoc]; exact ho5
      have hbe5 := below_own (HBE.out.alloc (by omega) _) (HO.out.alloc _) hg5 (by omega) (by simp; omega)
      have hA5 : Blk w5 w.heap.size 24 (vc zeros) := Blk.grown (HA.out.alloc _) hg5 (own_ne HO.out hs1)
      have hs5 := hg5.size
      simp at hs5
      obtain ⟨A5, c5, rfl⟩ := own_form ho5
      have HO6 := Lib.hid ho6
      have HA6 := Lib.hid hA5
      have HBE6 := Lib.hid hbe5
      clear ho5 ho6 hg5 hbe5 hA5
      go_wp2_with fail
      go_roundw
      case rel => exact ⟨k + 1, by omega, by simpa [Nat.add_assoc] using HO6.out, HA6.out, HBE6.out, by omega⟩
      case measure => simp; omega
    · obtain rfl : k = 15 - n := by omega
      obtain ⟨g, cap, hv, hbg, hgl⟩ := HO.out.form (by omega)
      simp only [Value.slice.injEq] at hv
      obtain ⟨rfl, -, rfl⟩ := hv
      obtain ⟨cur, hcur, hcs, htk, hnc, -, -⟩ := own_blk HO.out
      have hl16 : (rpadTo bs (15 - n)).length = 16 := by rw [rpadTo_len, HL.out]; omega
      have hrange : wr.rangeAt g (0 + 0) (vc (rpadTo bs (15 - n))).toList := by
        intro j v hv
        have := own_at HO.out (j := j) (u := v) (by simpa [vc, bv] using hv)
        simpa using this
      obtain ⟨q, hq⟩ : ∃ q, rpadTo bs (15 - n) = q := ⟨_, rfl⟩
      rw [hq] at hl16 hrange
      have h16 : n + 1 + (15 - n) = 16 := by omega
      have harr : ∀ W : World, (Instr.arrayAt 24 (.slice (some ⟨g, 0, none⟩) 16 c4)).run Try.prog W = .ok (.pointer (some ⟨g, 0, none⟩)) W := fun W => run_arrayAt W 24 5 16 _ 16 _ Try.underlying24 (by omega)
      have HQ := Lib.hid hq
      have HQ16 := Lib.hid hl16
      have HRG := Lib.hid hrange
      clear hcur hcs htk hnc hq hl16 hrange hbg hgl
      go_wp2_with (first | (refine wpList_load_mid rfl 24 (.tmp 16) rfl g 0 rfl (vc q).toList (.array 16 5) HRG.out Try.underlying24 rfl (info16 HQ16.out) ?_) | (refine wpList_store_mid rfl 24 (.tmp 2) (.tmp 17) rfl w.heap.size 0 (vc q) rfl rfl (Blk.there HA.out (by rw [vc_size, HQ16.out]; rfl)) (info16' HQ16.out) (vc_one _) ?_))
      have hB5 := Blk.setAll HA.out (cs' := vc q) (by rw [vc_size, vc_size, HQ16.out]; rfl)
      refine bodyPost_ret (results_cell_row rfl _ _ w.heap.size 24 _ (0, 0) (.array 16 5) rfl hB5 Try.underlying24 rfl (info16' HQ16.out)) rfl ⟨by rw [HQ.out], below_setCells _ _ _ HBE.out (by omega)⟩
end Go.Proofs.Ytdggedgailkceaa
