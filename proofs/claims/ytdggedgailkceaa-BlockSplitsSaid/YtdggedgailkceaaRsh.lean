import Derived.Test.YtdggedgailkceaaRdb
import Derived.Laws.Cover3
namespace Go.Proofs.Ytdggedgailkceaa
open Go.ChangeShapes Go.WideShapes Go.ChangeAt Go.RowKit
set_option linter.unusedVariables false
set_option linter.unusedSimpArgs false
theorem Reads.take {w : World} {B n m : Nat} {A : Option Addr} {xs : List Value} (h : Reads w B 1 A n xs) (hm : m ≤ n) : Reads w B 1 A m (xs.take m) := by
  have hl := h.1
  refine ⟨by simp; omega, fun h0 => ?_⟩
  obtain ⟨ad, rfl, hb, hc⟩ := h.2 (by omega)
  refine ⟨ad, rfl, hb, fun j u hu => hc j u ?_⟩
  have hj := (List.getElem?_eq_some_iff.1 hu).1
  simp at hj
  rw [List.getElem?_take_of_lt (by omega)] at hu; exact hu
theorem Reads.off {w : World} {base g cap n k : Nat} {e : TypeId} {xs : List Value} (h : w.ownsRow base e 1 (.slice (some ⟨g, 0, none⟩) n cap) n xs) (hk : k ≤ n) : Reads w w.heap.size 1 (some ⟨g, k, none⟩) (n - k) (xs.drop k) := by
  have hl := h.1
  refine ⟨by simp; omega, fun h0 => ⟨_, rfl, (Blk.lt (own_blk h).choose_spec.1), fun j u hu => ?_⟩⟩
  rw [List.getElem?_drop] at hu
  rw [add_none]; exact own_at h hu
def rsh (l : List Nat) (m : Nat) : List Nat := ofL (((bitsTo l 192).drop m).take 128)
set_option maxRecDepth 100000 in
theorem rshift_any (l : List Nat) (m : Nat) (w : World) (ha : l.length = 24) (ha2 : ∀ x ∈ l, x < 256) (hm : m ≤ 64) :
    Calls Try.prog 10 #[.agg (vc l), .int .i64 (m : Nat)] w fun e w' => e = .returned (.agg (vc (rsh l m))) ∧ Below w.heap.size w w' := by
  have H2 := Lib.hid ha2
  have H1 := Lib.hid ha
  clear ha ha2
  go_enter Try.func10, Try.ntmps10
  go_upto_region 1 with (fail)
  rw [zeros_vc]
  have hA : Blk ((w.alloc (.cells (vc l) 22)).alloc (.cells (vc zeros) 24)) w.heap.size 22 (vc l) := (Blk.new w 22 (vc l)).alloc _
  have hB : Blk ((w.alloc (.cells (vc l) 22)).alloc (.cells (vc zeros) 24)) (w.heap.size + 1) 24 (vc zeros) := by have := Blk.new (w.alloc (.cells (vc l) 22)) 24 (vc zeros); simpa using this
  have hs1 : ((w.alloc (.cells (vc l) 22)).alloc (.cells (vc zeros) 24)).heap.size = w.heap.size + 1 + 1 := by simp
  have hb : Below w.heap.size w ((w.alloc (.cells (vc l) 22)).alloc (.cells (vc zeros) 24)) := by go_grown
  obtain ⟨w1, hw1⟩ : ∃ w1, (w.alloc (.cells (vc l) 22)).alloc (.cells (vc zeros) 24) = w1 := ⟨_, rfl⟩
  rw [hw1] at hA hB hs1 hb ⊢
  clear hw1
  have HA := Lib.hid hA
  have HB := Lib.hid hB
  have HBE := Lib.hid hb
  clear hA hB hb
  go_wp2_with fail
  refine (bits_any _ 24 24 l _ (Bys.of_blk HA.out H1.out H2.out) (by omega)).mono ?_
  rintro e w2 ⟨⟨v, rfl, ho⟩, hb2⟩
  have ho : w2.ownsRow w1.heap.size 3 1 v 192 (iv (bitsTo l 192)) := ho
  obtain ⟨g, cap, rfl, hbg, hgl⟩ := ho.form (by omega)
  obtain ⟨cur, hcur, hcs, htk, hnc, hbg, hmx⟩ := own_blk ho
  have hs2 := hb2.size
  have hcap : 192 ≤ cap := hnc
  have hr : Reads w2 w2.heap.size 1 (some ⟨g, m, none⟩) 128 (iv (((bitsTo l 192).drop m).take 128)) := by
    have := (Reads.off ho (k := m) (by omega)).take (m := 128) (by omega)
    simpa [iv, List.map_take, List.map_drop] using this
  have HR := Lib.hid hr
  have HB2 := Lib.hid (HB.out.below hb2 HB.out.lt)
  have HBE2 := Lib.hid (HBE.out.trans (hb2.mono (by omega)))
  rw [hs1] at hs2
  clear ho hcur hcs htk hnc hbg hmx HB HBE HA hr hs1
  go_wp2_with fail
  refine (of_any _ 128 _ w2.heap.size _ _ HR.out (Nat.le_refl _) (by omega) (by
    intro x hx
    exact bitsTo_le l 192 x (List.mem_of_mem_drop (List.mem_of_mem_take hx)))).mono ?_
  rintro e w4 ⟨rfl, hb4⟩
  have hq16 : (rsh l m).length = 16 := by simp [rsh, ofL]
  rw [show ofL (((bitsTo l 192).drop m).take 128) = rsh l m from rfl]
  obtain ⟨q, hq⟩ : ∃ q, rsh l m = q := ⟨_, rfl⟩
  rw [hq] at hq16 ⊢
  have HQ := Lib.hid hq
  have HL := Lib.hid hq16
  have hB4 := HB2.out.below hb4 (by omega)
  have hBE4 := HBE2.out.trans (hb4.mono (by omega))
  clear hq hq16 hb4 HB2 HBE2 HR
  have HB4 := Lib.hid hB4
  have HBE4 := Lib.hid hBE4
  clear hB4 hBE4
  go_wp2_with (refine wpList_store_mid rfl 24 (.tmp 4) (.tmp 13) rfl (w.heap.size + 1) 0 (vc q) rfl rfl (Blk.there HB4.out (by rw [vc_size, HL.out]; rfl)) (info16' HL.out) (vc_one _) ?_)
  have hB5 := Blk.setAll HB4.out (cs' := vc q) (by rw [vc_size, vc_size, HL.out]; rfl)
  refine bodyPost_ret (results_cell_row rfl _ _ (w.heap.size + 1) 24 _ (0, 0) (.array 16 5) rfl hB5 Try.underlying24 rfl (info16' HL.out)) rfl ⟨by rw [HQ.out], below_setCells _ _ _ HBE4.out (by omega)⟩
/-- A stretch of bytes that is read. -/
theorem Bys.cut16 {w : World} {A : Option Addr} {n k : Nat} {bs : List Nat} (h : Bys w A n bs) (hk : k + 16 ≤ n) : ∃ b o, A = some ⟨b, o, none⟩ ∧ b < w.heap.size ∧ w.rangeAt b (o + k) (vc ((bs.drop k).take 16)).toList := by
  obtain ⟨b, o, rfl, hb, hc⟩ := h.1.row (by omega)
  refine ⟨b, o, rfl, hb, fun j v hv => ?_⟩
  have hj := (List.getElem?_eq_some_iff.1 hv).1
  simp [vc] at hj
  have := hc (k + j) v (by
    simp only [vc, List.getElem?_map, List.map_take, List.map_drop] at hv ⊢
    rw [List.getElem?_take_of_lt (by omega), List.getElem?_drop] at hv
    simpa using hv)
  rw [Nat.add_assoc]; exact this
def part (bs : List Nat) (k : Nat) : List Nat := (bs.drop (16 * k)).take 16
theorem part_len (bs : List Nat) (k : Nat) (h : 16 * k + 16 ≤ bs.length) : (part bs k).length = 16 := by simp [part]; omega
set_option maxRecDepth 100000 in
theorem part_any (A : Option Addr) (n c k : Nat) (bs : List Nat) (w : World) (hb : Bys w A n bs) (hk : 16 * k + 16 ≤ n) (hnc : n ≤ c) (hn : n ≤ 100000) :
    Calls Try.prog 13 #[.slice A n c, .int .i64 (k : Nat)] w fun e w' => e = .returned (.agg (vc (part bs k))) ∧ Below w.heap.size w w' := by
  have hl16 : (part bs k).length = 16 := part_len bs k (by rw [hb.len]; exact hk)
  obtain ⟨b, o, rfl, hbl, hr⟩ := hb.cut16 (k := 16 * k) hk
  have hr : w.rangeAt b (o + 16 * k) (vc (part bs k)).toList := hr
  obtain ⟨q, hq⟩ : ∃ q, part bs k = q := ⟨_, rfl⟩
  rw [hq] at hr hl16 ⊢
  have HR := Lib.hid hr
  have HL := Lib.hid hl16
  clear hq hr hl16 hb
  have harr : ∀ W : World, (Instr.arrayAt 24 (.slice (some ⟨b, o + 16 * k, none⟩) 16 (c - 16 * k))).run Try.prog W = .ok (.pointer (some ⟨b, o + 16 * k, none⟩)) W := fun W => run_arrayAt W 24 5 16 _ 16 _ Try.underlying24 (by omega)
  have HN := Lib.hid (Blk.new w 24 (vc zeros))
  have HBE := Lib.hid ((Below.refl w.heap.size w).alloc (Nat.le_refl _) (.cells (vc zeros) 24))
  have HR1 : Hid ((w.alloc (.cells (vc zeros) 24)).rangeAt b (o + 16 * k) (vc q).toList) := Lib.hid (fun j v hv => (World.cell?_alloc_lt w _ ⟨b, o + 16 * k + j, none⟩ hbl).trans (HR.out j v hv))
  clear HR
  go_enter Try.func13, Try.ntmps13
  go_upto_region 1 with (fail)
  rw [zeros_vc]
  generalize w.alloc (.cells (vc zeros) 24) = w1 at *
  go_wp2_with (first | (refine wpList_load_mid rfl 24 (.tmp 12) rfl b (o + 16 * k) rfl (vc q).toList (.array 16 5) HR1.out Try.underlying24 rfl (info16 HL.out) ?_) | (refine wpList_store_mid rfl 24 (.tmp 4) (.tmp 13) rfl w.heap.size 0 (vc q) rfl rfl (Blk.there HN.out (by rw [vc_size, HL.out]; rfl)) (info16' HL.out) (vc_one _) ?_))
  have hB5 := Blk.setAll HN.out (cs' := vc q) (by rw [vc_size, vc_size, HL.out]; rfl)
  refine bodyPost_ret (results_cell_row rfl _ _ w.heap.size 24 _ (0, 0) (.array 16 5) rfl hB5 Try.underlying24 rfl (info16' HL.out)) rfl ⟨rfl, below_setCells _ _ _ HBE.out (by omega)⟩
end Go.Proofs.Ytdggedgailkceaa
