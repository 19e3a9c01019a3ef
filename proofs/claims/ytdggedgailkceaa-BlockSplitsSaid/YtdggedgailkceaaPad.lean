import Derived.Test.YtdggedgailkceaaSame
import Derived.Laws.CopyOwn
namespace Go.Proofs.Ytdggedgailkceaa
open Go.ChangeShapes Go.WideShapes Go.ChangeAt Go.RowKit
set_option linter.unusedVariables false
set_option linter.unusedSimpArgs false
theorem results_row_tmp {P : Program} {fn : Func} {p u : Tmp} {ty : TypeId} (h : fn.results = #[.cell p ty, .tmp u]) (tmps : Array Value) (w : World) (g : Nat) (t : TypeId) (cs : Array Value) (fr : Nat × Nat) (d : TypeDesc)
    (hp : tmps.getD p undef = .pointer (some ⟨g, 0, none⟩)) (hg : w.heap[g]? = some (.cells cs t fr))
    (hu : P.underlying ty = some d) (hd : (match d with | .struct _ | .array _ _ => true | _ => false) = true) (hi : (P.info? ty).map (·.size) = some cs.size) (v : Value) (hv : tmps.getD u undef = v) :
    (results fn tmps).run P w = .ok (.tuple #[.agg cs, v]) w := by
  have hp' : tmps[p]?.getD undef = .pointer (some ⟨g, 0, none⟩) := by simpa using hp
  have hv' : tmps[u]?.getD undef = v := by simpa using hv
  simp [results, h, hp', hv', asAddr, run_loadVar_row w g t ty cs fr d hg hu hd hi]
/-- The padded block of a rest. -/
def padL (bs : List Nat) : List Nat := (bs ++ zeros.drop bs.length).set bs.length 128
theorem zeros_len : zeros.length = 16 := by simp [zeros]
theorem padL_len (bs : List Nat) (h : bs.length < 16) : (padL bs).length = 16 := by simp [padL, zeros_len]; omega
theorem splice_vc (bs : List Nat) : (Go.splice (vc zeros).toList 0 (vc bs).toList).toArray = vc (bs ++ zeros.drop bs.length) := by
  simp [Go.splice, vc, List.map_drop]
set_option maxRecDepth 100000 in
theorem pad_any (A : Option Addr) (n c : Nat) (bs : List Nat) (w : World) (hb : Bys w A n bs) (hn : n < 16) :
    Calls Try.prog 15 #[.slice A n c] w fun e w' => e = .returned (.tuple #[.agg (vc (padL bs)), .bool true]) ∧ Below w.heap.size w w' := by
  have hl := hb.len
  have hq16 := padL_len bs (by omega)
  have hset : (vc (bs ++ zeros.drop bs.length)).setIfInBounds n (.int .u8 ((128 : Nat) : Int)) = vc (padL bs) := by rw [vc_set, ← hl]; rfl
  have hsz : (vc (bs ++ zeros.drop bs.length)).size = 16 := by rw [vc_size]; simp [zeros_len]; omega
  obtain ⟨q, hq⟩ : ∃ q, padL bs = q := ⟨_, rfl⟩
  rw [hq] at hset hq16 ⊢
  have HL := Lib.hid hl
  have HQ := Lib.hid hq16
  have HSET := Lib.hid hset
  have HSZ := Lib.hid hsz
  have HB := Lib.hid hb
  clear hl hq hset hb hq16 hsz
  have hgt : ¬ 16 ≤ n := by omega
  go_enter Try.func15, Try.ntmps15
  go_upto_region 4 with (fail)
  rw [zeros_vc]
  have hA : Blk ((w.alloc (.cells (vc zeros) 24)).alloc (.cells (vc zeros) 24)) w.heap.size 24 (vc zeros) := (Blk.new w 24 (vc zeros)).alloc _
  have hC : Blk ((w.alloc (.cells (vc zeros) 24)).alloc (.cells (vc zeros) 24)) (w.heap.size + 1) 24 (vc zeros) := by have := Blk.new (w.alloc (.cells (vc zeros) 24)) 24 (vc zeros); simpa using this
  have hbe : Below w.heap.size w ((w.alloc (.cells (vc zeros) 24)).alloc (.cells (vc zeros) 24)) := by go_grown
  have hs1 : ((w.alloc (.cells (vc zeros) 24)).alloc (.cells (vc zeros) 24)).heap.size = w.heap.size + 1 + 1 := by simp
  generalize (w.alloc (.cells (vc zeros) 24)).alloc (.cells (vc zeros) 24) = w1 at *
  have hb1 := HB.out.below hbe
  have HA := Lib.hid hA
  have HC := Lib.hid hC
  have HBE := Lib.hid (Below.refl (w.heap.size + 1) w1)
  have HBE1 := Lib.hid hbe
  have HB1 := Lib.hid hb1
  clear hA hC hbe hb1
  have G1 := Lib.hid (show w1.heap[w.heap.size + 1]? = some (.cells (vc zeros).toList.toArray 24 (0, 0)) by have := HC.out; unfold Blk at this; simpa using this)
  have G2 := Lib.hid (show (vc bs).toList.length = Nat.min n 16 by simp [vc, HL.out]; exact (Nat.min_eq_left (by omega)).symm)
  have G3 := Lib.hid (show 0 < (vc bs).toList.length → ∃ ad, A = some ad ∧ ∀ j v, (vc bs).toList[j]? = some v → w1.cell? (ad.add j) = some v from fun h => by
    obtain ⟨ad, hA, _, hc⟩ := HB1.out.1.2 (by simp [vc, HL.out] at h; exact h)
    exact ⟨ad, hA, fun j v hv => hc j v (by simpa [vc] using hv)⟩)
  have G4 := Lib.hid (show 0 + (vc bs).toList.length ≤ (vc zeros).toList.length by simp [vc, HL.out, zeros_len]; omega)
  have G5 := Lib.hid (show ∀ v ∈ (vc bs).toList, v.oneCell' = true by simp [vc, Value.oneCell'])
  go_wp2_with (with_reducible refine wpList_copy_splice rfl (.tmp 9) (.tmp 10) 27 27 rfl 5 Try.underlying27 (by kernel_rfl) (some ⟨w.heap.size + 1, 0, none⟩) A 16 16 n c rfl rfl (w.heap.size + 1) 0 (vc zeros).toList 24 G1.out (vc bs).toList G2.out (fun h => ⟨rfl, G3.out h⟩) G4.out G5.out (w.heap.size + 1) w1 HBE.out (by omega) ?_)
  intro w2 h2 hb2
  have hC2 : Blk w2 (w.heap.size + 1) 24 (vc (bs ++ zeros.drop bs.length)) := by rw [← splice_vc]; exact h2.out
  have hlen : (vc bs).toList.length = n := by simp [vc, HL.out]
  have hlen2 : (vc bs).size = n := by rw [vc_size, HL.out]
  have c0 := (Blk.cell hC2 n).trans (Array.getElem?_eq_getElem (by rw [HSZ.out]; omega))
  have f0 := Blk.frozen hC2 n
  have HC2 := Lib.hid hC2
  have HB2 := Lib.hid hb2
  have HA2 := Lib.hid (HA.out.below hb2 (by omega))
  clear h2 hb2 hC2 HC HA G1 G2 G3 G4 G5 HBE HB1
  generalize (vc (bs ++ zeros.drop bs.length))[n]'(by rw [HSZ.out]; omega) = v0 at c0
  go_upto_region 5 with (fail)
  have hC3 : Blk (w2.setCell ⟨w.heap.size + 1, n, none⟩ (.int .u8 128)) (w.heap.size + 1) 24 (vc q) := by
    have := Blk.set_ HC2.out n (.int .u8 128)
    rw [← HSET.out]; exact this
  have HC3 := Lib.hid hC3
  have HA3 := Lib.hid (show Blk (w2.setCell ⟨w.heap.size + 1, n, none⟩ (.int .u8 128)) w.heap.size 24 (vc zeros) from Blk.far HA2.out (by simp) _)
  have HBE3 := Lib.hid (show Below w.heap.size w (w2.setCell ⟨w.heap.size + 1, n, none⟩ (.int .u8 128)) from (HBE1.out.trans (HB2.out.mono (by omega))).setCell (by simp) _)
  clear hC3 c0 f0
  generalize w2.setCell ⟨w.heap.size + 1, n, none⟩ (.int .u8 128) = w3 at *
  go_wp2_with (first | (refine wpList_load_mid rfl 24 (.tmp 4) rfl (w.heap.size + 1) 0 rfl (vc q).toList (.array 16 5) (Blk.rangeAt HC3.out) Try.underlying24 rfl (info16 HQ.out) ?_) | (refine wpList_store_mid rfl 24 (.tmp 2) (.tmp 13) rfl w.heap.size 0 (vc q) rfl rfl (Blk.there HA3.out (by rw [vc_size, HQ.out]; rfl)) (info16' HQ.out) (vc_one _) ?_))
  have hB5 := Blk.setAll HA3.out (cs' := vc q) (by rw [vc_size, vc_size, HQ.out]; rfl)
  refine bodyPost_ret (results_row_tmp rfl _ _ w.heap.size 24 _ (0, 0) (.array 16 5) rfl hB5 Try.underlying24 rfl (info16' HQ.out) (.bool true) rfl) rfl ⟨rfl, below_setCells _ _ _ HBE3.out (by omega)⟩
set_option maxRecDepth 100000 in
theorem pad_big (A : Option Addr) (n c : Nat) (w : World) (hn : 16 ≤ n) :
    Calls Try.prog 15 #[.slice A n c] w fun e w' => e = .returned (.tuple #[.agg (vc zeros), .bool false]) ∧ Below w.heap.size w w' := by
  go_enter Try.func15, Try.ntmps15
  go_upto_region 3 with (fail)
  rw [zeros_vc]
  have hA : Blk ((w.alloc (.cells (vc zeros) 24)).alloc (.cells (vc zeros) 24)) w.heap.size 24 (vc zeros) := (Blk.new w 24 (vc zeros)).alloc _
  have hC : Blk ((w.alloc (.cells (vc zeros) 24)).alloc (.cells (vc zeros) 24)) (w.heap.size + 1) 24 (vc zeros) := by have := Blk.new (w.alloc (.cells (vc zeros) 24)) 24 (vc zeros); simpa using this
  have hbe : Below w.heap.size w ((w.alloc (.cells (vc zeros) 24)).alloc (.cells (vc zeros) 24)) := by go_grown
  generalize (w.alloc (.cells (vc zeros) 24)).alloc (.cells (vc zeros) 24) = w1 at *
  have HA := Lib.hid hA
  have HC := Lib.hid hC
  have HBE := Lib.hid hbe
  clear hA hC hbe
  have hz := zeros_len
  obtain ⟨q, hq⟩ : ∃ q, zeros = q := ⟨_, rfl⟩
  rw [hq] at HA HC hz
  have HQ := Lib.hid hz
  have HZ := Lib.hid hq
  clear hq hz
  go_wp2_with (first | (refine wpList_load_mid rfl 24 (.tmp 4) rfl (w.heap.size + 1) 0 rfl (vc q).toList (.array 16 5) (Blk.rangeAt HC.out) Try.underlying24 rfl (info16 HQ.out) ?_) | (refine wpList_store_mid rfl 24 (.tmp 2) (.tmp 8) rfl w.heap.size 0 (vc q) rfl rfl (Blk.there HA.out rfl) (info16' HQ.out) (vc_one _) ?_))
  have hB5 := Blk.setAll HA.out (cs' := vc q) rfl
  refine bodyPost_ret (results_row_tmp rfl _ _ w.heap.size 24 _ (0, 0) (.array 16 5) rfl hB5 Try.underlying24 rfl (info16' HQ.out) (.bool false) rfl) rfl ⟨by rw [HZ.out], below_setCells _ _ _ HBE.out (by omega)⟩
end Go.Proofs.Ytdggedgailkceaa
