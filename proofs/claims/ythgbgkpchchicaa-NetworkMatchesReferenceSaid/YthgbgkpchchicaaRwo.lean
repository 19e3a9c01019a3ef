import Derived.Test.YthgbgkpchchicaaPst
import Derived.Test.YthgbgkpchchicaaTke
namespace Go.Proofs.Ythgbgkpchchicaa
open Go.ChangeShapes Go.WideShapes Go.ChangeAt Go.RowKit
set_option linter.unusedVariables false
set_option linter.unusedSimpArgs false
theorem info49 : (Try.prog.info? 49).map (fun i => (i.zero, i.size, i.bytes)) = some (some (.agg #[.int .i64 0, .string ByteArray.empty, .string ByteArray.empty, .slice none 0 0]), 4, 64) := by kernel_rfl
theorem made49 (w : World) : (w.alloc (.cells #[] 49)).ownsRow w.heap.size 49 4 (.slice (some ⟨w.heap.size, 0, none⟩) 0 0) 0 [] := World.ownsRow_made w #[] 0 (Nat.le_refl _) (by unfold maxLen; omega) rfl
/-- The row of the reference. -/
def RRow (w : World) (v : Value) (ms : List Dg) : Prop := w.ownsRow 0 49 4 v ms.length (dgCells ms)
theorem RRow.below {w w' : World} {v : Value} {ms : List Dg} (h : RRow w v ms) (hb : Below w.heap.size w w') : RRow w' v ms := own_below h hb
/-- A row that is new. -/
def RNew (w w' : World) (v : Value) (ms : List Dg) : Prop := w'.ownsRow w.heap.size 49 4 v ms.length (dgCells ms)
theorem RNew.row {w w' : World} {v : Value} {ms : List Dg} (h : RNew w w' v ms) : RRow w' v ms := ownsRow_more h (Nat.zero_le _)
theorem reads_take {w : World} {B size n k : Nat} {A : Option Addr} {xs : List Value} (h : Reads w B size A n xs) (hk : k ≤ n) : Reads w B size A k (xs.take (k * size)) := by
  refine ⟨by rw [List.length_take, h.1, Nat.min_eq_left (Nat.mul_le_mul_right _ hk)], fun h0 => ?_⟩
  obtain ⟨ad, e, hb, hc⟩ := h.2 (by omega)
  refine ⟨ad, e, hb, fun j u hu => hc j u ?_⟩
  rw [List.getElem?_take] at hu
  split at hu
  · exact hu
  · cases hu
theorem dg_one_take (ms : List Dg) (k : Nat) : ∀ u ∈ (dgCells ms).take k, u.oneCell' = true := fun u hu => dg_one ms u (List.mem_of_mem_take hu)
theorem dg_one_drop (ms : List Dg) (k : Nat) : ∀ u ∈ (dgCells ms).drop k, u.oneCell' = true := fun u hu => dg_one ms u (List.mem_of_mem_drop hu)
set_option maxRecDepth 100000 in
set_option maxHeartbeats 4000000 in
theorem without_any (v : Value) (ms : List Dg) (i : Nat) (w : World) (h : RRow w v ms) (hi : i < ms.length) (hlen : ms.length ≤ 1000) :
    Calls Try.prog 29 #[v, .int .i64 i] w fun e w' => ∃ v', e = .returned v' ∧ RNew w w' v' (ms.eraseIdx i) ∧ Below w.heap.size w w' := by
  obtain ⟨i0, ii, hz0, hz1, hz2⟩ := info_parts info49
  unfold RRow at h
  rcases h.2 with ⟨_, h0⟩ | ⟨r, c, cur, rfl, _, hh, hnc, hcm, _⟩
  · omega
  have hlt : r < w.heap.size := (h.lt r rfl).2
  have hR : Reads w w.heap.size 4 (some ⟨r, 0, none⟩) ms.length (dgCells ms) := Reads.of_own h
  obtain ⟨S, hS⟩ : ∃ S, (if c = i + 1 then some (⟨r, 0, none⟩ : Addr) else some ⟨r, (i + 1) * 4, none⟩) = some S := by split <;> exact ⟨_, rfl⟩
  have hR2 : Reads w w.heap.size 4 (some S) (ms.length - (i + 1)) ((dgCells ms).drop ((i + 1) * 4)) := by
    have := hR.cut (k := i + 1) (cap := c) (by omega) hnc
    have e : (if c = i + 1 then (some ⟨r, 0, none⟩ : Option Addr) else (some (⟨r, 0, none⟩ : Addr)).map (·.add ((i + 1) * 4))) = some S := by
      rw [← hS]
      split
      · rfl
      · simp [add_none]
    rw [e] at this
    exact this
  have HR1 := Lib.hid (Reads.alloc (reads_take hR (show i ≤ ms.length by omega)) (Nat.le_refl _) (.cells #[] 49))
  have HR2 := Lib.hid hR2
  have HO := Lib.hid (made49 w)
  have q1 : ¬ c < i := by omega
  have q2 : ¬ (i : Int) + 1 < 0 := by omega
  have q3 : ¬ (ms.length : Int) < (i : Int) + 1 := by omega
  have k1 : i + 1 ≤ ms.length := by omega
  unfold maxLen at hcm
  have hn := Lib.hid hlen
  clear h hh hR hR2
  go_enter Try.func29, Try.ntmps29
  go_wp2_with (at_builtin; refine wpList_append_any _ rfl (.tmp 6) (.tmp 9) 42 rfl w.heap.size 49 i0 _ 4 64 Try.underlying42 ii hz0 hz1 hz2 rfl (by decide) (.slice (some ⟨w.heap.size, 0, none⟩) 0 0) 0 [] rfl HO.out w.heap.size (some ⟨r, 0, none⟩) i c _ rfl HR1.out (dg_one_take _ _) (by unfold maxLen; omega) (by omega) (by simp) ?_)
  intro v2 w2 ho2 hg2 _
  have ho2 : w2.ownsRow w.heap.size 49 4 v2 i ((dgCells ms).take (i * 4)) := by simpa using ho2
  have hb2 : Below w.heap.size w w2 := below_own ((Below.refl w.heap.size w).alloc (Nat.le_refl _) _) HO.out hg2 (Nat.le_refl _) (by simp)
  obtain ⟨A2, c2, rfl⟩ := own_form ho2
  have HO2 := Lib.hid ho2
  have HB2 := Lib.hid hb2
  have HR3 := Lib.hid (HR2.out.below hb2)
  clear ho2 hg2 hb2 HR1 HO HR2
  go_wp2_with (at_builtin; refine wpList_append_any _ rfl (.tmp 11) (.tmp 15) 42 rfl w.heap.size 49 i0 _ 4 64 Try.underlying42 ii hz0 hz1 hz2 rfl (by decide) (.slice A2 i c2) i _ rfl HO2.out w.heap.size (some S) (ms.length - (i + 1)) (c - (i + 1)) _ rfl HR3.out (dg_one_drop _ _) (by unfold maxLen; omega) (by omega) HB2.out.size ?_)
  intro v3 w3 ho3 hg3 _
  have ho4 : RNew w w3 v3 (ms.eraseIdx i) := by
    unfold RNew
    rw [List.length_eraseIdx_of_lt hi, dgCells_erase]
    rw [show i + (ms.length - (i + 1)) = ms.length - 1 by omega] at ho3
    exact ho3
  have hb3 : Below w.heap.size w w3 := below_own HB2.out HO2.out hg3 (Nat.le_refl _) HB2.out.size
  obtain ⟨A3, c3, rfl⟩ := own_form ho3
  have HO4 := Lib.hid ho4
  have HB3 := Lib.hid hb3
  clear ho3 hg3 hb3 HO2 HB2 ho4 HR3
  go_wp2_with fail
  go_ret
  exact ⟨_, rfl, HO4.out, HB3.out⟩
end Go.Proofs.Ythgbgkpchchicaa
