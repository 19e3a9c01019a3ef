import Derived.Test.YthgbgkpchchicaaNet
namespace Go.Proofs.Ythgbgkpchchicaa
open Go.ChangeShapes Go.WideShapes Go.ChangeAt Go.RowKit
set_option linter.unusedVariables false
set_option linter.unusedSimpArgs false
theorem info5 : (Try.prog.info? 5).map (fun i => (i.zero, i.size, i.bytes)) = some (some (.int .u8 0), 1, 1) := by kernel_rfl
def bv (l : List Nat) : List Value := l.map fun (x : Nat) => Value.int .u8 x
theorem bv_one (l : List Nat) : ∀ u ∈ bv l, u.oneCell' = true := by simp [bv, Value.oneCell']
theorem made0 (w : World) : (w.alloc (.cells #[] 5)).ownsRow w.heap.size 5 1 (.slice (some ⟨w.heap.size, 0, none⟩) 0 0) 0 [] := World.ownsRow_made w #[] 0 (Nat.le_refl _) (by unfold maxLen; omega) rfl
theorem info_parts {t : TypeId} {z : Option Value} {s b : Nat} (h : (Try.prog.info? t).map (fun i => (i.zero, i.size, i.bytes)) = some (z, s, b)) : ∃ i, Try.prog.info? t = some i ∧ i.zero = z ∧ i.size = s ∧ i.bytes = b := by
  obtain ⟨i, hi, h2⟩ := Option.map_eq_some_iff.1 h
  injection h2 with h2 h3
  injection h3 with h3 h4
  exact ⟨i, hi, h2, h3, h4⟩
set_option maxRecDepth 100000 in
set_option maxHeartbeats 2000000 in
theorem clone_any (A : Option Addr) (n c : Nat) (bs : List Nat) (w : World) (hb : Bys w A n bs) (hn : n ≤ 1000000) :
    Calls Try.prog 25 #[.slice A n c] w fun e w' => ∃ A' c', e = .returned (.slice A' n c') ∧ w'.ownsRow w.heap.size 5 1 (.slice A' n c') n (bv bs) ∧ Below w.heap.size w w' := by
  cases A with
  | none =>
    have hl := hb.len
    obtain rfl : n = 0 := by
      rcases Nat.eq_zero_or_pos n with h0 | h0
      · exact h0
      · obtain ⟨_, _, _, e, _⟩ := hb.cell h0; cases e
    obtain rfl := List.length_eq_zero_iff.1 hl
    have he : ∀ W : World, (binOp .eql 26 (.slice none 0 c) (.slice none 0 0)).run Try.prog W = .ok (.bool true) W := fun _ => rfl
    clear hb hl hn
    go_enter Try.func25, Try.ntmps25
    go_wp2_with fail
    go_ret
    exact ⟨none, 0, rfl, World.ownsRow_nil _ _ _ _, Below.refl _ _⟩
  | some ad =>
    obtain ⟨i0, hi, hz0, hz1, hz2⟩ := info_parts info5
    have HR := Lib.hid (Reads.alloc hb.1 (Nat.le_refl _) (.cells #[] 5))
    have HO := Lib.hid (made0 w)
    have he : ∀ W : World, (binOp .eql 26 (.slice (some ad) n c) (.slice none 0 0)).run Try.prog W = .ok (.bool false) W := fun _ => rfl
    clear hb
    go_enter Try.func25, Try.ntmps25
    go_wp2_with (at_builtin; refine wpList_append_any _ rfl (.tmp 5) (.tmp 6) 26 rfl w.heap.size 5 i0 (.int .u8 0) 1 1 Try.underlying26 hi hz0 hz1 hz2 rfl (by decide) (.slice (some ⟨w.heap.size, 0, none⟩) 0 0) 0 [] rfl HO.out w.heap.size (some ad) n c (bv bs) rfl HR.out (bv_one _) (by unfold maxLen; omega) (by omega) (by simp) ?_)
    intro v2 w2 ho2 hg2 hor
    have ho2 : w2.ownsRow w.heap.size 5 1 v2 n (bv bs) := by simpa using ho2
    have hb2 : Below w.heap.size w w2 := below_own ((Below.refl w.heap.size w).alloc (Nat.le_refl _) _) HO.out hg2 (Nat.le_refl _) (by simp)
    obtain ⟨A2, c2, rfl⟩ := own_form ho2
    have HO2 := Lib.hid ho2
    have HB2 := Lib.hid hb2
    clear ho2 hg2 hor hb2 HR HO
    go_wp2_with fail
    go_ret
    exact ⟨A2, c2, rfl, HO2.out, HB2.out⟩
def P1 (g : Nat) : Value := .pointer (some ⟨g, 0, none⟩)
set_option maxRecDepth 100000 in
theorem len_any (g : Nat) (v : Value) (ds : List Dg) (last : Int) (B : Nat) (w : World) (h : Net B w g v ds last) : Calls Try.prog 13 #[P1 g] w fun e w' => e = .returned (.int .i64 ds.length) ∧ w = w' := by
  obtain ⟨A, c, rfl⟩ := own_form h.row
  have hc : w.cell? ⟨g, 0, none⟩ = some (.slice A ds.length c) := (h.blk.cell 0).trans rfl
  clear h
  unfold P1
  go_enter Try.func13, Try.ntmps13
  go_wp2_with fail
  go_ret
  exact ⟨rfl, rfl⟩
theorem len_nil (w : World) : Calls Try.prog 13 #[.pointer none] w fun e w' => e = .returned (.int .i64 0) ∧ w = w' := by
  go_enter Try.func13, Try.ntmps13
  go_wp2_with fail
  go_ret
  exact ⟨rfl, rfl⟩
set_option maxRecDepth 100000 in
theorem new_any (w : World) : Calls Try.prog 9 #[] w fun e w' => e = .returned (P1 w.heap.size) ∧ Net w.heap.size w' w.heap.size (.slice none 0 0) [] 0 ∧ Below w.heap.size w w' := by
  go_enter Try.func9, Try.ntmps9
  go_wp2_with fail
  go_ret
  exact ⟨rfl, ⟨Nat.le_refl _, by simp, Blk.new _ _ _, World.ownsRow_nil _ _ _ _, by simp⟩, (Below.refl _ _).alloc (Nat.le_refl _) _⟩
end Go.Proofs.Ythgbgkpchchicaa
