import Derived.Test.YtgnegllehcpdpaaDoorNub
namespace Go.Proofs.YtgnegllehcpdpaaDoor
open Go.ChangeShapes Go.WideShapes Go.ChangeAt Go.RowKit
set_option linter.unusedVariables false
set_option linter.unusedSimpArgs false
def nmL : List ByteArray := [⟨#[]⟩, ⟨#[115, 104, 111, 114, 116]⟩, ⟨#[111, 118, 101, 114, 115, 105, 122, 101]⟩, ⟨#[97, 117, 116, 104]⟩, ⟨#[107, 101, 121]⟩, ⟨#[110, 111, 110, 99, 101]⟩, ⟨#[101, 120, 104, 97, 117, 115, 116, 101, 100]⟩, ⟨#[99, 108, 111, 115, 101, 100]⟩, ⟨#[100, 105, 114, 101, 99, 116, 105, 111, 110]⟩, ⟨#[114, 101, 112, 108, 97, 121]⟩, ⟨#[114, 97, 110, 103, 101]⟩, ⟨#[115, 121, 110, 116, 97, 120]⟩, ⟨#[101, 109, 112, 116, 121]⟩]
def nm (n : Nat) : ByteArray := nmL.getD n ByteArray.empty
def nameS (c : Int) : ByteArray := if 0 ≤ c ∧ c < 13 then nm c.toNat else ByteArray.empty
/-- The table of names is laid. -/
def Nms (w : World) : Prop := 2 < w.heap.size ∧ ∀ n, n < 13 → w.cell? ⟨2, n, none⟩ = some (.string (nm n))
theorem Nms.below {w w' : World} (h : Nms w) (hb : Below w.heap.size w w') : Nms w' := ⟨Nat.lt_of_lt_of_le h.1 hb.size, fun n hn => (hb.cell (p := ⟨2, n, none⟩) h.1).trans (h.2 n hn)⟩
theorem Nms.drewN {w : World} (h : Nms w) (k : Nat) : Nms (w.drewN k) := h
theorem Nms.drew {w : World} (h : Nms w) : Nms w.drew := h
set_option maxRecDepth 100000 in
set_option maxHeartbeats 4000000 in
theorem name_any (c : Int) (w : World) (hN : Nms w) : Calls Tryd.prog 24 #[.int .i64 c] w fun e w' => e = .returned (.string (nameS c)) ∧ w = w' := by
  by_cases h : 0 ≤ c ∧ c < 13
  · obtain ⟨n, rfl⟩ : ∃ n : Nat, c = (n : Int) := ⟨c.toNat, by omega⟩
    have hc := hN.2 n (by omega)
    have he : nameS (n : Int) = nm n := by unfold nameS; rw [if_pos h]; simp
    rw [he]
    obtain ⟨h1, h2⟩ := h
    generalize nm n = v at *
    clear he hN
    go_enter Tryd.func24, Tryd.ntmps24
    go_wp2_with fail
    go_ret
    exact ⟨rfl, rfl⟩
  · have he : nameS c = ByteArray.empty := by unfold nameS; rw [if_neg h]
    rw [he]
    have h' : c < 0 ∨ 13 ≤ c := by omega
    clear he hN h
    rcases h' with h' | h'
    all_goals (go_enter Tryd.func24, Tryd.ntmps24)
    all_goals (go_wp2_with fail)
    all_goals go_ret
    all_goals (exact ⟨rfl, rfl⟩)
set_option maxRecDepth 100000 in
set_option maxHeartbeats 8000000 in
theorem rname_any (c : Int) (w : World) : Calls Tryd.prog 28 #[.int .i64 c] w fun e w' => e = .returned (.string (nameS c)) ∧ Below w.heap.size w w' := by
  by_cases h : c < 1 ∨ 12 < c
  · have he : nameS c = ByteArray.empty := by
      unfold nameS
      by_cases h0 : 0 ≤ c ∧ c < 13
      · obtain rfl : c = 0 := by omega
        rfl
      · rw [if_neg h0]
    rw [he]
    clear he
    rcases h with h' | h'
    all_goals (go_enter Tryd.func28, Tryd.ntmps28)
    all_goals (go_wp2_with fail)
    all_goals go_ret
    all_goals (exact ⟨rfl, Below.refl _ _⟩)
  · have h' : c = 1 ∨ c = 2 ∨ c = 3 ∨ c = 4 ∨ c = 5 ∨ c = 6 ∨ c = 7 ∨ c = 8 ∨ c = 9 ∨ c = 10 ∨ c = 11 ∨ c = 12 := by omega
    clear h
    rcases h' with rfl | rfl | rfl | rfl | rfl | rfl | rfl | rfl | rfl | rfl | rfl | rfl
    all_goals (go_enter Tryd.func28, Tryd.ntmps28)
    all_goals (go_wp2_with fail)
    all_goals go_ret
    all_goals (exact ⟨rfl, (Below.refl _ w).alloc (Nat.le_refl _) _⟩)
theorem nm_size_fin : ∀ n : Fin 13, (nm n.1).size ≤ 9 := by decide +kernel
theorem nameS_size (c : Int) : (nameS c).size ≤ 9 := by
  unfold nameS
  split
  · rename_i h
    exact nm_size_fin ⟨c.toNat, by omega⟩
  · simp
def wdL : List ByteArray := [⟨#[]⟩, ⟨#[115, 101, 110, 116]⟩, ⟨#[100, 101, 108, 105, 118, 101, 114, 101, 100]⟩, ⟨#[114, 101, 102, 117, 115, 101, 100]⟩, ⟨#[102, 97, 105, 108, 101, 100]⟩, ⟨#[111, 116, 104, 101, 114]⟩]
def wd (n : Nat) : ByteArray := wdL.getD n ByteArray.empty
def n2L : List ByteArray := [⟨#[99, 108, 105, 101, 110, 116]⟩, ⟨#[115, 101, 114, 118, 101, 114]⟩]
def n2 (n : Nat) : ByteArray := n2L.getD n ByteArray.empty
/-- The four tables are laid. -/
def Tabs (w : World) : Prop := (0 < w.heap.size ∧ ∀ n, n < 6 → w.cell? ⟨0, n, none⟩ = some (.string (wd n))) ∧ (1 < w.heap.size ∧ ∀ n, n < 2 → w.cell? ⟨1, n, none⟩ = some (.string (n2 n))) ∧ Nms w ∧ Pow w
theorem Tabs.below {w w' : World} (h : Tabs w) (hb : Below w.heap.size w w') : Tabs w' :=
  ⟨⟨Nat.lt_of_lt_of_le h.1.1 hb.size, fun n hn => (hb.cell (p := ⟨0, n, none⟩) h.1.1).trans (h.1.2 n hn)⟩, ⟨Nat.lt_of_lt_of_le h.2.1.1 hb.size, fun n hn => (hb.cell (p := ⟨1, n, none⟩) h.2.1.1).trans (h.2.1.2 n hn)⟩, h.2.2.1.below hb, h.2.2.2.below hb⟩
end Go.Proofs.YtgnegllehcpdpaaDoor
