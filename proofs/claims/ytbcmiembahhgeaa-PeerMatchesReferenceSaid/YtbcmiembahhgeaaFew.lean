import Derived.Test.YtbcmiembahhgeaaAwk
namespace Go.Proofs.Ytbcmiembahhgeaa
open Go.ChangeShapes Go.WideShapes Go.ChangeAt Go.RowKit
set_option linter.unusedVariables false
set_option linter.unusedSimpArgs false
/-- Strings that can be read. -/
def Strs (w : World) (A : Option Addr) (n : Nat) (ss : List ByteArray) : Prop := Reads w w.heap.size 1 A n (ss.map Value.string) ∧ ∀ s ∈ ss, s.size ≤ maxLen
theorem Strs.len {w : World} {A : Option Addr} {n : Nat} {ss : List ByteArray} (h : Strs w A n ss) : ss.length = n := by have := h.1.1; simpa using this
theorem Strs.below {w w' : World} {A : Option Addr} {n : Nat} {ss : List ByteArray} (h : Strs w A n ss) (hb : Below w.heap.size w w') : Strs w' A n ss := ⟨(Reads.below h.1 hb).more hb.size, h.2⟩
theorem Strs.cell {w : World} {A : Option Addr} {n k : Nat} {ss : List ByteArray} (h : Strs w A n ss) (hk : k < n) : ∃ b o s, A = some ⟨b, o, none⟩ ∧ b < w.heap.size ∧ ss[k]? = some s ∧ s.size ≤ maxLen ∧ w.cell? ⟨b, o + k, none⟩ = some (.string s) := by
  obtain ⟨b, o, u, hA, hb, hu, hc⟩ := h.1.cell hk
  simp only [List.getElem?_map, Option.map_eq_some_iff] at hu
  obtain ⟨x, hx, rfl⟩ := hu
  exact ⟨b, o, x, hA, hb, hx, h.2 x (List.mem_of_getElem? hx), hc⟩
/-- A truth value which, if true, tells p. -/
def Tells (e : Ending) (p : Prop) : Prop := ∃ b, e = .returned (.bool b) ∧ (b = true → p)
set_option maxRecDepth 100000 in
set_option maxHeartbeats 1000000 in
theorem few_any (w : World) (A : Option Addr) (n c : Nat) (ss : List ByteArray) (h : Strs w A n ss) (hn : n ≤ maxLen) :
    Calls Try.prog 8 #[.slice A n c] w fun e w' => Tells e (n ≤ 100) ∧ w = w' := by
  unfold maxLen at hn
  have H := Lib.hid h
  clear h
  go_enter Try.func8, Try.ntmps8
  go_wp2_with fail
  go_loopw [3, 4] (fun s i wr => ∃ (m j : Nat), m ≤ j * 10000 ∧ j ≤ n ∧ j ≤ 200 ∧ s = .int .i64 m ∧ i = .int .i64 j ∧ wr = w) (fun _ i _ => 200 - (intOf i).toNat)
  case atStart => exact ⟨0, 0, by omega, by omega, by omega, rfl, rfl, rfl⟩
  case round =>
    obtain ⟨m, j, hm, hj, hj2, rfl, rfl, rfl⟩ := hrel
    by_cases h1 : j < n
    · by_cases h2 : j < 200
      · obtain ⟨b, o, s, rfl, hb, hs, hsl, hc⟩ := H.out.cell h1
        unfold maxLen at hsl
        by_cases h3 : s.size < 10000
        · go_wp2_with fail
          all_goals
            go_roundw
            case rel => exact ⟨m + s.size, j + 1, by omega, by omega, by omega, by go_num, by go_num, by simp⟩
            case measure => simp [intOf]; omega
        · go_wp2_with fail
          all_goals
            go_roundw
            case rel => exact ⟨m + 10000, j + 1, by omega, by omega, by omega, by go_num, by go_num, by simp⟩
            case measure => simp [intOf]; omega
      · by_cases h4 : n ≤ 100
        · exfalso; omega
        · go_wp2_with fail
          go_ret
          exact ⟨⟨_, rfl, fun h => by simp at h⟩, by simp⟩
    · by_cases h4 : n ≤ 100
      · go_wp2_with fail
        all_goals
          go_ret
          exact ⟨⟨_, rfl, fun _ => h4⟩, by simp⟩
      · go_wp2_with fail
        all_goals
          go_ret
          exact ⟨⟨_, rfl, fun h => by simp at h⟩, by simp⟩
end Go.Proofs.Ytbcmiembahhgeaa
