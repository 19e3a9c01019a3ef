import Derived.Test.YtnbkeojllibegaaDoorTxt
namespace Go.Proofs.YtnbkeojllibegaaDoor
open Go.ChangeShapes Go.WideShapes Go.ChangeAt Go.RowKit
set_option linter.unusedVariables false
set_option linter.unusedSimpArgs false
def Strs (w : World) (A : Option Addr) (n : Nat) (ss : List ByteArray) : Prop := Reads w w.heap.size 1 A n (ss.map Value.string) ∧ ∀ s ∈ ss, s.size ≤ maxLen
theorem Strs.len {w : World} {A : Option Addr} {n : Nat} {ss : List ByteArray} (h : Strs w A n ss) : ss.length = n := by have := h.1.1; simpa using this
theorem Strs.below {w w' : World} {A : Option Addr} {n : Nat} {ss : List ByteArray} (h : Strs w A n ss) (hb : Below w.heap.size w w') : Strs w' A n ss := ⟨(Reads.below h.1 hb).more hb.size, h.2⟩
theorem Strs.cell {w : World} {A : Option Addr} {n k : Nat} {ss : List ByteArray} (h : Strs w A n ss) (hk : k < n) : ∃ b o s, A = some ⟨b, o, none⟩ ∧ b < w.heap.size ∧ ss[k]? = some s ∧ s.size ≤ maxLen ∧ w.cell? ⟨b, o + k, none⟩ = some (.string s) := by
  obtain ⟨b, o, u, hA, hb, hu, hc⟩ := h.1.cell hk
  simp only [List.getElem?_map, Option.map_eq_some_iff] at hu
  obtain ⟨x, hx, rfl⟩ := hu
  exact ⟨b, o, x, hA, hb, hx, h.2 x (List.mem_of_getElem? hx), hc⟩
/-- A truth value which, if true, tells p. -/
def Tells (e : Ending) (p : Prop) : Prop := ∃ b, e = .returned (.bool b) ∧ (b = true → p)
def errE (nl : Bool) (A : Option Addr) (n cap : Nat) (c a : Int) (fl : Bool) : Value := .agg #[.bool nl, .slice A n cap, .int .i64 c, .int .i64 a, .bool fl]
/-- What Few asks. -/
def FewP (n : Nat) (ss : List ByteArray) (a : Int) : Prop := n ≤ 20 ∧ (∀ s ∈ ss, s.size ≤ 50) ∧ -1152921504606846976 < a ∧ a < 1152921504606846976
theorem all50 {ss : List ByteArray} {n : Nat} (hl : ss.length = n) (h : ∀ k s, k < n → ss[k]? = some s → s.size ≤ 50) : ∀ s ∈ ss, s.size ≤ 50 := by
  intro s hs
  obtain ⟨k, hk, rfl⟩ := List.getElem_of_mem hs
  exact h k _ (by omega) (List.getElem?_eq_getElem hk)
set_option maxRecDepth 100000 in
set_option maxHeartbeats 4000000 in
theorem few_any (w : World) (nl fl : Bool) (A : Option Addr) (n cap : Nat) (c a : Int) (ss : List ByteArray) (h : Strs w A n ss) (hn : n ≤ maxLen) :
    Calls Tryd.prog 8 #[errE nl A n cap c a fl] w fun e w' => Tells e (FewP n ss a) ∧ Below w.heap.size w w' := by
  unfold maxLen at hn
  have HL := Lib.hid h.len
  have H := Lib.hid h
  clear h
  unfold errE
  have hbel : Below w.heap.size w (w.alloc (.cells #[.bool nl, .slice A n cap, .int .i64 c, .int .i64 a, .bool fl] 24)) := (Below.refl _ w).alloc (Nat.le_refl _) _
  have HB := Lib.hid hbel
  clear hbel
  go_enter Tryd.func8, Tryd.ntmps8
  go_wp2_with fail
  go_loopw [3] (fun i wr => ∃ (j : Nat), j ≤ n ∧ i = .int .i64 j ∧ (∀ k s, k < j → ss[k]? = some s → s.size ≤ 50) ∧ wr = (w.alloc (.cells #[.bool nl, .slice A n cap, .int .i64 c, .int .i64 a, .bool fl] 24))) (fun i _ => n - (intOf i).toNat)
  case atStart => exact ⟨0, by omega, rfl, fun k s hk => by omega, rfl⟩
  case round =>
    obtain ⟨j, hj, rfl, hs, rfl⟩ := hrel
    have HS := Lib.hid hs
    clear hs
    by_cases h1 : j < n
    · obtain ⟨b, o, s, rfl, hb, hs, hsl, hc⟩ := H.out.cell h1
      unfold maxLen at hsl
      have hc1 : (w.alloc (.cells #[.bool nl, .slice (some ⟨b, o, none⟩) n cap, .int .i64 c, .int .i64 a, .bool fl] 24)).cell? ⟨b, o + j, none⟩ = some (.string s) := by rw [World.cell?_alloc_lt _ _ ⟨b, o + j, none⟩ hb]; exact hc
      have HX := Lib.hid hs
      clear hc hs
      by_cases h3 : s.size ≤ 50
      · go_wp2_with fail
        all_goals
          go_roundw
          case rel => exact ⟨j + 1, by omega, by go_num, fun k t hk ht => by
            rcases Nat.lt_or_ge k j with hkj | hkj
            · exact HS.out k t hkj ht
            · obtain rfl : k = j := by omega
              rw [HX.out] at ht; injection ht with ht; subst ht; exact h3, by simp⟩
          case measure => simp [intOf]; omega
      · go_wp2_with fail
        all_goals
          go_ret
          exact ⟨⟨_, rfl, fun h => by simp at h⟩, HB.out⟩
    · obtain rfl : j = n := by omega
      by_cases h4 : j ≤ 20
      · by_cases h5 : -1152921504606846976 < a
        · by_cases h6 : a < 1152921504606846976
          · go_wp2_with fail
            all_goals
              go_ret
              exact ⟨⟨_, rfl, fun _ => ⟨h4, all50 HL.out HS.out, h5, h6⟩⟩, HB.out⟩
          · go_wp2_with fail
            all_goals
              go_ret
              exact ⟨⟨_, rfl, fun h => by simp at h⟩, HB.out⟩
        · go_wp2_with fail
          all_goals
            go_ret
            exact ⟨⟨_, rfl, fun h => by simp at h⟩, HB.out⟩
      · go_wp2_with fail
        all_goals
          go_ret
          exact ⟨⟨_, rfl, fun h => by simp at h⟩, HB.out⟩
end Go.Proofs.YtnbkeojllibegaaDoor
