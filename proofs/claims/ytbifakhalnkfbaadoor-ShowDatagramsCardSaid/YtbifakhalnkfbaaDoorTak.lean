import Derived.Test.YtbifakhalnkfbaaDoorDcl
import Derived.Maps.AppendAt
namespace Go.Proofs.YtbifakhalnkfbaaDoor
open Go.ChangeShapes Go.WideShapes Go.ChangeAt Go.RowKit Go.Sort
set_option linter.unusedVariables false
set_option linter.unusedSimpArgs false
/-- take: the value of the next name. -/
def tk (t : ByteArray) (xs : List ByteArray) : ByteArray × List ByteArray := match xs with
  | a :: b :: r => if a = t then (b, r) else (ByteArray.empty, a :: b :: r)
  | xs => (ByteArray.empty, xs)
/-- The captured words. -/
def WD (w : World) (g : Nat) (xs : List ByteArray) : Prop := ∃ A n c, Blk w g 59 #[.slice A n c] ∧ Reads w g 1 A n (xs.map Value.string) ∧ xs.length = n ∧ n ≤ c ∧ c ≤ maxLen ∧ ∀ x ∈ xs, x.size ≤ 300000
theorem tk_two {t a b : ByteArray} {r : List ByteArray} (h : a = t) : tk t (a :: b :: r) = (b, r) := by simp [tk, h]
theorem tk_not {t a b : ByteArray} {r : List ByteArray} (h : a ≠ t) : tk t (a :: b :: r) = (ByteArray.empty, a :: b :: r) := by simp [tk, h]
theorem WD.only {w w' : World} {g b : Nat} {xs : List ByteArray} (h : WD w g xs) (hb : w.grownBy w' (some b)) (hg : g < b) : WD w' g xs := by
  obtain ⟨A, n, c, K, R, hl, hc, hm, hz⟩ := h
  have hlt := K.lt
  exact ⟨A, n, c, K.only hb (by omega), R.grown hb (by omega) (fun x hx => by cases hx; omega), hl, hc, hm, hz⟩
theorem WD.below {w w' : World} {g : Nat} {xs : List ByteArray} (h : WD w g xs) (hb : Below w.heap.size w w') : WD w' g xs := by
  obtain ⟨A, n, c, K, R, hl, hc, hm, hz⟩ := h
  have hlt := K.lt
  exact ⟨A, n, c, K.below hb hlt, R.grown (only_of_below hb none) (by omega) (fun x hx => by cases hx), hl, hc, hm, hz⟩
theorem tk_sz {t : ByteArray} {xs : List ByteArray} (h : ∀ x ∈ xs, x.size ≤ 300000) : (tk t xs).1.size ≤ 300000 ∧ ∀ x ∈ (tk t xs).2, x.size ≤ 300000 := by
  match xs, h with
  | [], h => exact ⟨by simp [tk], by simp [tk]⟩
  | [a], h => exact ⟨by simp [tk], by simpa [tk] using h⟩
  | a :: b :: r, h =>
    by_cases e : a = t
    · rw [tk_two e]
      exact ⟨h b (by simp), fun x hx => h x (by simp [hx])⟩
    · rw [tk_not e]
      exact ⟨by simp, h⟩
set_option maxRecDepth 100000 in
set_option maxHeartbeats 4000000 in
theorem take_any (t : ByteArray) (xs : List ByteArray) (g : Nat) (w : World) (h : WD w g xs) :
    Calls Tryd.prog 29 #[.string t, .pointer (some ⟨g, 0, none⟩)] w fun e w' => e = .returned (.string (tk t xs).1) ∧ WD w' g (tk t xs).2 ∧ w.grownBy w' (some g) := by
  obtain ⟨A, n, c, K, R, hl, hc, hm, hz⟩ := h
  have hlt := K.lt
  have cg : w.cell? ⟨g, 0, none⟩ = some (.slice A n c) := (K.cell 0).trans rfl
  have fg := K.frozen 0
  have HK := Lib.hid K
  have HR := Lib.hid R
  have HZ := Lib.hid hz
  have hm' : c ≤ 9223372036854775807 := by unfold maxLen at hm; omega
  have HM := Lib.hid hm
  by_cases h2 : n < 2
  · have HE := Lib.hid (show tk t xs = (ByteArray.empty, xs) by
      match xs, hl with
      | [], _ => rfl
      | [a], _ => rfl
      | a :: b :: r, hl => simp at hl; omega)
    have HL := Lib.hid hl
    clear K R hz hl hm
    go_enter Tryd.func29, Tryd.ntmps29
    go_wp2_with fail
    go_ret
    rw [HE.out]
    exact ⟨rfl, ⟨A, n, c, HK.out, HR.out, HL.out, hc, HM.out, HZ.out⟩, World.grownBy.refl _ _⟩
  · obtain ⟨a, b, r, rfl⟩ : ∃ a b r, xs = a :: b :: r := by
      match xs, hl with
      | [], hl => simp at hl; omega
      | [a], hl => simp at hl; omega
      | a :: b :: r, _ => exact ⟨a, b, r, rfl⟩
    obtain ⟨ad, u, rfl, hb, hx0, hc0⟩ := R.at_ (k := 0) (by omega)
    obtain ⟨ad', u', e', _, hx1, hc1⟩ := R.at_ (k := 1) (by omega)
    cases e'
    simp at hx0 hx1
    subst hx0 hx1
    obtain ⟨bb, oo, sp⟩ := ad
    rw [show (⟨bb, oo, sp⟩ : Addr).add 0 = ⟨bb, oo, sp⟩ from rfl] at hc0
    obtain rfl : sp = none := World.cell?_spot hc0
    rw [add_none] at hc1
    simp only at hb
    have hlen : (r.length : Nat) + 2 = n := by simpa using hl
    have hn2 : (2 : Int) ≤ (n : Int) := by omega
    have hnc : (n : Int) ≤ (c : Int) := by omega
    have HL := Lib.hid hl
    have HLN := Lib.hid hlen
    clear K R hz hl hm hlen
    by_cases he : a = t
    · have HE := Lib.hid (tk_two (t := t) (a := a) (b := b) (r := r) he)
      subst he
      rcases Nat.lt_or_ge 2 c with h3 | h3
      · have h4 : ¬ c = 2 := by omega
        have h5 : (2 : Int) ≤ (c : Int) := by omega
        go_enter Tryd.func29, Tryd.ntmps29
        go_wp2_with fail
        all_goals first | (exfalso; omega) | skip
        go_ret
        rw [HE.out]
        have h9 := (HR.out.cut (k := 2) (cap := c) (by omega) hc).setCell (Nat.le_refl _) (p := ⟨g, 0, none⟩) (.slice (some ⟨bb, oo + 2, none⟩) (n - 2) (c - 2))
        rw [if_neg (by omega)] at h9
        have hlr := HLN.out
        have hmm := HM.out
        exact ⟨rfl, ⟨some ⟨bb, oo + 2, none⟩, n - 2, c - 2, HK.out.set_ 0 _, by simpa [add_none] using h9, (by show r.length = n - 2; omega), by omega, by omega, fun x hx => HZ.out x (by simp [hx])⟩, only_setCell (World.grownBy.refl _ _) (.inl rfl) _⟩
      · obtain rfl : c = 2 := by omega
        obtain rfl : n = 2 := by omega
        clear hn2 hnc hc h3 h2 hm'
        go_enter Tryd.func29, Tryd.ntmps29
        go_wp2_with fail
        go_ret
        rw [HE.out]
        have hlr := HLN.out
        obtain rfl : r = [] := List.length_eq_zero_iff.1 (by omega)
        exact ⟨rfl, ⟨some ⟨bb, oo, none⟩, 0, 0, HK.out.set_ 0 _, ⟨rfl, fun h => absurd h (by omega)⟩, rfl, by omega, by unfold maxLen; omega, fun x hx => by simp at hx⟩, only_setCell (World.grownBy.refl _ _) (.inl rfl) _⟩
    · have HE := Lib.hid (tk_not (t := t) (a := a) (b := b) (r := r) he)
      have h1 : (a.toList == t.toList) = false := toList_ne he
      clear he
      go_enter Tryd.func29, Tryd.ntmps29
      go_wp2_with fail
      go_ret
      rw [HE.out]
      exact ⟨rfl, ⟨_, n, c, HK.out, HR.out, HL.out, hc, HM.out, HZ.out⟩, World.grownBy.refl _ _⟩
end Go.Proofs.YtbifakhalnkfbaaDoor
