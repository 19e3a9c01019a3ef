import Derived.Test.YtgnegllehcpdpaaDoorRgb
namespace Go.Proofs.YtgnegllehcpdpaaDoor
open Go.ChangeShapes Go.WideShapes Go.ChangeAt Go.RowKit
set_option linter.unusedVariables false
set_option linter.unusedSimpArgs false
/-- A truth value which, if true, tells p. -/
def Tells (e : Ending) (p : Prop) : Prop := ∃ b, e = .returned (.bool b) ∧ (b = true → p)
/-- What Few asks of one event. -/
def FewE (e : Ev) : Prop := -1000000 ≤ e.who ∧ e.who ≤ 1000000 ∧ e.n ≤ 5000 ∧ e.ad.size ≤ 5000
def FewP (es : List Ev) : Prop := es.length ≤ 60 ∧ ∀ e ∈ es, FewE e
def FewI (es : List Ev) (j : Nat) (s : Int) : Prop := 0 ≤ s ∧ s ≤ 20000 * (j : Int) ∧ ∀ k e, k < j → es[k]? = some e → -1000000 ≤ e.who ∧ e.who ≤ 1000000 ∧ ((min e.n 10000 + min e.ad.size 10000 : Nat) : Int) ≤ s
theorem FewI.next {es : List Ev} {j : Nat} {s : Int} {e : Ev} (h : FewI es j s) (he : es[j]? = some e) (h1 : -1000000 ≤ e.who) (h2 : e.who ≤ 1000000) {a b : Int} (ha : a = ((min e.n 10000 : Nat) : Int)) (hb : b = ((min e.ad.size 10000 : Nat) : Int)) : FewI es (j + 1) (s + a + b) := by
  obtain ⟨i1, i2, i3⟩ := h
  refine ⟨by omega, by push_cast; omega, fun k e' hk hke => ?_⟩
  rcases Nat.lt_or_ge k j with hkj | hkj
  · have := i3 k e' hkj hke
    exact ⟨this.1, this.2.1, by omega⟩
  · obtain rfl : k = j := by omega
    rw [he] at hke
    injection hke with hke
    subst hke
    exact ⟨h1, h2, by push_cast; omega⟩
set_option maxRecDepth 100000 in
set_option maxHeartbeats 8000000 in
theorem few_any (w : World) (A : Option Addr) (n cap : Nat) (es : List Ev) (h : Evs w A n es) (hn : n ≤ maxLen) :
    Calls Tryd.prog 9 #[.slice A n cap] w fun e w' => Tells e (FewP es) ∧ Below w.heap.size w w' := by
  unfold maxLen at hn
  have HL := Lib.hid h.2.1
  have H := Lib.hid h
  clear h
  go_enter Tryd.func9, Tryd.ntmps9
  go_wp2_with fail
  go_loopw [3, 4] (fun s i wr => ∃ (j k : Nat) (sm : Int), j ≤ n ∧ j ≤ 200 ∧ i = .int .i64 j ∧ s = .int .i64 sm ∧ FewI es j sm ∧ wr = w.drewN k) (fun _ i _ => n - (intOf i).toNat)
  case atStart => exact ⟨0, 0, 0, by omega, by omega, rfl, rfl, ⟨by omega, by omega, fun k e hk => by omega⟩, rfl⟩
  case round =>
    obtain ⟨j, k, sm, hj, hj2, rfl, rfl, hI, rfl⟩ := hrel
    have HI := Lib.hid hI
    have i1 := hI.1
    have i2 : sm ≤ 4000000 := by have := hI.2.1; omega
    clear hI
    by_cases h1 : j < n
    · have h1i : (j : Int) < (n : Int) := by omega
      by_cases h2 : j < 200
      · have h2i : (j : Int) < 200 := by omega
        obtain ⟨b, o, e, rfl, hb, hs, hok, hc⟩ := H.out.at_ h1
        obtain ⟨hc0, hc1, hc2, hc3, hc4, hc5, hc6⟩ := hc
        have c1 : (w.drewN k).cell? ⟨b, o + j * 7 + 1, none⟩ = some (.int .i64 e.who) := hc1
        have c5 : (w.drewN k).cell? ⟨b, o + j * 7 + 5, none⟩ = some (.slice e.A e.n e.c) := hc5
        have c6 : (w.drewN k).cell? ⟨b, o + j * 7 + 6, none⟩ = some (.string e.ad) := hc6
        have HX := Lib.hid hs
        have hen := hok.len
        have head := hok.adl
        unfold maxLen at hen head
        have hm1 : ((e.n : Int) ≤ 10000 ∨ 10000 < (e.n : Int)) := by omega
        have hm2 : ((e.ad.size : Int) ≤ 10000 ∨ 10000 < (e.ad.size : Int)) := by omega
        have hw : (e.who < -1000000 ∨ 1000000 < e.who) ∨ (-1000000 ≤ e.who ∧ e.who ≤ 1000000) := by omega
        have hw1 : IntKind.i64.wrap ((j : Int) + 1) = (j : Int) + 1 := IntWalk.i64_in _ (by omega)
        clear hs hok hc0 hc2 hc3 hc4 c1 c5 c6
        rcases hw with hw | ⟨hw, hw'⟩
        · rcases hm1 with hm1 | hm1 <;> rcases hm2 with hm2 | hm2 <;> rcases hw with hw | hw
          all_goals
            go_wp2_with fail
            go_quiet (fail)
            go_wp2_with fail
            all_goals
              go_ret
              exact ⟨⟨_, rfl, fun h => by simp at h⟩, below_drewN (Below.refl _ w) _⟩
        · rcases hm1 with hm1 | hm1 <;> rcases hm2 with hm2 | hm2
          all_goals
            go_wp2_with fail
            go_quiet (fail)
            go_wp2_with fail
            go_roundw
            case rel => exact ⟨j + 1, _, _, by omega, by omega, by go_num, rfl, FewI.next HI.out HX.out hw hw' (by omega) (by omega), rfl⟩
            case measure => simp [intOf]; omega
      · have h2i : (200 : Int) ≤ (j : Int) := by omega
        have h60 : (60 : Int) < (n : Int) := by omega
        go_wp2_with fail
        go_ret
        exact ⟨⟨_, rfl, fun h => by simp at h⟩, below_drewN (Below.refl _ w) _⟩
    · obtain rfl : j = n := by omega
      by_cases h60 : (j : Int) ≤ 60
      · by_cases h5 : sm ≤ 5000
        · go_wp2_with fail
          go_ret
          refine ⟨⟨_, rfl, fun _ => ⟨by rw [HL.out]; omega, fun e he => ?_⟩⟩, below_drewN (Below.refl _ w) _⟩
          obtain ⟨k', hk', rfl⟩ := List.getElem_of_mem he
          have := HI.out.2.2 k' _ (by have := HL.out; omega) (List.getElem?_eq_getElem hk')
          exact ⟨this.1, this.2.1, by omega, by omega⟩
        · go_wp2_with fail
          go_ret
          exact ⟨⟨_, rfl, fun h => by simp at h⟩, below_drewN (Below.refl _ w) _⟩
      · go_wp2_with fail
        go_ret
        exact ⟨⟨_, rfl, fun h => by simp at h⟩, below_drewN (Below.refl _ w) _⟩
end Go.Proofs.YtgnegllehcpdpaaDoor
