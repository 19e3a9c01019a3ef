import Derived.Test.YthgbgkpchchicaaArg
namespace Go.Proofs.Ythgbgkpchchicaa
open Go.ChangeShapes Go.WideShapes Go.ChangeAt Go.RowKit
set_option linter.unusedVariables false
set_option linter.unusedSimpArgs false
/-- A number, 0 or 1, which tells p if it is 1. -/
def Tells (e : Ending) (p : Prop) : Prop := ∃ r : Int, e = .returned (.int .i64 r) ∧ (r = 0 ∨ (r = 1 ∧ p))
/-- What Few asks of one call. -/
def FewE (e : Opr) : Prop := e.n ≤ 3000 ∧ e.fr.size ≤ 3000 ∧ e.to.size ≤ 3000
def FewP (es : List Opr) : Prop := es.length ≤ 60 ∧ ∀ e ∈ es, FewE e
def FewI (es : List Opr) (j : Nat) (s : Int) : Prop := 0 ≤ s ∧ s ≤ 30000 * (j : Int) ∧ ∀ k e, k < j → es[k]? = some e → ((min e.n 10000 + min e.fr.size 10000 + min e.to.size 10000 : Nat) : Int) ≤ s
theorem FewI.next {es : List Opr} {j : Nat} {s : Int} {e : Opr} (h : FewI es j s) (he : es[j]? = some e) {a b c : Int} (ha : a = ((min e.n 10000 : Nat) : Int)) (hb : b = ((min e.fr.size 10000 : Nat) : Int)) (hc : c = ((min e.to.size 10000 : Nat) : Int)) : FewI es (j + 1) (s + a + b + c) := by
  obtain ⟨i1, i2, i3⟩ := h
  refine ⟨by omega, by push_cast; omega, fun k e' hk hke => ?_⟩
  rcases Nat.lt_or_ge k j with hkj | hkj
  · have := i3 k e' hkj hke
    omega
  · obtain rfl : k = j := by omega
    rw [he] at hke
    injection hke with hke
    subst hke
    push_cast; omega
set_option maxRecDepth 100000 in
set_option maxHeartbeats 8000000 in
theorem few_any (w : World) (A : Option Addr) (n cap : Nat) (es : List Opr) (h : Oprs w A n es) (hn : n ≤ maxLen) :
    Calls Try.prog 16 #[.slice A n cap] w fun e w' => Tells e (FewP es) ∧ Below w.heap.size w w' := by
  unfold maxLen at hn
  have HL := Lib.hid h.2.1
  have H := Lib.hid h
  clear h
  go_enter Try.func16, Try.ntmps16
  go_wp2_with fail
  go_loopw [3, 4] (fun s i wr => ∃ (j k : Nat) (sm : Int), j ≤ n ∧ j ≤ 200 ∧ i = .int .i64 j ∧ s = .int .i64 sm ∧ FewI es j sm ∧ wr = w.drewN k) (fun _ i _ => n - (intOf i).toNat)
  case atStart => exact ⟨0, 0, 0, by omega, by omega, rfl, rfl, ⟨by omega, by omega, fun k e hk => by omega⟩, rfl⟩
  case round =>
    obtain ⟨j, k, sm, hj, hj2, rfl, rfl, hI, rfl⟩ := hrel
    have HI := Lib.hid hI
    have i1 := hI.1
    have i2 : sm ≤ 6000000 := by have := hI.2.1; omega
    clear hI
    by_cases h1 : j < n
    · have h1i : (j : Int) < (n : Int) := by omega
      by_cases h2 : j < 200
      · have h2i : (j : Int) < 200 := by omega
        obtain ⟨b, o, e, rfl, hb, hs, hok, hc⟩ := H.out.at_ h1
        obtain ⟨hc0, hc1, hc2, hc3, hc4, hc5⟩ := hc
        have c3 : (w.drewN k).cell? ⟨b, o + j * 6 + 3, none⟩ = some (.string e.fr) := hc3
        have c4 : (w.drewN k).cell? ⟨b, o + j * 6 + 4, none⟩ = some (.string e.to) := hc4
        have c5 : (w.drewN k).cell? ⟨b, o + j * 6 + 5, none⟩ = some (.slice e.A e.n e.c) := hc5
        have HX := Lib.hid hs
        have hen := hok.len
        have hef := hok.frz
        have het := hok.toz
        unfold maxLen at hen hef het
        have hm1 : ((e.n : Int) ≤ 10000 ∨ 10000 < (e.n : Int)) := by omega
        have hm2 : ((e.fr.size : Int) ≤ 10000 ∨ 10000 < (e.fr.size : Int)) := by omega
        have hm3 : ((e.to.size : Int) ≤ 10000 ∨ 10000 < (e.to.size : Int)) := by omega
        have hw1 : IntKind.i64.wrap ((j : Int) + 1) = (j : Int) + 1 := IntWalk.i64_in _ (by omega)
        clear hs hok hc0 hc1 hc2 c3 c4 c5
        rcases hm1 with hm1 | hm1 <;> rcases hm2 with hm2 | hm2 <;> rcases hm3 with hm3 | hm3
        all_goals
          go_wp2_with fail
          go_quiet (fail)
          go_wp2_with fail
          go_roundw
          case rel => exact ⟨j + 1, _, _, by omega, by omega, by go_num, rfl, FewI.next HI.out HX.out (by omega) (by omega) (by omega), rfl⟩
          case measure => simp [intOf]; omega
      · have h2i : (200 : Int) ≤ (j : Int) := by omega
        have h60 : (60 : Int) < (n : Int) := by omega
        go_wp2_with fail
        go_ret
        exact ⟨⟨_, rfl, .inl rfl⟩, below_drewN (Below.refl _ w) _⟩
    · obtain rfl : j = n := by omega
      by_cases h60 : (j : Int) ≤ 60
      · by_cases h5 : sm ≤ 3000
        · go_wp2_with fail
          go_ret
          refine ⟨⟨_, rfl, .inr ⟨rfl, by rw [HL.out]; omega, fun e he => ?_⟩⟩, below_drewN (Below.refl _ w) _⟩
          obtain ⟨k', hk', rfl⟩ := List.getElem_of_mem he
          have := HI.out.2.2 k' _ (by have := HL.out; omega) (List.getElem?_eq_getElem hk')
          exact ⟨by omega, by omega, by omega⟩
        · have h5' : 3000 < sm := by omega
          clear h5
          go_wp2_with fail
          go_ret
          exact ⟨⟨_, rfl, .inl rfl⟩, below_drewN (Below.refl _ w) _⟩
      · have h60' : 60 < (j : Int) := by omega
        clear h60
        go_wp2_with fail
        go_ret
        exact ⟨⟨_, rfl, .inl rfl⟩, below_drewN (Below.refl _ w) _⟩
end Go.Proofs.Ythgbgkpchchicaa
