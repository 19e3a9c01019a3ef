import Derived.Test.YtnbkeojllibegaaDoorFew
namespace Go.Proofs.YtnbkeojllibegaaDoor
open Go.ChangeShapes Go.WideShapes Go.ChangeAt Go.RowKit
set_option linter.unusedVariables false
set_option linter.unusedSimpArgs false
theorem take_rev {ss : List ByteArray} {j : Nat} {s : ByteArray} (h : ss[j]? = some s) : (ss.take (j + 1)).reverse = s :: (ss.take j).reverse := by
  rw [List.take_add_one, h]
  simp
set_option maxRecDepth 100000 in
set_option maxHeartbeats 4000000 in
theorem build_any (w : World) (nl fl : Bool) (A : Option Addr) (n cap : Nat) (c a : Int) (ss : List ByteArray) (h : Strs w A n ss) (hn : n ≤ maxLen) :
    Calls Tryd.prog 9 #[errE nl A n cap c a fl] w fun e w' => e = .returned (if nl then .nilIface else wrapV ss.reverse (coreV fl c a)) ∧ Below w.heap.size w w' := by
  unfold maxLen at hn
  have HL := Lib.hid h.len
  have H := Lib.hid h
  clear h
  unfold errE
  have hbel : Below w.heap.size w (w.alloc (.cells #[.bool nl, .slice A n cap, .int .i64 c, .int .i64 a, .bool fl] 24)) := (Below.refl _ w).alloc (Nat.le_refl _) _
  have HB := Lib.hid hbel
  clear hbel
  cases nl with
  | true =>
    go_enter Tryd.func9, Tryd.ntmps9
    go_wp2_with fail
    go_ret
    exact ⟨rfl, HB.out⟩
  | false =>
    cases fl
    · have HCO := Lib.hid (show coreV false c a = codeV c from rfl)
      go_enter Tryd.func9, Tryd.ntmps9
      go_wp2_with fail
      go_loopw [3, 4] (fun s3 i wr => ∃ (j : Nat), j ≤ n ∧ s3 = wrapV (ss.take j).reverse (coreV false c a) ∧ i = .int .i64 j ∧ wr = (w.alloc (.cells #[.bool false, .slice A n cap, .int .i64 c, .int .i64 a, .bool false] 24))) (fun _ i _ => n - (intOf i).toNat)
      case atStart => exact ⟨0, by omega, by rw [List.take_zero]; rfl, rfl, rfl⟩
      case round =>
        obtain ⟨j, hj, rfl, rfl, rfl⟩ := hrel
        obtain ⟨ty, x, hw⟩ : ∃ ty x, wrapV (ss.take j).reverse (coreV false c a) = .iface ty x := wrapV_form _ _ ⟨_, _, rfl⟩
        rw [hw]
        have HW := Lib.hid hw
        clear hw
        by_cases h1 : j < n
        · obtain ⟨b, o, s, rfl, hb, hs, hsl, hc⟩ := H.out.cell h1
          have hc1 : (w.alloc (.cells #[.bool false, .slice (some ⟨b, o, none⟩) n cap, .int .i64 c, .int .i64 a, .bool false] 24)).cell? ⟨b, o + j, none⟩ = some (.string s) := by rw [World.cell?_alloc_lt _ _ ⟨b, o + j, none⟩ hb]; exact hc
          have HX := Lib.hid hs
          clear hc hs
          go_wp2_with (go_at_call 19; refine (in_any _ _ _ _).mono ?_; rintro _ _ ⟨rfl, rfl⟩)
          go_roundw
          case rel => exact ⟨j + 1, by omega, by rw [take_rev HX.out, wrapV, HW.out], by go_num, by simp⟩
          case measure => simp [intOf]; omega
        · obtain rfl : j = n := by omega
          go_wp2_with fail
          go_ret
          refine ⟨?_, HB.out⟩
          have : ss.take j = ss := by rw [List.take_of_length_le (by rw [HL.out]; exact Nat.le_refl _)]
          have h2 := HW.out
          rw [this] at h2
          show Ending.returned _ = Ending.returned (wrapV ss.reverse (coreV false c a))
          rw [h2]
          rfl
    · have HCO := Lib.hid (show coreV true c a = faultV c a from rfl)
      go_enter Tryd.func9, Tryd.ntmps9
      go_wp2_with fail
      go_loopw [3, 4] (fun s3 i wr => ∃ (j : Nat), j ≤ n ∧ s3 = wrapV (ss.take j).reverse (coreV true c a) ∧ i = .int .i64 j ∧ wr = (w.alloc (.cells #[.bool false, .slice A n cap, .int .i64 c, .int .i64 a, .bool true] 24))) (fun _ i _ => n - (intOf i).toNat)
      case atStart => exact ⟨0, by omega, by rw [List.take_zero]; rfl, rfl, rfl⟩
      case round =>
        obtain ⟨j, hj, rfl, rfl, rfl⟩ := hrel
        obtain ⟨ty, x, hw⟩ : ∃ ty x, wrapV (ss.take j).reverse (coreV true c a) = .iface ty x := wrapV_form _ _ ⟨_, _, rfl⟩
        rw [hw]
        have HW := Lib.hid hw
        clear hw
        by_cases h1 : j < n
        · obtain ⟨b, o, s, rfl, hb, hs, hsl, hc⟩ := H.out.cell h1
          have hc1 : (w.alloc (.cells #[.bool false, .slice (some ⟨b, o, none⟩) n cap, .int .i64 c, .int .i64 a, .bool true] 24)).cell? ⟨b, o + j, none⟩ = some (.string s) := by rw [World.cell?_alloc_lt _ _ ⟨b, o + j, none⟩ hb]; exact hc
          have HX := Lib.hid hs
          clear hc hs
          go_wp2_with (go_at_call 19; refine (in_any _ _ _ _).mono ?_; rintro _ _ ⟨rfl, rfl⟩)
          go_roundw
          case rel => exact ⟨j + 1, by omega, by rw [take_rev HX.out, wrapV, HW.out], by go_num, by simp⟩
          case measure => simp [intOf]; omega
        · obtain rfl : j = n := by omega
          go_wp2_with fail
          go_ret
          refine ⟨?_, HB.out⟩
          have : ss.take j = ss := by rw [List.take_of_length_le (by rw [HL.out]; exact Nat.le_refl _)]
          have h2 := HW.out
          rw [this] at h2
          show Ending.returned _ = Ending.returned (wrapV ss.reverse (coreV true c a))
          rw [h2]
          rfl
end Go.Proofs.YtnbkeojllibegaaDoor
