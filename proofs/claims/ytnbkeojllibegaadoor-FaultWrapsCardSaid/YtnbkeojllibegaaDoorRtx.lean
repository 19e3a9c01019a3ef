import Derived.Test.YtnbkeojllibegaaDoorBld
namespace Go.Proofs.YtnbkeojllibegaaDoor
open Go.ChangeShapes Go.WideShapes Go.ChangeAt Go.RowKit
set_option linter.unusedVariables false
set_option linter.unusedSimpArgs false
set_option maxRecDepth 100000 in
set_option maxHeartbeats 4000000 in
theorem rtext_any (w : World) (nl fl : Bool) (A : Option Addr) (n cap : Nat) (c a : Int) (ss : List ByteArray) (h : Strs w A n ss) (hF : FewP n ss a) (h0 : -9223372036854775808 ≤ c) (h1 : c ≤ 9223372036854775807) :
    Calls Tryd.prog 12 #[errE nl A n cap c a fl] w fun e w' => e = .returned (.string (txtS ss.reverse (errS ++ itS c))) ∧ Below w.heap.size w w' := by
  have hn : n ≤ 20 := hF.1
  have h50 := hF.2.1
  have HL := Lib.hid h.len
  have H := Lib.hid h
  have hdec := fun W => dec_any c W h0 h1
  have hz := itS_size c h0 h1
  have hez : (errS ++ itS c).size ≤ 27 := by rw [ByteArray.size_append]; have : errS.size = 6 := rfl; omega
  clear h hF
  unfold errE
  have hbel : Below w.heap.size w (w.alloc (.cells #[.bool nl, .slice A n cap, .int .i64 c, .int .i64 a, .bool fl] 24)) := (Below.refl _ w).alloc (Nat.le_refl _) _
  have HB := Lib.hid hbel
  clear hbel
  obtain ⟨m, hm⟩ : ∃ m, itS c = m := ⟨_, rfl⟩
  rw [hm] at hdec hz hez ⊢
  obtain ⟨T, hT⟩ : ∃ T, errS ++ m = T := ⟨_, rfl⟩
  rw [hT] at hez ⊢
  have hads : 6 + m.size ≤ 9223372036854775807 := by omega
  unfold errS at hT
  have H50 := Lib.hid h50
  clear hm h0 h1 h50 hz
  go_enter Tryd.func12, Tryd.ntmps12
  go_wp2_with (go_at_call 24; refine (hdec _).mono ?_; rintro _ _ ⟨rfl, k, rfl⟩; refine Hid.out ?_)
  refine Lib.hid ?_
  go_wp2_with fail
  go_loopw [3, 4] (fun s3 i wr => ∃ (j : Nat), j ≤ n ∧ s3 = .string (txtS (ss.take j).reverse T) ∧ i = .int .i64 j ∧ wr = (w.alloc (.cells #[.bool nl, .slice A n cap, .int .i64 c, .int .i64 a, .bool fl] 24)).drewN k) (fun _ i _ => n - (intOf i).toNat)
  case atStart => exact ⟨0, by omega, by rw [List.take_zero]; rfl, rfl, rfl⟩
  case round =>
    obtain ⟨j, hj, rfl, rfl, rfl⟩ := hrel
    have hsz := txtS_size (ss.take j).reverse T (fun p hp => H50.out p (List.mem_of_mem_take (List.mem_reverse.1 hp)))
    have hlj : (ss.take j).reverse.length ≤ 20 := by simp; omega
    obtain ⟨U, hU⟩ : ∃ U, txtS (ss.take j).reverse T = U := ⟨_, rfl⟩
    rw [hU] at hsz ⊢
    have hUs : U.size ≤ 1100 := by omega
    have HU := Lib.hid hU
    clear hsz hlj hU
    by_cases h1 : j < n
    · obtain ⟨b, o, s, rfl, hb, hs, hsl, hc⟩ := H.out.cell h1
      have hc1 : ((w.alloc (.cells #[.bool nl, .slice (some ⟨b, o, none⟩) n cap, .int .i64 c, .int .i64 a, .bool fl] 24)).drewN k).cell? ⟨b, o + j, none⟩ = some (.string s) := by
        show (w.alloc _).cell? _ = _
        rw [World.cell?_alloc_lt _ _ ⟨b, o + j, none⟩ hb]; exact hc
      have hs50 := H50.out s (List.mem_of_getElem? hs)
      have HX := Lib.hid hs
      obtain ⟨q, hq, hqs⟩ : ∃ q, s ++ sepS = q ∧ q.size ≤ 52 := ⟨_, rfl, by rw [ByteArray.size_append]; have : sepS.size = 2 := rfl; omega⟩
      have hads3 : s.size + 2 ≤ 9223372036854775807 := by omega
      have hads2 : q.size + U.size ≤ 9223372036854775807 := by omega
      have HQ := Lib.hid hq
      unfold sepS at hq
      clear hc hs hsl hqs hs50
      go_wp2_with fail
      go_roundw
      case rel => exact ⟨j + 1, by omega, by rw [take_rev HX.out, txtS, HU.out, HQ.out], by go_num, by simp⟩
      case measure => simp [intOf]; omega
    · obtain rfl : j = n := by omega
      go_wp2_with fail
      go_ret
      refine ⟨?_, below_drewN HB.out k⟩
      have : ss.take j = ss := by rw [List.take_of_length_le (by rw [HL.out]; exact Nat.le_refl _)]
      have h2 := HU.out
      rw [this] at h2
      show Ending.returned _ = Ending.returned (.string (txtS ss.reverse T))
      rw [h2]
      rfl
end Go.Proofs.YtnbkeojllibegaaDoor
