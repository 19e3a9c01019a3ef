import Derived.Test.YtojfghfgaljkkaaDoorVal
namespace Go.Proofs.YtojfghfgaljkkaaDoor
open Go.ChangeShapes Go.WideShapes Go.ChangeAt Go.RowKit
set_option linter.unusedVariables false
set_option linter.unusedSimpArgs false
def alphS : ByteArray := ⟨#[65, 66, 67, 68, 69, 70, 71, 72, 73, 74, 75, 76, 77, 78, 79, 80, 81, 82, 83, 84, 85, 86, 87, 88, 89, 90, 97, 98, 99, 100, 101, 102, 103, 104, 105, 106, 107, 108, 109, 110, 111, 112, 113, 114, 115, 116, 117, 118, 119, 120, 121, 122, 48, 49, 50, 51, 52, 53, 54, 55, 56, 57, 43, 47]⟩
theorem alph_at_fin : ∀ v : Fin 64, (alphS.data.toList.getD v.1 0).toNat = charN v.1 := by decide +kernel
/-- A character of the constant, as the index gives it. -/
theorem run_alph (v : Nat) (hv : v < 64) (W : World) : (Instr.index 9 (.string alphS) (.int .i64 (v : Nat))).run Tryd.prog W = .ok (.int .u8 (charN v : Nat)) W := by
  rw [run_index_string (w := W) 9 alphS .i64 (v : Int) Tryd.underlying9, dif_pos ⟨by omega, by show (v : Int) < 64; omega⟩]
  have h := alph_at_fin ⟨v, hv⟩
  simp only [List.getD] at h
  rw [List.getElem?_eq_getElem (by show v < 64; exact hv)] at h
  have e : (alphS[(v : Int).toNat]'(by show (v : Int).toNat < 64; omega)).toNat = charN v := by
    rw [← h]
    simp
    rfl
  rw [e]
theorem char_in (v : Nat) (w : World) (hv : v < 64) : Calls Tryd.prog 14 #[.int .i64 (v : Nat)] w fun e w' => e = .returned (.tuple #[.int .u8 (charN v : Nat), .bool true]) ∧ w = w' := by
  have ha := fun W => run_alph v hv W
  unfold alphS at ha
  go_enter Tryd.func14, Tryd.ntmps14
  go_wp2_with fail
  refine bodyPost_ret (results_tmp2 rfl _ _ _) rfl ?_
  exact ⟨rfl, by simp⟩
theorem char_out (v : Int) (w : World) (hv : v < 0 ∨ 64 ≤ v) : Calls Tryd.prog 14 #[.int .i64 v] w fun e w' => e = .returned (.tuple #[.int .u8 0, .bool false]) ∧ w = w' := by
  rcases hv with hv | hv
  · go_enter Tryd.func14, Tryd.ntmps14
    go_wp2_with fail
    refine bodyPost_ret (results_tmp2 rfl _ _ _) rfl ?_
    exact ⟨rfl, by simp⟩
  · by_cases h0 : v < 0
    · omega
    · go_enter Tryd.func14, Tryd.ntmps14
      go_wp2_with fail
      refine bodyPost_ret (results_tmp2 rfl _ _ _) rfl ?_
      exact ⟨rfl, by simp⟩
theorem alph_get (v : Nat) (hv : v < 64) : alph[v]? = some (charN v) := by
  have h : alph.length = 64 := by decide
  unfold charN
  rw [List.getD, List.getElem?_eq_getElem (by omega)]
  rfl
set_option maxRecDepth 100000 in
set_option maxHeartbeats 1000000 in
theorem rvalue_any (c : Nat) (w : World) (hc : c < 256) : Calls Tryd.prog 15 #[.int .u8 (c : Nat)] w fun e w' => e = .returned (.int .i64 (vOf c)) ∧ w = w' := by
  obtain ⟨V, hV⟩ : ∃ V, vOf c = V := ⟨_, rfl⟩
  have HV := Lib.hid hV
  rw [hV]
  clear hV
  go_enter Tryd.func15, Tryd.ntmps15
  go_wp2_with fail
  go_loopw [4] (fun i wr => ∃ (j : Nat), j ≤ 64 ∧ i = .int .i64 j ∧ (∀ k, k < j → alph[k]? ≠ some c) ∧ wr = w) (fun i _ => 64 - (intOf i).toNat)
  case atStart => exact ⟨0, by omega, rfl, fun k hk => by omega, rfl⟩
  case round =>
    obtain ⟨j, hj, rfl, hno, rfl⟩ := hrel
    have HN := Lib.hid hno
    clear hno
    by_cases hlt : j < 64
    · have ha := fun W => run_alph j hlt W
      unfold alphS at ha
      by_cases he : charN j = c
      · have HVV := Lib.hid (show V = (j : Int) by rw [← HV.out]; exact vOf_hit (by rw [alph_get j hlt, he]) HN.out)
        have he2 : ((charN j : Int) == (c : Int)) = true := by simp [he]
        clear HN HV
        go_wp2_with fail
        go_ret
        exact ⟨ret_int (by rw [HVV.out]), by simp⟩
      · have he2 : ((charN j : Int) == (c : Int)) = false := by simp; omega
        have HNN := Lib.hid (show ∀ k, k < j + 1 → alph[k]? ≠ some c from fun k hk => by
          rcases Nat.lt_or_ge k j with h | h
          · exact HN.out k h
          · obtain rfl : k = j := by omega
            rw [alph_get k hlt]
            simpa using he)
        clear HN
        go_wp2_with fail
        go_roundw
        case rel => exact ⟨j + 1, by omega, by go_num, HNN.out, by simp⟩
        case measure => simp [intOf]; omega
    · obtain rfl : j = 64 := by omega
      have HVV := Lib.hid (show V = -1 by rw [← HV.out]; exact vOf_miss HN.out)
      clear HN HV
      go_wp2_with fail
      go_ret
      exact ⟨ret_int (by rw [HVV.out]), by simp⟩
end Go.Proofs.YtojfghfgaljkkaaDoor
