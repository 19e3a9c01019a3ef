import Derived.Test.YtojfghfgaljkkaaDoorPl
namespace Go.Proofs.YtojfghfgaljkkaaDoor
open Go.ChangeShapes Go.WideShapes Go.ChangeAt Go.RowKit
set_option linter.unusedVariables false
set_option linter.unusedSimpArgs false
/-- The table of ranges, as laid. -/
def tabV : List Value := [.int .i64 65, .int .i64 26, .int .i64 0, .int .i64 97, .int .i64 26, .int .i64 26, .int .i64 48, .int .i64 10, .int .i64 52, .int .i64 43, .int .i64 1, .int .i64 62, .int .i64 47, .int .i64 1, .int .i64 63]
def Tab (w : World) : Prop := 0 < w.heap.size ∧ w.rangeAt 0 0 tabV
theorem Tab.below {w w' : World} (h : Tab w) (hb : Below w.heap.size w w') : Tab w' := ⟨Nat.lt_of_lt_of_le h.1 hb.size, fun j v hv => (hb.cell (p := ⟨0, 0 + j, none⟩) h.1).trans (h.2 j v hv)⟩
theorem Tab.drewN {w : World} (h : Tab w) (k : Nat) : Tab (w.drewN k) := h
theorem Tab.drew {w : World} (h : Tab w) : Tab w.drew := h
def rg (j : Nat) : Nat × Nat × Nat := [(65, 26, 0), (97, 26, 26), (48, 10, 52), (43, 1, 62), (47, 1, 63)].getD j (0, 0, 0)
set_option maxRecDepth 100000 in
set_option maxHeartbeats 2000000 in
theorem value_any (c : Nat) (w : World) (hT : Tab w) (hc : c < 256) : Calls Tryd.prog 13 #[.int .u8 (c : Nat)] w fun e w' => e = .returned (.int .i64 (vOf c)) ∧ Below w.heap.size w w' := by
  rw [← vRange_eq c hc]
  have HT := Lib.hid hT
  clear hT
  obtain ⟨V, hV⟩ : ∃ V, vRange c = V := ⟨_, rfl⟩
  have HV := Lib.hid hV
  rw [hV]
  clear hV
  go_enter Tryd.func13, Tryd.ntmps13
  go_wp2_with (refine wpList_load_mid rfl 52 (.global 0) rfl 0 0 rfl tabV (.array 5 51) HT.out.2 Tryd.underlying52 rfl (by kernel_rfl) ?_)
  go_loopw [7] (fun i wr => ∃ (j : Nat), j ≤ 5 ∧ i = .int .i64 j ∧ (∀ k, k < j → ¬ ((rg k).1 ≤ c ∧ c < (rg k).1 + (rg k).2.1)) ∧ Below w.heap.size w wr) (fun i _ => 5 - (intOf i).toNat)
  case atStart => exact ⟨0, by omega, rfl, fun k hk => by omega, Below.refl _ _⟩
  case round =>
    obtain ⟨j, hj, rfl, hno, hbel⟩ := hrel
    have HB := Lib.hid hbel
    have HN := Lib.hid hno
    have hsz := hbel.size
    clear hno hbel
    rcases (show j = 0 ∨ j = 1 ∨ j = 2 ∨ j = 3 ∨ j = 4 ∨ j = 5 by omega) with rfl | rfl | rfl | rfl | rfl | rfl
    · have hix : ∀ W : World, (Instr.index 52 (.agg tabV.toArray) (.int .i64 0)).run Tryd.prog W = .ok (.agg #[.int .i64 65, .int .i64 26, .int .i64 0]) W := fun W => by kernel_rfl
      by_cases hin : 65 ≤ c ∧ c < 91
      · have hv : V = (c : Int) - 65 + 0 := by
          have h := HV.out
          unfold vRange at h
          rw [← h]
          repeat' split
          all_goals omega
        obtain ⟨h1, h2⟩ := hin
        have HVV := Lib.hid hv
        clear hv HN HV
        go_wp2_with fail
        go_ret
        exact ⟨ret_int (by rw [HVV.out]; try omega), (HB.out.alloc hsz _)⟩
      · have HNN := Lib.hid (show ∀ k, k < 1 → ¬ ((rg k).1 ≤ c ∧ c < (rg k).1 + (rg k).2.1) from fun k hk => by
          rcases Nat.lt_or_ge k 0 with h | h
          · exact HN.out k h
          · obtain rfl : k = 0 := by omega
            simpa [rg] using hin)
        clear HN
        by_cases h1 : 65 ≤ c
        all_goals
          go_wp2_with fail
          all_goals first
            | (exfalso; omega)
            | (go_roundw
               case rel => exact ⟨1, by omega, by simp, HNN.out, HB.out.alloc hsz _⟩
               case measure => simp [intOf])
    · have hix : ∀ W : World, (Instr.index 52 (.agg tabV.toArray) (.int .i64 1)).run Tryd.prog W = .ok (.agg #[.int .i64 97, .int .i64 26, .int .i64 26]) W := fun W => by kernel_rfl
      by_cases hin : 97 ≤ c ∧ c < 123
      · have hv : V = (c : Int) - 97 + 26 := by
          have h := HV.out
          unfold vRange at h
          have n0 := HN.out 0 (by omega)
          simp [rg] at n0 
          rw [← h]
          repeat' split
          all_goals omega
        obtain ⟨h1, h2⟩ := hin
        have HVV := Lib.hid hv
        clear hv HN HV
        go_wp2_with fail
        go_ret
        exact ⟨ret_int (by rw [HVV.out]; try omega), (HB.out.alloc hsz _)⟩
      · have HNN := Lib.hid (show ∀ k, k < 2 → ¬ ((rg k).1 ≤ c ∧ c < (rg k).1 + (rg k).2.1) from fun k hk => by
          rcases Nat.lt_or_ge k 1 with h | h
          · exact HN.out k h
          · obtain rfl : k = 1 := by omega
            simpa [rg] using hin)
        clear HN
        by_cases h1 : 97 ≤ c
        all_goals
          go_wp2_with fail
          all_goals first
            | (exfalso; omega)
            | (go_roundw
               case rel => exact ⟨2, by omega, by simp, HNN.out, HB.out.alloc hsz _⟩
               case measure => simp [intOf])
    · have hix : ∀ W : World, (Instr.index 52 (.agg tabV.toArray) (.int .i64 2)).run Tryd.prog W = .ok (.agg #[.int .i64 48, .int .i64 10, .int .i64 52]) W := fun W => by kernel_rfl
      by_cases hin : 48 ≤ c ∧ c < 58
      · have hv : V = (c : Int) - 48 + 52 := by
          have h := HV.out
          unfold vRange at h
          have n0 := HN.out 0 (by omega)
          have n1 := HN.out 1 (by omega)
          simp [rg] at n0 n1 
          rw [← h]
          repeat' split
          all_goals omega
        obtain ⟨h1, h2⟩ := hin
        have HVV := Lib.hid hv
        clear hv HN HV
        go_wp2_with fail
        go_ret
        exact ⟨ret_int (by rw [HVV.out]; try omega), (HB.out.alloc hsz _)⟩
      · have HNN := Lib.hid (show ∀ k, k < 3 → ¬ ((rg k).1 ≤ c ∧ c < (rg k).1 + (rg k).2.1) from fun k hk => by
          rcases Nat.lt_or_ge k 2 with h | h
          · exact HN.out k h
          · obtain rfl : k = 2 := by omega
            simpa [rg] using hin)
        clear HN
        by_cases h1 : 48 ≤ c
        all_goals
          go_wp2_with fail
          all_goals first
            | (exfalso; omega)
            | (go_roundw
               case rel => exact ⟨3, by omega, by simp, HNN.out, HB.out.alloc hsz _⟩
               case measure => simp [intOf])
    · have hix : ∀ W : World, (Instr.index 52 (.agg tabV.toArray) (.int .i64 3)).run Tryd.prog W = .ok (.agg #[.int .i64 43, .int .i64 1, .int .i64 62]) W := fun W => by kernel_rfl
      by_cases hin : 43 ≤ c ∧ c < 44
      · have hv : V = (c : Int) - 43 + 62 := by
          have h := HV.out
          unfold vRange at h
          have n0 := HN.out 0 (by omega)
          have n1 := HN.out 1 (by omega)
          have n2 := HN.out 2 (by omega)
          simp [rg] at n0 n1 n2 
          rw [← h]
          repeat' split
          all_goals omega
        obtain ⟨h1, h2⟩ := hin
        have HVV := Lib.hid hv
        clear hv HN HV
        go_wp2_with fail
        go_ret
        exact ⟨ret_int (by rw [HVV.out]; try omega), (HB.out.alloc hsz _)⟩
      · have HNN := Lib.hid (show ∀ k, k < 4 → ¬ ((rg k).1 ≤ c ∧ c < (rg k).1 + (rg k).2.1) from fun k hk => by
          rcases Nat.lt_or_ge k 3 with h | h
          · exact HN.out k h
          · obtain rfl : k = 3 := by omega
            simpa [rg] using hin)
        clear HN
        by_cases h1 : 43 ≤ c
        all_goals
          go_wp2_with fail
          all_goals first
            | (exfalso; omega)
            | (go_roundw
               case rel => exact ⟨4, by omega, by simp, HNN.out, HB.out.alloc hsz _⟩
               case measure => simp [intOf])
    · have hix : ∀ W : World, (Instr.index 52 (.agg tabV.toArray) (.int .i64 4)).run Tryd.prog W = .ok (.agg #[.int .i64 47, .int .i64 1, .int .i64 63]) W := fun W => by kernel_rfl
      by_cases hin : 47 ≤ c ∧ c < 48
      · have hv : V = (c : Int) - 47 + 63 := by
          have h := HV.out
          unfold vRange at h
          have n0 := HN.out 0 (by omega)
          have n1 := HN.out 1 (by omega)
          have n2 := HN.out 2 (by omega)
          have n3 := HN.out 3 (by omega)
          simp [rg] at n0 n1 n2 n3 
          rw [← h]
          repeat' split
          all_goals omega
        obtain ⟨h1, h2⟩ := hin
        have HVV := Lib.hid hv
        clear hv HN HV
        go_wp2_with fail
        go_ret
        exact ⟨ret_int (by rw [HVV.out]; try omega), (HB.out.alloc hsz _)⟩
      · have HNN := Lib.hid (show ∀ k, k < 5 → ¬ ((rg k).1 ≤ c ∧ c < (rg k).1 + (rg k).2.1) from fun k hk => by
          rcases Nat.lt_or_ge k 4 with h | h
          · exact HN.out k h
          · obtain rfl : k = 4 := by omega
            simpa [rg] using hin)
        clear HN
        by_cases h1 : 47 ≤ c
        all_goals
          go_wp2_with fail
          all_goals first
            | (exfalso; omega)
            | (go_roundw
               case rel => exact ⟨5, by omega, by simp, HNN.out, HB.out.alloc hsz _⟩
               case measure => simp [intOf])
    · have hv : V = -1 := by
        have h := HV.out
        unfold vRange at h
        have n0 := HN.out 0 (by omega)
        have n1 := HN.out 1 (by omega)
        have n2 := HN.out 2 (by omega)
        have n3 := HN.out 3 (by omega)
        have n4 := HN.out 4 (by omega)
        simp [rg] at n0 n1 n2 n3 n4
        rw [← h]
        repeat' split
        all_goals omega
      subst hv
      go_wp2_with fail
      go_ret
      exact ⟨rfl, HB.out⟩
end Go.Proofs.YtojfghfgaljkkaaDoor
