import Derived.Test.YtojfghfgaljkkaaDoorAwk
namespace Go.Proofs.YtojfghfgaljkkaaDoor
open Go.ChangeShapes Go.WideShapes Go.ChangeAt Go.RowKit
set_option linter.unusedVariables false
set_option linter.unusedSimpArgs false
set_option maxRecDepth 100000 in
set_option maxHeartbeats 4000000 in
theorem values_any (c : Nat) (v : Int) (w : World) (hc : c < 256) (hT : Tab w) (hE : Err w) : Calls Tryd.prog 5 #[.int .u8 (c : Nat), .int .i64 v] w fun e w' => e = .returned (.bool true) ∧ Below w.heap.size w w' := by
  have hA := awake_any w hT hE
  have hval := fun (c : Nat) (hc : c < 256) (W : World) (hW : Below w.heap.size w W) => (value_any c W (hT.below hW) hc)
  have hrv := fun (W : World) => rvalue_any c W hc
  have hch : ∀ W, ∃ x : Nat, ∃ ok : Bool, x < 256 ∧ (ok = true ↔ 0 ≤ v ∧ v < 64) ∧ (ok = true → vOf x = v) ∧ (ok = false → x = 0) ∧ Calls Tryd.prog 14 #[.int .i64 v] W fun e w' => e = .returned (.tuple #[.int .u8 (x : Nat), .bool ok]) ∧ W = w' := by
    intro W
    by_cases hv : 0 ≤ v ∧ v < 64
    · obtain ⟨n, rfl⟩ : ∃ n : Nat, v = n := ⟨v.toNat, by omega⟩
      exact ⟨charN n, true, charN_lt n (by omega), by simp [hv], fun _ => vOf_charN n (by omega), by simp, char_in n W (by omega)⟩
    · exact ⟨0, false, by omega, by simp [hv], by simp, fun _ => rfl, char_out v W (by omega)⟩
  have hcn : ∀ W, 0 ≤ vOf c → Calls Tryd.prog 14 #[.int .i64 (vOf c)] W fun e w' => e = .returned (.tuple #[.int .u8 (c : Nat), .bool true]) ∧ W = w' := by
    intro W h0
    obtain ⟨h1, h2⟩ := charN_vOf c hc h0
    have := char_in (vOf c).toNat W (by omega)
    rw [h1, show (((vOf c).toNat : Nat) : Int) = vOf c by omega] at this
    exact this
  have hvc := hval c hc
  obtain ⟨n, hn⟩ : ∃ n, vOf c = n := ⟨_, rfl⟩
  rw [hn] at hvc
  simp only [hn] at hcn hrv
  go_enter Tryd.func5, Tryd.ntmps5
  go_wp2_with (first | (go_at_call 7; refine hA.mono ?_; rintro _ w1 ⟨rfl, hb1⟩; refine Hid.out ?_))
  refine Lib.hid ?_
  have H1 := Lib.hid hb1
  clear hb1
  go_wp2_with (first | (go_at_call 13; refine (hvc _ H1.out).mono ?_; rintro _ w2 ⟨rfl, hb2⟩; refine Hid.out ?_))
  refine Lib.hid ?_
  have H2 := Lib.hid (H1.out.trans (hb2.mono H1.out.size))
  clear hb2
  obtain ⟨x, ok, hx, hok, hokt, hokf, hcall⟩ := hch w2
  have hvx : ok = true → ∀ W, Below w.heap.size w W → Calls Tryd.prog 13 #[.int .u8 (x : Nat)] W fun e w' => e = .returned (.int .i64 v) ∧ Below W.heap.size W w' := fun h W hW => hokt h ▸ hval x hx W hW
  clear hch
  go_wp2_with (first
        | (go_at_call 14; refine hcall.mono ?_; rintro _ w3 ⟨rfl, rfl⟩; refine Hid.out ?_))
  refine Lib.hid ?_
  go_wp2_with (first
        | (go_at_call 15; refine (hrv _).mono ?_; rintro _ w3 ⟨rfl, rfl⟩; refine Hid.out ?_))
  refine Lib.hid ?_
  have hcn' := fun h W => hcn W h
  clear hcn
  by_cases h0 : 0 ≤ n
  · replace hcn' := hcn' h0
    cases ok with
    | true =>
      obtain ⟨hv0, hv1⟩ := hok.1 rfl
      have hvx' := hvx rfl
      clear hok hokt hokf hvx hn
      go_wp2_with (go_at_call 14; refine (hcn' _).mono ?_; rintro _ _ ⟨rfl, rfl⟩; refine Hid.out ?_)
      refine Lib.hid ?_
      go_wp2_with (go_at_call 13; refine (hvx' _ H2.out).mono ?_; rintro _ w3 ⟨rfl, hb3⟩; refine Hid.out ?_)
      refine Lib.hid ?_
      go_wp2_with fail
      all_goals (try go_ret)
      all_goals (exact ⟨ret_true (by simp; try omega), H2.out.trans (hb3.mono H2.out.size)⟩)
    | false =>
      have hv : v < 0 ∨ 64 ≤ v := by have : ¬(0 ≤ v ∧ v < 64) := (fun h => by simpa using hok.2 h)
                                     omega
      clear hok hokt hokf hvx hn
      rcases hv with hv | hv
      all_goals (go_wp2_with (go_at_call 14; refine (hcn' _).mono ?_; rintro _ _ ⟨rfl, rfl⟩; refine Hid.out ?_))
      all_goals (refine Lib.hid ?_)
      all_goals (go_wp2_with fail)
      all_goals (try go_ret)
      all_goals (exact ⟨ret_true (by simp; try omega), H2.out⟩)
  · replace h0 : n < 0 := by omega
    clear hcn'
    cases ok with
    | true =>
      obtain ⟨hv0, hv1⟩ := hok.1 rfl
      have hvx' := hvx rfl
      clear hok hokt hokf hvx hn
      go_wp2_with (go_at_call 13; refine (hvx' _ H2.out).mono ?_; rintro _ w3 ⟨rfl, hb3⟩; refine Hid.out ?_)
      refine Lib.hid ?_
      go_wp2_with fail
      all_goals (try go_ret)
      all_goals (exact ⟨ret_true (by simp; try omega), H2.out.trans (hb3.mono H2.out.size)⟩)
    | false =>
      have hv : v < 0 ∨ 64 ≤ v := by have : ¬(0 ≤ v ∧ v < 64) := (fun h => by simpa using hok.2 h)
                                     omega
      obtain rfl := hokf rfl
      clear hok hokt hvx hokf hn
      rcases hv with hv | hv
      all_goals (go_wp2_with fail)
      all_goals (try go_ret)
      all_goals (exact ⟨ret_true (by simp; try omega), H2.out⟩)
end Go.Proofs.YtojfghfgaljkkaaDoor
