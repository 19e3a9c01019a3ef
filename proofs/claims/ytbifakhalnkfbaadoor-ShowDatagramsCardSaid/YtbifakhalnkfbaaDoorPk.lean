import Derived.Test.YtbifakhalnkfbaaDoorByn
import Derived.Test.YtbifakhalnkfbaaDoorSt
namespace Go.Proofs.YtbifakhalnkfbaaDoor
open Go.ChangeShapes Go.WideShapes Go.ChangeAt Go.RowKit
set_option linter.unusedVariables false
set_option linter.unusedSimpArgs false
/-- The number of the head. -/
def hd (bs : List Nat) : Nat := num (bs.take 8)
theorem hd_lt {w : World} {A : Option Addr} {n : Nat} {bs : List Nat} (h : Bys w A n bs) : hd bs < 18446744073709551616 := by
  have := num_take_lt bs h.2 8
  unfold hd
  omega
theorem Bys.first {w : World} {b o n : Nat} {bs : List Nat} (h : Bys w (some ⟨b, o, none⟩) n bs) (k : Nat) (hk : k ≤ n) : Bys w (some ⟨b, o, none⟩) k (bs.take k) := by
  have hl := h.len
  refine ⟨⟨by simp [hl]; omega, fun hn => ⟨_, rfl, ?_, fun j u hu => ?_⟩⟩, fun x hx => h.2 x (List.mem_of_mem_take hx)⟩
  · obtain ⟨ad, e, hb, _⟩ := h.1.2 (by omega)
    injection e with e; subst e; exact hb
  · obtain ⟨ad, e, hb, hc⟩ := h.1.2 (by omega)
    injection e with e; subst e
    refine hc j u ?_
    rw [List.map_take, List.getElem?_take] at hu
    split at hu
    · exact hu
    · cases hu
set_option maxRecDepth 100000 in
theorem length_low (n : Nat) (w : World) (h1 : n < 28) : Calls Tryd.prog 44 #[.int .i64 n] w fun e w' => e = .returned (.iface 99 (.int .i64 1)) ∧ w = w' := by
  have hi : (n : Int) < 28 := by omega
  go_enter Tryd.func44, Tryd.ntmps44
  go_wp2_with fail
  all_goals go_ret
  exact ⟨rfl, rfl⟩
set_option maxRecDepth 100000 in
theorem length_high (n : Nat) (w : World) (h1 : 1228 < n) : Calls Tryd.prog 44 #[.int .i64 n] w fun e w' => e = .returned (.iface 99 (.int .i64 2)) ∧ w = w' := by
  have hi : (1228 : Int) < (n : Int) := by omega
  have hi2 : (28 : Int) ≤ (n : Int) := by omega
  go_enter Tryd.func44, Tryd.ntmps44
  go_wp2_with fail
  all_goals go_ret
  exact ⟨rfl, rfl⟩
set_option maxRecDepth 100000 in
theorem length_ok (n : Nat) (w : World) (h1 : 28 ≤ n) (h2 : n ≤ 1228) : Calls Tryd.prog 44 #[.int .i64 n] w fun e w' => e = .returned .nilIface ∧ w = w' := by
  have hi : (n : Int) ≤ 1228 := by omega
  have hi2 : (28 : Int) ≤ (n : Int) := by omega
  go_enter Tryd.func44, Tryd.ntmps44
  go_wp2_with fail
  all_goals go_ret
  exact ⟨rfl, rfl⟩
set_option maxRecDepth 100000 in
theorem head_any (A : Option Addr) (n c : Nat) (bs : List Nat) (w : World) (hb : Bys w A n bs) (h1 : 28 ≤ n) (hn : n ≤ 1228) (hnc : n ≤ c) (hcm : c ≤ maxLen) :
    Calls Tryd.prog 45 #[.slice A n c] w fun e w' => e = .returned (.tuple #[.int .i64 ((hd bs / 9223372036854775808 : Nat) : Int), .int .u64 ((hd bs % 9223372036854775808 : Nat) : Int), .bool true]) ∧ w = w' := by
  obtain ⟨b, o, _, rfl, _, _, _, _⟩ := hb.cell (k := 0) (by omega)
  have h8 := hb.first 8 (by omega)
  have hl8 := h8.len
  have hx := hd_lt hb
  have hs := bnum_any (some ⟨b, o, none⟩) 8 c (bs.take 8) w h8 (by unfold maxLen; omega) (by omega) hcm
  have e8 : last8 (bs.take 8) = bs.take 8 := by unfold last8; rw [hl8]; rfl
  rw [e8, show num (bs.take 8) = hd bs from rfl] at hs
  obtain ⟨x, hxx⟩ : ∃ x, hd bs = x := ⟨_, rfl⟩
  rw [hxx] at hs hx ⊢
  have hm63 : c ≤ 9223372036854775807 := by unfold maxLen at hcm; omega
  have hi1 : (28 : Int) ≤ (n : Int) := by omega
  have hi2 : (8 : Int) ≤ (c : Int) := by omega
  have hi3 : ¬ c = 0 := by omega
  clear hb h8 hl8 e8 hxx hcm
  have hand : bits .and .u64 (x : Int) 9223372036854775807 = ((x % 9223372036854775808 : Nat) : Int) := by
    have e := u64_and_nat x 9223372036854775807 hx (by decide)
    rw [show (9223372036854775807 : Nat) = 2 ^ 63 - 1 by decide, Nat.and_two_pow_sub_one_eq_mod] at e
    exact e
  have HAND := Lib.hid hand
  clear hand
  go_enter Tryd.func45, Tryd.ntmps45
  go_wp2_with (go_at_call 62; refine hs.mono ?_; rintro _ _ ⟨rfl, rfl⟩; refine Hid.out ?_)
  refine Lib.hid ?_
  go_wp2_with fail
  go_ret3
  refine ⟨?_, rfl⟩
  rw [← HAND.out]
  simp
set_option maxRecDepth 100000 in
theorem peek_low (A : Option Addr) (n c : Nat) (w : World) (h1 : n < 28) :
    Calls Tryd.prog 34 #[.slice A n c] w fun e w' => e = .returned (.tuple #[.int .i64 0, .int .u64 0, .bool false]) ∧ w = w' := by
  have hl := length_low n w h1
  have hi2 : (n : Int) ≤ 9223372036854775807 := by omega
  go_enter Tryd.func34, Tryd.ntmps34
  go_wp2_with (go_at_call 44; refine hl.mono ?_; rintro _ _ ⟨rfl, rfl⟩)
  go_ret3
  exact ⟨rfl, rfl⟩
set_option maxRecDepth 100000 in
theorem peek_high (A : Option Addr) (n c : Nat) (w : World) (h1 : 1228 < n) (hn : n ≤ maxLen) :
    Calls Tryd.prog 34 #[.slice A n c] w fun e w' => e = .returned (.tuple #[.int .i64 0, .int .u64 0, .bool false]) ∧ w = w' := by
  have hl := length_high n w h1
  have hi2 : (n : Int) ≤ 9223372036854775807 := by unfold maxLen at hn; omega
  go_enter Tryd.func34, Tryd.ntmps34
  go_wp2_with (go_at_call 44; refine hl.mono ?_; rintro _ _ ⟨rfl, rfl⟩)
  go_ret3
  exact ⟨rfl, rfl⟩
set_option maxRecDepth 100000 in
theorem peek_any (A : Option Addr) (n c : Nat) (bs : List Nat) (w : World) (hb : Bys w A n bs) (h1 : 28 ≤ n) (hn : n ≤ 1228) (hnc : n ≤ c) (hcm : c ≤ maxLen) :
    Calls Tryd.prog 34 #[.slice A n c] w fun e w' => e = .returned (.tuple #[.int .i64 ((hd bs / 9223372036854775808 : Nat) : Int), .int .u64 ((hd bs % 9223372036854775808 : Nat) : Int), .bool true]) ∧ w = w' := by
  have hl := length_ok n w h1 hn
  have hh := head_any A n c bs w hb h1 hn hnc hcm
  obtain ⟨x, hx⟩ : ∃ x, hd bs / 9223372036854775808 = x := ⟨_, rfl⟩
  obtain ⟨y, hy⟩ : ∃ x, hd bs % 9223372036854775808 = x := ⟨_, rfl⟩
  rw [hx, hy] at hh ⊢
  clear hb hcm hx hy
  go_enter Tryd.func34, Tryd.ntmps34
  go_wp2_with (first | (go_at_call 44; refine hl.mono ?_; rintro _ _ ⟨rfl, rfl⟩) | (go_at_call 45; refine hh.mono ?_; rintro _ _ ⟨rfl, rfl⟩))
  go_ret3
  exact ⟨rfl, rfl⟩
set_option maxRecDepth 100000 in
theorem rhead_any (A : Option Addr) (n c : Nat) (bs : List Nat) (w : World) (hb : Bys w A n bs) (h1 : 28 ≤ n) (hn : n ≤ 1228) (hnc : n ≤ c) (hcm : c ≤ maxLen) :
    Calls Tryd.prog 35 #[.slice A n c] w fun e w' => e = .returned (.tuple #[.int .i64 ((hd bs / 9223372036854775808 : Nat) : Int), .int .u64 ((hd bs % 9223372036854775808 : Nat) : Int)]) ∧ w = w' := by
  obtain ⟨b, o, _, rfl, _, _, _, _⟩ := hb.cell (k := 0) (by omega)
  have h8 := hb.first 8 (by omega)
  have hx := hd_lt hb
  have hs := rbnum_any (some ⟨b, o, none⟩) 8 c (bs.take 8) w h8 (by unfold maxLen; omega)
  rw [show num (bs.take 8) = hd bs from rfl, show hd bs % M64 = hd bs from Nat.mod_eq_of_lt hx] at hs
  obtain ⟨x, hxx⟩ : ∃ x, hd bs = x := ⟨_, rfl⟩
  rw [hxx] at hs hx ⊢
  have hm63 : c ≤ 9223372036854775807 := by unfold maxLen at hcm; omega
  have hi1 : (28 : Int) ≤ (n : Int) := by omega
  have hi2 : (8 : Int) ≤ (c : Int) := by omega
  have hi3 : ¬ c = 0 := by omega
  clear hb h8 hxx hcm
  by_cases hc : 9223372036854775808 ≤ x
  · have e1 : x / 9223372036854775808 = 1 := by omega
    have e2 : x % 9223372036854775808 = x - 9223372036854775808 := by omega
    have e3 : ((x - 9223372036854775808 : Nat) : Int) = (x : Int) - 9223372036854775808 := by omega
    have hi : (9223372036854775808 : Int) ≤ (x : Int) := by omega
    rw [e1, e2]
    have HE := Lib.hid e3
    clear e1 e2 e3
    go_enter Tryd.func35, Tryd.ntmps35
    go_wp2_with (go_at_call 46; refine hs.mono ?_; rintro _ _ ⟨rfl, rfl⟩; refine Hid.out ?_)
    refine Lib.hid ?_
    go_wp2_with fail
    go_ret2
    refine ⟨?_, rfl⟩
    rw [HE.out]
    rfl
  · have e1 : x / 9223372036854775808 = 0 := by omega
    have e2 : x % 9223372036854775808 = x := by omega
    have HI := Lib.hid (show ¬ (9223372036854775808 : Int) ≤ (x : Int) by omega)
    rw [e1, e2]
    clear e1 e2 hc hx
    go_enter Tryd.func35, Tryd.ntmps35
    go_wp2_with (go_at_call 46; refine hs.mono ?_; rintro _ _ ⟨rfl, rfl⟩; refine Hid.out ?_)
    refine Lib.hid ?_
    clear hs
    have hib : decide (9223372036854775808 ≤ (x : Int)) = false := decide_eq_false (by have := HI.out; omega)
    go_upto_if 9 with (fail)
    go_wp2_with fail
    go_ret2
    exact ⟨rfl, rfl⟩
end Go.Proofs.YtbifakhalnkfbaaDoor
