import Derived.Test.YthfjjphpnakgnaaDoorAwk
import Derived.BigQuiet
namespace Go.Proofs.YthfjjphpnakgnaaDoor
open Go.ChangeShapes Go.WideShapes Go.ChangeAt Go.RowKit Go.Sort
set_option linter.unusedVariables false
set_option linter.unusedSimpArgs false
theorem last8_lt {bs : List Nat} (h : ∀ x ∈ bs, x < 256) : ∀ x ∈ last8 bs, x < 256 := fun x hx => h x (List.mem_of_mem_drop hx)
theorem num_mod (l : List Nat) (bs : List Nat) (h : bs.length = 8) : num (l ++ bs) % M64 = num bs % M64 := by
  have : num (l ++ bs) = num l * 256 ^ bs.length + num bs := by
    induction l with
    | nil => simp [num]
    | cons a l ih => rw [List.cons_append, num_cons, num_cons, ih, List.length_append, Nat.pow_add, Nat.add_mul, Nat.mul_assoc, Nat.add_assoc]
  rw [this, h]
  unfold M64; omega
theorem num_last8 (bs : List Nat) (h : ∀ x ∈ bs, x < 256) : num bs % M64 = num (last8 bs) := by
  have hl := last8_lt h
  have hlt := num_take_lt (last8 bs) hl (last8 bs).length
  rw [List.take_length] at hlt
  have hlen : (last8 bs).length = min bs.length 8 := by simp [last8]; omega
  have hlt2 : num (last8 bs) < M64 := by
    have := Nat.pow_le_pow_right (n := 256) (by omega) (show (last8 bs).length ≤ 8 by omega)
    unfold M64; omega
  by_cases h8 : 8 ≤ bs.length
  · have e : bs = bs.take (bs.length - 8) ++ last8 bs := (List.take_append_drop _ _).symm
    have := num_mod (bs.take (bs.length - 8)) (last8 bs) (by omega)
    rw [← e] at this
    rw [this, Nat.mod_eq_of_lt hlt2]
  · have e : last8 bs = bs := by unfold last8; rw [show bs.length - 8 = 0 by omega]; rfl
    rw [e] at hlt2 ⊢
    exact Nat.mod_eq_of_lt hlt2
theorem byL_last8 (bs : List Nat) (h : ∀ x ∈ bs, x < 256) : byL (num (last8 bs)) (min bs.length 8) = last8 bs := by
  have hlen : (last8 bs).length = min bs.length 8 := by simp [last8]; omega
  rw [← hlen]
  exact byL_num _ (last8_lt h)
theorem num_last_lt (bs : List Nat) (h : ∀ x ∈ bs, x < 256) : num (last8 bs) < 18446744073709551616 := by
  rw [← num_last8 bs h]; unfold M64; omega
theorem bytes_at (x : Nat) (n : Int) (m : Nat) (l : List Nat) (w : World) (hx : x < 18446744073709551616) (hm : mOf n = m) (hl : byL x m = l) :
    Calls Tryd.prog 12 #[.int .u64 (x : Nat), .int .i64 n] w fun e w' => (∃ A, e = .returned (.slice A m m) ∧ Bys w' A m l) ∧ Below w.heap.size w w' := by
  have := bytes_any x n w hx
  rwa [hm, hl] at this
theorem Bys.drew {w : World} {A : Option Addr} {n : Nat} {bs : List Nat} (h : Bys w A n bs) : Bys w.drew A n bs := h
theorem rnum_at (A : Option Addr) (n c : Nat) (bs : List Nat) (z : Nat) (w : World) (hb : Bys w A n bs) (hn : n ≤ maxLen) (hz : num bs % M64 = z) :
    Calls Tryd.prog 10 #[.slice A n c] w fun e w' => e = .returned (.int .u64 (z : Nat)) ∧ w = w' := by
  have := rnum_any A n c bs w hb hn; rwa [hz] at this
theorem wpAny_frame {P : Program} {md : Region.Mode} {ops : Array Oper} {Q : Exit → Act → World → Prop} {fuel : Nat} {listed : Array Bool} {a a' : Act} {w : World} (e : a = a') (h : wpAny P md ops Q fuel listed a' w) : wpAny P md ops Q fuel listed a w := e ▸ h
theorem same_t {A B : Option Addr} {n c m d : Nat} (xs ys : List Nat) (w : World) (hx : Bys w A n xs) (hy : Bys w B m ys) (hn : n ≤ maxLen := by assumption) (hm : m ≤ maxLen := by assumption) (he : decide (xs = ys) = true := by simp) :
    Calls Tryd.prog 11 #[.slice A n c, .slice B m d] w fun e w' => e = .returned (.bool true) ∧ Below w.heap.size w w' := by
  have := same_below A B n c m d xs ys w hx hy hn hm
  rwa [he] at this
set_option maxRecDepth 100000 in
set_option maxHeartbeats 2000000 in
theorem matches_any (A : Option Addr) (n c : Nat) (bs : List Nat) (w : World) (hT : Tab w) (hb : Bys w A n bs) (hnc : n ≤ c) (hc : c ≤ maxLen) :
    Calls Tryd.prog 3 #[.slice A n c] w fun e w' => e = .returned (.bool true) ∧ Below w.heap.size w w' := by
  have HM := Lib.hid (show n ≤ maxLen by omega)
  have HC := Lib.hid hc
  unfold maxLen at hc
  have HT := Lib.hid hT
  have HB := Lib.hid hb
  have HN := Lib.hid hb.len
  have hz := num_last8 bs hb.2
  have hzl := num_last_lt bs hb.2
  have hbz := byL_last8 bs hb.2
  rw [hb.len] at hbz
  have hl8 : last8 bs = bs.drop (n - 8) := by unfold last8; rw [hb.len]
  clear hb hT
  by_cases h1 : 1000 < n
  · clear hz hzl hbz hl8
    go_enter Tryd.func3, Tryd.ntmps3
    go_wp2_with fail
    refine (awake_any _ HT.out).mono ?_
    rintro e w1 ⟨rfl, hb1⟩
    go_wp2_with fail
    refine (awake_any _ (HT.out.below hb1)).mono ?_
    rintro e w2 ⟨rfl, hb2⟩
    go_wp2_with fail
    go_ret
    exact ⟨rfl, hb1.trans (hb2.mono hb1.size)⟩
  · obtain ⟨z, hzz⟩ : ∃ z, num (last8 bs) = z := ⟨_, rfl⟩
    have hnum : ∀ w, Bys w A n bs → Calls Tryd.prog 9 #[.slice A n c] w fun e w' => e = .returned (.int .u64 (z : Nat)) ∧ w = w' := by
      intro w h; have := num_any A n c bs w h HM.out hnc HC.out; rwa [hzz] at this
    rw [hzz] at hz hzl hbz
    rw [hl8] at hbz
    have HZ := Lib.hid hz
    have HBZ := Lib.hid hbz
    have HNUM := Lib.hid hnum
    clear hz hbz hl8 hnum hzz
    by_cases h8 : n ≤ 8
    · have hk0 : n - 8 = 0 := by omega
      have hmin : min n 8 = n := by omega
      rw [hk0, hmin, List.drop_zero] at HBZ
      have HMO := Lib.hid (show mOf (n : Int) = n by unfold mOf; omega)
      obtain ⟨q, hq⟩ : ∃ q, bs = q := ⟨_, rfl⟩
      rw [hq] at HBZ
      have hmx : n ≤ maxLen := HM.out
      clear hk0 hmin
      go_enter Tryd.func3, Tryd.ntmps3
      go_wp2_with fail
      refine (awake_any _ HT.out).mono ?_
      rintro e w1 ⟨rfl, hb1⟩
      have HB1 := Lib.hid (HB.out.below hb1)
      have HE1 := Lib.hid hb1
      clear hb1 HB HT
      go_wp2_with fail
      refine (HNUM.out _ HB1.out).mono ?_
      rintro e w2 ⟨rfl, rfl⟩
      go_wp2_with fail
      have Y1 : Bys w1.drew A n bs := Bys.drew HB1.out
      have Y2 : Bys w1.drew A n q := by rw [← hq]; exact Y1
      refine wp_region_any (by kernel_rfl) ?_
      change wpAny _ _ _ _ _ _ _ (World.drew _)
      refine wpAny_take (i := 0) (v := Value.int IntKind.u64 z) rfl (by kernel_rfl) (by kernel_rfl) (by kernel_rfl) (fun _ _ _ h => h) (Or.inl ⟨by kernel_rfl, fun w => by kernel_rfl⟩) ?_
      refine wpAny_frame (a' := { tmps := #[Value.slice A n c, undef, Value.bool false, Value.int IntKind.u64 z, Value.int IntKind.i64 n, Value.bool true, Value.bool false, Value.bool false, Value.slice A n c, Value.int IntKind.i64 n, Value.bool (decide (1000 < (n : Int))), Value.bool (decide (1000 < (n : Int))), undef, Value.slice A n c, Value.int IntKind.u64 z, Value.slice A n c, Value.int IntKind.i64 n, Value.int IntKind.i64 n, Value.int IntKind.u64 z, undef, undef, undef, undef, undef, undef, undef, undef, undef, undef, undef, undef, undef, undef, undef], defers := [] }) (by kernel_rfl) ?_
      refine wpAny_take (i := 1) (v := Value.slice A n c) rfl (by kernel_rfl) (by kernel_rfl) (by kernel_rfl) (fun _ _ _ h => h) (Or.inl ⟨by kernel_rfl, fun w => by kernel_rfl⟩) ?_
      refine wpAny_frame (a' := { tmps := #[Value.slice A n c, undef, Value.bool false, Value.int IntKind.u64 z, Value.int IntKind.i64 n, Value.bool true, Value.bool false, Value.bool false, Value.slice A n c, Value.int IntKind.i64 n, Value.bool (decide (1000 < (n : Int))), Value.bool (decide (1000 < (n : Int))), undef, Value.slice A n c, Value.int IntKind.u64 z, Value.slice A n c, Value.int IntKind.i64 n, Value.int IntKind.i64 n, Value.int IntKind.u64 z, Value.slice A n c, undef, undef, undef, undef, undef, undef, undef, undef, undef, undef, undef, undef, undef, undef], defers := [] }) (by kernel_rfl) ?_
      refine wpAny_ready (rs := [2]) (by kernel_rfl) (by simp) ?_
      refine AllReady.cons rfl (fun K hK => ?_) AllReady.nil
      go_simp
      go_wp2_with (go_at_call 10; refine Calls.mono (rnum_at A n c bs z _ Y1 HM.out HZ.out) ?_; rintro e w7 ⟨rfl, rfl⟩)
      first | (refine hK _ _ ?_; clear hK K) | skip
      refine wpAny_frame (a' := { tmps := #[Value.slice A n c, undef, Value.bool false, Value.int IntKind.u64 z, Value.int IntKind.i64 n, Value.bool true, Value.bool false, Value.bool false, Value.slice A n c, Value.int IntKind.i64 n, Value.bool (decide (1000 < (n : Int))), Value.bool (decide (1000 < (n : Int))), undef, Value.slice A n c, Value.int IntKind.u64 z, Value.slice A n c, Value.int IntKind.i64 n, Value.int IntKind.i64 n, Value.int IntKind.u64 z, Value.slice A n c, Value.int IntKind.u64 z, undef, undef, undef, undef, undef, undef, undef, undef, undef, undef, undef, undef, undef], defers := [] }) (by kernel_rfl) ?_
      refine wpAny_take (i := 3) (v := Value.bool true) rfl (by kernel_rfl) (by kernel_rfl) (by kernel_rfl) (fun _ _ _ h => h) (Or.inl ⟨by kernel_rfl, fun w => by go_simp⟩) ?_
      refine wpAny_frame (a' := { tmps := #[Value.slice A n c, undef, Value.bool false, Value.int IntKind.u64 z, Value.int IntKind.i64 n, Value.bool true, Value.bool false, Value.bool false, Value.slice A n c, Value.int IntKind.i64 n, Value.bool (decide (1000 < (n : Int))), Value.bool (decide (1000 < (n : Int))), undef, Value.slice A n c, Value.int IntKind.u64 z, Value.slice A n c, Value.int IntKind.i64 n, Value.int IntKind.i64 n, Value.int IntKind.u64 z, Value.slice A n c, Value.int IntKind.u64 z, Value.bool true, undef, undef, undef, undef, undef, undef, undef, undef, undef, undef, undef, undef], defers := [] }) (by kernel_rfl) ?_
      refine wpAny_take (i := 4) (v := Value.bool true) rfl (by kernel_rfl) (by kernel_rfl) (by kernel_rfl) (fun _ _ _ h => h) (Or.inl ⟨by kernel_rfl, fun w => by kernel_rfl⟩) ?_
      refine wpAny_frame (a' := { tmps := #[Value.slice A n c, undef, Value.bool false, Value.int IntKind.u64 z, Value.int IntKind.i64 n, Value.bool true, Value.bool false, Value.bool false, Value.slice A n c, Value.int IntKind.i64 n, Value.bool (decide (1000 < (n : Int))), Value.bool (decide (1000 < (n : Int))), undef, Value.slice A n c, Value.int IntKind.u64 z, Value.slice A n c, Value.int IntKind.i64 n, Value.int IntKind.i64 n, Value.int IntKind.u64 z, Value.slice A n c, Value.int IntKind.u64 z, Value.bool true, Value.bool true, undef, undef, undef, undef, undef, undef, undef, undef, undef, undef, undef], defers := [] }) (by kernel_rfl) ?_
      refine wpAny_take (i := 5) (v := Value.int IntKind.u64 z) rfl (by kernel_rfl) (by kernel_rfl) (by kernel_rfl) (fun _ _ _ h => h) (Or.inl ⟨by kernel_rfl, fun w => by kernel_rfl⟩) ?_
      refine wpAny_frame (a' := { tmps := #[Value.slice A n c, undef, Value.bool false, Value.int IntKind.u64 z, Value.int IntKind.i64 n, Value.bool true, Value.bool false, Value.bool false, Value.slice A n c, Value.int IntKind.i64 n, Value.bool (decide (1000 < (n : Int))), Value.bool (decide (1000 < (n : Int))), undef, Value.slice A n c, Value.int IntKind.u64 z, Value.slice A n c, Value.int IntKind.i64 n, Value.int IntKind.i64 n, Value.int IntKind.u64 z, Value.slice A n c, Value.int IntKind.u64 z, Value.bool true, Value.bool true, Value.int IntKind.u64 z, undef, undef, undef, undef, undef, undef, undef, undef, undef, undef], defers := [] }) (by kernel_rfl) ?_
      refine wpAny_take (i := 6) (v := Value.int IntKind.i64 n) rfl (by kernel_rfl) (by kernel_rfl) (by kernel_rfl) (fun _ _ _ h => h) (Or.inl ⟨by kernel_rfl, fun w => by kernel_rfl⟩) ?_
      refine wpAny_frame (a' := { tmps := #[Value.slice A n c, undef, Value.bool false, Value.int IntKind.u64 z, Value.int IntKind.i64 n, Value.bool true, Value.bool false, Value.bool false, Value.slice A n c, Value.int IntKind.i64 n, Value.bool (decide (1000 < (n : Int))), Value.bool (decide (1000 < (n : Int))), undef, Value.slice A n c, Value.int IntKind.u64 z, Value.slice A n c, Value.int IntKind.i64 n, Value.int IntKind.i64 n, Value.int IntKind.u64 z, Value.slice A n c, Value.int IntKind.u64 z, Value.bool true, Value.bool true, Value.int IntKind.u64 z, Value.int IntKind.i64 n, undef, undef, undef, undef, undef, undef, undef, undef, undef], defers := [] }) (by kernel_rfl) ?_
      refine wpAny_take (i := 8) (v := Value.slice A n c) rfl (by kernel_rfl) (by kernel_rfl) (by kernel_rfl) (fun _ _ _ h => h) (Or.inl ⟨by kernel_rfl, fun w => by kernel_rfl⟩) ?_
      refine wpAny_frame (a' := { tmps := #[Value.slice A n c, undef, Value.bool false, Value.int IntKind.u64 z, Value.int IntKind.i64 n, Value.bool true, Value.bool false, Value.bool false, Value.slice A n c, Value.int IntKind.i64 n, Value.bool (decide (1000 < (n : Int))), Value.bool (decide (1000 < (n : Int))), undef, Value.slice A n c, Value.int IntKind.u64 z, Value.slice A n c, Value.int IntKind.i64 n, Value.int IntKind.i64 n, Value.int IntKind.u64 z, Value.slice A n c, Value.int IntKind.u64 z, Value.bool true, Value.bool true, Value.int IntKind.u64 z, Value.int IntKind.i64 n, undef, Value.slice A n c, undef, undef, undef, undef, undef, undef, undef], defers := [] }) (by kernel_rfl) ?_
      refine wpAny_take (i := 9) (v := Value.slice A n c) rfl (by kernel_rfl) (by kernel_rfl) (by kernel_rfl) (fun _ _ _ h => h) (Or.inl ⟨by kernel_rfl, fun w => by kernel_rfl⟩) ?_
      refine wpAny_frame (a' := { tmps := #[Value.slice A n c, undef, Value.bool false, Value.int IntKind.u64 z, Value.int IntKind.i64 n, Value.bool true, Value.bool false, Value.bool false, Value.slice A n c, Value.int IntKind.i64 n, Value.bool (decide (1000 < (n : Int))), Value.bool (decide (1000 < (n : Int))), undef, Value.slice A n c, Value.int IntKind.u64 z, Value.slice A n c, Value.int IntKind.i64 n, Value.int IntKind.i64 n, Value.int IntKind.u64 z, Value.slice A n c, Value.int IntKind.u64 z, Value.bool true, Value.bool true, Value.int IntKind.u64 z, Value.int IntKind.i64 n, undef, Value.slice A n c, Value.slice A n c, undef, undef, undef, undef, undef, undef], defers := [] }) (by kernel_rfl) ?_
      refine wpAny_take (i := 10) (v := Value.int IntKind.i64 n) rfl (by kernel_rfl) (by kernel_rfl) (by kernel_rfl) (fun _ _ _ h => h) (Or.inl ⟨by kernel_rfl, fun w => by go_simp⟩) ?_
      refine wpAny_frame (a' := { tmps := #[Value.slice A n c, undef, Value.bool false, Value.int IntKind.u64 z, Value.int IntKind.i64 n, Value.bool true, Value.bool false, Value.bool false, Value.slice A n c, Value.int IntKind.i64 n, Value.bool (decide (1000 < (n : Int))), Value.bool (decide (1000 < (n : Int))), undef, Value.slice A n c, Value.int IntKind.u64 z, Value.slice A n c, Value.int IntKind.i64 n, Value.int IntKind.i64 n, Value.int IntKind.u64 z, Value.slice A n c, Value.int IntKind.u64 z, Value.bool true, Value.bool true, Value.int IntKind.u64 z, Value.int IntKind.i64 n, undef, Value.slice A n c, Value.slice A n c, Value.int IntKind.i64 n, undef, undef, undef, undef, undef], defers := [] }) (by kernel_rfl) ?_
      refine wpAny_take (i := 11) (v := Value.int IntKind.i64 n) rfl (by kernel_rfl) (by kernel_rfl) (by kernel_rfl) (fun _ _ _ h => h) (Or.inl ⟨by kernel_rfl, fun w => by kernel_rfl⟩) ?_
      refine wpAny_frame (a' := { tmps := #[Value.slice A n c, undef, Value.bool false, Value.int IntKind.u64 z, Value.int IntKind.i64 n, Value.bool true, Value.bool false, Value.bool false, Value.slice A n c, Value.int IntKind.i64 n, Value.bool (decide (1000 < (n : Int))), Value.bool (decide (1000 < (n : Int))), undef, Value.slice A n c, Value.int IntKind.u64 z, Value.slice A n c, Value.int IntKind.i64 n, Value.int IntKind.i64 n, Value.int IntKind.u64 z, Value.slice A n c, Value.int IntKind.u64 z, Value.bool true, Value.bool true, Value.int IntKind.u64 z, Value.int IntKind.i64 n, undef, Value.slice A n c, Value.slice A n c, Value.int IntKind.i64 n, Value.int IntKind.i64 n, undef, undef, undef, undef], defers := [] }) (by kernel_rfl) ?_
      refine wpAny_take (i := 12) (v := Value.int IntKind.i64 0) rfl (by kernel_rfl) (by kernel_rfl) (by kernel_rfl) (fun _ _ _ h => h) (Or.inl ⟨by kernel_rfl, fun w => by go_simp; first | done | rfl | exact IntWalk.i64_in _ (by omega)⟩) ?_
      refine wpAny_frame (a' := { tmps := #[Value.slice A n c, undef, Value.bool false, Value.int IntKind.u64 z, Value.int IntKind.i64 n, Value.bool true, Value.bool false, Value.bool false, Value.slice A n c, Value.int IntKind.i64 n, Value.bool (decide (1000 < (n : Int))), Value.bool (decide (1000 < (n : Int))), undef, Value.slice A n c, Value.int IntKind.u64 z, Value.slice A n c, Value.int IntKind.i64 n, Value.int IntKind.i64 n, Value.int IntKind.u64 z, Value.slice A n c, Value.int IntKind.u64 z, Value.bool true, Value.bool true, Value.int IntKind.u64 z, Value.int IntKind.i64 n, undef, Value.slice A n c, Value.slice A n c, Value.int IntKind.i64 n, Value.int IntKind.i64 n, Value.int IntKind.i64 0, undef, undef, undef], defers := [] }) (by kernel_rfl) ?_
      refine wpAny_take (i := 13) (v := Value.slice A n c) rfl (by kernel_rfl) (by kernel_rfl) (by kernel_rfl) (fun _ _ _ h => h) (Or.inl ⟨by kernel_rfl, fun w => by go_simp⟩) ?_
      refine wpAny_frame (a' := { tmps := #[Value.slice A n c, undef, Value.bool false, Value.int IntKind.u64 z, Value.int IntKind.i64 n, Value.bool true, Value.bool false, Value.bool false, Value.slice A n c, Value.int IntKind.i64 n, Value.bool (decide (1000 < (n : Int))), Value.bool (decide (1000 < (n : Int))), undef, Value.slice A n c, Value.int IntKind.u64 z, Value.slice A n c, Value.int IntKind.i64 n, Value.int IntKind.i64 n, Value.int IntKind.u64 z, Value.slice A n c, Value.int IntKind.u64 z, Value.bool true, Value.bool true, Value.int IntKind.u64 z, Value.int IntKind.i64 n, undef, Value.slice A n c, Value.slice A n c, Value.int IntKind.i64 n, Value.int IntKind.i64 n, Value.int IntKind.i64 0, Value.slice A n c, undef, undef], defers := [] }) (by kernel_rfl) ?_
      refine wpAny_ready (rs := [7]) (by kernel_rfl) (by simp) ?_
      refine AllReady.cons rfl (fun K hK => ?_) AllReady.nil
      go_simp
      go_wp2_with (go_at_call 12; refine Calls.mono (bytes_at z n n q _ hzl HMO.out HBZ.out) ?_; rintro e w8 ⟨⟨A8, rfl, hy8⟩, hb8⟩)
      first | (refine hK _ _ ?_; clear hK K) | skip
      refine wpAny_frame (a' := { tmps := #[Value.slice A n c, undef, Value.bool false, Value.int IntKind.u64 z, Value.int IntKind.i64 n, Value.bool true, Value.bool false, Value.bool false, Value.slice A n c, Value.int IntKind.i64 n, Value.bool (decide (1000 < (n : Int))), Value.bool (decide (1000 < (n : Int))), undef, Value.slice A n c, Value.int IntKind.u64 z, Value.slice A n c, Value.int IntKind.i64 n, Value.int IntKind.i64 n, Value.int IntKind.u64 z, Value.slice A n c, Value.int IntKind.u64 z, Value.bool true, Value.bool true, Value.int IntKind.u64 z, Value.int IntKind.i64 n, Value.slice A8 n n, Value.slice A n c, Value.slice A n c, Value.int IntKind.i64 n, Value.int IntKind.i64 n, Value.int IntKind.i64 0, Value.slice A n c, undef, undef], defers := [] }) (by kernel_rfl) ?_
      refine wpAny_ready (rs := [14]) (by kernel_rfl) (by simp) ?_
      refine AllReady.cons rfl (fun K hK => ?_) AllReady.nil
      go_simp
      go_wp2_with (go_at_call 11; refine Calls.mono (same_t q q _ hy8 (Bys.below Y2 hb8)) ?_; rintro e w9 ⟨rfl, hb9⟩)
      first | (refine hK _ _ ?_; clear hK K) | skip
      refine wpAny_frame (a' := { tmps := #[Value.slice A n c, undef, Value.bool false, Value.int IntKind.u64 z, Value.int IntKind.i64 n, Value.bool true, Value.bool false, Value.bool false, Value.slice A n c, Value.int IntKind.i64 n, Value.bool (decide (1000 < (n : Int))), Value.bool (decide (1000 < (n : Int))), undef, Value.slice A n c, Value.int IntKind.u64 z, Value.slice A n c, Value.int IntKind.i64 n, Value.int IntKind.i64 n, Value.int IntKind.u64 z, Value.slice A n c, Value.int IntKind.u64 z, Value.bool true, Value.bool true, Value.int IntKind.u64 z, Value.int IntKind.i64 n, Value.slice A8 n n, Value.slice A n c, Value.slice A n c, Value.int IntKind.i64 n, Value.int IntKind.i64 n, Value.int IntKind.i64 0, Value.slice A n c, Value.bool true, undef], defers := [] }) (by kernel_rfl) ?_
      refine wpAny_take (i := 15) (v := Value.bool true) rfl (by kernel_rfl) (by kernel_rfl) (by kernel_rfl) (fun _ _ _ h => h) (Or.inl ⟨by kernel_rfl, fun w => by go_simp⟩) ?_
      refine wpAny_frame (a' := { tmps := #[Value.slice A n c, undef, Value.bool false, Value.int IntKind.u64 z, Value.int IntKind.i64 n, Value.bool true, Value.bool false, Value.bool false, Value.slice A n c, Value.int IntKind.i64 n, Value.bool (decide (1000 < (n : Int))), Value.bool (decide (1000 < (n : Int))), undef, Value.slice A n c, Value.int IntKind.u64 z, Value.slice A n c, Value.int IntKind.i64 n, Value.int IntKind.i64 n, Value.int IntKind.u64 z, Value.slice A n c, Value.int IntKind.u64 z, Value.bool true, Value.bool true, Value.int IntKind.u64 z, Value.int IntKind.i64 n, Value.slice A8 n n, Value.slice A n c, Value.slice A n c, Value.int IntKind.i64 n, Value.int IntKind.i64 n, Value.int IntKind.i64 0, Value.slice A n c, Value.bool true, Value.bool true], defers := [] }) (by kernel_rfl) ?_
      refine wpAny_take (i := 16) (v := Value.bool true) rfl (by kernel_rfl) (by kernel_rfl) (by kernel_rfl) (fun _ _ _ h => h) (Or.inl ⟨by kernel_rfl, fun w => by kernel_rfl⟩) ?_
      refine wpAny_frame (a' := { tmps := #[Value.slice A n c, undef, Value.bool true, Value.int IntKind.u64 z, Value.int IntKind.i64 n, Value.bool true, Value.bool false, Value.bool false, Value.slice A n c, Value.int IntKind.i64 n, Value.bool (decide (1000 < (n : Int))), Value.bool (decide (1000 < (n : Int))), undef, Value.slice A n c, Value.int IntKind.u64 z, Value.slice A n c, Value.int IntKind.i64 n, Value.int IntKind.i64 n, Value.int IntKind.u64 z, Value.slice A n c, Value.int IntKind.u64 z, Value.bool true, Value.bool true, Value.int IntKind.u64 z, Value.int IntKind.i64 n, Value.slice A8 n n, Value.slice A n c, Value.slice A n c, Value.int IntKind.i64 n, Value.int IntKind.i64 n, Value.int IntKind.i64 0, Value.slice A n c, Value.bool true, Value.bool true], defers := [] }) (by kernel_rfl) ?_
      refine wpAny_done (by kernel_rfl) ?_ _
      have hb8' : Below w1.heap.size w1 w8 := ⟨hb8.os, hb8.tape, hb8.output, hb8.size, hb8.block⟩
      have HF := Lib.hid (HE1.out.trans ((hb8'.trans (hb9.mono hb8'.size)).mono HE1.out.size))
      go_wp2_with fail
      go_ret
      exact ⟨rfl, HF.out⟩
    · obtain ⟨k, hk⟩ : ∃ k, n - 8 = k := ⟨_, rfl⟩
      have hnk : n = k + 8 := by omega
      have hmin : min n 8 = 8 := by omega
      rw [hk, hmin] at HBZ
      have HMO := Lib.hid (show mOf 8 = 8 by decide)
      obtain ⟨b, o, _, rfl, _, _, _, _⟩ := HB.out.cell (k := 0) (by omega)
      obtain ⟨q, hq⟩ : ∃ q, bs.drop k = q := ⟨_, rfl⟩
      rw [hq] at HBZ
      have hm8 : 8 ≤ maxLen := by decide
      have hmx : n - k ≤ maxLen := by have := HM.out; omega
      have hki : IntKind.i64.wrap ((n : Int) - 8) = (k : Int) := by rw [IntWalk.i64_in _ (by omega)]; omega
      have hkt : ((k : Int)).toNat = k := by omega
      have hkn : k ≤ n := by omega
      have hck : ¬ c = k := by omega
      have h8n : (8 : Int) < (n : Int) := by omega
      clear hmin hnk
      go_enter Tryd.func3, Tryd.ntmps3
      go_wp2_with fail
      refine (awake_any _ HT.out).mono ?_
      rintro e w1 ⟨rfl, hb1⟩
      have HB1 := Lib.hid (HB.out.below hb1)
      have HE1 := Lib.hid hb1
      clear hb1 HB HT
      go_wp2_with fail
      refine (HNUM.out _ HB1.out).mono ?_
      rintro e w2 ⟨rfl, rfl⟩
      go_wp2_with fail
      have Y1 : Bys w1.drew (some ⟨b, o, none⟩) n bs := Bys.drew HB1.out
      have Y2 : Bys w1.drew (some ⟨b, o + k, none⟩) (n - k) q := by rw [← hq]; exact Y1.from_ k (by omega)
      refine wp_region_any (by kernel_rfl) ?_
      change wpAny _ _ _ _ _ _ _ (World.drew _)
      refine wpAny_take (i := 0) (v := Value.int IntKind.u64 z) rfl (by kernel_rfl) (by kernel_rfl) (by kernel_rfl) (fun _ _ _ h => h) (Or.inl ⟨by kernel_rfl, fun w => by kernel_rfl⟩) ?_
      refine wpAny_frame (a' := { tmps := #[Value.slice (some ⟨b, o, none⟩) n c, undef, Value.bool false, Value.int IntKind.u64 z, Value.int IntKind.i64 8, Value.bool true, Value.bool false, Value.bool false, Value.slice (some ⟨b, o, none⟩) n c, Value.int IntKind.i64 n, Value.bool (decide (1000 < (n : Int))), Value.bool (decide (1000 < (n : Int))), undef, Value.slice (some ⟨b, o, none⟩) n c, Value.int IntKind.u64 z, Value.slice (some ⟨b, o, none⟩) n c, Value.int IntKind.i64 n, Value.int IntKind.i64 8, Value.int IntKind.u64 z, undef, undef, undef, undef, undef, undef, undef, undef, undef, undef, undef, undef, undef, undef, undef], defers := [] }) (by kernel_rfl) ?_
      refine wpAny_take (i := 1) (v := Value.slice (some ⟨b, o, none⟩) n c) rfl (by kernel_rfl) (by kernel_rfl) (by kernel_rfl) (fun _ _ _ h => h) (Or.inl ⟨by kernel_rfl, fun w => by kernel_rfl⟩) ?_
      refine wpAny_frame (a' := { tmps := #[Value.slice (some ⟨b, o, none⟩) n c, undef, Value.bool false, Value.int IntKind.u64 z, Value.int IntKind.i64 8, Value.bool true, Value.bool false, Value.bool false, Value.slice (some ⟨b, o, none⟩) n c, Value.int IntKind.i64 n, Value.bool (decide (1000 < (n : Int))), Value.bool (decide (1000 < (n : Int))), undef, Value.slice (some ⟨b, o, none⟩) n c, Value.int IntKind.u64 z, Value.slice (some ⟨b, o, none⟩) n c, Value.int IntKind.i64 n, Value.int IntKind.i64 8, Value.int IntKind.u64 z, Value.slice (some ⟨b, o, none⟩) n c, undef, undef, undef, undef, undef, undef, undef, undef, undef, undef, undef, undef, undef, undef], defers := [] }) (by kernel_rfl) ?_
      refine wpAny_ready (rs := [2]) (by kernel_rfl) (by simp) ?_
      refine AllReady.cons rfl (fun K hK => ?_) AllReady.nil
      go_simp
      go_wp2_with (go_at_call 10; refine Calls.mono (rnum_at (some ⟨b, o, none⟩) n c bs z _ Y1 HM.out HZ.out) ?_; rintro e w7 ⟨rfl, rfl⟩)
      first | (refine hK _ _ ?_; clear hK K) | skip
      refine wpAny_frame (a' := { tmps := #[Value.slice (some ⟨b, o, none⟩) n c, undef, Value.bool false, Value.int IntKind.u64 z, Value.int IntKind.i64 8, Value.bool true, Value.bool false, Value.bool false, Value.slice (some ⟨b, o, none⟩) n c, Value.int IntKind.i64 n, Value.bool (decide (1000 < (n : Int))), Value.bool (decide (1000 < (n : Int))), undef, Value.slice (some ⟨b, o, none⟩) n c, Value.int IntKind.u64 z, Value.slice (some ⟨b, o, none⟩) n c, Value.int IntKind.i64 n, Value.int IntKind.i64 8, Value.int IntKind.u64 z, Value.slice (some ⟨b, o, none⟩) n c, Value.int IntKind.u64 z, undef, undef, undef, undef, undef, undef, undef, undef, undef, undef, undef, undef, undef], defers := [] }) (by kernel_rfl) ?_
      refine wpAny_take (i := 3) (v := Value.bool true) rfl (by kernel_rfl) (by kernel_rfl) (by kernel_rfl) (fun _ _ _ h => h) (Or.inl ⟨by kernel_rfl, fun w => by go_simp⟩) ?_
      refine wpAny_frame (a' := { tmps := #[Value.slice (some ⟨b, o, none⟩) n c, undef, Value.bool false, Value.int IntKind.u64 z, Value.int IntKind.i64 8, Value.bool true, Value.bool false, Value.bool false, Value.slice (some ⟨b, o, none⟩) n c, Value.int IntKind.i64 n, Value.bool (decide (1000 < (n : Int))), Value.bool (decide (1000 < (n : Int))), undef, Value.slice (some ⟨b, o, none⟩) n c, Value.int IntKind.u64 z, Value.slice (some ⟨b, o, none⟩) n c, Value.int IntKind.i64 n, Value.int IntKind.i64 8, Value.int IntKind.u64 z, Value.slice (some ⟨b, o, none⟩) n c, Value.int IntKind.u64 z, Value.bool true, undef, undef, undef, undef, undef, undef, undef, undef, undef, undef, undef, undef], defers := [] }) (by kernel_rfl) ?_
      refine wpAny_take (i := 4) (v := Value.bool true) rfl (by kernel_rfl) (by kernel_rfl) (by kernel_rfl) (fun _ _ _ h => h) (Or.inl ⟨by kernel_rfl, fun w => by kernel_rfl⟩) ?_
      refine wpAny_frame (a' := { tmps := #[Value.slice (some ⟨b, o, none⟩) n c, undef, Value.bool false, Value.int IntKind.u64 z, Value.int IntKind.i64 8, Value.bool true, Value.bool false, Value.bool false, Value.slice (some ⟨b, o, none⟩) n c, Value.int IntKind.i64 n, Value.bool (decide (1000 < (n : Int))), Value.bool (decide (1000 < (n : Int))), undef, Value.slice (some ⟨b, o, none⟩) n c, Value.int IntKind.u64 z, Value.slice (some ⟨b, o, none⟩) n c, Value.int IntKind.i64 n, Value.int IntKind.i64 8, Value.int IntKind.u64 z, Value.slice (some ⟨b, o, none⟩) n c, Value.int IntKind.u64 z, Value.bool true, Value.bool true, undef, undef, undef, undef, undef, undef, undef, undef, undef, undef, undef], defers := [] }) (by kernel_rfl) ?_
      refine wpAny_take (i := 5) (v := Value.int IntKind.u64 z) rfl (by kernel_rfl) (by kernel_rfl) (by kernel_rfl) (fun _ _ _ h => h) (Or.inl ⟨by kernel_rfl, fun w => by kernel_rfl⟩) ?_
      refine wpAny_frame (a' := { tmps := #[Value.slice (some ⟨b, o, none⟩) n c, undef, Value.bool false, Value.int IntKind.u64 z, Value.int IntKind.i64 8, Value.bool true, Value.bool false, Value.bool false, Value.slice (some ⟨b, o, none⟩) n c, Value.int IntKind.i64 n, Value.bool (decide (1000 < (n : Int))), Value.bool (decide (1000 < (n : Int))), undef, Value.slice (some ⟨b, o, none⟩) n c, Value.int IntKind.u64 z, Value.slice (some ⟨b, o, none⟩) n c, Value.int IntKind.i64 n, Value.int IntKind.i64 8, Value.int IntKind.u64 z, Value.slice (some ⟨b, o, none⟩) n c, Value.int IntKind.u64 z, Value.bool true, Value.bool true, Value.int IntKind.u64 z, undef, undef, undef, undef, undef, undef, undef, undef, undef, undef], defers := [] }) (by kernel_rfl) ?_
      refine wpAny_take (i := 6) (v := Value.int IntKind.i64 8) rfl (by kernel_rfl) (by kernel_rfl) (by kernel_rfl) (fun _ _ _ h => h) (Or.inl ⟨by kernel_rfl, fun w => by kernel_rfl⟩) ?_
      refine wpAny_frame (a' := { tmps := #[Value.slice (some ⟨b, o, none⟩) n c, undef, Value.bool false, Value.int IntKind.u64 z, Value.int IntKind.i64 8, Value.bool true, Value.bool false, Value.bool false, Value.slice (some ⟨b, o, none⟩) n c, Value.int IntKind.i64 n, Value.bool (decide (1000 < (n : Int))), Value.bool (decide (1000 < (n : Int))), undef, Value.slice (some ⟨b, o, none⟩) n c, Value.int IntKind.u64 z, Value.slice (some ⟨b, o, none⟩) n c, Value.int IntKind.i64 n, Value.int IntKind.i64 8, Value.int IntKind.u64 z, Value.slice (some ⟨b, o, none⟩) n c, Value.int IntKind.u64 z, Value.bool true, Value.bool true, Value.int IntKind.u64 z, Value.int IntKind.i64 8, undef, undef, undef, undef, undef, undef, undef, undef, undef], defers := [] }) (by kernel_rfl) ?_
      refine wpAny_take (i := 8) (v := Value.slice (some ⟨b, o, none⟩) n c) rfl (by kernel_rfl) (by kernel_rfl) (by kernel_rfl) (fun _ _ _ h => h) (Or.inl ⟨by kernel_rfl, fun w => by kernel_rfl⟩) ?_
      refine wpAny_frame (a' := { tmps := #[Value.slice (some ⟨b, o, none⟩) n c, undef, Value.bool false, Value.int IntKind.u64 z, Value.int IntKind.i64 8, Value.bool true, Value.bool false, Value.bool false, Value.slice (some ⟨b, o, none⟩) n c, Value.int IntKind.i64 n, Value.bool (decide (1000 < (n : Int))), Value.bool (decide (1000 < (n : Int))), undef, Value.slice (some ⟨b, o, none⟩) n c, Value.int IntKind.u64 z, Value.slice (some ⟨b, o, none⟩) n c, Value.int IntKind.i64 n, Value.int IntKind.i64 8, Value.int IntKind.u64 z, Value.slice (some ⟨b, o, none⟩) n c, Value.int IntKind.u64 z, Value.bool true, Value.bool true, Value.int IntKind.u64 z, Value.int IntKind.i64 8, undef, Value.slice (some ⟨b, o, none⟩) n c, undef, undef, undef, undef, undef, undef, undef], defers := [] }) (by kernel_rfl) ?_
      refine wpAny_take (i := 9) (v := Value.slice (some ⟨b, o, none⟩) n c) rfl (by kernel_rfl) (by kernel_rfl) (by kernel_rfl) (fun _ _ _ h => h) (Or.inl ⟨by kernel_rfl, fun w => by kernel_rfl⟩) ?_
      refine wpAny_frame (a' := { tmps := #[Value.slice (some ⟨b, o, none⟩) n c, undef, Value.bool false, Value.int IntKind.u64 z, Value.int IntKind.i64 8, Value.bool true, Value.bool false, Value.bool false, Value.slice (some ⟨b, o, none⟩) n c, Value.int IntKind.i64 n, Value.bool (decide (1000 < (n : Int))), Value.bool (decide (1000 < (n : Int))), undef, Value.slice (some ⟨b, o, none⟩) n c, Value.int IntKind.u64 z, Value.slice (some ⟨b, o, none⟩) n c, Value.int IntKind.i64 n, Value.int IntKind.i64 8, Value.int IntKind.u64 z, Value.slice (some ⟨b, o, none⟩) n c, Value.int IntKind.u64 z, Value.bool true, Value.bool true, Value.int IntKind.u64 z, Value.int IntKind.i64 8, undef, Value.slice (some ⟨b, o, none⟩) n c, Value.slice (some ⟨b, o, none⟩) n c, undef, undef, undef, undef, undef, undef], defers := [] }) (by kernel_rfl) ?_
      refine wpAny_take (i := 10) (v := Value.int IntKind.i64 n) rfl (by kernel_rfl) (by kernel_rfl) (by kernel_rfl) (fun _ _ _ h => h) (Or.inl ⟨by kernel_rfl, fun w => by go_simp⟩) ?_
      refine wpAny_frame (a' := { tmps := #[Value.slice (some ⟨b, o, none⟩) n c, undef, Value.bool false, Value.int IntKind.u64 z, Value.int IntKind.i64 8, Value.bool true, Value.bool false, Value.bool false, Value.slice (some ⟨b, o, none⟩) n c, Value.int IntKind.i64 n, Value.bool (decide (1000 < (n : Int))), Value.bool (decide (1000 < (n : Int))), undef, Value.slice (some ⟨b, o, none⟩) n c, Value.int IntKind.u64 z, Value.slice (some ⟨b, o, none⟩) n c, Value.int IntKind.i64 n, Value.int IntKind.i64 8, Value.int IntKind.u64 z, Value.slice (some ⟨b, o, none⟩) n c, Value.int IntKind.u64 z, Value.bool true, Value.bool true, Value.int IntKind.u64 z, Value.int IntKind.i64 8, undef, Value.slice (some ⟨b, o, none⟩) n c, Value.slice (some ⟨b, o, none⟩) n c, Value.int IntKind.i64 n, undef, undef, undef, undef, undef], defers := [] }) (by kernel_rfl) ?_
      refine wpAny_take (i := 11) (v := Value.int IntKind.i64 8) rfl (by kernel_rfl) (by kernel_rfl) (by kernel_rfl) (fun _ _ _ h => h) (Or.inl ⟨by kernel_rfl, fun w => by kernel_rfl⟩) ?_
      refine wpAny_frame (a' := { tmps := #[Value.slice (some ⟨b, o, none⟩) n c, undef, Value.bool false, Value.int IntKind.u64 z, Value.int IntKind.i64 8, Value.bool true, Value.bool false, Value.bool false, Value.slice (some ⟨b, o, none⟩) n c, Value.int IntKind.i64 n, Value.bool (decide (1000 < (n : Int))), Value.bool (decide (1000 < (n : Int))), undef, Value.slice (some ⟨b, o, none⟩) n c, Value.int IntKind.u64 z, Value.slice (some ⟨b, o, none⟩) n c, Value.int IntKind.i64 n, Value.int IntKind.i64 8, Value.int IntKind.u64 z, Value.slice (some ⟨b, o, none⟩) n c, Value.int IntKind.u64 z, Value.bool true, Value.bool true, Value.int IntKind.u64 z, Value.int IntKind.i64 8, undef, Value.slice (some ⟨b, o, none⟩) n c, Value.slice (some ⟨b, o, none⟩) n c, Value.int IntKind.i64 n, Value.int IntKind.i64 8, undef, undef, undef, undef], defers := [] }) (by kernel_rfl) ?_
      refine wpAny_take (i := 12) (v := Value.int IntKind.i64 k) rfl (by kernel_rfl) (by kernel_rfl) (by kernel_rfl) (fun _ _ _ h => h) (Or.inl ⟨by kernel_rfl, fun w => by go_simp; first | done | rfl | exact IntWalk.i64_in _ (by omega)⟩) ?_
      refine wpAny_frame (a' := { tmps := #[Value.slice (some ⟨b, o, none⟩) n c, undef, Value.bool false, Value.int IntKind.u64 z, Value.int IntKind.i64 8, Value.bool true, Value.bool false, Value.bool false, Value.slice (some ⟨b, o, none⟩) n c, Value.int IntKind.i64 n, Value.bool (decide (1000 < (n : Int))), Value.bool (decide (1000 < (n : Int))), undef, Value.slice (some ⟨b, o, none⟩) n c, Value.int IntKind.u64 z, Value.slice (some ⟨b, o, none⟩) n c, Value.int IntKind.i64 n, Value.int IntKind.i64 8, Value.int IntKind.u64 z, Value.slice (some ⟨b, o, none⟩) n c, Value.int IntKind.u64 z, Value.bool true, Value.bool true, Value.int IntKind.u64 z, Value.int IntKind.i64 8, undef, Value.slice (some ⟨b, o, none⟩) n c, Value.slice (some ⟨b, o, none⟩) n c, Value.int IntKind.i64 n, Value.int IntKind.i64 8, Value.int IntKind.i64 k, undef, undef, undef], defers := [] }) (by kernel_rfl) ?_
      refine wpAny_take (i := 13) (v := Value.slice (some ⟨b, o + k, none⟩) (n - k) (c - k)) rfl (by kernel_rfl) (by kernel_rfl) (by kernel_rfl) (fun _ _ _ h => h) (Or.inl ⟨by kernel_rfl, fun w => by go_simp⟩) ?_
      refine wpAny_frame (a' := { tmps := #[Value.slice (some ⟨b, o, none⟩) n c, undef, Value.bool false, Value.int IntKind.u64 z, Value.int IntKind.i64 8, Value.bool true, Value.bool false, Value.bool false, Value.slice (some ⟨b, o, none⟩) n c, Value.int IntKind.i64 n, Value.bool (decide (1000 < (n : Int))), Value.bool (decide (1000 < (n : Int))), undef, Value.slice (some ⟨b, o, none⟩) n c, Value.int IntKind.u64 z, Value.slice (some ⟨b, o, none⟩) n c, Value.int IntKind.i64 n, Value.int IntKind.i64 8, Value.int IntKind.u64 z, Value.slice (some ⟨b, o, none⟩) n c, Value.int IntKind.u64 z, Value.bool true, Value.bool true, Value.int IntKind.u64 z, Value.int IntKind.i64 8, undef, Value.slice (some ⟨b, o, none⟩) n c, Value.slice (some ⟨b, o, none⟩) n c, Value.int IntKind.i64 n, Value.int IntKind.i64 8, Value.int IntKind.i64 k, Value.slice (some ⟨b, o + k, none⟩) (n - k) (c - k), undef, undef], defers := [] }) (by kernel_rfl) ?_
      refine wpAny_ready (rs := [7]) (by kernel_rfl) (by simp) ?_
      refine AllReady.cons rfl (fun K hK => ?_) AllReady.nil
      go_simp
      go_wp2_with (go_at_call 12; refine Calls.mono (bytes_at z 8 8 q _ hzl HMO.out HBZ.out) ?_; rintro e w8 ⟨⟨A8, rfl, hy8⟩, hb8⟩)
      first | (refine hK _ _ ?_; clear hK K) | skip
      refine wpAny_frame (a' := { tmps := #[Value.slice (some ⟨b, o, none⟩) n c, undef, Value.bool false, Value.int IntKind.u64 z, Value.int IntKind.i64 8, Value.bool true, Value.bool false, Value.bool false, Value.slice (some ⟨b, o, none⟩) n c, Value.int IntKind.i64 n, Value.bool (decide (1000 < (n : Int))), Value.bool (decide (1000 < (n : Int))), undef, Value.slice (some ⟨b, o, none⟩) n c, Value.int IntKind.u64 z, Value.slice (some ⟨b, o, none⟩) n c, Value.int IntKind.i64 n, Value.int IntKind.i64 8, Value.int IntKind.u64 z, Value.slice (some ⟨b, o, none⟩) n c, Value.int IntKind.u64 z, Value.bool true, Value.bool true, Value.int IntKind.u64 z, Value.int IntKind.i64 8, Value.slice A8 8 8, Value.slice (some ⟨b, o, none⟩) n c, Value.slice (some ⟨b, o, none⟩) n c, Value.int IntKind.i64 n, Value.int IntKind.i64 8, Value.int IntKind.i64 k, Value.slice (some ⟨b, o + k, none⟩) (n - k) (c - k), undef, undef], defers := [] }) (by kernel_rfl) ?_
      refine wpAny_ready (rs := [14]) (by kernel_rfl) (by simp) ?_
      refine AllReady.cons rfl (fun K hK => ?_) AllReady.nil
      go_simp
      go_wp2_with (go_at_call 11; refine Calls.mono (same_t q q _ hy8 (Bys.below Y2 hb8)) ?_; rintro e w9 ⟨rfl, hb9⟩)
      first | (refine hK _ _ ?_; clear hK K) | skip
      refine wpAny_frame (a' := { tmps := #[Value.slice (some ⟨b, o, none⟩) n c, undef, Value.bool false, Value.int IntKind.u64 z, Value.int IntKind.i64 8, Value.bool true, Value.bool false, Value.bool false, Value.slice (some ⟨b, o, none⟩) n c, Value.int IntKind.i64 n, Value.bool (decide (1000 < (n : Int))), Value.bool (decide (1000 < (n : Int))), undef, Value.slice (some ⟨b, o, none⟩) n c, Value.int IntKind.u64 z, Value.slice (some ⟨b, o, none⟩) n c, Value.int IntKind.i64 n, Value.int IntKind.i64 8, Value.int IntKind.u64 z, Value.slice (some ⟨b, o, none⟩) n c, Value.int IntKind.u64 z, Value.bool true, Value.bool true, Value.int IntKind.u64 z, Value.int IntKind.i64 8, Value.slice A8 8 8, Value.slice (some ⟨b, o, none⟩) n c, Value.slice (some ⟨b, o, none⟩) n c, Value.int IntKind.i64 n, Value.int IntKind.i64 8, Value.int IntKind.i64 k, Value.slice (some ⟨b, o + k, none⟩) (n - k) (c - k), Value.bool true, undef], defers := [] }) (by kernel_rfl) ?_
      refine wpAny_take (i := 15) (v := Value.bool true) rfl (by kernel_rfl) (by kernel_rfl) (by kernel_rfl) (fun _ _ _ h => h) (Or.inl ⟨by kernel_rfl, fun w => by go_simp⟩) ?_
      refine wpAny_frame (a' := { tmps := #[Value.slice (some ⟨b, o, none⟩) n c, undef, Value.bool false, Value.int IntKind.u64 z, Value.int IntKind.i64 8, Value.bool true, Value.bool false, Value.bool false, Value.slice (some ⟨b, o, none⟩) n c, Value.int IntKind.i64 n, Value.bool (decide (1000 < (n : Int))), Value.bool (decide (1000 < (n : Int))), undef, Value.slice (some ⟨b, o, none⟩) n c, Value.int IntKind.u64 z, Value.slice (some ⟨b, o, none⟩) n c, Value.int IntKind.i64 n, Value.int IntKind.i64 8, Value.int IntKind.u64 z, Value.slice (some ⟨b, o, none⟩) n c, Value.int IntKind.u64 z, Value.bool true, Value.bool true, Value.int IntKind.u64 z, Value.int IntKind.i64 8, Value.slice A8 8 8, Value.slice (some ⟨b, o, none⟩) n c, Value.slice (some ⟨b, o, none⟩) n c, Value.int IntKind.i64 n, Value.int IntKind.i64 8, Value.int IntKind.i64 k, Value.slice (some ⟨b, o + k, none⟩) (n - k) (c - k), Value.bool true, Value.bool true], defers := [] }) (by kernel_rfl) ?_
      refine wpAny_take (i := 16) (v := Value.bool true) rfl (by kernel_rfl) (by kernel_rfl) (by kernel_rfl) (fun _ _ _ h => h) (Or.inl ⟨by kernel_rfl, fun w => by kernel_rfl⟩) ?_
      refine wpAny_frame (a' := { tmps := #[Value.slice (some ⟨b, o, none⟩) n c, undef, Value.bool true, Value.int IntKind.u64 z, Value.int IntKind.i64 8, Value.bool true, Value.bool false, Value.bool false, Value.slice (some ⟨b, o, none⟩) n c, Value.int IntKind.i64 n, Value.bool (decide (1000 < (n : Int))), Value.bool (decide (1000 < (n : Int))), undef, Value.slice (some ⟨b, o, none⟩) n c, Value.int IntKind.u64 z, Value.slice (some ⟨b, o, none⟩) n c, Value.int IntKind.i64 n, Value.int IntKind.i64 8, Value.int IntKind.u64 z, Value.slice (some ⟨b, o, none⟩) n c, Value.int IntKind.u64 z, Value.bool true, Value.bool true, Value.int IntKind.u64 z, Value.int IntKind.i64 8, Value.slice A8 8 8, Value.slice (some ⟨b, o, none⟩) n c, Value.slice (some ⟨b, o, none⟩) n c, Value.int IntKind.i64 n, Value.int IntKind.i64 8, Value.int IntKind.i64 k, Value.slice (some ⟨b, o + k, none⟩) (n - k) (c - k), Value.bool true, Value.bool true], defers := [] }) (by kernel_rfl) ?_
      refine wpAny_done (by kernel_rfl) ?_ _
      have hb8' : Below w1.heap.size w1 w8 := ⟨hb8.os, hb8.tape, hb8.output, hb8.size, hb8.block⟩
      have HF := Lib.hid (HE1.out.trans ((hb8'.trans (hb9.mono hb8'.size)).mono HE1.out.size))
      go_wp2_with fail
      go_ret
      exact ⟨rfl, HF.out⟩
end Go.Proofs.YthfjjphpnakgnaaDoor
