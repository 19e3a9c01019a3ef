import Derived.Test.YtbkgmeopdcealaaDoorNum
import Derived.Lib.ItoaMem
import Derived.Lib.ItoaLen
import Derived.Deep.QuietTactic
import Derived.BigQuiet
namespace Go.Proofs.YtbkgmeopdcealaaDoor
open Go.ChangeShapes Go.WideShapes Go.ChangeAt Go.RowKit
set_option linter.unusedVariables false
set_option linter.unusedSimpArgs false
def cdgS : ByteArray := ⟨#[48, 49, 50, 51, 52, 53, 54, 55, 56, 57]⟩
theorem cdg_one_fin : ∀ n : Fin 10, (cdgS.extract n.1 (n.1 + 1)) = ⟨#[UInt8.ofNat (48 + n.1)]⟩ := by decide +kernel
theorem quiet_dr {P : Program} {f : FuncId} {args : Array Value} {w : World} {n : Nat} {v : Value}
    (h : Calls P f args (w.drewN n) fun e w' => e = .returned v ∧ ∃ k, w' = (w.drewN n).drewN k) : Calls P f args (w.drewN n) fun e w'' => e = .returned v ∧ ∃ m, w'' = w.drewN m :=
  h.mono fun _ _ ⟨he, k, hk⟩ => ⟨he, n + k, by rw [hk, World.drewN_drewN]⟩
theorem cdS_one (n : Nat) (h : n < 10) : cdgS.extract n (n + 1) = decS n := by
  unfold decS
  rw [Lib.decDigits_one h]
  exact cdg_one_fin ⟨n, h⟩
theorem cdS_more (n : Nat) (h : ¬ n < 10) : decS (n / 10) ++ cdgS.extract (n % 10) (n % 10 + 1) = decS n := by
  rw [cdS_one (n % 10) (by omega)]
  unfold decS
  rw [Lib.decDigits_one (i := n % 10) (by omega)]
  conv => rhs; rw [Lib.decDigits, dif_neg h]
  apply ByteArray.ext
  simp [ByteArray.data_append]
theorem cdS_size (n : Nat) (h : n ≤ 9223372036854775808) : (decS n).size ≤ 21 := by
  have := Lib.itoa_length_le (-(n : Int)) (by omega) (by omega)
  unfold decS
  show (Lib.decDigits n).toArray.size ≤ 21
  simp only [List.size_toArray]
  by_cases h0 : 1 ≤ n
  · rw [Lib.itoa_neg n h0] at this; simp at this; omega
  · obtain rfl : n = 0 := by omega
    rw [Lib.decDigits_one (by omega)]; simp
set_option maxRecDepth 100000 in
set_option maxHeartbeats 4000000 in
theorem dec_nat : ∀ (n : Nat) (w : World), n ≤ 9223372036854775807 → Calls Tryd.prog 31 #[.int .i64 (n : Nat)] w fun e w' => e = .returned (.string (decS n)) ∧ ∃ k, w' = w.drewN k := by
  intro n
  induction n using Nat.strongRecOn with
  | _ n ih =>
    intro w hn
    by_cases h10 : n < 10
    · have hd := cdS_one n h10
      have h10' : (n : Int) < 10 := by omega
      have HD := Lib.hid hd
      clear hd ih
      go_enter Tryd.func31, Tryd.ntmps31
      go_wp2_with fail
      go_ret
      refine ⟨?_, 0, rfl⟩
      rw [← HD.out]
      rfl
    · have ih' := fun W => ih (n / 10) (by omega) W (by omega)
      rw [show ((n / 10 : Nat) : Int) = (n : Int) / 10 by omega] at ih'
      have hd := cdS_more n h10
      have h10' : (10 : Int) ≤ (n : Int) := by omega
      have hsz := cdS_size (n / 10) (by omega)
      have HD := Lib.hid hd
      clear hd ih
      obtain ⟨m, hm⟩ : ∃ m, decS (n / 10) = m := ⟨_, rfl⟩
      rw [hm] at ih' hsz HD
      go_enter Tryd.func31, Tryd.ntmps31
      go_wp2_with fail
      have w1 : IntKind.i64.wrap ((n : Int) % 10 + 1) = (n : Int) % 10 + 1 := IntWalk.i64_in _ (by omega)
      have w2 : (0 : Int) ≤ (n : Int) % 10 := by omega
      have w3 : (0 : Int) ≤ (n : Int) % 10 + 1 := by omega
      have w4 : ((n : Int) % 10).toNat = n % 10 := by omega
      have w5 : ((n : Int) % 10 + 1).toNat = n % 10 + 1 := by omega
      have w6 : (n : Int) % 10 + 1 ≤ 10 := by omega
      have w7 : (n : Int) % 10 ≤ (n : Int) % 10 + 1 := by omega
      have w8 : Int.tmod (n : Int) 10 = (n : Int) % 10 := by rw [Int.tmod_eq_emod_of_nonneg (by omega)]
      have w9 : Int.tdiv (n : Int) 10 = (n : Int) / 10 := by rw [Int.tdiv_eq_ediv_of_nonneg (by omega)]
      have wa : IntKind.i64.wrap ((n : Int) / 10) = (n : Int) / 10 := IntWalk.i64_in _ (by omega)
      have wb : (10 : Int) ≠ 0 := by omega
      have wd : ({ data := #[48, 49, 50, 51, 52, 53, 54, 55, 56, 57] } : ByteArray).extract (n % 10) (n % 10 + 1) = cdgS.extract (n % 10) (n % 10 + 1) := rfl
      obtain ⟨d, hd, hds⟩ : ∃ d, cdgS.extract (n % 10) (n % 10 + 1) = d ∧ m.size + d.size ≤ 9223372036854775807 := ⟨_, rfl, by
        have : (cdgS.extract (n % 10) (n % 10 + 1)).size ≤ 10 := by rw [ByteArray.size_extract]; have : cdgS.size = 10 := rfl; omega
        omega⟩
      rw [hd] at wd
      have HDD := Lib.hid hd
      clear hd
      go_quiet ((go_at_call 31; exact quiet_dr (ih' _)))
      go_wp2_with fail
      go_ret
      refine ⟨?_, nq, rfl⟩
      rw [← HD.out, HDD.out]
      rfl
theorem citS_neg (u : Nat) (h : 1 ≤ u) : itS (-(u : Int)) = ⟨#[45]⟩ ++ decS u := by
  unfold itS decS
  rw [Lib.itoa_neg u h]
  apply ByteArray.ext
  simp [ByteArray.data_append]
theorem itS_size (n : Int) (h0 : -9223372036854775808 ≤ n) (h1 : n ≤ 9223372036854775807) : (itS n).size ≤ 21 := Lib.itoa_length_le n h0 h1
theorem itS_more (u : Nat) (h : ¬ u < 10) : itS (-((u / 10 : Nat) : Int)) ++ decS (u % 10) = itS (-(u : Int)) := by
  rw [citS_neg (u / 10) (by omega), citS_neg u (by omega), ← cdS_more u h, cdS_one (u % 10) (by omega)]
  apply ByteArray.ext
  simp [ByteArray.data_append, Array.append_assoc]
set_option maxRecDepth 100000 in
set_option maxHeartbeats 4000000 in
theorem dec_neg : ∀ (u : Nat) (w : World), 1 ≤ u → u ≤ 9223372036854775808 → Calls Tryd.prog 31 #[.int .i64 (-(u : Nat))] w fun e w' => e = .returned (.string (itS (-(u : Int)))) ∧ ∃ k, w' = w.drewN k := by
  intro u
  induction u using Nat.strongRecOn with
  | _ u ih =>
    intro w h1 hn
    by_cases h10 : u < 10
    · have hd := citS_neg u h1
      have hc := fun W => dec_nat u W (by omega)
      have hsz := cdS_size u (by omega)
      have HD := Lib.hid hd
      have hb1 : (-9 : Int) ≤ -(u : Int) := by omega
      have hb2 : -(u : Int) < 0 := by omega
      obtain ⟨m, hm⟩ : ∃ m, decS u = m := ⟨_, rfl⟩
      rw [hm] at hc hsz HD
      have wn : IntKind.i64.wrap (u : Int) = (u : Int) := IntWalk.i64_in _ (by omega)
      clear hd ih hm
      have hads : (⟨#[45]⟩ : ByteArray).size + m.size ≤ 9223372036854775807 := by show 1 + m.size ≤ _; omega
      go_enter Tryd.func31, Tryd.ntmps31
      go_wp2_with (go_at_call 31; refine (hc _).mono ?_; rintro _ _ ⟨rfl, k, rfl⟩; refine Hid.out ?_)
      refine Lib.hid ?_
      go_wp2_with fail
      go_ret
      refine ⟨?_, k, rfl⟩
      rw [HD.out]
      rfl
    · have hd := itS_more u h10
      have hq := fun W => ih (u / 10) (by omega) W (by omega) (by omega)
      have hr := fun W => dec_nat (u % 10) W (by omega)
      have hb1 : -(u : Int) < -9 := by omega
      have HD := Lib.hid hd
      have hz1 := itS_size (-((u / 10 : Nat) : Int)) (by omega) (by omega)
      have hz2 := cdS_size (u % 10) (by omega)
      obtain ⟨m, hm⟩ : ∃ m, itS (-((u / 10 : Nat) : Int)) = m := ⟨_, rfl⟩
      obtain ⟨d, hd2⟩ : ∃ d, decS (u % 10) = d := ⟨_, rfl⟩
      rw [hm] at hq hz1 HD
      rw [hd2] at hr hz2 HD
      have hads : m.size + d.size ≤ 9223372036854775807 := by omega
      clear hd ih hm hd2
      rw [show ((u / 10 : Nat) : Int) = (u : Int) / 10 by omega] at hq
      rw [show ((u % 10 : Nat) : Int) = (u : Int) % 10 by omega] at hr
      go_enter Tryd.func31, Tryd.ntmps31
      go_wp2_with (go_at_call 31; refine (hq _).mono ?_; rintro _ _ ⟨rfl, k, rfl⟩; refine Hid.out ?_)
      refine Lib.hid ?_
      have w1 : IntKind.i64.wrap ((u : Int) % 10) = (u : Int) % 10 := IntWalk.i64_in _ (by omega)
      go_wp2_with (go_at_call 31; refine (hr _).mono ?_; rintro _ _ ⟨rfl, k', rfl⟩; refine Hid.out ?_)
      refine Lib.hid ?_
      go_wp2_with fail
      go_ret
      refine ⟨?_, k + k', rfl⟩
      rw [← HD.out]
      rfl
theorem dec_any (n : Int) (w : World) (h0 : -9223372036854775808 ≤ n) (h1 : n ≤ 9223372036854775807) : Calls Tryd.prog 31 #[.int .i64 n] w fun e w' => e = .returned (.string (itS n)) ∧ ∃ k, w' = w.drewN k := by
  by_cases h : n < 0
  · obtain ⟨u, rfl⟩ : ∃ u : Nat, n = -(u : Int) := ⟨n.natAbs, by omega⟩
    exact dec_neg u w (by omega) (by omega)
  · obtain ⟨u, rfl⟩ : ∃ u : Nat, n = (u : Int) := ⟨n.toNat, by omega⟩
    rw [itS_nat]
    exact dec_nat u w (by omega)
end Go.Proofs.YtbkgmeopdcealaaDoor
