import Derived.Test.YtbkgmeopdcealaaDoorUnh
namespace Go.Proofs.YtbkgmeopdcealaaDoor
open Go.ChangeShapes Go.WideShapes Go.ChangeAt Go.RowKit Go.Sort
set_option linter.unusedVariables false
set_option linter.unusedSimpArgs false
set_option maxRecDepth 100000 in
set_option maxHeartbeats 4000000 in
theorem runhex_any (s : ByteArray) (w : World) (hs : s.size ≤ 1000000) : Calls Tryd.prog 23 #[.string s] w fun e w' => UnR w.heap.size (unhexS s) e w' ∧ Below w.heap.size w w' := by
  by_cases hd : s = dashS
  · have HU := Lib.hid (show unhexS s = some [] by unfold unhexS; rw [if_pos hd])
    subst hd
    generalize unhexS dashS = U at *
    rw [show dashS = (⟨#[45]⟩ : ByteArray) from rfl]
    go_enter Tryd.func23, Tryd.ntmps23
    go_wp2_with fail
    all_goals go_ret2
    exact ⟨UnR.yes HU.out (World.ownsRow_nil _ _ _ _), Below.refl _ _⟩
  have h45 : (s.toList == [45]) = false := by have := toList_ne hd; rwa [show dashS.toList = [45] by first | rfl | decide | simp [dashS]] at this
  have hb := bys_len s
  have HU := Lib.hid (show unhexS s = if s.size = 0 then none else unL (bys s) by unfold unhexS; rw [if_neg hd])
  generalize unhexS s = U at *
  obtain ⟨i0, hi, hz0, hz1, hz2⟩ := info_parts info5
  have HBL := Lib.hid hb
  clear hb hd
  go_enter Tryd.func23, Tryd.ntmps23
  go_wp2_with fail
  go_loopw [4, 5] (fun v i wr => ∃ (k : Nat) (done : List Nat), i = .int .i64 k ∧ k ≤ s.size ∧ Pairs (bys s) done k ∧ wr.ownsRow w.heap.size 5 1 v done.length (u8v done) ∧ Below w.heap.size w wr) (fun _ i _ => s.size - (intOf i).toNat)
  case atStart => exact ⟨0, [], rfl, by omega, Pairs.start _, World.ownsRow_nil _ _ _ _, Below.refl _ _⟩
  case round =>
    obtain ⟨k, done, rfl, hk, hp, ho, hbel⟩ := hrel
    obtain ⟨A1, c1, rfl⟩ := own_form ho
    have HO := Lib.hid ho
    have HE := Lib.hid hbel
    have HP := Lib.hid hp
    have hdl := hp.2.1
    have hsz := hbel.size
    have hkw : IntKind.i64.wrap ((k : Int) + 1) = (k : Int) + 1 := IntWalk.i64_in _ (by omega)
    clear ho hbel hp
    by_cases hlt : k + 1 < s.size
    · obtain ⟨a, ha9, ha, hia⟩ := bys_at s k (by omega)
      obtain ⟨b, hb9, hbb, hib⟩ := bys_at s (k + 1) hlt
      have HA := Lib.hid (And.intro ha hbb)
      have hki : (k : Int) < (s.size : Int) := by omega
      have hkj : (k : Int) + 1 < (s.size : Int) := by omega
      have hib2 : ∀ W : World, (Instr.index 9 (.string s) (.int .i64 ((k : Int) + 1))).run Tryd.prog W = .ok (.int .u8 (b : Int)) W := fun W => by have := hib W; push_cast at this; exact this
      have hU0 : ¬ s.size = 0 := by omega
      have hda := fun W : World => digit_any a W ha9
      have hdb := fun W : World => digit_any b W hb9
      obtain ⟨RA, hRA⟩ : ∃ r, dgI a = r := ⟨_, rfl⟩
      obtain ⟨RB, hRB⟩ : ∃ r, dgI b = r := ⟨_, rfl⟩
      rw [hRA] at hda
      rw [hRB] at hdb
      have HRR := Lib.hid (And.intro hRA hRB)
      clear hRA hRB
      clear ha hbb hib
      rcases dg_cases a with ⟨ga, ga2⟩ | ⟨x, ga, ga2, gx⟩
      · have HN := Lib.hid (HP.out.bad HA.out.1 HA.out.2 (.inl ga))
        have HU2 := Lib.hid (show U = none by rw [HU.out, if_neg hU0, HN.out])
        obtain rfl : RA = -1 := by rw [← HRR.out.1]; exact ga2
        clear ga ga2
        go_wp2_with (go_at_call 35; refine (hda _).mono ?_; rintro _ _ ⟨rfl, rfl⟩; refine Hid.out ?_)
        refine Lib.hid ?_
        go_wp2_with fail
        all_goals go_ret2
        exact ⟨UnR.no HU2.out rfl, HE.out⟩
      · obtain rfl : RA = (x : Int) := by rw [← HRR.out.1]; exact ga2
        have hx0 : (0 : Int) ≤ (x : Int) := by omega
        rcases dg_cases b with ⟨gb, gb2⟩ | ⟨y, gb, gb2, gy⟩
        · have HN := Lib.hid (HP.out.bad HA.out.1 HA.out.2 (.inr gb))
          have HU2 := Lib.hid (show U = none by rw [HU.out, if_neg hU0, HN.out])
          obtain rfl : RB = -1 := by rw [← HRR.out.2]; exact gb2
          clear ga ga2 gb gb2
          go_wp2_with (go_at_call 35; refine (hda _).mono ?_; rintro _ _ ⟨rfl, rfl⟩; refine Hid.out ?_)
          refine Lib.hid ?_
          go_wp2_with (go_at_call 35; refine (hdb _).mono ?_; rintro _ _ ⟨rfl, rfl⟩; refine Hid.out ?_)
          refine Lib.hid ?_
          go_wp2_with fail
          all_goals go_ret2
          exact ⟨UnR.no HU2.out rfl, HE.out⟩
        · obtain rfl : RB = (y : Int) := by rw [← HRR.out.2]; exact gb2
          have HN := Lib.hid (HP.out.next HA.out.1 HA.out.2 ga gb)
          have hcv : IntKind.u8.wrap (16 * (x : Int) + y) = 16 * (x : Int) + y := IntWalk.u8_in _ (by omega)
          have hw16 : IntKind.i64.wrap (16 * (x : Int)) = 16 * (x : Int) := IntWalk.i64_in _ (by omega)
          have hw17 : IntKind.i64.wrap (16 * (x : Int) + y) = 16 * (x : Int) + y := IntWalk.i64_in _ (by omega)
          have hy0 : (0 : Int) ≤ (y : Int) := by omega
          clear ga ga2 gb gb2 HRR
          go_wp2_with (go_at_call 35; refine (hda _).mono ?_; rintro _ _ ⟨rfl, rfl⟩; refine Hid.out ?_)
          refine Lib.hid ?_
          go_wp2_with (go_at_call 35; refine (hdb _).mono ?_; rintro _ _ ⟨rfl, rfl⟩; refine Hid.out ?_)
          refine Lib.hid ?_
          go_upto_region 9 with (fail)
          have hR := later_below
          have hca : ∀ W : World, Calls Tryd.prog 35 #[.int .u8 a] W fun e w' => e = .returned (.int .i64 (x : Int)) ∧ Below W.heap.size W w' := fun W => (hda W).mono fun e w' ⟨he, hw⟩ => ⟨he, hw ▸ Below.refl _ _⟩
          have hcb : ∀ W : World, Calls Tryd.prog 35 #[.int .u8 b] W fun e w' => e = .returned (.int .i64 (y : Int)) ∧ Below W.heap.size W w' := fun W => (hdb W).mono fun e w' ⟨he, hw⟩ => ⟨he, hw ▸ Below.refl _ _⟩
          have ho1 := HO.out
          have he1 := HE.out
          refine wp_region_later (X := [14]) hR (by kernel_rfl) ?_
          refine WK.pure hR (i := 0) (v := Value.slice A1 done.length c1) rfl (by kernel_rfl) (by kernel_rfl) (by kernel_rfl) (fun _ _ _ h => h) (by kernel_rfl) (fun wz => by go_simp) ?_
          refine WK.frame (a' := { tmps := #[Value.string s, undef, u2, u3, Value.slice A1 done.length c1, Value.int IntKind.i64 k, Value.string s, Value.bool false, Value.int IntKind.i64 k, Value.int IntKind.i64 ((k : Int) + 1), Value.string s, Value.int IntKind.i64 s.size, Value.bool true, u13, u14, Value.string s, Value.int IntKind.i64 k, Value.int IntKind.u8 a, Value.int IntKind.i64 x, Value.bool (decide ((x : Int) < 0)), Value.bool (decide ((x : Int) < 0)), Value.string s, Value.int IntKind.i64 k, Value.int IntKind.i64 ((k : Int) + 1), Value.int IntKind.u8 b, Value.int IntKind.i64 y, Value.bool (decide ((y : Int) < 0)), Value.bool (decide ((x : Int) < 0) || decide ((y : Int) < 0)), Value.slice A1 done.length c1, u29, u30, u31, u32, u33, u34, u35, u36, u37, u38, u39, u40, u41, u42, undef, undef, undef, undef, undef, undef, undef, undef, undef, undef], defers := [] }) (by kernel_rfl) ?_
          refine WK.pure hR (i := 1) (v := Value.string s) rfl (by kernel_rfl) (by kernel_rfl) (by kernel_rfl) (fun _ _ _ h => h) (by kernel_rfl) (fun wz => by go_simp) ?_
          refine WK.frame (a' := { tmps := #[Value.string s, undef, u2, u3, Value.slice A1 done.length c1, Value.int IntKind.i64 k, Value.string s, Value.bool false, Value.int IntKind.i64 k, Value.int IntKind.i64 ((k : Int) + 1), Value.string s, Value.int IntKind.i64 s.size, Value.bool true, u13, u14, Value.string s, Value.int IntKind.i64 k, Value.int IntKind.u8 a, Value.int IntKind.i64 x, Value.bool (decide ((x : Int) < 0)), Value.bool (decide ((x : Int) < 0)), Value.string s, Value.int IntKind.i64 k, Value.int IntKind.i64 ((k : Int) + 1), Value.int IntKind.u8 b, Value.int IntKind.i64 y, Value.bool (decide ((y : Int) < 0)), Value.bool (decide ((x : Int) < 0) || decide ((y : Int) < 0)), Value.slice A1 done.length c1, Value.string s, u30, u31, u32, u33, u34, u35, u36, u37, u38, u39, u40, u41, u42, undef, undef, undef, undef, undef, undef, undef, undef, undef, undef], defers := [] }) (by kernel_rfl) ?_
          refine WK.pure hR (i := 2) (v := Value.int IntKind.i64 k) rfl (by kernel_rfl) (by kernel_rfl) (by kernel_rfl) (fun _ _ _ h => h) (by kernel_rfl) (fun wz => by go_simp) ?_
          refine WK.frame (a' := { tmps := #[Value.string s, undef, u2, u3, Value.slice A1 done.length c1, Value.int IntKind.i64 k, Value.string s, Value.bool false, Value.int IntKind.i64 k, Value.int IntKind.i64 ((k : Int) + 1), Value.string s, Value.int IntKind.i64 s.size, Value.bool true, u13, u14, Value.string s, Value.int IntKind.i64 k, Value.int IntKind.u8 a, Value.int IntKind.i64 x, Value.bool (decide ((x : Int) < 0)), Value.bool (decide ((x : Int) < 0)), Value.string s, Value.int IntKind.i64 k, Value.int IntKind.i64 ((k : Int) + 1), Value.int IntKind.u8 b, Value.int IntKind.i64 y, Value.bool (decide ((y : Int) < 0)), Value.bool (decide ((x : Int) < 0) || decide ((y : Int) < 0)), Value.slice A1 done.length c1, Value.string s, Value.int IntKind.i64 k, u31, u32, u33, u34, u35, u36, u37, u38, u39, u40, u41, u42, undef, undef, undef, undef, undef, undef, undef, undef, undef, undef], defers := [] }) (by kernel_rfl) ?_
          refine WK.pure hR (i := 3) (v := Value.int IntKind.u8 a) rfl (by kernel_rfl) (by kernel_rfl) (by kernel_rfl) (fun _ _ _ h => h) (by kernel_rfl) (fun wz => by first | exact hia wz | (go_simp; done) | (go_simp; rw [hia wz]; rfl)) ?_
          refine WK.frame (a' := { tmps := #[Value.string s, undef, u2, u3, Value.slice A1 done.length c1, Value.int IntKind.i64 k, Value.string s, Value.bool false, Value.int IntKind.i64 k, Value.int IntKind.i64 ((k : Int) + 1), Value.string s, Value.int IntKind.i64 s.size, Value.bool true, u13, u14, Value.string s, Value.int IntKind.i64 k, Value.int IntKind.u8 a, Value.int IntKind.i64 x, Value.bool (decide ((x : Int) < 0)), Value.bool (decide ((x : Int) < 0)), Value.string s, Value.int IntKind.i64 k, Value.int IntKind.i64 ((k : Int) + 1), Value.int IntKind.u8 b, Value.int IntKind.i64 y, Value.bool (decide ((y : Int) < 0)), Value.bool (decide ((x : Int) < 0) || decide ((y : Int) < 0)), Value.slice A1 done.length c1, Value.string s, Value.int IntKind.i64 k, Value.int IntKind.u8 a, u32, u33, u34, u35, u36, u37, u38, u39, u40, u41, u42, undef, undef, undef, undef, undef, undef, undef, undef, undef, undef], defers := [] }) (by kernel_rfl) ?_
          refine WK.take hR (i := 4) (v := Value.int IntKind.i64 x) rfl (by kernel_rfl) (by kernel_rfl) (by kernel_rfl) (by kernel_rfl) (fun _ _ _ h => h) (YK.call hR (by kernel_rfl) (fun wz => by go_simp; first | done | rfl) (fun wz hz => hca wz)) ?_
          refine WK.frame (a' := { tmps := #[Value.string s, undef, u2, u3, Value.slice A1 done.length c1, Value.int IntKind.i64 k, Value.string s, Value.bool false, Value.int IntKind.i64 k, Value.int IntKind.i64 ((k : Int) + 1), Value.string s, Value.int IntKind.i64 s.size, Value.bool true, u13, u14, Value.string s, Value.int IntKind.i64 k, Value.int IntKind.u8 a, Value.int IntKind.i64 x, Value.bool (decide ((x : Int) < 0)), Value.bool (decide ((x : Int) < 0)), Value.string s, Value.int IntKind.i64 k, Value.int IntKind.i64 ((k : Int) + 1), Value.int IntKind.u8 b, Value.int IntKind.i64 y, Value.bool (decide ((y : Int) < 0)), Value.bool (decide ((x : Int) < 0) || decide ((y : Int) < 0)), Value.slice A1 done.length c1, Value.string s, Value.int IntKind.i64 k, Value.int IntKind.u8 a, Value.int IntKind.i64 x, u33, u34, u35, u36, u37, u38, u39, u40, u41, u42, undef, undef, undef, undef, undef, undef, undef, undef, undef, undef], defers := [] }) (by kernel_rfl) ?_
          refine WK.pure hR (i := 5) (v := Value.int IntKind.i64 (16 * (x : Int))) rfl (by kernel_rfl) (by kernel_rfl) (by kernel_rfl) (fun _ _ _ h => h) (by kernel_rfl) (fun wz => by go_simp; first | done | rfl) ?_
          refine WK.frame (a' := { tmps := #[Value.string s, undef, u2, u3, Value.slice A1 done.length c1, Value.int IntKind.i64 k, Value.string s, Value.bool false, Value.int IntKind.i64 k, Value.int IntKind.i64 ((k : Int) + 1), Value.string s, Value.int IntKind.i64 s.size, Value.bool true, u13, u14, Value.string s, Value.int IntKind.i64 k, Value.int IntKind.u8 a, Value.int IntKind.i64 x, Value.bool (decide ((x : Int) < 0)), Value.bool (decide ((x : Int) < 0)), Value.string s, Value.int IntKind.i64 k, Value.int IntKind.i64 ((k : Int) + 1), Value.int IntKind.u8 b, Value.int IntKind.i64 y, Value.bool (decide ((y : Int) < 0)), Value.bool (decide ((x : Int) < 0) || decide ((y : Int) < 0)), Value.slice A1 done.length c1, Value.string s, Value.int IntKind.i64 k, Value.int IntKind.u8 a, Value.int IntKind.i64 x, Value.int IntKind.i64 (16 * (x : Int)), u34, u35, u36, u37, u38, u39, u40, u41, u42, undef, undef, undef, undef, undef, undef, undef, undef, undef, undef], defers := [] }) (by kernel_rfl) ?_
          refine WK.pure hR (i := 6) (v := Value.string s) rfl (by kernel_rfl) (by kernel_rfl) (by kernel_rfl) (fun _ _ _ h => h) (by kernel_rfl) (fun wz => by go_simp) ?_
          refine WK.frame (a' := { tmps := #[Value.string s, undef, u2, u3, Value.slice A1 done.length c1, Value.int IntKind.i64 k, Value.string s, Value.bool false, Value.int IntKind.i64 k, Value.int IntKind.i64 ((k : Int) + 1), Value.string s, Value.int IntKind.i64 s.size, Value.bool true, u13, u14, Value.string s, Value.int IntKind.i64 k, Value.int IntKind.u8 a, Value.int IntKind.i64 x, Value.bool (decide ((x : Int) < 0)), Value.bool (decide ((x : Int) < 0)), Value.string s, Value.int IntKind.i64 k, Value.int IntKind.i64 ((k : Int) + 1), Value.int IntKind.u8 b, Value.int IntKind.i64 y, Value.bool (decide ((y : Int) < 0)), Value.bool (decide ((x : Int) < 0) || decide ((y : Int) < 0)), Value.slice A1 done.length c1, Value.string s, Value.int IntKind.i64 k, Value.int IntKind.u8 a, Value.int IntKind.i64 x, Value.int IntKind.i64 (16 * (x : Int)), Value.string s, u35, u36, u37, u38, u39, u40, u41, u42, undef, undef, undef, undef, undef, undef, undef, undef, undef, undef], defers := [] }) (by kernel_rfl) ?_
          refine WK.pure hR (i := 7) (v := Value.int IntKind.i64 k) rfl (by kernel_rfl) (by kernel_rfl) (by kernel_rfl) (fun _ _ _ h => h) (by kernel_rfl) (fun wz => by go_simp) ?_
          refine WK.frame (a' := { tmps := #[Value.string s, undef, u2, u3, Value.slice A1 done.length c1, Value.int IntKind.i64 k, Value.string s, Value.bool false, Value.int IntKind.i64 k, Value.int IntKind.i64 ((k : Int) + 1), Value.string s, Value.int IntKind.i64 s.size, Value.bool true, u13, u14, Value.string s, Value.int IntKind.i64 k, Value.int IntKind.u8 a, Value.int IntKind.i64 x, Value.bool (decide ((x : Int) < 0)), Value.bool (decide ((x : Int) < 0)), Value.string s, Value.int IntKind.i64 k, Value.int IntKind.i64 ((k : Int) + 1), Value.int IntKind.u8 b, Value.int IntKind.i64 y, Value.bool (decide ((y : Int) < 0)), Value.bool (decide ((x : Int) < 0) || decide ((y : Int) < 0)), Value.slice A1 done.length c1, Value.string s, Value.int IntKind.i64 k, Value.int IntKind.u8 a, Value.int IntKind.i64 x, Value.int IntKind.i64 (16 * (x : Int)), Value.string s, Value.int IntKind.i64 k, u36, u37, u38, u39, u40, u41, u42, undef, undef, undef, undef, undef, undef, undef, undef, undef, undef], defers := [] }) (by kernel_rfl) ?_
          refine WK.pure hR (i := 8) (v := Value.int IntKind.i64 ((k : Int) + 1)) rfl (by kernel_rfl) (by kernel_rfl) (by kernel_rfl) (fun _ _ _ h => h) (by kernel_rfl) (fun wz => by go_simp; first | done | rfl) ?_
          refine WK.frame (a' := { tmps := #[Value.string s, undef, u2, u3, Value.slice A1 done.length c1, Value.int IntKind.i64 k, Value.string s, Value.bool false, Value.int IntKind.i64 k, Value.int IntKind.i64 ((k : Int) + 1), Value.string s, Value.int IntKind.i64 s.size, Value.bool true, u13, u14, Value.string s, Value.int IntKind.i64 k, Value.int IntKind.u8 a, Value.int IntKind.i64 x, Value.bool (decide ((x : Int) < 0)), Value.bool (decide ((x : Int) < 0)), Value.string s, Value.int IntKind.i64 k, Value.int IntKind.i64 ((k : Int) + 1), Value.int IntKind.u8 b, Value.int IntKind.i64 y, Value.bool (decide ((y : Int) < 0)), Value.bool (decide ((x : Int) < 0) || decide ((y : Int) < 0)), Value.slice A1 done.length c1, Value.string s, Value.int IntKind.i64 k, Value.int IntKind.u8 a, Value.int IntKind.i64 x, Value.int IntKind.i64 (16 * (x : Int)), Value.string s, Value.int IntKind.i64 k, Value.int IntKind.i64 ((k : Int) + 1), u37, u38, u39, u40, u41, u42, undef, undef, undef, undef, undef, undef, undef, undef, undef, undef], defers := [] }) (by kernel_rfl) ?_
          refine WK.pure hR (i := 9) (v := Value.int IntKind.u8 b) rfl (by kernel_rfl) (by kernel_rfl) (by kernel_rfl) (fun _ _ _ h => h) (by kernel_rfl) (fun wz => by first | exact hib2 wz | (go_simp; done) | (go_simp; rw [hib2 wz]; rfl)) ?_
          refine WK.frame (a' := { tmps := #[Value.string s, undef, u2, u3, Value.slice A1 done.length c1, Value.int IntKind.i64 k, Value.string s, Value.bool false, Value.int IntKind.i64 k, Value.int IntKind.i64 ((k : Int) + 1), Value.string s, Value.int IntKind.i64 s.size, Value.bool true, u13, u14, Value.string s, Value.int IntKind.i64 k, Value.int IntKind.u8 a, Value.int IntKind.i64 x, Value.bool (decide ((x : Int) < 0)), Value.bool (decide ((x : Int) < 0)), Value.string s, Value.int IntKind.i64 k, Value.int IntKind.i64 ((k : Int) + 1), Value.int IntKind.u8 b, Value.int IntKind.i64 y, Value.bool (decide ((y : Int) < 0)), Value.bool (decide ((x : Int) < 0) || decide ((y : Int) < 0)), Value.slice A1 done.length c1, Value.string s, Value.int IntKind.i64 k, Value.int IntKind.u8 a, Value.int IntKind.i64 x, Value.int IntKind.i64 (16 * (x : Int)), Value.string s, Value.int IntKind.i64 k, Value.int IntKind.i64 ((k : Int) + 1), Value.int IntKind.u8 b, u38, u39, u40, u41, u42, undef, undef, undef, undef, undef, undef, undef, undef, undef, undef], defers := [] }) (by kernel_rfl) ?_
          refine WK.take hR (i := 10) (v := Value.int IntKind.i64 y) rfl (by kernel_rfl) (by kernel_rfl) (by kernel_rfl) (by kernel_rfl) (fun _ _ _ h => h) (YK.call hR (by kernel_rfl) (fun wz => by go_simp; first | done | rfl) (fun wz hz => hcb wz)) ?_
          refine WK.frame (a' := { tmps := #[Value.string s, undef, u2, u3, Value.slice A1 done.length c1, Value.int IntKind.i64 k, Value.string s, Value.bool false, Value.int IntKind.i64 k, Value.int IntKind.i64 ((k : Int) + 1), Value.string s, Value.int IntKind.i64 s.size, Value.bool true, u13, u14, Value.string s, Value.int IntKind.i64 k, Value.int IntKind.u8 a, Value.int IntKind.i64 x, Value.bool (decide ((x : Int) < 0)), Value.bool (decide ((x : Int) < 0)), Value.string s, Value.int IntKind.i64 k, Value.int IntKind.i64 ((k : Int) + 1), Value.int IntKind.u8 b, Value.int IntKind.i64 y, Value.bool (decide ((y : Int) < 0)), Value.bool (decide ((x : Int) < 0) || decide ((y : Int) < 0)), Value.slice A1 done.length c1, Value.string s, Value.int IntKind.i64 k, Value.int IntKind.u8 a, Value.int IntKind.i64 x, Value.int IntKind.i64 (16 * (x : Int)), Value.string s, Value.int IntKind.i64 k, Value.int IntKind.i64 ((k : Int) + 1), Value.int IntKind.u8 b, Value.int IntKind.i64 y, u39, u40, u41, u42, undef, undef, undef, undef, undef, undef, undef, undef, undef, undef], defers := [] }) (by kernel_rfl) ?_
          refine WK.pure hR (i := 11) (v := Value.int IntKind.i64 (16 * (x : Int) + y)) rfl (by kernel_rfl) (by kernel_rfl) (by kernel_rfl) (fun _ _ _ h => h) (by kernel_rfl) (fun wz => by go_simp; first | done | rfl) ?_
          refine WK.frame (a' := { tmps := #[Value.string s, undef, u2, u3, Value.slice A1 done.length c1, Value.int IntKind.i64 k, Value.string s, Value.bool false, Value.int IntKind.i64 k, Value.int IntKind.i64 ((k : Int) + 1), Value.string s, Value.int IntKind.i64 s.size, Value.bool true, u13, u14, Value.string s, Value.int IntKind.i64 k, Value.int IntKind.u8 a, Value.int IntKind.i64 x, Value.bool (decide ((x : Int) < 0)), Value.bool (decide ((x : Int) < 0)), Value.string s, Value.int IntKind.i64 k, Value.int IntKind.i64 ((k : Int) + 1), Value.int IntKind.u8 b, Value.int IntKind.i64 y, Value.bool (decide ((y : Int) < 0)), Value.bool (decide ((x : Int) < 0) || decide ((y : Int) < 0)), Value.slice A1 done.length c1, Value.string s, Value.int IntKind.i64 k, Value.int IntKind.u8 a, Value.int IntKind.i64 x, Value.int IntKind.i64 (16 * (x : Int)), Value.string s, Value.int IntKind.i64 k, Value.int IntKind.i64 ((k : Int) + 1), Value.int IntKind.u8 b, Value.int IntKind.i64 y, Value.int IntKind.i64 (16 * (x : Int) + y), u40, u41, u42, undef, undef, undef, undef, undef, undef, undef, undef, undef, undef], defers := [] }) (by kernel_rfl) ?_
          refine WK.pure hR (i := 12) (v := Value.int IntKind.u8 (16 * (x : Int) + y)) rfl (by kernel_rfl) (by kernel_rfl) (by kernel_rfl) (fun _ _ _ h => h) (by kernel_rfl) (fun wz => by go_simp; first | done | rfl) ?_
          refine WK.frame (a' := { tmps := #[Value.string s, undef, u2, u3, Value.slice A1 done.length c1, Value.int IntKind.i64 k, Value.string s, Value.bool false, Value.int IntKind.i64 k, Value.int IntKind.i64 ((k : Int) + 1), Value.string s, Value.int IntKind.i64 s.size, Value.bool true, u13, u14, Value.string s, Value.int IntKind.i64 k, Value.int IntKind.u8 a, Value.int IntKind.i64 x, Value.bool (decide ((x : Int) < 0)), Value.bool (decide ((x : Int) < 0)), Value.string s, Value.int IntKind.i64 k, Value.int IntKind.i64 ((k : Int) + 1), Value.int IntKind.u8 b, Value.int IntKind.i64 y, Value.bool (decide ((y : Int) < 0)), Value.bool (decide ((x : Int) < 0) || decide ((y : Int) < 0)), Value.slice A1 done.length c1, Value.string s, Value.int IntKind.i64 k, Value.int IntKind.u8 a, Value.int IntKind.i64 x, Value.int IntKind.i64 (16 * (x : Int)), Value.string s, Value.int IntKind.i64 k, Value.int IntKind.i64 ((k : Int) + 1), Value.int IntKind.u8 b, Value.int IntKind.i64 y, Value.int IntKind.i64 (16 * (x : Int) + y), Value.int IntKind.u8 (16 * (x : Int) + y), u41, u42, undef, undef, undef, undef, undef, undef, undef, undef, undef, undef], defers := [] }) (by kernel_rfl) ?_
          refine WK.each (rs := [13]) (by kernel_rfl) (by simp) (fun x1 hx1 i hi => ?_)
          simp only [List.mem_cons, List.not_mem_nil, or_false] at hi
          subst hi
          refine wpOp_makes (v := Value.slice (some { block := x1.heap.size, off := 0 }) 1 1) (w2 := x1.alloc (.cells #[.int .u8 (16 * (x : Int) + y)] 5)) rfl (by kernel_rfl) (by go_simp; first | done | rfl) ⟨.inr ((Below.refl _ x1).alloc (Nat.le_refl _) _), ?_⟩
          have KN := Blk.new x1 5 #[.int .u8 (16 * (x : Int) + y)]
          have hB2 : Below wr.heap.size wr (x1.alloc (.cells #[.int .u8 (16 * (x : Int) + y)] 5)) := hx1.alloc hx1.size _
          obtain ⟨bk, hbk⟩ : ∃ bk, x1.heap.size = bk := ⟨_, rfl⟩
          rw [hbk] at KN ⊢
          generalize x1.alloc (.cells #[.int .u8 (16 * (x : Int) + y)] 5) = x2 at *
          refine WK.frame (a' := { tmps := #[Value.string s, undef, u2, u3, Value.slice A1 done.length c1, Value.int IntKind.i64 k, Value.string s, Value.bool false, Value.int IntKind.i64 k, Value.int IntKind.i64 ((k : Int) + 1), Value.string s, Value.int IntKind.i64 s.size, Value.bool true, u13, u14, Value.string s, Value.int IntKind.i64 k, Value.int IntKind.u8 a, Value.int IntKind.i64 x, Value.bool (decide ((x : Int) < 0)), Value.bool (decide ((x : Int) < 0)), Value.string s, Value.int IntKind.i64 k, Value.int IntKind.i64 ((k : Int) + 1), Value.int IntKind.u8 b, Value.int IntKind.i64 y, Value.bool (decide ((y : Int) < 0)), Value.bool (decide ((x : Int) < 0) || decide ((y : Int) < 0)), Value.slice A1 done.length c1, Value.string s, Value.int IntKind.i64 k, Value.int IntKind.u8 a, Value.int IntKind.i64 x, Value.int IntKind.i64 (16 * (x : Int)), Value.string s, Value.int IntKind.i64 k, Value.int IntKind.i64 ((k : Int) + 1), Value.int IntKind.u8 b, Value.int IntKind.i64 y, Value.int IntKind.i64 (16 * (x : Int) + y), Value.int IntKind.u8 (16 * (x : Int) + y), Value.slice (some { block := bk, off := 0 }) 1 1, u42, undef, undef, undef, undef, undef, undef, undef, undef, undef, undef], defers := [] }) (by kernel_rfl) ?_
          refine WK.each (rs := [14]) (by kernel_rfl) (by simp) (fun x3 hx3 i hi => ?_)
          simp only [List.mem_cons, List.not_mem_nil, or_false] at hi
          subst hi
          have hb3 : Below wr.heap.size wr x3 := hB2.trans (hx3.mono hB2.size)
          have ho3 := own_below ho1 hb3
          have he3 := he1.trans (hb3.mono he1.size)
          have K3 := KN.below hx3 KN.lt
          refine wpOp_list rfl (by kernel_rfl) (wp_append_own (P := Tryd.prog) x3 (.tmp 28) (.tmp 41) 22 rfl w.heap.size 5 i0 _ 1 1 Tryd.underlying22 hi hz0 hz1 hz2 rfl (by decide) (Value.slice A1 done.length c1) done.length _ rfl ho3 ⟨bk, 0, none⟩ 1 1 [.int .u8 (16 * (x : Int) + y)] rfl rfl (blk_read K3) (by simp [Value.oneCell']) (by unfold maxLen; omega) (by omega) he3.size ?_)
          intro v9 w9 ho9 hg9 _
          refine ⟨.inl (by simp), ?_⟩
          have hb9 : Below w.heap.size w w9 := below_own he3 ho3 hg9 (Nat.le_refl _) he3.size
          obtain ⟨a9, c9, rfl⟩ := own_form ho9
          clear hg9 ho3 K3 KN hx3 hb3 he3 hB2 hx1
          refine WK.frame (a' := { tmps := #[Value.string s, undef, u2, u3, Value.slice A1 done.length c1, Value.int IntKind.i64 k, Value.string s, Value.bool false, Value.int IntKind.i64 k, Value.int IntKind.i64 ((k : Int) + 1), Value.string s, Value.int IntKind.i64 s.size, Value.bool true, u13, u14, Value.string s, Value.int IntKind.i64 k, Value.int IntKind.u8 a, Value.int IntKind.i64 x, Value.bool (decide ((x : Int) < 0)), Value.bool (decide ((x : Int) < 0)), Value.string s, Value.int IntKind.i64 k, Value.int IntKind.i64 ((k : Int) + 1), Value.int IntKind.u8 b, Value.int IntKind.i64 y, Value.bool (decide ((y : Int) < 0)), Value.bool (decide ((x : Int) < 0) || decide ((y : Int) < 0)), Value.slice A1 done.length c1, Value.string s, Value.int IntKind.i64 k, Value.int IntKind.u8 a, Value.int IntKind.i64 x, Value.int IntKind.i64 (16 * (x : Int)), Value.string s, Value.int IntKind.i64 k, Value.int IntKind.i64 ((k : Int) + 1), Value.int IntKind.u8 b, Value.int IntKind.i64 y, Value.int IntKind.i64 (16 * (x : Int) + y), Value.int IntKind.u8 (16 * (x : Int) + y), Value.slice (some { block := bk, off := 0 }) 1 1, Value.slice a9 (done.length + 1) c9, undef, undef, undef, undef, undef, undef, undef, undef, undef, undef], defers := [] }) (by kernel_rfl) ?_
          refine WK.pure hR (i := 15) (v := Value.slice a9 (done.length + 1) c9) rfl (by kernel_rfl) (by kernel_rfl) (by kernel_rfl) (fun _ _ _ h => h) (by kernel_rfl) (fun wz => by go_simp) ?_
          refine WK.frame (a' := { tmps := #[Value.string s, undef, u2, u3, Value.slice a9 (done.length + 1) c9, Value.int IntKind.i64 k, Value.string s, Value.bool false, Value.int IntKind.i64 k, Value.int IntKind.i64 ((k : Int) + 1), Value.string s, Value.int IntKind.i64 s.size, Value.bool true, u13, u14, Value.string s, Value.int IntKind.i64 k, Value.int IntKind.u8 a, Value.int IntKind.i64 x, Value.bool (decide ((x : Int) < 0)), Value.bool (decide ((x : Int) < 0)), Value.string s, Value.int IntKind.i64 k, Value.int IntKind.i64 ((k : Int) + 1), Value.int IntKind.u8 b, Value.int IntKind.i64 y, Value.bool (decide ((y : Int) < 0)), Value.bool (decide ((x : Int) < 0) || decide ((y : Int) < 0)), Value.slice A1 done.length c1, Value.string s, Value.int IntKind.i64 k, Value.int IntKind.u8 a, Value.int IntKind.i64 x, Value.int IntKind.i64 (16 * (x : Int)), Value.string s, Value.int IntKind.i64 k, Value.int IntKind.i64 ((k : Int) + 1), Value.int IntKind.u8 b, Value.int IntKind.i64 y, Value.int IntKind.i64 (16 * (x : Int) + y), Value.int IntKind.u8 (16 * (x : Int) + y), Value.slice (some { block := bk, off := 0 }) 1 1, Value.slice a9 (done.length + 1) c9, undef, undef, undef, undef, undef, undef, undef, undef, undef, undef], defers := [] }) (by kernel_rfl) ?_
          refine WK.done (by kernel_rfl) (fun wz hz => ?_)
          have O7 := Lib.hid (own_below ho9 hz)
          have H7 := Lib.hid (hb9.trans (hz.mono hb9.size))
          clear hz ho9 hb9
          clear hda hdb hca hcb hia hib2 hR ho1 he1
          go_wp2_with fail
          go_roundw
          case rel => exact ⟨k + 2, done ++ [16 * x + y], by first | rfl | go_num, by omega, HN.out, by simpa [u8v] using O7.out, H7.out⟩
          case measure => simp [intOf]; omega
    · have hnl : ¬ ((k : Int) + 1 < (s.size : Int)) := by omega
      by_cases hks : k = s.size
      · subst hks
        by_cases h0 : s.size = 0
        · have HU2 := Lib.hid (show U = none by rw [HU.out, if_pos h0])
          have h0i : (s.size : Int) = 0 := by omega
          have h0b : ((s.size : Int) == 0) = true := by rw [h0i]; rfl
          clear h0
          go_wp2_with fail
          all_goals go_ret2
          exact ⟨UnR.no HU2.out rfl, HE.out⟩
        · have HN := Lib.hid (HP.out.all HBL.out.symm)
          have HU2 := Lib.hid (show U = some done by rw [HU.out, if_neg h0, HN.out])
          have hm : (s.size : Int).tmod 2 = 0 := by rw [Int.tmod_eq_emod_of_nonneg (by omega)]; omega
          have h0b : ((s.size : Int) == 0) = false := beq_false_of_ne (by omega)
          go_wp2_with fail
          all_goals go_ret2
          exact ⟨UnR.yes HU2.out HO.out, HE.out⟩
      · have HN := Lib.hid (HP.out.odd (by rw [HBL.out]; omega))
        have h0 : ¬ s.size = 0 := by omega
        have HU2 := Lib.hid (show U = none by rw [HU.out, if_neg h0, HN.out])
        have hm : (s.size : Int).tmod 2 = 1 := by rw [Int.tmod_eq_emod_of_nonneg (by omega)]; omega
        have h0b : ((s.size : Int) == 0) = false := beq_false_of_ne (by omega)
        go_wp2_with fail
        all_goals go_ret2
        exact ⟨UnR.no HU2.out rfl, HE.out⟩
end Go.Proofs.YtbkgmeopdcealaaDoor
