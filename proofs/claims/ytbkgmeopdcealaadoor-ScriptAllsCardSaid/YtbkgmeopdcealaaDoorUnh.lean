import Derived.Test.YtbkgmeopdcealaaDoorUnp
namespace Go.Proofs.YtbkgmeopdcealaaDoor
open Go.ChangeShapes Go.WideShapes Go.ChangeAt Go.RowKit Go.Sort
set_option linter.unusedVariables false
set_option linter.unusedSimpArgs false
theorem through {w W w1 : World} (h : Below w.heap.size w W) (hb : Below W.heap.size W w1) : Below w.heap.size w w1 := h.trans (hb.mono h.size)
/-- What Unhex answers: the bytes in a slice of the call's own, or none. -/
def UnR (base : Nat) (o : Option (List Nat)) (e : Ending) (w' : World) : Prop := match o with
  | none => e = .returned (.tuple #[.slice none 0 0, .bool false])
  | some bs => ∃ v, e = .returned (.tuple #[v, .bool true]) ∧ w'.ownsRow base 5 1 v bs.length (u8v bs)
theorem UnR.no {base : Nat} {o : Option (List Nat)} {e : Ending} {w' : World} (h : o = none) (he : e = .returned (.tuple #[.slice none 0 0, .bool false])) : UnR base o e w' := by subst h; exact he
theorem UnR.yes {base : Nat} {o : Option (List Nat)} {bs : List Nat} {v : Value} {w' : World} (h : o = some bs) (ho : w'.ownsRow base 5 1 v bs.length (u8v bs)) : UnR base o (.returned (.tuple #[v, .bool true])) w' := by subst h; exact ⟨v, rfl, ho⟩
theorem bys_at (s : ByteArray) (i : Nat) (h : i < s.size) : ∃ x, x < 256 ∧ (bys s)[i]? = some x ∧ ∀ W : World, (Instr.index 9 (.string s) (.int .i64 (i : Int))).run Tryd.prog W = .ok (.int .u8 (x : Int)) W := by
  refine ⟨s[i].toNat, s[i].toNat_lt, ?_, fun W => ?_⟩
  · have e : s.data.toList[i]? = some s[i] := by simp [h]; rfl
    unfold bys
    rw [List.getElem?_map, e]; rfl
  · rw [run_index_string (w := W) 9 s .i64 (i : Int) Tryd.underlying9, dif_pos ⟨by omega, by omega⟩]
    rfl
theorem i64_or16 (x y : Nat) (hx : x < 16) (hy : y < 16) : bits .or .i64 ((x : Int) * 16) (y : Int) = ((16 * x + y : Nat) : Int) := by
  have h := Nat.shiftLeft_add_eq_or_of_lt (i := 4) (b := y) (by omega) x
  rw [Nat.shiftLeft_eq] at h
  have e := i64_or_nat (x * 2 ^ 4) y (by omega) (by omega)
  rw [← h] at e
  rw [show ((16 * x + y : Nat) : Int) = ((x * 2 ^ 4 + y : Nat) : Int) by omega, ← e]
  congr 1
set_option maxRecDepth 100000 in
set_option maxHeartbeats 4000000 in
theorem unhex_any (s : ByteArray) (w : World) (hs : s.size ≤ 1000000) : Calls Tryd.prog 22 #[.string s] w fun e w' => UnR w.heap.size (unhexS s) e w' ∧ Below w.heap.size w w' := by
  by_cases hd : s = dashS
  · have HU := Lib.hid (show unhexS s = some [] by unfold unhexS; rw [if_pos hd])
    subst hd
    generalize unhexS dashS = U at *
    rw [show dashS = (⟨#[45]⟩ : ByteArray) from rfl]
    go_enter Tryd.func22, Tryd.ntmps22
    go_wp2_with fail
    all_goals go_ret2
    exact ⟨UnR.yes HU.out (World.ownsRow_nil _ _ _ _), Below.refl _ _⟩
  have h45 : (s.toList == [45]) = false := by have := toList_ne hd; rwa [show dashS.toList = [45] by first | rfl | decide | simp [dashS]] at this
  have hb := bys_len s
  by_cases h0 : s.size = 0
  · have HU := Lib.hid (show unhexS s = none by unfold unhexS; rw [if_neg hd, if_pos h0])
    have he : s = ⟨#[]⟩ := by
      obtain ⟨⟨l⟩⟩ := s
      have : l = [] := List.eq_nil_of_length_eq_zero h0
      subst this; rfl
    subst he
    generalize unhexS ⟨#[]⟩ = U at *
    clear hd hb h0 hs
    go_enter Tryd.func22, Tryd.ntmps22
    go_wp2_with fail
    all_goals go_ret2
    exact ⟨UnR.no HU.out rfl, Below.refl _ _⟩
  have hne : (s.toList == []) = false := by
    rw [ByteArray.toList_eq]
    cases hl : s.data.toList with
    | nil => exfalso; apply h0; have e : s.data.toList.length = s.size := Array.length_toList; rw [hl] at e; exact e.symm
    | cons x l => rfl
  have HU := Lib.hid (show unhexS s = unL (bys s) by unfold unhexS; rw [if_neg hd, if_neg h0])
  generalize unhexS s = U at *
  by_cases hodd : s.size % 2 = 0
  · have hm : (s.size : Int).tmod 2 = 0 := by rw [Int.tmod_eq_emod_of_nonneg (by omega)]; omega
    obtain ⟨i0, hi, hz0, hz1, hz2⟩ := info_parts info5
    have HBL := Lib.hid hb
    clear hb hd h0
    go_enter Tryd.func22, Tryd.ntmps22
    go_wp2_with fail
    go_loopw [4, 5] (fun v i wr => ∃ (k : Nat) (done : List Nat), i = .int .i64 k ∧ k ≤ s.size ∧ Pairs (bys s) done k ∧ wr.ownsRow w.heap.size 5 1 v done.length (u8v done) ∧ Below w.heap.size w wr) (fun _ i _ => s.size - (intOf i).toNat)
    case atStart => exact ⟨0, [], rfl, by omega, Pairs.start _, World.ownsRow_nil _ _ _ _, Below.refl _ _⟩
    case round =>
      obtain ⟨k, done, rfl, hk, hp, ho, hbel⟩ := hrel
      obtain ⟨A1, c1, rfl⟩ := own_form ho
      have HO := Lib.hid ho
      have HE := Lib.hid hbel
      have HP := Lib.hid hp
      have hdl := hp.2.1
      have hsz := hbel.size
      clear ho hbel hp
      by_cases hlt : k < s.size
      · obtain ⟨a, ha9, ha, hia⟩ := bys_at s k hlt
        obtain ⟨b, hb9, hbb, hib⟩ := bys_at s (k + 1) (by omega)
        have HA := Lib.hid (And.intro ha hbb)
        have hki : (k : Int) < (s.size : Int) := by omega
        have hkj : (k : Int) + 1 < (s.size : Int) := by omega
        have hib2 : ∀ W : World, (Instr.index 9 (.string s) (.int .i64 ((k : Int) + 1))).run Tryd.prog W = .ok (.int .u8 (b : Int)) W := fun W => by have := hib W; push_cast at this; exact this
        have hkw : IntKind.i64.wrap ((k : Int) + 1) = (k : Int) + 1 := IntWalk.i64_in _ (by omega)
        clear ha hbb hib
        go_wp2_with fail
        have hR := later_below
        have hca : ∀ W : World, Calls Tryd.prog 34 #[.string ⟨#[48, 49, 50, 51, 52, 53, 54, 55, 56, 57, 97, 98, 99, 100, 101, 102]⟩, .int .u8 a] W fun e w' => e = .returned (.int .i64 (dgI a)) ∧ Below W.heap.size W w' := fun W => (index_any a W ha9).mono fun e w' ⟨he, hw⟩ => ⟨he, hw ▸ Below.refl _ _⟩
        have hcb : ∀ W : World, Calls Tryd.prog 34 #[.string ⟨#[48, 49, 50, 51, 52, 53, 54, 55, 56, 57, 97, 98, 99, 100, 101, 102]⟩, .int .u8 b] W fun e w' => e = .returned (.int .i64 (dgI b)) ∧ Below W.heap.size W w' := fun W => (index_any b W hb9).mono fun e w' ⟨he, hw⟩ => ⟨he, hw ▸ Below.refl _ _⟩
        obtain ⟨RA, hRA⟩ : ∃ r, dgI a = r := ⟨_, rfl⟩
        obtain ⟨RB, hRB⟩ : ∃ r, dgI b = r := ⟨_, rfl⟩
        rw [hRA] at hca
        rw [hRB] at hcb
        have HRR := Lib.hid (And.intro hRA hRB)
        clear hRA hRB
        refine wp_region_later (X := []) hR (by kernel_rfl) ?_
        refine WK.pure hR (i := 0) (v := Value.string s) rfl (by kernel_rfl) (by kernel_rfl) (by kernel_rfl) (fun _ _ _ h => h) (by kernel_rfl) (fun wz => by go_simp) ?_
        refine WK.frame (a' := { tmps := #[Value.string s, undef, u2, u3, Value.slice A1 done.length c1, Value.int IntKind.i64 k, u6, u7, Value.string s, Value.bool false, Value.string s, Value.bool false, Value.bool false, Value.string s, Value.int IntKind.i64 s.size, Value.int IntKind.i64 0, Value.bool false, Value.bool false, Value.int IntKind.i64 k, Value.string s, Value.int IntKind.i64 s.size, Value.bool true, u22, u23, Value.string s, u25, u26, u27, u28, u29, u30, u31, u32, u33, u34, u35, u36, u37, u38, u39, u40, u41, u42, u43, u44, u45, u46, undef], defers := [] }) (by kernel_rfl) ?_
        refine WK.pure hR (i := 1) (v := Value.int IntKind.i64 k) rfl (by kernel_rfl) (by kernel_rfl) (by kernel_rfl) (fun _ _ _ h => h) (by kernel_rfl) (fun wz => by go_simp) ?_
        refine WK.frame (a' := { tmps := #[Value.string s, undef, u2, u3, Value.slice A1 done.length c1, Value.int IntKind.i64 k, u6, u7, Value.string s, Value.bool false, Value.string s, Value.bool false, Value.bool false, Value.string s, Value.int IntKind.i64 s.size, Value.int IntKind.i64 0, Value.bool false, Value.bool false, Value.int IntKind.i64 k, Value.string s, Value.int IntKind.i64 s.size, Value.bool true, u22, u23, Value.string s, Value.int IntKind.i64 k, u26, u27, u28, u29, u30, u31, u32, u33, u34, u35, u36, u37, u38, u39, u40, u41, u42, u43, u44, u45, u46, undef], defers := [] }) (by kernel_rfl) ?_
        refine WK.pure hR (i := 2) (v := Value.int IntKind.u8 a) rfl (by kernel_rfl) (by kernel_rfl) (by kernel_rfl) (fun _ _ _ h => h) (by kernel_rfl) (fun wz => by first | exact hia wz | (go_simp; done) | (go_simp; rw [hia wz]; rfl)) ?_
        refine WK.frame (a' := { tmps := #[Value.string s, undef, u2, u3, Value.slice A1 done.length c1, Value.int IntKind.i64 k, u6, u7, Value.string s, Value.bool false, Value.string s, Value.bool false, Value.bool false, Value.string s, Value.int IntKind.i64 s.size, Value.int IntKind.i64 0, Value.bool false, Value.bool false, Value.int IntKind.i64 k, Value.string s, Value.int IntKind.i64 s.size, Value.bool true, u22, u23, Value.string s, Value.int IntKind.i64 k, Value.int IntKind.u8 a, u27, u28, u29, u30, u31, u32, u33, u34, u35, u36, u37, u38, u39, u40, u41, u42, u43, u44, u45, u46, undef], defers := [] }) (by kernel_rfl) ?_
        refine WK.take hR (i := 3) (v := Value.int IntKind.i64 RA) rfl (by kernel_rfl) (by kernel_rfl) (by kernel_rfl) (by kernel_rfl) (fun _ _ _ h => h) (YK.call hR (by kernel_rfl) (fun wz => by go_simp; first | done | rfl) (fun wz hz => hca wz)) ?_
        refine WK.frame (a' := { tmps := #[Value.string s, undef, u2, u3, Value.slice A1 done.length c1, Value.int IntKind.i64 k, u6, u7, Value.string s, Value.bool false, Value.string s, Value.bool false, Value.bool false, Value.string s, Value.int IntKind.i64 s.size, Value.int IntKind.i64 0, Value.bool false, Value.bool false, Value.int IntKind.i64 k, Value.string s, Value.int IntKind.i64 s.size, Value.bool true, u22, u23, Value.string s, Value.int IntKind.i64 k, Value.int IntKind.u8 a, Value.int IntKind.i64 RA, u28, u29, u30, u31, u32, u33, u34, u35, u36, u37, u38, u39, u40, u41, u42, u43, u44, u45, u46, undef], defers := [] }) (by kernel_rfl) ?_
        refine WK.pure hR (i := 4) (v := Value.string s) rfl (by kernel_rfl) (by kernel_rfl) (by kernel_rfl) (fun _ _ _ h => h) (by kernel_rfl) (fun wz => by go_simp) ?_
        refine WK.frame (a' := { tmps := #[Value.string s, undef, u2, u3, Value.slice A1 done.length c1, Value.int IntKind.i64 k, u6, u7, Value.string s, Value.bool false, Value.string s, Value.bool false, Value.bool false, Value.string s, Value.int IntKind.i64 s.size, Value.int IntKind.i64 0, Value.bool false, Value.bool false, Value.int IntKind.i64 k, Value.string s, Value.int IntKind.i64 s.size, Value.bool true, u22, u23, Value.string s, Value.int IntKind.i64 k, Value.int IntKind.u8 a, Value.int IntKind.i64 RA, Value.string s, u29, u30, u31, u32, u33, u34, u35, u36, u37, u38, u39, u40, u41, u42, u43, u44, u45, u46, undef], defers := [] }) (by kernel_rfl) ?_
        refine WK.pure hR (i := 5) (v := Value.int IntKind.i64 k) rfl (by kernel_rfl) (by kernel_rfl) (by kernel_rfl) (fun _ _ _ h => h) (by kernel_rfl) (fun wz => by go_simp) ?_
        refine WK.frame (a' := { tmps := #[Value.string s, undef, u2, u3, Value.slice A1 done.length c1, Value.int IntKind.i64 k, u6, u7, Value.string s, Value.bool false, Value.string s, Value.bool false, Value.bool false, Value.string s, Value.int IntKind.i64 s.size, Value.int IntKind.i64 0, Value.bool false, Value.bool false, Value.int IntKind.i64 k, Value.string s, Value.int IntKind.i64 s.size, Value.bool true, u22, u23, Value.string s, Value.int IntKind.i64 k, Value.int IntKind.u8 a, Value.int IntKind.i64 RA, Value.string s, Value.int IntKind.i64 k, u30, u31, u32, u33, u34, u35, u36, u37, u38, u39, u40, u41, u42, u43, u44, u45, u46, undef], defers := [] }) (by kernel_rfl) ?_
        refine WK.pure hR (i := 6) (v := Value.int IntKind.i64 ((k : Int) + 1)) rfl (by kernel_rfl) (by kernel_rfl) (by kernel_rfl) (fun _ _ _ h => h) (by kernel_rfl) (fun wz => by go_simp; first | done | rfl) ?_
        refine WK.frame (a' := { tmps := #[Value.string s, undef, u2, u3, Value.slice A1 done.length c1, Value.int IntKind.i64 k, u6, u7, Value.string s, Value.bool false, Value.string s, Value.bool false, Value.bool false, Value.string s, Value.int IntKind.i64 s.size, Value.int IntKind.i64 0, Value.bool false, Value.bool false, Value.int IntKind.i64 k, Value.string s, Value.int IntKind.i64 s.size, Value.bool true, u22, u23, Value.string s, Value.int IntKind.i64 k, Value.int IntKind.u8 a, Value.int IntKind.i64 RA, Value.string s, Value.int IntKind.i64 k, Value.int IntKind.i64 ((k : Int) + 1), u31, u32, u33, u34, u35, u36, u37, u38, u39, u40, u41, u42, u43, u44, u45, u46, undef], defers := [] }) (by kernel_rfl) ?_
        refine WK.pure hR (i := 7) (v := Value.int IntKind.u8 b) rfl (by kernel_rfl) (by kernel_rfl) (by kernel_rfl) (fun _ _ _ h => h) (by kernel_rfl) (fun wz => by first | exact hib2 wz | (go_simp; done) | (go_simp; rw [hib2 wz]; rfl)) ?_
        refine WK.frame (a' := { tmps := #[Value.string s, undef, u2, u3, Value.slice A1 done.length c1, Value.int IntKind.i64 k, u6, u7, Value.string s, Value.bool false, Value.string s, Value.bool false, Value.bool false, Value.string s, Value.int IntKind.i64 s.size, Value.int IntKind.i64 0, Value.bool false, Value.bool false, Value.int IntKind.i64 k, Value.string s, Value.int IntKind.i64 s.size, Value.bool true, u22, u23, Value.string s, Value.int IntKind.i64 k, Value.int IntKind.u8 a, Value.int IntKind.i64 RA, Value.string s, Value.int IntKind.i64 k, Value.int IntKind.i64 ((k : Int) + 1), Value.int IntKind.u8 b, u32, u33, u34, u35, u36, u37, u38, u39, u40, u41, u42, u43, u44, u45, u46, undef], defers := [] }) (by kernel_rfl) ?_
        refine WK.take hR (i := 8) (v := Value.int IntKind.i64 RB) rfl (by kernel_rfl) (by kernel_rfl) (by kernel_rfl) (by kernel_rfl) (fun _ _ _ h => h) (YK.call hR (by kernel_rfl) (fun wz => by go_simp; first | done | rfl) (fun wz hz => hcb wz)) ?_
        refine WK.frame (a' := { tmps := #[Value.string s, undef, u2, u3, Value.slice A1 done.length c1, Value.int IntKind.i64 k, u6, u7, Value.string s, Value.bool false, Value.string s, Value.bool false, Value.bool false, Value.string s, Value.int IntKind.i64 s.size, Value.int IntKind.i64 0, Value.bool false, Value.bool false, Value.int IntKind.i64 k, Value.string s, Value.int IntKind.i64 s.size, Value.bool true, u22, u23, Value.string s, Value.int IntKind.i64 k, Value.int IntKind.u8 a, Value.int IntKind.i64 RA, Value.string s, Value.int IntKind.i64 k, Value.int IntKind.i64 ((k : Int) + 1), Value.int IntKind.u8 b, Value.int IntKind.i64 RB, u33, u34, u35, u36, u37, u38, u39, u40, u41, u42, u43, u44, u45, u46, undef], defers := [] }) (by kernel_rfl) ?_
        refine WK.pure hR (i := 9) (v := Value.int IntKind.i64 RA) rfl (by kernel_rfl) (by kernel_rfl) (by kernel_rfl) (fun _ _ _ h => h) (by kernel_rfl) (fun wz => by go_simp) ?_
        refine WK.frame (a' := { tmps := #[Value.string s, undef, u2, u3, Value.slice A1 done.length c1, Value.int IntKind.i64 k, Value.int IntKind.i64 RA, u7, Value.string s, Value.bool false, Value.string s, Value.bool false, Value.bool false, Value.string s, Value.int IntKind.i64 s.size, Value.int IntKind.i64 0, Value.bool false, Value.bool false, Value.int IntKind.i64 k, Value.string s, Value.int IntKind.i64 s.size, Value.bool true, u22, u23, Value.string s, Value.int IntKind.i64 k, Value.int IntKind.u8 a, Value.int IntKind.i64 RA, Value.string s, Value.int IntKind.i64 k, Value.int IntKind.i64 ((k : Int) + 1), Value.int IntKind.u8 b, Value.int IntKind.i64 RB, u33, u34, u35, u36, u37, u38, u39, u40, u41, u42, u43, u44, u45, u46, undef], defers := [] }) (by kernel_rfl) ?_
        refine WK.pure hR (i := 10) (v := Value.int IntKind.i64 RB) rfl (by kernel_rfl) (by kernel_rfl) (by kernel_rfl) (fun _ _ _ h => h) (by kernel_rfl) (fun wz => by go_simp) ?_
        refine WK.frame (a' := { tmps := #[Value.string s, undef, u2, u3, Value.slice A1 done.length c1, Value.int IntKind.i64 k, Value.int IntKind.i64 RA, Value.int IntKind.i64 RB, Value.string s, Value.bool false, Value.string s, Value.bool false, Value.bool false, Value.string s, Value.int IntKind.i64 s.size, Value.int IntKind.i64 0, Value.bool false, Value.bool false, Value.int IntKind.i64 k, Value.string s, Value.int IntKind.i64 s.size, Value.bool true, u22, u23, Value.string s, Value.int IntKind.i64 k, Value.int IntKind.u8 a, Value.int IntKind.i64 RA, Value.string s, Value.int IntKind.i64 k, Value.int IntKind.i64 ((k : Int) + 1), Value.int IntKind.u8 b, Value.int IntKind.i64 RB, u33, u34, u35, u36, u37, u38, u39, u40, u41, u42, u43, u44, u45, u46, undef], defers := [] }) (by kernel_rfl) ?_
        refine WK.done (by kernel_rfl) (fun w2 hz => ?_)
        have HO2 := Lib.hid (own_below HO.out hz)
        have B2 := through HE.out hz
        have HE2 := Lib.hid B2
        have hs2 := B2.size
        clear hz hca hcb hia hib2 hR B2 HO HE
        rcases dg_cases a with ⟨ga, ga2⟩ | ⟨x, ga, ga2, gx⟩
        · have HN := Lib.hid (HP.out.bad HA.out.1 HA.out.2 (.inl ga))
          obtain rfl : RA = -1 := by rw [← HRR.out.1]; exact ga2
          clear ga ga2
          go_wp2_with fail
          all_goals go_ret2
          exact ⟨UnR.no (HU.out.trans HN.out) rfl, HE2.out⟩
        · obtain rfl : RA = (x : Int) := by rw [← HRR.out.1]; exact ga2
          rcases dg_cases b with ⟨gb, gb2⟩ | ⟨y, gb, gb2, gy⟩
          · have HN := Lib.hid (HP.out.bad HA.out.1 HA.out.2 (.inr gb))
            obtain rfl : RB = -1 := by rw [← HRR.out.2]; exact gb2
            have hx0 : (0 : Int) ≤ (x : Int) := by omega
            clear ga ga2 gb gb2
            go_wp2_with fail
            all_goals go_ret2
            exact ⟨UnR.no (HU.out.trans HN.out) rfl, HE2.out⟩
          · obtain rfl : RB = (y : Int) := by rw [← HRR.out.2]; exact gb2
            have HN := Lib.hid (HP.out.next HA.out.1 HA.out.2 ga gb)
            have hor := i64_or16 x y gx gy
            have hcv : IntKind.u8.wrap ((16 * x + y : Nat) : Int) = ((16 * x + y : Nat) : Int) := IntWalk.u8_in _ (by omega)
            have hw16 : IntKind.i64.wrap ((x : Int) * 16) = (x : Int) * 16 := IntWalk.i64_in _ (by omega)
            have hx0 : (0 : Int) ≤ (x : Int) := by omega
            have hy0 : (0 : Int) ≤ (y : Int) := by omega
            have hk63 : (k : Int) ≤ 1000000 := by omega
            generalize 16 * x + y = XY at *
            clear ga ga2 gb gb2 HRR
            go_wp2_with (at_builtin; refine wpList_append_own _ rfl _ _ 22 rfl w.heap.size 5 i0 (.int .u8 0) 1 1 Tryd.underlying22 hi hz0 hz1 hz2 rfl (by decide) _ _ _ rfl (HO2.out.alloc _) ⟨w2.heap.size, 0, none⟩ 1 1 [.int .u8 (XY : Nat)] rfl rfl (news_blk2 w2 #[.int .u8 (XY : Nat)] 5) (by intro u hu; simp at hu; subst hu; rfl) (by unfold maxLen; omega) (by omega) (by simp; omega) ?_; intro v7 w7 hown7 hg7 hx7; clear hx7; refine Hid.out ?_)
            refine Lib.hid ?_
            have H7 := Lib.hid (below_own (HE2.out.alloc hs2 _) (HO2.out.alloc _) hg7 (Nat.le_refl _) (by simp; omega))
            have O7 := Lib.hid hown7
            clear hown7 hg7
            go_wp2_with fail
            go_roundw
            case rel => exact ⟨k + 2, done ++ [XY], by first | rfl | go_num, by omega, HN.out, by simpa [u8v] using O7.out, H7.out⟩
            case measure => simp [intOf]; omega
      · obtain rfl : k = s.size := by omega
        have HN := Lib.hid (HP.out.all HBL.out.symm)
        go_wp2_with fail
        all_goals go_ret2
        exact ⟨UnR.yes (HU.out.trans HN.out) HO.out, HE.out⟩
  · have hm : (s.size : Int).tmod 2 = 1 := by rw [Int.tmod_eq_emod_of_nonneg (by omega)]; omega
    have HN := Lib.hid (show unL (bys s) = none by
      cases hu : unL (bys s) with
      | none => rfl
      | some bs => have := (hex_unL _ _ hu).2.2; rw [hb] at this; omega)
    clear hb hd h0 hodd
    go_enter Tryd.func22, Tryd.ntmps22
    go_wp2_with fail
    all_goals go_ret2
    exact ⟨UnR.no (HU.out.trans HN.out) rfl, Below.refl _ _⟩
end Go.Proofs.YtbkgmeopdcealaaDoor
