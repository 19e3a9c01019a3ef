import Derived.Test.YtbkgmeopdcealaaDoorNmp
namespace Go.Proofs.YtbkgmeopdcealaaDoor
open Go.ChangeShapes Go.WideShapes Go.ChangeAt Go.RowKit Go.Sort
set_option linter.unusedVariables false
set_option linter.unusedSimpArgs false
theorem numB_of {s : ByteArray} {m u : Nat} (e : decS u = s) (h : u ≤ m) : numB s m = true ∧ dvS s = u := by
  subst e; exact ⟨numB_dec u m h, dvS_dec u⟩
theorem atoiSat_in (l : List UInt8) : -9223372036854775808 ≤ Lib.atoiSat l ∧ Lib.atoiSat l ≤ 9223372036854775807 := by unfold Lib.atoiSat; split <;> omega
theorem atoi_in {l : List UInt8} {v : Int} (h : Lib.atoiAll l = .ok v) : -9223372036854775808 ≤ v ∧ v ≤ 9223372036854775807 := by
  unfold Lib.atoiAll at h
  split at h
  · cases h
  · simp only at h
    split at h
    · cases h
    · cases h
    · repeat' split at h
      all_goals first
        | (cases h; done)
        | (injection h with h; omega)
set_option maxRecDepth 100000 in
set_option maxHeartbeats 4000000 in
/-- script.number. -/
theorem number_any (s : ByteArray) (m : Nat) (w : World) (hs : s.size ≤ 1000000) (hm : m ≤ 2000000) (hp : Pow w)
    (hsyn : ∃ tp p, w.var? Tryd.prog "strconv.ErrSyntax" = some #[.iface tp p]) (hrng : ∃ tp p, w.var? Tryd.prog "strconv.ErrRange" = some #[.iface tp p]) :
    Calls Tryd.prog 41 #[.string s, .int .i64 m] w fun e w' => (∃ n : Int, e = .returned (.tuple #[.int .i64 n, .bool (numB s m)]) ∧ (numB s m = true → n = (dvS s : Int))) ∧ Below w.heap.size w w' := by
  cases hv : Lib.atoiAll s.data.toList with
  | ok v =>
    have hc := (Tryd.strconv_Atoi_ok s (by omega) v hv w).mono (R' := fun e w' => e = .returned (.tuple #[.int .i64 v, .nilIface]) ∧ Below w.heap.size w w') fun e w' ⟨he, hw⟩ => ⟨he, by
      rcases hw with rfl | ⟨t, rfl⟩
      · exact Below.refl _ _
      · exact Lib.bytesWorld_below w 5 t⟩
    obtain ⟨hv0, hv1⟩ := atoi_in hv
    have hit : ∀ W, Below w.heap.size w W → Calls Tryd.prog 49 #[.int .i64 v] W fun e w' => e = .returned (.string (itS v)) ∧ Below W.heap.size W w' := fun W hb => itoa_any v W (hp.below hb) hv0 hv1
    have HIT := Lib.hid hit
    obtain ⟨nb, hnb⟩ : ∃ b, numB s m = b := ⟨_, rfl⟩
    have HV := Lib.hid (show nb = true → v = (dvS s : Int) from fun h => by
      have := numB_atoi (by omega) (hnb.trans h)
      rw [hv] at this
      injection this)
    rw [hnb]
    by_cases h0 : v < 0
    · have HN := Lib.hid (show nb = false by
        cases nb with
        | false => rfl
        | true => have := HV.out rfl; omega)
      clear hp hsyn hrng hv hit hnb
      go_enter Tryd.func41, Tryd.ntmps41
      go_wp2_with (go_at_call 56; refine hc.mono ?_; rintro _ w1 ⟨rfl, hb⟩; refine Hid.out ?_)
      refine Lib.hid ?_
      have HB := Lib.hid hb
      clear hc hb
      go_wp2_with fail
      all_goals go_ret2
      exact ⟨⟨v, by rw [HN.out]; rfl, HV.out⟩, HB.out⟩
    by_cases h1 : (m : Int) < v
    · have HN := Lib.hid (show nb = false by
        cases hb : nb with
        | false => rfl
        | true =>
          have h2 := HV.out hb
          rw [hb] at hnb
          unfold numB at hnb
          simp only [Bool.and_eq_true, decide_eq_true_eq] at hnb
          omega)
      have h0' : (0 : Int) ≤ v := by omega
      clear hp hsyn hrng hv hit hnb h0
      go_enter Tryd.func41, Tryd.ntmps41
      go_wp2_with (go_at_call 56; refine hc.mono ?_; rintro _ w1 ⟨rfl, hb⟩; refine Hid.out ?_)
      refine Lib.hid ?_
      have HB := Lib.hid hb
      clear hc hb
      go_wp2_with fail
      all_goals go_ret2
      exact ⟨⟨v, by rw [HN.out]; rfl, HV.out⟩, HB.out⟩
    have h0' : (0 : Int) ≤ v := by omega
    have h1' : v ≤ (m : Int) := by omega
    have HS := Lib.hid (show itS v = s → nb = true from fun h => by
      obtain ⟨u, rfl⟩ : ∃ u : Nat, v = (u : Int) := ⟨v.toNat, by omega⟩
      rw [itS_nat] at h
      rw [← hnb]
      exact (numB_of h (by omega)).1)
    have HS2 := Lib.hid (show nb = true → itS v = s from fun h => by
      have h2 := HV.out h
      rw [h] at hnb
      unfold numB at hnb
      simp only [Bool.and_eq_true, decide_eq_true_eq] at hnb
      rw [h2, itS_nat]
      exact hnb.1)
    obtain ⟨T, hT⟩ : ∃ T, itS v = T := ⟨_, rfl⟩
    rw [hT] at HIT HS HS2
    clear hp hsyn hrng hv hit hnb h0 h1 hT
    by_cases he : T = s
    · have HN := Lib.hid (HS.out he)
      subst he
      go_enter Tryd.func41, Tryd.ntmps41
      go_wp2_with (go_at_call 56; refine hc.mono ?_; rintro _ w1 ⟨rfl, hb⟩; refine Hid.out ?_)
      refine Lib.hid ?_
      have HB := Lib.hid hb
      have hi := HIT.out w1 hb
      clear hc hb
      go_wp2_with (go_at_call 49; refine hi.mono ?_; rintro _ w2 ⟨rfl, hb⟩; refine Hid.out ?_)
      refine Lib.hid ?_
      have HB2 := Lib.hid (through HB.out hb)
      clear hi hb
      go_wp2_with fail
      all_goals go_ret2
      exact ⟨⟨v, by rw [HN.out]; rfl, HV.out⟩, HB2.out⟩
    · have HN := Lib.hid (show nb = false by
        cases hb : nb with
        | false => rfl
        | true => exact absurd (HS2.out hb) he)
      have hne : (T.toList == s.toList) = false := toList_ne he
      clear he
      go_enter Tryd.func41, Tryd.ntmps41
      go_wp2_with (go_at_call 56; refine hc.mono ?_; rintro _ w1 ⟨rfl, hb⟩; refine Hid.out ?_)
      refine Lib.hid ?_
      have HB := Lib.hid hb
      have hi := HIT.out w1 hb
      clear hc hb
      go_wp2_with (go_at_call 49; refine hi.mono ?_; rintro _ w2 ⟨rfl, hb⟩; refine Hid.out ?_)
      refine Lib.hid ?_
      have HB2 := Lib.hid (through HB.out hb)
      clear hi hb
      go_wp2_with fail
      all_goals go_ret2
      exact ⟨⟨v, by rw [HN.out]; rfl, HV.out⟩, HB2.out⟩
  | «syntax» =>
    obtain ⟨tp, p, hq⟩ := hsyn
    have hc := Tryd.strconv_Atoi_syntax_var s (by omega) hv tp p w hq
    have HN := Lib.hid (show numB s m = false by
      cases hb : numB s m with
      | false => rfl
      | true => have := numB_atoi (by omega) hb; rw [hv] at this; cases this)
    generalize numB s m = nb at *
    clear hp hrng hv hq
    go_enter Tryd.func41, Tryd.ntmps41
    go_wp2_with (go_at_call 56; refine hc.mono ?_; rintro _ w1 ⟨N, rfl, _, _, hb⟩; refine Hid.out ?_)
    refine Lib.hid ?_
    have HB := Lib.hid hb
    clear hc hb
    go_wp2_with fail
    all_goals go_ret2
    exact ⟨⟨0, by rw [HN.out]; rfl, fun h => by rw [HN.out] at h; cases h⟩, HB.out⟩
  | range =>
    obtain ⟨tp, p, hq⟩ := hrng
    have hc := Tryd.strconv_Atoi_range_var s (by omega) hv tp p w hq
    have HN := Lib.hid (show numB s m = false by
      cases hb : numB s m with
      | false => rfl
      | true => have := numB_atoi (by omega) hb; rw [hv] at this; cases this)
    generalize numB s m = nb at *
    generalize Lib.atoiSat s.data.toList = sv at *
    clear hp hsyn hv hq
    go_enter Tryd.func41, Tryd.ntmps41
    go_wp2_with (go_at_call 56; refine hc.mono ?_; rintro _ w1 ⟨N, rfl, _, _, hb⟩; refine Hid.out ?_)
    refine Lib.hid ?_
    have HB := Lib.hid hb
    clear hc hb
    go_wp2_with fail
    all_goals go_ret2
    exact ⟨⟨sv, by rw [HN.out]; rfl, fun h => by rw [HN.out] at h; cases h⟩, HB.out⟩
end Go.Proofs.YtbkgmeopdcealaaDoor
