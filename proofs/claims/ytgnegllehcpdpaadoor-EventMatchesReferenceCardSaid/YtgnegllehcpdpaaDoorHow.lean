import Derived.Test.YtgnegllehcpdpaaDoorHoi
namespace Go.Proofs.YtgnegllehcpdpaaDoor
open Go.ChangeShapes Go.WideShapes Go.ChangeAt Go.RowKit Go.Maps
set_option linter.unusedVariables false
set_option linter.unusedSimpArgs false
set_option maxRecDepth 100000 in
set_option maxHeartbeats 8000000 in
theorem honest_any (w : World) (A : Option Addr) (n cap : Nat) (es : List Ev) (h : Evs w A n es) (hn : n ≤ 1000) (hwho : ∀ e ∈ es, -1000000 ≤ e.who ∧ e.who ≤ 1000000) :
    Calls Tryd.prog 17 #[.slice A n cap] w fun r w' => r = .returned (.bool (honestB es)) ∧ Below w.heap.size w w' := by
  have HL := Lib.hid h.2.1
  have H := Lib.hid h
  have HW := Lib.hid hwho
  clear h hwho
  have hmm := @run_makeMap Tryd.prog
  go_enter Tryd.func17, Tryd.ntmps17
  go_wp2_with fail
  go_loopw [9] (fun i wr => ∃ (j : Nat) (D : DataW Unit), j ≤ n ∧ i = .int .i64 j ∧ wr.ownsMap Tryd.prog 57 (plainElem Tryd.prog 4) w.heap.size j D ∧ MapH (es.take j) D ∧ HI es j ∧ Below w.heap.size w wr) (fun i _ => n - (intOf i).toNat)
  case atStart => exact ⟨0, .map [], by omega, rfl, World.ownsMap_made _ _ _ _, by rw [List.take_zero]; exact MapH.none_, (fun i e hi => by omega), (Below.refl _ _).alloc (Nat.le_refl _) _⟩
  case round =>
    obtain ⟨j, D, hj, rfl, hown, hD, hS, hbel⟩ := hrel
    have HO := Lib.hid hown
    have HB := Lib.hid hbel
    have HD := Lib.hid hD
    have HS := Lib.hid hS
    have hbs := hbel.size
    have hlt := hown.lt
    clear hown hbel hD hS
    by_cases h1 : j < n
    · have h1i : (j : Int) < (n : Int) := by omega
      obtain ⟨b, o, e, rfl, hb, hs, hok, hc⟩ := H.out.at_ h1
      obtain ⟨c0, c1, c2, c3, c4, c5, c6⟩ := hc.below HB.out hb
      have hwe := HW.out e (List.mem_of_getElem? hs)
      have HX := Lib.hid hs
      have hs0 := hok.s0
      have hs1 := hok.s1
      have hwq : (Lit.int .u64 e.seq).wf = true := by go_wf
      have hbz : (str e.bs).size ≤ maxLen := by rw [str_size, hok.bys.len]; exact hok.len
      have hcv := conv_bys (c := e.c) ((hok.bys.below HB.out).below ((Below.refl _ wr).alloc (Nat.le_refl _) (.cells #[.int .i64 e.kind, .int .i64 e.who, .int .u64 e.seq, .int .u64 e.tick, .int .i64 e.code, .slice e.A e.n e.c, .string e.ad] 29)))
      by_cases hk1 : e.kind = 1
      case pos =>
        obtain ⟨kl, hkey⟩ := key57 (wf_small hwe) hwq hbz
        have HMN := Lib.hid (MapH.next HD.out HO.out.isMap e hk1 hkey)
        have HSN := Lib.hid (HS.out.next HX.out (fun h => by omega))
        rw [hk1] at c0 hcv
        clear hs hok hc hb hwe hk1 hbz
        generalize str e.bs = sb at *
        go_wp2_with (first
          | (at_mapUpdate; refine wpList_mapUpdate_own _ rfl _ _ _ 55 rfl 57 4 law57 Tryd.underlying55 _ w.heap.size j _ rfl (HO.out.alloc _) (by unfold maxLen; omega) _ _ _ rfl rfl hkey _ [] (plainElem_bool Tryd.underlying4 true) ?_; intro w1 hown1 hgrow1))
        have hown2 := Lib.hid hown1
        have hb1 := Lib.hid ((HB.out.alloc (by omega) _).grown hgrow1 (by simp; omega) (fun k hk => by cases hk; exact Nat.le_refl _))
        clear hown1 hgrow1
        go_roundw
        case rel => exact ⟨j + 1, _, by omega, by go_num, hown2.out, by rw [take_snoc HX.out]; exact HMN.out, HSN.out, hb1.out⟩
        case measure => simp [intOf]; omega
      have HMS := Lib.hid (MapH.skip HD.out e hk1)
      have g1 : (e.kind == 1) = false := by simp; exact hk1
      by_cases hk2 : e.kind = 2
      case neg =>
        have g2 : (e.kind == 2) = false := by simp; exact hk2
        have HSN := Lib.hid (HS.out.next HX.out (fun h => absurd h hk2))
        clear hs hok hc hb hwe hk1 hbz hk2 hcv
        go_wp2_with fail
        go_roundw
        case rel => exact ⟨j + 1, D, by omega, by go_num, (HO.out.alloc _).mono (by omega), by rw [take_snoc HX.out]; exact HMS.out, HSN.out, HB.out.alloc (by omega) _⟩
        case measure => simp [intOf]; omega
      obtain ⟨kl, hkey⟩ := key57 (h := 1 - e.who) (WalkArith.wf_i64 (by omega)) hwq hbz
      have hat0 := HD.out _ _ _ kl hkey
      have hiff := sentQ_iff H.out hs
      rw [hk2] at c0 hcv
      have HK2 := Lib.hid hk2
      obtain ⟨bv, hbv⟩ : ∃ bv, sentQ (es.take j) (1 - e.who) e.seq (str e.bs) = bv := ⟨_, rfl⟩
      rw [hbv] at hat0 hiff
      have HAT := Lib.hid hat0
      have HIF := Lib.hid hiff
      have hwb : -1000000 ≤ e.who ∧ e.who ≤ 1000000 := hwe
      obtain ⟨hw1, hw2⟩ := hwb
      clear hs hok hc hb hwe hk1 hbz hk2 hat0 hiff hbv g1
      generalize str e.bs = sb at *
      cases bv with
      | true =>
        have HSN := Lib.hid (HS.out.next HX.out (fun _ => HIF.out.1 rfl))
        go_wp2_with (first
          | (at_lookup; refine wpList_lookup_own_bool _ rfl _ _ 55 rfl 57 4 law57 Tryd.underlying55 Tryd.underlying4 (zero4 _) w.heap.size j _ rfl (HO.out.alloc _) _ _ rfl hkey ?_; intro c hat; obtain rfl : true = c := (by simpa using HAT.out.symm.trans hat); clear hat))
        go_roundw
        case rel => exact ⟨j + 1, D, by omega, by go_num, (HO.out.alloc _).mono (by omega), by rw [take_snoc HX.out]; exact HMS.out, HSN.out, HB.out.alloc (by omega) _⟩
        case measure => simp [intOf]; omega
      | false =>
        have hV : honestB es = false := honestB_false fun hh => by
          have := HIF.out.2 (hh j e HX.out HK2.out)
          cases this
        have HV := Lib.hid hV
        clear hV
        go_wp2_with (first
          | (at_lookup; refine wpList_lookup_own_bool _ rfl _ _ 55 rfl 57 4 law57 Tryd.underlying55 Tryd.underlying4 (zero4 _) w.heap.size j _ rfl (HO.out.alloc _) _ _ rfl hkey ?_; intro c hat; obtain rfl : false = c := (by simpa using HAT.out.symm.trans hat); clear hat))
        go_ret
        exact ⟨ret_bool HV.out.symm, HB.out.alloc (by omega) _⟩
    · obtain rfl : j = n := by omega
      have hS : honestB es = true := honestB_true fun i e he hk => HS.out i e (by have h9 := HL.out; have := (List.getElem?_eq_some_iff.1 he).1; omega) he hk
      have HSB := Lib.hid hS
      clear hS
      go_wp2_with fail
      go_ret
      exact ⟨ret_bool HSB.out.symm, HB.out⟩
end Go.Proofs.YtgnegllehcpdpaaDoor
