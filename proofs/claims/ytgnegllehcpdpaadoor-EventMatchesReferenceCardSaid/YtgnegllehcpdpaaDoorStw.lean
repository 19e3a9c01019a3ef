import Derived.Test.YtgnegllehcpdpaaDoorSti
namespace Go.Proofs.YtgnegllehcpdpaaDoor
open Go.ChangeShapes Go.WideShapes Go.ChangeAt Go.RowKit Go.Maps
set_option linter.unusedVariables false
set_option linter.unusedSimpArgs false
theorem wf_small {x : Int} (h : -1000000 ≤ x ∧ x ≤ 1000000) : (Lit.int .i64 x).wf = true := WalkArith.wf_i64 (by omega)
set_option maxRecDepth 100000 in
set_option maxHeartbeats 8000000 in
theorem strict_any (w : World) (A : Option Addr) (n cap : Nat) (es : List Ev) (h : Evs w A n es) (hn : n ≤ 1000) (hwho : ∀ e ∈ es, -1000000 ≤ e.who ∧ e.who ≤ 1000000) :
    Calls Tryd.prog 19 #[.slice A n cap] w fun r w' => r = .returned (.bool (strictB es)) ∧ Below w.heap.size w w' := by
  have HL := Lib.hid h.2.1
  have H := Lib.hid h
  have HW := Lib.hid hwho
  clear h hwho
  have hmm := @run_makeMap Tryd.prog
  go_enter Tryd.func19, Tryd.ntmps19
  go_wp2_with fail
  go_loopw [12] (fun i wr => ∃ (j : Nat) (D : DataW Unit), j ≤ n ∧ i = .int .i64 j ∧ wr.ownsMap Tryd.prog 60 (plainElem Tryd.prog 22) w.heap.size j D ∧ MapI (es.take j) D ∧ SI es j ∧ Below w.heap.size w wr) (fun i _ => n - (intOf i).toNat)
  case atStart => exact ⟨0, .map [], by omega, rfl, World.ownsMap_made _ _ _ _, by rw [List.take_zero]; exact MapI.none_, (fun i k e f hi => by omega), (Below.refl _ _).alloc (Nat.le_refl _) _⟩
  case round =>
    obtain ⟨j, D, hj, rfl, hown, hD, hS, hbel⟩ := hrel
    have HO := Lib.hid hown
    have HB := Lib.hid hbel
    have HD := Lib.hid hD
    have HS := Lib.hid hS
    have hbs := hbel.size
    have hlt := hown.lt
    clear hown hbel hD hS
    by_cases h1 : j < n
    · have h1i : (j : Int) < (n : Int) := by omega
      obtain ⟨b, o, e, rfl, hb, hs, hok, hc⟩ := H.out.at_ h1
      obtain ⟨c0, c1, c2, c3, c4, c5, c6⟩ := hc.below HB.out hb
      have hwe := HW.out e (List.mem_of_getElem? hs)
      have HX := Lib.hid hs
      have hs0 := hok.s0
      have hs1 := hok.s1
      clear hs hok hc hb
      by_cases hm : e.kind = 1 ∨ e.kind = 2
      case neg =>
        have g1 : (e.kind != 1) = true := by simp; omega
        have g2 : (e.kind != 2) = true := by simp; omega
        have HK := Lib.hid hm
        have HSN := Lib.hid (HS.out.next HX.out (fun k f _ _ => fun h => absurd h hm))
        clear hm hwe
        go_wp2_with fail
        go_roundw
        case rel => exact ⟨j + 1, D, by omega, by go_num, (HO.out.alloc _).mono (by omega), by rw [take_snoc HX.out]; exact MapI.skip HD.out e HK.out, HSN.out, HB.out.alloc (by omega) _⟩
        case measure => simp [intOf]; omega
      obtain ⟨kl, hkey⟩ := key60 (k := e.kind) (h := e.who) (by rcases hm with h | h <;> rw [h] <;> decide) (wf_small hwe)
      have hhas := (HD.out e.kind e.who kl hm hkey).1
      have hat0 := (HD.out e.kind e.who kl hm hkey).2
      have hLI := LI_of (h := e.who) hm j (by rw [HL.out]; omega) HS.out
      have HMN := Lib.hid (MapI.next HD.out HO.out.isMap e hkey)
      have hwq : (Lit.int .u64 e.seq).wf = true := by go_wf
      cases hl : lastS (es.take j) e.kind e.who with
      | none =>
        rw [hl] at hhas hLI
        have hhas' : Maps.has D kl = false := hhas
        have HSN := Lib.hid (HS.out.next HX.out (fun k f hk hf => fun _ ha hb => absurd ⟨ha, hb⟩ (hLI k f hk hf)))
        clear hhas hLI hat0 hl hwe
        rcases hm with hm | hm
        all_goals
          rw [hm] at c0 hkey
          go_wp2_with (first
            | (at_lookup; refine wpList_lookup_own_ok_int _ rfl _ _ 58 rfl 60 22 .u64 law60 Tryd.underlying58 Tryd.underlying22 (zero22 _) w.heap.size j _ rfl ((HO.out.alloc _).alloc _) _ _ rfl hkey ?_; intro c hat hwc; clear hat hwc; rw [hhas'])
            | (at_mapUpdate; refine wpList_mapUpdate_own _ rfl _ _ _ 58 rfl 60 22 law60 Tryd.underlying58 _ w.heap.size j _ rfl ((HO.out.alloc _).alloc _) (by unfold maxLen; omega) _ _ _ rfl rfl hkey _ [] (plainElem_int Tryd.underlying22 hwq) ?_; intro w1 hown1 hgrow1))
          have hown2 := Lib.hid hown1
          have hb1 := Lib.hid (((HB.out.alloc (by omega) _).alloc (by simp; omega) _).grown hgrow1 (by simp; omega) (fun k hk => by cases hk; exact Nat.le_refl _))
          clear hown1 hgrow1
          go_roundw
          case rel => exact ⟨j + 1, _, by omega, by go_num, hown2.out, by rw [take_snoc HX.out]; exact HMN.out, HSN.out, hb1.out⟩
          case measure => simp [intOf]; omega
      | some q =>
        rw [hl] at hhas hLI
        have hhas' : Maps.has D kl = true := hhas
        have HAT := Lib.hid (hat0 q hl)
        have HQ := Lib.hid hLI
        clear hhas hLI hat0 hl hwe
        by_cases hlt2 : e.seq ≤ q
        · have hV : strictB es = false := strictB_false fun hst => by
            obtain ⟨_, i, f, a0, a1, a2, a3, a4⟩ := HQ.out
            have := hst j i e f HX.out a1 a0 hm a2 a3
            omega
          have HV := Lib.hid hV
          clear hV
          rcases hm with hm | hm
          all_goals
            rw [hm] at c0 hkey
            go_wp2_with (first
              | (at_lookup; refine wpList_lookup_own_ok_int _ rfl _ _ 58 rfl 60 22 .u64 law60 Tryd.underlying58 Tryd.underlying22 (zero22 _) w.heap.size j _ rfl ((HO.out.alloc _).alloc _) _ _ rfl hkey ?_; intro c hat hwc; obtain rfl : q = c := (by simpa using HAT.out.symm.trans hat); clear hat hwc; rw [hhas']))
            go_ret
            exact ⟨ret_bool HV.out.symm, (HB.out.alloc (by omega) _).alloc (by simp; omega) _⟩
        · have hlt3 : q < e.seq := by omega
          have HSN := Lib.hid (HS.out.next HX.out (fun k f hk hf => fun _ ha hb => by have := HQ.out.1 k f hk hf ha hb; omega))
          clear hlt2
          rcases hm with hm | hm
          all_goals
            rw [hm] at c0 hkey
            go_wp2_with (first
              | (at_lookup; refine wpList_lookup_own_ok_int _ rfl _ _ 58 rfl 60 22 .u64 law60 Tryd.underlying58 Tryd.underlying22 (zero22 _) w.heap.size j _ rfl ((HO.out.alloc _).alloc _) _ _ rfl hkey ?_; intro c hat hwc; obtain rfl : q = c := (by simpa using HAT.out.symm.trans hat); clear hat hwc; rw [hhas'])
              | (at_mapUpdate; refine wpList_mapUpdate_own _ rfl _ _ _ 58 rfl 60 22 law60 Tryd.underlying58 _ w.heap.size j _ rfl ((HO.out.alloc _).alloc _) (by unfold maxLen; omega) _ _ _ rfl rfl hkey _ [] (plainElem_int Tryd.underlying22 hwq) ?_; intro w1 hown1 hgrow1))
            have hown2 := Lib.hid hown1
            have hb1 := Lib.hid (((HB.out.alloc (by omega) _).alloc (by simp; omega) _).grown hgrow1 (by simp; omega) (fun k hk => by cases hk; exact Nat.le_refl _))
            clear hown1 hgrow1
            go_roundw
            case rel => exact ⟨j + 1, _, by omega, by go_num, hown2.out, by rw [take_snoc HX.out]; exact HMN.out, HSN.out, hb1.out⟩
            case measure => simp [intOf]; omega
    · obtain rfl : j = n := by omega
      have hS : strictB es = true := strictB_true fun i k e f he hf hki => HS.out i k e f (by have h9 := HL.out; have := (List.getElem?_eq_some_iff.1 he).1; omega) he hf hki
      have HSB := Lib.hid hS
      clear hS
      go_wp2_with fail
      go_ret
      exact ⟨ret_bool HSB.out.symm, HB.out⟩
end Go.Proofs.YtgnegllehcpdpaaDoor
