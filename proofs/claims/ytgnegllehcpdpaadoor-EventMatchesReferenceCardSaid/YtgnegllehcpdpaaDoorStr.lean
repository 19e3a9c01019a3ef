import Derived.Test.YtgnegllehcpdpaaDoorCds
namespace Go.Proofs.YtgnegllehcpdpaaDoor
open Go.ChangeShapes Go.WideShapes Go.ChangeAt Go.RowKit
set_option linter.unusedVariables false
set_option linter.unusedSimpArgs false
/-- The later of two events of one kind and session has the greater number. -/
def okPair (e f : Ev) : Prop := (e.kind = 1 ∨ e.kind = 2) → f.kind = e.kind → f.who = e.who → f.seq < e.seq
def strictP (es : List Ev) : Prop := ∀ (i k : Nat) (e f : Ev), es[i]? = some e → es[k]? = some f → k < i → okPair e f
open Classical in
noncomputable def strictB (es : List Ev) : Bool := decide (strictP es)
theorem strictB_true {es : List Ev} (h : strictP es) : strictB es = true := by unfold strictB; simp [h]
theorem strictB_false {es : List Ev} (h : ¬ strictP es) : strictB es = false := by unfold strictB; simp [h]
theorem three_of {w : World} {b o : Nat} {e : Ev} (h : SevenAt w b o e) : w.cell? ⟨b, o, none⟩ = some (.int .i64 e.kind) ∧ w.cell? ⟨b, o + 1, none⟩ = some (.int .i64 e.who) ∧ w.cell? ⟨b, o + 2, none⟩ = some (.int .u64 e.seq) := ⟨h.1, h.2.1, h.2.2.1⟩
set_option maxRecDepth 100000 in
set_option maxHeartbeats 8000000 in
theorem rstrict_any (w : World) (A : Option Addr) (n cap : Nat) (es : List Ev) (h : Evs w A n es) (hn : n ≤ maxLen) :
    Calls Tryd.prog 20 #[.slice A n cap] w fun r w' => r = .returned (.bool (strictB es)) ∧ ∃ d, w' = w.drewN d := by
  unfold maxLen at hn
  have HL := Lib.hid h.2.1
  have H := Lib.hid h
  clear h
  go_enter Tryd.func20, Tryd.ntmps20
  go_wp2_with fail
  go_loopw [3] (fun i wr => ∃ (j d : Nat), j ≤ n ∧ i = .int .i64 j ∧ (∀ (i' k' : Nat) (e f : Ev), i' < j → es[i']? = some e → es[k']? = some f → k' < i' → okPair e f) ∧ wr = w.drewN d) (fun i _ => n - (intOf i).toNat)
  case atStart => exact ⟨0, 0, by omega, rfl, fun i' k' e f hi => by omega, rfl⟩
  case round =>
    obtain ⟨j, d, hj, rfl, hI, rfl⟩ := hrel
    have HI := Lib.hid hI
    clear hI
    by_cases h1 : j < n
    · have h1i : (j : Int) < (n : Int) := by omega
      obtain ⟨b, o, e, rfl, hb, hs, hok, hc⟩ := H.out.at_ h1
      obtain ⟨p0, p1, p2⟩ := three_of hc
      have HX := Lib.hid hs
      clear hs hok hc
      go_wp2_with fail
      obtain ⟨d0, hd0⟩ : ∃ d0, d0 = d := ⟨_, rfl⟩
      go_loopw [4] (fun i wr => ∃ (k d : Nat), k ≤ j ∧ i = .int .i64 k ∧ (∀ (k' : Nat) (f : Ev), k' < k → es[k']? = some f → okPair e f) ∧ wr = w.drewN d) (fun i _ => j - (intOf i).toNat)
      case atStart => exact ⟨0, d, by omega, rfl, fun k' f hk => by omega, rfl⟩
      case round =>
        clear hd0
        obtain ⟨k, d1, hk, rfl, hI2, rfl⟩ := hrel
        have HI2 := Lib.hid hI2
        clear hI2
        by_cases h2 : k < j
        · have h2i : (k : Int) < (j : Int) := by omega
          have h2n : (k : Int) < (n : Int) := by omega
          obtain ⟨b', o', f, hbo, hb', hs', hok', hc'⟩ := H.out.at_ (show k < n by omega)
          obtain ⟨rfl, rfl⟩ : b = b' ∧ o = o' := by injection hbo with hbo; injection hbo with e1 e2; exact ⟨e1, e2⟩
          obtain ⟨q0, q1, q2⟩ := three_of hc'
          have HX' := Lib.hid hs'
          clear hs' hok' hc' hbo hb'
          have step : ∀ (hok : okPair e f) (k' : Nat) (f' : Ev), k' < k + 1 → es[k']? = some f' → okPair e f' := fun hok k' f' hk' hf' => by
            rcases Nat.lt_or_ge k' k with h | h
            · exact HI2.out k' f' h hf'
            · obtain rfl : k' = k := by omega
              have := HX'.out
              rw [hf'] at this
              injection this with this
              subst this
              exact hok
          have viol : ∀ (hbad : ¬ okPair e f), strictB es = false := fun hbad => strictB_false fun hs => hbad (hs j k e f HX.out HX'.out h2)
          have ST := Lib.hid (And.intro step viol)
          clear step viol
          by_cases hm : e.kind = 1 ∨ e.kind = 2
          case neg =>
            have g1 : (e.kind == 1) = false := by simp; omega
            have g2 : (e.kind == 2) = false := by simp; omega
            have HOK := Lib.hid (ST.out.1 (fun h => absurd h hm))
            clear hm
            go_wp2_with fail
            go_quiet (fail)
            go_wp2_with fail
            go_roundw
            case rel => exact ⟨k + 1, _, by omega, by go_num, HOK.out, rfl⟩
            case measure => simp [intOf]; omega
          by_cases hk2 : f.kind = e.kind
          case neg =>
            have g3 : (f.kind == e.kind) = false := by simp; exact hk2
            have HOK := Lib.hid (ST.out.1 (fun _ h => absurd h hk2))
            rcases hm with hm | hm
            all_goals
              rw [hm] at p0 g3
              clear hk2
              go_wp2_with fail
              go_quiet (fail)
              go_wp2_with fail
              go_roundw
              case rel => exact ⟨k + 1, _, by omega, by go_num, HOK.out, rfl⟩
              case measure => simp [intOf]; omega
          rw [hk2] at q0
          by_cases hw2 : f.who = e.who
          case neg =>
            have g3 : (f.who == e.who) = false := by simp; exact hw2
            have HOK := Lib.hid (ST.out.1 (fun _ _ h => absurd h hw2))
            rcases hm with hm | hm
            all_goals
              rw [hm] at p0 q0
              clear hk2 hw2
              go_wp2_with fail
              go_quiet (fail)
              go_wp2_with fail
              go_roundw
              case rel => exact ⟨k + 1, _, by omega, by go_num, HOK.out, rfl⟩
              case measure => simp [intOf]; omega
          rw [hw2] at q1
          by_cases hq2 : f.seq < e.seq
          · have HOK := Lib.hid (ST.out.1 (fun _ _ _ => hq2))
            rcases hm with hm | hm
            all_goals
              rw [hm] at p0 q0
              clear hk2 hw2
              go_wp2_with fail
              go_quiet (fail)
              go_wp2_with fail
              go_roundw
              case rel => exact ⟨k + 1, _, by omega, by go_num, HOK.out, rfl⟩
              case measure => simp [intOf]; omega
          · have hq3 : e.seq ≤ f.seq := by omega
            have HV := Lib.hid (ST.out.2 (fun h => hq2 (h hm hk2 hw2)))
            rcases hm with hm | hm
            all_goals
              rw [hm] at p0 q0
              clear hk2 hw2 hq2
              go_wp2_with fail
              go_quiet (fail)
              go_wp2_with fail
              go_ret
              exact ⟨ret_bool HV.out.symm, _, World.drewN_drewN _ _ _⟩
        · obtain rfl : k = j := by omega
          have hnext : ∀ (i' k' : Nat) (e f : Ev), i' < k + 1 → es[i']? = some e → es[k']? = some f → k' < i' → okPair e f := fun i' k' e' f hi he hf hki => by
            rcases Nat.lt_or_ge i' k with h | h
            · exact HI.out i' k' e' f h he hf hki
            · obtain rfl : i' = k := by omega
              have := HX.out
              rw [he] at this
              injection this with this
              subst this
              exact HI2.out k' f hki hf
          have HN := Lib.hid hnext
          clear hnext
          go_wp2_with fail
          go_roundw
          case rel => exact ⟨k + 1, _, by omega, by go_num, HN.out, rfl⟩
          case measure => simp [intOf]; omega
    · obtain rfl : j = n := by omega
      have hS : strictB es = true := strictB_true fun i k e f he hf hki => HI.out i k e f (by have h9 := HL.out; have := (List.getElem?_eq_some_iff.1 he).1; omega) he hf hki
      have HS := Lib.hid hS
      clear hS
      go_wp2_with fail
      go_ret
      exact ⟨ret_bool HS.out.symm, _, rfl⟩
end Go.Proofs.YtgnegllehcpdpaaDoor
