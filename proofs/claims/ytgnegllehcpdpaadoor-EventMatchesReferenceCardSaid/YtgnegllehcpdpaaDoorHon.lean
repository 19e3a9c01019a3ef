import Derived.Test.YtgnegllehcpdpaaDoorStw
namespace Go.Proofs.YtgnegllehcpdpaaDoor
open Go.ChangeShapes Go.WideShapes Go.ChangeAt Go.RowKit
set_option linter.unusedVariables false
set_option linter.unusedSimpArgs false
/-- f is the sending that the delivery e wants. -/
def mates (e f : Ev) : Prop := f.kind = 1 ∧ f.who + e.who = 1 ∧ f.seq = e.seq ∧ f.bs = e.bs
def sentP (es : List Ev) (k : Nat) (e : Ev) : Prop := ∃ (i : Nat) (f : Ev), i < k ∧ es[i]? = some f ∧ mates e f
def honestP (es : List Ev) : Prop := ∀ (i : Nat) (e : Ev), es[i]? = some e → e.kind = 2 → sentP es i e
open Classical in
noncomputable def honestB (es : List Ev) : Bool := decide (honestP es)
theorem honestB_true {es : List Ev} (h : honestP es) : honestB es = true := by unfold honestB; simp [h]
theorem honestB_false {es : List Ev} (h : ¬ honestP es) : honestB es = false := by unfold honestB; simp [h]
theorem sentP_next {es : List Ev} {k : Nat} {e f : Ev} (hf : es[k]? = some f) : sentP es (k + 1) e ↔ sentP es k e ∨ mates e f := by
  constructor
  · rintro ⟨i, g, hi, hg, hm⟩
    rcases Nat.lt_or_ge i k with h | h
    · exact .inl ⟨i, g, h, hg, hm⟩
    · obtain rfl : i = k := by omega
      rw [hf] at hg
      injection hg with hg
      exact .inr (hg ▸ hm)
  · rintro (⟨i, g, hi, hg, hm⟩ | hm)
    · exact ⟨i, g, by omega, hg, hm⟩
    · exact ⟨k, f, by omega, hf, hm⟩
def Fnd (es : List Ev) (k : Nat) (e : Ev) (b : Bool) : Prop := b = true ↔ sentP es k e
theorem Fnd.no {es : List Ev} {k : Nat} {e f : Ev} {b : Bool} (h : Fnd es k e b) (hf : es[k]? = some f) (hm : ¬ mates e f) : Fnd es (k + 1) e b := by
  unfold Fnd at *
  rw [sentP_next hf, h]
  exact ⟨.inl, fun h => h.resolve_right hm⟩
theorem Fnd.yes {es : List Ev} {k : Nat} {e f : Ev} (hf : es[k]? = some f) (hm : mates e f) : Fnd es (k + 1) e true := by
  unfold Fnd
  rw [sentP_next hf]
  simp [hm]
def HI (es : List Ev) (j : Nat) : Prop := ∀ (i : Nat) (e : Ev), i < j → es[i]? = some e → e.kind = 2 → sentP es i e
theorem HI.next {es : List Ev} {j : Nat} {e : Ev} (h : HI es j) (he : es[j]? = some e) (hs : e.kind = 2 → sentP es j e) : HI es (j + 1) := fun i e' hi he' hk => by
  rcases Nat.lt_or_ge i j with h1 | h1
  · exact h i e' h1 he' hk
  · obtain rfl : i = j := by omega
    rw [he] at he'
    injection he' with he'
    subst he'
    exact hs hk
theorem four_of {w : World} {b o : Nat} {e : Ev} (h : SevenAt w b o e) : w.cell? ⟨b, o, none⟩ = some (.int .i64 e.kind) ∧ w.cell? ⟨b, o + 1, none⟩ = some (.int .i64 e.who) ∧ w.cell? ⟨b, o + 2, none⟩ = some (.int .u64 e.seq) ∧ w.cell? ⟨b, o + 5, none⟩ = some (.slice e.A e.n e.c) := ⟨h.1, h.2.1, h.2.2.1, h.2.2.2.2.2.1⟩
theorem Evs.drewN {w : World} {A : Option Addr} {n : Nat} {es : List Ev} (h : Evs w A n es) (k : Nat) : Evs (w.drewN k) A n es := h.below (below_drewN (Below.refl _ w) k)
theorem quiet_dr {P : Program} {f : FuncId} {args : Array Value} {w : World} {n : Nat} {v : Value}
    (h : Calls P f args (w.drewN n) fun e w' => e = .returned v ∧ ∃ k, w' = (w.drewN n).drewN k) : Calls P f args (w.drewN n) fun e w'' => e = .returned v ∧ ∃ m, w'' = w.drewN m :=
  h.mono fun _ _ ⟨he, k, hk⟩ => ⟨he, n + k, by rw [hk, World.drewN_drewN]⟩
set_option maxRecDepth 100000 in
set_option maxHeartbeats 8000000 in
theorem rhonest_any (w : World) (A : Option Addr) (n cap : Nat) (es : List Ev) (h : Evs w A n es) (hn : n ≤ maxLen) (hwho : ∀ e ∈ es, -1000000 ≤ e.who ∧ e.who ≤ 1000000) :
    Calls Tryd.prog 18 #[.slice A n cap] w fun r w' => r = .returned (.bool (honestB es)) ∧ ∃ d, w' = w.drewN d := by
  unfold maxLen at hn
  have HL := Lib.hid h.2.1
  have H := Lib.hid h
  have HW := Lib.hid hwho
  clear h hwho
  go_enter Tryd.func18, Tryd.ntmps18
  go_wp2_with fail
  go_loopw [3] (fun i wr => ∃ (j d : Nat), j ≤ n ∧ i = .int .i64 j ∧ HI es j ∧ wr = w.drewN d) (fun i _ => n - (intOf i).toNat)
  case atStart => exact ⟨0, 0, by omega, rfl, (fun i e hi => by omega), rfl⟩
  case round =>
    obtain ⟨j, d, hj, rfl, hI, rfl⟩ := hrel
    have HI1 := Lib.hid hI
    clear hI
    by_cases h1 : j < n
    · have h1i : (j : Int) < (n : Int) := by omega
      obtain ⟨b, o, e, rfl, hb, hs, hok, hc⟩ := (H.out.drewN d).at_ h1
      obtain ⟨p0, p1, p2, p5⟩ := four_of hc
      have hwe := HW.out e (List.mem_of_getElem? hs)
      have HX := Lib.hid hs
      have HOK := Lib.hid hok
      clear hs hok hc
      by_cases hk2 : e.kind = 2
      case neg =>
        have g2 : (e.kind != 2) = true := by simp; exact hk2
        have HN := Lib.hid (HI1.out.next HX.out (fun h => absurd h hk2))
        clear hk2
        go_wp2_with fail
        go_roundw
        case rel => exact ⟨j + 1, d, by omega, by go_num, HN.out, rfl⟩
        case measure => simp [intOf]; omega
      rw [hk2] at p0
      have HK2 := Lib.hid hk2
      clear hk2
      go_wp2_with fail
      obtain ⟨W, hW⟩ : ∃ W, w.drewN d = W := ⟨_, rfl⟩
      rw [hW] at p0 p1 p2 p5 HOK ⊢
      have HWE := Lib.hid hW
      clear hW
      go_loopw [4, 5] (fun fn i wr => ∃ (k d' : Nat) (bf : Bool), k ≤ j ∧ i = .int .i64 k ∧ fn = .bool bf ∧ Fnd es k e bf ∧ wr = W.drewN d') (fun _ i _ => j - (intOf i).toNat)
      case atStart => exact ⟨0, 0, false, by omega, rfl, rfl, ⟨fun h => by simp at h, fun ⟨i, f, hi, _⟩ => by omega⟩, rfl⟩
      case round =>
        obtain ⟨k, d1, bf, hk, rfl, rfl, hF, rfl⟩ := hrel
        have HF := Lib.hid hF
        clear hF
        by_cases h2 : k < j
        · have h2i : (k : Int) < (j : Int) := by omega
          have h2n : (k : Int) < (n : Int) := by omega
          obtain ⟨V, hV⟩ : ∃ V, W.drewN d1 = V := ⟨_, rfl⟩
          have HE : Evs V (some ⟨b, o, none⟩) n es := by rw [← hV, ← HWE.out]; exact (H.out.drewN d).drewN d1
          obtain ⟨b', o', f, hbo, hb', hs', hok', hc'⟩ := HE.at_ (show k < n by omega)
          obtain ⟨rfl, rfl⟩ : b = b' ∧ o = o' := by injection hbo with hbo; injection hbo with e1 e2; exact ⟨e1, e2⟩
          obtain ⟨q0, q1, q2, q5⟩ := four_of hc'
          have r1 : V.cell? ⟨b, o + j * 7 + 1, none⟩ = some (.int .i64 e.who) := by rw [← hV]; exact p1
          have r2 : V.cell? ⟨b, o + j * 7 + 2, none⟩ = some (.int .u64 e.seq) := by rw [← hV]; exact p2
          have r5 : V.cell? ⟨b, o + j * 7 + 5, none⟩ = some (.slice e.A e.n e.c) := by rw [← hV]; exact p5
          have hwf := HW.out f (List.mem_of_getElem? hs')
          have hok1 : EvOk V e := by rw [← hV]; exact HOK.out.below (below_drewN (Below.refl _ W) d1)
          have hsame := fun m => samek_any f.A e.A f.n f.c e.n e.c f.bs e.bs (V.drewN m) (hok'.bys.drewN m) (hok1.bys.drewN m) hok'.len hok1.len
          rw [hV]
          have HV := Lib.hid hV
          have HX' := Lib.hid hs'
          clear hs' hok' hc' hbo hb' HE hok1 hV p0 p1 p2 p5
          have hadd : IntKind.i64.wrap (f.who + e.who) = f.who + e.who := IntWalk.i64_in _ (by omega)
          by_cases hm1 : f.kind = 1
          case neg =>
            have g1 : (f.kind == 1) = false := by simp; exact hm1
            have HN := Lib.hid (HF.out.no HX'.out (fun h => hm1 h.1))
            clear hm1 hsame hwe hwf
            go_wp2_with fail
            go_quiet (fail)
            go_wp2_with fail
            go_roundw
            case rel => exact ⟨k + 1, _, _, by omega, by go_num, rfl, HN.out, by rw [← HV.out, World.drewN_drewN]⟩
            case measure => simp [intOf]; omega
          rw [hm1] at q0
          by_cases hm2 : f.who + e.who = 1
          case neg =>
            have g1 : (f.who + e.who == 1) = false := by simp; exact hm2
            have HN := Lib.hid (HF.out.no HX'.out (fun h => hm2 h.2.1))
            clear hm1 hm2 hsame
            go_wp2_with fail
            go_quiet (fail)
            go_wp2_with fail
            go_roundw
            case rel => exact ⟨k + 1, _, _, by omega, by go_num, rfl, HN.out, by rw [← HV.out, World.drewN_drewN]⟩
            case measure => simp [intOf]; omega
          have g1 : (f.who + e.who == 1) = true := by simp; exact hm2
          by_cases hm3 : f.seq = e.seq
          case neg =>
            have g2 : (f.seq == e.seq) = false := by simp; exact hm3
            have HN := Lib.hid (HF.out.no HX'.out (fun h => hm3 h.2.2.1))
            clear hm1 hm2 hm3 hsame
            go_wp2_with fail
            go_quiet (fail)
            go_wp2_with fail
            go_roundw
            case rel => exact ⟨k + 1, _, _, by omega, by go_num, rfl, HN.out, by rw [← HV.out, World.drewN_drewN]⟩
            case measure => simp [intOf]; omega
          rw [hm3] at q2
          by_cases hm4 : f.bs = e.bs
          case neg =>
            have hd : decide (f.bs = e.bs) = false := by simp; exact hm4
            rw [hd] at hsame
            have HN := Lib.hid (HF.out.no HX'.out (fun h => hm4 h.2.2.2))
            clear hm1 hm2 hm3 hm4 hd
            go_wp2_with fail
            go_quiet ((go_at_call 30; exact quiet_dr (hsame _)))
            go_wp2_with fail
            go_roundw
            case rel => exact ⟨k + 1, _, _, by omega, by go_num, rfl, HN.out, by rw [← HV.out, World.drewN_drewN]⟩
            case measure => simp [intOf]; omega
          have hd : decide (f.bs = e.bs) = true := by simp; exact hm4
          rw [hd] at hsame
          have HN := Lib.hid (Fnd.yes (es := es) HX'.out (⟨hm1, hm2, hm3, hm4⟩ : mates e f))
          clear hm1 hm2 hm3 hm4 hd
          go_wp2_with fail
          go_quiet ((go_at_call 30; exact quiet_dr (hsame _)))
          go_wp2_with fail
          go_roundw
          case rel => exact ⟨k + 1, _, _, by omega, by go_num, rfl, HN.out, by rw [← HV.out, World.drewN_drewN]⟩
          case measure => simp [intOf]; omega
        · obtain rfl : k = j := by omega
          cases bf with
          | true =>
            have HN := Lib.hid (HI1.out.next HX.out (fun _ => HF.out.1 rfl))
            go_wp2_with fail
            go_roundw
            case rel => exact ⟨k + 1, d + d1, by omega, by go_num, HN.out, by rw [← HWE.out, World.drewN_drewN]⟩
            case measure => simp [intOf]; omega
          | false =>
            have hV : honestB es = false := honestB_false fun hh => by
              have := HF.out.2 (hh k e HX.out HK2.out)
              cases this
            have HV := Lib.hid hV
            clear hV
            go_wp2_with fail
            go_ret
            exact ⟨ret_bool HV.out.symm, d + d1, by rw [← HWE.out, World.drewN_drewN]⟩
    · obtain rfl : j = n := by omega
      have hS : honestB es = true := honestB_true fun i e he hk => HI1.out i e (by have h9 := HL.out; have := (List.getElem?_eq_some_iff.1 he).1; omega) he hk
      have HS := Lib.hid hS
      clear hS
      go_wp2_with fail
      go_ret
      exact ⟨ret_bool HS.out.symm, _, rfl⟩
end Go.Proofs.YtgnegllehcpdpaaDoor
