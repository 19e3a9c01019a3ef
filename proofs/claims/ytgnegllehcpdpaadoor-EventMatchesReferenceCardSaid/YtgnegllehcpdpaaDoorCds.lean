import Derived.Test.YtgnegllehcpdpaaDoorMsm
namespace Go.Proofs.YtgnegllehcpdpaaDoor
open Go.ChangeShapes Go.WideShapes Go.ChangeAt Go.RowKit Go.Maps
set_option linter.unusedVariables false
set_option linter.unusedSimpArgs false
def codedB (e : Ev) : Bool := decide (e.kind = 3 ∨ e.kind = 4)
def cntA (es : List Ev) : Int := ((es.filter codedB).length : Nat)
def cntC (es : List Ev) (c : Int) : Int := ((es.filter fun e => codedB e && decide (e.code = c)).length : Nat)
/-- What the map of codes reads as. -/
def CodD (es : List Ev) (D : DataW Unit) : Prop := ∃ es0, D = .map es0 ∧ NonNeg es0 ∧ tot es0 = cntA es ∧ ∀ c, (Lit.int .i64 c).wf = true → D.atKey (.int .i64 c) (.lit (.int .i64 0)) = .lit (.int .i64 (cntC es c))
theorem cntC_nonneg (es : List Ev) (c : Int) : 0 ≤ cntC es c := Int.natCast_nonneg _
theorem cntC_le (es : List Ev) (c : Int) : cntC es c ≤ es.length := by
  unfold cntC
  have := List.length_filter_le (fun e => codedB e && decide (e.code = c)) es
  omega
theorem CodD.none_ : CodD [] (.map []) := ⟨[], rfl, (by intro p hp; cases hp), rfl, fun c _ => rfl⟩
theorem cntA_snoc (es : List Ev) (e : Ev) : cntA (es ++ [e]) = cntA es + if codedB e then 1 else 0 := by
  unfold cntA
  rw [List.filter_append]
  cases h : codedB e <;> simp [List.filter_cons, h]
theorem cntC_snoc (es : List Ev) (e : Ev) (c : Int) : cntC (es ++ [e]) c = cntC es c + if codedB e = true ∧ e.code = c then 1 else 0 := by
  unfold cntC
  rw [List.filter_append]
  by_cases h : codedB e = true ∧ e.code = c
  · rw [if_pos h]; simp [List.filter_cons, h.1, h.2]
  · rw [if_neg h]
    have : (codedB e && decide (e.code = c)) = false := by
      cases h1 : codedB e
      · rfl
      · simp; intro h2; exact h ⟨h1, h2⟩
    simp [List.filter_cons, this]
theorem CodD.skip {es : List Ev} {D : DataW Unit} (h : CodD es D) (e : Ev) (he : codedB e = false) : CodD (es ++ [e]) D := by
  obtain ⟨es0, rfl, h1, h2, h3⟩ := h
  refine ⟨es0, rfl, h1, by rw [cntA_snoc, he]; simpa using h2, fun c hc => ?_⟩
  rw [cntC_snoc, if_neg (by simp [he])]
  simpa using h3 c hc
theorem CodD.next {es : List Ev} {D : DataW Unit} (h : CodD es D) (ht : Tidy D) (e : Ev) (he : codedB e = true) (hw : (Lit.int .i64 e.code).wf = true) : CodD (es ++ [e]) (D.put (.int .i64 e.code) (.lit (.int .i64 (cntC es e.code + 1)))) := by
  obtain ⟨es0, rfl, h1, h2, h3⟩ := h
  obtain ⟨es1, he1⟩ : ∃ es1, (DataW.map es0).put (.int .i64 e.code) (.lit (.int .i64 (cntC es e.code + 1))) = .map es1 := ⟨_, rfl⟩
  have hc0 := cntC_nonneg es e.code
  have htot := totD_put ht (.int .i64 e.code) (.lit (.int .i64 (cntC es e.code + 1)))
  rw [he1]
  refine ⟨es1, rfl, nonneg_put h1 _ _ (by show (0 : Int) ≤ cntC es e.code + 1; omega) he1, ?_, fun c hc => ?_⟩
  · rw [he1] at htot
    have hwf : numD ((DataW.map es0).atKey (.int .i64 e.code) (.lit (.int .i64 0))) = cntC es e.code := by rw [h3 _ hw]; rfl
    have e1 : totD (.map es1) = tot es1 := rfl
    have e2 : totD (.map es0) = tot es0 := rfl
    have e3 : numD (.lit (.int .i64 (cntC es e.code + 1))) = cntC es e.code + 1 := rfl
    rw [cntA_snoc, he, if_pos rfl]
    rw [e1, e2, hwf, e3] at htot
    omega
  · rw [← he1, cntC_snoc]
    by_cases hk : e.code = c
    · subst hk
      rw [atKey_put_same ⟨es0, rfl⟩ (show WideAt.IsKeyLit (Lit.int .i64 e.code) from trivial), if_pos ⟨he, rfl⟩]
    · rw [atKey_put_other (by intro h; injection h with _ h; exact hk h.symm), if_neg (by rintro ⟨_, h⟩; exact hk h), h3 c hc]
      simp
theorem law3 : Keyed Tryd.prog 3 := int_keyed Tryd.underlying3
theorem zero3 (w : World) : (zeroValue 3).run Tryd.prog w = .ok (.int .i64 0) w := by kernel_rfl
theorem take_snoc {es : List Ev} {j : Nat} {e : Ev} (h : es[j]? = some e) : es.take (j + 1) = es.take j ++ [e] := by
  rw [List.take_add_one, h]; rfl
set_option maxRecDepth 100000 in
set_option maxHeartbeats 4000000 in
theorem codes_any (w : World) (A : Option Addr) (n cap : Nat) (es : List Ev) (h : Evs w A n es) (hn : n ≤ 1000) (hw : ∀ e ∈ es, (Lit.int .i64 e.code).wf = true) :
    Calls Tryd.prog 22 #[.slice A n cap] w fun r w' => (∃ D, r = .returned (.map (some w.heap.size)) ∧ w'.ownsMap Tryd.prog 3 (plainElem Tryd.prog 3) w.heap.size n D ∧ CodD es D) ∧ Below w.heap.size w w' := by
  have HL := Lib.hid h.2.1
  have H := Lib.hid h
  have HW := Lib.hid hw
  clear h hw
  have hmm := @run_makeMap Tryd.prog
  go_enter Tryd.func22, Tryd.ntmps22
  go_wp2_with fail
  go_loopw [9] (fun i wr => ∃ (j : Nat) (D : DataW Unit), j ≤ n ∧ i = .int .i64 j ∧ wr.ownsMap Tryd.prog 3 (plainElem Tryd.prog 3) w.heap.size j D ∧ CodD (es.take j) D ∧ Below w.heap.size w wr) (fun i _ => n - (intOf i).toNat)
  case atStart => exact ⟨0, .map [], by omega, rfl, World.ownsMap_made _ _ _ _, by rw [List.take_zero]; exact CodD.none_, (Below.refl _ _).alloc (Nat.le_refl _) _⟩
  case round =>
    obtain ⟨j, D, hj, rfl, hown, hD, hbel⟩ := hrel
    have HO := Lib.hid hown
    have HB := Lib.hid hbel
    have HD := Lib.hid hD
    have hbs := hbel.size
    have hlt := hown.lt
    clear hown hbel hD
    by_cases h1 : j < n
    · have h1i : (j : Int) < (n : Int) := by omega
      obtain ⟨b, o, e, rfl, hb, hs, hok, hc⟩ := H.out.at_ h1
      obtain ⟨c0, c1, c2, c3, c4, c5, c6⟩ := hc.below HB.out hb
      have hwe := HW.out e (List.mem_of_getElem? hs)
      have HX := Lib.hid hs
      clear hs hok hc hb
      by_cases hk : codedB e = true
      · have hk' : e.kind = 3 ∨ e.kind = 4 := by simpa [codedB] using hk
        have HK := Lib.hid (And.intro hk hwe)
        have hkey : keyOf Tryd.prog 3 (.int .i64 e.code) = some (.int .i64 e.code) := keyOf_int_mk Tryd.underlying3 hwe
        have hle := cntC_le (es.take j) e.code
        have hge := cntC_nonneg (es.take j) e.code
        have hlen : (es.take j).length ≤ j := List.length_take_le _ _
        have hat0 : D.atKey (.int .i64 e.code) (.lit (.int .i64 0)) = .lit (.int .i64 (cntC (es.take j) e.code)) := by obtain ⟨_, rfl, _, _, h3⟩ := HD.out; exact h3 _ hwe
        have HAT := Lib.hid hat0
        obtain ⟨cc, hcc⟩ : ∃ cc, cntC (es.take j) e.code = cc := ⟨_, rfl⟩
        rw [hcc] at hle hge HAT
        have HC := Lib.hid hcc
        clear hk hwe hat0 hcc
        have hcc1 : cc ≤ 1000 := by omega
        clear hle hlen
        rcases hk' with hk' | hk'
        all_goals
          rw [hk'] at c0
          go_wp2_with (first
            | (at_lookup; refine wpList_lookup_own_int _ rfl _ _ 41 rfl 3 3 .i64 law3 Tryd.underlying41 Tryd.underlying3 (zero3 _) w.heap.size j _ rfl (HO.out.alloc _) _ _ rfl hkey ?_; intro c hat hwc; obtain rfl : cc = c := (by simpa using HAT.out.symm.trans hat); clear hat hwc)
            | (at_mapUpdate; refine wpList_mapUpdate_own _ rfl _ _ _ 41 rfl 3 3 law3 Tryd.underlying41 _ w.heap.size j _ rfl (HO.out.alloc _) (by unfold maxLen; omega) _ _ _ rfl rfl hkey _ [] (plainElem_int Tryd.underlying3 (WalkArith.wf_i64 (by omega))) ?_; intro w1 hown1 hgrow1))
          have hown2 := Lib.hid hown1
          have hb1 := Lib.hid ((HB.out.alloc (by omega) _).grown hgrow1 (by simp; omega) (fun k hk => by cases hk; exact Nat.le_refl _))
          have hd1 := Lib.hid (CodD.next HD.out (HO.out.tidy law3) e HK.out.1 HK.out.2)
          clear hown1 hgrow1
          go_roundw
          case rel => exact ⟨j + 1, _, by omega, by go_num, hown2.out, by rw [take_snoc HX.out, ← HC.out]; exact hd1.out, hb1.out⟩
          case measure => simp [intOf]; omega
      · have hk' : ¬ (e.kind = 3 ∨ e.kind = 4) := by simpa [codedB] using hk
        have hk2 : codedB e = false := by simpa using hk
        have g3 : (e.kind == 3) = false := by simp; omega
        have g4 : (e.kind == 4) = false := by simp; omega
        have HK := Lib.hid hk2
        clear hk hk' hk2
        go_wp2_with fail
        go_roundw
        case rel => exact ⟨j + 1, D, by omega, by go_num, (HO.out.alloc _).mono (by omega), by rw [take_snoc HX.out]; exact CodD.skip HD.out e HK.out, HB.out.alloc (by omega) _⟩
        case measure => simp [intOf]; omega
    · obtain rfl : j = n := by omega
      have hD2 : CodD es D := by
        have := HD.out
        rwa [List.take_of_length_le (by rw [HL.out]; exact Nat.le_refl _)] at this
      have HD2 := Lib.hid hD2
      clear hD2
      go_wp2_with fail
      go_ret
      exact ⟨⟨D, rfl, HO.out, HD2.out⟩, HB.out⟩
end Go.Proofs.YtgnegllehcpdpaaDoor
