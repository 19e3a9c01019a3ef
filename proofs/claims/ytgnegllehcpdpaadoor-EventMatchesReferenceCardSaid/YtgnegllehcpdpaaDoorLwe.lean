import Derived.Test.YtgnegllehcpdpaaDoorLwa
import Derived.Lib.QuietBelow
import Derived.BigQuiet
import Derived.Deep.Cut
namespace Go.Proofs.YtgnegllehcpdpaaDoor
open Go.ChangeShapes Go.WideShapes Go.ChangeAt Go.RowKit Go.Sort
set_option linter.unusedVariables false
set_option linter.unusedSimpArgs false
theorem wpQuiet_runV {P : Program} {ops : Array Oper} {C : World → Prop} {Q : Act → Prop} {a : Act} {o : Oper} {rest : List Oper} (hw : Region.wanted o (yielded ops a.tmps) = true) (v : Value)
    (hr : ∀ w, C w → (execOp a.eval o).run P w = .ok (.value v) w) (h : wpQuiet P ops C Q rest (a.put o.dst v)) : wpQuiet P ops C Q (o :: rest) a := by
  simp only [wpQuiet, hw, if_true]
  refine ⟨v, fun w hC => ?_, h⟩
  unfold Oper.quietAt
  rw [hr w hC]
  exact ⟨rfl, rfl⟩
theorem wpQuiet_load_row {P : Program} {ops : Array Oper} {C : World → Prop} {Q : Act → Prop} {a : Act} {op : Oper} {rest : List Oper} (hw : Region.wanted op (yielded ops a.tmps) = true) (ty : TypeId) (x : Operand) (ho : op.op = .load ty x)
    (b o : Nat) (hx : a.eval x = .pointer (some ⟨b, o, none⟩)) (cs : List Value) (d : TypeDesc) (hc : ∀ w, C w → w.rangeAt b o cs)
    (hu : P.underlying ty = some d) (hd : d.isRow = true) (hi : (P.info? ty).map (·.size) = some cs.length)
    (h : wpQuiet P ops C Q rest (a.put op.dst (.agg cs.toArray))) : wpQuiet P ops C Q (op :: rest) a :=
  wpQuiet_runV hw _ (fun w hC => by
    unfold execOp
    simp only [ho, hx, Instr.loadAt, Instr.sureAddr, Sem.run_bind, Sem.run_pure, Result.andThen_ok, run_loadVar_mid w b o ty cs d (hc w hC) hu hd hi]) h
theorem SevenAt.rangeAt {w : World} {b o : Nat} {e : Ev} (h : SevenAt w b o e) : w.rangeAt b o e.cells := fun j v hv => by
  obtain ⟨c0, c1, c2, c3, c4, c5, c6⟩ := h
  match j, hv with
  | 0, hv => cases hv; exact c0
  | 1, hv => cases hv; exact c1
  | 2, hv => cases hv; exact c2
  | 3, hv => cases hv; exact c3
  | 4, hv => cases hv; exact c4
  | 5, hv => cases hv; exact c5
  | 6, hv => cases hv; exact c6
  | j + 7, hv => simp [Ev.cells] at hv
theorem SevenAt.regrown {w : World} {b o : Nat} {e : Ev} (h : SevenAt w b o e) (hlt : b < w.heap.size) : ∀ w', (∃ p : Regrown, w' = grow (redrawn w p.d) p.os) → w'.rangeAt b o e.cells := by
  rintro _ ⟨p, rfl⟩
  exact (h.below (below_regrown w p.d p.os) hlt).rangeAt
theorem evEq_self (e : Ev) : evEq e e = true := by simp [evEq]
theorem filter_at {α : Type} (p : α → Bool) : ∀ (l : List α) (j : Nat) (x : α), l[j]? = some x → p x = true → (l.filter p)[((l.take j).filter p).length]? = some x
  | [], j, x, h, _ => by simp at h
  | y :: l, 0, x, h, hp => by
    simp at h
    subst h
    simp [List.filter_cons, hp]
  | y :: l, j + 1, x, h, hp => by
    have ih := filter_at p l j x (by simpa using h) hp
    by_cases hy : p y = true
    · simp [List.filter_cons, hy, ih]
    · have hy' : p y = false := by simpa using hy
      simp [List.filter_cons, hy', ih]
set_option maxRecDepth 100000 in
set_option maxHeartbeats 4000000 in
theorem chooses_any (w : World) (A : Option Addr) (n cap : Nat) (es : List Ev) (kind who : Int) (h : Evs w A n es) (hn : n ≤ maxLen) (hT : Tabs w) :
    Calls Tryd.prog 5 #[.slice A n cap, .int .i64 kind, .int .i64 who] w fun e w' => e = .returned (.bool true) ∧ Below w.heap.size w w' := by
  have hA := fun W (hb : Below w.heap.size w W) => awake_any W (hT.below hb)
  have hfew := fun W (hb : Below w.heap.size w W) => few_any W A n cap es (h.below hb) hn
  have HS := Lib.hid h
  have HL := Lib.hid h.2.1
  clear h hT
  go_enter Tryd.func5, Tryd.ntmps5
  go_wp2_with (go_at_call 8; refine (hA _ (Below.refl _ w)).mono ?_; rintro _ w1 ⟨rfl, hb⟩; refine Hid.out ?_)
  refine Lib.hid ?_
  have H1 := Lib.hid hb
  clear hb
  go_wp2_with (go_at_call 9; refine (hfew _ H1.out).mono ?_; rintro _ w2 ⟨⟨b, rfl, hF⟩, hb⟩; refine Hid.out ?_)
  refine Lib.hid ?_
  have H2 := Lib.hid (H1.out.trans (hb.mono H1.out.size))
  have HF := Lib.hid hF
  clear hb hF hfew
  cases b with
  | false =>
    go_wp2_with (go_at_call 8; refine (hA _ H2.out).mono ?_; rintro _ w3 ⟨rfl, hb⟩; refine Hid.out ?_)
    refine Lib.hid ?_
    go_wp2_with fail
    go_ret
    exact ⟨rfl, H2.out.trans (hb.mono H2.out.size)⟩
  | true =>
    have HF2 := Lib.hid (HF.out (by simp))
    have hn60 : n ≤ 60 := by have := HF2.out.1; rw [HL.out] at this; exact this
    have hg := given_any w2 A n cap es (HS.out.below H2.out) (by omega)
    clear HF hA
    go_wp2_with (go_at_call 16; refine hg.mono ?_; rintro _ w3 ⟨⟨A3, c3, rfl, hE⟩, hb⟩; refine Hid.out ?_)
    refine Lib.hid ?_
    have H3 := Lib.hid (H2.out.trans (hb.mono H2.out.size))
    have hch := choose_any w3 A3 n c3 es kind who hE (by omega)
    clear hb hE hg
    go_wp2_with (go_at_call 21; refine hch.mono ?_; rintro _ w4 ⟨⟨A4, m, c4, rfl, hm, hE⟩, hb⟩; refine Hid.out ?_)
    refine Lib.hid ?_
    have H4 := Lib.hid (H3.out.trans (hb.mono H3.out.size))
    have HC := Lib.hid hE
    have HE4 := Lib.hid (HS.out.below H4.out)
    have HM := Lib.hid hE.2.1
    clear hb hE hch
    go_wp2_with fail
    go_loopw [8, 9] (fun nn i wz => ∃ (j : Nat), j ≤ n ∧ i = .int .i64 j ∧ nn = .int .i64 (((es.take j).filter (chP kind who)).length : Nat) ∧ Below w4.heap.size w4 wz) (fun _ i _ => n - (intOf i).toNat)
    case atStart => exact ⟨0, by omega, rfl, rfl, Below.refl _ _⟩
    case round =>
      obtain ⟨j, hj, rfl, rfl, hbz⟩ := hrel
      obtain ⟨k, hk⟩ : ∃ k, ((es.take j).filter (chP kind who)).length = k := ⟨_, rfl⟩
      rw [hk]
      have hkj : k ≤ j := by
        have h1 := List.length_filter_le (chP kind who) (es.take j)
        rw [List.length_take] at h1
        omega
      have HKK := Lib.hid hk
      have HB := Lib.hid hbz
      clear hk hbz
      by_cases h1 : j < n
      · have h1i : (j : Int) < (n : Int) := by omega
        obtain ⟨b, o, e, rfl, hb, hs, hok, hc⟩ := HE4.out.at_ h1
        have HSV := Lib.hid (hc.below HB.out hb)
        obtain ⟨c0, c1, c2, c3', c4', c5, c6⟩ := hc.below HB.out hb
        have HX := Lib.hid hs
        have hbw : b < wr.heap.size := Nat.lt_of_lt_of_le hb HB.out.size
        have HOK := Lib.hid hok
        clear hs hok hb hc
        by_cases hp : chP kind who e = true
        · obtain ⟨hkd, hwd⟩ : e.kind = kind ∧ e.who = who := by simpa [chP] using hp
          have HN := Lib.hid (show ((es.take (j + 1)).filter (chP kind who)).length = k + 1 by rw [filter_take HX.out, hp, List.length_append, HKK.out]; rfl)
          have hfa := filter_at (chP kind who) es j e HX.out hp
          rw [HKK.out] at hfa
          have hkm : k < m := by
            have := (List.getElem?_eq_some_iff.1 hfa).1
            rw [HM.out] at this
            exact this
          have hkmi : (k : Int) < (m : Int) := by omega
          have hge : decide (m ≤ k) = false := by simp; omega
          obtain ⟨b2, o2, e2, rfl, hb2, hs2, hok2, hc2⟩ := HC.out.at_ hkm
          obtain rfl : e = e2 := Option.some.inj (hfa.symm.trans hs2)
          have hb2w : b2 < wr.heap.size := Nat.lt_of_lt_of_le hb2 HB.out.size
          have HS2 := Lib.hid (hc2.below HB.out hb2)
          have hsm : ∀ d os, Calls Tryd.prog 15 #[.agg e.cells.toArray, .agg e.cells.toArray] (grow (redrawn wr d) os) fun x w' => x = .returned (.bool true) ∧ Below (grow (redrawn wr d) os).heap.size (grow (redrawn wr d) os) w' := fun d os => by
            have hok3 := (HOK.out.below HB.out).below (below_regrown wr d os)
            have := rsame_any e e (grow (redrawn wr d) os) hok3 hok3
            rw [evEq_self] at this
            exact this
          rw [hkd] at c0
          rw [hwd] at c1
          have HSM := Lib.hid hsm
          clear hp hfa hs2 hok2 hb2 hc2 hkd hwd
          go_upto_region 9 with (fail)
          refine wp_region_quiet_below (by kernel_rfl) (by kernel_rfl) ?_
          repeat (first
            | go_big_quiet_skip
            | (refine wpQuiet_load_row rfl 29 (.tmp 52) rfl b2 (o2 + k * 7) rfl e.cells _ (HS2.out.regrown hb2w) Tryd.underlying29 rfl (by kernel_rfl) ?_)
            | (refine wpQuiet_load_row rfl 25 (.tmp 56) rfl b (o + j * 7) rfl e.cells _ (HSV.out.regrown hbw) Tryd.underlying25 rfl (by kernel_rfl) ?_)
            | quiet_step ((go_at_call 15; with_reducible exact Calls.regrown_of (HSM.out _ _))))
          refine wpQuiet_nil ?_
          rintro _ ⟨⟨dq, osq⟩, rfl⟩
          have HB5 := Lib.hid (HB.out.trans ((below_regrown wr dq osq).mono HB.out.size))
          generalize grow (redrawn wr dq) osq = w5 at *
          go_wp2_with fail
          go_roundw
          case rel => exact ⟨j + 1, by omega, by go_num, by rw [HN.out]; go_num, HB5.out⟩
          case measure => simp [intOf]; omega
        · have hp' : chP kind who e = false := by simpa using hp
          have HN := Lib.hid (show ((es.take (j + 1)).filter (chP kind who)).length = k by rw [filter_take HX.out, hp']; simpa using HKK.out)
          by_cases hkd : e.kind = kind
          · have hwd : ¬ e.who = who := fun h => by simp [chP, hkd, h] at hp'
            have g1 : (e.who == who) = false := by simp; exact hwd
            rw [hkd] at c0
            clear hp hp' hkd hwd
            go_wp2_with fail
            go_roundw
            case rel => exact ⟨j + 1, by omega, by go_num, by rw [HN.out], HB.out⟩
            case measure => simp [intOf]; omega
          · have g1 : (e.kind == kind) = false := by simp; exact hkd
            clear hp hp' hkd
            go_wp2_with fail
            go_roundw
            case rel => exact ⟨j + 1, by omega, by go_num, by rw [HN.out], HB.out⟩
            case measure => simp [intOf]; omega
      · obtain rfl : j = n := by omega
        have hkm : k = m := by
          rw [← HKK.out, ← HM.out, List.take_of_length_le (by rw [HL.out]; exact Nat.le_refl _)]
        subst hkm
        go_wp2_with fail
        go_ret
        exact ⟨rfl, H4.out.trans (HB.out.mono H4.out.size)⟩
end Go.Proofs.YtgnegllehcpdpaaDoor
