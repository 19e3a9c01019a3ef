import Derived.Test.YtgnegllehcpdpaaDoorAwk
namespace Go.Proofs.YtgnegllehcpdpaaDoor
open Go.ChangeShapes Go.WideShapes Go.ChangeAt Go.RowKit Go.Sort
set_option linter.unusedVariables false
set_option linter.unusedSimpArgs false
theorem honestP_take {es : List Ev} (k : Nat) (h : honestP es) : honestP (es.take k) := fun i e he hk => by
  have hik : i < k := by have := (List.getElem?_eq_some_iff.1 he).1; simp at this; omega
  rw [List.getElem?_take_of_lt hik] at he
  obtain ⟨i', f, hi, hf, hm⟩ := h i e he hk
  exact ⟨i', f, hi, by rw [List.getElem?_take_of_lt (by omega)]; exact hf, hm⟩
theorem strictP_take {es : List Ev} (k : Nat) (h : strictP es) : strictP (es.take k) := fun i j e f he hf hji => by
  have hik : i < k := by have := (List.getElem?_eq_some_iff.1 he).1; simp at this; omega
  rw [List.getElem?_take_of_lt hik] at he
  rw [List.getElem?_take_of_lt (by omega)] at hf
  exact h i j e f he hf hji
theorem FewP.who {es : List Ev} (h : FewP es) : ∀ e ∈ es, -1000000 ≤ e.who ∧ e.who ≤ 1000000 := fun e he => ⟨(h.2 e he).1, (h.2 e he).2.1⟩
theorem pureW {P : Program} {f : FuncId} {args : Array Value} {w : World} {v : Value} (h : Calls P f args w fun e w' => e = .returned v ∧ ∃ d, w' = w.drewN d) : Calls P f args w fun e w' => e = .returned v ∧ Below w.heap.size w w' :=
  h.mono fun e w' ⟨he, d, hd⟩ => ⟨he, by rw [hd]; exact below_drewN (Below.refl _ w) d⟩
set_option maxRecDepth 100000 in
set_option maxHeartbeats 4000000 in
theorem checks_any (w : World) (A : Option Addr) (n cap : Nat) (es : List Ev) (h : Evs w A n es) (hn : n ≤ maxLen) (hT : Tabs w) :
    Calls Tryd.prog 4 #[.slice A n cap] w fun e w' => e = .returned (.bool true) ∧ Below w.heap.size w w' := by
  have hA := fun W (hb : Below w.heap.size w W) => awake_any W (hT.below hb)
  have hfew := fun W (hb : Below w.heap.size w W) => few_any W A n cap es (h.below hb) hn
  have HS := Lib.hid h
  have HL := Lib.hid h.2.1
  clear h hT
  go_enter Tryd.func4, Tryd.ntmps4
  go_wp2_with (go_at_call 8; refine (hA _ (Below.refl _ w)).mono ?_; rintro _ w1 ⟨rfl, hb⟩; refine Hid.out ?_)
  refine Lib.hid ?_
  have H1 := Lib.hid hb
  clear hb
  go_wp2_with (go_at_call 9; refine (hfew _ H1.out).mono ?_; rintro _ w2 ⟨⟨b, rfl, hF⟩, hb⟩; refine Hid.out ?_)
  refine Lib.hid ?_
  have H2 := Lib.hid (H1.out.trans (hb.mono H1.out.size))
  have HF := Lib.hid hF
  clear hb hF hfew
  cases b with
  | false =>
    go_wp2_with (go_at_call 8; refine (hA _ H2.out).mono ?_; rintro _ w3 ⟨rfl, hb⟩; refine Hid.out ?_)
    refine Lib.hid ?_
    go_wp2_with fail
    go_ret
    exact ⟨rfl, H2.out.trans (hb.mono H2.out.size)⟩
  | true =>
    have HF2 := Lib.hid (HF.out (by simp))
    have hn60 : n ≤ 60 := by have := HF2.out.1; rw [HL.out] at this; exact this
    have hg := given_any w2 A n cap es (HS.out.below H2.out) (by omega)
    clear HF hA
    go_wp2_with (go_at_call 16; refine hg.mono ?_; rintro _ w3 ⟨⟨A3, c3, rfl, hE⟩, hb⟩; refine Hid.out ?_)
    refine Lib.hid ?_
    have H3 := Lib.hid (H2.out.trans (hb.mono H2.out.size))
    have HE := Lib.hid hE
    have hho := fun W (hb : Below w3.heap.size w3 W) => honest_any W A3 n c3 es (HE.out.below hb) (by omega) HF2.out.who
    have hst := fun W (hb : Below w3.heap.size w3 W) => strict_any W A3 n c3 es (HE.out.below hb) (by omega) HF2.out.who
    have hrh := fun W (hb : Below w3.heap.size w3 W) => pureW (rhonest_any W A n cap es (HS.out.below (H3.out.trans (hb.mono H3.out.size))) hn HF2.out.who)
    have hrs := fun W (hb : Below w3.heap.size w3 W) => pureW (rstrict_any W A n cap es (HS.out.below (H3.out.trans (hb.mono H3.out.size))) hn)
    generalize honestB es = bh at *
    generalize strictB es = bs at *
    clear hb hE hg
    go_wp2_with (go_at_call 17; refine (hho _ (Below.refl _ w3)).mono ?_; rintro _ w4 ⟨rfl, hb⟩; refine Hid.out ?_)
    refine Lib.hid ?_
    have H4 := Lib.hid hb
    clear hb hho
    go_wp2_with (go_at_call 18; refine (hrh _ H4.out).mono ?_; rintro _ w5 ⟨rfl, hb⟩; refine Hid.out ?_)
    refine Lib.hid ?_
    have H5 := Lib.hid (H4.out.trans (hb.mono H4.out.size))
    clear hb hrh
    have hbb : (bh == bh) = true := by simp
    have hbb2 : (bs == bs) = true := by simp
    go_wp2_with (go_at_call 19; refine (hst _ H5.out).mono ?_; rintro _ w6 ⟨rfl, hb⟩; refine Hid.out ?_)
    refine Lib.hid ?_
    have H6 := Lib.hid (H5.out.trans (hb.mono H5.out.size))
    clear hb hst
    go_wp2_with (go_at_call 20; refine (hrs _ H6.out).mono ?_; rintro _ w7 ⟨rfl, hb⟩; refine Hid.out ?_)
    refine Lib.hid ?_
    have H7 := Lib.hid (H3.out.trans ((H6.out.trans (hb.mono H6.out.size)).mono H3.out.size))
    clear hb hrs
    go_wp2_with fail
    go_ret
    exact ⟨ret_true (by simp), H7.out⟩
theorem own_cap {w : World} {base : Nat} {e : TypeId} {size n c : Nat} {A : Option Addr} {xs : List Value} (h : w.ownsRow base e size (.slice A n c) n xs) : n ≤ c := by
  rcases h.2 with ⟨hv, hn⟩ | ⟨g, cap, cur, hv, _, _, hcap, _⟩
  · injection hv with _ _ h3
    omega
  · injection hv with _ _ h3
    omega
set_option maxRecDepth 100000 in
set_option maxHeartbeats 4000000 in
theorem given_cap (w : World) (A : Option Addr) (n cap : Nat) (es : List Ev) (h : Evs w A n es) (hn : n ≤ 1000) :
    Calls Tryd.prog 16 #[.slice A n cap] w fun r w' => (∃ A' c', r = .returned (.slice A' n c') ∧ n ≤ c' ∧ Evs w' A' n es) ∧ Below w.heap.size w w' := by
  obtain ⟨i0, hi, hz0, hz1, hz2⟩ := info_parts info29
  have HL := Lib.hid h.2.1
  have H := Lib.hid h
  clear h
  go_enter Tryd.func16, Tryd.ntmps16
  go_wp2_with fail
  go_loopw [3, 4] (fun v i wr => ∃ (j : Nat), j ≤ n ∧ i = .int .i64 j ∧ wr.ownsRow w.heap.size 29 7 v j (evCells (es.take j)) ∧ Below w.heap.size w wr) (fun _ i _ => n - (intOf i).toNat)
  case atStart => exact ⟨0, by omega, rfl, by rw [List.take_zero]; exact ⟨rfl, .inl ⟨rfl, rfl⟩⟩, Below.refl _ _⟩
  case round =>
    obtain ⟨j, hj, rfl, hown, hbel⟩ := hrel
    have HO := Lib.hid hown
    have HB := Lib.hid hbel
    have hbs := hbel.size
    clear hown hbel
    obtain ⟨A', c', rfl⟩ := own_form HO.out
    by_cases h1 : j < n
    · have h1i : (j : Int) < (n : Int) := by omega
      obtain ⟨b, o, e, rfl, hb, hs, hok, hc⟩ := H.out.at_ h1
      obtain ⟨c0, c1, c2, c3, c4, c5, c6⟩ := hc.below HB.out hb
      have HX := Lib.hid hs
      clear hs hok hc hb
      go_wp2_with (at_builtin; refine wpList_append_own _ rfl _ _ 36 rfl w.heap.size 29 i0 _ 7 80 Tryd.underlying36 hi hz0 hz1 hz2 rfl (by decide) _ _ _ rfl (HO.out.alloc _) ⟨wr.heap.size, 0, none⟩ 1 1 e.cells rfl rfl (news_ev wr 29 e) (cells_one e) (by unfold maxLen; omega) (by omega) (by simp; omega) ?_; intro v7 w7 hown7 hg7 hx7; clear hx7)
      have hb7 := below_own (HB.out.alloc (by omega) _) (HO.out.alloc _) hg7 (by omega) (by simp; omega)
      have hown8 : w7.ownsRow w.heap.size 29 7 v7 (j + 1) (evCells (es.take (j + 1))) := by
        rw [evCells_take es j e HX.out]
        exact hown7
      have HO8 := Lib.hid hown8
      have HB8 := Lib.hid hb7
      clear hown7 hg7 hb7 hown8 c0 c1 c2 c3 c4 c5 c6
      go_wp2_with fail
      go_roundw
      case rel => exact ⟨j + 1, by omega, by go_num, HO8.out, HB8.out⟩
      case measure => simp [intOf]; omega
    · obtain rfl : j = n := by omega
      have hE : Evs wr A' j es := by
        have := HO.out
        rw [List.take_of_length_le (by rw [HL.out]; exact Nat.le_refl _)] at this
        exact Evs.of_own this (H.out.keep_ok HB.out)
      have HE := Lib.hid hE
      clear hE
      go_wp2_with fail
      go_ret
      exact ⟨⟨A', c', rfl, own_cap HO.out, HE.out⟩, HB.out⟩
set_option maxRecDepth 100000 in
set_option maxHeartbeats 4000000 in
theorem begins_any (w : World) (A : Option Addr) (n cap : Nat) (es : List Ev) (m : Int) (h : Evs w A n es) (hn : n ≤ maxLen) (hnc : n ≤ cap) (hm0 : 0 ≤ m) (hm1 : m ≤ 255) (hT : Tabs w) :
    Calls Tryd.prog 7 #[.slice A n cap, .int .u8 m] w fun e w' => e = .returned (.bool true) ∧ Below w.heap.size w w' := by
  have hA := fun W (hb : Below w.heap.size w W) => awake_any W (hT.below hb)
  have hfew := fun W (hb : Below w.heap.size w W) => few_any W A n cap es (h.below hb) hn
  have HS := Lib.hid h
  have HL := Lib.hid h.2.1
  clear h hT
  go_enter Tryd.func7, Tryd.ntmps7
  go_wp2_with (go_at_call 8; refine (hA _ (Below.refl _ w)).mono ?_; rintro _ w1 ⟨rfl, hb⟩; refine Hid.out ?_)
  refine Lib.hid ?_
  have H1 := Lib.hid hb
  clear hb
  go_wp2_with (go_at_call 9; refine (hfew _ H1.out).mono ?_; rintro _ w2 ⟨⟨b, rfl, hF⟩, hb⟩; refine Hid.out ?_)
  refine Lib.hid ?_
  have H2 := Lib.hid (H1.out.trans (hb.mono H1.out.size))
  have HF := Lib.hid hF
  clear hb hF hfew
  cases b with
  | false =>
    go_wp2_with (go_at_call 8; refine (hA _ H2.out).mono ?_; rintro _ w3 ⟨rfl, hb⟩; refine Hid.out ?_)
    refine Lib.hid ?_
    go_wp2_with fail
    go_ret
    exact ⟨rfl, H2.out.trans (hb.mono H2.out.size)⟩
  | true =>
    have HF2 := Lib.hid (HF.out (by simp))
    have hn60 : n ≤ 60 := by have := HF2.out.1; rw [HL.out] at this; exact this
    have hg := given_cap w2 A n cap es (HS.out.below H2.out) (by omega)
    clear HF hA
    go_wp2_with (go_at_call 16; refine hg.mono ?_; rintro _ w3 ⟨⟨A3, c3, rfl, hc3, hE⟩, hb⟩; refine Hid.out ?_)
    refine Lib.hid ?_
    have H3 := Lib.hid (H2.out.trans (hb.mono H2.out.size))
    have HE := Lib.hid hE
    obtain ⟨k, hk, hkn⟩ : ∃ k : Nat, m % ((n : Int) + 1) = (k : Int) ∧ k ≤ n := ⟨(m % ((n : Int) + 1)).toNat, by have := Int.emod_nonneg m (show ((n : Int) + 1) ≠ 0 by omega); omega, by have := Int.emod_lt_of_pos m (show (0 : Int) < (n : Int) + 1 by omega); omega⟩
    have hkt : Int.tmod m ((n : Int) + 1) = (k : Int) := by rw [Int.tmod_eq_emod_of_nonneg hm0]; exact hk
    have hkw : IntKind.i64.wrap (k : Int) = (k : Int) := IntWalk.i64_in _ (by omega)
    have hmw : IntKind.i64.wrap m = m := IntWalk.i64_in _ (by omega)
    have hkc : k ≤ cap := by omega
    have hkc3 : k ≤ c3 := by omega
    have hki : (k : Int) ≤ (c3 : Int) := by omega
    have hki2 : (k : Int) ≤ (cap : Int) := by omega
    have hk0 : (0 : Int) ≤ (k : Int) := by omega
    have whoT : ∀ e ∈ es.take k, -1000000 ≤ e.who ∧ e.who ≤ 1000000 := fun e he => HF2.out.who e (List.mem_of_mem_take he)
    have hho := fun W (hb : Below w3.heap.size w3 W) => honest_any W A3 n c3 es (HE.out.below hb) (by omega) HF2.out.who
    have hst := fun W (hb : Below w3.heap.size w3 W) => strict_any W A3 n c3 es (HE.out.below hb) (by omega) HF2.out.who
    have hhk := fun W (hb : Below w3.heap.size w3 W) => honest_any W A3 k c3 _ ((HE.out.take hkn).below hb) (by omega) whoT
    have hsk := fun W (hb : Below w3.heap.size w3 W) => strict_any W A3 k c3 _ ((HE.out.take hkn).below hb) (by omega) whoT
    have hrk := fun W (hb : Below w3.heap.size w3 W) => pureW (rhonest_any W A k cap _ ((HS.out.take hkn).below (H3.out.trans (hb.mono H3.out.size))) (by unfold maxLen; omega) whoT)
    have ih : honestB es = true → honestB (es.take k) = true := fun h => honestB_true (honestP_take k (by classical exact of_decide_eq_true h))
    have is : strictB es = true → strictB (es.take k) = true := fun h => strictB_true (strictP_take k (by classical exact of_decide_eq_true h))
    generalize honestB es = bh at *
    generalize strictB es = bs at *
    generalize honestB (es.take k) = bh' at *
    generalize strictB (es.take k) = bs' at *
    have hbb : (bh' == bh') = true := by simp
    have II := Lib.hid (And.intro ih is)
    clear hb hE hg whoT ih is hm1
    go_wp2_with (go_at_call 17; refine (hho _ (Below.refl _ w3)).mono ?_; rintro _ w4 ⟨rfl, hb⟩; refine Hid.out ?_)
    refine Lib.hid ?_
    have H4 := Lib.hid hb
    clear hb hho
    have mid : ∀ (b1 b2 : Bool), b1 = bh → b2 = bs → True := fun _ _ _ _ => trivial
    clear mid
    cases bh with
    | true =>
      obtain rfl : bh' = true := II.out.1 (by simp)
      go_wp2_with (go_at_call 17; refine (hhk _ H4.out).mono ?_; rintro _ w5 ⟨rfl, hb⟩; refine Hid.out ?_)
      refine Lib.hid ?_
      have H5 := Lib.hid (H4.out.trans (hb.mono H4.out.size))
      clear hb
      go_wp2_with (go_at_call 19; refine (hst _ H5.out).mono ?_; rintro _ w6 ⟨rfl, hb⟩; refine Hid.out ?_)
      refine Lib.hid ?_
      have H6 := Lib.hid (H5.out.trans (hb.mono H5.out.size))
      clear hb
      cases bs with
      | true =>
        obtain rfl : bs' = true := II.out.2 (by simp)
        go_wp2_with (go_at_call 19; refine (hsk _ H6.out).mono ?_; rintro _ w7 ⟨rfl, hb⟩; refine Hid.out ?_)
        refine Lib.hid ?_
        have H7 := Lib.hid (H6.out.trans (hb.mono H6.out.size))
        clear hb
        have hreg : ∀ d os, Below w3.heap.size w3 (grow (redrawn w7 d) os) := fun d os => H7.out.trans ((below_regrown w7 d os).mono H7.out.size)
        go_wp2_with fail
        refine wp_region_quiet_below (by kernel_rfl) (by kernel_rfl) ?_
        repeat (first
          | go_big_quiet_skip
          | quiet_step ((first
              | (go_at_call 17; with_reducible exact Calls.regrown_of (hhk _ (hreg _ _)))
              | (go_at_call 18; with_reducible exact Calls.regrown_of (hrk _ (hreg _ _))))))
        refine wpQuiet_nil ?_
        rintro _ ⟨⟨dq, osq⟩, rfl⟩
        go_wp2_with fail
        go_ret
        exact ⟨ret_true (by simp), H3.out.trans ((hreg dq osq).mono H3.out.size)⟩
      | false =>
        have H7 := H6
        have hreg : ∀ d os, Below w3.heap.size w3 (grow (redrawn w6 d) os) := fun d os => H7.out.trans ((below_regrown w6 d os).mono H7.out.size)
        go_wp2_with fail
        refine wp_region_quiet_below (by kernel_rfl) (by kernel_rfl) ?_
        repeat (first
          | go_big_quiet_skip
          | quiet_step ((first
              | (go_at_call 17; with_reducible exact Calls.regrown_of (hhk _ (hreg _ _)))
              | (go_at_call 18; with_reducible exact Calls.regrown_of (hrk _ (hreg _ _))))))
        refine wpQuiet_nil ?_
        rintro _ ⟨⟨dq, osq⟩, rfl⟩
        go_wp2_with fail
        go_ret
        exact ⟨ret_true (by simp), H3.out.trans ((hreg dq osq).mono H3.out.size)⟩
    | false =>
      go_wp2_with (go_at_call 19; refine (hst _ H4.out).mono ?_; rintro _ w6 ⟨rfl, hb⟩; refine Hid.out ?_)
      refine Lib.hid ?_
      have H6 := Lib.hid (H4.out.trans (hb.mono H4.out.size))
      clear hb
      cases bs with
      | true =>
        obtain rfl : bs' = true := II.out.2 (by simp)
        go_wp2_with (go_at_call 19; refine (hsk _ H6.out).mono ?_; rintro _ w7 ⟨rfl, hb⟩; refine Hid.out ?_)
        refine Lib.hid ?_
        have H7 := Lib.hid (H6.out.trans (hb.mono H6.out.size))
        clear hb
        have hreg : ∀ d os, Below w3.heap.size w3 (grow (redrawn w7 d) os) := fun d os => H7.out.trans ((below_regrown w7 d os).mono H7.out.size)
        go_wp2_with fail
        refine wp_region_quiet_below (by kernel_rfl) (by kernel_rfl) ?_
        repeat (first
          | go_big_quiet_skip
          | quiet_step ((first
              | (go_at_call 17; with_reducible exact Calls.regrown_of (hhk _ (hreg _ _)))
              | (go_at_call 18; with_reducible exact Calls.regrown_of (hrk _ (hreg _ _))))))
        refine wpQuiet_nil ?_
        rintro _ ⟨⟨dq, osq⟩, rfl⟩
        go_wp2_with fail
        go_ret
        exact ⟨ret_true (by simp), H3.out.trans ((hreg dq osq).mono H3.out.size)⟩
      | false =>
        have H7 := H6
        have hreg : ∀ d os, Below w3.heap.size w3 (grow (redrawn w6 d) os) := fun d os => H7.out.trans ((below_regrown w6 d os).mono H7.out.size)
        go_wp2_with fail
        refine wp_region_quiet_below (by kernel_rfl) (by kernel_rfl) ?_
        repeat (first
          | go_big_quiet_skip
          | quiet_step ((first
              | (go_at_call 17; with_reducible exact Calls.regrown_of (hhk _ (hreg _ _)))
              | (go_at_call 18; with_reducible exact Calls.regrown_of (hrk _ (hreg _ _))))))
        refine wpQuiet_nil ?_
        rintro _ ⟨⟨dq, osq⟩, rfl⟩
        go_wp2_with fail
        go_ret
        exact ⟨ret_true (by simp), H3.out.trans ((hreg dq osq).mono H3.out.size)⟩
end Go.Proofs.YtgnegllehcpdpaaDoor
