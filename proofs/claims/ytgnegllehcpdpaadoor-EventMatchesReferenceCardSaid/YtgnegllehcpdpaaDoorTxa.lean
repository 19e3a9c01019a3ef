import Derived.Test.YtgnegllehcpdpaaDoorJn
namespace Go.Proofs.YtgnegllehcpdpaaDoor
open Go.ChangeShapes Go.WideShapes Go.ChangeAt Go.RowKit Go.Sort
set_option linter.unusedVariables false
set_option linter.unusedSimpArgs false
theorem n2_size (n : Nat) (h : n < 2) : (n2 n).size ≤ 6 := by
  have : n = 0 ∨ n = 1 := by omega
  rcases this with rfl | rfl <;> decide
theorem wd_size (n : Nat) (h : n < 6) : (wd n).size ≤ 9 := by
  have : n = 0 ∨ n = 1 ∨ n = 2 ∨ n = 3 ∨ n = 4 ∨ n = 5 := by omega
  rcases this with rfl | rfl | rfl | rfl | rfl | rfl <;> decide
theorem itS_size (n : Int) (h0 : -9223372036854775808 ≤ n) (h1 : n ≤ 9223372036854775807) : (itS n).size ≤ 21 := Lib.itoa_length_le n h0 h1
theorem blk_seven {w : World} {g : Nat} {t : TypeId} {v0 v1 v2 v3 v4 v5 v6 : Value} (h : Blk w g t #[v0, v1, v2, v3, v4, v5, v6]) : w.cell? ⟨g, 0, none⟩ = some v0 ∧ w.cell? ⟨g, 1, none⟩ = some v1 ∧ w.cell? ⟨g, 2, none⟩ = some v2 ∧ w.cell? ⟨g, 3, none⟩ = some v3 ∧ w.cell? ⟨g, 4, none⟩ = some v4 ∧ w.cell? ⟨g, 5, none⟩ = some v5 ∧ w.cell? ⟨g, 6, none⟩ = some v6 :=
  ⟨h.cell 0, h.cell 1, h.cell 2, h.cell 3, h.cell 4, h.cell 5, h.cell 6⟩
theorem info9 : (Tryd.prog.info? 9).map (fun i => (i.zero, i.size, i.bytes)) = some (some (.string ByteArray.empty), 1, 16) := by kernel_rfl
theorem own_three (w : World) (a b d : Value) : (w.alloc (.cells #[a, b, d] 9)).ownsRow w.heap.size 9 1 (.slice (some ⟨w.heap.size, 0, none⟩) 3 3) 3 [a, b, d] :=
  ⟨rfl, .inr ⟨w.heap.size, 3, #[a, b, d], rfl, Nat.le_refl _, heap_alloc_new w _, Nat.le_refl _, by decide, rfl, rfl⟩⟩
theorem news_blk (w : World) (cs : Array Value) (t : TypeId) : ∀ j u, cs.toList[j]? = some u → (w.alloc (.cells cs t)).cell? ((⟨w.heap.size, 0, none⟩ : Addr).add j) = some u := by
  intro j u hu
  rw [add_none, Nat.zero_add, Blk.cell (Blk.new w t cs) j, ← Array.getElem?_toList]
  exact hu
theorem own_lower {w : World} {b b' : Nat} {t : TypeId} {s n : Nat} {v : Value} {xs : List Value} (h : w.ownsRow b t s v n xs) (hb : b' ≤ b) : w.ownsRow b' t s v n xs := by
  refine ⟨h.1, ?_⟩
  rcases h.2 with h2 | ⟨g, cap, cur, h1, h2, h3⟩
  · exact .inl h2
  · exact .inr ⟨g, cap, cur, h1, Nat.le_trans hb h2, h3⟩
set_option maxRecDepth 100000 in
theorem text_no (e : Ev) (w : World) (he : EvOk w e) (hr : rightB e = false) : Calls Tryd.prog 12 #[e.v] w fun r w' => r = .returned (.string ByteArray.empty) ∧ Below w.heap.size w w' := by
  have hb0 : Below w.heap.size w (w.alloc (.cells #[.int .i64 e.kind, .int .i64 e.who, .int .u64 e.seq, .int .u64 e.tick, .int .i64 e.code, .slice e.A e.n e.c, .string e.ad] 29)) := (Below.refl _ w).alloc (Nat.le_refl _) _
  have hrt := right_any e _ (he.below hb0)
  have H0 := Lib.hid hb0
  rw [hr] at hrt
  unfold Ev.v at *
  clear he hr hb0
  go_enter Tryd.func12, Tryd.ntmps12
  go_wp2_with (go_at_call 10; refine hrt.mono ?_; rintro _ w1 ⟨rfl, hb⟩; refine Hid.out ?_)
  refine Lib.hid ?_
  have H1 := Lib.hid (H0.out.trans (hb.mono H0.out.size))
  clear hb
  go_wp2_with fail
  go_ret
  exact ⟨rfl, H1.out⟩
set_option maxRecDepth 100000 in
set_option maxHeartbeats 4000000 in
theorem text_1 (h sq tk : Nat) (cd : Int) (A : Option Addr) (n c : Nat) (ad : ByteArray) (w : World) (hT : Tabs w) (hh : h < 2) (hsq : sq < 18446744073709551616) (htk : tk < 18446744073709551616) (hn : n ≤ 5000) (had : ad.size ≤ 5000)
    (hrt : ∀ W, Below w.heap.size w W → Calls Tryd.prog 10 #[.agg #[.int .i64 1, .int .i64 (h : Nat), .int .u64 (sq : Nat), .int .u64 (tk : Nat), .int .i64 cd, .slice A n c, .string ad]] W fun r w' => r = .returned (.bool true) ∧ Below W.heap.size W w') :
    Calls Tryd.prog 12 #[.agg #[.int .i64 1, .int .i64 (h : Nat), .int .u64 (sq : Nat), .int .u64 (tk : Nat), .int .i64 cd, .slice A n c, .string ad]] w fun r w' => r = .returned (.string (joinS ([wd 1, n2 h, decS tk] ++ [decS sq, itS (n : Int), ad]))) ∧ Below w.heap.size w w' := by
  have hft := fun W (hb : Below w.heap.size w W) => fuint_any tk W htk (hT.below hb).2.2.2
  have hfs := fun W (hb : Below w.heap.size w W) => fuint_any sq W hsq (hT.below hb).2.2.2
  have hfn := fun W (hb : Below w.heap.size w W) => itoa_any (n : Int) W (hT.below hb).2.2.2 (by omega) (by omega)
  have hnm := fun W (hb : Below w.heap.size w W) => name_any cd W (hT.below hb).2.2.1
  have hz1 := wd_size 1 (by omega)
  have hz2 := n2_size h hh
  have hz3 := decS_size tk htk
  have hz4 := decS_size sq hsq
  have hz5 := itS_size (n : Int) (by omega) (by omega)
  have hz6 := nameS_size cd
  have HT := Lib.hid hT
  have hwd := hT.1.2 1 (by omega)
  have hn2 := hT.2.1.2 h hh
  generalize wd 1 = W1 at *
  generalize n2 h = W2 at *
  generalize decS tk = W3 at *
  generalize decS sq = W4 at *
  generalize itS (n : Int) = W5 at *
  generalize nameS cd = W6 at *
  have hzs : ∀ x ∈ [W1, W2, W3] ++ [W4, W5, ad], x.size ≤ 6000 := by
    intro x hx
    simp at hx
    rcases hx with rfl | rfl | rfl | rfl | rfl | rfl <;> omega
  have HZS := Lib.hid hzs
  have HTC := Lib.hid (And.intro hwd hn2)
  have h2i : (h : Int) < 2 := by omega
  clear hz1 hz2 hz3 hz4 hz5 hz6 hT hwd hn2 hzs
  have hb0 : Below w.heap.size w (w.alloc (.cells #[.int .i64 1, .int .i64 (h : Nat), .int .u64 (sq : Nat), .int .u64 (tk : Nat), .int .i64 cd, .slice A n c, .string ad] 29)) := (Below.refl _ w).alloc (Nat.le_refl _) _
  have H0 := Lib.hid hb0
  have K0 := Lib.hid (Blk.new w 29 #[.int .i64 1, .int .i64 (h : Nat), .int .u64 (sq : Nat), .int .u64 (tk : Nat), .int .i64 cd, .slice A n c, .string ad])
  clear hb0
  go_enter Tryd.func12, Tryd.ntmps12
  go_wp2_with (go_at_call 10; refine (hrt _ H0.out).mono ?_; rintro _ w1 ⟨rfl, hb⟩; refine Hid.out ?_)
  refine Lib.hid ?_
  have H1 := Lib.hid (H0.out.trans (hb.mono H0.out.size))
  have K1 := Lib.hid (Blk.below K0.out hb (Blk.lt K0.out))
  clear hb hrt
  go_wp2_with fail
  obtain ⟨c0, c1, c2, c3, c4, c5, c6⟩ := blk_seven K1.out
  have t0 := (H1.out.cell (p := ⟨0, 1, none⟩) HT.out.1.1).trans HTC.out.1
  have t1 := (H1.out.cell (p := ⟨1, h, none⟩) HT.out.2.1.1).trans HTC.out.2
  have hreg : ∀ d os, Below w.heap.size w (grow (redrawn w1 d) os) := fun d os => H1.out.trans ((below_regrown w1 d os).mono H1.out.size)
  have d0 := cell_regrown c0
  have d1 := cell_regrown c1
  have d3 := cell_regrown c3
  have u0 := cell_regrown t0
  have u1 := cell_regrown t1
  refine wp_region_tail_below 11 (by kernel_rfl) (by kernel_rfl) ?_
  simp only [List.take_succ_cons, List.take_zero, List.drop_succ_cons, List.drop_zero]
  repeat (first
    | go_big_quiet_skip
    | quiet_step ((go_at_call 23; with_reducible exact Calls.regrown_of (hft _ (hreg _ _)))))
  refine wpQuiet_nil ?_
  rintro _ ⟨⟨dq, osq⟩, rfl⟩
  have K2 := Lib.hid (Blk.below K1.out (below_regrown w1 dq osq) (Blk.lt K1.out))
  have H2 := Lib.hid (hreg dq osq)
  have hs1 : w1.heap.size ≤ (grow (redrawn w1 dq) osq).heap.size := (below_regrown w1 dq osq).size
  clear hreg c0 c1 c2 c3 c4 c5 c6 t0 t1 d0 d1 d3 u0 u1
  generalize grow (redrawn w1 dq) osq = w2 at *
  have hs2 := H2.out.size
  have H3 := Lib.hid (H2.out.alloc H2.out.size (.cells #[.string W1, .string W2, .string W3] 9))
  have K3 := Lib.hid (Blk.alloc K2.out (.cells #[.string W1, .string W2, .string W3] 9))
  have O3 := Lib.hid (own_lower (own_three w2 (.string W1) (.string W2) (.string W3)) H2.out.size)
  obtain ⟨c0, c1, c2, c3, c4, c5, c6⟩ := blk_seven K2.out
  have hlt := Blk.lt K2.out
  obtain ⟨i0, hi, hz0, hz1, hz2⟩ := info_parts info9
  go_wp2_with (go_at_call 24; refine (hnm _ H3.out).mono ?_; rintro _ _ ⟨rfl, rfl⟩; refine Hid.out ?_)
  refine Lib.hid ?_
  go_wp2_with fail
  obtain ⟨e0, e1, e2, e3, e4, e5, e6⟩ := blk_seven K3.out
  have d2 := cell_regrown e2
  have d5 := cell_regrown e5
  have d6 := cell_regrown e6
  obtain ⟨w3, hw3⟩ : ∃ w3, w2.alloc (.cells #[.string W1, .string W2, .string W3] 9) = w3 := ⟨_, rfl⟩
  have hg3 : w2.heap.size < w3.heap.size := by rw [← hw3]; simp
  rw [hw3] at H3 O3 d2 d5 d6 ⊢
  have hreg : ∀ d os, Below w.heap.size w (grow (redrawn w3 d) os) := fun d os => H3.out.trans ((below_regrown w3 d os).mono H3.out.size)
  clear e0 e1 e2 e3 e4 e5 e6 c0 c1 c2 c3 c4 c5 c6 hw3 K3 K2
  generalize w2.heap.size = g2 at *
  refine wp_region_take_tail_below 10 (.slice (some ⟨g2, 0, none⟩) 3 3) (by kernel_rfl) (by kernel_rfl) (fun _ _ _ h => h) (Or.inl ⟨by kernel_rfl, fun w => by kernel_rfl⟩) ?_
  simp only [List.take_succ_cons, List.take_zero, List.drop_succ_cons, List.drop_zero]
  repeat (first
    | go_big_quiet_skip
    | quiet_step ((first
        | (go_at_call 23; with_reducible exact Calls.regrown_of (hfs _ (hreg _ _)))
        | (go_at_call 25; with_reducible exact Calls.regrown_of (hfn _ (hreg _ _))))))
  refine wpQuiet_nil ?_
  rintro _ ⟨⟨dq2, osq2⟩, rfl⟩
  have H4 := Lib.hid (hreg dq2 osq2)
  have O4 := Lib.hid (own_below O3.out (below_regrown w3 dq2 osq2))
  clear hreg d2 d5 d6
  generalize grow (redrawn w3 dq2) osq2 = w4 at *
  have hs4 := H4.out.size
  go_wp2_with (at_builtin; refine wpList_append_own _ rfl _ _ 48 rfl w.heap.size 9 i0 (.string ByteArray.empty) 1 16 Tryd.underlying48 hi hz0 hz1 hz2 rfl (by decide) _ _ _ rfl (O4.out.alloc _) ⟨w4.heap.size, 0, none⟩ 3 3 [.string W4, .string W5, .string ad] rfl rfl (news_blk w4 #[.string W4, .string W5, .string ad] 9) (by intro u hu; simp at hu; rcases hu with rfl | rfl | rfl <;> rfl) (by unfold maxLen; omega) (by omega) (by simp; omega) ?_; intro v7 w7 hown7 hg7 hx7; clear hx7; refine Hid.out ?_)
  refine Lib.hid ?_
  have H7 := Lib.hid (below_own (H4.out.alloc hs4 _) (O4.out.alloc _) hg7 (Nat.le_refl _) (by simp; omega))
  obtain ⟨A7, c7, rfl⟩ := own_form hown7
  have hj := join_own [W1, W2, W3, W4, W5, ad] hown7 (by simp) HZS.out (by simp)
  clear hown7 hg7
  go_wp2_with (go_at_call 26; refine hj.mono ?_; rintro _ w8 ⟨rfl, hb⟩; refine Hid.out ?_)
  refine Lib.hid ?_
  go_wp2_with fail
  go_ret
  exact ⟨rfl, H7.out.trans (hb.mono H7.out.size)⟩
set_option maxRecDepth 100000 in
set_option maxHeartbeats 4000000 in
theorem text_2 (h sq tk : Nat) (cd : Int) (A : Option Addr) (n c : Nat) (ad : ByteArray) (w : World) (hT : Tabs w) (hh : h < 2) (hsq : sq < 18446744073709551616) (htk : tk < 18446744073709551616) (hn : n ≤ 5000) (had : ad.size ≤ 5000)
    (hrt : ∀ W, Below w.heap.size w W → Calls Tryd.prog 10 #[.agg #[.int .i64 2, .int .i64 (h : Nat), .int .u64 (sq : Nat), .int .u64 (tk : Nat), .int .i64 cd, .slice A n c, .string ad]] W fun r w' => r = .returned (.bool true) ∧ Below W.heap.size W w') :
    Calls Tryd.prog 12 #[.agg #[.int .i64 2, .int .i64 (h : Nat), .int .u64 (sq : Nat), .int .u64 (tk : Nat), .int .i64 cd, .slice A n c, .string ad]] w fun r w' => r = .returned (.string (joinS ([wd 2, n2 h, decS tk] ++ [decS sq, itS (n : Int), ad]))) ∧ Below w.heap.size w w' := by
  have hft := fun W (hb : Below w.heap.size w W) => fuint_any tk W htk (hT.below hb).2.2.2
  have hfs := fun W (hb : Below w.heap.size w W) => fuint_any sq W hsq (hT.below hb).2.2.2
  have hfn := fun W (hb : Below w.heap.size w W) => itoa_any (n : Int) W (hT.below hb).2.2.2 (by omega) (by omega)
  have hnm := fun W (hb : Below w.heap.size w W) => name_any cd W (hT.below hb).2.2.1
  have hz1 := wd_size 2 (by omega)
  have hz2 := n2_size h hh
  have hz3 := decS_size tk htk
  have hz4 := decS_size sq hsq
  have hz5 := itS_size (n : Int) (by omega) (by omega)
  have hz6 := nameS_size cd
  have HT := Lib.hid hT
  have hwd := hT.1.2 2 (by omega)
  have hn2 := hT.2.1.2 h hh
  generalize wd 2 = W1 at *
  generalize n2 h = W2 at *
  generalize decS tk = W3 at *
  generalize decS sq = W4 at *
  generalize itS (n : Int) = W5 at *
  generalize nameS cd = W6 at *
  have hzs : ∀ x ∈ [W1, W2, W3] ++ [W4, W5, ad], x.size ≤ 6000 := by
    intro x hx
    simp at hx
    rcases hx with rfl | rfl | rfl | rfl | rfl | rfl <;> omega
  have HZS := Lib.hid hzs
  have HTC := Lib.hid (And.intro hwd hn2)
  have h2i : (h : Int) < 2 := by omega
  clear hz1 hz2 hz3 hz4 hz5 hz6 hT hwd hn2 hzs
  have hb0 : Below w.heap.size w (w.alloc (.cells #[.int .i64 2, .int .i64 (h : Nat), .int .u64 (sq : Nat), .int .u64 (tk : Nat), .int .i64 cd, .slice A n c, .string ad] 29)) := (Below.refl _ w).alloc (Nat.le_refl _) _
  have H0 := Lib.hid hb0
  have K0 := Lib.hid (Blk.new w 29 #[.int .i64 2, .int .i64 (h : Nat), .int .u64 (sq : Nat), .int .u64 (tk : Nat), .int .i64 cd, .slice A n c, .string ad])
  clear hb0
  go_enter Tryd.func12, Tryd.ntmps12
  go_wp2_with (go_at_call 10; refine (hrt _ H0.out).mono ?_; rintro _ w1 ⟨rfl, hb⟩; refine Hid.out ?_)
  refine Lib.hid ?_
  have H1 := Lib.hid (H0.out.trans (hb.mono H0.out.size))
  have K1 := Lib.hid (Blk.below K0.out hb (Blk.lt K0.out))
  clear hb hrt
  go_wp2_with fail
  obtain ⟨c0, c1, c2, c3, c4, c5, c6⟩ := blk_seven K1.out
  have t0 := (H1.out.cell (p := ⟨0, 2, none⟩) HT.out.1.1).trans HTC.out.1
  have t1 := (H1.out.cell (p := ⟨1, h, none⟩) HT.out.2.1.1).trans HTC.out.2
  have hreg : ∀ d os, Below w.heap.size w (grow (redrawn w1 d) os) := fun d os => H1.out.trans ((below_regrown w1 d os).mono H1.out.size)
  have d0 := cell_regrown c0
  have d1 := cell_regrown c1
  have d3 := cell_regrown c3
  have u0 := cell_regrown t0
  have u1 := cell_regrown t1
  refine wp_region_tail_below 11 (by kernel_rfl) (by kernel_rfl) ?_
  simp only [List.take_succ_cons, List.take_zero, List.drop_succ_cons, List.drop_zero]
  repeat (first
    | go_big_quiet_skip
    | quiet_step ((go_at_call 23; with_reducible exact Calls.regrown_of (hft _ (hreg _ _)))))
  refine wpQuiet_nil ?_
  rintro _ ⟨⟨dq, osq⟩, rfl⟩
  have K2 := Lib.hid (Blk.below K1.out (below_regrown w1 dq osq) (Blk.lt K1.out))
  have H2 := Lib.hid (hreg dq osq)
  have hs1 : w1.heap.size ≤ (grow (redrawn w1 dq) osq).heap.size := (below_regrown w1 dq osq).size
  clear hreg c0 c1 c2 c3 c4 c5 c6 t0 t1 d0 d1 d3 u0 u1
  generalize grow (redrawn w1 dq) osq = w2 at *
  have hs2 := H2.out.size
  have H3 := Lib.hid (H2.out.alloc H2.out.size (.cells #[.string W1, .string W2, .string W3] 9))
  have K3 := Lib.hid (Blk.alloc K2.out (.cells #[.string W1, .string W2, .string W3] 9))
  have O3 := Lib.hid (own_lower (own_three w2 (.string W1) (.string W2) (.string W3)) H2.out.size)
  obtain ⟨c0, c1, c2, c3, c4, c5, c6⟩ := blk_seven K2.out
  have hlt := Blk.lt K2.out
  obtain ⟨i0, hi, hz0, hz1, hz2⟩ := info_parts info9
  go_wp2_with (go_at_call 24; refine (hnm _ H3.out).mono ?_; rintro _ _ ⟨rfl, rfl⟩; refine Hid.out ?_)
  refine Lib.hid ?_
  go_wp2_with fail
  obtain ⟨e0, e1, e2, e3, e4, e5, e6⟩ := blk_seven K3.out
  have d2 := cell_regrown e2
  have d5 := cell_regrown e5
  have d6 := cell_regrown e6
  obtain ⟨w3, hw3⟩ : ∃ w3, w2.alloc (.cells #[.string W1, .string W2, .string W3] 9) = w3 := ⟨_, rfl⟩
  have hg3 : w2.heap.size < w3.heap.size := by rw [← hw3]; simp
  rw [hw3] at H3 O3 d2 d5 d6 ⊢
  have hreg : ∀ d os, Below w.heap.size w (grow (redrawn w3 d) os) := fun d os => H3.out.trans ((below_regrown w3 d os).mono H3.out.size)
  clear e0 e1 e2 e3 e4 e5 e6 c0 c1 c2 c3 c4 c5 c6 hw3 K3 K2
  generalize w2.heap.size = g2 at *
  refine wp_region_take_tail_below 10 (.slice (some ⟨g2, 0, none⟩) 3 3) (by kernel_rfl) (by kernel_rfl) (fun _ _ _ h => h) (Or.inl ⟨by kernel_rfl, fun w => by kernel_rfl⟩) ?_
  simp only [List.take_succ_cons, List.take_zero, List.drop_succ_cons, List.drop_zero]
  repeat (first
    | go_big_quiet_skip
    | quiet_step ((first
        | (go_at_call 23; with_reducible exact Calls.regrown_of (hfs _ (hreg _ _)))
        | (go_at_call 25; with_reducible exact Calls.regrown_of (hfn _ (hreg _ _))))))
  refine wpQuiet_nil ?_
  rintro _ ⟨⟨dq2, osq2⟩, rfl⟩
  have H4 := Lib.hid (hreg dq2 osq2)
  have O4 := Lib.hid (own_below O3.out (below_regrown w3 dq2 osq2))
  clear hreg d2 d5 d6
  generalize grow (redrawn w3 dq2) osq2 = w4 at *
  have hs4 := H4.out.size
  go_wp2_with (at_builtin; refine wpList_append_own _ rfl _ _ 48 rfl w.heap.size 9 i0 (.string ByteArray.empty) 1 16 Tryd.underlying48 hi hz0 hz1 hz2 rfl (by decide) _ _ _ rfl (O4.out.alloc _) ⟨w4.heap.size, 0, none⟩ 3 3 [.string W4, .string W5, .string ad] rfl rfl (news_blk w4 #[.string W4, .string W5, .string ad] 9) (by intro u hu; simp at hu; rcases hu with rfl | rfl | rfl <;> rfl) (by unfold maxLen; omega) (by omega) (by simp; omega) ?_; intro v7 w7 hown7 hg7 hx7; clear hx7; refine Hid.out ?_)
  refine Lib.hid ?_
  have H7 := Lib.hid (below_own (H4.out.alloc hs4 _) (O4.out.alloc _) hg7 (Nat.le_refl _) (by simp; omega))
  obtain ⟨A7, c7, rfl⟩ := own_form hown7
  have hj := join_own [W1, W2, W3, W4, W5, ad] hown7 (by simp) HZS.out (by simp)
  clear hown7 hg7
  go_wp2_with (go_at_call 26; refine hj.mono ?_; rintro _ w8 ⟨rfl, hb⟩; refine Hid.out ?_)
  refine Lib.hid ?_
  go_wp2_with fail
  go_ret
  exact ⟨rfl, H7.out.trans (hb.mono H7.out.size)⟩
set_option maxRecDepth 100000 in
set_option maxHeartbeats 4000000 in
theorem text_3 (h sq tk : Nat) (cd : Int) (A : Option Addr) (n c : Nat) (ad : ByteArray) (w : World) (hT : Tabs w) (hh : h < 2) (hsq : sq < 18446744073709551616) (htk : tk < 18446744073709551616) (hn : n ≤ 5000) (had : ad.size ≤ 5000)
    (hrt : ∀ W, Below w.heap.size w W → Calls Tryd.prog 10 #[.agg #[.int .i64 3, .int .i64 (h : Nat), .int .u64 (sq : Nat), .int .u64 (tk : Nat), .int .i64 cd, .slice A n c, .string ad]] W fun r w' => r = .returned (.bool true) ∧ Below W.heap.size W w') :
    Calls Tryd.prog 12 #[.agg #[.int .i64 3, .int .i64 (h : Nat), .int .u64 (sq : Nat), .int .u64 (tk : Nat), .int .i64 cd, .slice A n c, .string ad]] w fun r w' => r = .returned (.string (joinS ([wd 3, n2 h, decS tk] ++ [nameS cd, ad]))) ∧ Below w.heap.size w w' := by
  have hft := fun W (hb : Below w.heap.size w W) => fuint_any tk W htk (hT.below hb).2.2.2
  have hfs := fun W (hb : Below w.heap.size w W) => fuint_any sq W hsq (hT.below hb).2.2.2
  have hfn := fun W (hb : Below w.heap.size w W) => itoa_any (n : Int) W (hT.below hb).2.2.2 (by omega) (by omega)
  have hnm := fun W (hb : Below w.heap.size w W) => name_any cd W (hT.below hb).2.2.1
  have hz1 := wd_size 3 (by omega)
  have hz2 := n2_size h hh
  have hz3 := decS_size tk htk
  have hz4 := decS_size sq hsq
  have hz5 := itS_size (n : Int) (by omega) (by omega)
  have hz6 := nameS_size cd
  have HT := Lib.hid hT
  have hwd := hT.1.2 3 (by omega)
  have hn2 := hT.2.1.2 h hh
  generalize wd 3 = W1 at *
  generalize n2 h = W2 at *
  generalize decS tk = W3 at *
  generalize decS sq = W4 at *
  generalize itS (n : Int) = W5 at *
  generalize nameS cd = W6 at *
  have hzs : ∀ x ∈ [W1, W2, W3] ++ [W6, ad], x.size ≤ 6000 := by
    intro x hx
    simp at hx
    rcases hx with rfl | rfl | rfl | rfl | rfl <;> omega
  have HZS := Lib.hid hzs
  have HTC := Lib.hid (And.intro hwd hn2)
  have h2i : (h : Int) < 2 := by omega
  clear hz1 hz2 hz3 hz4 hz5 hz6 hT hwd hn2 hzs
  have hb0 : Below w.heap.size w (w.alloc (.cells #[.int .i64 3, .int .i64 (h : Nat), .int .u64 (sq : Nat), .int .u64 (tk : Nat), .int .i64 cd, .slice A n c, .string ad] 29)) := (Below.refl _ w).alloc (Nat.le_refl _) _
  have H0 := Lib.hid hb0
  have K0 := Lib.hid (Blk.new w 29 #[.int .i64 3, .int .i64 (h : Nat), .int .u64 (sq : Nat), .int .u64 (tk : Nat), .int .i64 cd, .slice A n c, .string ad])
  clear hb0
  go_enter Tryd.func12, Tryd.ntmps12
  go_wp2_with (go_at_call 10; refine (hrt _ H0.out).mono ?_; rintro _ w1 ⟨rfl, hb⟩; refine Hid.out ?_)
  refine Lib.hid ?_
  have H1 := Lib.hid (H0.out.trans (hb.mono H0.out.size))
  have K1 := Lib.hid (Blk.below K0.out hb (Blk.lt K0.out))
  clear hb hrt
  go_wp2_with fail
  obtain ⟨c0, c1, c2, c3, c4, c5, c6⟩ := blk_seven K1.out
  have t0 := (H1.out.cell (p := ⟨0, 3, none⟩) HT.out.1.1).trans HTC.out.1
  have t1 := (H1.out.cell (p := ⟨1, h, none⟩) HT.out.2.1.1).trans HTC.out.2
  have hreg : ∀ d os, Below w.heap.size w (grow (redrawn w1 d) os) := fun d os => H1.out.trans ((below_regrown w1 d os).mono H1.out.size)
  have d0 := cell_regrown c0
  have d1 := cell_regrown c1
  have d3 := cell_regrown c3
  have u0 := cell_regrown t0
  have u1 := cell_regrown t1
  refine wp_region_tail_below 11 (by kernel_rfl) (by kernel_rfl) ?_
  simp only [List.take_succ_cons, List.take_zero, List.drop_succ_cons, List.drop_zero]
  repeat (first
    | go_big_quiet_skip
    | quiet_step ((go_at_call 23; with_reducible exact Calls.regrown_of (hft _ (hreg _ _)))))
  refine wpQuiet_nil ?_
  rintro _ ⟨⟨dq, osq⟩, rfl⟩
  have K2 := Lib.hid (Blk.below K1.out (below_regrown w1 dq osq) (Blk.lt K1.out))
  have H2 := Lib.hid (hreg dq osq)
  have hs1 : w1.heap.size ≤ (grow (redrawn w1 dq) osq).heap.size := (below_regrown w1 dq osq).size
  clear hreg c0 c1 c2 c3 c4 c5 c6 t0 t1 d0 d1 d3 u0 u1
  generalize grow (redrawn w1 dq) osq = w2 at *
  have hs2 := H2.out.size
  have H3 := Lib.hid (H2.out.alloc H2.out.size (.cells #[.string W1, .string W2, .string W3] 9))
  have K3 := Lib.hid (Blk.alloc K2.out (.cells #[.string W1, .string W2, .string W3] 9))
  have O3 := Lib.hid (own_lower (own_three w2 (.string W1) (.string W2) (.string W3)) H2.out.size)
  obtain ⟨c0, c1, c2, c3, c4, c5, c6⟩ := blk_seven K2.out
  have hlt := Blk.lt K2.out
  obtain ⟨i0, hi, hz0, hz1, hz2⟩ := info_parts info9
  go_wp2_with (go_at_call 24; refine (hnm _ H3.out).mono ?_; rintro _ _ ⟨rfl, rfl⟩; refine Hid.out ?_)
  refine Lib.hid ?_
  have hs3 := H3.out.size
  have O4 := Lib.hid (O3.out.alloc (.cells #[.string W6, .string ad] 9))
  have H4 := Lib.hid (H3.out.alloc hs3 (.cells #[.string W6, .string ad] 9))
  have hnews := news_blk (w2.alloc (.cells #[.string W1, .string W2, .string W3] 9)) #[.string W6, .string ad] 9
  have HNW := Lib.hid (show ∀ j u, ([.string W6, .string ad] : List Value)[j]? = some u → ((w2.alloc (.cells #[.string W1, .string W2, .string W3] 9)).alloc (.cells #[.string W6, .string ad] 9)).cell? ((⟨w2.heap.size + 1, 0, none⟩ : Addr).add j) = some u by simpa using hnews)
  clear hnews
  go_wp2_with (at_builtin; refine wpList_append_own _ rfl _ _ 48 rfl w.heap.size 9 i0 (.string ByteArray.empty) 1 16 Tryd.underlying48 hi hz0 hz1 hz2 rfl (by decide) _ _ _ rfl O4.out ⟨w2.heap.size + 1, 0, none⟩ 2 2 [.string W6, .string ad] rfl rfl HNW.out (by intro u hu; simp at hu; rcases hu with rfl | rfl <;> rfl) (by unfold maxLen; omega) (by omega) (by simp; omega) ?_; intro v7 w7 hown7 hg7 hx7; clear hx7; refine Hid.out ?_)
  refine Lib.hid ?_
  have H7 := Lib.hid (below_own H4.out O4.out hg7 (Nat.le_refl _) (by simp; omega))
  obtain ⟨A7, c7, rfl⟩ := own_form hown7
  have hj := join_own [W1, W2, W3, W6, ad] hown7 (by simp) HZS.out (by simp)
  clear hown7 hg7
  go_wp2_with (go_at_call 26; refine hj.mono ?_; rintro _ w8 ⟨rfl, hb⟩; refine Hid.out ?_)
  refine Lib.hid ?_
  go_wp2_with fail
  go_ret
  exact ⟨rfl, H7.out.trans (hb.mono H7.out.size)⟩
set_option maxRecDepth 100000 in
set_option maxHeartbeats 4000000 in
theorem text_4 (h sq tk : Nat) (cd : Int) (A : Option Addr) (n c : Nat) (ad : ByteArray) (w : World) (hT : Tabs w) (hh : h < 2) (hsq : sq < 18446744073709551616) (htk : tk < 18446744073709551616) (hn : n ≤ 5000) (had : ad.size ≤ 5000)
    (hrt : ∀ W, Below w.heap.size w W → Calls Tryd.prog 10 #[.agg #[.int .i64 4, .int .i64 (h : Nat), .int .u64 (sq : Nat), .int .u64 (tk : Nat), .int .i64 cd, .slice A n c, .string ad]] W fun r w' => r = .returned (.bool true) ∧ Below W.heap.size W w') :
    Calls Tryd.prog 12 #[.agg #[.int .i64 4, .int .i64 (h : Nat), .int .u64 (sq : Nat), .int .u64 (tk : Nat), .int .i64 cd, .slice A n c, .string ad]] w fun r w' => r = .returned (.string (joinS ([wd 4, n2 h, decS tk] ++ [nameS cd]))) ∧ Below w.heap.size w w' := by
  have hft := fun W (hb : Below w.heap.size w W) => fuint_any tk W htk (hT.below hb).2.2.2
  have hfs := fun W (hb : Below w.heap.size w W) => fuint_any sq W hsq (hT.below hb).2.2.2
  have hfn := fun W (hb : Below w.heap.size w W) => itoa_any (n : Int) W (hT.below hb).2.2.2 (by omega) (by omega)
  have hnm := fun W (hb : Below w.heap.size w W) => name_any cd W (hT.below hb).2.2.1
  have hz1 := wd_size 4 (by omega)
  have hz2 := n2_size h hh
  have hz3 := decS_size tk htk
  have hz4 := decS_size sq hsq
  have hz5 := itS_size (n : Int) (by omega) (by omega)
  have hz6 := nameS_size cd
  have HT := Lib.hid hT
  have hwd := hT.1.2 4 (by omega)
  have hn2 := hT.2.1.2 h hh
  generalize wd 4 = W1 at *
  generalize n2 h = W2 at *
  generalize decS tk = W3 at *
  generalize decS sq = W4 at *
  generalize itS (n : Int) = W5 at *
  generalize nameS cd = W6 at *
  have hzs : ∀ x ∈ [W1, W2, W3] ++ [W6], x.size ≤ 6000 := by
    intro x hx
    simp at hx
    rcases hx with rfl | rfl | rfl | rfl <;> omega
  have HZS := Lib.hid hzs
  have HTC := Lib.hid (And.intro hwd hn2)
  have h2i : (h : Int) < 2 := by omega
  clear hz1 hz2 hz3 hz4 hz5 hz6 hT hwd hn2 hzs
  have hb0 : Below w.heap.size w (w.alloc (.cells #[.int .i64 4, .int .i64 (h : Nat), .int .u64 (sq : Nat), .int .u64 (tk : Nat), .int .i64 cd, .slice A n c, .string ad] 29)) := (Below.refl _ w).alloc (Nat.le_refl _) _
  have H0 := Lib.hid hb0
  have K0 := Lib.hid (Blk.new w 29 #[.int .i64 4, .int .i64 (h : Nat), .int .u64 (sq : Nat), .int .u64 (tk : Nat), .int .i64 cd, .slice A n c, .string ad])
  clear hb0
  go_enter Tryd.func12, Tryd.ntmps12
  go_wp2_with (go_at_call 10; refine (hrt _ H0.out).mono ?_; rintro _ w1 ⟨rfl, hb⟩; refine Hid.out ?_)
  refine Lib.hid ?_
  have H1 := Lib.hid (H0.out.trans (hb.mono H0.out.size))
  have K1 := Lib.hid (Blk.below K0.out hb (Blk.lt K0.out))
  clear hb hrt
  go_wp2_with fail
  obtain ⟨c0, c1, c2, c3, c4, c5, c6⟩ := blk_seven K1.out
  have t0 := (H1.out.cell (p := ⟨0, 4, none⟩) HT.out.1.1).trans HTC.out.1
  have t1 := (H1.out.cell (p := ⟨1, h, none⟩) HT.out.2.1.1).trans HTC.out.2
  have hreg : ∀ d os, Below w.heap.size w (grow (redrawn w1 d) os) := fun d os => H1.out.trans ((below_regrown w1 d os).mono H1.out.size)
  have d0 := cell_regrown c0
  have d1 := cell_regrown c1
  have d3 := cell_regrown c3
  have u0 := cell_regrown t0
  have u1 := cell_regrown t1
  refine wp_region_tail_below 11 (by kernel_rfl) (by kernel_rfl) ?_
  simp only [List.take_succ_cons, List.take_zero, List.drop_succ_cons, List.drop_zero]
  repeat (first
    | go_big_quiet_skip
    | quiet_step ((go_at_call 23; with_reducible exact Calls.regrown_of (hft _ (hreg _ _)))))
  refine wpQuiet_nil ?_
  rintro _ ⟨⟨dq, osq⟩, rfl⟩
  have K2 := Lib.hid (Blk.below K1.out (below_regrown w1 dq osq) (Blk.lt K1.out))
  have H2 := Lib.hid (hreg dq osq)
  have hs1 : w1.heap.size ≤ (grow (redrawn w1 dq) osq).heap.size := (below_regrown w1 dq osq).size
  clear hreg c0 c1 c2 c3 c4 c5 c6 t0 t1 d0 d1 d3 u0 u1
  generalize grow (redrawn w1 dq) osq = w2 at *
  have hs2 := H2.out.size
  have H3 := Lib.hid (H2.out.alloc H2.out.size (.cells #[.string W1, .string W2, .string W3] 9))
  have K3 := Lib.hid (Blk.alloc K2.out (.cells #[.string W1, .string W2, .string W3] 9))
  have O3 := Lib.hid (own_lower (own_three w2 (.string W1) (.string W2) (.string W3)) H2.out.size)
  obtain ⟨c0, c1, c2, c3, c4, c5, c6⟩ := blk_seven K2.out
  have hlt := Blk.lt K2.out
  obtain ⟨i0, hi, hz0, hz1, hz2⟩ := info_parts info9
  go_wp2_with (go_at_call 24; refine (hnm _ H3.out).mono ?_; rintro _ _ ⟨rfl, rfl⟩; refine Hid.out ?_)
  refine Lib.hid ?_
  have hs3 := H3.out.size
  have O4 := Lib.hid (O3.out.alloc (.cells #[.string W6] 9))
  have H4 := Lib.hid (H3.out.alloc hs3 (.cells #[.string W6] 9))
  have hnews := news_blk (w2.alloc (.cells #[.string W1, .string W2, .string W3] 9)) #[.string W6] 9
  have HNW := Lib.hid (show ∀ j u, ([.string W6] : List Value)[j]? = some u → ((w2.alloc (.cells #[.string W1, .string W2, .string W3] 9)).alloc (.cells #[.string W6] 9)).cell? ((⟨w2.heap.size + 1, 0, none⟩ : Addr).add j) = some u by simpa using hnews)
  clear hnews
  go_wp2_with (at_builtin; refine wpList_append_own _ rfl _ _ 48 rfl w.heap.size 9 i0 (.string ByteArray.empty) 1 16 Tryd.underlying48 hi hz0 hz1 hz2 rfl (by decide) _ _ _ rfl O4.out ⟨w2.heap.size + 1, 0, none⟩ 1 1 [.string W6] rfl rfl HNW.out (by intro u hu; simp at hu; subst hu; rfl) (by unfold maxLen; omega) (by omega) (by simp; omega) ?_; intro v7 w7 hown7 hg7 hx7; clear hx7; refine Hid.out ?_)
  refine Lib.hid ?_
  have H7 := Lib.hid (below_own H4.out O4.out hg7 (Nat.le_refl _) (by simp; omega))
  obtain ⟨A7, c7, rfl⟩ := own_form hown7
  have hj := join_own [W1, W2, W3, W6] hown7 (by simp) HZS.out (by simp)
  clear hown7 hg7
  go_wp2_with (go_at_call 26; refine hj.mono ?_; rintro _ w8 ⟨rfl, hb⟩; refine Hid.out ?_)
  refine Lib.hid ?_
  go_wp2_with fail
  go_ret
  exact ⟨rfl, H7.out.trans (hb.mono H7.out.size)⟩
set_option maxRecDepth 100000 in
set_option maxHeartbeats 4000000 in
theorem text_5 (h sq tk : Nat) (cd : Int) (A : Option Addr) (n c : Nat) (ad : ByteArray) (w : World) (hT : Tabs w) (hh : h < 2) (hsq : sq < 18446744073709551616) (htk : tk < 18446744073709551616) (hn : n ≤ 5000) (had : ad.size ≤ 5000)
    (hrt : ∀ W, Below w.heap.size w W → Calls Tryd.prog 10 #[.agg #[.int .i64 5, .int .i64 (h : Nat), .int .u64 (sq : Nat), .int .u64 (tk : Nat), .int .i64 cd, .slice A n c, .string ad]] W fun r w' => r = .returned (.bool true) ∧ Below W.heap.size W w') :
    Calls Tryd.prog 12 #[.agg #[.int .i64 5, .int .i64 (h : Nat), .int .u64 (sq : Nat), .int .u64 (tk : Nat), .int .i64 cd, .slice A n c, .string ad]] w fun r w' => r = .returned (.string (joinS ([wd 5, n2 h, decS tk]))) ∧ Below w.heap.size w w' := by
  have hft := fun W (hb : Below w.heap.size w W) => fuint_any tk W htk (hT.below hb).2.2.2
  have hfs := fun W (hb : Below w.heap.size w W) => fuint_any sq W hsq (hT.below hb).2.2.2
  have hfn := fun W (hb : Below w.heap.size w W) => itoa_any (n : Int) W (hT.below hb).2.2.2 (by omega) (by omega)
  have hnm := fun W (hb : Below w.heap.size w W) => name_any cd W (hT.below hb).2.2.1
  have hz1 := wd_size 5 (by omega)
  have hz2 := n2_size h hh
  have hz3 := decS_size tk htk
  have hz4 := decS_size sq hsq
  have hz5 := itS_size (n : Int) (by omega) (by omega)
  have hz6 := nameS_size cd
  have HT := Lib.hid hT
  have hwd := hT.1.2 5 (by omega)
  have hn2 := hT.2.1.2 h hh
  generalize wd 5 = W1 at *
  generalize n2 h = W2 at *
  generalize decS tk = W3 at *
  generalize decS sq = W4 at *
  generalize itS (n : Int) = W5 at *
  generalize nameS cd = W6 at *
  have hzs : ∀ x ∈ [W1, W2, W3], x.size ≤ 6000 := by
    intro x hx
    simp at hx
    rcases hx with rfl | rfl | rfl <;> omega
  have HZS := Lib.hid hzs
  have HTC := Lib.hid (And.intro hwd hn2)
  have h2i : (h : Int) < 2 := by omega
  clear hz1 hz2 hz3 hz4 hz5 hz6 hT hwd hn2 hzs
  have hb0 : Below w.heap.size w (w.alloc (.cells #[.int .i64 5, .int .i64 (h : Nat), .int .u64 (sq : Nat), .int .u64 (tk : Nat), .int .i64 cd, .slice A n c, .string ad] 29)) := (Below.refl _ w).alloc (Nat.le_refl _) _
  have H0 := Lib.hid hb0
  have K0 := Lib.hid (Blk.new w 29 #[.int .i64 5, .int .i64 (h : Nat), .int .u64 (sq : Nat), .int .u64 (tk : Nat), .int .i64 cd, .slice A n c, .string ad])
  clear hb0
  go_enter Tryd.func12, Tryd.ntmps12
  go_wp2_with (go_at_call 10; refine (hrt _ H0.out).mono ?_; rintro _ w1 ⟨rfl, hb⟩; refine Hid.out ?_)
  refine Lib.hid ?_
  have H1 := Lib.hid (H0.out.trans (hb.mono H0.out.size))
  have K1 := Lib.hid (Blk.below K0.out hb (Blk.lt K0.out))
  clear hb hrt
  go_wp2_with fail
  obtain ⟨c0, c1, c2, c3, c4, c5, c6⟩ := blk_seven K1.out
  have t0 := (H1.out.cell (p := ⟨0, 5, none⟩) HT.out.1.1).trans HTC.out.1
  have t1 := (H1.out.cell (p := ⟨1, h, none⟩) HT.out.2.1.1).trans HTC.out.2
  have hreg : ∀ d os, Below w.heap.size w (grow (redrawn w1 d) os) := fun d os => H1.out.trans ((below_regrown w1 d os).mono H1.out.size)
  have d0 := cell_regrown c0
  have d1 := cell_regrown c1
  have d3 := cell_regrown c3
  have u0 := cell_regrown t0
  have u1 := cell_regrown t1
  refine wp_region_tail_below 11 (by kernel_rfl) (by kernel_rfl) ?_
  simp only [List.take_succ_cons, List.take_zero, List.drop_succ_cons, List.drop_zero]
  repeat (first
    | go_big_quiet_skip
    | quiet_step ((go_at_call 23; with_reducible exact Calls.regrown_of (hft _ (hreg _ _)))))
  refine wpQuiet_nil ?_
  rintro _ ⟨⟨dq, osq⟩, rfl⟩
  have K2 := Lib.hid (Blk.below K1.out (below_regrown w1 dq osq) (Blk.lt K1.out))
  have H2 := Lib.hid (hreg dq osq)
  have hs1 : w1.heap.size ≤ (grow (redrawn w1 dq) osq).heap.size := (below_regrown w1 dq osq).size
  clear hreg c0 c1 c2 c3 c4 c5 c6 t0 t1 d0 d1 d3 u0 u1
  generalize grow (redrawn w1 dq) osq = w2 at *
  have hs2 := H2.out.size
  have H3 := Lib.hid (H2.out.alloc H2.out.size (.cells #[.string W1, .string W2, .string W3] 9))
  have K3 := Lib.hid (Blk.alloc K2.out (.cells #[.string W1, .string W2, .string W3] 9))
  have O3 := Lib.hid (own_lower (own_three w2 (.string W1) (.string W2) (.string W3)) H2.out.size)
  obtain ⟨c0, c1, c2, c3, c4, c5, c6⟩ := blk_seven K2.out
  have hlt := Blk.lt K2.out
  obtain ⟨i0, hi, hz0, hz1, hz2⟩ := info_parts info9
  go_wp2_with (go_at_call 24; refine (hnm _ H3.out).mono ?_; rintro _ _ ⟨rfl, rfl⟩; refine Hid.out ?_)
  refine Lib.hid ?_
  have H7 := H3
  have hj := join_own [W1, W2, W3] O3.out (by simp) HZS.out (by simp)
  go_wp2_with (go_at_call 26; refine hj.mono ?_; rintro _ w8 ⟨rfl, hb⟩; refine Hid.out ?_)
  refine Lib.hid ?_
  go_wp2_with fail
  go_ret
  exact ⟨rfl, H7.out.trans (hb.mono H7.out.size)⟩
theorem text_any (e : Ev) (w : World) (he : EvOk w e) (hT : Tabs w) (hn : e.n ≤ 5000) (had : e.ad.size ≤ 5000) : Calls Tryd.prog 12 #[e.v] w fun r w' => r = .returned (.string (textS e)) ∧ Below w.heap.size w w' := by
  cases hr : rightB e with
  | false =>
    have := text_no e w he hr
    unfold textS
    rw [hr]
    exact this
  | true =>
    have hp : rightP e := by simpa [rightB] using hr
    have hrt := fun W (hb : Below w.heap.size w W) => right_any e W (he.below hb)
    unfold textS
    rw [hr, if_pos rfl]
    rw [hr] at hrt
    have s0 := he.s0
    have s1 := he.s1
    have t0 := he.t0
    have t1 := he.t1
    clear he
    obtain ⟨k, wh, sq, tk, cd, A, n, c, bs, ad⟩ := e
    simp only [Ev.v] at *
    obtain ⟨sq, rfl⟩ : ∃ m : Nat, sq = m := ⟨sq.toNat, by omega⟩
    obtain ⟨tk, rfl⟩ : ∃ m : Nat, tk = m := ⟨tk.toNat, by omega⟩
    obtain ⟨h, rfl⟩ : ∃ m : Nat, wh = m := ⟨wh.toNat, by have := hp.1; simp only at this; omega⟩
    have hh : h < 2 := by have := hp.1; simp only at this; omega
    have hk : k = 1 ∨ k = 2 ∨ k = 3 ∨ k = 4 ∨ k = 5 := by have := hp.2; simp only at this; omega
    rcases hk with rfl | rfl | rfl | rfl | rfl
    · exact text_1 h sq tk cd A n c ad w hT hh (by omega) (by omega) hn had hrt
    · exact text_2 h sq tk cd A n c ad w hT hh (by omega) (by omega) hn had hrt
    · exact text_3 h sq tk cd A n c ad w hT hh (by omega) (by omega) hn had hrt
    · exact text_4 h sq tk cd A n c ad w hT hh (by omega) (by omega) hn had hrt
    · exact text_5 h sq tk cd A n c ad w hT hh (by omega) (by omega) hn had hrt
end Go.Proofs.YtgnegllehcpdpaaDoor
