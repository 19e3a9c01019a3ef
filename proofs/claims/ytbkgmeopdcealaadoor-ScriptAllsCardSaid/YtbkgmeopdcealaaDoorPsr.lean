import Derived.Test.YtbkgmeopdcealaaDoorPsi
namespace Go.Proofs.YtbkgmeopdcealaaDoor
open Go.ChangeShapes Go.WideShapes Go.ChangeAt Go.RowKit Go.Sort Go.Deep
set_option linter.unusedVariables false
set_option linter.unusedSimpArgs false
theorem rules_ix : ∀ k : Nat, k < 10 → ∀ W : World, (Instr.index 57 (.agg rulesL.toArray) (.int .i64 (k : Int))).run Tryd.prog W = .ok (.agg #[.string (rwS k), .string (rfS k)]) W := by
  intro k hk W
  rcases (show k = 0 ∨ k = 1 ∨ k = 2 ∨ k = 3 ∨ k = 4 ∨ k = 5 ∨ k = 6 ∨ k = 7 ∨ k = 8 ∨ k = 9 by omega) with rfl | rfl | rfl | rfl | rfl | rfl | rfl | rfl | rfl | rfl <;> kernel_rfl
theorem fold_len : ∀ (fs : List Nat) (xs : List ByteArray) (p q : PO), foldF fs xs p = some q → xs.length = fs.length
  | [], xs, p, q, h => by rw [(fold_nil h).1]; rfl
  | f :: fs, xs, p, q, h => by
    obtain ⟨x, r, p', rfl, _, h2⟩ := fold_cons h
    simp [fold_len fs r p' q h2]
theorem QI.drew {w W : World} {xs : List ByteArray} {m p1 q1 p2 q2 p3 q3 B it pos : Nat} {rf : ByteArray} {o : Op} (h : QI w xs m p1 q1 p2 q2 p3 q3 B it rf pos o W) : QI w xs m p1 q1 p2 q2 p3 q3 B it rf pos o W.drew :=
  ⟨h.pi.below (below_drewN (Below.refl _ _) 1), h.op, h.ok.below (below_drewN (Below.refl _ _) 1), h.off, h.itr, h.hB, h.hit⟩
def o0 (k : Nat) : Op := ⟨(k : Int), 0, 0, 0, none, 0, 0, [], em⟩
theorem o0_ok (W : World) (k : Nat) (hk : k < 10) : OpOk W (o0 k) :=
  ⟨Bys.none_ W, Nat.le_refl _, by show 0 ≤ maxLen; decide, by show _ ≤ (k : Int); omega, by show (k : Int) ≤ _; omega, by simp only [o0]; omega, by simp only [o0]; omega, by simp only [o0]; omega, by simp only [o0]; omega, by simp only [o0]; omega, by simp only [o0]; omega, by show em.size ≤ maxLen; decide⟩
theorem info29 : (Tryd.prog.info? 29).map (·.size) = some 6 := by kernel_rfl
theorem arr_oneO (o : Op) : o.arr.all (·.oneCell') = true := by simp [Op.arr, Value.oneCell']
set_option maxRecDepth 100000 in
set_option maxHeartbeats 1000000 in
/-- script.Parse, at whatever words. -/
theorem parse_gen (line : ByteArray) (w : World) (xs : List ByteArray) (n : Nat) (hn : xs.length = n) (h0 : 0 < n) (hT : Tab w) (hz : ∀ x ∈ xs, x.size ≤ 300000) (hl : n ≤ 1000000) (hx : xs = cutS line)
    (hsp : Calls Tryd.prog 29 #[.string line, .string ⟨#[32]⟩] (w.alloc (.cells zO.arr 29)) fun e w' => e = .returned (.slice (some ⟨w.heap.size + 1, 0, none⟩) n n) ∧ w' = (w.alloc (.cells zO.arr 29)).alloc (.cells (xs.map Value.string).toArray 9)) :
    Calls Tryd.prog 16 #[.string line] w fun e w' => PaR line w' e ∧ Below w.heap.size w w' := by
  have hrd := readers_any ((w.alloc (.cells zO.arr 29)).alloc (.cells (xs.map Value.string).toArray 9))
  have b2 : Below w.heap.size w ((w.alloc (.cells zO.arr 29)).alloc (.cells (xs.map Value.string).toArray 9)) := ((Below.refl _ w).alloc (Nat.le_refl _) _).alloc (by simp) _
  have k1 := (Blk.new w 29 zO.arr).alloc (.cells (xs.map Value.string).toArray 9)
  have k2 := Blk.new (w.alloc (.cells zO.arr 29)) 9 (xs.map Value.string).toArray
  rw [World.size_alloc] at k2
  have HP := Lib.hid (show ∀ m p1 q1 p2 q2 p3 q3 W, Rdrs W m p1 q1 p2 q2 p3 q3 → Below ((w.alloc (.cells zO.arr 29)).alloc (.cells (xs.map Value.string).toArray 9)).heap.size ((w.alloc (.cells zO.arr 29)).alloc (.cells (xs.map Value.string).toArray 9)) W → PI w xs m p1 q1 p2 q2 p3 q3 W from
    fun m p1 q1 p2 q2 p3 q3 W hr hb => ⟨hT.sz, b2.trans (hb.mono b2.size), (hT.below b2).below hb, k1.below hb k1.lt, k2.below hb k2.lt, hr⟩)
  have hz10 := hT.sz
  have HX := Lib.hid (And.intro hx hz)
  have HN := Lib.hid hn
  obtain ⟨W2, hW2⟩ : ∃ W, (w.alloc (.cells zO.arr 29)).alloc (.cells (xs.map Value.string).toArray 9) = W := ⟨_, rfl⟩
  rw [hW2] at hrd HP hsp
  rw [show zO.arr = #[.int .i64 0, .int .i64 0, .int .i64 0, .int .i64 0, .slice none 0 0, .string ByteArray.empty] from rfl] at hsp
  clear b2 k1 k2 hT hz hx hW2 hn
  go_enter Tryd.func16, Tryd.ntmps16
  go_wp2_with (first
    | (go_at_call 29; refine hsp.mono ?_; rintro _ w2 ⟨rfl, rfl⟩)
    | (go_at_call 30; refine hrd.mono ?_; rintro _ w3 ⟨m, p1, q1, p2, q2, p3, q3, rfl, hR, hb⟩; refine Hid.out ?_))
  refine Lib.hid ?_
  have HP3 := Lib.hid (HP.out m p1 q1 p2 q2 p3 q3 w3 hR hb)
  clear hR hb hrd hsp HP
  obtain ⟨x0, ys, hxs⟩ : ∃ x0 ys, xs = x0 :: ys := by
    have h := HN.out
    cases hc : xs with
    | nil => rw [hc] at h; simp at h; omega
    | cons a r => exact ⟨a, r, rfl⟩
  have HXS := Lib.hid hxs
  clear hxs
  go_wp2_with ((with_reducible (show wpList _ _ _ ({ dst := _, op := Op.load 57 _, type := _, pos := _, after := _, guard := _ } :: _) _ _)); refine wpList_load_mid rfl 57 (.global 0) rfl 0 0 rfl _ _ HP3.out.tab.rul Tryd.underlying57 rfl (by kernel_rfl) ?_; refine Hid.out ?_)
  refine Lib.hid ?_
  have hri := rules_ix
  obtain ⟨RV, hRV⟩ : ∃ v, Value.agg rulesL.toArray = v := ⟨_, rfl⟩
  rw [hRV] at hri ⊢
  have HRI := Lib.hid hri
  clear hRV hri
  have hn63 : n ≤ 9223372036854775807 := by omega
  go_wp2_with fail
  go_loopw [15] (fun i wr => ∃ k : Nat, i = .int .i64 k ∧ k ≤ 10 ∧ PI w xs m p1 q1 p2 q2 p3 q3 wr ∧ ∀ j, 1 ≤ j → j < k → ¬ (rwS j = x0 ∧ (rfS j).size + 1 = n)) (fun i _ => 10 - (intOf i).toNat)
  case atStart => exact ⟨0, rfl, by omega, HP3.out, fun j h1 h2 => absurd h2 (by omega)⟩
  case round =>
    clear HP3
    obtain ⟨k, rfl, hk10, hpi, hno⟩ := hrel
    have HNO := Lib.hid hno
    by_cases hk : k < 10
    · have hix := HRI.out k hk
      have HP4 := Lib.hid (hpi.alloc (.cells #[.string (rwS k), .string (rfS k)] 56))
      have hcw : (wr.alloc (.cells #[.string (rwS k), .string (rfS k)] 56)).cell? ⟨w.heap.size + 1, 0, none⟩ = some (.string x0) := (HP4.out.wd.cell 0).trans (by rw [HXS.out]; rfl)
      have hrf : (rfS k).size ≤ 3 := by
        have : ∀ j : Fin 10, (rfS j.1).size ≤ 3 := by decide
        exact this ⟨k, hk⟩
      have hk1 : (k : Int) < 10 := by omega
      have hszw := hpi.bel.size
      have HKK := Lib.hid (And.intro hk hk10)
      obtain ⟨rw_, hrw⟩ : ∃ s, rwS k = s := ⟨_, rfl⟩
      obtain ⟨rf, hrf2⟩ : ∃ s, rfS k = s := ⟨_, rfl⟩
      rw [hrw, hrf2] at hix hcw HP4
      rw [hrf2] at hrf
      have HRW := Lib.hid (And.intro hrw hrf2)
      clear hno hpi hrw hrf2 hk10 hk
      by_cases hk0 : k = 0
      · have hb0 : ((k : Int) == 0) = true := by simp [hk0]
        have HK0 := Lib.hid hk0
        clear hk0
        go_wp2_with fail
        go_quiet (fail)
        go_wp2_with fail
        go_roundw
        case rel => exact ⟨k + 1, by go_num, HKK.out.1, HP4.out.below (below_drewN (Below.refl _ _) _), fun j h1 h2 => by have := HK0.out; omega⟩
        case measure => have := HKK.out.1; simp [intOf]; omega
      have hb0 : ((k : Int) == 0) = false := by simp [hk0]
      have HK0 := Lib.hid hk0
      clear hk0
      by_cases hw0 : rw_ = x0
      · have hw1 : (rw_.toList == x0.toList) = true := by rw [hw0]; simp
        have HW0 := Lib.hid hw0
        clear hw0
        by_cases hl0 : rf.size + 1 = n
        · have hl1 : ((rf.size : Int) == (n : Int) - 1) = true := by
            have : (rf.size : Int) = (n : Int) - 1 := by omega
            rw [this]; simp
          have hl2 : ((rf.size : Int) != (n : Int) - 1) = false := by simp only [bne, hl1]; rfl
          have HL0 := Lib.hid hl0
          clear hl0
          go_wp2_with fail
          go_quiet (fail)
          go_wp2_with fail
          have HF0 := Lib.hid (show ∀ W, PI w xs m p1 q1 p2 q2 p3 q3 W → W.heap.size = wr.heap.size + 1 → QI w xs m p1 q1 p2 q2 p3 q3 (wr.heap.size + 1) (wr.heap.size + 1 + 1) rf 0 (o0 k) ((W.alloc (.cells (o0 k).arr 29)).iter rf 0) from fun W hW hsz => by
            have h1 := hW.alloc (.cells (o0 k).arr 29)
            have h2 : PI w xs m p1 q1 p2 q2 p3 q3 ((W.alloc (.cells (o0 k).arr 29)).iter rf 0) := h1.alloc (.stringIter rf 0)
            have h3 := (Blk.new W 29 (o0 k).arr).alloc (.stringIter rf 0)
            rw [hsz] at h3
            refine ⟨h2, h3, o0_ok _ k HKK.out.1, (fun ad e => nomatch e), ?_, by have := hW.res.lt; have := hW.wd.lt; omega, by omega⟩
            have := World.iter_heap (W.alloc (.cells (o0 k).arr 29)) rf 0
            rw [World.size_alloc, hsz] at this
            exact this)
          have hs0 := HF0.out _ (HP4.out.below (below_drewN (Below.refl _ _) nq)) (by simp)
          have hk19 : 1 ≤ k ∧ k ≤ 9 := by have := HK0.out; have := HKK.out.1; omega
          have HR6 := Lib.hid (rfS_bys k hk19.1 hk19.2)
          have HYS := Lib.hid (show ys.length = rf.size by have h1 := HN.out; rw [HXS.out] at h1; have h2 := HL0.out; simp at h1; omega)
          have hs1 : QI w xs m p1 q1 p2 q2 p3 q3 (wr.heap.size + 1) (wr.heap.size + 1 + 1) rf 0 (o0 k) (((((wr.alloc (Obj.cells #[Value.string rw_, Value.string rf] 56)).drewN nq).alloc (Obj.cells #[Value.int IntKind.i64 (k : Int), Value.int IntKind.i64 0, Value.int IntKind.i64 0, Value.int IntKind.i64 0, Value.slice none 0 0, Value.string ⟨#[]⟩] 29)).iter rf 0)) := hs0
          have HS1 := Lib.hid hs1
          have HK19 := Lib.hid hk19
          have HNB := Lib.hid (show (∀ p, foldF (ruleF k) ys (p0 k) = some p → RP p ∧ lineP p = line) ∧ (foldF (ruleF k) ys (p0 k) = none → ∀ p, RP p → lineP p ≠ line) from by
            have hx0 : x0 = ruleW k := by rw [← HW0.out, ← HRW.out.1]; rfl
            have hcl : cutS line = ruleW k :: ys := by rw [← HX.out.1, HXS.out, hx0]
            refine ⟨fun p hp => ?_, fun hno => no_line fun j j1 j9 zs hj => ?_⟩
            · obtain ⟨h1, h2⟩ := words_rp hk19.1 hk19.2 hp
              exact ⟨h1, words_line (by rw [h2, hcl]) (join_cut line)⟩
            · rw [hcl] at hj
              injection hj with e1 e2
              obtain rfl := ruleW_inj hk19.1 hk19.2 j1 j9 e1
              rw [← e2]; exact hno)
          have HYZ := Lib.hid (show ∀ (i : Nat) x, ys[i]? = some x → x.size ≤ 300000 ∧ (xs.map Value.string).toArray[i + 1]? = some (.string x) from fun i x hx => ⟨HX.out.2 x (by rw [HXS.out]; exact List.mem_cons_of_mem _ (List.mem_of_getElem? hx)), by rw [HXS.out]; simp [hx]⟩)
          obtain ⟨g0, hg0⟩ : ∃ g, wr.heap.size = g := ⟨_, rfl⟩
          rw [hg0] at HS1
          clear hs0 hs1 HF0 HP4 hk19 HNO HL0 HW0 hcw hix hw1 hl1 hl2 hb0 hszw HK0
          simp only [hg0]
          go_loopw [9] (fun v wz => ∃ (pos : Nat) (o : Op), QI w xs m p1 q1 p2 q2 p3 q3 (g0 + 1) (g0 + 1 + 1) rf pos o wz ∧ pos ≤ rf.size ∧ foldF (ruleF k) ys (p0 k) = foldF ((ruleF k).drop pos) (ys.drop pos) o.p) (fun v wz => rf.size - wz.iterPos (g0 + 1 + 1))
          case atStart => exact ⟨0, o0 k, HS1.out, Nat.zero_le _, rfl⟩
          case round =>
            clear HS1
            obtain ⟨pos, o, hqi, hpos, hfold⟩ := hrel
            have hip : wr.iterPos (g0 + 1 + 1) = pos := by simp [World.iterPos, hqi.itr]
            by_cases hlt : pos < rf.size
            · obtain ⟨f, hf⟩ : ∃ f, (ruleF k)[pos]? = some f := by
                rw [← HR6.out.1, HRW.out.2]
                exact ⟨_, List.getElem?_eq_getElem (by rw [bys_len]; exact hlt)⟩
              have hfb : (bys rf)[pos]? = some f := by rw [← HRW.out.2, HR6.out.1]; exact hf
              have hf6 := HR6.out.2 f (List.mem_of_getElem? hf)
              have hrn := rune_at rf pos f hlt hfb
              have hnx : ∀ ty, (Instr.next (.pointer (some ⟨g0 + 1 + 1, 0, none⟩)) true ty).run Tryd.prog wr = .ok (.tuple #[.bool true, .int .i64 pos, .int .i32 (f : Nat)]) (wr.iterAt (g0 + 1 + 1) rf (pos + 1)) := fun ty => by
                rw [Lib.run_next_ascii_at wr _ rf pos ty hqi.itr hlt (by rw [hrn]; omega), hrn]
              have h2 := hqi.step
              obtain ⟨W, hW⟩ : ∃ W, wr.iterAt (g0 + 1 + 1) rf (pos + 1) = W := ⟨_, rfl⟩
              rw [hW] at hnx h2
              obtain ⟨x, hx⟩ : ∃ x, ys[pos]? = some x := ⟨_, List.getElem?_eq_getElem (by rw [HYS.out]; exact hlt)⟩
              have hxz := (HYZ.out pos x hx).1
              have hcx : W.cell? ⟨w.heap.size + 1, pos + 1, none⟩ = some (.string x) := (h2.pi.wd.cell (pos + 1)).trans (HYZ.out pos x hx).2
              have hpn : (pos : Int) + 1 < (n : Int) := by
                have h1 := HN.out
                rw [HXS.out] at h1
                have h3 := HYS.out
                simp at h1; omega
              have hp0 : (0 : Int) ≤ (pos : Int) + 1 := by omega
              have hpw : IntKind.i64.wrap ((pos : Int) + 1) = (pos : Int) + 1 := IntWalk.i64_in _ (by omega)
              have hstep : ∀ o' : Op, readF f x o.p = some o'.p → foldF (ruleF k) ys (p0 k) = foldF ((ruleF k).drop (pos + 1)) (ys.drop (pos + 1)) o'.p := fun o' ho => by
                obtain ⟨a1, a2⟩ := List.getElem?_eq_some_iff.1 hf
                obtain ⟨b1, b2⟩ := List.getElem?_eq_some_iff.1 hx
                rw [hfold, List.drop_eq_getElem_cons a1, List.drop_eq_getElem_cons b1, a2, b2]
                exact fold_step ho
              have hstop : readF f x o.p = none → ∀ p, RP p → lineP p ≠ line := fun hno => HNB.out.2 (by
                obtain ⟨a1, a2⟩ := List.getElem?_eq_some_iff.1 hf
                obtain ⟨b1, b2⟩ := List.getElem?_eq_some_iff.1 hx
                rw [hfold, List.drop_eq_getElem_cons a1, List.drop_eq_getElem_cons b1, a2, b2]
                simp only [foldF, hno])
              have HST := Lib.hid (And.intro hstep hstop)
              have HQ := Lib.hid h2.drew
              have HXZ := Lib.hid hxz
              have HIP := Lib.hid hip
              have hBlt := h2.op.lt
              clear hfold hstep hstop h2 hqi hip hf hfb hrn hW hx hxz
              rcases hf6 with rfl | rfl | rfl | rfl | rfl | rfl
              · have hlk := HQ.out.get_w
                have hc := (read_who x _ o W.drew HQ.out.pi.tab HQ.out.op HQ.out.ok HQ.out.off)
                have hkk : (((119 : Nat) : Int)) = 119 := rfl
                rw [hkk] at hnx
                clear hkk
                go_wp2_with fail
                refine region_tail 8 (by kernel_rfl) (by kernel_rfl) ?_
                simp only [List.take_succ_cons, List.take_zero, List.drop_succ_cons, List.drop_zero]
                iterate 8 still_step
                refine wpStill_nil ?_
                go_wp2_with (go_at_call 44; refine hc.mono ?_; rintro _ w7 ⟨b, rfl, hg⟩; refine Hid.out ?_)
                refine Lib.hid ?_
                have HG := Lib.hid hg
                have HP7 := Lib.hid (HQ.out.pi.only HQ.out.op HQ.out.hB hg.gr)
                clear hg hc hlk hcx
                cases b
                · have HNL := Lib.hid (HST.out.2 (HG.out.no rfl))
                  clear HG HST HQ
                  go_wp2_with ((with_reducible (show wpList _ _ _ ({ dst := _, op := Op.store 29 _ _, type := _, pos := _, after := _, guard := _ } :: _) _ _)); refine wpList_store_mid rfl 29 (.tmp 2) (.tmp 57) rfl w.heap.size 0 zO.arr rfl rfl (Blk.there HP7.out.res rfl) info29 (arr_oneO _) ?_; refine Hid.out ?_)
                  refine Lib.hid ?_
                  obtain ⟨wq, hwq⟩ : ∃ W, w7.setCells w.heap.size 0 (zO.arr).toList = W := ⟨_, rfl⟩
                  have HZ := Lib.hid (And.intro (Blk.setAll HP7.out.res (cs' := zO.arr) (by rfl)) (below_setCells (zO.arr).toList 0 w7 HP7.out.bel (Nat.le_refl _)))
                  rw [hwq] at HZ ⊢
                  clear hwq HP7
                  repeat go_step
                  (try simp only [Exit.then])
                  refine ret_ct (by rfl) (by rfl) (by rfl) (Blk.rangeAt HZ.out.1) Tryd.underlying29 (by rfl) (by kernel_rfl) ?_
                  exact ⟨PaR.no HNL.out, HZ.out.2⟩
                · obtain ⟨o', ho', hq'⟩ := HQ.out.got HG.out
                  have HQ' := Lib.hid (And.intro ho' hq')
                  clear HG HQ ho' hq'
                  go_wp2_with fail
                  go_roundw
                  case rel => exact ⟨pos + 1, o', HQ'.out.2, by omega, HST.out.1 o' HQ'.out.1⟩
                  case measure =>
                    have e1 := HIP.out
                    have e2 : w7.iterPos (g0 + 1 + 1) = pos + 1 := by simp [World.iterPos, HQ'.out.2.itr]
                    omega
              · have hlk := HQ.out.get_n
                have hc := (HQ.out.call_n x (by have := HXZ.out; omega))
                have hkk : (((110 : Nat) : Int)) = 110 := rfl
                rw [hkk] at hnx
                clear hkk
                go_wp2_with fail
                refine region_tail 8 (by kernel_rfl) (by kernel_rfl) ?_
                simp only [List.take_succ_cons, List.take_zero, List.drop_succ_cons, List.drop_zero]
                iterate 8 still_step
                refine wpStill_nil ?_
                go_wp2_with (go_at_call 40; refine hc.mono ?_; rintro _ w7 ⟨b, rfl, hg⟩; refine Hid.out ?_)
                refine Lib.hid ?_
                have HG := Lib.hid hg
                have HP7 := Lib.hid (HQ.out.pi.only HQ.out.op HQ.out.hB hg.gr)
                clear hg hc hlk hcx
                cases b
                · have HNL := Lib.hid (HST.out.2 (HG.out.no rfl))
                  clear HG HST HQ
                  go_wp2_with ((with_reducible (show wpList _ _ _ ({ dst := _, op := Op.store 29 _ _, type := _, pos := _, after := _, guard := _ } :: _) _ _)); refine wpList_store_mid rfl 29 (.tmp 2) (.tmp 57) rfl w.heap.size 0 zO.arr rfl rfl (Blk.there HP7.out.res rfl) info29 (arr_oneO _) ?_; refine Hid.out ?_)
                  refine Lib.hid ?_
                  obtain ⟨wq, hwq⟩ : ∃ W, w7.setCells w.heap.size 0 (zO.arr).toList = W := ⟨_, rfl⟩
                  have HZ := Lib.hid (And.intro (Blk.setAll HP7.out.res (cs' := zO.arr) (by rfl)) (below_setCells (zO.arr).toList 0 w7 HP7.out.bel (Nat.le_refl _)))
                  rw [hwq] at HZ ⊢
                  clear hwq HP7
                  repeat go_step
                  (try simp only [Exit.then])
                  refine ret_ct (by rfl) (by rfl) (by rfl) (Blk.rangeAt HZ.out.1) Tryd.underlying29 (by rfl) (by kernel_rfl) ?_
                  exact ⟨PaR.no HNL.out, HZ.out.2⟩
                · obtain ⟨o', ho', hq'⟩ := HQ.out.got HG.out
                  have HQ' := Lib.hid (And.intro ho' hq')
                  clear HG HQ ho' hq'
                  go_wp2_with fail
                  go_roundw
                  case rel => exact ⟨pos + 1, o', HQ'.out.2, by omega, HST.out.1 o' HQ'.out.1⟩
                  case measure =>
                    have e1 := HIP.out
                    have e2 : w7.iterPos (g0 + 1 + 1) = pos + 1 := by simp [World.iterPos, HQ'.out.2.itr]
                    omega
              · have hlk := HQ.out.get_t
                have hc := (HQ.out.call_t x (by have := HXZ.out; omega))
                have hkk : (((116 : Nat) : Int)) = 116 := rfl
                rw [hkk] at hnx
                clear hkk
                go_wp2_with fail
                refine region_tail 8 (by kernel_rfl) (by kernel_rfl) ?_
                simp only [List.take_succ_cons, List.take_zero, List.drop_succ_cons, List.drop_zero]
                iterate 8 still_step
                refine wpStill_nil ?_
                go_wp2_with (go_at_call 40; refine hc.mono ?_; rintro _ w7 ⟨b, rfl, hg⟩; refine Hid.out ?_)
                refine Lib.hid ?_
                have HG := Lib.hid hg
                have HP7 := Lib.hid (HQ.out.pi.only HQ.out.op HQ.out.hB hg.gr)
                clear hg hc hlk hcx
                cases b
                · have HNL := Lib.hid (HST.out.2 (HG.out.no rfl))
                  clear HG HST HQ
                  go_wp2_with ((with_reducible (show wpList _ _ _ ({ dst := _, op := Op.store 29 _ _, type := _, pos := _, after := _, guard := _ } :: _) _ _)); refine wpList_store_mid rfl 29 (.tmp 2) (.tmp 57) rfl w.heap.size 0 zO.arr rfl rfl (Blk.there HP7.out.res rfl) info29 (arr_oneO _) ?_; refine Hid.out ?_)
                  refine Lib.hid ?_
                  obtain ⟨wq, hwq⟩ : ∃ W, w7.setCells w.heap.size 0 (zO.arr).toList = W := ⟨_, rfl⟩
                  have HZ := Lib.hid (And.intro (Blk.setAll HP7.out.res (cs' := zO.arr) (by rfl)) (below_setCells (zO.arr).toList 0 w7 HP7.out.bel (Nat.le_refl _)))
                  rw [hwq] at HZ ⊢
                  clear hwq HP7
                  repeat go_step
                  (try simp only [Exit.then])
                  refine ret_ct (by rfl) (by rfl) (by rfl) (Blk.rangeAt HZ.out.1) Tryd.underlying29 (by rfl) (by kernel_rfl) ?_
                  exact ⟨PaR.no HNL.out, HZ.out.2⟩
                · obtain ⟨o', ho', hq'⟩ := HQ.out.got HG.out
                  have HQ' := Lib.hid (And.intro ho' hq')
                  clear HG HQ ho' hq'
                  go_wp2_with fail
                  go_roundw
                  case rel => exact ⟨pos + 1, o', HQ'.out.2, by omega, HST.out.1 o' HQ'.out.1⟩
                  case measure =>
                    have e1 := HIP.out
                    have e2 : w7.iterPos (g0 + 1 + 1) = pos + 1 := by simp [World.iterPos, HQ'.out.2.itr]
                    omega
              · have hlk := HQ.out.get_m
                have hc := (HQ.out.call_m x (by have := HXZ.out; omega))
                have hkk : (((109 : Nat) : Int)) = 109 := rfl
                rw [hkk] at hnx
                clear hkk
                go_wp2_with fail
                refine region_tail 8 (by kernel_rfl) (by kernel_rfl) ?_
                simp only [List.take_succ_cons, List.take_zero, List.drop_succ_cons, List.drop_zero]
                iterate 8 still_step
                refine wpStill_nil ?_
                go_wp2_with (go_at_call 40; refine hc.mono ?_; rintro _ w7 ⟨b, rfl, hg⟩; refine Hid.out ?_)
                refine Lib.hid ?_
                have HG := Lib.hid hg
                have HP7 := Lib.hid (HQ.out.pi.only HQ.out.op HQ.out.hB hg.gr)
                clear hg hc hlk hcx
                cases b
                · have HNL := Lib.hid (HST.out.2 (HG.out.no rfl))
                  clear HG HST HQ
                  go_wp2_with ((with_reducible (show wpList _ _ _ ({ dst := _, op := Op.store 29 _ _, type := _, pos := _, after := _, guard := _ } :: _) _ _)); refine wpList_store_mid rfl 29 (.tmp 2) (.tmp 57) rfl w.heap.size 0 zO.arr rfl rfl (Blk.there HP7.out.res rfl) info29 (arr_oneO _) ?_; refine Hid.out ?_)
                  refine Lib.hid ?_
                  obtain ⟨wq, hwq⟩ : ∃ W, w7.setCells w.heap.size 0 (zO.arr).toList = W := ⟨_, rfl⟩
                  have HZ := Lib.hid (And.intro (Blk.setAll HP7.out.res (cs' := zO.arr) (by rfl)) (below_setCells (zO.arr).toList 0 w7 HP7.out.bel (Nat.le_refl _)))
                  rw [hwq] at HZ ⊢
                  clear hwq HP7
                  repeat go_step
                  (try simp only [Exit.then])
                  refine ret_ct (by rfl) (by rfl) (by rfl) (Blk.rangeAt HZ.out.1) Tryd.underlying29 (by rfl) (by kernel_rfl) ?_
                  exact ⟨PaR.no HNL.out, HZ.out.2⟩
                · obtain ⟨o', ho', hq'⟩ := HQ.out.got HG.out
                  have HQ' := Lib.hid (And.intro ho' hq')
                  clear HG HQ ho' hq'
                  go_wp2_with fail
                  go_roundw
                  case rel => exact ⟨pos + 1, o', HQ'.out.2, by omega, HST.out.1 o' HQ'.out.1⟩
                  case measure =>
                    have e1 := HIP.out
                    have e2 : w7.iterPos (g0 + 1 + 1) = pos + 1 := by simp [World.iterPos, HQ'.out.2.itr]
                    omega
              · have hlk := HQ.out.get_b
                have hc := (read_body x _ o W.drew (by have := HXZ.out; omega) HQ.out.op HQ.out.ok HQ.out.off)
                have hkk : (((98 : Nat) : Int)) = 98 := rfl
                rw [hkk] at hnx
                clear hkk
                go_wp2_with fail
                refine region_tail 8 (by kernel_rfl) (by kernel_rfl) ?_
                simp only [List.take_succ_cons, List.take_zero, List.drop_succ_cons, List.drop_zero]
                iterate 8 still_step
                refine wpStill_nil ?_
                go_wp2_with (go_at_call 47; refine hc.mono ?_; rintro _ w7 ⟨b, rfl, hg⟩; refine Hid.out ?_)
                refine Lib.hid ?_
                have HG := Lib.hid hg
                have HP7 := Lib.hid (HQ.out.pi.only HQ.out.op HQ.out.hB hg.gr)
                clear hg hc hlk hcx
                cases b
                · have HNL := Lib.hid (HST.out.2 (HG.out.no rfl))
                  clear HG HST HQ
                  go_wp2_with ((with_reducible (show wpList _ _ _ ({ dst := _, op := Op.store 29 _ _, type := _, pos := _, after := _, guard := _ } :: _) _ _)); refine wpList_store_mid rfl 29 (.tmp 2) (.tmp 57) rfl w.heap.size 0 zO.arr rfl rfl (Blk.there HP7.out.res rfl) info29 (arr_oneO _) ?_; refine Hid.out ?_)
                  refine Lib.hid ?_
                  obtain ⟨wq, hwq⟩ : ∃ W, w7.setCells w.heap.size 0 (zO.arr).toList = W := ⟨_, rfl⟩
                  have HZ := Lib.hid (And.intro (Blk.setAll HP7.out.res (cs' := zO.arr) (by rfl)) (below_setCells (zO.arr).toList 0 w7 HP7.out.bel (Nat.le_refl _)))
                  rw [hwq] at HZ ⊢
                  clear hwq HP7
                  repeat go_step
                  (try simp only [Exit.then])
                  refine ret_ct (by rfl) (by rfl) (by rfl) (Blk.rangeAt HZ.out.1) Tryd.underlying29 (by rfl) (by kernel_rfl) ?_
                  exact ⟨PaR.no HNL.out, HZ.out.2⟩
                · obtain ⟨o', ho', hq'⟩ := HQ.out.got HG.out
                  have HQ' := Lib.hid (And.intro ho' hq')
                  clear HG HQ ho' hq'
                  go_wp2_with fail
                  go_roundw
                  case rel => exact ⟨pos + 1, o', HQ'.out.2, by omega, HST.out.1 o' HQ'.out.1⟩
                  case measure =>
                    have e1 := HIP.out
                    have e2 : w7.iterPos (g0 + 1 + 1) = pos + 1 := by simp [World.iterPos, HQ'.out.2.itr]
                    omega
              · have hlk := HQ.out.get_a
                have hc := (read_addr x _ o W.drew (by have := HXZ.out; unfold maxLen; omega) HQ.out.op HQ.out.ok HQ.out.off)
                have hkk : (((97 : Nat) : Int)) = 97 := rfl
                rw [hkk] at hnx
                clear hkk
                go_wp2_with fail
                refine region_tail 8 (by kernel_rfl) (by kernel_rfl) ?_
                simp only [List.take_succ_cons, List.take_zero, List.drop_succ_cons, List.drop_zero]
                iterate 8 still_step
                refine wpStill_nil ?_
                go_wp2_with (go_at_call 45; refine hc.mono ?_; rintro _ w7 ⟨b, rfl, hg⟩; refine Hid.out ?_)
                refine Lib.hid ?_
                have HG := Lib.hid hg
                have HP7 := Lib.hid (HQ.out.pi.only HQ.out.op HQ.out.hB hg.gr)
                clear hg hc hlk hcx
                cases b
                · have HNL := Lib.hid (HST.out.2 (HG.out.no rfl))
                  clear HG HST HQ
                  go_wp2_with ((with_reducible (show wpList _ _ _ ({ dst := _, op := Op.store 29 _ _, type := _, pos := _, after := _, guard := _ } :: _) _ _)); refine wpList_store_mid rfl 29 (.tmp 2) (.tmp 57) rfl w.heap.size 0 zO.arr rfl rfl (Blk.there HP7.out.res rfl) info29 (arr_oneO _) ?_; refine Hid.out ?_)
                  refine Lib.hid ?_
                  obtain ⟨wq, hwq⟩ : ∃ W, w7.setCells w.heap.size 0 (zO.arr).toList = W := ⟨_, rfl⟩
                  have HZ := Lib.hid (And.intro (Blk.setAll HP7.out.res (cs' := zO.arr) (by rfl)) (below_setCells (zO.arr).toList 0 w7 HP7.out.bel (Nat.le_refl _)))
                  rw [hwq] at HZ ⊢
                  clear hwq HP7
                  repeat go_step
                  (try simp only [Exit.then])
                  refine ret_ct (by rfl) (by rfl) (by rfl) (Blk.rangeAt HZ.out.1) Tryd.underlying29 (by rfl) (by kernel_rfl) ?_
                  exact ⟨PaR.no HNL.out, HZ.out.2⟩
                · obtain ⟨o', ho', hq'⟩ := HQ.out.got HG.out
                  have HQ' := Lib.hid (And.intro ho' hq')
                  clear HG HQ ho' hq'
                  go_wp2_with fail
                  go_roundw
                  case rel => exact ⟨pos + 1, o', HQ'.out.2, by omega, HST.out.1 o' HQ'.out.1⟩
                  case measure =>
                    have e1 := HIP.out
                    have e2 : w7.iterPos (g0 + 1 + 1) = pos + 1 := by simp [World.iterPos, HQ'.out.2.itr]
                    omega
            · obtain rfl : pos = rf.size := by omega
              have hnx : ∀ ty, (Instr.next (.pointer (some ⟨g0 + 1 + 1, 0, none⟩)) true ty).run Tryd.prog wr = .ok (.tuple #[.bool false]) wr := fun ty => Lib.run_next_end_at wr _ rf rf.size ty hqi.itr hlt
              have HPO := Lib.hid (HNB.out.1 o.p (by
                rw [hfold, List.drop_of_length_le (by rw [← HR6.out.1, HRW.out.2, bys_len]; exact Nat.le_refl _), List.drop_of_length_le (by rw [HYS.out]; exact Nat.le_refl _)]
                rfl))
              have HQ := Lib.hid hqi
              clear hqi hfold hip
              go_wp2_with (first
                | ((with_reducible (show wpList _ _ _ ({ dst := _, op := Op.load 29 _, type := _, pos := _, after := _, guard := _ } :: _) _ _)); refine wpList_load_mid rfl 29 (.tmp 8) rfl (g0 + 1) 0 rfl _ _ (Blk.rangeAt HQ.out.op) Tryd.underlying29 rfl (by kernel_rfl) ?_)
                | ((with_reducible (show wpList _ _ _ ({ dst := _, op := Op.store 29 _ _, type := _, pos := _, after := _, guard := _ } :: _) _ _)); refine wpList_store_mid rfl 29 (.tmp 2) (.tmp 58) rfl w.heap.size 0 o.arr rfl rfl (Blk.there HQ.out.pi.res rfl) info29 (arr_oneO _) ?_; refine Hid.out ?_))
              refine Lib.hid ?_
              have HOK := Lib.hid (HQ.out.ok.setRes HQ.out.pi.res o.arr.toList)
              obtain ⟨wq, hwq⟩ : ∃ W, wr.setCells w.heap.size 0 (o.arr).toList = W := ⟨_, rfl⟩
              have HZ := Lib.hid (And.intro (Blk.setAll HQ.out.pi.res (cs' := o.arr) (by rfl)) (below_setCells (o.arr).toList 0 wr HQ.out.pi.bel (Nat.le_refl _)))
              rw [hwq] at HZ HOK ⊢
              clear hwq HQ
              repeat go_step
              (try simp only [Exit.then])
              refine ret_ct (by rfl) (by rfl) (by rfl) (Blk.rangeAt HZ.out.1) Tryd.underlying29 (by rfl) (by kernel_rfl) ?_
              exact ⟨PaR.yes o HPO.out.1 HPO.out.2 HOK.out, HZ.out.2⟩
        · have hl1 : ((rf.size : Int) == (n : Int) - 1) = false := by simp; omega
          have hl2 : ((rf.size : Int) != (n : Int) - 1) = true := by simp; omega
          have HL0 := Lib.hid hl0
          clear hl0
          go_wp2_with fail
          go_quiet (fail)
          go_wp2_with fail
          go_roundw
          case rel => exact ⟨k + 1, by go_num, HKK.out.1, HP4.out.below (below_drewN (Below.refl _ _) _), fun j h1 h2 => by
            by_cases hj : j = k
            · subst hj; rintro ⟨_, h4⟩; rw [HRW.out.2] at h4; exact HL0.out h4
            · exact HNO.out j h1 (by omega)⟩
          case measure => have := HKK.out.1; simp [intOf]; omega
      · have hw1 : (rw_.toList == x0.toList) = false := toList_ne hw0
        have HW0 := Lib.hid hw0
        clear hw0
        go_wp2_with fail
        go_quiet (fail)
        go_wp2_with fail
        go_roundw
        case rel => exact ⟨k + 1, by go_num, HKK.out.1, HP4.out.below (below_drewN (Below.refl _ _) _), fun j h1 h2 => by
          by_cases hj : j = k
          · subst hj; rintro ⟨h3, _⟩; rw [HRW.out.1] at h3; exact HW0.out h3
          · exact HNO.out j h1 (by omega)⟩
        case measure => have := HKK.out.1; simp [intOf]; omega
    · obtain rfl : k = 10 := by omega
      have HNL := Lib.hid (show ∀ p, RP p → lineP p ≠ line from no_line fun j j1 j9 zs hj => by
        rw [← HX.out.1, HXS.out] at hj
        injection hj with e1 e2
        cases hf : foldF (ruleF j) zs (p0 j) with
        | none => rfl
        | some p =>
          exfalso
          have h1 := fold_len _ _ _ _ hf
          have h2 : (rfS j).size = (ruleF j).length := by rw [← bys_len, (rfS_bys j j1 j9).1]
          have h3 := HN.out
          rw [HXS.out, e2] at h3
          simp only [List.length_cons] at h3
          exact HNO.out j j1 (by omega) ⟨e1.symm, by omega⟩)
      have HP := Lib.hid hpi
      clear hpi hno
      have hk1 : ¬ ((10 : Nat) : Int) < 10 := by omega
      go_wp2_with ((with_reducible (show wpList _ _ _ ({ dst := _, op := Op.store 29 _ _, type := _, pos := _, after := _, guard := _ } :: _) _ _)); refine wpList_store_mid rfl 29 (.tmp 2) (.tmp 60) rfl w.heap.size 0 zO.arr rfl rfl (Blk.there HP.out.res rfl) info29 (arr_oneO _) ?_; refine Hid.out ?_)
      refine Lib.hid ?_
      obtain ⟨wq, hwq⟩ : ∃ W, wr.setCells w.heap.size 0 (zO.arr).toList = W := ⟨_, rfl⟩
      have HZ := Lib.hid (And.intro (Blk.setAll HP.out.res (cs' := zO.arr) (by rfl)) (below_setCells (zO.arr).toList 0 wr HP.out.bel (Nat.le_refl _)))
      rw [hwq] at HZ ⊢
      clear hwq HP
      repeat go_step
      (try simp only [Exit.then])
      refine ret_ct (by rfl) (by rfl) (by rfl) (Blk.rangeAt HZ.out.1) Tryd.underlying29 (by rfl) (by kernel_rfl) ?_
      exact ⟨PaR.no HNL.out, HZ.out.2⟩
/-- script.Parse. -/
theorem parse_any (line : ByteArray) (w : World) (hT : Tab w) (hs : line.size ≤ 300000) : Calls Tryd.prog 16 #[.string line] w fun e w' => PaR line w' e ∧ Below w.heap.size w w' := by
  refine parse_gen line w (cutS line) (Lib.countB line ⟨#[32]⟩ + 1) (cut_count line) (by omega) hT (fun x hx => Nat.le_trans (cut_size line x hx) hs) (by have := cut_len line; rw [cut_count] at this; omega) rfl ?_
  have hT1 := hT.below ((Below.refl _ w).alloc (Nat.le_refl _) (.cells zO.arr 29))
  obtain ⟨m, hm⟩ := hT1.mx
  refine (Tryd.strings_Split line ⟨#[32]⟩ m _ (by omega) hm (by decide)).mono fun e w' ⟨he, hw⟩ => ⟨?_, ?_⟩
  · rw [he]; simp
  · rw [hw, split_cut]
end Go.Proofs.YtbkgmeopdcealaaDoor
