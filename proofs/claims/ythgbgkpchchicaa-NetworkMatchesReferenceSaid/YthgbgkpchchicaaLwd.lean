import Derived.Test.YthgbgkpchchicaaLwc
namespace Go.Proofs.Ythgbgkpchchicaa
open Go.ChangeShapes Go.WideShapes Go.ChangeAt Go.RowKit Go.Maps Go.Sort Go.Deep
set_option linter.unusedVariables false
set_option linter.unusedSimpArgs false
theorem wpQuiet_runV {P : Program} {ops : Array Oper} {C : World → Prop} {Q : Act → Prop} {a : Act} {o : Oper} {rest : List Oper} (hw : Region.wanted o (yielded ops a.tmps) = true) (v : Value)
    (hr : ∀ w, C w → (execOp a.eval o).run P w = .ok (.value v) w) (h : wpQuiet P ops C Q rest (a.put o.dst v)) : wpQuiet P ops C Q (o :: rest) a := by
  simp only [wpQuiet, hw, if_true]
  refine ⟨v, fun w hC => ?_, h⟩
  unfold Oper.quietAt
  rw [hr w hC]
  exact ⟨rfl, rfl⟩
theorem wpQuiet_load_row {P : Program} {ops : Array Oper} {C : World → Prop} {Q : Act → Prop} {a : Act} {op : Oper} {rest : List Oper} (hw : Region.wanted op (yielded ops a.tmps) = true) (ty : TypeId) (x : Operand) (ho : op.op = .load ty x)
    (b o : Nat) (hx : a.eval x = .pointer (some ⟨b, o, none⟩)) (cs : List Value) (d : TypeDesc) (hc : ∀ w, C w → w.rangeAt b o cs)
    (hu : P.underlying ty = some d) (hd : d.isRow = true) (hi : (P.info? ty).map (·.size) = some cs.length)
    (h : wpQuiet P ops C Q rest (a.put op.dst (.agg cs.toArray))) : wpQuiet P ops C Q (op :: rest) a :=
  wpQuiet_runV hw _ (fun w hC => by
    unfold execOp
    simp only [ho, hx, Instr.loadAt, Instr.sureAddr, Sem.run_bind, Sem.run_pure, Result.andThen_ok, run_loadVar_mid w b o ty cs d (hc w hC) hu hd hi]) h
theorem wpList_next_ranges_si {H : Type} {P : Program} (w : World) {ops : Array Oper} {rest : List Oper} {o : Oper} {a : Act} {Q : Exit → Act → World → Prop}
    (hg : o.guard = none) (it : Operand) (hop : o.op = Op.next it false) (k e : TypeId) (qe : IntKind) (K : Keyed P k) (hk : P.underlying k = some .string) (he : P.underlying e = some (.int qe))
    (b r n : Nat) (D : DataW H) (left : Lit → Bool) (cnt : Nat) (hit : a.eval it = .pointer (some ⟨r, 0, none⟩)) (h : w.ranges P k (plainElem P e) b r n D left cnt)
    (hDone : cnt = 0 → (∀ kl, left kl = false) → wpList P ops Q rest (a.put o.dst (.tuple #[.bool false])) w)
    (hMore : ∀ (x : ByteArray) (c : Int) (w' : World) (cnt' : Nat), (Lit.int qe c).wf = true → left (.string x.data.toList) = true → (∀ zd, D.atKey (.string x.data.toList) zd = .lit (.int qe c)) → w'.ranges P k (plainElem P e) b r n D (fun z => left z && !z.sameKey (.string x.data.toList)) cnt' → cnt' < cnt →
      w.grownBy w' (some r) → w'.heap.size = w.heap.size → (Instr.entry (.pointer (some ⟨r, 0, none⟩))).run P w' = .ok (.tuple #[.string x, .int qe c]) w' → wpList P ops Q rest (a.put o.dst (.tuple #[.bool true, .string x, .int qe c])) w') :
    wpList P ops Q (o :: rest) a w :=
  wpList_next_ranges w hg it hop k K (plainElem P e) Value.string (Value.int qe) (fun key kl hkey => by obtain ⟨x, rfl, _⟩ := WideMaps.string_of_keyOf hk hkey; exact ⟨x, rfl⟩) (fun v y hv => by obtain ⟨c, rfl, _⟩ := plainElem_int_inv he hv; exact ⟨c, rfl⟩)
    b r n D left cnt hit h hDone (fun x c kl y w' cnt' hkey hlk hv hat hrg hlt hgr hsz hen => by
      obtain ⟨x', ex, rfl, _⟩ := WideMaps.string_of_keyOf hk hkey
      cases ex
      obtain ⟨c', ec, rfl, hwc⟩ := plainElem_int_inv he hv
      cases ec
      exact hMore x c w' cnt' hwc hlk hat hrg hlt hgr hsz hen)
theorem own_range {B r c n i : Nat} {w : World} {es : List Dg} {d : Dg} (h : w.ownsRow B 32 4 (.slice (some ⟨r, 0, none⟩) n c) n (dgCells es)) (hi : es[i]? = some d) : w.rangeAt r (i * 4) [.int .i64 d.id, .string d.fr, .string d.to, .slice d.A d.n d.c] := fun j u hu => by
  have hj : j < 4 := (List.getElem?_eq_some_iff.1 hu).1
  have := h.cells (g := r) rfl (i * 4 + j) u ((dgCells_get hi hj).trans hu)
  rwa [add_none, Nat.zero_add] at this
theorem below_none {w w' : World} (h : w.grownBy w' none) : Below w.heap.size w w' := ⟨h.os, h.tape, h.output, h.size, fun k hk => h.block k hk (by simp)⟩
set_option maxRecDepth 100000 in
set_option maxHeartbeats 16000000 in
theorem counts_any (w : World) (A : Option Addr) (n c : Nat) (es : List Opr) (h : Oprs w A n es) (hm : n ≤ maxLen) : Calls Try.prog 6 #[.slice A n c] w fun e w' => e = .returned (.bool true) ∧ Below w.heap.size w w' := by
  have hl := h.2.1
  have H := Lib.hid h
  have hmx := Lib.hid hm
  clear h hm
  go_enter Try.func6, Try.ntmps6
  go_wp2_with (go_at_call 8; refine (awake_any _).mono ?_; rintro _ w1 ⟨rfl, hb1⟩; refine Hid.out ?_)
  refine Lib.hid ?_
  have H1 := Lib.hid hb1
  have hfw := few_any w1 A n c es (H.out.below hb1) hmx.out
  clear hb1
  go_wp2_with (go_at_call 16; refine hfw.mono ?_; rintro _ w2 ⟨⟨r, rfl, hr⟩, hb⟩; refine Hid.out ?_)
  refine Lib.hid ?_
  have H2 := Lib.hid (H1.out.trans (hb.mono H1.out.size))
  clear hfw hb H1
  rcases hr with rfl | ⟨rfl, hF⟩
  · go_wp2_with (go_at_call 8; refine (awake_any _).mono ?_; rintro _ w3 ⟨rfl, hb3⟩)
    go_ret
    exact ⟨rfl, H2.out.trans (hb3.mono H2.out.size)⟩
  have HF := Lib.hid hF
  have hn60 : n ≤ 60 := by rw [← hl]; exact hF.1
  have hnew := new_any w2
  unfold P1 at hnew
  clear hF
  go_wp2_with (go_at_call 9; refine hnew.mono ?_; rintro _ w4 ⟨rfl, hN, hB⟩; refine Hid.out ?_)
  refine Lib.hid ?_
  have hs2 := H2.out.size
  have HN := Lib.hid (show Now w w2.heap.size w2.heap.size es 0 w4 (.slice none 0 0) [] from ⟨hN, rfl, Sound.zero, H2.out.trans (hB.mono hs2)⟩)
  clear hN hB hnew H2
  obtain ⟨g, hg⟩ : ∃ g, w2.heap.size = g := ⟨_, rfl⟩
  rw [hg] at HN hs2 ⊢
  go_wp2_with fail
  go_loopw [4] (fun i wr => ∃ (j : Nat) (v : Value) (ds : List Dg), j ≤ n ∧ i = .int .i64 j ∧ Now w g g es j wr v ds) (fun i _ => n - (intOf i).toNat)
  case atStart => exact ⟨0, _, [], by omega, rfl, HN.out⟩
  case round =>
    clear HN
    obtain ⟨j, v, ds, hj, rfl, hN⟩ := hrel
    have HN := Lib.hid hN
    clear hN
    by_cases h1 : j < n
    · have h1i : (j : Int) < (n : Int) := by omega
      obtain ⟨b, o, e, rfl, hbl, hs, hok, hcx⟩ := H.out.at_ h1
      obtain ⟨c0, c1, c2, c3, c4, c5⟩ := hcx.below HN.out.bel hbl
      have hfe := HF.out.2 e (List.mem_of_getElem? hs)
      have hbl2 : e.bs.length ≤ 3000 := by rw [hok.bys.len]; exact hfe.1
      have hc := do_any g v ds _ e g wr HN.out.net (by have := HN.out.len; omega) HN.out.snd.l0 (by have := HN.out.snd.l1; omega) (hok.below HN.out.bel) (by have := hfe.1; omega) HN.out.bodies
      have HX := Lib.hid hs
      have HL := Lib.hid hbl2
      unfold P1 Opr.v at hc
      clear hs hok hfe hbl2 hcx
      go_wp2_with (go_at_call 17; refine hc.mono ?_; rintro _ w5 ⟨v3, ds3, dg, id, x, hs, rfl, hO, hE, hk⟩; refine Hid.out ?_)
      refine Lib.hid ?_
      have HN6 := Lib.hid (HN.out.next hs2 HX.out HL.out hE hk)
      clear hE hk hs hO HN hc c0 c1 c2 c3 c4 c5 HL HX
      go_wp2_with fail
      go_roundw
      case rel => exact ⟨j + 1, v3, ds3, by omega, by go_num, HN6.out⟩
      case measure => simp [intOf]; omega
    · obtain rfl : j = n := by omega
      have hll := HN.out.len
      have hp := list_any g v ds _ g wr HN.out.net (by omega) HN.out.bodies
      unfold P1 at hp
      go_wp2_with (go_at_call 19; refine hp.mono ?_; rintro _ w6 ⟨lA, lc, ls, rfl, hro, hke, hbo, hb6⟩; refine Hid.out ?_)
      refine Lib.hid ?_
      have HRO := Lib.hid hro
      have HBO := Lib.hid hbo
      have HB6 := Lib.hid (HN.out.bel.trans (hb6.mono HN.out.bel.size))
      have hids : ∀ (p q : Nat) (a b : Dg), ls[p]? = some a → ls[q]? = some b → p ≠ q → a.id ≠ b.id := fun p q a b ha hb hne => by
        have hk : ls.map Dg.k = (runS (es.take j) ([], 0)).1 := hke.trans HN.out.keys
        exact HN.out.snd.ids p q a.k b.k (by rw [← hk]; simp [ha]) (by rw [← hk]; simp [hb]) hne
      have HIDS := Lib.hid hids
      have hel : ls.length = ds.length := by have := congrArg List.length hke; simpa using this
      have HEL := Lib.hid hel
      have HBS := Lib.hid (map_bs hke)
      have hp := bodies_any g v ds _ g w6 (HN.out.net.below hb6) (by omega) HN.out.bodies
      have HBL := Lib.hid (show ∀ d ∈ ls, d.bs.length ≤ 3000 from fun d hd => by
        have hk : ls.map Dg.k = (runS (es.take j) ([], 0)).1 := hke.trans HN.out.keys
        exact HN.out.snd.bl d.k (by rw [← hk]; exact List.mem_map.2 ⟨d, hd, rfl⟩))
      unfold P1 at hp
      clear hro hke hbo hb6 hids hel
      go_wp2_with (go_at_call 21; refine hp.mono ?_; rintro _ w7 ⟨⟨D, rfl, hmap, hD⟩, hb7⟩; refine Hid.out ?_)
      refine Lib.hid ?_
      have HB7 := Lib.hid (HB6.out.trans (hb7.mono HB6.out.size))
      have HL7 := Lib.hid hb7
      have hbm : w6.heap.size < w7.heap.size := hmap.lt
      obtain ⟨es0, rfl, hap, hkeys⟩ := hmap.entries law9
      obtain ⟨es1, hDe, hnn, htot, hat⟩ := hD
      obtain rfl : es0 = es1 := by injection hDe
      rw [List.length_map] at htot
      have HO := Lib.hid hmap
      have HQ := Lib.hid (And.intro hnn (And.intro htot hat))
      have HP := Lib.hid hap
      have HK := Lib.hid hkeys
      clear hDe hnn htot hat hap hkeys hmap hb7 hp
      obtain ⟨m, hm0⟩ : ∃ m, ds.length = m := ⟨_, rfl⟩
      rw [hm0] at HRO HEL HQ HO hll ⊢
      clear hm0 HN HB6
      obtain ⟨bz, hbz⟩ : ∃ bz, wr.heap.size = bz := ⟨_, rfl⟩
      rw [hbz] at HRO HBO
      clear hbz
      obtain ⟨bm, hbz⟩ : ∃ bm, w6.heap.size = bm := ⟨_, rfl⟩
      rw [hbz] at hbm HO ⊢
      have hbm6 := hbz
      go_wp2_with (first
        | (at_range; refine wpList_range_own _ rfl _ 56 rfl 9 3 law9 Try.underlying56 _ bm m _ rfl HO.out ?_; intro w8 hrg8 hg8 hs8))
      go_frame
      go_loopw [7] (fun s wz => ∃ (left : Lit → Bool) (cnt : Nat), wz.ranges Try.prog 9 (plainElem Try.prog 3) bm w7.heap.size m (.map es0) left cnt ∧ s = .int .i64 (sumL es0 left) ∧ w7.grownBy wz none) (fun _ wz => wz.rangeLeft bm w7.heap.size)
      case atStart => exact ⟨_, _, hrg8, by rw [sumL_start HK.out], hg8⟩
      case round =>
        obtain ⟨left, cnt, hrg, rfl, hgw⟩ := hrel
        have hsb := sumL_bound HQ.out.1 left
        rw [HQ.out.2.1] at hsb
        obtain ⟨S, hS⟩ : ∃ S, sumL es0 left = S := ⟨_, rfl⟩
        rw [hS] at hsb ⊢
        obtain ⟨hs0, hs1⟩ := hsb
        have HSS := Lib.hid hS
        clear hS
        go_wp2_with (first
          | (at_next; refine wpList_next_ranges_si _ rfl _ rfl 9 3 .i64 law9 Try.underlying9 Try.underlying3 bm w7.heap.size m _ _ _ rfl hrg ?_ ?_)
          | go_in)
        · intro _ hl0
          obtain rfl : S = m := by rw [← HSS.out, sumL_end hl0, HQ.out.2.1]
          have HOW := Lib.hid hrg.owns
          have HBE := Lib.hid (below_none hgw)
          clear hrg hgw hl0
          obtain ⟨w9, rfl⟩ : ∃ w9, w9 = wr := ⟨_, rfl⟩
          go_wp2_with (first | fail | go_in)
          have HBA := Lib.hid (HL7.out.trans (HBE.out.mono HL7.out.size))
          have HWB := Lib.hid (HB7.out.trans (HBE.out.mono HB7.out.size))
          have hw69 := HBA.out.size
          have hel := HEL.out
          clear HBE HL7 HB7 HEL hs0 hs1 HSS
          go_loopw [10] (fun i wz => ∃ (p : Nat), p ≤ m ∧ i = .int .i64 p ∧ Below w9.heap.size w9 wz) (fun i _ => m - (intOf i).toNat)
          case atStart => exact ⟨0, by omega, rfl, Below.refl _ _⟩
          case round =>
            obtain ⟨p, hp, rfl, hB9⟩ := hrel
            have HB9 := Lib.hid hB9
            clear hB9
            by_cases h2 : p < m
            · have h2i : (p : Int) < (m : Int) := by omega
              obtain ⟨da, hda⟩ : ∃ d, ls[p]? = some d := ⟨_, List.getElem?_eq_getElem (by omega)⟩
              have HDA := Lib.hid hda
              clear hda
              go_wp2_with fail
              go_loopw [11, 12] (fun k i wz => ∃ (q : Nat), q ≤ m ∧ i = .int .i64 q ∧ k = .int .i64 (cntB ((ls.take q).map Dg.bs) da.bs) ∧ Below w9.heap.size w9 wz) (fun _ i _ => m - (intOf i).toNat)
              case atStart => exact ⟨0, by omega, rfl, rfl, HB9.out⟩
              case round =>
                clear HB9
                obtain ⟨q, hq, rfl, rfl, hB9⟩ := hrel
                have HB9 := Lib.hid hB9
                have hW6 := HBA.out.trans (hB9.mono hw69)
                have HW6 := Lib.hid hW6
                have hle := cntB_le ((ls.take q).map Dg.bs) da.bs
                have hge := cntB_nonneg ((ls.take q).map Dg.bs) da.bs
                have hlen : ((ls.take q).map Dg.bs).length ≤ q := by rw [List.length_map]; exact List.length_take_le _ _
                obtain ⟨cc, hcc⟩ : ∃ cc, cntB ((ls.take q).map Dg.bs) da.bs = cc := ⟨_, rfl⟩
                rw [hcc] at hle hge ⊢
                have HCC := Lib.hid hcc
                have hcc1 : cc ≤ 60 := by omega
                have hR := own_below HRO.out hW6
                clear hle hlen hcc hB9 hW6
                by_cases h3 : q < m
                · have h3i : (q : Int) < (m : Int) := by omega
                  obtain ⟨db, hdb⟩ : ∃ d, ls[q]? = some d := ⟨_, List.getElem?_eq_getElem (by omega)⟩
                  obtain ⟨r, rfl, _, _, _, _, _, a3⟩ := own_dg_cells hR HDA.out
                  obtain ⟨r', e', _, _, _, _, _, b3⟩ := own_dg_cells hR hdb
                  injection e' with e'
                  injection e' with e'
                  subst e'
                  have HDB := Lib.hid hdb
                  have HRR := Lib.hid hR
                  have HOA := Lib.hid ((HBO.out da (List.mem_of_getElem? HDA.out)).below HW6.out)
                  have HOB := Lib.hid ((HBO.out db (List.mem_of_getElem? hdb)).below HW6.out)
                  have r3 := cell_regrown a3
                  have s3 := cell_regrown b3
                  have HSM := Lib.hid (show ∀ d os, Calls Try.prog 12 #[.slice da.A da.n da.c, .slice db.A db.n db.c] (grow (redrawn wr d) os) fun r w' => r = .returned (.bool (decide (da.bs = db.bs))) ∧ Below (grow (redrawn wr d) os).heap.size (grow (redrawn wr d) os) w' from fun d os =>
                    same_below da.A db.A da.n da.c db.n db.c da.bs db.bs _ (HOA.out.below (below_regrown _ d os)).ok.bys (HOB.out.below (below_regrown _ d os)).ok.bys HOA.out.ok.len HOB.out.ok.len)
                  clear hR hdb a3 b3
                  go_wp2_with fail
                  refine wp_region_quiet_below (by kernel_rfl) (by kernel_rfl) ?_
                  repeat (first
                    | go_big_quiet_skip
                    | quiet_step ((go_at_call 12; with_reducible exact Calls.regrown_of (HSM.out _ _))))
                  refine wpQuiet_nil ?_
                  rintro _ ⟨⟨dq, osq⟩, rfl⟩
                  have hbq := below_regrown wr dq osq
                  have HRQ := Lib.hid (own_below HRR.out hbq)
                  have HOA2 := Lib.hid (HOA.out.below hbq)
                  have HOB2 := Lib.hid (HOB.out.below hbq)
                  have HBQ := Lib.hid (HB9.out.trans (hbq.mono HB9.out.size))
                  clear hbq r3 s3 HSM HOA HOB HRR HB9 HW6
                  generalize grow (redrawn wr dq) osq = w10 at *
                  have HDS := Lib.hid (show ∀ d os, Calls Try.prog 22 #[da.v, db.v] (grow (redrawn w10 d) os) fun r w' => r = .returned (.bool (dgB da db)) ∧ Below (grow (redrawn w10 d) os).heap.size (grow (redrawn w10 d) os) w' from fun d os =>
                    dsame_any da db _ (HOA2.out.below (below_regrown _ d os)).ok (HOB2.out.below (below_regrown _ d os)).ok)
                  unfold Dg.v at HDS
                  have hRA : ∀ W, (∃ p : Regrown, W = grow (redrawn w10 p.d) p.os) → W.rangeAt r (p * 4) [.int .i64 da.id, .string da.fr, .string da.to, .slice da.A da.n da.c] := by
                    rintro _ ⟨pp, rfl⟩
                    exact own_range (own_below HRQ.out (below_regrown _ pp.d pp.os)) HDA.out
                  have hRB : ∀ W, (∃ p : Regrown, W = grow (redrawn w10 p.d) p.os) → W.rangeAt r (q * 4) [.int .i64 db.id, .string db.fr, .string db.to, .slice db.A db.n db.c] := by
                    rintro _ ⟨pp, rfl⟩
                    exact own_range (own_below HRQ.out (below_regrown _ pp.d pp.os)) HDB.out
                  have hsn : cntB ((ls.take (q + 1)).map Dg.bs) da.bs = cc + if db.bs = da.bs then 1 else 0 := by rw [take_snoc HDB.out, List.map_append, ← HCC.out]; exact cntB_snoc _ _ _
                  by_cases hpq : p = q
                  · subst hpq
                    obtain rfl : da = db := by have := HDA.out; rw [HDB.out] at this; injection this with this; exact this.symm
                    have HCN := Lib.hid (show cntB ((ls.take (p + 1)).map Dg.bs) da.bs = cc + 1 by rw [hsn, if_pos rfl])
                    rw [dgB_self] at HDS
                    have hbb : decide (da.bs = da.bs) = true := by simp
                    clear hsn HCC
                    generalize decide (da.bs = da.bs) = bb at *
                    subst hbb
                    go_wp2_with fail
                    refine wp_region_quiet_below (by kernel_rfl) (by kernel_rfl) ?_
                    repeat (first
                      | ((with_reducible (show wpQuiet _ _ _ _ ({ dst := _, op := Op.load 32 (.tmp 74), type := _, pos := _, after := _, guard := _ } :: _) _)); refine wpQuiet_load_row rfl 32 (.tmp 74) rfl r (p * 4) rfl _ _ hRA Try.underlying32 rfl (by kernel_rfl) ?_)
                      | ((with_reducible (show wpQuiet _ _ _ _ ({ dst := _, op := Op.load 32 (.tmp 79), type := _, pos := _, after := _, guard := _ } :: _) _)); refine wpQuiet_load_row rfl 32 (.tmp 79) rfl r (p * 4) rfl _ _ hRB Try.underlying32 rfl (by kernel_rfl) ?_)
                      | ((with_reducible (show wpQuiet _ _ _ _ ({ dst := _, op := Op.load 32 (.tmp 78), type := _, pos := _, after := _, guard := _ } :: _) _)); refine wpQuiet_load_row rfl 32 (.tmp 78) rfl r (p * 4) rfl _ _ hRB Try.underlying32 rfl (by kernel_rfl) ?_)
                      | go_big_quiet_skip
                      | quiet_step ((go_at_call 22; with_reducible exact Calls.regrown_of (HDS.out _ _))))
                    refine wpQuiet_nil ?_
                    rintro _ ⟨⟨dq2, osq2⟩, rfl⟩
                    have HBR := Lib.hid (below_regrown w10 dq2 osq2)
                    generalize grow (redrawn w10 dq2) osq2 = w11 at *
                    go_wp2_with fail
                    go_roundw
                    case rel => exact ⟨p + 1, by omega, by go_num, by rw [HCN.out], HBQ.out.trans (HBR.out.mono HBQ.out.size)⟩
                    case measure => simp [intOf]; omega
                  · have hne : dgB da db = false := by
                      have := HIDS.out p q da db HDA.out HDB.out hpq
                      simp [dgB, this]
                    rw [hne] at HDS
                    have hpq0 : ((p : Int) == (q : Int)) = false := by simp; omega
                    clear hne
                    by_cases hbs : da.bs = db.bs
                    · have HCN := Lib.hid (show cntB ((ls.take (q + 1)).map Dg.bs) da.bs = cc + 1 by rw [hsn, if_pos hbs.symm])
                      have hbb : decide (da.bs = db.bs) = true := by simp [hbs]
                      clear hsn hbs HCC hpq
                      generalize decide (da.bs = db.bs) = bb at *
                      subst hbb
                      go_wp2_with fail
                      refine wp_region_quiet_below (by kernel_rfl) (by kernel_rfl) ?_
                      repeat (first
                        | ((with_reducible (show wpQuiet _ _ _ _ ({ dst := _, op := Op.load 32 (.tmp 74), type := _, pos := _, after := _, guard := _ } :: _) _)); refine wpQuiet_load_row rfl 32 (.tmp 74) rfl r (p * 4) rfl _ _ hRA Try.underlying32 rfl (by kernel_rfl) ?_)
                        | ((with_reducible (show wpQuiet _ _ _ _ ({ dst := _, op := Op.load 32 (.tmp 79), type := _, pos := _, after := _, guard := _ } :: _) _)); refine wpQuiet_load_row rfl 32 (.tmp 79) rfl r (q * 4) rfl _ _ hRB Try.underlying32 rfl (by kernel_rfl) ?_)
                        | ((with_reducible (show wpQuiet _ _ _ _ ({ dst := _, op := Op.load 32 (.tmp 78), type := _, pos := _, after := _, guard := _ } :: _) _)); refine wpQuiet_load_row rfl 32 (.tmp 78) rfl r (q * 4) rfl _ _ hRB Try.underlying32 rfl (by kernel_rfl) ?_)
                        | go_big_quiet_skip
                        | quiet_step ((go_at_call 22; with_reducible exact Calls.regrown_of (HDS.out _ _))))
                      refine wpQuiet_nil ?_
                      rintro _ ⟨⟨dq2, osq2⟩, rfl⟩
                      have HBR := Lib.hid (below_regrown w10 dq2 osq2)
                      generalize grow (redrawn w10 dq2) osq2 = w11 at *
                      go_wp2_with fail
                      go_roundw
                      case rel => exact ⟨q + 1, by omega, by go_num, by rw [HCN.out], HBQ.out.trans (HBR.out.mono HBQ.out.size)⟩
                      case measure => simp [intOf]; omega
                    · have HCN := Lib.hid (show cntB ((ls.take (q + 1)).map Dg.bs) da.bs = cc by rw [hsn, if_neg (fun e => hbs e.symm)]; omega)
                      have hbb : decide (da.bs = db.bs) = false := by simp [hbs]
                      clear hsn hbs HCC hpq
                      generalize decide (da.bs = db.bs) = bb at *
                      subst hbb
                      go_wp2_with fail
                      refine wp_region_quiet_below (by kernel_rfl) (by kernel_rfl) ?_
                      repeat (first
                        | ((with_reducible (show wpQuiet _ _ _ _ ({ dst := _, op := Op.load 32 (.tmp 74), type := _, pos := _, after := _, guard := _ } :: _) _)); refine wpQuiet_load_row rfl 32 (.tmp 74) rfl r (p * 4) rfl _ _ hRA Try.underlying32 rfl (by kernel_rfl) ?_)
                        | ((with_reducible (show wpQuiet _ _ _ _ ({ dst := _, op := Op.load 32 (.tmp 79), type := _, pos := _, after := _, guard := _ } :: _) _)); refine wpQuiet_load_row rfl 32 (.tmp 79) rfl r (q * 4) rfl _ _ hRB Try.underlying32 rfl (by kernel_rfl) ?_)
                        | ((with_reducible (show wpQuiet _ _ _ _ ({ dst := _, op := Op.load 32 (.tmp 78), type := _, pos := _, after := _, guard := _ } :: _) _)); refine wpQuiet_load_row rfl 32 (.tmp 78) rfl r (q * 4) rfl _ _ hRB Try.underlying32 rfl (by kernel_rfl) ?_)
                        | go_big_quiet_skip
                        | quiet_step ((go_at_call 22; with_reducible exact Calls.regrown_of (HDS.out _ _))))
                      refine wpQuiet_nil ?_
                      rintro _ ⟨⟨dq2, osq2⟩, rfl⟩
                      have HBR := Lib.hid (below_regrown w10 dq2 osq2)
                      generalize grow (redrawn w10 dq2) osq2 = w11 at *
                      go_wp2_with fail
                      go_roundw
                      case rel => exact ⟨q + 1, by omega, by go_num, by rw [HCN.out], HBQ.out.trans (HBR.out.mono HBQ.out.size)⟩
                      case measure => simp [intOf]; omega
                · obtain rfl : q = m := by omega
                  obtain ⟨r, rfl, _, _, _, _, _, a3⟩ := own_dg_cells hR HDA.out
                  have hOA := (HBO.out da (List.mem_of_getElem? HDA.out)).below HW6.out
                  have hcv := conv_bys (c := da.c) hOA.ok.bys
                  have hdl := HBL.out da (List.mem_of_getElem? HDA.out)
                  have hkey := key_str (b := da.bs) (by unfold maxLen; omega)
                  have hmw := HOW.out.kept (grown_of_below (row := none) HB9.out) (by simp)
                  have hat0 := HQ.out.2.2 da.bs hOA.2
                  have hcq : cntB (ds.map Dg.bs) da.bs = cc := by
                    have := HCC.out
                    rwa [List.take_of_length_le (by omega), HBS.out] at this
                  rw [hcq] at hat0
                  have HAT := Lib.hid hat0
                  have HMW := Lib.hid hmw
                  generalize str da.bs = S at *
                  clear hR hOA hdl hmw hat0 hcq HCC HW6
                  go_wp2_with (first
                    | (at_lookup; refine wpList_lookup_own_int _ rfl _ _ 56 rfl 9 3 .i64 law9 Try.underlying56 Try.underlying3 (zero3 _) bm q _ rfl HMW.out _ _ rfl hkey ?_; intro qq hat hwc; obtain rfl : cc = qq := (by simpa using HAT.out.symm.trans hat); clear hat hwc))
                  go_roundw
                  case rel => exact ⟨p + 1, by omega, by go_num, HB9.out⟩
                  case measure => simp [intOf]; omega
            · obtain rfl : p = m := by omega
              go_wp2_with fail
              go_ret
              exact ⟨rfl, HWB.out.trans (HB9.out.mono HWB.out.size)⟩
        · intro x c w6' cnt6 hwc hlx hat hrg6 hlt hg6 hs6 hen
          have hnx := sumL_next left hlx es0 HP.out
          rw [hat, HSS.out] at hnx
          have hnx2 : sumL es0 (fun z => left z && !z.sameKey (.string x.data.toList)) = S + c := hnx
          have hb6 := sumL_bound HQ.out.1 (fun z => left z && !z.sameKey (.string x.data.toList))
          rw [hnx2, HQ.out.2.1] at hb6
          obtain ⟨hb60, hb61⟩ := hb6
          have hgw6 := hgw.andThen hg6 (fun j hj => by cases hj; exact Or.inl (Nat.le_refl _))
          have HN := Lib.hid hnx2
          have HM := Lib.hid (show w6'.rangeLeft bm w7.heap.size < _ by rw [hrg6.left_eq]; exact hlt)
          clear hat hwc hlx hlt hg6 hs6 hnx hnx2 hgw
          go_wp2_with fail
          go_roundw
          case rel => exact ⟨_, cnt6, hrg6, by rw [HN.out], hgw6⟩
          case measure => rw [hrg.left_eq]; exact HM.out
end Go.Proofs.Ythgbgkpchchicaa
