import Derived.Test.YthgbgkpchchicaaPln
namespace Go.Proofs.Ythgbgkpchchicaa
open Go.ChangeShapes Go.WideShapes Go.ChangeAt Go.RowKit Go.Maps Go.Sort
set_option linter.unusedVariables false
set_option linter.unusedSimpArgs false
theorem eqlnil62 (y : Value) (w : World) : (binOp .eql 28 (.iface 62 y) .nilIface).run Try.prog w = .ok (.bool false) w := by kernel_rfl
theorem errV0 : errV 0 = .nilIface := rfl
theorem errV10 : errV 10 = .iface 62 (.int .i64 10) := rfl
/-- The network after the first j calls. -/
structure Now (w : World) (B g : Nat) (es : List Opr) (j : Nat) (wr : World) (v : Value) (ds : List Dg) : Prop where
  net : Net B wr g v ds (runS (es.take j) ([], 0)).2
  keys : ds.map Dg.k = (runS (es.take j) ([], 0)).1
  snd : Sound j (runS (es.take j) ([], 0)).1 (runS (es.take j) ([], 0)).2
  bel : Below w.heap.size w wr
theorem Now.len {w wr : World} {B g j : Nat} {es : List Opr} {v : Value} {ds : List Dg} (h : Now w B g es j wr v ds) : ds.length ≤ j := by
  have := h.snd.len
  rw [← h.keys, List.length_map] at this
  exact this
theorem Now.bodies {w wr : World} {B g j : Nat} {es : List Opr} {v : Value} {ds : List Dg} (h : Now w B g es j wr v ds) : ∀ d ∈ ds, d.bs.length ≤ 1000000 := fun d hd => by
  have := h.snd.bl d.k (by rw [← h.keys]; exact List.mem_map.2 ⟨d, hd, rfl⟩)
  have h2 : d.k.2.2.2 = d.bs := rfl
  rw [h2] at this
  omega
theorem Now.next {w wr w' : World} {B g j : Nat} {es : List Opr} {v v3 : Value} {ds ds3 : List Dg} {o : Opr} (h : Now w B g es j wr v ds) (hB : w.heap.size ≤ B) (ho : es[j]? = some o) (hl : o.bs.length ≤ 3000)
    (hE : Ended B wr g v w' v3 ds3 (stepS o (ds.map Dg.k) (runS (es.take j) ([], 0)).2).2.2) (hk : ds3.map Dg.k = (stepS o (ds.map Dg.k) (runS (es.take j) ([], 0)).2).2.1) : Now w B g es (j + 1) w' v3 ds3 := by
  have hr : runS (es.take (j + 1)) ([], 0) = (stepS o (ds.map Dg.k) (runS (es.take j) ([], 0)).2).2 := by
    rw [List.take_add_one, ho, h.keys]
    exact runS_snoc _ _ _
  refine ⟨by rw [hr]; exact hE.net, by rw [hr]; exact hk, by rw [hr, h.keys]; exact h.snd.step o hl, h.bel.trans ((h.net.base hE.turn).mono hB)⟩
theorem Now.later {w wr w' : World} {B g j : Nat} {es : List Opr} {v : Value} {ds : List Dg} (h : Now w B g es j wr v ds) (hb : Below wr.heap.size wr w') : Now w B g es j w' v ds :=
  ⟨h.net.below hb, h.keys, h.snd, h.bel.trans (hb.mono h.bel.size)⟩
set_option maxRecDepth 100000 in
set_option maxHeartbeats 16000000 in
theorem ids_any (w : World) (A : Option Addr) (n c : Nat) (es : List Opr) (h : Oprs w A n es) (hm : n ≤ maxLen) : Calls Try.prog 5 #[.slice A n c] w fun e w' => e = .returned (.bool true) ∧ Below w.heap.size w w' := by
  have hl := h.2.1
  have H := Lib.hid h
  have hmx := Lib.hid hm
  clear h hm
  go_enter Try.func5, Try.ntmps5
  go_wp2_with (go_at_call 8; refine (awake_any _).mono ?_; rintro _ w1 ⟨rfl, hb1⟩; refine Hid.out ?_)
  refine Lib.hid ?_
  have H1 := Lib.hid hb1
  have hfw := few_any w1 A n c es (H.out.below hb1) hmx.out
  clear hb1
  go_wp2_with (go_at_call 16; refine hfw.mono ?_; rintro _ w2 ⟨⟨r, rfl, hr⟩, hb⟩; refine Hid.out ?_)
  refine Lib.hid ?_
  have H2 := Lib.hid (H1.out.trans (hb.mono H1.out.size))
  clear hfw hb H1
  rcases hr with rfl | ⟨rfl, hF⟩
  · go_wp2_with (go_at_call 8; refine (awake_any _).mono ?_; rintro _ w3 ⟨rfl, hb3⟩)
    go_ret
    exact ⟨rfl, H2.out.trans (hb3.mono H2.out.size)⟩
  have HF := Lib.hid hF
  have hn60 : n ≤ 60 := by rw [← hl]; exact hF.1
  have hnew := new_any w2
  unfold P1 at hnew
  clear hF
  go_wp2_with (go_at_call 9; refine hnew.mono ?_; rintro _ w4 ⟨rfl, hN, hB⟩; refine Hid.out ?_)
  refine Lib.hid ?_
  have hs2 := H2.out.size
  have HN := Lib.hid (show Now w w2.heap.size w2.heap.size es 0 w4 (.slice none 0 0) [] from ⟨hN, rfl, Sound.zero, H2.out.trans (hB.mono hs2)⟩)
  clear hN hB hnew H2
  obtain ⟨g, hg⟩ : ∃ g, w2.heap.size = g := ⟨_, rfl⟩
  rw [hg] at HN hs2 ⊢
  go_wp2_with fail
  go_loopw [4, 5] (fun l i wr => ∃ (j : Nat) (v : Value) (ds : List Dg), j ≤ n ∧ i = .int .i64 j ∧ l = .int .i64 (runS (es.take j) ([], 0)).2 ∧ Now w g g es j wr v ds) (fun _ i _ => n - (intOf i).toNat)
  case atStart => exact ⟨0, _, [], by omega, rfl, rfl, HN.out⟩
  case round =>
    clear HN
    obtain ⟨j, v, ds, hj, rfl, rfl, hN⟩ := hrel
    have HN := Lib.hid hN
    clear hN
    by_cases h1 : j < n
    · have h1i : (j : Int) < (n : Int) := by omega
      obtain ⟨b, o, e, rfl, hbl, hs, hok, hcx⟩ := H.out.at_ h1
      obtain ⟨c0, c1, c2, c3, c4, c5⟩ := hcx.below HN.out.bel hbl
      have hfe := HF.out.2 e (List.mem_of_getElem? hs)
      have hbl2 : e.bs.length ≤ 3000 := by rw [hok.bys.len]; exact hfe.1
      have hc := do_any g v ds _ e g wr HN.out.net (by have := HN.out.len; omega) HN.out.snd.l0 (by have := HN.out.snd.l1; omega) (hok.below HN.out.bel) (by have := hfe.1; omega) HN.out.bodies
      have hids := step_ids e (ds.map Dg.k) (runS (es.take j) ([], 0)).2
      have HX := Lib.hid hs
      have HI := Lib.hid hids
      have HL := Lib.hid hbl2
      have hl0 := HN.out.snd.l0
      have hl1 := HN.out.snd.l1
      unfold P1 Opr.v at hc
      have HSX := Lib.hid (And.intro hbl hcx)
      clear hs hok hfe hbl2 hids hcx
      generalize hrs : (runS (es.take j) ([], 0)).2 = last at *
      go_wp2_with (go_at_call 17; refine hc.mono ?_; rintro _ w5 ⟨v3, ds3, dg, id, x, hs, rfl, hO, hE, hk⟩; unfold Dg.v; refine Hid.out ?_)
      refine Lib.hid ?_
      rw [← hrs] at hE hk
      have N5 := HN.out.next hs2 HX.out HL.out hE hk
      have hids := HI.out
      rw [hrs] at hE
      rw [hs] at hids
      simp only at hids
      have hb6 : Below w5.heap.size w5 (w5.alloc (.cells #[.int .i64 dg.id, .string dg.fr, .string dg.to, .slice dg.A dg.n dg.c] 32)) := (Below.refl _ _).alloc (Nat.le_refl _) _
      have HN6 := Lib.hid (N5.later hb6)
      obtain ⟨c0, _, _, _, _, _⟩ := HSX.out.2.below HN6.out.bel HSX.out.1
      have hlst : (runS (es.take (j + 1)) ([], 0)).2 = (stepS e (ds.map Dg.k) last).2.2 := by
        rw [List.take_add_one, HX.out, HN.out.keys, ← hrs]
        exact congrArg Prod.snd (runS_snoc _ _ _)
      have HLS := Lib.hid hlst
      clear hrs hE hk hs hO hb6 hlst HI HN N5 hc c1 c2 c3 c4 c5 HL
      obtain ⟨hx, hids⟩ := hids
      rcases hids with ⟨rfl, hkd, rfl, hlast⟩ | ⟨hno, hlast⟩
      · rw [errV0]
        have HLA := Lib.hid (HLS.out.trans hlast)
        clear hlast hx HLS
        rcases hkd with hkd | hkd
        all_goals
          rw [hkd] at c0
          clear hkd
          go_wp2_with fail
          go_roundw
          case rel => exact ⟨j + 1, v3, ds3, by omega, by go_num, by rw [HLA.out], HN6.out⟩
          case measure => simp [intOf]; omega
      · have HLA := Lib.hid (HLS.out.trans hlast)
        clear hlast HLS
        rcases hx with rfl | rfl
        · rw [errV0]
          have k0 : (e.kind == 0) = false := by simp; intro e0; exact hno ⟨rfl, .inl e0⟩
          have k2 : (e.kind == 2) = false := by simp; intro e0; exact hno ⟨rfl, .inr e0⟩
          clear hno
          go_wp2_with fail
          go_roundw
          case rel => exact ⟨j + 1, v3, ds3, by omega, by go_num, by rw [HLA.out], HN6.out⟩
          case measure => simp [intOf]; omega
        · rw [errV10]
          have e2 := eqlnil62
          clear hno
          go_wp2_with fail
          go_roundw
          case rel => exact ⟨j + 1, v3, ds3, by omega, by go_num, by rw [HLA.out], HN6.out⟩
          case measure => simp [intOf]; omega
    · obtain rfl : j = n := by omega
      have hll := HN.out.len
      have hp := list_any g v ds _ g wr HN.out.net (by omega) HN.out.bodies
      unfold P1 at hp
      go_wp2_with (go_at_call 19; refine hp.mono ?_; rintro _ w6 ⟨lA, lc, ls, rfl, hro, hke, hbo, hb6⟩; refine Hid.out ?_)
      refine Lib.hid ?_
      have HRO := Lib.hid hro
      have HB6 := Lib.hid (HN.out.bel.trans (hb6.mono HN.out.bel.size))
      have hids : ∀ (p q : Nat) (a b : Dg), ls[p]? = some a → ls[q]? = some b → p ≠ q → a.id ≠ b.id := fun p q a b ha hb hne => by
        have hk : ls.map Dg.k = (runS (es.take j) ([], 0)).1 := hke.trans HN.out.keys
        exact HN.out.snd.ids p q a.k b.k (by rw [← hk]; simp [ha]) (by rw [← hk]; simp [hb]) hne
      have HIDS := Lib.hid hids
      have hel : ls.length = ds.length := by have := congrArg List.length hke; simpa using this
      have HEL := Lib.hid hel
      clear hp hro hke hbo hb6 hids hel
      go_wp2_with fail
      obtain ⟨bz, hbz⟩ : ∃ bz, wr.heap.size = bz := ⟨_, rfl⟩
      rw [hbz] at HRO
      have hel := HEL.out
      clear hbz HN HEL
      obtain ⟨m, hm0⟩ : ∃ m, ds.length = m := ⟨_, rfl⟩
      rw [hm0] at hll hel HRO ⊢
      clear hm0
      go_loopw [10] (fun i ws => ∃ (p k : Nat), p ≤ m ∧ i = .int .i64 p ∧ ws = w6.drewN k) (fun i _ => m - (intOf i).toNat)
      case atStart => exact ⟨0, 0, by omega, rfl, rfl⟩
      case round =>
        obtain ⟨p, k, hp, rfl, rfl⟩ := hrel
        by_cases h2 : p < m
        · have h2i : (p : Int) < (m : Int) := by omega
          go_wp2_with fail
          go_loopw [11] (fun i ws => ∃ (q k : Nat), q ≤ p ∧ i = .int .i64 q ∧ ws = w6.drewN k) (fun i _ => p - (intOf i).toNat)
          case atStart => exact ⟨0, k, by omega, rfl, rfl⟩
          case round =>
            obtain ⟨q, k2, hq, rfl, rfl⟩ := hrel
            by_cases h3 : q < p
            · have h3i : (q : Int) < (p : Int) := by omega
              have h3j : (q : Int) < (m : Int) := by omega
              obtain ⟨da, hda⟩ : ∃ d, ls[p]? = some d := ⟨_, List.getElem?_eq_getElem (by omega)⟩
              obtain ⟨db, hdb⟩ : ∃ d, ls[q]? = some d := ⟨_, List.getElem?_eq_getElem (by omega)⟩
              have hR : w6.ownsRow bz 32 4 (.slice lA m lc) m (dgCells ls) := HRO.out
              obtain ⟨r, rfl, _, _, a0, _, _, _⟩ := own_dg_cells hR hda
              obtain ⟨r', e, _, _, b0, _, _, _⟩ := own_dg_cells hR hdb
              injection e with e
              injection e with e
              subst e
              have hne : (da.id == db.id) = false := by simp; exact HIDS.out p q da db hda hdb (by omega)
              clear hR hda hdb
              go_wp2_with fail
              go_quiet (fail)
              go_wp2_with fail
              go_roundw
              case rel => exact ⟨q + 1, _, by omega, by go_num, rfl⟩
              case measure => simp [intOf]; omega
            · obtain rfl : q = p := by omega
              go_wp2_with fail
              go_roundw
              case rel => exact ⟨q + 1, k2, by omega, by go_num, rfl⟩
              case measure => simp [intOf]; omega
        · obtain rfl : p = m := by omega
          go_wp2_with fail
          go_ret
          exact ⟨rfl, below_drewN HB6.out _⟩
end Go.Proofs.Ythgbgkpchchicaa
