import Derived.Test.YtojfghfgaljkkaaDoorPrt
namespace Go.Proofs.YtojfghfgaljkkaaDoor
open Go.ChangeShapes Go.WideShapes Go.ChangeAt Go.RowKit
set_option linter.unusedVariables false
set_option linter.unusedSimpArgs false
theorem own_cap {w : World} {base : Nat} {e : TypeId} {n c : Nat} {A : Option Addr} {xs : List Value} (h : w.ownsRow base e 1 (.slice A n c) n xs) (hn : 0 < n) : n ≤ c := by
  rcases h.2 with ⟨hv, _⟩ | ⟨g, cap, cur, hv, hb, hg, hrest⟩
  · injection hv with _ h1; omega
  · injection hv with _ _ h2
    subst h2
    have := hrest
    first | exact this.1 | exact this.2.1 | (obtain ⟨h3, h4, h5⟩ := this; omega)
theorem reads_take {w : World} {B n m : Nat} {A : Option Addr} {cs : List Nat} (h : Reads w B 1 A n (iv ((List.range n).map (vb cs)))) (hm : m ≤ n) : Reads w B 1 A m (iv ((List.range m).map (vb cs))) := by
  refine ⟨by simp [iv], fun h0 => ?_⟩
  obtain ⟨ad, hA, hb, hc⟩ := h.2 (by omega)
  refine ⟨ad, hA, hb, fun j u hu => hc j u ?_⟩
  have hj : j < m := by
    have := (List.getElem?_eq_some_iff.1 hu).1
    simpa [iv] using this
  simp only [iv, List.map_map, List.getElem?_map, Option.map_eq_some_iff] at hu ⊢
  obtain ⟨y, hy, rfl⟩ := hu
  rw [List.getElem?_range hj] at hy
  obtain rfl := Option.some.inj hy
  exact ⟨j, List.getElem?_range (by omega), rfl⟩
def vbs (cs : List Nat) (m : Nat) : List Nat := (List.range m).map (vb cs)
theorem vbs_next (cs : List Nat) (m : Nat) : iv (vbs cs (m + 1)) = iv (vbs cs m) ++ [.int .i64 (vb cs m : Nat)] := by simp [vbs, iv, List.range_succ]
theorem vbs_get (cs : List Nat) (m j : Nat) (h : j < m) : (iv (vbs cs m))[j]? = some (.int .i64 (vb cs j : Nat)) := by simp [vbs, iv, h]
theorem spare_iff (cs : List Nat) (V : Nat) (hV : V < 64) (h : (V : Int) = vOf (cs.getD 21 0)) : V % 16 = 0 ↔ ∀ j, 128 ≤ j → j < 132 → vb cs j ≠ 1 := by
  have hv : ∀ j, 128 ≤ j → j < 132 → vb cs j = V / 2 ^ (5 - j % 6) % 2 := by
    intro j h1 h2
    unfold vb
    rw [show j / 6 = 21 by omega, ← h, Int.toNat_natCast]
  constructor
  · intro h0 j h1 h2
    rw [hv j h1 h2]
    rcases (show j = 128 ∨ j = 129 ∨ j = 130 ∨ j = 131 by omega) with rfl | rfl | rfl | rfl <;> simp <;> omega
  · intro hj
    have a := hj 128 (by omega) (by omega)
    have b := hj 129 (by omega) (by omega)
    have c := hj 130 (by omega) (by omega)
    have d := hj 131 (by omega) (by omega)
    rw [hv _ (by omega) (by omega)] at a b c d
    simp at a b c d
    omega
theorem of_vbs (cs : List Nat) : ofL (vbs cs 128) = parseL cs := by
  unfold ofL parseL
  apply List.map_congr_left
  intro j hj
  simp only [List.mem_range] at hj
  have : ∀ r, r ≤ 8 → pv (vbs cs 128) j r = gv (vb cs) (8 * j) r := by
    intro r
    induction r with
    | zero => intro _; rfl
    | succ r ih =>
      intro hr
      rw [pv, gv, ih (by omega)]
      have : (vbs cs 128).getD (8 * j + r) 0 = vb cs (8 * j + r) := by
        simp [vbs, List.getD, show 8 * j + r < 128 by omega]
      rw [this]; omega
  exact this 8 (by omega)
def codeAt : Option (Int × Int) → Int × Int
  | none => (0, 0)
  | some p => p
def rparseV (cs : List Nat) : Value := .tuple #[.agg (vc (parseR cs).1), .int .i64 (codeAt (parseR cs).2).1, .int .i64 (codeAt (parseR cs).2).2]
set_option maxRecDepth 100000 in
set_option maxHeartbeats 4000000 in
theorem rparse_short_q (q : Array Value) (hq : q = vc zeros) (s : ByteArray) (w : World) (hs : s.size ≤ maxLen) (hne : s.size ≠ 22) :
    Calls Tryd.prog 11 #[.string s] w fun e w' => e = .returned (rparseV (bys s)) ∧ Below w.heap.size w w' := by
  unfold maxLen at hs
  have HQ := Lib.hid hq
  have hqs : q.size = 16 := by rw [hq, vc_size, zeros_len]
  have hqo : q.all (·.oneCell') = true := by rw [hq]; exact vc_one zeros
  have hpr : rparseV (bys s) = .tuple #[.agg (vc zeros), .int .i64 4, .int .i64 (s.size : Nat)] := by
    unfold rparseV parseR
    rw [if_pos (by rw [bys_len]; exact hne), bys_len]
    rfl
  have HPR := Lib.hid hpr
  clear hpr
  have hne2 : ((s.size : Int) != 22) = true := by simp; omega
  go_enter Tryd.func11, Tryd.ntmps11
  go_upto_region 1 with (fail)
  rw [zeros_vc, ← hq]
  clear hq
  have H2 := Lib.hid (Blk.new w 22 q)
  have HB := Lib.hid (show Below w.heap.size w (w.alloc (.cells q 22)) by go_grown)
  generalize w.alloc (.cells q 22) = w1 at *
  have ht2 := Blk.there (n := q.size) H2.out rfl
  go_wp2_with ((with_reducible (show wpList _ _ _ ({ dst := none, op := Op.store 22 _ _, type := _, pos := _, after := _, guard := _ } :: _) _ _)); refine wpList_store_mid rfl 22 (.tmp 2) (.tmp 13) rfl w.heap.size 0 q rfl ((show _ = Value.agg (vc zeros) from rfl).trans (by rw [HQ.out])) ht2 (by rw [show q.size = 16 from hqs]; kernel_rfl) hqo ?_)
  refine bodyPost_ret (results_row_tmp2 rfl _ _ w.heap.size 22 q (0, 0) (.array 16 5) rfl (Blk.setAll H2.out rfl) Tryd.underlying22 rfl (by rw [show q.size = 16 from hqs]; kernel_rfl)) rfl ⟨by rw [HPR.out, ← HQ.out]; rfl, below_setCells _ _ _ HB.out (Nat.le_refl _)⟩
set_option maxRecDepth 100000 in
set_option maxHeartbeats 4000000 in
theorem rparse_long_q (q : Array Value) (hq : q = vc zeros) (s : ByteArray) (w : World) (hs : s.size = 22) :
    Calls Tryd.prog 11 #[.string s] w fun e w' => e = .returned (rparseV (bys s)) ∧ Below w.heap.size w w' := by
  have HQ := Lib.hid hq
  have hqs : q.size = 16 := by rw [hq, vc_size, zeros_len]
  have hqo : q.all (·.oneCell') = true := by rw [hq]; exact vc_one zeros
  have hne2 : ((s.size : Int) != 22) = false := by simp; omega
  obtain ⟨i3, hj, hy0, hy1, hy2⟩ := info_parts info3
  have hlen : ¬ (bys s).length ≠ 22 := by rw [bys_len, hs]; omega
  have HLEN := Lib.hid hlen
  clear hlen
  go_enter Tryd.func11, Tryd.ntmps11
  go_upto_region 1 with (fail)
  rw [zeros_vc, ← hq]
  clear hq
  have H2 := Lib.hid (Blk.new w 22 q)
  have HB := Lib.hid (show Below w.heap.size w (w.alloc (.cells q 22)) by go_grown)
  have hs1 : w.heap.size < (w.alloc (.cells q 22)).heap.size := by simp
  generalize w.alloc (.cells q 22) = w1 at *
  go_wp2_with fail
  go_loopw [5, 6] (fun s5 s6 wr => ∃ (i : Nat), i ≤ 22 ∧ s6 = .int .i64 i ∧ (∀ k, k < i → 0 ≤ vOf ((bys s).getD k 0)) ∧ wr.ownsRow w1.heap.size 3 1 s5 (6 * i) (iv (vbs (bys s) (6 * i))) ∧ Below w1.heap.size w1 wr) (fun _ i _ => 22 - (intOf i).toNat)
  case atStart => exact ⟨0, by omega, rfl, fun k hk => by omega, World.ownsRow_nil w1 _ _ _, Below.refl _ _⟩
  case round =>
    obtain ⟨i, hi, rfl, hok, ho, hbel⟩ := hrel
    have HOK := Lib.hid hok
    have HO := Lib.hid ho
    have HBE := Lib.hid hbel
    have hsz := hbel.size
    clear hok ho hbel
    obtain ⟨A3, c3, rfl⟩ := own_form HO.out
    by_cases hlt : i < 22
    · obtain ⟨c, hc⟩ : ∃ c, (s[i]'(by omega)).toNat = c := ⟨_, rfl⟩
      have hc9 : c < 256 := by rw [← hc]; exact UInt8.toNat_lt _
      have hcb : (bys s).getD i 0 = c := by rw [bys_get s i (by omega), hc]
      have hval := fun W => rvalue_any c W hc9
      have hge := vOf_ge c hc9
      have HCB := Lib.hid hcb
      obtain ⟨v, hv⟩ : ∃ v, vOf c = v := ⟨_, rfl⟩
      rw [hv] at hval hge
      have HV := Lib.hid hv
      clear hv hcb
      by_cases hneg : v < 0
      · have hpr : rparseV (bys s) = .tuple #[.agg (vc zeros), .int .i64 11, .int .i64 (i : Nat)] := by
          unfold rparseV parseR
          rw [if_neg HLEN.out, badAt_some hlt (by rw [HCB.out, HV.out]; exact hneg) HOK.out]
          rfl
        have HPR := Lib.hid hpr
        have H2b := Lib.hid (Blk.below H2.out HBE.out hs1)
        have ht2 := Blk.there (n := q.size) H2b.out rfl
        clear hpr
        go_wp2_with (first
          | (go_at_call 15; refine (hval _).mono ?_; rintro _ _ ⟨rfl, rfl⟩)
          | ((with_reducible (show wpList _ _ _ ({ dst := none, op := Op.store 22 _ _, type := _, pos := _, after := _, guard := _ } :: _) _ _)); refine wpList_store_mid rfl 22 (.tmp 2) (.tmp 26) rfl w.heap.size 0 q rfl ((show _ = Value.agg (vc zeros) from rfl).trans (by rw [HQ.out])) ht2 (by rw [show q.size = 16 from hqs]; kernel_rfl) hqo ?_))
        try simp only [go_sem]
        refine bodyPost_ret (results_row_tmp2 rfl _ _ w.heap.size 22 q (0, 0) (.array 16 5) rfl (Blk.setAll H2b.out rfl) Tryd.underlying22 rfl (by rw [show q.size = 16 from hqs]; kernel_rfl)) rfl ⟨by rw [HPR.out, ← HQ.out]; rfl, below_setCells _ _ _ (HB.out.trans (HBE.out.mono (Nat.le_of_lt hs1))) (Nat.le_refl _)⟩
      · obtain ⟨x, rfl⟩ : ∃ x : Nat, v = x := ⟨v.toNat, by omega⟩
        have hx64 : x < 64 := by
          have := (charN_vOf c hc9 (by rw [HV.out]; omega)).2
          rw [HV.out] at this; omega
        have hokn : ∀ k, k < i + 1 → 0 ≤ vOf ((bys s).getD k 0) := fun k hk => by
          rcases Nat.lt_or_ge k i with h | h
          · exact HOK.out k h
          · obtain rfl : k = i := by omega
            rw [HCB.out, HV.out]; omega
        have HOKN := Lib.hid hokn
        have hvb : ∀ t, t < 6 → vb (bys s) (6 * i + t) = x / 2 ^ (5 - t) % 2 := fun t ht => by
          unfold vb
          rw [show (6 * i + t) / 6 = i by omega, show (6 * i + t) % 6 = t by omega, HCB.out, HV.out, Int.toNat_natCast]
        have HVB := Lib.hid hvb
        clear hokn HOK hvb hneg
        obtain ⟨wo, rfl⟩ : ∃ wo : World, wo = wr := ⟨_, rfl⟩
        go_wp2_with (first
          | (go_at_call 15; refine (hval _).mono ?_; rintro _ _ ⟨rfl, rfl⟩))
        go_loopw [5, 8] (fun s5 s8 wr => ∃ (t : Nat), t ≤ 6 ∧ s8 = .int .i64 (5 - t) ∧ wr.ownsRow w1.heap.size 3 1 s5 (6 * i + t) (iv (vbs (bys s) (6 * i + t))) ∧ Below w1.heap.size w1 wr) (fun _ k _ => (intOf k + 1).toNat)
        case atStart => exact ⟨0, by omega, rfl, HO.out, HBE.out⟩
        case round =>
          clear HO HBE hsz hval
          obtain ⟨t, ht, rfl, ho, hbel⟩ := hrel
          have HO := Lib.hid ho
          have HBE := Lib.hid hbel
          have hsz := hbel.size
          clear ho hbel
          by_cases ht6 : t < 6
          · have hbt := HVB.out t ht6
            have HBT := Lib.hid hbt
            clear hbt
            have hk0 : (0 : Int) ≤ 5 - (t : Int) := by omega
            have hk7 : (5 - (t : Int)).toNat = 5 - t := by omega
            obtain ⟨hq0, hq9⟩ := pw_bd x (5 - t) (by omega)
            obtain ⟨A', c', rfl⟩ := own_form HO.out
            go_wp2_with (at_builtin; refine wpList_append_any _ rfl (.tmp 32) (.tmp 40) 44 rfl w1.heap.size 3 i3 (.int .i64 0) 1 8 Tryd.underlying44 hj hy0 hy1 hy2 rfl (by decide) _ _ _ rfl (HO.out.alloc _) (wr.heap.size + 1) (some ⟨wr.heap.size, 0, none⟩) 1 1 [.int .i64 ((x : Int) / 2 ^ (5 - t) % 2)] rfl ⟨rfl, fun _ => ⟨_, rfl, by simp, new_one _ _ _⟩⟩ (by simp [Value.oneCell']) (by unfold maxLen; omega) (by omega) (by simp; omega) ?_; intro v7 w7 hown7 hg7 hx7)
            have hb7 := below_own (HBE.out.alloc hsz _) (HO.out.alloc _) hg7 (Nat.le_refl _) (by simp; omega)
            have hown8 : w7.ownsRow w1.heap.size 3 1 v7 (6 * i + (t + 1)) (iv (vbs (bys s) (6 * i + (t + 1)))) := by
              rw [← Nat.add_assoc, vbs_next, HBT.out]
              push_cast
              exact hown7
            have HO8 := Lib.hid hown8
            have HB8 := Lib.hid hb7
            clear hown7 hg7 hb7 hown8 hx7
            go_wp2_with fail
            go_roundw
            case rel => exact ⟨t + 1, by omega, by congr 1; omega, HO8.out, HB8.out⟩
            case measure => simp [intOf]; omega
          · obtain rfl : t = 6 := by omega
            go_wp2_with fail
            go_roundw
            case rel => exact ⟨i + 1, by omega, by go_num, HOKN.out, HO.out, HBE.out⟩
            case measure => simp [intOf]; omega
    · obtain rfl : i = 22 := by omega
      obtain ⟨V, hV⟩ : ∃ V : Nat, (V : Int) = vOf ((bys s).getD 21 0) := ⟨(vOf ((bys s).getD 21 0)).toNat, by have := HOK.out 21 (by omega); omega⟩
      have hV64 : V < 64 := by
        have h21 : (bys s).getD 21 0 < 256 := by rw [bys_get s 21 (by omega)]; exact UInt8.toNat_lt _
        have := (charN_vOf _ h21 (HOK.out 21 (by omega))).2
        omega
      have HSP := Lib.hid (spare_iff (bys s) V hV64 hV)
      have HVV := Lib.hid hV
      have hnone := badAt_none HOK.out
      have HNONE := Lib.hid hnone
      have H2b := Lib.hid (Blk.below H2.out HBE.out hs1)
      have HBA := Lib.hid (HB.out.trans (HBE.out.mono (Nat.le_of_lt hs1)))
      clear hnone hV HOK
      go_wp2_with fail
      go_loopw [9] (fun s9 wx => ∃ (j : Nat), 128 ≤ j ∧ j ≤ 132 ∧ s9 = .int .i64 j ∧ (∀ k, 128 ≤ k → k < j → vb (bys s) k ≠ 1) ∧ wx = wr) (fun i _ => 132 - (intOf i).toNat)
      case atStart => exact ⟨128, by omega, by omega, rfl, fun k h1 h2 => by omega, rfl⟩
      case round =>
        obtain ⟨j, hj1, hj2, rfl, hno, rfl⟩ := hrel
        have HNO := Lib.hid hno
        clear hno
        by_cases hjl : j < 132
        · obtain ⟨bk, o, u, rfl, hbk, hu, hcu⟩ := (Reads.of_own HO.out).cell (k := j) (by omega)
          rw [vbs_get _ _ j (by omega)] at hu
          obtain rfl := Option.some.inj hu
          by_cases h1 : vb (bys s) j = 1
          · have hpr : rparseV (bys s) = .tuple #[.agg (vc zeros), .int .i64 11, .int .i64 21] := by
              unfold rparseV parseR
              rw [if_neg HLEN.out, HNONE.out]
              simp only
              rw [if_pos (by
                rw [← HVV.out, Int.toNat_natCast]
                intro h0
                exact HSP.out.1 h0 j hj1 hjl h1)]
              rfl
            have HPR := Lib.hid hpr
            have ht2 := Blk.there (n := q.size) H2b.out rfl
            rw [h1] at hcu
            clear hpr hu
            go_wp2_with ((with_reducible (show wpList _ _ _ ({ dst := none, op := Op.store 22 _ _, type := _, pos := _, after := _, guard := _ } :: _) _ _)); refine wpList_store_mid rfl 22 (.tmp 2) (.tmp 51) rfl w.heap.size 0 q rfl ((show _ = Value.agg (vc zeros) from rfl).trans (by rw [HQ.out])) ht2 (by rw [show q.size = 16 from hqs]; kernel_rfl) hqo ?_)
            try simp only [go_sem]
            refine bodyPost_ret (results_row_tmp2 rfl _ _ w.heap.size 22 q (0, 0) (.array 16 5) rfl (Blk.setAll H2b.out rfl) Tryd.underlying22 rfl (by rw [show q.size = 16 from hqs]; kernel_rfl)) rfl ⟨by rw [HPR.out, ← HQ.out]; rfl, below_setCells _ _ _ HBA.out (Nat.le_refl _)⟩
          · have hk1 := vb_le (bys s) j
            have hz : vb (bys s) j = 0 := by omega
            rw [hz] at hcu
            have HN2 := Lib.hid (show ∀ k, 128 ≤ k → k < j + 1 → vb (bys s) k ≠ 1 from fun k h2 h3 => by
              rcases Nat.lt_or_ge k j with h | h
              · exact HNO.out k h2 h
              · obtain rfl : k = j := by omega
                exact h1)
            clear hu HNO
            go_wp2_with fail
            go_roundw
            case rel => exact ⟨j + 1, by omega, by omega, by go_num, HN2.out, by simp⟩
            case measure => simp [intOf]; omega
        · obtain rfl : j = 132 := by omega
          have hpr : rparseV (bys s) = .tuple #[.agg (vc (parseL (bys s))), .int .i64 0, .int .i64 0] := by
            unfold rparseV parseR
            rw [if_neg HLEN.out, HNONE.out]
            simp only
            rw [if_neg (by
              rw [← HVV.out, Int.toNat_natCast]
              intro h0
              exact h0 (HSP.out.2 HNO.out))]
            rfl
          have HPR := Lib.hid hpr
          clear hpr
          have hc132 := own_cap HO.out (by omega)
          have hr : Reads wr wr.heap.size 1 A3 128 (iv (vbs (bys s) 128)) := reads_take (Reads.of_own HO.out) (by omega)
          have hof := of_any A3 128 c3 wr.heap.size (vbs (bys s) 128) wr hr (Nat.le_refl _) (by omega) (fun x hx => by
            simp only [vbs, List.mem_map] at hx
            obtain ⟨k, _, rfl⟩ := hx
            exact vb_le _ k)
          rw [of_vbs] at hof
          obtain ⟨p, hp⟩ : ∃ p, parseL (bys s) = p := ⟨_, rfl⟩
          have hpl : p.length = 16 := by rw [← hp]; exact parseL_len _
          rw [hp] at hof HPR
          obtain ⟨r, hrr⟩ : ∃ r, vc p = r := ⟨_, rfl⟩
          have hrs : r.size = 16 := by rw [← hrr, vc_size, hpl]
          have hro : r.all (·.oneCell') = true := by rw [← hrr]; exact vc_one p
          rw [hrr] at hof HPR
          clear hp hrr hr
          go_wp2_with (first | (go_at_call 18; refine hof.mono ?_; rintro _ w5 ⟨rfl, hb5⟩; refine Hid.out ?_))
          refine Lib.hid ?_
          have H5 := Lib.hid (And.intro (Blk.below H2b.out hb5 (Blk.lt H2b.out)) (HBA.out.trans (hb5.mono HBA.out.size)))
          have ht2 := Blk.there (n := r.size) H5.out.1 (by rw [hrs, hqs])
          clear hb5 hof
          go_wp2_with ((with_reducible (show wpList _ _ _ ({ dst := none, op := Op.store 22 _ _, type := _, pos := _, after := _, guard := _ } :: _) _ _)); refine wpList_store_mid rfl 22 (.tmp 2) (.tmp 54) rfl w.heap.size 0 r rfl rfl ht2 (by rw [show r.size = 16 from hrs]; kernel_rfl) hro ?_)
          try simp only [go_sem]
          refine bodyPost_ret (results_row_tmp2 rfl _ _ w.heap.size 22 r (0, 0) (.array 16 5) rfl (Blk.setAll H5.out.1 (by rw [hqs, hrs])) Tryd.underlying22 rfl (by rw [show r.size = 16 from hrs]; kernel_rfl)) rfl ⟨by rw [HPR.out]; rfl, below_setCells _ _ _ H5.out.2 (Nat.le_refl _)⟩
theorem rparse_any (s : ByteArray) (w : World) (hs : s.size ≤ maxLen) : Calls Tryd.prog 11 #[.string s] w fun e w' => e = .returned (rparseV (bys s)) ∧ Below w.heap.size w w' := by
  by_cases h : s.size = 22
  · exact rparse_long_q _ rfl s w h
  · exact rparse_short_q _ rfl s w hs h
end Go.Proofs.YtojfghfgaljkkaaDoor
