import Derived.Test.YtojfghfgaljkkaaDoorChr
import Derived.ArgAppend
namespace Go.Proofs.YtojfghfgaljkkaaDoor
open Go.ChangeShapes Go.WideShapes Go.ChangeAt Go.RowKit
set_option linter.unusedVariables false
set_option linter.unusedSimpArgs false
theorem info5 : (Tryd.prog.info? 5).map (fun i => (i.zero, i.size, i.bytes)) = some (some (.int .u8 0), 1, 1) := by kernel_rfl
def bys (s : ByteArray) : List Nat := s.data.toList.map UInt8.toNat
theorem bys_len (s : ByteArray) : (bys s).length = s.size := by simp [bys]
theorem grown_none2 {w w' : World} (hg : w.grownBy w' none) : Below w.heap.size w w' := ⟨hg.os, hg.tape, hg.output, hg.size, fun i hi => hg.block i hi (by simp)⟩
def capOf : Value → Nat
  | .slice _ _ c => c
  | _ => 0
theorem or256 (a c : Nat) (h : c < 256) : a * 256 ||| c = a * 256 + c := by
  have := Nat.two_pow_add_eq_or_of_lt (i := 8) (show c < 2 ^ 8 by omega) a
  rw [Nat.mul_comm, show (256 : Nat) = 2 ^ 8 by decide, ← this]
theorem ofInt_u32 (a : Nat) (ha : a < 4294967296) : (BitVec.ofInt 32 (a : Int)).toNat = a := by
  rw [BitVec.toNat_ofInt]; omega
theorem u32_or256 (H x : Nat) (hx : x < 256) : bits .or .u32 ((H : Int) * 256 % 4294967296) (x : Int) = (((H * 256 + x) % 4294967296 : Nat) : Int) := by
  have e : (H : Int) * 256 % 4294967296 = ((H % 16777216 * 256 : Nat) : Int) := by omega
  rw [e]
  have h1 : H % 16777216 * 256 ||| x = H % 16777216 * 256 + x := or256 _ _ hx
  have h2 : (H * 256 + x) % 4294967296 = H % 16777216 * 256 + x := by omega
  rw [h2, ← h1]
  exact u32_or_nat _ _ (by omega) (by omega)
theorem mod_div64 (n u : Nat) (hu : u ≤ 7) : n % 4294967296 / 2 ^ u % 64 = n / 2 ^ u % 64 := by
  rcases (show u = 0 ∨ u = 1 ∨ u = 2 ∨ u = 3 ∨ u = 4 ∨ u = 5 ∨ u = 6 ∨ u = 7 by omega) with rfl | rfl | rfl | rfl | rfl | rfl | rfl | rfl <;> omega
theorem u32_and63 (h u : Nat) (hh : h < 4294967296) : bits .and .u32 ((h : Int) / 2 ^ u) 63 = ((h / 2 ^ u % 64 : Nat) : Int) := by
  have e : (h : Int) / 2 ^ u = ((h / 2 ^ u : Nat) : Int) := by push_cast; rfl
  have := u32_and_nat (h / 2 ^ u) 63 (by have := Nat.div_le_self h (2 ^ u); omega) (by omega)
  rw [e]
  rw [show (h / 2 ^ u &&& 63) = h / 2 ^ u % 64 from Nat.and_two_pow_sub_one_eq_mod _ 6] at this
  exact this
theorem run_alph32 (v : Nat) (hv : v < 64) (W : World) : (Instr.index 9 (.string alphS) (.int .u32 (v : Nat))).run Tryd.prog W = .ok (.int .u8 (charN v : Nat)) W := by
  have h := run_alph v hv W
  rw [run_index_string (w := W) 9 alphS .i64 (v : Int) Tryd.underlying9, dif_pos ⟨by omega, by show (v : Int) < 64; omega⟩] at h
  rw [run_index_string (w := W) 9 alphS .u32 (v : Int) Tryd.underlying9, dif_pos ⟨by omega, by show (v : Int) < 64; omega⟩]
  exact h
def chV (l : List Nat) (e : Nat) : List Value := (List.range e).map fun i => Value.int .u8 (charN (gv (kb l) (6 * i) 6) : Nat)
theorem chV_next (l : List Nat) (e : Nat) : chV l (e + 1) = chV l e ++ [.int .u8 (charN (gv (kb l) (6 * e) 6) : Nat)] := by simp [chV, List.range_succ]
theorem iv8_get (l : List Nat) (j : Nat) {u : Value} (hu : ((vc l).toList)[j]? = some u) : (vc l)[j]? = some u := by simpa using hu
theorem bp_byte (l : List Nat) (h : ∀ x ∈ l, x < 256) (k : Nat) : bp (kb l) (8 * (k + 1)) = bp (kb l) (8 * k) * 256 + l.getD k 0 := by
  rw [show 8 * (k + 1) = 8 * k + 8 by omega, bp_add, kb_byte l h k]
theorem cells_two (w : World) (a b : Value) (t : TypeId) : ∀ j u, [a, b][j]? = some u → (w.alloc (.cells #[a, b] t)).cell? ((⟨w.heap.size, 0, none⟩ : Addr).add j) = some u := by
  intro j u hu
  rw [add_none, Nat.zero_add, Blk.cell (Blk.new w t #[a, b]) j]
  match j with
  | 0 => simpa using hu
  | 1 => simpa using hu
  | j + 2 => simp at hu
theorem printL_lt (l : List Nat) : ∀ x ∈ printL l, x < 256 := by
  intro x hx
  simp only [printL, List.mem_map] at hx
  obtain ⟨i, _, rfl⟩ := hx
  exact charN_lt _ (gv_lt _ (kb_le l) _ 6)
def str (l : List Nat) : ByteArray := ⟨(l.map UInt8.ofNat).toArray⟩
theorem bys_str (l : List Nat) (h : ∀ x ∈ l, x < 256) : bys (str l) = l := by
  unfold bys str
  simp only [List.map_map]
  conv => rhs; rw [← List.map_id l]
  apply List.map_congr_left
  intro x hx
  have := h x hx
  simp
  omega
theorem run_conv_own {w : World} {base n c : Nat} {A : Option Addr} {xs : List Value} {l : List Nat} (h : w.ownsRow base 5 1 (.slice A n c) n xs) (hx : xs = l.map fun (x : Nat) => Value.int .u8 x) (hl : ∀ x ∈ l, x < 256) (h0 : 0 < n) :
    (convert 38 9 (.slice A n c)).run Tryd.prog w = .ok (.string (str l)) w := by
  subst hx
  have hlen : l.length = n := by have := h.1; simpa using this
  obtain ⟨g, cap, hv, _, hlt⟩ := h.form h0
  have hA : A = some ⟨g, 0, none⟩ := by injection hv
  subst hA
  have := run_convert_bytes_back (P := Tryd.prog) w 38 9 5 ⟨g, 0, none⟩ c (l.map UInt8.ofNat) Tryd.underlying38 Tryd.underlying5 Tryd.underlying9 (fun j hj => by
    have hj' : j < l.length := by simpa using hj
    have hc := h.cells (g := g) rfl j (.int .u8 ((l[j] : Nat) : Int)) (by simp [hj'])
    rw [hc]
    have := hl _ (List.getElem_mem hj')
    simp
    omega)
  rw [show (l.map UInt8.ofNat).length = n by simp [hlen]] at this
  exact this
set_option maxRecDepth 100000 in
set_option maxHeartbeats 4000000 in
theorem print_any (l : List Nat) (w : World) (hl : l.length = 16) (h9 : ∀ x ∈ l, x < 256) :
    Calls Tryd.prog 8 #[.agg (vc l)] w fun e w' => (∃ s, e = .returned (.string s) ∧ bys s = printL l) ∧ Below w.heap.size w w' := by
  obtain ⟨q, hq⟩ : ∃ q, q = vc l := ⟨_, rfl⟩
  rw [← hq]
  have HQ := Lib.hid hq
  have hqs : q.size = 16 := by rw [hq, vc_size, hl]
  clear hq
  obtain ⟨i0, hi, hz0, hz1, hz2⟩ := info_parts info5
  go_enter Tryd.func8, Tryd.ntmps8
  go_upto_region 3 with (fail)
  have hB0 := Blk.new w 22 q
  have hb0 : Below w.heap.size w (w.alloc (.cells q 22)) := (Below.refl _ w).alloc (Nat.le_refl _) _
  have hs0 : (w.alloc (.cells q 22)).heap.size = w.heap.size + 1 := by simp
  obtain ⟨w1, hw1⟩ : ∃ w1, w.alloc (.cells q 22) = w1 := ⟨_, rfl⟩
  rw [hw1] at hB0 hb0 hs0
  rw [hw1]
  have HB0 := Lib.hid hB0
  have Hb0 := Lib.hid hb0
  clear hw1 hB0 hb0
  have hold : ∀ j u, q.toList[j]? = some u → (w1.alloc (.cells #[.int .u8 0, .int .u8 0] 5)).cell? ⟨w.heap.size, 0 + j, none⟩ = some u := by
    intro j u hu
    rw [Nat.zero_add, Blk.cell (Blk.alloc HB0.out _) j]; simpa using hu
  have hnew := cells_two w1 (.int .u8 0) (.int .u8 0) 5
  rw [hs0] at hnew
  have HOLD := Lib.hid (And.intro hold hnew)
  clear hold hnew
  go_wp2_with (at_builtin; refine wpList_append_grows _ rfl (.tmp 8) (.tmp 9) 38 rfl 5 i0 (.int .u8 0) 1 1 Tryd.underlying38 hi hz0 hz1 hz2 rfl (by decide) (some ⟨w.heap.size, 0, none⟩) 16 16 q.toList rfl (by simp) (by simpa using hqs) (fun b hb j u hu => by obtain rfl := Option.some.inj hb; rw [add_none]; exact HOLD.out.1 j u hu) ⟨w.heap.size + 1, 0, none⟩ 2 2 [.int .u8 0, .int .u8 0] rfl rfl HOLD.out.2 (by simp [Value.oneCell']) (by omega) (by unfold maxLen; omega) (by omega) ?_; intro v2 w2 ho2 hg2; refine Hid.out ?_)
  refine Lib.hid ?_
  have hs2 := hg2.size
  have hb2 : Below w.heap.size w w2 := (Hb0.out.alloc (by omega) _).trans ((grown_none2 hg2).mono (by simp; omega))
  have hl18 : ∀ x ∈ l ++ [0, 0], x < 256 := by
    intro x hx
    rcases List.mem_append.1 hx with h | h
    · exact h9 x h
    · simp at h; omega
  have ho3 : w2.ownsRow (w1.alloc (.cells #[.int .u8 0, .int .u8 0] 5)).heap.size 5 1 v2 18 ((l ++ [0, 0]).map fun (x : Nat) => Value.int .u8 x) := by
    have e : q.toList ++ [.int .u8 0, .int .u8 0] = (l ++ [0, 0]).map fun (x : Nat) => Value.int .u8 x := by rw [HQ.out]; simp [vc]
    rw [← e]; exact ho2
  obtain ⟨A2, c2, rfl⟩ := own_form ho3
  have HY := Lib.hid (Bys.of_own ho3 hl18)
  have HB2 := Lib.hid hb2
  have H9 := Lib.hid h9
  have HL := Lib.hid hl
  clear ho2 ho3 hg2 hb2 HOLD HB0 Hb0 HQ hqs hl18 hs0 h9 hl
  go_wp2_with fail
  go_loopw [3, 4, 5, 12] (fun s3 s4 s5 s12 wr => ∃ (k e : Nat), k ≤ 18 ∧ e ≤ 22 ∧ 6 * e ≤ 8 * k ∧ (8 * k - 6 * e < 6 ∨ e = 22) ∧ s4 = .int .u32 ((bp (kb l) (8 * k) % 4294967296 : Nat) : Int) ∧ s5 = .int .i64 ((8 * k - 6 * e : Nat) : Int) ∧ s12 = .int .i64 k ∧ wr.ownsRow w2.heap.size 5 1 s3 e (chV l e) ∧ Below w2.heap.size w2 wr) (fun _ _ _ i _ => 18 - (intOf i).toNat)
  case atStart => exact ⟨0, 0, by omega, by omega, by omega, by omega, rfl, rfl, rfl, World.ownsRow_nil w2 _ _ _, Below.refl _ _⟩
  case round =>
    obtain ⟨k, e, hk, he, hke, hke2, rfl, rfl, rfl, ho, hbel⟩ := hrel
    have HO := Lib.hid ho
    have HBE := Lib.hid hbel
    clear ho hbel
    obtain ⟨A3, c3, rfl⟩ := own_form HO.out
    by_cases hlt : k < 18
    · obtain ⟨bk, o, x, rfl, hbl, hbx, hx9, hcx⟩ := Bys.cell HY.out hlt
      have hc1 := (HBE.out.cell (p := ⟨bk, o + k, none⟩) hbl).trans hcx
      clear hcx
      obtain ⟨H, hH⟩ : ∃ H, bp (kb l) (8 * k) % 4294967296 = H := ⟨_, rfl⟩
      have hHl : H < 4294967296 := by omega
      rw [hH]
      obtain ⟨V, hV⟩ : ∃ V, 8 * k - 6 * e = V := ⟨_, rfl⟩
      rw [hV]
      have hV1 : V ≤ 12 := by omega
      have HV := Lib.hid hV
      have HH := Lib.hid hH
      clear hV hH
      have hor := u32_or256 H x hx9
      go_wp2_with fail
      obtain ⟨H2, hH2⟩ : ∃ H2, (H * 256 + x) % 4294967296 = H2 := ⟨_, rfl⟩
      have hz : ((H : Int) * 256 + (x : Int)) % 4294967296 = (H2 : Int) := by omega
      simp only [hz]
      have hxl : l.getD k 0 = x := by
        rw [List.getD]
        rcases Nat.lt_or_ge k l.length with h | h
        · rw [List.getElem?_append_left h] at hbx; rw [hbx]; rfl
        · rw [List.getElem?_append_right h] at hbx
          rw [List.getElem?_eq_none h]
          have := HL.out
          rcases (show k = 16 ∨ k = 17 by omega) with rfl | rfl <;> (rw [this] at hbx; simp at hbx; subst hbx; rfl)
      have hH2b : bp (kb l) (8 * (k + 1)) % 4294967296 = H2 := by
        rw [bp_byte l H9.out k, hxl, ← hH2, ← HH.out]; omega
      have HH2 := Lib.hid hH2b
      clear hz hxl hH2b hH2 hbx hor HH hc1
      have hV8 : ((V : Int) + 8) = ((8 * (k + 1) - 6 * e : Nat) : Int) := by have := HV.out; omega
      simp only [hV8]
      clear hV8
      have hV13 : 8 * (k + 1) - 6 * e ≤ 13 := by have := HV.out; omega
      obtain ⟨wo, rfl⟩ : ∃ wo : World, wo = wr := ⟨_, rfl⟩
      go_loopw [3, 5] (fun s3 s5 wr => ∃ (e : Nat), e ≤ 22 ∧ 6 * e ≤ 8 * (k + 1) ∧ 8 * (k + 1) - 6 * e ≤ 13 ∧ s5 = .int .i64 ((8 * (k + 1) - 6 * e : Nat) : Int) ∧ wr.ownsRow w2.heap.size 5 1 s3 e (chV l e) ∧ Below w2.heap.size w2 wr) (fun _ s _ => (intOf s).toNat)
      case atStart => exact ⟨e, he, by omega, hV13, rfl, HO.out, HBE.out⟩
      case round =>
        clear HO HBE hV13 he hke hke2 hV1 HV
        obtain ⟨e, he, hke, hV13, rfl, ho, hbel⟩ := hrel
        have HO := Lib.hid ho
        have HBE := Lib.hid hbel
        have hsz := hbel.size
        clear ho hbel
        obtain ⟨A4, c4, rfl⟩ := own_form HO.out
        obtain ⟨V2, hV2⟩ : ∃ V2, 8 * (k + 1) - 6 * e = V2 := ⟨_, rfl⟩
        rw [hV2] at hV13 ⊢
        have HV2 := Lib.hid hV2
        by_cases h6 : 6 ≤ V2
        · by_cases h22 : e < 22
          · obtain ⟨U, rfl⟩ : ∃ U, V2 = U + 6 := ⟨V2 - 6, by omega⟩
            clear hV2 h6
            obtain ⟨G, hG⟩ : ∃ G, gv (kb l) (6 * e) 6 = G := ⟨_, rfl⟩
            have hG64 : G < 64 := by rw [← hG]; exact gv_lt _ (kb_le l) _ 6
            have hand : bits .and .u32 ((H2 : Int) / 2 ^ U) 63 = (G : Int) := by
              rw [u32_and63 H2 U (by have := HH2.out; omega), ← hG, ← HH2.out, mod_div64 _ _ (by omega)]
              have ht := take_bits (kb l) (kb_le l) (8 * (k + 1)) (6 * e) 6 (by have := HV2.out; omega)
              rw [show 8 * (k + 1) - (6 * e + 6) = U by have := HV2.out; omega] at ht
              rw [← ht]
            have hal := fun W => run_alph32 G hG64 W
            unfold alphS at hal
            have HG := Lib.hid hG
            clear hG
            go_wp2_with (at_builtin; refine wpList_append_any _ rfl (.tmp 32) (.tmp 38) 38 rfl w2.heap.size 5 i0 (.int .u8 0) 1 1 Tryd.underlying38 hi hz0 hz1 hz2 rfl (by decide) _ _ _ rfl (HO.out.alloc _) (wr.heap.size + 1) (some ⟨wr.heap.size, 0, none⟩) 1 1 [.int .u8 (charN G : Nat)] rfl ⟨rfl, fun _ => ⟨_, rfl, by simp, new_one _ _ _⟩⟩ (by simp [Value.oneCell']) (by unfold maxLen; omega) (by omega) (by simp; omega) ?_; intro v7 w7 ho7 hg7 hx7)
            have hb7 := below_own (HBE.out.alloc hsz _) (HO.out.alloc _) hg7 (Nat.le_refl _) (by simp; omega)
            have ho8 : w7.ownsRow w2.heap.size 5 1 v7 (e + 1) (chV l (e + 1)) := by rw [chV_next, HG.out]; exact ho7
            have H7 := Lib.hid (And.intro ho8 hb7)
            clear ho7 hg7 hx7 hb7 ho8
            go_wp2_with fail
            go_roundw
            case rel => exact ⟨e + 1, by omega, by have := HV2.out; omega, by have := HV2.out; omega, by congr 1; have := HV2.out; omega, H7.out.1, H7.out.2⟩
            case measure => simp [intOf]; omega
          · obtain rfl : e = 22 := by omega
            clear hV2
            go_wp2_with fail
            go_roundw
            case rel => exact ⟨k + 1, 22, by omega, by omega, by omega, by omega, by rw [HH2.out], by rw [← HV2.out], by go_num, HO.out, HBE.out⟩
            case measure => simp [intOf]; omega
        · clear hV2
          go_wp2_with fail
          go_roundw
          case rel => exact ⟨k + 1, e, by omega, by omega, by omega, by have := HV2.out; omega, by rw [HH2.out], by rw [← HV2.out], by go_num, HO.out, HBE.out⟩
          case measure => simp [intOf]; omega
    · obtain rfl : k = 18 := by omega
      have he22 : e = 22 := by omega
      subst he22
      clear hke hke2 hlt
      have hcv := run_conv_own (HO.out) (show chV l 22 = (printL l).map fun (x : Nat) => Value.int .u8 x by simp [chV, printL]) (printL_lt l) (by omega)
      have HBB := Lib.hid (HB2.out.trans (HBE.out.mono HB2.out.size))
      clear HO HBE
      go_wp2_with fail
      go_ret
      exact ⟨⟨_, rfl, bys_str _ (printL_lt l)⟩, HBB.out⟩
end Go.Proofs.YtojfghfgaljkkaaDoor
