import Derived.Test.YtbifakhalnkfbaaDoorDec
namespace Go.Proofs.YtbifakhalnkfbaaDoor
open Go.ChangeShapes Go.WideShapes Go.ChangeAt Go.RowKit Go.Sort
set_option linter.unusedVariables false
set_option linter.unusedSimpArgs false
set_option maxRecDepth 100000 in
set_option maxHeartbeats 4000000 in
theorem decimal_any (s : ByteArray) (w : World) (hT : Tab w) (hs : s.size ≤ 281474976710656) : Calls Tryd.prog 18 #[.string s] w fun e w' => e = .returned (.tuple #[.int .u64 (decN s), .bool (decB s)]) ∧ Below w.heap.size w w' := by
  cases hp : Lib.parseUintB 64 s.data.toList with
  | ok u =>
    have hu := pu_lt hp
    have hc := (Tryd.strconv_ParseUint_10_at64_ok s (by omega) u hp w).mono (R' := fun e w' => e = .returned (.tuple #[.int .u64 u, .nilIface]) ∧ Below w.heap.size w w') fun e w' ⟨he, hw⟩ => ⟨he, by
      rcases hw with rfl | rfl
      · exact Below.refl _ _
      · exact Lib.bytesWorld_below w 5 s⟩
    have hf : ∀ W, Below w.heap.size w W → Calls Tryd.prog 22 #[.int .u64 u, .int .i64 10] W fun e w' => e = .returned (.string (decS u)) ∧ Below W.heap.size W w' := fun W hb => fuint_any u W hu (hT.pow.below hb)
    have HF := Lib.hid hf
    have HD := Lib.hid (dec_parsed hp)
    clear hT hp hs hu hf
    by_cases he : decS u = s
    · have HE := Lib.hid he
      clear he
      go_enter Tryd.func18, Tryd.ntmps18
      go_wp2_with (go_at_call 37; refine hc.mono ?_; rintro _ w1 ⟨rfl, hb⟩; refine Hid.out ?_)
      refine Lib.hid ?_
      have HB := Lib.hid hb
      have hf1 := HF.out w1 hb
      rw [HE.out] at hf1
      clear hc hb
      go_wp2_with (go_at_call 22; refine hf1.mono ?_; rintro _ w2 ⟨rfl, hb2⟩; refine Hid.out ?_)
      refine Lib.hid ?_
      clear hf1
      go_wp2_with fail
      go_ret2
      exact ⟨by rw [(HD.out.1 HE.out).1, (HD.out.1 HE.out).2]; rfl, HB.out.trans (hb2.mono HB.out.size)⟩
    · have HE := Lib.hid he
      obtain ⟨t, ht⟩ : ∃ t, decS u = t := ⟨_, rfl⟩
      have h1 : (t.toList == s.toList) = false := toList_ne (by rw [← ht]; exact he)
      rw [ht] at HF
      clear he ht
      go_enter Tryd.func18, Tryd.ntmps18
      go_wp2_with (go_at_call 37; refine hc.mono ?_; rintro _ w1 ⟨rfl, hb⟩; refine Hid.out ?_)
      refine Lib.hid ?_
      have HB := Lib.hid hb
      have hf1 := HF.out w1 hb
      clear hc hb
      go_wp2_with (go_at_call 22; refine hf1.mono ?_; rintro _ w2 ⟨rfl, hb2⟩; refine Hid.out ?_)
      refine Lib.hid ?_
      clear hf1
      go_wp2_with fail
      go_ret2
      exact ⟨by rw [(HD.out.2 HE.out).1, (HD.out.2 HE.out).2]; rfl, HB.out.trans (hb2.mono HB.out.size)⟩
  | «syntax» =>
    obtain ⟨tp, p, hv⟩ := hT.syn
    have hc := Tryd.strconv_ParseUint_10_at64_syntax_var s hs hp tp p w hv
    have HD := Lib.hid (dec_unparsed (s := s) (fun u hu => by rw [hp] at hu; cases hu))
    clear hT hp hs hv
    go_enter Tryd.func18, Tryd.ntmps18
    go_wp2_with (go_at_call 37; refine hc.mono ?_; rintro _ w1 ⟨N, rfl, _, _, hb⟩; refine Hid.out ?_)
    refine Lib.hid ?_
    clear hc
    have HB := Lib.hid hb
    clear hb
    go_wp2_with fail
    go_ret2
    exact ⟨by rw [HD.out.1, HD.out.2]; rfl, HB.out⟩
  | range =>
    obtain ⟨tp, p, hv⟩ := hT.rng
    have hc := Tryd.strconv_ParseUint_10_at64_range_var s hs hp tp p w hv
    have HD := Lib.hid (dec_unparsed (s := s) (fun u hu => by rw [hp] at hu; cases hu))
    clear hT hp hs hv
    go_enter Tryd.func18, Tryd.ntmps18
    go_wp2_with (go_at_call 37; refine hc.mono ?_; rintro _ w1 ⟨N, rfl, _, _, hb⟩; refine Hid.out ?_)
    refine Lib.hid ?_
    clear hc
    have HB := Lib.hid hb
    clear hb
    go_wp2_with fail
    go_ret2
    exact ⟨by rw [HD.out.1, HD.out.2]; rfl, HB.out⟩
theorem w64 (z : Int) : IntKind.u64.wrap z = z % 18446744073709551616 := by
  first | rfl | (unfold IntKind.wrap; simp) | (simp [IntKind.wrap]; done)
set_option maxRecDepth 100000 in
set_option maxHeartbeats 4000000 in
theorem rdecimal_any (s : ByteArray) (w : World) (hs : s.size ≤ maxLen) : Calls Tryd.prog 20 #[.string s] w fun e w' => e = .returned (.tuple #[.int .u64 (decN s), .bool (decB s)]) ∧ Below w.heap.size w w' := by
  have hm : s.size ≤ 9223372036854775807 := by unfold maxLen at hs; omega
  have hb := bys_len s
  clear hs
  go_enter Tryd.func20, Tryd.ntmps20
  go_wp2_with fail
  go_loopw [5, 4] (fun j n wr => ∃ (i m : Nat), j = .int .i64 i ∧ n = .int .u64 m ∧ i ≤ s.size ∧ (0 < i → s.size ≤ 20) ∧ m = dv (s.data.toList.take i) % 18446744073709551616 ∧ wr = w) (fun j n _ => s.size - (intOf j).toNat)
  case atStart => exact ⟨0, 0, rfl, rfl, by omega, by omega, rfl, rfl⟩
  case round =>
    obtain ⟨i, m, rfl, rfl, hi, hl, hm, rfl⟩ := hrel
    have HL := Lib.hid hl
    have HM := Lib.hid hm
    have hm64 : m < 18446744073709551616 := by rw [hm]; exact Nat.mod_lt _ (by decide)
    clear hl hm
    by_cases hlt : i < s.size
    · obtain ⟨x, hx⟩ : ∃ x, s[i].toNat = x := ⟨_, rfl⟩
      have hx9 : x < 256 := by rw [← hx]; exact s[i].toNat_lt
      have hix : ∀ W : World, (Instr.index 9 (.string s) (.int .i64 (i : Int))).run Tryd.prog W = .ok (.int .u8 (x : Int)) W := fun W => by
        rw [run_index_string (w := W) 9 s .i64 (i : Int) Tryd.underlying9, dif_pos ⟨by omega, by omega⟩]
        have : s[(i : Int).toNat]'(by omega) = s[i] := by congr 1
        rw [← hx]
        rfl
      have hc0 : s.data.toList[i]? = some s[i] := by simp [hlt]; rfl
      have HX := Lib.hid (And.intro hx hc0)
      clear hx hc0
      by_cases h1 : x < 48
      · have HN := Lib.hid (dec_bad (List.mem_of_getElem? HX.out.2) (.inl (by rw [HX.out.1]; exact h1)))
        go_wp2_with fail
        go_ret2
        exact ⟨by rw [HN.out.1, HN.out.2]; rfl, Below.refl _ _⟩
      by_cases h2 : 57 < x
      · have HN := Lib.hid (dec_bad (List.mem_of_getElem? HX.out.2) (.inr (by rw [HX.out.1]; exact h2)))
        have h3 : 48 ≤ x := by omega
        clear h1
        go_wp2_with fail
        go_ret2
        exact ⟨by rw [HN.out.1, HN.out.2]; rfl, Below.refl _ _⟩
      by_cases h3 : 20 < s.size
      · have HN := Lib.hid (dec_long h3)
        have h4 : 48 ≤ x := by omega
        have h5 : x ≤ 57 := by omega
        have h6 : (20 : Int) < (s.size : Int) := by omega
        clear h1 h2
        go_wp2_with fail
        go_ret2
        exact ⟨by rw [HN.out.1, HN.out.2]; rfl, Below.refl _ _⟩
      have h4 : 48 ≤ x := by omega
      have h5 : x ≤ 57 := by omega
      have h6 : (s.size : Int) ≤ 20 := by omega
      obtain ⟨q, hq⟩ : ∃ q : Nat, 10 * m % 18446744073709551616 = q := ⟨_, rfl⟩
      obtain ⟨r, hr⟩ : ∃ r : Nat, (q + (x - 48)) % 18446744073709551616 = r := ⟨_, rfl⟩
      have w1 : IntKind.u64.wrap (10 * (m : Int)) = (q : Int) := by rw [w64, ← hq]; omega
      have w2 : IntKind.u8.wrap ((x : Int) - 48) = (x : Int) - 48 := IntWalk.u8_in _ (by omega)
      have w3 : IntKind.u64.wrap ((x : Int) - 48) = (x : Int) - 48 := IntWalk.u64_in _ (by omega)
      have w4 : IntKind.u64.wrap ((q : Int) + ((x : Int) - 48)) = (r : Int) := by rw [w64, ← hr]; omega
      have HN := Lib.hid (show r = dv (s.data.toList.take (i + 1)) % 18446744073709551616 by
        have e1 := HM.out
        have e2 := HX.out.1
        rw [dv_next HX.out.2, e2, ← hr, ← hq, e1]
        omega)
      clear hq hr h1 h2 h3
      go_wp2_with fail
      go_roundw
      case rel => exact ⟨i + 1, r, by first | rfl | go_num, by first | rfl | go_num, by omega, fun _ => by omega, HN.out, by first | rfl | trivial⟩
      case measure => simp [intOf]; omega
    · have hie : i = s.size := by omega
      have HD := Lib.hid (show m = decM s ∧ (decS m = s → decB s = true ∧ decN s = m) ∧ (decS m ≠ s → decB s = false ∧ decN s = 0) by
        have e : m = decM s := by
          rw [HM.out, hie, List.take_of_length_le (by simp)]
          rfl
        refine ⟨e, fun h => ?_, fun h => ?_⟩
        · have hb : decB s = true := decide_eq_true (by rw [← e]; exact h)
          exact ⟨hb, by unfold decN; rw [if_pos hb, e]⟩
        · have hb : decB s = false := decide_eq_false (by rw [← e]; exact h)
          exact ⟨hb, by unfold decN; rw [hb]; rfl⟩)
      have hn := number_any m wr hm64
      subst hie
      by_cases he : decS m = s
      · have HE := Lib.hid he
        rw [he] at hn
        clear he
        go_wp2_with (go_at_call 19; refine hn.mono ?_; rintro _ w2 ⟨rfl, hb2⟩; refine Hid.out ?_)
        refine Lib.hid ?_
        clear hn
        go_wp2_with fail
        go_ret2
        exact ⟨by rw [(HD.out.2.1 HE.out).1, (HD.out.2.1 HE.out).2]; rfl, hb2⟩
      · have HE := Lib.hid he
        obtain ⟨t, ht⟩ : ∃ t, decS m = t := ⟨_, rfl⟩
        have h1 : (t.toList == s.toList) = false := toList_ne (by rw [← ht]; exact he)
        rw [ht] at hn
        clear he ht
        go_wp2_with (go_at_call 19; refine hn.mono ?_; rintro _ w2 ⟨rfl, hb2⟩; refine Hid.out ?_)
        refine Lib.hid ?_
        clear hn
        go_wp2_with fail
        go_ret2
        exact ⟨by rw [(HD.out.2.2 HE.out).1, (HD.out.2.2 HE.out).2]; rfl, hb2⟩
end Go.Proofs.YtbifakhalnkfbaaDoor
