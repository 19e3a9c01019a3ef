import Derived.Test.YtbkgmeopdcealaaDoorLwf
namespace Go.Proofs.YtbkgmeopdcealaaDoor
open Go.ChangeShapes Go.WideShapes Go.ChangeAt Go.RowKit Go.Sort Go.Deep
set_option linter.unusedVariables false
set_option linter.unusedSimpArgs false
theorem lim_text (o : Op) (W : World) (b : Bool) (hT : Tab W) (hO : OpOk W o) (hn : o.n ≤ 2500) (ha : o.ad.size ≤ 5000) (hb : b = true ↔ RP o.p) :
    Calls Tryd.prog 12 #[o.v] W fun e w' => (∃ S, e = .returned (.tuple #[.string S, .bool b])) ∧ Below W.heap.size W w' :=
  (text_any o W hT hO hn ha).mono fun e w' ⟨h1, h2⟩ => ⟨by
    cases h1 with
    | yes h => obtain rfl := hb.2 h; exact ⟨_, rfl⟩
    | no h =>
      cases b with
      | true => exact absurd (hb.1 rfl) h
      | false => exact ⟨_, rfl⟩, h2⟩
theorem small_ok (W : World) (k n m : Int) (hk0 : 0 ≤ k) (hk1 : k ≤ 100) (hn0 : -9223372036854775808 ≤ n) (hn1 : n ≤ 9223372036854775807) (hm0 : -9223372036854775808 ≤ m) (hm1 : m ≤ 9223372036854775807) : OpOk W ⟨k, 0, n, m, none, 0, 0, [], em⟩ :=
  ⟨Bys.none_ W, Nat.le_refl _, by show 0 ≤ maxLen; decide, by simp only; omega, by simp only; omega, by simp only; omega, by simp only; omega, hn0, hn1, hm0, hm1, by show em.size ≤ maxLen; decide⟩
theorem rp4 (n : Int) : RP ⟨4, 0, n, 0, [], em⟩ ↔ 0 ≤ n ∧ n ≤ 999 := by
  constructor
  · intro h; have h1 := (rp_s h).n0; have h2 := (rp_s h).n1; simp only at h1 h2; omega
  · rintro ⟨h0, h1⟩; exact rp_num (k := 4) (by omega) (by omega) h0 (by show n ≤ ((most 4 : Nat) : Int); unfold most; simp; omega)
theorem rp2 (n : Int) : RP ⟨2, 0, n, 0, [], em⟩ ↔ 0 ≤ n ∧ n ≤ 1048576 := by
  constructor
  · intro h; have h1 := (rp_s h).n0; have h2 := (rp_s h).n1; simp only at h1 h2; omega
  · rintro ⟨h0, h1⟩; exact rp_num (k := 2) (by omega) (by omega) h0 (by show n ≤ ((most 2 : Nat) : Int); unfold most; simp; omega)
theorem rp6 (n : Int) : RP ⟨6, 0, 0, n, [], em⟩ ↔ 0 ≤ n ∧ n ≤ 999 := by
  constructor
  · intro h; have h1 := (rp_s h).m0; have h2 := (rp_s h).m1; simp only at h1 h2; omega
  · rintro ⟨h0, h1⟩; exact rp_swap (by omega) (by omega) h0 h1
theorem rp1 (k : Nat) : RP ⟨1, 0, 0, 0, List.replicate k 0, em⟩ ↔ k ≤ 1300 := by
  constructor
  · intro h; have h1 := (rp_s h).b.1; simpa using h1
  · intro h; exact .send 0 _ (.inl rfl) ⟨by simpa using h, fun x hx => by rw [(List.mem_replicate.1 hx).2]; decide⟩
theorem zeros (k : Nat) : (madeCells #[(.int .u8 0 : Value)] (k * 1)).toList = (List.replicate k 0).map fun (x : Nat) => Value.int .u8 x := by
  rw [Nat.mul_one, toList_madeCells_one, List.map_replicate]; rfl
set_option maxRecDepth 100000 in
set_option maxHeartbeats 3000000 in
/-- ScriptLimits. -/
theorem limits_any (n : Int) (sz : Nat) (w : World) (hT : Tab w) (hn0 : -9223372036854775808 ≤ n) (hn1 : n ≤ 9223372036854775807) (hs : sz < 65536) :
    Calls Tryd.prog 4 #[.int .i64 n, .int .u16 sz] w fun e w' => e = .returned (.bool true) ∧ Below w.heap.size w w' := by
  obtain ⟨i0, hi, hz0, hz1, hz2⟩ := info_parts info5
  have haw := awake_any w hT
  have HT := Lib.hid hT
  have hcv : IntKind.i64.wrap (sz : Int) = (sz : Int) := IntWalk.i64_in _ (by omega)
  obtain ⟨r, hr⟩ : ∃ r, sz % 20 = r := ⟨_, rfl⟩
  have hr20 : r < 20 := by omega
  have htm : (sz : Int).tmod 20 = (r : Int) := by rw [Int.tmod_eq_emod_of_nonneg (by omega)]; omega
  obtain ⟨k, hk⟩ : ∃ k, 1290 + r = k := ⟨_, rfl⟩
  have hkw : IntKind.i64.wrap (1290 + (r : Int)) = (k : Int) := by rw [IntWalk.i64_in _ (by omega)]; omega
  have hkb : k ≤ 1309 := by omega
  obtain ⟨b1, hb1⟩ : ∃ b, decide (0 ≤ n ∧ n ≤ 999) = b := ⟨_, rfl⟩
  obtain ⟨b2, hb2⟩ : ∃ b, decide (0 ≤ n ∧ n ≤ 1048576) = b := ⟨_, rfl⟩
  obtain ⟨b3, hb3⟩ : ∃ b, decide (k ≤ 1300) = b := ⟨_, rfl⟩
  have q1 : b1 = true ↔ 0 ≤ n ∧ n ≤ 999 := by rw [← hb1]; exact decide_eq_true_iff
  have q2 : b2 = true ↔ 0 ≤ n ∧ n ≤ 1048576 := by rw [← hb2]; exact decide_eq_true_iff
  have q3 : b3 = true ↔ k ≤ 1300 := by rw [← hb3]; exact decide_eq_true_iff
  have HC := Lib.hid (And.intro q1 (And.intro q2 q3))
  have HN := Lib.hid (And.intro hn0 hn1)
  clear hT hr hk hb1 hb2 hb3 q1 q2 q3 hr20 hs
  go_enter Tryd.func4, Tryd.ntmps4
  go_wp2_with (go_at_call 9; refine haw.mono ?_; rintro _ w1 ⟨rfl, hb⟩; refine Hid.out ?_)
  refine Lib.hid ?_
  have B1 := Lib.hid hb
  have ht := lim_text ⟨4, 0, n, 0, none, 0, 0, [], em⟩ w1 b1 (HT.out.below B1.out) (small_ok w1 4 n 0 (by omega) (by omega) HN.out.1 HN.out.2 (by omega) (by omega)) (by show 0 ≤ 2500; omega) (by show em.size ≤ 5000; decide) (HC.out.1.trans (rp4 n).symm)
  unfold Op.v at ht
  simp only at ht
  rw [show em = (⟨#[]⟩ : ByteArray) from rfl] at ht
  clear hb haw
  go_wp2_with (go_at_call 12; refine ht.mono ?_; rintro _ w2 ⟨⟨S2, rfl⟩, hb⟩; refine Hid.out ?_)
  refine Lib.hid ?_
  have B2 := Lib.hid (thru B1.out hb)
  have ht := lim_text ⟨2, 0, n, 0, none, 0, 0, [], em⟩ w2 b2 (HT.out.below B2.out) (small_ok w2 2 n 0 (by omega) (by omega) HN.out.1 HN.out.2 (by omega) (by omega)) (by show 0 ≤ 2500; omega) (by show em.size ≤ 5000; decide) (HC.out.2.1.trans (rp2 n).symm)
  unfold Op.v at ht
  simp only at ht
  rw [show em = (⟨#[]⟩ : ByteArray) from rfl] at ht
  clear hb B1
  go_wp2_with (go_at_call 12; refine ht.mono ?_; rintro _ w3 ⟨⟨S3, rfl⟩, hb⟩; refine Hid.out ?_)
  refine Lib.hid ?_
  have B3 := Lib.hid (thru B2.out hb)
  have ht := lim_text ⟨6, 0, 0, n, none, 0, 0, [], em⟩ w3 b1 (HT.out.below B3.out) (small_ok w3 6 0 n (by omega) (by omega) (by omega) (by omega) HN.out.1 HN.out.2) (by show 0 ≤ 2500; omega) (by show em.size ≤ 5000; decide) (HC.out.1.trans (rp6 n).symm)
  unfold Op.v at ht
  simp only at ht
  rw [show em = (⟨#[]⟩ : ByteArray) from rfl] at ht
  clear hb B2
  go_wp2_with (go_at_call 12; refine ht.mono ?_; rintro _ w4 ⟨⟨S4, rfl⟩, hb⟩; refine Hid.out ?_)
  refine Lib.hid ?_
  have B4 := Lib.hid (thru B3.out hb)
  clear hb ht B3
  go_wp2_with (refine wpList_make_full _ rfl (.tmp 39) (.tmp 39) 22 rfl w4.heap.size 5 i0 (.int .u8 0) 1 Tryd.underlying22 hi hz0 hz1 .i64 .i64 _ _ k rfl rfl rfl rfl (by rw [hz2]; omega) (by unfold maxLen; omega) (Nat.le_refl _) ?_; intro w5 ho hg; refine Hid.out ?_)
  refine Lib.hid ?_
  have hb : Below w4.heap.size w4 w5 := ⟨hg.os, hg.tape, hg.output, hg.size, fun i hi => hg.block i hi (by simp)⟩
  have B5 := Lib.hid (thru B4.out hb)
  rw [show (Value.int IntKind.u8 0).cells = #[(.int .u8 0 : Value)] from rfl, zeros] at ho
  have hok : OpOk w5 ⟨1, 0, 0, 0, some ⟨w4.heap.size, 0, none⟩, k, k, List.replicate k 0, em⟩ :=
    ⟨Bys.of_own ho (fun x hx => by rw [(List.mem_replicate.1 hx).2]; decide), Nat.le_refl _, by show k ≤ maxLen; unfold maxLen; omega, by simp only; omega, by simp only; omega, by simp only; omega, by simp only; omega, by simp only; omega, by simp only; omega, by simp only; omega, by simp only; omega, by show em.size ≤ maxLen; decide⟩
  have ht := lim_text ⟨1, 0, 0, 0, some ⟨w4.heap.size, 0, none⟩, k, k, List.replicate k 0, em⟩ w5 b3 (HT.out.below B5.out) hok (by show k ≤ 2500; omega) (by show em.size ≤ 5000; decide) (HC.out.2.2.trans (rp1 k).symm)
  unfold Op.v at ht
  simp only at ht
  rw [show em = (⟨#[]⟩ : ByteArray) from rfl] at ht
  clear hb hg ho hok B4
  go_wp2_with (go_at_call 12; refine ht.mono ?_; rintro _ w6 ⟨⟨S6, rfl⟩, hb⟩; refine Hid.out ?_)
  refine Lib.hid ?_
  have B6 := Lib.hid (thru B5.out hb)
  clear hb ht B5
  have hk3 : decide ((k : Int) ≤ 1300) = b3 := by
    have := HC.out.2.2
    cases b3 with
    | true => exact decide_eq_true (by have := this.1 rfl; omega)
    | false => exact decide_eq_false (fun h => by have := this.2 (by omega); cases this)
  by_cases g0 : 0 ≤ n
  · by_cases g1 : n ≤ 999
    · obtain rfl : b1 = true := HC.out.1.2 ⟨g0, g1⟩
      obtain rfl : b2 = true := HC.out.2.1.2 ⟨g0, by omega⟩
      have g2 : n ≤ 1048576 := by omega
      cases b3
      all_goals go_wp2_with fail
      all_goals go_ret
      all_goals exact ⟨by first | rfl | simp, B6.out⟩
    · obtain rfl : b1 = false := by
        cases b1 with
        | false => rfl
        | true => exact absurd (HC.out.1.1 rfl).2 g1
      by_cases g2 : n ≤ 1048576
      · obtain rfl : b2 = true := HC.out.2.1.2 ⟨g0, g2⟩
        cases b3
        all_goals go_wp2_with fail
        all_goals go_ret
        all_goals exact ⟨by first | rfl | simp, B6.out⟩
      · obtain rfl : b2 = false := by
          cases b2 with
          | false => rfl
          | true => exact absurd (HC.out.2.1.1 rfl).2 g2
        cases b3
        all_goals go_wp2_with fail
        all_goals go_ret
        all_goals exact ⟨by first | rfl | simp, B6.out⟩
  · obtain rfl : b1 = false := by
      cases b1 with
      | false => rfl
      | true => exact absurd (HC.out.1.1 rfl).1 g0
    obtain rfl : b2 = false := by
      cases b2 with
      | false => rfl
      | true => exact absurd (HC.out.2.1.1 rfl).1 g0
    cases b3
    all_goals go_wp2_with fail
    all_goals go_ret
    all_goals exact ⟨by first | rfl | simp, B6.out⟩
end Go.Proofs.YtbkgmeopdcealaaDoor
