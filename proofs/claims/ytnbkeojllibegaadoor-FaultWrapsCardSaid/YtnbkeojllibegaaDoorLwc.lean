import Derived.Test.YtnbkeojllibegaaDoorLwb
namespace Go.Proofs.YtnbkeojllibegaaDoor
open Go.ChangeShapes Go.WideShapes Go.ChangeAt Go.RowKit Go.Sort
set_option linter.unusedVariables false
set_option linter.unusedSimpArgs false
set_option maxRecDepth 100000 in
set_option maxHeartbeats 4000000 in
theorem wraps_any (w : World) (nl fl : Bool) (A : Option Addr) (n cap : Nat) (c a : Int) (ss : List ByteArray) (s : ByteArray) (h : Strs w A n ss) (hn : n ≤ maxLen) (h0 : -9223372036854775808 ≤ c) (h1 : c ≤ 9223372036854775807) (hs : s.size ≤ maxLen) (hL : Laid w) :
    Calls Tryd.prog 6 #[errE nl A n cap c a fl, .string s] w fun e w' => e = .returned (.bool true) ∧ Below w.heap.size w w' := by
  have hfew := fun W (hb : Below w.heap.size w W) => few_any W nl fl A n cap c a ss (h.below hb) hn
  have hbld := fun W (hb : Below w.heap.size w W) => build_any W nl fl A n cap c a ss (h.below hb) hn
  have hA := fun W (hb : Below w.heap.size w W) => awake_any W (hL.below hb)
  have HL := Lib.hid hL
  have HS := Lib.hid (And.intro h hn)
  have HC := Lib.hid (And.intro h0 h1)
  have hss : s.size ≤ 9223372036854775807 := by unfold maxLen at hs; omega
  unfold errE at *
  have hB0 : Below w.heap.size w (w.alloc (.cells #[.bool nl, .slice A n cap, .int .i64 c, .int .i64 a, .bool fl] 24)) := (Below.refl _ w).alloc (Nat.le_refl _) _
  have H0 := Lib.hid hB0
  have K0 := Lib.hid (Blk.new w 24 #[.bool nl, .slice A n cap, .int .i64 c, .int .i64 a, .bool fl])
  clear h hn h0 h1 hL hB0 hs
  go_enter Tryd.func6, Tryd.ntmps6
  go_wp2_with (go_at_call 7; refine (hA _ H0.out).mono ?_; rintro _ w1 ⟨rfl, hb⟩; refine Hid.out ?_)
  refine Lib.hid ?_
  have H1 := Lib.hid (H0.out.trans (hb.mono H0.out.size))
  have K1 := Lib.hid (Blk.below K0.out hb (Blk.lt K0.out))
  clear hb
  go_wp2_with (first
    | ((with_reducible (show wpList _ _ _ ({ dst := _, op := Op.load 24 _, type := _, pos := _, after := _, guard := _ } :: _) _ _)); refine wpList_load_g rfl 24 (.tmp 2) rfl w.heap.size 0 rfl _ _ (Blk.rangeAt K1.out) Tryd.underlying24 rfl (by kernel_rfl) ?_)
    | (go_at_call 8; refine (hfew _ H1.out).mono ?_; rintro _ w2 ⟨⟨b, rfl, hF⟩, hb⟩; refine Hid.out ?_))
  refine Lib.hid ?_
  have H2 := Lib.hid (H1.out.trans (hb.mono H1.out.size))
  have K2 := Lib.hid (Blk.below K1.out hb (Blk.lt K1.out))
  obtain ⟨c0, -, -, -, -⟩ := blk_cells K2.out

  have HF := Lib.hid hF
  clear hb hF hfew
  by_cases hgo : b = true ∧ nl = false ∧ s.size ≤ 50
  · obtain ⟨rfl, rfl, h50⟩ := hgo
    have h50i : ((s.size : Nat) : Int) ≤ 50 := by omega
    have hF := HF.out (by simp)
    have hps : ∀ q ∈ ss.reverse, q.size ≤ 50 := fun q hq => hF.2.1 q (List.mem_reverse.1 hq)
    have hpl : ss.reverse.length ≤ 100 := by rw [List.length_reverse, HS.out.1.len]; have := hF.1; omega
    obtain ⟨ty, x, F, hv, hty, herr⟩ := error_any ss.reverse fl c a HC.out.1 HC.out.2 hps hpl
    have herr2 := fun W (hb : Below w.heap.size w W) => herr W (HL.out.below hb).2.2
    have his1 := fun W => is_any (s :: ss.reverse) (coreV fl c a) c a c (coreV_is fl c a) W
    have hcc : ∃ t, (c = t ∨ c + 1 = t ∨ True) ∧ IntKind.i64.wrap (c + 1) = t ∧ (c == t) = false := ⟨_, .inr (.inr trivial), rfl, by
      have hb := HC.out
      by_cases hm : c = 9223372036854775807
      · subst hm; decide
      · rw [IntWalk.i64_in _ (by omega)]; simp; omega⟩
    obtain ⟨t, -, htw, hct⟩ := hcc
    have his2 := fun W => is_any (s :: ss.reverse) (coreV fl c a) c a t (coreV_is fl c a) W
    rw [hct] at his2
    simp only [wrapV, Bool.false_eq_true, if_false] at his1 his2 hbld
    rw [hv] at his1 his2 hbld
    unfold codeV at his1 his2
    generalize txtS ss.reverse (errS ++ itS c) = T at *
    clear hF hps hpl hv herr hct
    go_wp2_with (first
      | ((with_reducible (show wpList _ _ _ ({ dst := _, op := Op.load 24 _, type := _, pos := _, after := _, guard := _ } :: _) _ _)); refine wpList_load_g rfl 24 (.tmp 2) rfl w.heap.size 0 rfl _ _ (Blk.rangeAt K2.out) Tryd.underlying24 rfl (by kernel_rfl) ?_)
      | (go_at_call 9; refine (hbld _ H2.out).mono ?_; rintro _ w3 ⟨rfl, hb⟩; refine Hid.out ?_))
    refine Lib.hid ?_
    have H3 := Lib.hid (H2.out.trans (hb.mono H2.out.size))
    have K3 := Lib.hid (Blk.below K2.out hb (Blk.lt K2.out))
    clear hb hbld c0
    go_wp2_with (first
      | (go_at_call 19; refine (in_any _ _ _ _).mono ?_; rintro _ _ ⟨rfl, rfl⟩)
      | (go_at_call 20; refine (unwrap_any _ _ _ _).mono ?_; rintro _ w4 ⟨rfl, hb⟩; refine Hid.out ?_))
    refine Lib.hid ?_
    have H4 := Lib.hid (H3.out.trans (hb.mono H3.out.size))
    have K4 := Lib.hid (Blk.below K3.out hb (Blk.lt K3.out))
    obtain ⟨-, -, c2, -, -⟩ := blk_cells K4.out
    have d2 := cell_regrown c2
    have hreg : ∀ d os, Below w.heap.size w (grow (redrawn w4 d) os) := fun d os => H4.out.trans ((below_regrown w4 d os).mono H4.out.size)
    have m59 := err59
    have m50 := err50
    have m30 := err30
    clear hb c2
    rcases hty with ⟨rfl, rfl⟩ | ⟨rfl, rfl⟩ | ⟨rfl, rfl⟩
    all_goals
      clear d2 hreg
      go_wp2_with (first | (go_at_call 64; refine (herr2 _ H4.out).mono ?_; rintro _ w5 ⟨rfl, hb⟩; refine Hid.out ?_) | (go_at_call 65; refine (herr2 _ H4.out).mono ?_; rintro _ w5 ⟨rfl, hb⟩; refine Hid.out ?_) | (go_at_call 68; refine (herr2 _ H4.out).mono ?_; rintro _ w5 ⟨rfl, hb⟩; refine Hid.out ?_))
      refine Lib.hid ?_
      have H5 := Lib.hid (H4.out.trans (hb.mono H4.out.size))
      have K5 := Lib.hid (Blk.below K4.out hb (Blk.lt K4.out))
      clear hb
      go_wp2_with (first | (go_at_call 64; refine (herr2 _ H5.out).mono ?_; rintro _ w6 ⟨rfl, hb⟩; refine Hid.out ?_) | (go_at_call 65; refine (herr2 _ H5.out).mono ?_; rintro _ w6 ⟨rfl, hb⟩; refine Hid.out ?_) | (go_at_call 68; refine (herr2 _ H5.out).mono ?_; rintro _ w6 ⟨rfl, hb⟩; refine Hid.out ?_))
      refine Lib.hid ?_
      have H6 := Lib.hid (H5.out.trans (hb.mono H5.out.size))
      have K6 := Lib.hid (Blk.below K5.out hb (Blk.lt K5.out))
      obtain ⟨-, -, c2, -, -⟩ := blk_cells K6.out
      clear hb
      go_wp2_with (go_at_call 21; refine (his1 _).mono ?_; rintro _ w7 ⟨rfl, hb⟩; refine Hid.out ?_)
      refine Lib.hid ?_
      have H7 := Lib.hid (H6.out.trans (hb.mono H6.out.size))
      obtain ⟨-, -, c2', -, -⟩ := blk_cells (Blk.below K6.out hb (Blk.lt K6.out))
      clear hb c2
      go_wp2_with (go_at_call 21; refine (his2 _).mono ?_; rintro _ w8 ⟨rfl, hb⟩; refine Hid.out ?_)
      refine Lib.hid ?_
      go_wp2_with fail
      go_ret
      exact ⟨ret_true (by simp), H7.out.trans (hb.mono H7.out.size)⟩
  · have hcase : b = false ∨ (b = true ∧ nl = true) ∨ (b = true ∧ nl = false ∧ 50 < s.size) := by
      cases b <;> cases nl <;> simp at hgo ⊢
      omega
    clear hgo
    rcases hcase with rfl | ⟨rfl, rfl⟩ | ⟨rfl, rfl, h50⟩
    · go_wp2_with (go_at_call 7; refine (hA _ H2.out).mono ?_; rintro _ w3 ⟨rfl, hb⟩; refine Hid.out ?_)
      refine Lib.hid ?_
      go_wp2_with fail
      go_ret
      exact ⟨rfl, H2.out.trans (hb.mono H2.out.size)⟩
    · go_wp2_with (go_at_call 7; refine (hA _ H2.out).mono ?_; rintro _ w3 ⟨rfl, hb⟩; refine Hid.out ?_)
      refine Lib.hid ?_
      go_wp2_with fail
      go_ret
      exact ⟨rfl, H2.out.trans (hb.mono H2.out.size)⟩
    · have h50i : (50 : Int) < ((s.size : Nat) : Int) := by omega
      go_wp2_with (go_at_call 7; refine (hA _ H2.out).mono ?_; rintro _ w3 ⟨rfl, hb⟩; refine Hid.out ?_)
      refine Lib.hid ?_
      go_wp2_with fail
      go_ret
      exact ⟨rfl, H2.out.trans (hb.mono H2.out.size)⟩
end Go.Proofs.YtnbkeojllibegaaDoor
