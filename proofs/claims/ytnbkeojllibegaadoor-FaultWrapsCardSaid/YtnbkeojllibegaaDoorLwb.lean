import Derived.Test.YtnbkeojllibegaaDoorLwa
import Derived.Test.YtnbkeojllibegaaDoorTail
namespace Go.Proofs.YtnbkeojllibegaaDoor
open Go.ChangeShapes Go.WideShapes Go.ChangeAt Go.RowKit Go.Sort
set_option linter.unusedVariables false
set_option linter.unusedSimpArgs false
set_option maxRecDepth 100000 in
set_option maxHeartbeats 4000000 in
theorem shifts_any (w : World) (nl fl : Bool) (A : Option Addr) (n cap : Nat) (c a k : Int) (ss : List ByteArray) (h : Strs w A n ss) (hn : n ≤ maxLen) (h0 : -9223372036854775808 ≤ c) (h1 : c ≤ 9223372036854775807) (hk0 : -2147483648 ≤ k) (hk1 : k ≤ 2147483647) (hL : Laid w) :
    Calls Tryd.prog 4 #[errE nl A n cap c a fl, .int .i32 k] w fun e w' => e = .returned (.bool true) ∧ Below w.heap.size w w' := by
  have hfew := fun W (hb : Below w.heap.size w W) => few_any W nl fl A n cap c a ss (h.below hb) hn
  have hbld := fun W (hb : Below w.heap.size w W) => build_any W nl fl A n cap c a ss (h.below hb) hn
  have hA := fun W (hb : Below w.heap.size w W) => awake_any W (hL.below hb)
  have HL := Lib.hid hL
  have HS := Lib.hid (And.intro h hn)
  have HC := Lib.hid (And.intro h0 h1)
  have hkw : IntKind.i64.wrap k = k := IntWalk.i64_in _ (by omega)
  unfold errE at *
  have hB0 : Below w.heap.size w (w.alloc (.cells #[.bool nl, .slice A n cap, .int .i64 c, .int .i64 a, .bool fl] 24)) := (Below.refl _ w).alloc (Nat.le_refl _) _
  have H0 := Lib.hid hB0
  have K0 := Lib.hid (Blk.new w 24 #[.bool nl, .slice A n cap, .int .i64 c, .int .i64 a, .bool fl])
  clear h hn h0 h1 hL hB0
  go_enter Tryd.func4, Tryd.ntmps4
  go_wp2_with (go_at_call 7; refine (hA _ H0.out).mono ?_; rintro _ w1 ⟨rfl, hb⟩; refine Hid.out ?_)
  refine Lib.hid ?_
  have H1 := Lib.hid (H0.out.trans (hb.mono H0.out.size))
  have K1 := Lib.hid (Blk.below K0.out hb (Blk.lt K0.out))
  clear hb
  go_wp2_with (first
    | ((with_reducible (show wpList _ _ _ ({ dst := _, op := Op.load 24 _, type := _, pos := _, after := _, guard := _ } :: _) _ _)); refine wpList_load_g rfl 24 (.tmp 2) rfl w.heap.size 0 rfl _ _ (Blk.rangeAt K1.out) Tryd.underlying24 rfl (by kernel_rfl) ?_)
    | (go_at_call 8; refine (hfew _ H1.out).mono ?_; rintro _ w2 ⟨⟨b, rfl, hF⟩, hb⟩; refine Hid.out ?_))
  refine Lib.hid ?_
  have H2 := Lib.hid (H1.out.trans (hb.mono H1.out.size))
  have K2 := Lib.hid (Blk.below K1.out hb (Blk.lt K1.out))

  have HF := Lib.hid hF
  clear hb hF hfew
  cases b with
  | false =>
    go_wp2_with (go_at_call 7; refine (hA _ H2.out).mono ?_; rintro _ w3 ⟨rfl, hb⟩; refine Hid.out ?_)
    refine Lib.hid ?_
    go_wp2_with fail
    go_ret
    exact ⟨rfl, H2.out.trans (hb.mono H2.out.size)⟩
  | true =>
    obtain ⟨V, hV⟩ : ∃ V, (if nl = true then Value.nilIface else wrapV ss.reverse (coreV fl c a)) = V := ⟨_, rfl⟩
    rw [hV] at hbld
    have HV := Lib.hid hV
    clear hV
    go_wp2_with (first
      | ((with_reducible (show wpList _ _ _ ({ dst := _, op := Op.load 24 _, type := _, pos := _, after := _, guard := _ } :: _) _ _)); refine wpList_load_g rfl 24 (.tmp 2) rfl w.heap.size 0 rfl _ _ (Blk.rangeAt K2.out) Tryd.underlying24 rfl (by kernel_rfl) ?_)
      | (go_at_call 9; refine (hbld _ H2.out).mono ?_; rintro _ w3 ⟨rfl, hb⟩; refine Hid.out ?_))
    refine Lib.hid ?_
    have H3 := Lib.hid (H2.out.trans (hb.mono H2.out.size))
    have K3 := Lib.hid (Blk.below K2.out hb (Blk.lt K2.out))
    clear hb hbld
    cases nl with
    | true =>
      obtain rfl : Value.nilIface = V := by simpa using HV.out
      go_wp2_with (go_at_call 13; refine (shift_nil _ _).mono ?_; rintro _ w4 ⟨rfl, hb⟩; refine Hid.out ?_)
      refine Lib.hid ?_
      have H4 := Lib.hid (H3.out.trans (hb.mono H3.out.size))
      obtain ⟨c0, -, -, -, -⟩ := blk_cells (Blk.below K3.out hb (Blk.lt K3.out))
      clear hb
      go_wp2_with fail
      go_ret
      exact ⟨ret_true (by simp), H4.out⟩
    | false =>
      obtain rfl : wrapV ss.reverse (coreV fl c a) = V := by simpa using HV.out
      have hF := HF.out (by simp)
      have hob : -2305843009213693952 ≤ offV fl a + k ∧ offV fl a + k ≤ 2305843009213693952 := by
        have h3 := hF.2.2.1
        have h4 := hF.2.2.2
        unfold offV
        split <;> omega
      have hsh := fun W (hb : Below w.heap.size w W) => shift_any ss.reverse fl c a k W (HL.out.below hb).1 (by omega) (by omega)
      have hcd := fun W (hb : Below w.heap.size w W) => code_any [] (faultV c (offV fl a + k)) c (offV fl a + k) (.inr rfl) W (HL.out.below hb).1
      have hat := fun W (hb : Below w.heap.size w W) => at_fault [] c (offV fl a + k) W (HL.out.below hb).1
      obtain ⟨ty, x, hv⟩ : ∃ ty x, wrapV ss.reverse (coreV fl c a) = .iface ty x := wrapV_form _ _ (by rcases coreV_is fl c a with h | h <;> rw [h] <;> exact ⟨_, _, rfl⟩)
      rw [hv] at hsh ⊢
      simp only [wrapV] at hcd hat
      unfold faultV at hsh hcd hat
      have a0 := hF.2.2.1
      have a1 := hF.2.2.2
      clear hF hv
      go_wp2_with (go_at_call 13; refine (hsh _ H3.out).mono ?_; rintro _ w4 ⟨rfl, hb⟩; refine Hid.out ?_)
      refine Lib.hid ?_
      have H4 := Lib.hid (H3.out.trans (hb.mono H3.out.size))
      have K4 := Lib.hid (Blk.below K3.out hb (Blk.lt K3.out))
      obtain ⟨c0, -, -, -, -⟩ := blk_cells K4.out
      clear hb hsh
      go_wp2_with (go_at_call 10; refine (hcd _ H4.out).mono ?_; rintro _ w5 ⟨rfl, hb⟩; refine Hid.out ?_)
      refine Lib.hid ?_
      have H5 := Lib.hid (H4.out.trans (hb.mono H4.out.size))
      have K5 := Lib.hid (Blk.below K4.out hb (Blk.lt K4.out))
      clear hb hcd c0
      go_wp2_with (go_at_call 11; refine (hat _ H5.out).mono ?_; rintro _ w6 ⟨rfl, hb⟩; refine Hid.out ?_)
      refine Lib.hid ?_
      have H6 := Lib.hid (H5.out.trans (hb.mono H5.out.size))
      obtain ⟨-, -, c2, c3, c4⟩ := blk_cells (Blk.below K5.out hb (Blk.lt K5.out))
      clear hb hat
      have hcm : k + a = a + k := Int.add_comm _ _
      cases fl
      · have hz : offV false a = 0 := rfl
        rw [hz]
        clear hob hcm
        go_wp2_with fail
        go_ret
        exact ⟨ret_true (by simp), H6.out⟩
      · have hz : offV true a = a := rfl
        rw [hz]
        rw [hz] at hob
        go_wp2_with fail
        go_ret
        exact ⟨ret_true (by simp), H6.out⟩
theorem back2 {f : FuncId} {args : Array Value} {w : World} {v : Value} (h : Calls Tryd.prog f args w fun e w' => e = .returned v ∧ w = w') : Calls Tryd.prog f args w fun e w' => e = .returned v ∧ Below w.heap.size w w' :=
  h.mono fun _ _ ⟨a, b⟩ => ⟨a, b ▸ Below.refl _ _⟩
set_option maxRecDepth 100000 in
set_option maxHeartbeats 4000000 in
theorem names_any (w : World) (m : Int) (nl fl : Bool) (A : Option Addr) (n cap : Nat) (c a : Int) (ss : List ByteArray) (h : Strs w A n ss) (hn : n ≤ maxLen) (h0 : -9223372036854775808 ≤ c) (h1 : c ≤ 9223372036854775807) (ha0 : -9223372036854775808 ≤ a) (ha1 : a ≤ 9223372036854775807) (hL : Laid w) :
    Calls Tryd.prog 5 #[.int .i64 m, errE nl A n cap c a fl] w fun e w' => e = .returned (.bool true) ∧ Below w.heap.size w w' := by
  have hfew := fun W (hb : Below w.heap.size w W) => few_any W nl fl A n cap c a ss (h.below hb) hn
  have hbld := fun W (hb : Below w.heap.size w W) => build_any W nl fl A n cap c a ss (h.below hb) hn
  have hA := fun W (hb : Below w.heap.size w W) => awake_any W (hL.below hb)
  have hnm := fun W (hb : Below w.heap.size w W) => name_any m W (hL.below hb).2.1
  have hrn := fun W => rname_any m W
  have htd := fun W => told_any W nl fl A n cap c a ha0 ha1
  have HL := Lib.hid hL
  have HS := Lib.hid (And.intro h hn)
  have HC := Lib.hid (And.intro ha0 ha1)
  unfold errE at *
  have hB0 : Below w.heap.size w (w.alloc (.cells #[.bool nl, .slice A n cap, .int .i64 c, .int .i64 a, .bool fl] 24)) := (Below.refl _ w).alloc (Nat.le_refl _) _
  have H0 := Lib.hid hB0
  have K0 := Lib.hid (Blk.new w 24 #[.bool nl, .slice A n cap, .int .i64 c, .int .i64 a, .bool fl])
  obtain ⟨N, hN⟩ : ∃ N, nameS m = N := ⟨_, rfl⟩
  rw [hN] at hnm hrn
  clear h hn h0 h1 hL hB0 hN ha0 ha1
  go_enter Tryd.func5, Tryd.ntmps5
  go_wp2_with (go_at_call 7; refine (hA _ H0.out).mono ?_; rintro _ w1 ⟨rfl, hb⟩; refine Hid.out ?_)
  refine Lib.hid ?_
  have H1 := Lib.hid (H0.out.trans (hb.mono H0.out.size))
  have K1 := Lib.hid (Blk.below K0.out hb (Blk.lt K0.out))
  clear hb
  go_wp2_with (first
    | ((with_reducible (show wpList _ _ _ ({ dst := _, op := Op.load 24 _, type := _, pos := _, after := _, guard := _ } :: _) _ _)); refine wpList_load_g rfl 24 (.tmp 3) rfl w.heap.size 0 rfl _ _ (Blk.rangeAt K1.out) Tryd.underlying24 rfl (by kernel_rfl) ?_)
    | (go_at_call 8; refine (hfew _ H1.out).mono ?_; rintro _ w2 ⟨⟨b, rfl, hF⟩, hb⟩; refine Hid.out ?_))
  refine Lib.hid ?_
  have H2 := Lib.hid (H1.out.trans (hb.mono H1.out.size))
  have K2 := Lib.hid (Blk.below K1.out hb (Blk.lt K1.out))

  have HF := Lib.hid hF
  clear hb hF hfew
  cases b with
  | false =>
    go_wp2_with (go_at_call 7; refine (hA _ H2.out).mono ?_; rintro _ w3 ⟨rfl, hb⟩; refine Hid.out ?_)
    refine Lib.hid ?_
    go_wp2_with fail
    go_ret
    exact ⟨rfl, H2.out.trans (hb.mono H2.out.size)⟩
  | true =>
    have hreg : ∀ d os, Below w.heap.size w (grow (redrawn w2 d) os) := fun d os => H2.out.trans ((below_regrown w2 d os).mono H2.out.size)
    have hst := fun (y : Value) W (hb : Below w.heap.size w W) => text_str y W (HL.out.below hb).1
    have htx : ∃ S, (∀ W, Below w.heap.size w W → Calls Tryd.prog 16 #[if nl then .nilIface else wrapV ss.reverse (coreV fl c a)] W fun e w' => e = .returned (.string S) ∧ Below W.heap.size W w') ∧ (if nl then ⟨#[111, 107]⟩ else tellS fl c a) = S := by
      refine ⟨_, ?_, rfl⟩
      intro W hb
      cases nl
      · exact text_any ss.reverse fl c a W (HL.out.below hb).1 (HL.out.below hb).2.1 (HL.out.below hb).2.2 HC.out.1 HC.out.2
      · exact text_nil W
    obtain ⟨S, htx, hS⟩ := htx
    rw [hS] at htd
    have hv : ∃ V, (if nl then Value.nilIface else wrapV ss.reverse (coreV fl c a)) = V := ⟨_, rfl⟩
    obtain ⟨V, hV⟩ := hv
    rw [hV] at htx hbld
    clear hS hV
    go_wp2_with fail
    refine wp_region_tail_below 14 (by kernel_rfl) (by kernel_rfl) ?_
    simp only [List.take_succ_cons, List.take_zero, List.drop_succ_cons, List.drop_zero]
    repeat (first
      | go_big_quiet_skip
      | (refine wpQuiet_load_mid rfl 24 (.tmp 3) rfl w.heap.size 0 rfl _ _ (blk_regrown K2.out) Tryd.underlying24 rfl (by kernel_rfl) ?_)
      | quiet_step ((first
          | (go_at_call 14; with_reducible exact Calls.regrown_of (back2 (hnm _ (hreg _ _))))
          | (go_at_call 15; with_reducible exact Calls.regrown_of (hrn _))
          | (go_at_call 9; with_reducible exact Calls.regrown_of (hbld _ (hreg _ _)))
          | (go_at_call 16; with_reducible exact Calls.regrown_of (htx _ (hreg _ _)))
          | (go_at_call 17; with_reducible exact Calls.regrown_of (htd _)))))
    refine wpQuiet_nil ?_
    rintro _ ⟨⟨dq, osq⟩, rfl⟩
    have H3 := Lib.hid (hreg dq osq)
    generalize grow (redrawn w2 dq) osq = w3 at *
    go_wp2_with (go_at_call 18; refine (newstr_any _ _).mono ?_; rintro _ w4 ⟨⟨y, rfl⟩, hb⟩; refine Hid.out ?_)
    refine Lib.hid ?_
    have H4 := Lib.hid (H3.out.trans (hb.mono H3.out.size))
    clear hb
    go_wp2_with (go_at_call 16; refine (hst _ _ H4.out).mono ?_; rintro _ w5 ⟨rfl, hb⟩; refine Hid.out ?_)
    refine Lib.hid ?_
    go_wp2_with fail
    go_ret
    exact ⟨ret_true (by simp), H4.out.trans (hb.mono H4.out.size)⟩
end Go.Proofs.YtnbkeojllibegaaDoor
