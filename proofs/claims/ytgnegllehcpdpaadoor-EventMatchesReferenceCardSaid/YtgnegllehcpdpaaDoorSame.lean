import Derived.Test.YtgnegllehcpdpaaDoorEql
namespace Go.Proofs.YtgnegllehcpdpaaDoor
open Go.ChangeShapes Go.WideShapes Go.ChangeAt Go.RowKit Go.Sort
set_option linter.unusedVariables false
set_option linter.unusedSimpArgs false
/-- An event as the memory holds it. -/
structure Ev where
  kind : Int
  who : Int
  seq : Int
  tick : Int
  code : Int
  A : Option Addr
  n : Nat
  c : Nat
  bs : List Nat
  ad : ByteArray
def Ev.cells (e : Ev) : List Value := [.int .i64 e.kind, .int .i64 e.who, .int .u64 e.seq, .int .u64 e.tick, .int .i64 e.code, .slice e.A e.n e.c, .string e.ad]
def Ev.v (e : Ev) : Value := .agg #[.int .i64 e.kind, .int .i64 e.who, .int .u64 e.seq, .int .u64 e.tick, .int .i64 e.code, .slice e.A e.n e.c, .string e.ad]
structure EvOk (w : World) (e : Ev) : Prop where
  bys : Bys w e.A e.n e.bs
  len : e.n ≤ maxLen
  adl : e.ad.size ≤ maxLen
  s0 : 0 ≤ e.seq
  s1 : e.seq < 18446744073709551616
  t0 : 0 ≤ e.tick
  t1 : e.tick < 18446744073709551616
theorem EvOk.below {w w' : World} {e : Ev} (h : EvOk w e) (hb : Below w.heap.size w w') : EvOk w' e := ⟨h.bys.below hb, h.len, h.adl, h.s0, h.s1, h.t0, h.t1⟩
def evEq (a b : Ev) : Bool := decide (a.kind = b.kind ∧ a.who = b.who ∧ a.seq = b.seq ∧ a.tick = b.tick ∧ a.code = b.code ∧ a.bs = b.bs ∧ a.ad = b.ad)

set_option maxRecDepth 100000 in
set_option maxHeartbeats 4000000 in
theorem same_any (a b : Ev) (w : World) (ha : EvOk w a) (hb : EvOk w b) : Calls Tryd.prog 14 #[a.v, b.v] w fun e w' => e = .returned (.bool (evEq a b)) ∧ Below w.heap.size w w' := by
  have heq : ∀ W, Below w.heap.size w W → Calls Tryd.prog 29 #[.slice a.A a.n a.c, .slice b.A b.n b.c] W fun e w' => e = .returned (.bool (decide (a.bs = b.bs))) ∧ Below W.heap.size W w' := fun W h => equal_below a.A b.A a.n a.c b.n b.c a.bs b.bs W (ha.bys.below h) (hb.bys.below h) ha.len hb.len
  obtain ⟨ak, aw, aq, at_, ac, aA, an, acap, abs_, aad⟩ := a
  obtain ⟨bk, bw, bq, bt, bc, bA, bn, bcap, bbs, bad⟩ := b
  unfold Ev.v evEq
  simp only at heq ⊢
  have hB0 : Below w.heap.size w ((w.alloc (.cells #[.int .i64 ak, .int .i64 aw, .int .u64 aq, .int .u64 at_, .int .i64 ac, .slice aA an acap, .string aad] 29)).alloc (.cells #[.int .i64 bk, .int .i64 bw, .int .u64 bq, .int .u64 bt, .int .i64 bc, .slice bA bn bcap, .string bad] 29)) := ((Below.refl _ w).alloc (Nat.le_refl _) _).alloc (by simp) _
  have H0 := Lib.hid hB0
  have K0 := Lib.hid (Blk.alloc (Blk.new w 29 #[.int .i64 ak, .int .i64 aw, .int .u64 aq, .int .u64 at_, .int .i64 ac, .slice aA an acap, .string aad]) (.cells #[.int .i64 bk, .int .i64 bw, .int .u64 bq, .int .u64 bt, .int .i64 bc, .slice bA bn bcap, .string bad] 29))
  have K1 := Lib.hid (show Blk ((w.alloc (.cells #[.int .i64 ak, .int .i64 aw, .int .u64 aq, .int .u64 at_, .int .i64 ac, .slice aA an acap, .string aad] 29)).alloc (.cells #[.int .i64 bk, .int .i64 bw, .int .u64 bq, .int .u64 bt, .int .i64 bc, .slice bA bn bcap, .string bad] 29)) (w.heap.size + 1) 29 #[.int .i64 bk, .int .i64 bw, .int .u64 bq, .int .u64 bt, .int .i64 bc, .slice bA bn bcap, .string bad] by have := Blk.new (w.alloc (.cells #[.int .i64 ak, .int .i64 aw, .int .u64 aq, .int .u64 at_, .int .i64 ac, .slice aA an acap, .string aad] 29)) 29 #[.int .i64 bk, .int .i64 bw, .int .u64 bq, .int .u64 bt, .int .i64 bc, .slice bA bn bcap, .string bad]; simpa using this)
  clear ha hb hB0
  by_cases h0 : ak = bk
  case neg =>
    have HN := Lib.hid h0
    have hne : (ak == bk) = false := by simp [HN.out]
    clear h0
    go_enter Tryd.func14, Tryd.ntmps14
    go_wp2_with fail
    go_ret
    exact ⟨ret_bool (by simp [HN.out]), H0.out⟩
  subst h0
  by_cases h1 : aw = bw
  case neg =>
    have HN := Lib.hid h1
    have hne : (aw == bw) = false := by simp [HN.out]
    clear h1
    go_enter Tryd.func14, Tryd.ntmps14
    go_wp2_with fail
    go_ret
    exact ⟨ret_bool (by simp [HN.out]), H0.out⟩
  subst h1
  by_cases h2 : aq = bq
  case neg =>
    have HN := Lib.hid h2
    have hne : (aq == bq) = false := by simp [HN.out]
    clear h2
    go_enter Tryd.func14, Tryd.ntmps14
    go_wp2_with fail
    go_ret
    exact ⟨ret_bool (by simp [HN.out]), H0.out⟩
  subst h2
  by_cases h3 : at_ = bt
  case neg =>
    have HN := Lib.hid h3
    have hne : (at_ == bt) = false := by simp [HN.out]
    clear h3
    go_enter Tryd.func14, Tryd.ntmps14
    go_wp2_with fail
    go_ret
    exact ⟨ret_bool (by simp [HN.out]), H0.out⟩
  subst h3
  by_cases h4 : ac = bc
  case neg =>
    have HN := Lib.hid h4
    have hne : (ac == bc) = false := by simp [HN.out]
    clear h4
    go_enter Tryd.func14, Tryd.ntmps14
    go_wp2_with fail
    go_ret
    exact ⟨ret_bool (by simp [HN.out]), H0.out⟩
  subst h4
  by_cases h5 : abs_ = bbs
  case neg =>
    have HN := Lib.hid h5
    have hd : decide (abs_ = bbs) = false := by simp [HN.out]
    rw [hd] at heq
    clear h5
    clear hd
    go_enter Tryd.func14, Tryd.ntmps14
    go_wp2_with (go_at_call 29; refine (heq _ H0.out).mono ?_; rintro _ w1 ⟨rfl, hb⟩; refine Hid.out ?_)
    refine Lib.hid ?_
    have H1 := Lib.hid (H0.out.trans (hb.mono H0.out.size))
    have k0 := Blk.cell (Blk.below K0.out hb (Blk.lt K0.out)) 6
    have k1 := Blk.cell (Blk.below K1.out hb (Blk.lt K1.out)) 6
    simp only [List.getElem?_toArray, List.getElem?_cons_zero, List.getElem?_cons_succ] at k0 k1
    clear hb heq K0 K1
    go_wp2_with fail
    go_ret
    exact ⟨ret_bool (by simp [HN.out]), H1.out⟩
  subst h5
  by_cases h6 : aad = bad
  case neg =>
    have HN := Lib.hid h6
    have hne := toList_ne h6
    clear h6
    have hd : decide (abs_ = abs_) = true := by simp
    rw [hd] at heq
    clear hd
    go_enter Tryd.func14, Tryd.ntmps14
    go_wp2_with (go_at_call 29; refine (heq _ H0.out).mono ?_; rintro _ w1 ⟨rfl, hb⟩; refine Hid.out ?_)
    refine Lib.hid ?_
    have H1 := Lib.hid (H0.out.trans (hb.mono H0.out.size))
    have k0 := Blk.cell (Blk.below K0.out hb (Blk.lt K0.out)) 6
    have k1 := Blk.cell (Blk.below K1.out hb (Blk.lt K1.out)) 6
    simp only [List.getElem?_toArray, List.getElem?_cons_zero, List.getElem?_cons_succ] at k0 k1
    clear hb heq K0 K1
    go_wp2_with fail
    go_ret
    exact ⟨ret_bool (by simp [HN.out]), H1.out⟩
  subst h6
  have hd : decide (abs_ = abs_) = true := by simp
  rw [hd] at heq
  clear hd
  go_enter Tryd.func14, Tryd.ntmps14
  go_wp2_with (go_at_call 29; refine (heq _ H0.out).mono ?_; rintro _ w1 ⟨rfl, hb⟩; refine Hid.out ?_)
  refine Lib.hid ?_
  have H1 := Lib.hid (H0.out.trans (hb.mono H0.out.size))
  have k0 := Blk.cell (Blk.below K0.out hb (Blk.lt K0.out)) 6
  have k1 := Blk.cell (Blk.below K1.out hb (Blk.lt K1.out)) 6
  simp only [List.getElem?_toArray, List.getElem?_cons_zero, List.getElem?_cons_succ] at k0 k1
  clear hb heq K0 K1
  go_wp2_with fail
  go_ret
  exact ⟨ret_bool (by simp), H1.out⟩
set_option maxRecDepth 100000 in
set_option maxHeartbeats 4000000 in
theorem rsame_any (a b : Ev) (w : World) (ha : EvOk w a) (hb : EvOk w b) : Calls Tryd.prog 15 #[a.v, b.v] w fun e w' => e = .returned (.bool (evEq a b)) ∧ Below w.heap.size w w' := by
  have heq : ∀ W, Below w.heap.size w W → Calls Tryd.prog 30 #[.slice a.A a.n a.c, .slice b.A b.n b.c] W fun e w' => e = .returned (.bool (decide (a.bs = b.bs))) ∧ Below W.heap.size W w' := fun W h => same_below a.A b.A a.n a.c b.n b.c a.bs b.bs W (ha.bys.below h) (hb.bys.below h) ha.len hb.len
  obtain ⟨ak, aw, aq, at_, ac, aA, an, acap, abs_, aad⟩ := a
  obtain ⟨bk, bw, bq, bt, bc, bA, bn, bcap, bbs, bad⟩ := b
  unfold Ev.v evEq
  simp only at heq ⊢
  have hB0 : Below w.heap.size w ((w.alloc (.cells #[.int .i64 ak, .int .i64 aw, .int .u64 aq, .int .u64 at_, .int .i64 ac, .slice aA an acap, .string aad] 25)).alloc (.cells #[.int .i64 bk, .int .i64 bw, .int .u64 bq, .int .u64 bt, .int .i64 bc, .slice bA bn bcap, .string bad] 25)) := ((Below.refl _ w).alloc (Nat.le_refl _) _).alloc (by simp) _
  have H0 := Lib.hid hB0
  have K0 := Lib.hid (Blk.alloc (Blk.new w 25 #[.int .i64 ak, .int .i64 aw, .int .u64 aq, .int .u64 at_, .int .i64 ac, .slice aA an acap, .string aad]) (.cells #[.int .i64 bk, .int .i64 bw, .int .u64 bq, .int .u64 bt, .int .i64 bc, .slice bA bn bcap, .string bad] 25))
  have K1 := Lib.hid (show Blk ((w.alloc (.cells #[.int .i64 ak, .int .i64 aw, .int .u64 aq, .int .u64 at_, .int .i64 ac, .slice aA an acap, .string aad] 25)).alloc (.cells #[.int .i64 bk, .int .i64 bw, .int .u64 bq, .int .u64 bt, .int .i64 bc, .slice bA bn bcap, .string bad] 25)) (w.heap.size + 1) 25 #[.int .i64 bk, .int .i64 bw, .int .u64 bq, .int .u64 bt, .int .i64 bc, .slice bA bn bcap, .string bad] by have := Blk.new (w.alloc (.cells #[.int .i64 ak, .int .i64 aw, .int .u64 aq, .int .u64 at_, .int .i64 ac, .slice aA an acap, .string aad] 25)) 25 #[.int .i64 bk, .int .i64 bw, .int .u64 bq, .int .u64 bt, .int .i64 bc, .slice bA bn bcap, .string bad]; simpa using this)
  clear ha hb hB0
  by_cases h0 : ak = bk
  case neg =>
    have HN := Lib.hid h0
    have hne : (ak == bk) = false := by simp [HN.out]
    clear h0
    go_enter Tryd.func15, Tryd.ntmps15
    go_wp2_with fail
    go_ret
    exact ⟨ret_bool (by simp [HN.out]), H0.out⟩
  subst h0
  by_cases h1 : aw = bw
  case neg =>
    have HN := Lib.hid h1
    have hne : (aw == bw) = false := by simp [HN.out]
    clear h1
    go_enter Tryd.func15, Tryd.ntmps15
    go_wp2_with fail
    go_ret
    exact ⟨ret_bool (by simp [HN.out]), H0.out⟩
  subst h1
  by_cases h2 : aq = bq
  case neg =>
    have HN := Lib.hid h2
    have hne : (aq == bq) = false := by simp [HN.out]
    clear h2
    go_enter Tryd.func15, Tryd.ntmps15
    go_wp2_with fail
    go_ret
    exact ⟨ret_bool (by simp [HN.out]), H0.out⟩
  subst h2
  by_cases h3 : at_ = bt
  case neg =>
    have HN := Lib.hid h3
    have hne : (at_ == bt) = false := by simp [HN.out]
    clear h3
    go_enter Tryd.func15, Tryd.ntmps15
    go_wp2_with fail
    go_ret
    exact ⟨ret_bool (by simp [HN.out]), H0.out⟩
  subst h3
  by_cases h4 : ac = bc
  case neg =>
    have HN := Lib.hid h4
    have hne : (ac == bc) = false := by simp [HN.out]
    clear h4
    go_enter Tryd.func15, Tryd.ntmps15
    go_wp2_with fail
    go_ret
    exact ⟨ret_bool (by simp [HN.out]), H0.out⟩
  subst h4
  by_cases h5 : abs_ = bbs
  case neg =>
    have HN := Lib.hid h5
    have hd : decide (abs_ = bbs) = false := by simp [HN.out]
    rw [hd] at heq
    clear h5
    clear hd
    go_enter Tryd.func15, Tryd.ntmps15
    go_wp2_with (go_at_call 30; refine (heq _ H0.out).mono ?_; rintro _ w1 ⟨rfl, hb⟩; refine Hid.out ?_)
    refine Lib.hid ?_
    have H1 := Lib.hid (H0.out.trans (hb.mono H0.out.size))
    have k0 := Blk.cell (Blk.below K0.out hb (Blk.lt K0.out)) 6
    have k1 := Blk.cell (Blk.below K1.out hb (Blk.lt K1.out)) 6
    simp only [List.getElem?_toArray, List.getElem?_cons_zero, List.getElem?_cons_succ] at k0 k1
    clear hb heq K0 K1
    go_wp2_with fail
    go_ret
    exact ⟨ret_bool (by simp [HN.out]), H1.out⟩
  subst h5
  by_cases h6 : aad = bad
  case neg =>
    have HN := Lib.hid h6
    have hne := toList_ne h6
    clear h6
    have hd : decide (abs_ = abs_) = true := by simp
    rw [hd] at heq
    clear hd
    go_enter Tryd.func15, Tryd.ntmps15
    go_wp2_with (go_at_call 30; refine (heq _ H0.out).mono ?_; rintro _ w1 ⟨rfl, hb⟩; refine Hid.out ?_)
    refine Lib.hid ?_
    have H1 := Lib.hid (H0.out.trans (hb.mono H0.out.size))
    have k0 := Blk.cell (Blk.below K0.out hb (Blk.lt K0.out)) 6
    have k1 := Blk.cell (Blk.below K1.out hb (Blk.lt K1.out)) 6
    simp only [List.getElem?_toArray, List.getElem?_cons_zero, List.getElem?_cons_succ] at k0 k1
    clear hb heq K0 K1
    go_wp2_with fail
    go_ret
    exact ⟨ret_bool (by simp [HN.out]), H1.out⟩
  subst h6
  have hd : decide (abs_ = abs_) = true := by simp
  rw [hd] at heq
  clear hd
  go_enter Tryd.func15, Tryd.ntmps15
  go_wp2_with (go_at_call 30; refine (heq _ H0.out).mono ?_; rintro _ w1 ⟨rfl, hb⟩; refine Hid.out ?_)
  refine Lib.hid ?_
  have H1 := Lib.hid (H0.out.trans (hb.mono H0.out.size))
  have k0 := Blk.cell (Blk.below K0.out hb (Blk.lt K0.out)) 6
  have k1 := Blk.cell (Blk.below K1.out hb (Blk.lt K1.out)) 6
  simp only [List.getElem?_toArray, List.getElem?_cons_zero, List.getElem?_cons_succ] at k0 k1
  clear hb heq K0 K1
  go_wp2_with fail
  go_ret
  exact ⟨ret_bool (by simp), H1.out⟩
end Go.Proofs.YtgnegllehcpdpaaDoor
