import Derived.Test.YtdggedgailkceaaPlain2
namespace Go.Proofs.Ytdggedgailkceaa
open Go.ChangeShapes Go.WideShapes Go.ChangeAt Go.RowKit Go.Shelf
set_option linter.unusedVariables false
set_option linter.unusedSimpArgs false
theorem wpList_load_g {P : Program} {ops : Array Oper} {rest : List Oper} {op : Oper} {a : Act} {w : World} {Q : Exit → Act → World → Prop} (hw : Region.wanted op (yielded ops a.tmps) = true) (ty : TypeId) (x : Operand) (ho : op.op = .load ty x)
    (b o : Nat) (hx : a.eval x = .pointer (some ⟨b, o, none⟩)) (cs : List Value) (d : TypeDesc) (hc : w.rangeAt b o cs)
    (hu : P.underlying ty = some d) (hd : d.isRow = true) (hi : (P.info? ty).map (·.size) = some cs.length)
    (h : wpList P ops Q rest (a.put op.dst (.agg cs.toArray)) w) : wpList P ops Q (op :: rest) a w :=
  Go.BigFrame.wpList_want hw fun _ hK => wp_load_mid ty x ho b o hx cs d hc hu hd hi (hK _ _ h)
theorem split_any (A : Option Addr) (m c : Nat) (bs : List Nat) (w : World) (hb : Bys w A m bs) (hm : m ≤ 100000) (hmc : m ≤ c) :
    Calls Try.prog 11 #[.slice A m c] w fun e W' => (∃ A1 c1 A2 c2, e = .returned (.tuple #[.slice A1 (m / 16) c1, .slice A2 (m - m / 16 * 16) c2]) ∧ W'.ownsRow w.heap.size 24 16 (.slice A1 (m / 16) c1) (m / 16) (flat bs (List.range (m / 16))) ∧ W'.ownsRow w.heap.size 5 1 (.slice A2 (m - m / 16 * 16) c2) (m - m / 16 * 16) (bv (bs.drop (m / 16 * 16)))) ∧ Below w.heap.size w W' :=
  callsIn_wide.1 (split_in Fence.wide 3 trivial trivial trivial rfl (Lib.hid rfl) (by omega) A m c bs w hb hm hmc)
theorem all_any (A : Option Addr) (m c : Nat) (w : World) :
    Calls Try.prog 14 #[.slice A m c] w fun e w' => e = .returned (.func (.func 25) #[] #[.pointer (some ⟨w.heap.size, 0, none⟩)]) ∧ w' = w.alloc (.cells #[.slice A m c] 27) :=
  callsIn_wide.1 (all_in Fence.wide 3 trivial rfl A m c w)
def z33 : List Nat := List.replicate 33 0
theorem z33_len : z33.length = 33 := rfl
theorem z33_lt : ∀ x ∈ z33, x < 256 := by simp [z33]
theorem zeros_lt : ∀ x ∈ zeros, x < 256 := by simp [zeros]
theorem mk33 (W : World) : (Instr.makeSlice 27 (.int .i64 33) (.int .i64 33)).run Try.prog W = .ok (.slice (some ⟨W.heap.size, 0, none⟩) 33 33) (W.alloc (.cells (vc z33) 5)) := by kernel_rfl
theorem mk16 (W : World) : (Instr.makeSlice 27 (.int .i64 16) (.int .i64 16)).run Try.prog W = .ok (.slice (some ⟨W.heap.size, 0, none⟩) 16 16) (W.alloc (.cells (vc zeros) 5)) := by kernel_rfl
theorem eql_true (a b : List Nat) (h : (decide (a.length = 16) && decide (b.length = 16) && decide (a = b)) = true) : ∀ W, (binOp .eql 24 (.agg (vc a)) (.agg (vc b))).run Try.prog W = .ok (.bool true) W := fun W => by
  simp only [Bool.and_eq_true, decide_eq_true_eq] at h
  rw [run_arr_eql W a b h.1.1 h.1.2, h.2]; simp
def l128 : List Nat := 128 :: List.replicate 15 0
def l135 : List Nat := List.replicate 15 0 ++ [135]
def p7 : List Nat := 7 :: 128 :: List.replicate 14 0
def p7b : List Nat := 7 :: 128 :: List.replicate 14 0
def s1 : List Nat := 1 :: List.replicate 23 0
def s2 : List Nat := 2 :: List.replicate 15 0
theorem unpad_p7 (w : World) : Calls Try.prog 16 #[.agg (vc p7)] w fun e w' => (∃ A c, e = .returned (.tuple #[.slice A 1 c, .bool true]) ∧ Bys w' A 1 [7]) ∧ Below w.heap.size w w' :=
  (unpad_any p7 w rfl (by simp [p7])).mono fun e w' ⟨h, hb⟩ => ⟨by
    have h1 : upn p7 15 = 1 := by decide
    unfold Unp at h
    rw [h1, if_pos (by decide)] at h
    exact h, hb⟩
theorem lit128 : #[Value.int IntKind.u8 128, Value.int IntKind.u8 0, Value.int IntKind.u8 0, Value.int IntKind.u8 0, Value.int IntKind.u8 0, Value.int IntKind.u8 0, Value.int IntKind.u8 0, Value.int IntKind.u8 0, Value.int IntKind.u8 0, Value.int IntKind.u8 0, Value.int IntKind.u8 0, Value.int IntKind.u8 0, Value.int IntKind.u8 0, Value.int IntKind.u8 0, Value.int IntKind.u8 0, Value.int IntKind.u8 0] = vc l128 := rfl
theorem lit135 : #[Value.int IntKind.u8 0, Value.int IntKind.u8 0, Value.int IntKind.u8 0, Value.int IntKind.u8 0, Value.int IntKind.u8 0, Value.int IntKind.u8 0, Value.int IntKind.u8 0, Value.int IntKind.u8 0, Value.int IntKind.u8 0, Value.int IntKind.u8 0, Value.int IntKind.u8 0, Value.int IntKind.u8 0, Value.int IntKind.u8 0, Value.int IntKind.u8 0, Value.int IntKind.u8 0, Value.int IntKind.u8 135] = vc l135 := rfl
theorem litp7b : #[Value.int IntKind.u8 7, Value.int IntKind.u8 128, Value.int IntKind.u8 0, Value.int IntKind.u8 0, Value.int IntKind.u8 0, Value.int IntKind.u8 0, Value.int IntKind.u8 0, Value.int IntKind.u8 0, Value.int IntKind.u8 0, Value.int IntKind.u8 0, Value.int IntKind.u8 0, Value.int IntKind.u8 0, Value.int IntKind.u8 0, Value.int IntKind.u8 0, Value.int IntKind.u8 0, Value.int IntKind.u8 0] = vc p7b := rfl
theorem lits2 : #[Value.int IntKind.u8 2, Value.int IntKind.u8 0, Value.int IntKind.u8 0, Value.int IntKind.u8 0, Value.int IntKind.u8 0, Value.int IntKind.u8 0, Value.int IntKind.u8 0, Value.int IntKind.u8 0, Value.int IntKind.u8 0, Value.int IntKind.u8 0, Value.int IntKind.u8 0, Value.int IntKind.u8 0, Value.int IntKind.u8 0, Value.int IntKind.u8 0, Value.int IntKind.u8 0, Value.int IntKind.u8 0] = vc s2 := rfl
def sh1L : List Nat := (List.range 16).map (sb s1 (cut 1))
theorem shift_s1 (w : World) : Calls Try.prog 9 #[.agg (vc s1), .int .i64 1] w fun e w' => e = .returned (.agg (vc sh1L)) ∧ Below w.heap.size w w' := shift_any s1 1 w rfl (by simp [s1])
theorem func_neq_nil (b : Nat) (w : World) : (binOp .neq 34 (.func (.func 25) #[] #[.pointer (some ⟨b, 0, none⟩)]) .nilFunc).run Try.prog w = .ok (.bool true) w := by kernel_rfl
set_option maxRecDepth 100000 in
theorem awake_any (w : World) : Calls Try.prog 8 #[] w fun e w' => e = .returned (.bool true) ∧ Below w.heap.size w w' := by
  have hmk := mk33
  have hmk2 := mk16
  go_enter Try.func8, Try.ntmps8
  go_wp2_with fail
  refine (split_any (some ⟨w.heap.size, 0, none⟩) 33 33 z33 _ (Bys.of_blk (Blk.new w 5 (vc z33)) z33_len z33_lt) (by omega) (by omega)).mono ?_
  rintro e w1 ⟨⟨A1, c1, A2, c2, rfl, ho1, ho2⟩, hb1⟩
  simp only [World.size_alloc] at hb1
  have HB1 := Lib.hid (((Below.refl w.heap.size w).alloc (Nat.le_refl _) _).trans (hb1.mono (by omega)))
  clear ho1 ho2 hb1
  have hs1 := HB1.out.size
  go_wp2_with fail
  refine (pad_any (some ⟨w1.heap.size, 0, none⟩) 1 1 [7] _ (Bys.of_blk (Blk.new w1 5 (vc [7])) rfl (by simp)) (by omega)).mono ?_
  rintro e w2 ⟨rfl, hb2⟩
  simp only [World.size_alloc] at hb2
  have HB2 := Lib.hid ((HB1.out.alloc (by omega) _).trans (hb2.mono (by omega)))
  clear hb2 HB1
  have hs2 := HB2.out.size
  rw [show padL [7] = p7 from rfl]
  obtain ⟨q, hq⟩ : ∃ q, p7 = q := ⟨_, rfl⟩
  rw [hq]
  have HP16 := Lib.hid (show q.length = 16 by rw [← hq]; rfl)
  have HP9 := Lib.hid (show ∀ x ∈ q, x < 256 by rw [← hq]; simp [p7])
  have HQ := Lib.hid hq
  clear hq
  go_upto_region 3 with (refine wpList_store_mid rfl 24 (.tmp 3) (.tmp 17) rfl w2.heap.size 0 (vc q) rfl rfl (Blk.there (Blk.new w2 24 _) (by rw [vc_size, HP16.out]; rfl)) (info16' HP16.out) (vc_one _) ?_)
  rw [zeros_vc]
  have hC3 : Blk ((w2.alloc (.cells (vc zeros) 24)).setCells w2.heap.size 0 (vc q).toList) w2.heap.size 24 (vc q) := Blk.setAll (Blk.new w2 24 (vc zeros)) (by rw [vc_size, vc_size, HP16.out]; rfl)
  have hB3 : Below w.heap.size w ((w2.alloc (.cells (vc zeros) 24)).setCells w2.heap.size 0 (vc q).toList) := below_setCells _ _ _ (HB2.out.alloc (by omega) _) (by omega)
  generalize (w2.alloc (.cells (vc zeros) 24)).setCells w2.heap.size 0 (vc q).toList = w3 at *
  generalize w2.heap.size = g3 at *
  have HC3 := Lib.hid hC3
  have HB3 := Lib.hid hB3
  have hs3 := hB3.size
  have hg3 := hC3.lt
  clear hC3 hB3 HB2
  go_wp2_with fail
  refine (pad_big (some ⟨w3.heap.size, 0, none⟩) 16 16 _ (Nat.le_refl _)).mono ?_
  rintro e w4 ⟨rfl, hb4⟩
  simp only [World.size_alloc] at hb4
  have HC4 := Lib.hid ((HC3.out.alloc (.cells (vc zeros) 5)).below hb4 (by omega))
  have HB4 := Lib.hid ((HB3.out.alloc (by omega) _).trans (hb4.mono (by omega)))
  have hs4 := hb4.size
  simp only [World.size_alloc] at hs4
  clear hb4 HC3 HB3
  obtain ⟨z, hz⟩ : ∃ z, zeros = z := ⟨_, rfl⟩
  rw [hz]
  have HZ16 := Lib.hid (show z.length = 16 by rw [← hz]; rfl)
  have HZ := Lib.hid hz
  clear hz
  go_upto_region 4 with (refine wpList_store_mid rfl 24 (.tmp 5) (.tmp 22) rfl w4.heap.size 0 (vc z) rfl rfl (Blk.there (Blk.new w4 24 _) (by rw [vc_size, HZ16.out]; rfl)) (info16' HZ16.out) (vc_one _) ?_)
  have HC5 := Lib.hid (Blk.setFar (g' := w4.heap.size) (HC4.out.alloc (.cells (vc zeros) 24)) (by omega) (vc z).toList 0)
  have hB5 : Below w.heap.size w ((w4.alloc (.cells (vc zeros) 24)).setCells w4.heap.size 0 (vc z).toList) := below_setCells _ _ _ (HB4.out.alloc (by omega) _) (by omega)
  rw [zeros_vc]
  generalize (w4.alloc (.cells (vc zeros) 24)).setCells w4.heap.size 0 (vc z).toList = w5 at *
  have HB5 := Lib.hid hB5
  have hs5 := hB5.size
  have hg5 := HC5.out.lt
  clear hB5 HB4 HC4
  rw [← HQ.out] at HC5 ⊢
  go_wp2_with (refine wpList_load_mid rfl 24 (.tmp 3) rfl g3 0 rfl (vc p7).toList (.array 16 5) (Blk.rangeAt HC5.out) Try.underlying24 rfl (info16 rfl) ?_)
  refine (unpad_p7 _).mono ?_
  rintro e w6 ⟨⟨A6, c6, rfl, hby⟩, hb6⟩
  have HC6 := Lib.hid (HC5.out.below hb6 (by omega))
  have HB6 := Lib.hid (HB5.out.trans (hb6.mono hs5))
  have hs6 := hb6.size
  have HY := Lib.hid hby
  clear hby hb6 HC5 HB5
  have e1 := eql_true (dbl l128) l135 (by decide +kernel)
  have e2 := eql_true (hlv l135) l128 (by decide +kernel)
  have e3 := eql_true p7 p7b (by decide +kernel)
  have e4 := eql_true sh1L s2 (by decide +kernel)
  rw [← lit135] at e1
  rw [← lit128] at e2
  rw [← litp7b] at e3
  rw [← lits2] at e4
  go_wp2_with fail
  refine (double_any l128 _ rfl (by simp [l128])).mono ?_
  rintro e w7 ⟨rfl, hb7⟩
  have hs7 := hb7.size
  have HC7 := Lib.hid (HC6.out.below hb7 (by omega))
  have HB7 := Lib.hid (HB6.out.trans (hb7.mono (by omega)))
  have HY7 := Lib.hid (HY.out.below hb7)
  clear hb7 HC6 HB6 HY
  go_wp2_with fail
  refine (halve_any l135 _ rfl (by simp [l135])).mono ?_
  rintro e w8 ⟨rfl, hb8⟩
  have hs8 := hb8.size
  have HC8 := Lib.hid (HC7.out.below hb8 (by omega))
  have HB8 := Lib.hid (HB7.out.trans (hb8.mono (by omega)))
  have HY8 := Lib.hid (HY7.out.below hb8)
  clear hb8 HC7 HB7 HY7
  go_wp2_with (refine wpList_load_g rfl 24 (.tmp 3) rfl g3 0 rfl (vc p7).toList (.array 16 5) (Blk.rangeAt HC8.out) Try.underlying24 rfl (info16 rfl) ?_)
  refine (same_any A6 (some ⟨w8.heap.size, 0, none⟩) 1 c6 1 1 [7] [7] _ (HY8.out.below ((Below.refl _ w8).alloc (Nat.le_refl _) _)) (Bys.of_blk (Blk.new w8 5 (vc [7])) rfl (by simp)) (by unfold maxLen; omega) (by unfold maxLen; omega)).mono ?_
  rintro e w9 ⟨rfl, n9, rfl⟩
  have HB9 := Lib.hid (below_drewN (HB8.out.alloc (by omega) (.cells (vc [7]) 5)) n9)
  have hdt : decide ([7] = [7]) = true := rfl
  go_wp2_with fail
  refine (shift_s1 _).mono ?_
  rintro e w10 ⟨rfl, hb10⟩
  have HB10 := Lib.hid (HB9.out.trans (hb10.mono (by simp; omega)))
  clear hb10 HB9 HB8 HY8 HC8
  have hfn := func_neq_nil
  go_wp2_with (go_at_call 14; refine (all_any _ _ _ _).mono ?_; rintro e w11 ⟨rfl, rfl⟩)
  go_ret
  exact ⟨ret_true (by simp), HB10.out.alloc (by have := HB10.out.size; omega) _⟩
end Go.Proofs.Ytdggedgailkceaa
