import Derived.Test.YtdggedgailkceaaAwake
import Derived.Lib.QuietBelow
namespace Go.Proofs.Ytdggedgailkceaa
open Go.ChangeShapes Go.WideShapes Go.ChangeAt Go.RowKit Go.Sort
set_option linter.unusedVariables false
set_option linter.unusedSimpArgs false
theorem wpQuiet_run {P : Program} {ops : Array Oper} {C : World → Prop} {Q : Act → Prop} {a : Act} {o : Oper} {rest : List Oper} (hw : Region.wanted o (yielded ops a.tmps) = true) (v : Value)
    (hr : ∀ w, C w → (execOp a.eval o).run P w = .ok (.value v) w) (h : wpQuiet P ops C Q rest (a.put o.dst v)) : wpQuiet P ops C Q (o :: rest) a := by
  simp only [wpQuiet, hw, if_true]
  refine ⟨v, fun w hC => ?_, h⟩
  unfold Oper.quietAt
  rw [hr w hC]
  exact ⟨rfl, rfl⟩
theorem wpQuiet_load_mid {P : Program} {ops : Array Oper} {C : World → Prop} {Q : Act → Prop} {a : Act} {op : Oper} {rest : List Oper} (hw : Region.wanted op (yielded ops a.tmps) = true) (ty : TypeId) (x : Operand) (ho : op.op = .load ty x)
    (b o : Nat) (hx : a.eval x = .pointer (some ⟨b, o, none⟩)) (cs : List Value) (d : TypeDesc) (hc : ∀ w, C w → w.rangeAt b o cs)
    (hu : P.underlying ty = some d) (hd : d.isRow = true) (hi : (P.info? ty).map (·.size) = some cs.length)
    (h : wpQuiet P ops C Q rest (a.put op.dst (.agg cs.toArray))) : wpQuiet P ops C Q (op :: rest) a :=
  wpQuiet_run hw _ (fun w hC => by
    unfold execOp
    simp only [ho, hx, Instr.loadAt, Instr.sureAddr, Sem.run_bind, Sem.run_pure, Result.andThen_ok, run_loadVar_mid w b o ty cs d (hc w hC) hu hd hi]) h
theorem blk_regrown {w : World} {g : Nat} {t : TypeId} {cs : Array Value} (h : Blk w g t cs) : ∀ w', (∃ p : Regrown, w' = grow (redrawn w p.d) p.os) → w'.rangeAt g 0 cs.toList := by
  rintro _ ⟨p, rfl⟩
  exact Blk.rangeAt (h.below (below_regrown w p.d p.os) h.lt)
set_option maxRecDepth 100000 in
set_option maxHeartbeats 4000000 in
theorem match_any (la lb : List Nat) (w : World) (ha : la.length = 16) (hb : lb.length = 16) (ha2 : ∀ x ∈ la, x < 256) (hb2 : ∀ x ∈ lb, x < 256) :
    Calls Try.prog 7 #[.agg (vc la), .agg (vc lb)] w fun e w' => e = .returned (.bool true) ∧ Below w.heap.size w w' := by
  have A1 := Lib.hid ha
  have B1 := Lib.hid hb
  have A2 := Lib.hid ha2
  have B2 := Lib.hid hb2
  clear ha hb ha2 hb2
  go_enter Try.func7, Try.ntmps7
  go_upto_region 1 with (fail)
  have hA : Blk ((w.alloc (.cells (vc la) 24)).alloc (.cells (vc lb) 24)) w.heap.size 24 (vc la) := (Blk.new w 24 (vc la)).alloc _
  have hB : Blk ((w.alloc (.cells (vc la) 24)).alloc (.cells (vc lb) 24)) (w.heap.size + 1) 24 (vc lb) := by have := Blk.new (w.alloc (.cells (vc la) 24)) 24 (vc lb); simpa using this
  have hbe : Below w.heap.size w ((w.alloc (.cells (vc la) 24)).alloc (.cells (vc lb) 24)) := by go_grown
  have hs1 : w.heap.size + 1 < ((w.alloc (.cells (vc la) 24)).alloc (.cells (vc lb) 24)).heap.size := by simp
  generalize (w.alloc (.cells (vc la) 24)).alloc (.cells (vc lb) 24) = w1 at *
  go_wp2_with fail
  refine (awake_any _).mono ?_
  rintro e w2 ⟨rfl, hb2⟩
  have hs2 := hb2.size
  have HA := Lib.hid (hA.below hb2 hA.lt)
  have HB := Lib.hid (hB.below hb2 hB.lt)
  have HE := Lib.hid (hbe.trans (hb2.mono (by omega)))
  clear hA hB hbe hb2
  go_wp2_with (refine wpList_load_mid rfl 24 (.tmp 2) rfl w.heap.size 0 rfl (vc la).toList (.array 16 5) (Blk.rangeAt HA.out) Try.underlying24 rfl (info16 A1.out) ?_)
  refine (double_any la _ A1.out A2.out).mono ?_
  rintro e w3 ⟨rfl, hb3⟩
  have hs3 := hb3.size
  obtain ⟨d, hd⟩ : ∃ d, dbl la = d := ⟨_, rfl⟩
  have HD1 := Lib.hid (show d.length = 16 by rw [← hd]; exact dbl_len la)
  have HD2 := Lib.hid (show ∀ x ∈ d, x < 256 by rw [← hd]; exact dbl_lt la A2.out)
  rw [hd]
  have HD := Lib.hid hd
  have HA3 := Lib.hid (HA.out.below hb3 (by omega))
  have HB3 := Lib.hid (HB.out.below hb3 (by omega))
  have HE3 := Lib.hid (HE.out.trans (hb3.mono (by omega)))
  clear hd hb3 HA HB HE
  go_upto_region 4 with (refine wpList_store_mid rfl 24 (.tmp 5) (.tmp 10) rfl w3.heap.size 0 (vc d) rfl rfl (Blk.there (Blk.new w3 24 _) (by rw [vc_size, HD1.out]; rfl)) (info16' HD1.out) (vc_one _) ?_)
  rw [zeros_vc]
  have HD4 := Lib.hid (show Blk ((w3.alloc (.cells (vc zeros) 24)).setCells w3.heap.size 0 (vc d).toList) w3.heap.size 24 (vc d) from Blk.setAll (Blk.new w3 24 (vc zeros)) (by rw [vc_size, vc_size, HD1.out]; rfl))
  have HA4 := Lib.hid (show Blk ((w3.alloc (.cells (vc zeros) 24)).setCells w3.heap.size 0 (vc d).toList) w.heap.size 24 (vc la) from Blk.setFar (HA3.out.alloc _) (by omega) _ _)
  have HB4 := Lib.hid (show Blk ((w3.alloc (.cells (vc zeros) 24)).setCells w3.heap.size 0 (vc d).toList) (w.heap.size + 1) 24 (vc lb) from Blk.setFar (HB3.out.alloc _) (by omega) _ _)
  have HE4 := Lib.hid (show Below w.heap.size w ((w3.alloc (.cells (vc zeros) 24)).setCells w3.heap.size 0 (vc d).toList) from below_setCells _ _ _ (HE3.out.alloc (by omega) _) (by omega))
  clear HA3 HB3 HE3
  have hg5 : w.heap.size + 1 < w3.heap.size := by omega
  generalize (w3.alloc (.cells (vc zeros) 24)).setCells w3.heap.size 0 (vc d).toList = w4 at *
  generalize w3.heap.size = g5 at *
  have hs4 := HD4.out.lt
  go_wp2_with (first | (refine wpList_load_mid rfl 24 (.tmp 2) rfl w.heap.size 0 rfl (vc la).toList (.array 16 5) (Blk.rangeAt HA4.out) Try.underlying24 rfl (info16 A1.out) ?_) | (refine wpList_load_mid rfl 24 (.tmp 3) rfl (w.heap.size + 1) 0 rfl (vc lb).toList (.array 16 5) (Blk.rangeAt HB4.out) Try.underlying24 rfl (info16 B1.out) ?_))
  refine (xor_any la lb _ A1.out B1.out A2.out B2.out).mono ?_
  rintro e w5 ⟨rfl, hb5⟩
  have hs5 := hb5.size
  obtain ⟨x, hx⟩ : ∃ x, List.zipWith (· ^^^ ·) la lb = x := ⟨_, rfl⟩
  have HX1 := Lib.hid (show x.length = 16 by rw [← hx]; exact zip_len la lb A1.out B1.out)
  have HX2 := Lib.hid (show ∀ y ∈ x, y < 256 by rw [← hx]; exact zip_lt la lb A2.out B2.out)
  rw [hx]
  have HX := Lib.hid hx
  have HA5 := Lib.hid (HA4.out.below hb5 (by omega))
  have HB5 := Lib.hid (HB4.out.below hb5 (by omega))
  have HD5 := Lib.hid (HD4.out.below hb5 hs4)
  have HE5 := Lib.hid (HE4.out.trans (hb5.mono (by omega)))
  clear hx hb5 HA4 HB4 HE4 HD4
  go_upto_region 5 with (refine wpList_store_mid rfl 24 (.tmp 6) (.tmp 13) rfl w5.heap.size 0 (vc x) rfl rfl (Blk.there (Blk.new w5 24 _) (by rw [vc_size, HX1.out]; rfl)) (info16' HX1.out) (vc_one _) ?_)
  rw [zeros_vc]
  have HX6 := Lib.hid (show Blk ((w5.alloc (.cells (vc zeros) 24)).setCells w5.heap.size 0 (vc x).toList) w5.heap.size 24 (vc x) from Blk.setAll (Blk.new w5 24 (vc zeros)) (by rw [vc_size, vc_size, HX1.out]; rfl))
  have HA6 := Lib.hid (show Blk ((w5.alloc (.cells (vc zeros) 24)).setCells w5.heap.size 0 (vc x).toList) w.heap.size 24 (vc la) from Blk.setFar (HA5.out.alloc _) (by omega) _ _)
  have HB6 := Lib.hid (show Blk ((w5.alloc (.cells (vc zeros) 24)).setCells w5.heap.size 0 (vc x).toList) (w.heap.size + 1) 24 (vc lb) from Blk.setFar (HB5.out.alloc _) (by omega) _ _)
  have HD6 := Lib.hid (show Blk ((w5.alloc (.cells (vc zeros) 24)).setCells w5.heap.size 0 (vc x).toList) g5 24 (vc d) from Blk.setFar (HD5.out.alloc _) (by omega) _ _)
  have HE6 := Lib.hid (show Below w.heap.size w ((w5.alloc (.cells (vc zeros) 24)).setCells w5.heap.size 0 (vc x).toList) from below_setCells _ _ _ (HE5.out.alloc (by omega) _) (by omega))
  clear HA5 HB5 HE5 HD5
  generalize (w5.alloc (.cells (vc zeros) 24)).setCells w5.heap.size 0 (vc x).toList = w6 at *
  generalize w5.heap.size = g6 at *
  -- the plain laws
  have E1 : ∀ W, (binOp .eql 24 (.agg (vc d)) (.agg (vc (rdbl la)))).run Try.prog W = .ok (.bool true) W := eql_true _ _ (by simp [HD1.out, ← dbl_eq la A1.out A2.out, HD.out])
  have E2 : ∀ W, (binOp .eql 24 (.agg (vc (hlv d))) (.agg (vc la))).run Try.prog W = .ok (.bool true) W := eql_true _ _ (by simp [A1.out, hlv_len, ← HD.out, halve_dbl la A1.out A2.out])
  have E3 : ∀ W, (binOp .eql 24 (.agg (vc (rdbl (hlv la)))) (.agg (vc la))).run Try.prog W = .ok (.bool true) W := eql_true _ _ (by simp [A1.out, ← dbl_eq (hlv la) (hlv_len la) (hlv_lt la A2.out), dbl_halve la A1.out A2.out])
  have E4 : ∀ W, (binOp .eql 24 (.agg (vc x)) (.agg (vc (List.zipWith (· ^^^ ·) la lb)))).run Try.prog W = .ok (.bool true) W := eql_true _ _ (by simp [HX1.out, HX.out])
  have E5 : ∀ W, (binOp .eql 24 (.agg (vc (dbl x))) (.agg (vc (List.zipWith (· ^^^ ·) d (dbl lb))))).run Try.prog W = .ok (.bool true) W := eql_true _ _ (by simp [dbl_len, ← HX.out, ← HD.out, dbl_xor la lb A1.out B1.out A2.out B2.out])
  refine wp_region_quiet_below (by kernel_rfl) (by kernel_rfl) ?_
  repeat (first
    | (refine wpQuiet_load_mid rfl 24 (.tmp 5) rfl g5 0 rfl (vc d).toList (.array 16 5) (blk_regrown HD6.out) Try.underlying24 rfl (info16 HD1.out) ?_)
    | (refine wpQuiet_load_mid rfl 24 (.tmp 2) rfl w.heap.size 0 rfl (vc la).toList (.array 16 5) (blk_regrown HA6.out) Try.underlying24 rfl (info16 A1.out) ?_)
    | (refine wpQuiet_load_mid rfl 24 (.tmp 3) rfl (w.heap.size + 1) 0 rfl (vc lb).toList (.array 16 5) (blk_regrown HB6.out) Try.underlying24 rfl (info16 B1.out) ?_)
    | (refine wpQuiet_load_mid rfl 24 (.tmp 6) rfl g6 0 rfl (vc x).toList (.array 16 5) (blk_regrown HX6.out) Try.underlying24 rfl (info16 HX1.out) ?_)
    | quiet_step ((first
        | (go_at_call 20; first | with_reducible exact Calls.regrown_of (rdouble_any la _ A1.out A2.out) | with_reducible exact Calls.regrown_of (rdouble_any (hlv la) _ (hlv_len la) (hlv_lt la A2.out)))
        | (go_at_call 21; first | with_reducible exact Calls.regrown_of (halve_any d _ HD1.out HD2.out) | with_reducible exact Calls.regrown_of (halve_any la _ A1.out A2.out))
        | (go_at_call 22; with_reducible exact Calls.regrown_of (rxor_any la lb _ A1.out B1.out A2.out B2.out))
        | (go_at_call 18; first | with_reducible exact Calls.regrown_of (double_any x _ HX1.out HX2.out) | with_reducible exact Calls.regrown_of (double_any lb _ B1.out B2.out))
        | (go_at_call 19; with_reducible exact Calls.regrown_of (xor_any d (dbl lb) _ HD1.out (dbl_len lb) HD2.out (dbl_lt lb B2.out))))))
  refine wpQuiet_nil ?_
  rintro _ ⟨⟨dq, osq⟩, rfl⟩
  go_wp2_with fail
  go_ret
  exact ⟨ret_true (by simp), HE6.out.trans ((below_regrown w6 dq osq).mono HE6.out.size)⟩
end Go.Proofs.Ytdggedgailkceaa
