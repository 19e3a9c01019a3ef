import Derived.Test.YtnbkeojllibegaaDoorDec
import Derived.Test.YtnbkeojllibegaaDoorShelf
namespace Go.Proofs.YtnbkeojllibegaaDoor
open Go.ChangeShapes Go.WideShapes Go.ChangeAt Go.RowKit
set_option linter.unusedVariables false
set_option linter.unusedSimpArgs false
/-- The table of powers of ten is laid. -/
def Pow (w : World) : Prop := 2 < w.heap.size ∧ Lib.TabIs Tryd.prog w "internal/strconv.uint64pow10" .u64 Lib.pow10Tab
theorem gPow : Tryd.prog.globalNamed "internal/strconv.uint64pow10" = some 2 := by kernel_rfl
theorem Pow.of_heap {w w' : World} (h : Pow w) (hs : w.heap.size ≤ w'.heap.size) (hk : w'.heap[2]? = w.heap[2]?) : Pow w' := by
  refine ⟨Nat.lt_of_lt_of_le h.1 hs, ?_⟩
  have := h.2
  unfold Lib.TabIs World.var? at *
  rw [gPow] at this ⊢
  simp only [Option.bind_some] at this ⊢
  rw [hk]
  exact this
theorem Pow.below {w w' : World} (h : Pow w) (hb : Below w.heap.size w w') : Pow w' := h.of_heap hb.size (hb.block 2 h.1)
theorem Pow.drew {w : World} (h : Pow w) : Pow w.drew := h
theorem Pow.drewN {w : World} (h : Pow w) (k : Nat) : Pow (w.drewN k) := h
theorem below_grow (w : World) (k : Nat) (os : Array Obj) : Below w.heap.size w (Go.Sort.grow (w.drewN k) os) :=
  ⟨rfl, rfl, rfl, by show _ ≤ (w.heap ++ os).size; simp, fun i hi => by show (w.heap ++ os)[i]? = _; rw [Array.getElem?_append_left hi]⟩
theorem itoa_any (n : Int) (w : World) (hp : Pow w) (h0 : -9223372036854775808 ≤ n) (h1 : n ≤ 9223372036854775807) : Calls Tryd.prog 25 #[.int .i64 n] w fun e w' => e = .returned (.string (itS n)) ∧ Below w.heap.size w w' :=
  (Tryd.strconv_Itoa n h0 h1 w hp.2).mono fun _ _ ⟨he, k, os, hw⟩ => ⟨he, hw ▸ below_grow w k os⟩
def errS : ByteArray := ⟨#[101, 114, 114, 111, 114, 32]⟩
theorem code_error (n : Int) (w : World) (hp : Pow w) (h0 : -9223372036854775808 ≤ n) (h1 : n ≤ 9223372036854775807) : Calls Tryd.prog 64 #[.int .i64 n] w fun e w' => e = .returned (.string (errS ++ itS n)) ∧ Below w.heap.size w w' := by
  have hi := itoa_any n w hp h0 h1
  have hz := itS_size n h0 h1
  obtain ⟨m, hm⟩ : ∃ m, itS n = m := ⟨_, rfl⟩
  rw [hm] at hi hz ⊢
  have hads : errS.size + m.size ≤ 9223372036854775807 := by have : errS.size = 6 := rfl; omega
  unfold errS at *
  clear hm hp
  go_enter Tryd.func64, Tryd.ntmps64
  go_wp2_with (go_at_call 25; refine hi.mono ?_; rintro _ w1 ⟨rfl, hb⟩; refine Hid.out ?_)
  refine Lib.hid ?_
  go_wp2_with fail
  go_ret
  exact ⟨rfl, hb⟩
theorem fault_error (n a : Int) (w : World) (hp : Pow w) (h0 : -9223372036854775808 ≤ n) (h1 : n ≤ 9223372036854775807) : Calls Tryd.prog 65 #[.agg #[.int .i64 n, .int .i64 a]] w fun e w' => e = .returned (.string (errS ++ itS n)) ∧ Below w.heap.size w w' := by
  have hi := code_error n (w.alloc (.cells #[.int .i64 n, .int .i64 a] 50)) (hp.below ((Below.refl _ w).alloc (Nat.le_refl _) _)) h0 h1
  clear hp
  generalize errS ++ itS n = m at *
  go_enter Tryd.func65, Tryd.ntmps65
  go_wp2_with (go_at_call 64; refine hi.mono ?_; rintro _ w1 ⟨rfl, hb⟩; refine Hid.out ?_)
  refine Lib.hid ?_
  have HB := Lib.hid hb
  clear hb hi
  go_wp2_with fail
  go_ret
  exact ⟨rfl, ((Below.refl _ w).alloc (Nat.le_refl _) _).trans (HB.out.mono (by simp))⟩
/-- The text of a chain. -/
def sepS : ByteArray := ⟨#[58, 32]⟩
def txtS : List ByteArray → ByteArray → ByteArray
  | [], t => t
  | p :: ps, t => p ++ sepS ++ txtS ps t
theorem txtS_size (ps : List ByteArray) (t : ByteArray) (h : ∀ p ∈ ps, p.size ≤ 50) : (txtS ps t).size ≤ 52 * ps.length + t.size := by
  induction ps with
  | nil => simp [txtS]
  | cons p ps ih =>
    have h1 := ih (fun q hq => h q (List.mem_cons_of_mem _ hq))
    have h2 := h p List.mem_cons_self
    have h3 : sepS.size = 2 := rfl
    simp only [txtS, ByteArray.size_append, List.length_cons]
    omega
theorem err59 (v : Value) (w : World) : (Go.method 238 59 v "Error").run Tryd.prog w = .ok (68, v) w := by kernel_rfl
theorem err50 (v : Value) (w : World) : (Go.method 238 50 v "Error").run Tryd.prog w = .ok (65, v) w := by kernel_rfl
theorem err30 (v : Value) (w : World) : (Go.method 238 30 v "Error").run Tryd.prog w = .ok (64, v) w := by kernel_rfl
set_option maxRecDepth 100000 in
set_option maxHeartbeats 4000000 in
theorem inner_error30 (p : ByteArray) (x : Value) (s : ByteArray) (hc : ∀ w, Pow w → Calls Tryd.prog 64 #[x] w fun e w' => e = .returned (.string s) ∧ Below w.heap.size w w') (hp : p.size ≤ 1000000) (hs : s.size ≤ 1000000) (w : World) (hw : Pow w) :
    Calls Tryd.prog 68 #[.agg #[.string p, .iface 30 x]] w fun e w' => e = .returned (.string (p ++ sepS ++ s)) ∧ Below w.heap.size w w' := by
  have hm := err30
  obtain ⟨q, hq, hqs⟩ : ∃ q, p ++ sepS = q ∧ q.size ≤ 1000002 := ⟨_, rfl, by rw [ByteArray.size_append]; have : sepS.size = 2 := rfl; omega⟩
  have hads3 : p.size + 2 ≤ 9223372036854775807 := by omega
  have hads2 : q.size + s.size ≤ 9223372036854775807 := by omega
  unfold sepS at *
  rw [hq]
  have hpw : Pow (w.alloc (.cells #[.string p, .iface 30 x] 59)) := hw.below ((Below.refl _ w).alloc (Nat.le_refl _) _)
  have HPW := Lib.hid hpw
  have HCC := Lib.hid hc
  clear hpw hw hc hp hs hqs
  go_enter Tryd.func68, Tryd.ntmps68
  go_wp2_with fail
  go_region_with (first | (go_at_call 64; (first | refine (HCC.out _ HPW.out).mono ?_ | refine (HCC.out _ (Pow.drew HPW.out)).mono ?_ | refine (HCC.out _ (Pow.drew (Pow.drew HPW.out))).mono ?_); rintro _ w1 ⟨rfl, hb⟩; have hc1 : w1.cell? ⟨w.heap.size, 0, none⟩ = some (.string p) := (hb.cell (p := ⟨w.heap.size, 0, none⟩) (by simp)).trans (by simp)))
  all_goals (go_wp2_with fail)
  all_goals go_ret
  all_goals (exact ⟨rfl, ((Below.refl _ w).alloc (Nat.le_refl _) _).drew.trans (hb.mono (by simp))⟩)
set_option maxRecDepth 100000 in
set_option maxHeartbeats 4000000 in
theorem inner_error50 (p : ByteArray) (x : Value) (s : ByteArray) (hc : ∀ w, Pow w → Calls Tryd.prog 65 #[x] w fun e w' => e = .returned (.string s) ∧ Below w.heap.size w w') (hp : p.size ≤ 1000000) (hs : s.size ≤ 1000000) (w : World) (hw : Pow w) :
    Calls Tryd.prog 68 #[.agg #[.string p, .iface 50 x]] w fun e w' => e = .returned (.string (p ++ sepS ++ s)) ∧ Below w.heap.size w w' := by
  have hm := err50
  obtain ⟨q, hq, hqs⟩ : ∃ q, p ++ sepS = q ∧ q.size ≤ 1000002 := ⟨_, rfl, by rw [ByteArray.size_append]; have : sepS.size = 2 := rfl; omega⟩
  have hads3 : p.size + 2 ≤ 9223372036854775807 := by omega
  have hads2 : q.size + s.size ≤ 9223372036854775807 := by omega
  unfold sepS at *
  rw [hq]
  have hpw : Pow (w.alloc (.cells #[.string p, .iface 50 x] 59)) := hw.below ((Below.refl _ w).alloc (Nat.le_refl _) _)
  have HPW := Lib.hid hpw
  have HCC := Lib.hid hc
  clear hpw hw hc hp hs hqs
  go_enter Tryd.func68, Tryd.ntmps68
  go_wp2_with fail
  go_region_with (first | (go_at_call 65; (first | refine (HCC.out _ HPW.out).mono ?_ | refine (HCC.out _ (Pow.drew HPW.out)).mono ?_ | refine (HCC.out _ (Pow.drew (Pow.drew HPW.out))).mono ?_); rintro _ w1 ⟨rfl, hb⟩; have hc1 : w1.cell? ⟨w.heap.size, 0, none⟩ = some (.string p) := (hb.cell (p := ⟨w.heap.size, 0, none⟩) (by simp)).trans (by simp)))
  all_goals (go_wp2_with fail)
  all_goals go_ret
  all_goals (exact ⟨rfl, ((Below.refl _ w).alloc (Nat.le_refl _) _).drew.trans (hb.mono (by simp))⟩)
set_option maxRecDepth 100000 in
set_option maxHeartbeats 4000000 in
theorem inner_error59 (p : ByteArray) (x : Value) (s : ByteArray) (hc : ∀ w, Pow w → Calls Tryd.prog 68 #[x] w fun e w' => e = .returned (.string s) ∧ Below w.heap.size w w') (hp : p.size ≤ 1000000) (hs : s.size ≤ 1000000) (w : World) (hw : Pow w) :
    Calls Tryd.prog 68 #[.agg #[.string p, .iface 59 x]] w fun e w' => e = .returned (.string (p ++ sepS ++ s)) ∧ Below w.heap.size w w' := by
  have hm := err59
  obtain ⟨q, hq, hqs⟩ : ∃ q, p ++ sepS = q ∧ q.size ≤ 1000002 := ⟨_, rfl, by rw [ByteArray.size_append]; have : sepS.size = 2 := rfl; omega⟩
  have hads3 : p.size + 2 ≤ 9223372036854775807 := by omega
  have hads2 : q.size + s.size ≤ 9223372036854775807 := by omega
  unfold sepS at *
  rw [hq]
  have hpw : Pow (w.alloc (.cells #[.string p, .iface 59 x] 59)) := hw.below ((Below.refl _ w).alloc (Nat.le_refl _) _)
  have HPW := Lib.hid hpw
  have HCC := Lib.hid hc
  clear hpw hw hc hp hs hqs
  go_enter Tryd.func68, Tryd.ntmps68
  go_wp2_with fail
  go_region_with (first | (go_at_call 68; (first | refine (HCC.out _ HPW.out).mono ?_ | refine (HCC.out _ (Pow.drew HPW.out)).mono ?_ | refine (HCC.out _ (Pow.drew (Pow.drew HPW.out))).mono ?_); rintro _ w1 ⟨rfl, hb⟩; have hc1 : w1.cell? ⟨w.heap.size, 0, none⟩ = some (.string p) := (hb.cell (p := ⟨w.heap.size, 0, none⟩) (by simp)).trans (by simp)))
  all_goals (go_wp2_with fail)
  all_goals go_ret
  all_goals (exact ⟨rfl, ((Below.refl _ w).alloc (Nat.le_refl _) _).drew.trans (hb.mono (by simp))⟩)
/-- The text of the core. -/
theorem wrap_error (c a : Int) (core : Value) (hcore : core = codeV c ∨ core = faultV c a) (h0 : -9223372036854775808 ≤ c) (h1 : c ≤ 9223372036854775807) : ∀ (ps : List ByteArray) (p : ByteArray), (∀ q ∈ p :: ps, q.size ≤ 50) → ps.length ≤ 100 → ∀ w, Pow w →
    Calls Tryd.prog 68 #[.agg #[.string p, wrapV ps core]] w fun e w' => e = .returned (.string (txtS (p :: ps) (errS ++ itS c))) ∧ Below w.heap.size w w'
  | [], p, h, hl, w, hw => by
    have hz := itS_size c h0 h1
    have he : (errS ++ itS c).size ≤ 1000000 := by rw [ByteArray.size_append]; have : errS.size = 6 := rfl; omega
    have hp := h p List.mem_cons_self
    rcases hcore with rfl | rfl
    · exact inner_error30 p (.int .i64 c) _ (fun w hw => code_error c w hw h0 h1) (by omega) he w hw
    · exact inner_error50 p (.agg #[.int .i64 c, .int .i64 a]) _ (fun w hw => fault_error c a w hw h0 h1) (by omega) he w hw
  | r :: ps, p, h, hl, w, hw => by
    have hz := itS_size c h0 h1
    have hp := h p List.mem_cons_self
    have ih := wrap_error c a core hcore h0 h1 ps r (fun q hq => h q (List.mem_cons_of_mem _ hq)) (by simp at hl; omega)
    have hsz := txtS_size (r :: ps) (errS ++ itS c) (fun q hq => h q (List.mem_cons_of_mem _ hq))
    have he : (errS ++ itS c).size ≤ 27 := by rw [ByteArray.size_append]; have : errS.size = 6 := rfl; omega
    simp only [List.length_cons] at hl hsz
    exact inner_error59 p (.agg #[.string r, wrapV ps core]) _ ih (by omega) (by omega) w hw
end Go.Proofs.YtnbkeojllibegaaDoor
