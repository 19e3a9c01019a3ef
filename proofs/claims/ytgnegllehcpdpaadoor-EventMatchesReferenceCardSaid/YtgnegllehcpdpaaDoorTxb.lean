import Derived.Test.YtgnegllehcpdpaaDoorTxa
import Derived.Test.YtgnegllehcpdpaaDoorKri
import Derived.RegionTactic
import Derived.Deep.DeepCutAuto
namespace Go.Proofs.YtgnegllehcpdpaaDoor
open Go.ChangeShapes Go.WideShapes Go.ChangeAt Go.RowKit Go.Sort
set_option linter.unusedVariables false
set_option linter.unusedSimpArgs false
def spS : ByteArray := ⟨#[32]⟩
theorem joinS_snoc (x : ByteArray) (xs : List ByteArray) (y : ByteArray) : joinS ((x :: xs) ++ [y]) = joinS (x :: xs) ++ spS ++ y := by
  unfold joinS spS
  apply ByteArray.ext
  simp only [List.cons_append, List.map_cons, List.map_append, List.map_nil, Lib.join_cons, Lib.joinTail, ByteArray.data_append]
  simp [List.flatten_append]
def wh2L : List ByteArray := [⟨#[32, 99, 108, 105, 101, 110, 116, 32]⟩, ⟨#[32, 115, 101, 114, 118, 101, 114, 32]⟩]
def wh2 (n : Nat) : ByteArray := wh2L.getD n ByteArray.empty
theorem wh2_eq (h : Nat) (hh : h < 2) : wh2 h = spS ++ n2 h ++ spS := by
  have : h = 0 ∨ h = 1 := by omega
  rcases this with rfl | rfl <;> decide +kernel
theorem join3 (a : ByteArray) (h : Nat) (t : ByteArray) (hh : h < 2) : joinS [a, n2 h, t] = a ++ wh2 h ++ t := by
  have e1 : joinS [a] = a := by
    unfold joinS
    apply ByteArray.ext
    simp [Lib.join_one]
  rw [show [a, n2 h, t] = (a :: [n2 h]) ++ [t] from rfl, joinS_snoc, show (a :: [n2 h]) = (a :: []) ++ [n2 h] from rfl, joinS_snoc, e1, wh2_eq h hh]
  simp only [ByteArray.append_assoc]
theorem bcell {W w1 : World} (hb : Below W.heap.size W w1) : ∀ b o, b < W.heap.size → w1.cell? ⟨b, o, none⟩ = W.cell? ⟨b, o, none⟩ := fun b o h => hb.cell (p := ⟨b, o, none⟩) h
def kwV0 : Array Value := #[.string ⟨#[115, 101, 110, 116]⟩, .string ⟨#[100, 101, 108, 105, 118, 101, 114, 101, 100]⟩, .string ⟨#[114, 101, 102, 117, 115, 101, 100]⟩, .string ⟨#[102, 97, 105, 108, 101, 100]⟩, .string ⟨#[111, 116, 104, 101, 114]⟩]
def whV0 : Array Value := #[.string ⟨#[32, 99, 108, 105, 101, 110, 116, 32]⟩, .string ⟨#[32, 115, 101, 114, 118, 101, 114, 32]⟩]
theorem kw_cell {q : Nat} {W1 : ByteArray} (hkw : ∀ hp, ([.string ⟨#[115, 101, 110, 116]⟩, .string ⟨#[100, 101, 108, 105, 118, 101, 114, 101, 100]⟩, .string ⟨#[114, 101, 102, 117, 115, 101, 100]⟩, .string ⟨#[102, 97, 105, 108, 101, 100]⟩, .string ⟨#[111, 116, 104, 101, 114]⟩] : List Value)[q]'hp = .string W1) (hq : q < 5) : kwV0[q]? = some (.string W1) := by
  rw [← hkw hq]
  exact Array.getElem?_eq_getElem (xs := kwV0) hq
theorem wh_cell {h : Nat} {W2 : ByteArray} (hwh : ∀ hp, ([.string ⟨#[32, 99, 108, 105, 101, 110, 116, 32]⟩, .string ⟨#[32, 115, 101, 114, 118, 101, 114, 32]⟩] : List Value)[h]'hp = .string W2) (hh : h < 2) : whV0[h]? = some (.string W2) := by
  rw [← hwh hh]
  exact Array.getElem?_eq_getElem (xs := whV0) hh
theorem kw_at (q : Nat) (hq : q < 5) : ∀ hp, ([.string ⟨#[115, 101, 110, 116]⟩, .string ⟨#[100, 101, 108, 105, 118, 101, 114, 101, 100]⟩, .string ⟨#[114, 101, 102, 117, 115, 101, 100]⟩, .string ⟨#[102, 97, 105, 108, 101, 100]⟩, .string ⟨#[111, 116, 104, 101, 114]⟩] : List Value)[q]'hp = .string (wd (q + 1)) := by
  have : q = 0 ∨ q = 1 ∨ q = 2 ∨ q = 3 ∨ q = 4 := by omega
  rcases this with rfl | rfl | rfl | rfl | rfl <;> (intro _; rfl)
theorem wh_at (h : Nat) (hh : h < 2) : ∀ hp, ([.string ⟨#[32, 99, 108, 105, 101, 110, 116, 32]⟩, .string ⟨#[32, 115, 101, 114, 118, 101, 114, 32]⟩] : List Value)[h]'hp = .string (wh2 h) := by
  have : h = 0 ∨ h = 1 := by omega
  rcases this with rfl | rfl <;> (intro _; rfl)
theorem wh2_size (h : Nat) (hh : h < 2) : (wh2 h).size = 8 := by
  have : h = 0 ∨ h = 1 := by omega
  rcases this with rfl | rfl <;> rfl
/-- The text that the reference makes. -/
def rtF (q : Nat) (B S L N ad : ByteArray) : ByteArray :=
  match q with
  | 0 => B ++ (⟨#[32]⟩ : ByteArray) ++ S ++ (⟨#[32]⟩ : ByteArray) ++ L ++ (⟨#[32]⟩ : ByteArray) ++ ad
  | 1 => B ++ (⟨#[32]⟩ : ByteArray) ++ S ++ (⟨#[32]⟩ : ByteArray) ++ L ++ (⟨#[32]⟩ : ByteArray) ++ ad
  | 2 => B ++ (⟨#[32]⟩ : ByteArray) ++ N ++ (⟨#[32]⟩ : ByteArray) ++ ad
  | 3 => B ++ (⟨#[32]⟩ : ByteArray) ++ N
  | _ => B
set_option maxRecDepth 100000 in
set_option maxHeartbeats 16000000 in
theorem rtext_yes (q h sq tk : Nat) (cd : Int) (A : Option Addr) (n c : Nat) (ad V : ByteArray) (w : World) (hV : rtF q (wd (q + 1) ++ wh2 h ++ decS tk) (decS sq) (decS n) (nameS cd) ad = V) (hq : q < 5) (hh : h < 2) (hsq : sq < 18446744073709551616) (htk : tk < 18446744073709551616) (hn : n ≤ 5000) (had : ad.size ≤ 5000)
    (hrt : ∀ W, Below w.heap.size w W → Calls Tryd.prog 11 #[.agg #[.int .i64 ((q : Nat) + 1), .int .i64 (h : Nat), .int .u64 (sq : Nat), .int .u64 (tk : Nat), .int .i64 cd, .slice A n c, .string ad]] W fun r w' => r = .returned (.bool true) ∧ Below W.heap.size W w') :
    Calls Tryd.prog 13 #[.agg #[.int .i64 ((q : Nat) + 1), .int .i64 (h : Nat), .int .u64 (sq : Nat), .int .u64 (tk : Nat), .int .i64 cd, .slice A n c, .string ad]] w fun r w' => r = .returned (.string V) ∧ Below w.heap.size w w' := by
  have hft := fun W => number_any tk W htk
  have hz1 := wd_size (q + 1) (by omega)
  have hz2 := wh2_size h hh
  have hz3 := decS_size tk htk
  have hkw := kw_at q hq
  have hwh := wh_at h hh
  have hqi : (q : Int) < 5 := by omega
  have hhi : (h : Int) < 2 := by omega
  have hsub : IntKind.i64.wrap ((q : Int) + 1 - 1) = (q : Int) := by rw [IntWalk.i64_in _ (by omega)]; omega
  have hsub3 : IntKind.i64.wrap (q : Int) = (q : Int) := IntWalk.i64_in _ (by omega)
  have hq0 : (0 : Int) ≤ (q : Int) := by omega
  have hh0 : (0 : Int) ≤ (h : Int) := by omega
  generalize decS tk = W3 at *
  generalize wd (q + 1) = W1 at *
  generalize wh2 h = W2 at *
  obtain ⟨X1, hX1, hX1s⟩ : ∃ X1, W1 ++ W2 = X1 ∧ X1.size ≤ 17 := ⟨_, rfl, by rw [ByteArray.size_append]; omega⟩
  have ha1 : W1.size + W2.size ≤ 9223372036854775807 := by omega
  have ha3 : W1.size ≤ 9223372036854775799 := by omega
  have ha2 : X1.size + W3.size ≤ 9223372036854775807 := by omega
  have hb0 : Below w.heap.size w (w.alloc (.cells #[.int .i64 ((q : Nat) + 1), .int .i64 (h : Nat), .int .u64 (sq : Nat), .int .u64 (tk : Nat), .int .i64 cd, .slice A n c, .string ad] 25)) := (Below.refl _ w).alloc (Nat.le_refl _) _
  have H0 := Lib.hid hb0
  have K0 := Lib.hid (Blk.new w 25 #[.int .i64 ((q : Nat) + 1), .int .i64 (h : Nat), .int .u64 (sq : Nat), .int .u64 (tk : Nat), .int .i64 cd, .slice A n c, .string ad])
  clear hb0
  go_enter Tryd.func13, Tryd.ntmps13
  go_wp2_with (go_at_call 11; refine (hrt _ H0.out).mono ?_; rintro _ w1 ⟨rfl, hb⟩; refine Hid.out ?_)
  refine Lib.hid ?_
  have H1 := Lib.hid (H0.out.trans (hb.mono H0.out.size))
  have K1 := Lib.hid (Blk.below K0.out hb (Blk.lt K0.out))
  clear hb hrt
  go_upto_region 3 with (fail)
  obtain ⟨c0, c1, c2, c3, c4, c5, c6⟩ := blk_seven K1.out
  have hlt := Blk.lt K1.out
  go_cut [3] (fun s wx => s = .string (X1 ++ W3) ∧ Below w1.heap.size w1 wx)
  case first =>
    refine wp_region_later (by kernel_rfl) ?_
    refine WK.take (i := 1) (v := Value.pointer (some { block := w.heap.size, off := 0 })) rfl (by kernel_rfl) (by kernel_rfl) (by kernel_rfl) (fun _ _ _ h => h) (YK.run (by kernel_rfl) (fun wz hz => by go_simp)) ?_
    refine WK.frame (a' := { tmps := #[Value.agg #[Value.int IntKind.i64 ((q : Int) + 1), Value.int IntKind.i64 (h : Int), Value.int IntKind.u64 (sq : Int), Value.int IntKind.u64 (tk : Int), Value.int IntKind.i64 cd, Value.slice A n c, Value.string ad], Value.pointer (some { block := w.heap.size, off := 0 }), Value.string { data := #[] }, undef, Value.agg #[Value.int IntKind.i64 ((q : Int) + 1), Value.int IntKind.i64 (h : Int), Value.int IntKind.u64 (sq : Int), Value.int IntKind.u64 (tk : Int), Value.int IntKind.i64 cd, Value.slice A n c, Value.string ad], Value.bool true, Value.bool false, undef, Value.pointer (some { block := w.heap.size, off := 0 }), undef, undef, undef, undef, undef, undef, undef, undef, undef, undef, undef, undef, undef, undef, undef, undef, undef, undef, undef, undef, undef, undef, undef, undef, undef, undef, undef, undef, undef, undef, undef, undef, undef, undef, undef, undef, undef, undef, undef, undef, undef, undef, undef, undef, undef, undef, undef, undef, undef, undef, undef, undef, undef, undef, undef, undef, undef], defers := [] }) (by kernel_rfl) ?_
    refine WK.take (i := 2) (v := Value.int IntKind.i64 ((q : Int) + 1)) rfl (by kernel_rfl) (by kernel_rfl) (by kernel_rfl) (fun _ _ _ h => h) (YK.run (by kernel_rfl) (fun wz hz => by have hcell := (hz.below.cell (p := ⟨w.heap.size, 0, none⟩) hlt).trans c0; go_simp)) ?_
    refine WK.frame (a' := { tmps := #[Value.agg #[Value.int IntKind.i64 ((q : Int) + 1), Value.int IntKind.i64 (h : Int), Value.int IntKind.u64 (sq : Int), Value.int IntKind.u64 (tk : Int), Value.int IntKind.i64 cd, Value.slice A n c, Value.string ad], Value.pointer (some { block := w.heap.size, off := 0 }), Value.string { data := #[] }, undef, Value.agg #[Value.int IntKind.i64 ((q : Int) + 1), Value.int IntKind.i64 (h : Int), Value.int IntKind.u64 (sq : Int), Value.int IntKind.u64 (tk : Int), Value.int IntKind.i64 cd, Value.slice A n c, Value.string ad], Value.bool true, Value.bool false, undef, Value.pointer (some { block := w.heap.size, off := 0 }), Value.int IntKind.i64 ((q : Int) + 1), undef, undef, undef, undef, undef, undef, undef, undef, undef, undef, undef, undef, undef, undef, undef, undef, undef, undef, undef, undef, undef, undef, undef, undef, undef, undef, undef, undef, undef, undef, undef, undef, undef, undef, undef, undef, undef, undef, undef, undef, undef, undef, undef, undef, undef, undef, undef, undef, undef, undef, undef, undef, undef, undef, undef, undef], defers := [] }) (by kernel_rfl) ?_
    refine WK.take (i := 3) (v := Value.int IntKind.i64 (q : Int)) rfl (by kernel_rfl) (by kernel_rfl) (by kernel_rfl) (fun _ _ _ h => h) (YK.run (by kernel_rfl) (fun wz hz => by go_simp)) ?_
    refine WK.frame (a' := { tmps := #[Value.agg #[Value.int IntKind.i64 ((q : Int) + 1), Value.int IntKind.i64 (h : Int), Value.int IntKind.u64 (sq : Int), Value.int IntKind.u64 (tk : Int), Value.int IntKind.i64 cd, Value.slice A n c, Value.string ad], Value.pointer (some { block := w.heap.size, off := 0 }), Value.string { data := #[] }, undef, Value.agg #[Value.int IntKind.i64 ((q : Int) + 1), Value.int IntKind.i64 (h : Int), Value.int IntKind.u64 (sq : Int), Value.int IntKind.u64 (tk : Int), Value.int IntKind.i64 cd, Value.slice A n c, Value.string ad], Value.bool true, Value.bool false, undef, Value.pointer (some { block := w.heap.size, off := 0 }), Value.int IntKind.i64 ((q : Int) + 1), Value.int IntKind.i64 (q : Int), undef, undef, undef, undef, undef, undef, undef, undef, undef, undef, undef, undef, undef, undef, undef, undef, undef, undef, undef, undef, undef, undef, undef, undef, undef, undef, undef, undef, undef, undef, undef, undef, undef, undef, undef, undef, undef, undef, undef, undef, undef, undef, undef, undef, undef, undef, undef, undef, undef, undef, undef, undef, undef, undef, undef], defers := [] }) (by kernel_rfl) ?_
    refine WK.take (i := 7) (v := Value.pointer (some { block := w.heap.size, off := 1 })) rfl (by kernel_rfl) (by kernel_rfl) (by kernel_rfl) (fun _ _ _ h => h) (YK.run (by kernel_rfl) (fun wz hz => by go_simp)) ?_
    refine WK.frame (a' := { tmps := #[Value.agg #[Value.int IntKind.i64 ((q : Int) + 1), Value.int IntKind.i64 (h : Int), Value.int IntKind.u64 (sq : Int), Value.int IntKind.u64 (tk : Int), Value.int IntKind.i64 cd, Value.slice A n c, Value.string ad], Value.pointer (some { block := w.heap.size, off := 0 }), Value.string { data := #[] }, undef, Value.agg #[Value.int IntKind.i64 ((q : Int) + 1), Value.int IntKind.i64 (h : Int), Value.int IntKind.u64 (sq : Int), Value.int IntKind.u64 (tk : Int), Value.int IntKind.i64 cd, Value.slice A n c, Value.string ad], Value.bool true, Value.bool false, undef, Value.pointer (some { block := w.heap.size, off := 0 }), Value.int IntKind.i64 ((q : Int) + 1), Value.int IntKind.i64 (q : Int), undef, undef, undef, Value.pointer (some { block := w.heap.size, off := 1 }), undef, undef, undef, undef, undef, undef, undef, undef, undef, undef, undef, undef, undef, undef, undef, undef, undef, undef, undef, undef, undef, undef, undef, undef, undef, undef, undef, undef, undef, undef, undef, undef, undef, undef, undef, undef, undef, undef, undef, undef, undef, undef, undef, undef, undef, undef, undef, undef, undef, undef, undef], defers := [] }) (by kernel_rfl) ?_
    refine WK.take (i := 8) (v := Value.int IntKind.i64 (h : Int)) rfl (by kernel_rfl) (by kernel_rfl) (by kernel_rfl) (fun _ _ _ h => h) (YK.run (by kernel_rfl) (fun wz hz => by have hcell := (hz.below.cell (p := ⟨w.heap.size, 1, none⟩) hlt).trans c1; go_simp)) ?_
    refine WK.frame (a' := { tmps := #[Value.agg #[Value.int IntKind.i64 ((q : Int) + 1), Value.int IntKind.i64 (h : Int), Value.int IntKind.u64 (sq : Int), Value.int IntKind.u64 (tk : Int), Value.int IntKind.i64 cd, Value.slice A n c, Value.string ad], Value.pointer (some { block := w.heap.size, off := 0 }), Value.string { data := #[] }, undef, Value.agg #[Value.int IntKind.i64 ((q : Int) + 1), Value.int IntKind.i64 (h : Int), Value.int IntKind.u64 (sq : Int), Value.int IntKind.u64 (tk : Int), Value.int IntKind.i64 cd, Value.slice A n c, Value.string ad], Value.bool true, Value.bool false, undef, Value.pointer (some { block := w.heap.size, off := 0 }), Value.int IntKind.i64 ((q : Int) + 1), Value.int IntKind.i64 (q : Int), undef, undef, undef, Value.pointer (some { block := w.heap.size, off := 1 }), Value.int IntKind.i64 (h : Int), undef, undef, undef, undef, undef, undef, undef, undef, undef, undef, undef, undef, undef, undef, undef, undef, undef, undef, undef, undef, undef, undef, undef, undef, undef, undef, undef, undef, undef, undef, undef, undef, undef, undef, undef, undef, undef, undef, undef, undef, undef, undef, undef, undef, undef, undef, undef, undef, undef, undef], defers := [] }) (by kernel_rfl) ?_
    refine WK.take (i := 12) (v := Value.pointer (some { block := w.heap.size, off := 3 })) rfl (by kernel_rfl) (by kernel_rfl) (by kernel_rfl) (fun _ _ _ h => h) (YK.run (by kernel_rfl) (fun wz hz => by go_simp)) ?_
    refine WK.frame (a' := { tmps := #[Value.agg #[Value.int IntKind.i64 ((q : Int) + 1), Value.int IntKind.i64 (h : Int), Value.int IntKind.u64 (sq : Int), Value.int IntKind.u64 (tk : Int), Value.int IntKind.i64 cd, Value.slice A n c, Value.string ad], Value.pointer (some { block := w.heap.size, off := 0 }), Value.string { data := #[] }, undef, Value.agg #[Value.int IntKind.i64 ((q : Int) + 1), Value.int IntKind.i64 (h : Int), Value.int IntKind.u64 (sq : Int), Value.int IntKind.u64 (tk : Int), Value.int IntKind.i64 cd, Value.slice A n c, Value.string ad], Value.bool true, Value.bool false, undef, Value.pointer (some { block := w.heap.size, off := 0 }), Value.int IntKind.i64 ((q : Int) + 1), Value.int IntKind.i64 (q : Int), undef, undef, undef, Value.pointer (some { block := w.heap.size, off := 1 }), Value.int IntKind.i64 (h : Int), undef, undef, undef, Value.pointer (some { block := w.heap.size, off := 3 }), undef, undef, undef, undef, undef, undef, undef, undef, undef, undef, undef, undef, undef, undef, undef, undef, undef, undef, undef, undef, undef, undef, undef, undef, undef, undef, undef, undef, undef, undef, undef, undef, undef, undef, undef, undef, undef, undef, undef, undef, undef, undef, undef, undef, undef, undef], defers := [] }) (by kernel_rfl) ?_
    refine WK.take (i := 13) (v := Value.int IntKind.u64 (tk : Int)) rfl (by kernel_rfl) (by kernel_rfl) (by kernel_rfl) (fun _ _ _ h => h) (YK.run (by kernel_rfl) (fun wz hz => by have hcell := (hz.below.cell (p := ⟨w.heap.size, 3, none⟩) hlt).trans c3; go_simp)) ?_
    refine WK.frame (a' := { tmps := #[Value.agg #[Value.int IntKind.i64 ((q : Int) + 1), Value.int IntKind.i64 (h : Int), Value.int IntKind.u64 (sq : Int), Value.int IntKind.u64 (tk : Int), Value.int IntKind.i64 cd, Value.slice A n c, Value.string ad], Value.pointer (some { block := w.heap.size, off := 0 }), Value.string { data := #[] }, undef, Value.agg #[Value.int IntKind.i64 ((q : Int) + 1), Value.int IntKind.i64 (h : Int), Value.int IntKind.u64 (sq : Int), Value.int IntKind.u64 (tk : Int), Value.int IntKind.i64 cd, Value.slice A n c, Value.string ad], Value.bool true, Value.bool false, undef, Value.pointer (some { block := w.heap.size, off := 0 }), Value.int IntKind.i64 ((q : Int) + 1), Value.int IntKind.i64 (q : Int), undef, undef, undef, Value.pointer (some { block := w.heap.size, off := 1 }), Value.int IntKind.i64 (h : Int), undef, undef, undef, Value.pointer (some { block := w.heap.size, off := 3 }), Value.int IntKind.u64 (tk : Int), undef, undef, undef, undef, undef, undef, undef, undef, undef, undef, undef, undef, undef, undef, undef, undef, undef, undef, undef, undef, undef, undef, undef, undef, undef, undef, undef, undef, undef, undef, undef, undef, undef, undef, undef, undef, undef, undef, undef, undef, undef, undef, undef, undef, undef], defers := [] }) (by kernel_rfl) ?_
    refine WK.take (i := 14) (v := Value.string W3) rfl (by kernel_rfl) (by kernel_rfl) (by kernel_rfl) (fun _ _ _ h => h) (YK.call (by kernel_rfl) (fun wz => by go_simp; first | done | rfl) (fun wz hz => hft wz)) ?_
    refine WK.frame (a' := { tmps := #[Value.agg #[Value.int IntKind.i64 ((q : Int) + 1), Value.int IntKind.i64 (h : Int), Value.int IntKind.u64 (sq : Int), Value.int IntKind.u64 (tk : Int), Value.int IntKind.i64 cd, Value.slice A n c, Value.string ad], Value.pointer (some { block := w.heap.size, off := 0 }), Value.string { data := #[] }, undef, Value.agg #[Value.int IntKind.i64 ((q : Int) + 1), Value.int IntKind.i64 (h : Int), Value.int IntKind.u64 (sq : Int), Value.int IntKind.u64 (tk : Int), Value.int IntKind.i64 cd, Value.slice A n c, Value.string ad], Value.bool true, Value.bool false, undef, Value.pointer (some { block := w.heap.size, off := 0 }), Value.int IntKind.i64 ((q : Int) + 1), Value.int IntKind.i64 (q : Int), undef, undef, undef, Value.pointer (some { block := w.heap.size, off := 1 }), Value.int IntKind.i64 (h : Int), undef, undef, undef, Value.pointer (some { block := w.heap.size, off := 3 }), Value.int IntKind.u64 (tk : Int), Value.string W3, undef, undef, undef, undef, undef, undef, undef, undef, undef, undef, undef, undef, undef, undef, undef, undef, undef, undef, undef, undef, undef, undef, undef, undef, undef, undef, undef, undef, undef, undef, undef, undef, undef, undef, undef, undef, undef, undef, undef, undef, undef, undef, undef, undef], defers := [] }) (by kernel_rfl) ?_
    refine WK.each (rs := [0, 6]) (by kernel_rfl) (by simp) (fun x1 h1x i hi => ?_)
    simp only [List.mem_cons, List.not_mem_nil, or_false] at hi
    rcases hi with rfl | rfl
    · refine wpOp_makes (v := Value.slice (some { block := x1.heap.size, off := 0 }) 5 5) (w2 := x1.alloc (.cells kwV0 9)) rfl (by kernel_rfl) (by go_simp; first | done | rfl) (?_ : _ ∧ _)
      have h1y : Up x1 (x1.alloc (.cells kwV0 9)) := Up.of ((Below.refl _ x1).alloc (Nat.le_refl _) _)
      refine ⟨h1y, ?_⟩
      have Kp1 := Blk.new x1 9 kwV0
      obtain ⟨p1, hp1⟩ : ∃ p1, x1.heap.size = p1 := ⟨_, rfl⟩
      rw [hp1] at Kp1 ⊢
      generalize x1.alloc (.cells kwV0 9) = x1b at *
      refine WK.frame (a' := { tmps := #[Value.agg #[Value.int IntKind.i64 ((q : Int) + 1), Value.int IntKind.i64 (h : Int), Value.int IntKind.u64 (sq : Int), Value.int IntKind.u64 (tk : Int), Value.int IntKind.i64 cd, Value.slice A n c, Value.string ad], Value.pointer (some { block := w.heap.size, off := 0 }), Value.string { data := #[] }, undef, Value.agg #[Value.int IntKind.i64 ((q : Int) + 1), Value.int IntKind.i64 (h : Int), Value.int IntKind.u64 (sq : Int), Value.int IntKind.u64 (tk : Int), Value.int IntKind.i64 cd, Value.slice A n c, Value.string ad], Value.bool true, Value.bool false, Value.slice (some { block := p1, off := 0 }) 5 5, Value.pointer (some { block := w.heap.size, off := 0 }), Value.int IntKind.i64 ((q : Int) + 1), Value.int IntKind.i64 (q : Int), undef, undef, undef, Value.pointer (some { block := w.heap.size, off := 1 }), Value.int IntKind.i64 (h : Int), undef, undef, undef, Value.pointer (some { block := w.heap.size, off := 3 }), Value.int IntKind.u64 (tk : Int), Value.string W3, undef, undef, undef, undef, undef, undef, undef, undef, undef, undef, undef, undef, undef, undef, undef, undef, undef, undef, undef, undef, undef, undef, undef, undef, undef, undef, undef, undef, undef, undef, undef, undef, undef, undef, undef, undef, undef, undef, undef, undef, undef, undef, undef, undef], defers := [] }) (by kernel_rfl) ?_
      have hqp1 : x1b.cell? ⟨p1, q, none⟩ = some (.string W1) := (Kp1.cell q).trans (kw_cell hkw hq)
      refine WK.take (i := 4) (v := Value.pointer (some { block := p1, off := q })) rfl (by kernel_rfl) (by kernel_rfl) (by kernel_rfl) (fun _ _ _ h => h) (YK.run (by kernel_rfl) (fun wz hz => by go_simp)) ?_
      refine WK.frame (a' := { tmps := #[Value.agg #[Value.int IntKind.i64 ((q : Int) + 1), Value.int IntKind.i64 (h : Int), Value.int IntKind.u64 (sq : Int), Value.int IntKind.u64 (tk : Int), Value.int IntKind.i64 cd, Value.slice A n c, Value.string ad], Value.pointer (some { block := w.heap.size, off := 0 }), Value.string { data := #[] }, undef, Value.agg #[Value.int IntKind.i64 ((q : Int) + 1), Value.int IntKind.i64 (h : Int), Value.int IntKind.u64 (sq : Int), Value.int IntKind.u64 (tk : Int), Value.int IntKind.i64 cd, Value.slice A n c, Value.string ad], Value.bool true, Value.bool false, Value.slice (some { block := p1, off := 0 }) 5 5, Value.pointer (some { block := w.heap.size, off := 0 }), Value.int IntKind.i64 ((q : Int) + 1), Value.int IntKind.i64 (q : Int), Value.pointer (some { block := p1, off := q }), undef, undef, Value.pointer (some { block := w.heap.size, off := 1 }), Value.int IntKind.i64 (h : Int), undef, undef, undef, Value.pointer (some { block := w.heap.size, off := 3 }), Value.int IntKind.u64 (tk : Int), Value.string W3, undef, undef, undef, undef, undef, undef, undef, undef, undef, undef, undef, undef, undef, undef, undef, undef, undef, undef, undef, undef, undef, undef, undef, undef, undef, undef, undef, undef, undef, undef, undef, undef, undef, undef, undef, undef, undef, undef, undef, undef, undef, undef, undef, undef], defers := [] }) (by kernel_rfl) ?_
      refine WK.take (i := 5) (v := Value.string W1) rfl (by kernel_rfl) (by kernel_rfl) (by kernel_rfl) (fun _ _ _ h => h) (YK.run (by kernel_rfl) (fun wz hz => by have hcell := (hz.below.cell (p := ⟨p1, q, none⟩) Kp1.lt).trans hqp1; go_simp)) ?_
      refine WK.frame (a' := { tmps := #[Value.agg #[Value.int IntKind.i64 ((q : Int) + 1), Value.int IntKind.i64 (h : Int), Value.int IntKind.u64 (sq : Int), Value.int IntKind.u64 (tk : Int), Value.int IntKind.i64 cd, Value.slice A n c, Value.string ad], Value.pointer (some { block := w.heap.size, off := 0 }), Value.string { data := #[] }, undef, Value.agg #[Value.int IntKind.i64 ((q : Int) + 1), Value.int IntKind.i64 (h : Int), Value.int IntKind.u64 (sq : Int), Value.int IntKind.u64 (tk : Int), Value.int IntKind.i64 cd, Value.slice A n c, Value.string ad], Value.bool true, Value.bool false, Value.slice (some { block := p1, off := 0 }) 5 5, Value.pointer (some { block := w.heap.size, off := 0 }), Value.int IntKind.i64 ((q : Int) + 1), Value.int IntKind.i64 (q : Int), Value.pointer (some { block := p1, off := q }), Value.string W1, undef, Value.pointer (some { block := w.heap.size, off := 1 }), Value.int IntKind.i64 (h : Int), undef, undef, undef, Value.pointer (some { block := w.heap.size, off := 3 }), Value.int IntKind.u64 (tk : Int), Value.string W3, undef, undef, undef, undef, undef, undef, undef, undef, undef, undef, undef, undef, undef, undef, undef, undef, undef, undef, undef, undef, undef, undef, undef, undef, undef, undef, undef, undef, undef, undef, undef, undef, undef, undef, undef, undef, undef, undef, undef, undef, undef, undef, undef, undef], defers := [] }) (by kernel_rfl) ?_
      refine WK.each (rs := [6]) (by kernel_rfl) (by simp) (fun x2 h2x i hi => ?_)
      simp only [List.mem_cons, List.not_mem_nil, or_false] at hi
      subst hi
      refine wpOp_makes (v := Value.slice (some { block := x2.heap.size, off := 0 }) 2 2) (w2 := x2.alloc (.cells whV0 9)) rfl (by kernel_rfl) (by go_simp; first | done | rfl) (?_ : _ ∧ _)
      have h2y : Up x2 (x2.alloc (.cells whV0 9)) := Up.of ((Below.refl _ x2).alloc (Nat.le_refl _) _)
      refine ⟨h2y, ?_⟩
      have Kp2 := Blk.new x2 9 whV0
      obtain ⟨p2, hp2⟩ : ∃ p2, x2.heap.size = p2 := ⟨_, rfl⟩
      rw [hp2] at Kp2 ⊢
      generalize x2.alloc (.cells whV0 9) = x2b at *
      refine WK.frame (a' := { tmps := #[Value.agg #[Value.int IntKind.i64 ((q : Int) + 1), Value.int IntKind.i64 (h : Int), Value.int IntKind.u64 (sq : Int), Value.int IntKind.u64 (tk : Int), Value.int IntKind.i64 cd, Value.slice A n c, Value.string ad], Value.pointer (some { block := w.heap.size, off := 0 }), Value.string { data := #[] }, undef, Value.agg #[Value.int IntKind.i64 ((q : Int) + 1), Value.int IntKind.i64 (h : Int), Value.int IntKind.u64 (sq : Int), Value.int IntKind.u64 (tk : Int), Value.int IntKind.i64 cd, Value.slice A n c, Value.string ad], Value.bool true, Value.bool false, Value.slice (some { block := p1, off := 0 }) 5 5, Value.pointer (some { block := w.heap.size, off := 0 }), Value.int IntKind.i64 ((q : Int) + 1), Value.int IntKind.i64 (q : Int), Value.pointer (some { block := p1, off := q }), Value.string W1, Value.slice (some { block := p2, off := 0 }) 2 2, Value.pointer (some { block := w.heap.size, off := 1 }), Value.int IntKind.i64 (h : Int), undef, undef, undef, Value.pointer (some { block := w.heap.size, off := 3 }), Value.int IntKind.u64 (tk : Int), Value.string W3, undef, undef, undef, undef, undef, undef, undef, undef, undef, undef, undef, undef, undef, undef, undef, undef, undef, undef, undef, undef, undef, undef, undef, undef, undef, undef, undef, undef, undef, undef, undef, undef, undef, undef, undef, undef, undef, undef, undef, undef, undef, undef, undef, undef], defers := [] }) (by kernel_rfl) ?_
      have hqp2 : x2b.cell? ⟨p2, h, none⟩ = some (.string W2) := (Kp2.cell h).trans (wh_cell hwh hh)
      refine WK.take (i := 9) (v := Value.pointer (some { block := p2, off := h })) rfl (by kernel_rfl) (by kernel_rfl) (by kernel_rfl) (fun _ _ _ h => h) (YK.run (by kernel_rfl) (fun wz hz => by go_simp)) ?_
      refine WK.frame (a' := { tmps := #[Value.agg #[Value.int IntKind.i64 ((q : Int) + 1), Value.int IntKind.i64 (h : Int), Value.int IntKind.u64 (sq : Int), Value.int IntKind.u64 (tk : Int), Value.int IntKind.i64 cd, Value.slice A n c, Value.string ad], Value.pointer (some { block := w.heap.size, off := 0 }), Value.string { data := #[] }, undef, Value.agg #[Value.int IntKind.i64 ((q : Int) + 1), Value.int IntKind.i64 (h : Int), Value.int IntKind.u64 (sq : Int), Value.int IntKind.u64 (tk : Int), Value.int IntKind.i64 cd, Value.slice A n c, Value.string ad], Value.bool true, Value.bool false, Value.slice (some { block := p1, off := 0 }) 5 5, Value.pointer (some { block := w.heap.size, off := 0 }), Value.int IntKind.i64 ((q : Int) + 1), Value.int IntKind.i64 (q : Int), Value.pointer (some { block := p1, off := q }), Value.string W1, Value.slice (some { block := p2, off := 0 }) 2 2, Value.pointer (some { block := w.heap.size, off := 1 }), Value.int IntKind.i64 (h : Int), Value.pointer (some { block := p2, off := h }), undef, undef, Value.pointer (some { block := w.heap.size, off := 3 }), Value.int IntKind.u64 (tk : Int), Value.string W3, undef, undef, undef, undef, undef, undef, undef, undef, undef, undef, undef, undef, undef, undef, undef, undef, undef, undef, undef, undef, undef, undef, undef, undef, undef, undef, undef, undef, undef, undef, undef, undef, undef, undef, undef, undef, undef, undef, undef, undef, undef, undef, undef, undef], defers := [] }) (by kernel_rfl) ?_
      refine WK.take (i := 10) (v := Value.string W2) rfl (by kernel_rfl) (by kernel_rfl) (by kernel_rfl) (fun _ _ _ h => h) (YK.run (by kernel_rfl) (fun wz hz => by have hcell := (hz.below.cell (p := ⟨p2, h, none⟩) Kp2.lt).trans hqp2; go_simp)) ?_
      refine WK.frame (a' := { tmps := #[Value.agg #[Value.int IntKind.i64 ((q : Int) + 1), Value.int IntKind.i64 (h : Int), Value.int IntKind.u64 (sq : Int), Value.int IntKind.u64 (tk : Int), Value.int IntKind.i64 cd, Value.slice A n c, Value.string ad], Value.pointer (some { block := w.heap.size, off := 0 }), Value.string { data := #[] }, undef, Value.agg #[Value.int IntKind.i64 ((q : Int) + 1), Value.int IntKind.i64 (h : Int), Value.int IntKind.u64 (sq : Int), Value.int IntKind.u64 (tk : Int), Value.int IntKind.i64 cd, Value.slice A n c, Value.string ad], Value.bool true, Value.bool false, Value.slice (some { block := p1, off := 0 }) 5 5, Value.pointer (some { block := w.heap.size, off := 0 }), Value.int IntKind.i64 ((q : Int) + 1), Value.int IntKind.i64 (q : Int), Value.pointer (some { block := p1, off := q }), Value.string W1, Value.slice (some { block := p2, off := 0 }) 2 2, Value.pointer (some { block := w.heap.size, off := 1 }), Value.int IntKind.i64 (h : Int), Value.pointer (some { block := p2, off := h }), Value.string W2, undef, Value.pointer (some { block := w.heap.size, off := 3 }), Value.int IntKind.u64 (tk : Int), Value.string W3, undef, undef, undef, undef, undef, undef, undef, undef, undef, undef, undef, undef, undef, undef, undef, undef, undef, undef, undef, undef, undef, undef, undef, undef, undef, undef, undef, undef, undef, undef, undef, undef, undef, undef, undef, undef, undef, undef, undef, undef, undef, undef, undef, undef], defers := [] }) (by kernel_rfl) ?_
      refine WK.take (i := 11) (v := Value.string X1) rfl (by kernel_rfl) (by kernel_rfl) (by kernel_rfl) (fun _ _ _ h => h) (YK.run (by kernel_rfl) (fun wz hz => by go_simp)) ?_
      refine WK.frame (a' := { tmps := #[Value.agg #[Value.int IntKind.i64 ((q : Int) + 1), Value.int IntKind.i64 (h : Int), Value.int IntKind.u64 (sq : Int), Value.int IntKind.u64 (tk : Int), Value.int IntKind.i64 cd, Value.slice A n c, Value.string ad], Value.pointer (some { block := w.heap.size, off := 0 }), Value.string { data := #[] }, undef, Value.agg #[Value.int IntKind.i64 ((q : Int) + 1), Value.int IntKind.i64 (h : Int), Value.int IntKind.u64 (sq : Int), Value.int IntKind.u64 (tk : Int), Value.int IntKind.i64 cd, Value.slice A n c, Value.string ad], Value.bool true, Value.bool false, Value.slice (some { block := p1, off := 0 }) 5 5, Value.pointer (some { block := w.heap.size, off := 0 }), Value.int IntKind.i64 ((q : Int) + 1), Value.int IntKind.i64 (q : Int), Value.pointer (some { block := p1, off := q }), Value.string W1, Value.slice (some { block := p2, off := 0 }) 2 2, Value.pointer (some { block := w.heap.size, off := 1 }), Value.int IntKind.i64 (h : Int), Value.pointer (some { block := p2, off := h }), Value.string W2, Value.string X1, Value.pointer (some { block := w.heap.size, off := 3 }), Value.int IntKind.u64 (tk : Int), Value.string W3, undef, undef, undef, undef, undef, undef, undef, undef, undef, undef, undef, undef, undef, undef, undef, undef, undef, undef, undef, undef, undef, undef, undef, undef, undef, undef, undef, undef, undef, undef, undef, undef, undef, undef, undef, undef, undef, undef, undef, undef, undef, undef, undef, undef], defers := [] }) (by kernel_rfl) ?_
      refine WK.take (i := 15) (v := Value.string (X1 ++ W3)) rfl (by kernel_rfl) (by kernel_rfl) (by kernel_rfl) (fun _ _ _ h => h) (YK.run (by kernel_rfl) (fun wz hz => by go_simp)) ?_
      refine WK.frame (a' := { tmps := #[Value.agg #[Value.int IntKind.i64 ((q : Int) + 1), Value.int IntKind.i64 (h : Int), Value.int IntKind.u64 (sq : Int), Value.int IntKind.u64 (tk : Int), Value.int IntKind.i64 cd, Value.slice A n c, Value.string ad], Value.pointer (some { block := w.heap.size, off := 0 }), Value.string { data := #[] }, undef, Value.agg #[Value.int IntKind.i64 ((q : Int) + 1), Value.int IntKind.i64 (h : Int), Value.int IntKind.u64 (sq : Int), Value.int IntKind.u64 (tk : Int), Value.int IntKind.i64 cd, Value.slice A n c, Value.string ad], Value.bool true, Value.bool false, Value.slice (some { block := p1, off := 0 }) 5 5, Value.pointer (some { block := w.heap.size, off := 0 }), Value.int IntKind.i64 ((q : Int) + 1), Value.int IntKind.i64 (q : Int), Value.pointer (some { block := p1, off := q }), Value.string W1, Value.slice (some { block := p2, off := 0 }) 2 2, Value.pointer (some { block := w.heap.size, off := 1 }), Value.int IntKind.i64 (h : Int), Value.pointer (some { block := p2, off := h }), Value.string W2, Value.string X1, Value.pointer (some { block := w.heap.size, off := 3 }), Value.int IntKind.u64 (tk : Int), Value.string W3, Value.string (X1 ++ W3), undef, undef, undef, undef, undef, undef, undef, undef, undef, undef, undef, undef, undef, undef, undef, undef, undef, undef, undef, undef, undef, undef, undef, undef, undef, undef, undef, undef, undef, undef, undef, undef, undef, undef, undef, undef, undef, undef, undef, undef, undef, undef, undef], defers := [] }) (by kernel_rfl) ?_
      refine WK.take (i := 16) (v := Value.string (X1 ++ W3)) rfl (by kernel_rfl) (by kernel_rfl) (by kernel_rfl) (fun _ _ _ h => h) (YK.run (by kernel_rfl) (fun wz hz => by go_simp)) ?_
      refine WK.frame (a' := { tmps := #[Value.agg #[Value.int IntKind.i64 ((q : Int) + 1), Value.int IntKind.i64 (h : Int), Value.int IntKind.u64 (sq : Int), Value.int IntKind.u64 (tk : Int), Value.int IntKind.i64 cd, Value.slice A n c, Value.string ad], Value.pointer (some { block := w.heap.size, off := 0 }), Value.string { data := #[] }, Value.string (X1 ++ W3), Value.agg #[Value.int IntKind.i64 ((q : Int) + 1), Value.int IntKind.i64 (h : Int), Value.int IntKind.u64 (sq : Int), Value.int IntKind.u64 (tk : Int), Value.int IntKind.i64 cd, Value.slice A n c, Value.string ad], Value.bool true, Value.bool false, Value.slice (some { block := p1, off := 0 }) 5 5, Value.pointer (some { block := w.heap.size, off := 0 }), Value.int IntKind.i64 ((q : Int) + 1), Value.int IntKind.i64 (q : Int), Value.pointer (some { block := p1, off := q }), Value.string W1, Value.slice (some { block := p2, off := 0 }) 2 2, Value.pointer (some { block := w.heap.size, off := 1 }), Value.int IntKind.i64 (h : Int), Value.pointer (some { block := p2, off := h }), Value.string W2, Value.string X1, Value.pointer (some { block := w.heap.size, off := 3 }), Value.int IntKind.u64 (tk : Int), Value.string W3, Value.string (X1 ++ W3), undef, undef, undef, undef, undef, undef, undef, undef, undef, undef, undef, undef, undef, undef, undef, undef, undef, undef, undef, undef, undef, undef, undef, undef, undef, undef, undef, undef, undef, undef, undef, undef, undef, undef, undef, undef, undef, undef, undef, undef, undef, undef, undef], defers := [] }) (by kernel_rfl) ?_
      refine WK.done (by kernel_rfl) (fun wz hz => ?_)
      have hbz : Below w1.heap.size w1 wz := (((h1x.trans h1y).trans (h2x.trans h2y)).trans hz).below
      go_wp2_with fail
      go_meet
      case rel => exact ⟨rfl, hbz⟩
    · refine wpOp_makes (v := Value.slice (some { block := x1.heap.size, off := 0 }) 2 2) (w2 := x1.alloc (.cells whV0 9)) rfl (by kernel_rfl) (by go_simp; first | done | rfl) (?_ : _ ∧ _)
      have h1y : Up x1 (x1.alloc (.cells whV0 9)) := Up.of ((Below.refl _ x1).alloc (Nat.le_refl _) _)
      refine ⟨h1y, ?_⟩
      have Kp1 := Blk.new x1 9 whV0
      obtain ⟨p1, hp1⟩ : ∃ p1, x1.heap.size = p1 := ⟨_, rfl⟩
      rw [hp1] at Kp1 ⊢
      generalize x1.alloc (.cells whV0 9) = x1b at *
      refine WK.frame (a' := { tmps := #[Value.agg #[Value.int IntKind.i64 ((q : Int) + 1), Value.int IntKind.i64 (h : Int), Value.int IntKind.u64 (sq : Int), Value.int IntKind.u64 (tk : Int), Value.int IntKind.i64 cd, Value.slice A n c, Value.string ad], Value.pointer (some { block := w.heap.size, off := 0 }), Value.string { data := #[] }, undef, Value.agg #[Value.int IntKind.i64 ((q : Int) + 1), Value.int IntKind.i64 (h : Int), Value.int IntKind.u64 (sq : Int), Value.int IntKind.u64 (tk : Int), Value.int IntKind.i64 cd, Value.slice A n c, Value.string ad], Value.bool true, Value.bool false, undef, Value.pointer (some { block := w.heap.size, off := 0 }), Value.int IntKind.i64 ((q : Int) + 1), Value.int IntKind.i64 (q : Int), undef, undef, Value.slice (some { block := p1, off := 0 }) 2 2, Value.pointer (some { block := w.heap.size, off := 1 }), Value.int IntKind.i64 (h : Int), undef, undef, undef, Value.pointer (some { block := w.heap.size, off := 3 }), Value.int IntKind.u64 (tk : Int), Value.string W3, undef, undef, undef, undef, undef, undef, undef, undef, undef, undef, undef, undef, undef, undef, undef, undef, undef, undef, undef, undef, undef, undef, undef, undef, undef, undef, undef, undef, undef, undef, undef, undef, undef, undef, undef, undef, undef, undef, undef, undef, undef, undef, undef, undef], defers := [] }) (by kernel_rfl) ?_
      have hqp1 : x1b.cell? ⟨p1, h, none⟩ = some (.string W2) := (Kp1.cell h).trans (wh_cell hwh hh)
      refine WK.take (i := 9) (v := Value.pointer (some { block := p1, off := h })) rfl (by kernel_rfl) (by kernel_rfl) (by kernel_rfl) (fun _ _ _ h => h) (YK.run (by kernel_rfl) (fun wz hz => by go_simp)) ?_
      refine WK.frame (a' := { tmps := #[Value.agg #[Value.int IntKind.i64 ((q : Int) + 1), Value.int IntKind.i64 (h : Int), Value.int IntKind.u64 (sq : Int), Value.int IntKind.u64 (tk : Int), Value.int IntKind.i64 cd, Value.slice A n c, Value.string ad], Value.pointer (some { block := w.heap.size, off := 0 }), Value.string { data := #[] }, undef, Value.agg #[Value.int IntKind.i64 ((q : Int) + 1), Value.int IntKind.i64 (h : Int), Value.int IntKind.u64 (sq : Int), Value.int IntKind.u64 (tk : Int), Value.int IntKind.i64 cd, Value.slice A n c, Value.string ad], Value.bool true, Value.bool false, undef, Value.pointer (some { block := w.heap.size, off := 0 }), Value.int IntKind.i64 ((q : Int) + 1), Value.int IntKind.i64 (q : Int), undef, undef, Value.slice (some { block := p1, off := 0 }) 2 2, Value.pointer (some { block := w.heap.size, off := 1 }), Value.int IntKind.i64 (h : Int), Value.pointer (some { block := p1, off := h }), undef, undef, Value.pointer (some { block := w.heap.size, off := 3 }), Value.int IntKind.u64 (tk : Int), Value.string W3, undef, undef, undef, undef, undef, undef, undef, undef, undef, undef, undef, undef, undef, undef, undef, undef, undef, undef, undef, undef, undef, undef, undef, undef, undef, undef, undef, undef, undef, undef, undef, undef, undef, undef, undef, undef, undef, undef, undef, undef, undef, undef, undef, undef], defers := [] }) (by kernel_rfl) ?_
      refine WK.take (i := 10) (v := Value.string W2) rfl (by kernel_rfl) (by kernel_rfl) (by kernel_rfl) (fun _ _ _ h => h) (YK.run (by kernel_rfl) (fun wz hz => by have hcell := (hz.below.cell (p := ⟨p1, h, none⟩) Kp1.lt).trans hqp1; go_simp)) ?_
      refine WK.frame (a' := { tmps := #[Value.agg #[Value.int IntKind.i64 ((q : Int) + 1), Value.int IntKind.i64 (h : Int), Value.int IntKind.u64 (sq : Int), Value.int IntKind.u64 (tk : Int), Value.int IntKind.i64 cd, Value.slice A n c, Value.string ad], Value.pointer (some { block := w.heap.size, off := 0 }), Value.string { data := #[] }, undef, Value.agg #[Value.int IntKind.i64 ((q : Int) + 1), Value.int IntKind.i64 (h : Int), Value.int IntKind.u64 (sq : Int), Value.int IntKind.u64 (tk : Int), Value.int IntKind.i64 cd, Value.slice A n c, Value.string ad], Value.bool true, Value.bool false, undef, Value.pointer (some { block := w.heap.size, off := 0 }), Value.int IntKind.i64 ((q : Int) + 1), Value.int IntKind.i64 (q : Int), undef, undef, Value.slice (some { block := p1, off := 0 }) 2 2, Value.pointer (some { block := w.heap.size, off := 1 }), Value.int IntKind.i64 (h : Int), Value.pointer (some { block := p1, off := h }), Value.string W2, undef, Value.pointer (some { block := w.heap.size, off := 3 }), Value.int IntKind.u64 (tk : Int), Value.string W3, undef, undef, undef, undef, undef, undef, undef, undef, undef, undef, undef, undef, undef, undef, undef, undef, undef, undef, undef, undef, undef, undef, undef, undef, undef, undef, undef, undef, undef, undef, undef, undef, undef, undef, undef, undef, undef, undef, undef, undef, undef, undef, undef, undef], defers := [] }) (by kernel_rfl) ?_
      refine WK.each (rs := [0]) (by kernel_rfl) (by simp) (fun x2 h2x i hi => ?_)
      simp only [List.mem_cons, List.not_mem_nil, or_false] at hi
      subst hi
      refine wpOp_makes (v := Value.slice (some { block := x2.heap.size, off := 0 }) 5 5) (w2 := x2.alloc (.cells kwV0 9)) rfl (by kernel_rfl) (by go_simp; first | done | rfl) (?_ : _ ∧ _)
      have h2y : Up x2 (x2.alloc (.cells kwV0 9)) := Up.of ((Below.refl _ x2).alloc (Nat.le_refl _) _)
      refine ⟨h2y, ?_⟩
      have Kp2 := Blk.new x2 9 kwV0
      obtain ⟨p2, hp2⟩ : ∃ p2, x2.heap.size = p2 := ⟨_, rfl⟩
      rw [hp2] at Kp2 ⊢
      generalize x2.alloc (.cells kwV0 9) = x2b at *
      refine WK.frame (a' := { tmps := #[Value.agg #[Value.int IntKind.i64 ((q : Int) + 1), Value.int IntKind.i64 (h : Int), Value.int IntKind.u64 (sq : Int), Value.int IntKind.u64 (tk : Int), Value.int IntKind.i64 cd, Value.slice A n c, Value.string ad], Value.pointer (some { block := w.heap.size, off := 0 }), Value.string { data := #[] }, undef, Value.agg #[Value.int IntKind.i64 ((q : Int) + 1), Value.int IntKind.i64 (h : Int), Value.int IntKind.u64 (sq : Int), Value.int IntKind.u64 (tk : Int), Value.int IntKind.i64 cd, Value.slice A n c, Value.string ad], Value.bool true, Value.bool false, Value.slice (some { block := p2, off := 0 }) 5 5, Value.pointer (some { block := w.heap.size, off := 0 }), Value.int IntKind.i64 ((q : Int) + 1), Value.int IntKind.i64 (q : Int), undef, undef, Value.slice (some { block := p1, off := 0 }) 2 2, Value.pointer (some { block := w.heap.size, off := 1 }), Value.int IntKind.i64 (h : Int), Value.pointer (some { block := p1, off := h }), Value.string W2, undef, Value.pointer (some { block := w.heap.size, off := 3 }), Value.int IntKind.u64 (tk : Int), Value.string W3, undef, undef, undef, undef, undef, undef, undef, undef, undef, undef, undef, undef, undef, undef, undef, undef, undef, undef, undef, undef, undef, undef, undef, undef, undef, undef, undef, undef, undef, undef, undef, undef, undef, undef, undef, undef, undef, undef, undef, undef, undef, undef, undef, undef], defers := [] }) (by kernel_rfl) ?_
      have hqp2 : x2b.cell? ⟨p2, q, none⟩ = some (.string W1) := (Kp2.cell q).trans (kw_cell hkw hq)
      refine WK.take (i := 4) (v := Value.pointer (some { block := p2, off := q })) rfl (by kernel_rfl) (by kernel_rfl) (by kernel_rfl) (fun _ _ _ h => h) (YK.run (by kernel_rfl) (fun wz hz => by go_simp)) ?_
      refine WK.frame (a' := { tmps := #[Value.agg #[Value.int IntKind.i64 ((q : Int) + 1), Value.int IntKind.i64 (h : Int), Value.int IntKind.u64 (sq : Int), Value.int IntKind.u64 (tk : Int), Value.int IntKind.i64 cd, Value.slice A n c, Value.string ad], Value.pointer (some { block := w.heap.size, off := 0 }), Value.string { data := #[] }, undef, Value.agg #[Value.int IntKind.i64 ((q : Int) + 1), Value.int IntKind.i64 (h : Int), Value.int IntKind.u64 (sq : Int), Value.int IntKind.u64 (tk : Int), Value.int IntKind.i64 cd, Value.slice A n c, Value.string ad], Value.bool true, Value.bool false, Value.slice (some { block := p2, off := 0 }) 5 5, Value.pointer (some { block := w.heap.size, off := 0 }), Value.int IntKind.i64 ((q : Int) + 1), Value.int IntKind.i64 (q : Int), Value.pointer (some { block := p2, off := q }), undef, Value.slice (some { block := p1, off := 0 }) 2 2, Value.pointer (some { block := w.heap.size, off := 1 }), Value.int IntKind.i64 (h : Int), Value.pointer (some { block := p1, off := h }), Value.string W2, undef, Value.pointer (some { block := w.heap.size, off := 3 }), Value.int IntKind.u64 (tk : Int), Value.string W3, undef, undef, undef, undef, undef, undef, undef, undef, undef, undef, undef, undef, undef, undef, undef, undef, undef, undef, undef, undef, undef, undef, undef, undef, undef, undef, undef, undef, undef, undef, undef, undef, undef, undef, undef, undef, undef, undef, undef, undef, undef, undef, undef, undef], defers := [] }) (by kernel_rfl) ?_
      refine WK.take (i := 5) (v := Value.string W1) rfl (by kernel_rfl) (by kernel_rfl) (by kernel_rfl) (fun _ _ _ h => h) (YK.run (by kernel_rfl) (fun wz hz => by have hcell := (hz.below.cell (p := ⟨p2, q, none⟩) Kp2.lt).trans hqp2; go_simp)) ?_
      refine WK.frame (a' := { tmps := #[Value.agg #[Value.int IntKind.i64 ((q : Int) + 1), Value.int IntKind.i64 (h : Int), Value.int IntKind.u64 (sq : Int), Value.int IntKind.u64 (tk : Int), Value.int IntKind.i64 cd, Value.slice A n c, Value.string ad], Value.pointer (some { block := w.heap.size, off := 0 }), Value.string { data := #[] }, undef, Value.agg #[Value.int IntKind.i64 ((q : Int) + 1), Value.int IntKind.i64 (h : Int), Value.int IntKind.u64 (sq : Int), Value.int IntKind.u64 (tk : Int), Value.int IntKind.i64 cd, Value.slice A n c, Value.string ad], Value.bool true, Value.bool false, Value.slice (some { block := p2, off := 0 }) 5 5, Value.pointer (some { block := w.heap.size, off := 0 }), Value.int IntKind.i64 ((q : Int) + 1), Value.int IntKind.i64 (q : Int), Value.pointer (some { block := p2, off := q }), Value.string W1, Value.slice (some { block := p1, off := 0 }) 2 2, Value.pointer (some { block := w.heap.size, off := 1 }), Value.int IntKind.i64 (h : Int), Value.pointer (some { block := p1, off := h }), Value.string W2, undef, Value.pointer (some { block := w.heap.size, off := 3 }), Value.int IntKind.u64 (tk : Int), Value.string W3, undef, undef, undef, undef, undef, undef, undef, undef, undef, undef, undef, undef, undef, undef, undef, undef, undef, undef, undef, undef, undef, undef, undef, undef, undef, undef, undef, undef, undef, undef, undef, undef, undef, undef, undef, undef, undef, undef, undef, undef, undef, undef, undef, undef], defers := [] }) (by kernel_rfl) ?_
      refine WK.take (i := 11) (v := Value.string X1) rfl (by kernel_rfl) (by kernel_rfl) (by kernel_rfl) (fun _ _ _ h => h) (YK.run (by kernel_rfl) (fun wz hz => by go_simp)) ?_
      refine WK.frame (a' := { tmps := #[Value.agg #[Value.int IntKind.i64 ((q : Int) + 1), Value.int IntKind.i64 (h : Int), Value.int IntKind.u64 (sq : Int), Value.int IntKind.u64 (tk : Int), Value.int IntKind.i64 cd, Value.slice A n c, Value.string ad], Value.pointer (some { block := w.heap.size, off := 0 }), Value.string { data := #[] }, undef, Value.agg #[Value.int IntKind.i64 ((q : Int) + 1), Value.int IntKind.i64 (h : Int), Value.int IntKind.u64 (sq : Int), Value.int IntKind.u64 (tk : Int), Value.int IntKind.i64 cd, Value.slice A n c, Value.string ad], Value.bool true, Value.bool false, Value.slice (some { block := p2, off := 0 }) 5 5, Value.pointer (some { block := w.heap.size, off := 0 }), Value.int IntKind.i64 ((q : Int) + 1), Value.int IntKind.i64 (q : Int), Value.pointer (some { block := p2, off := q }), Value.string W1, Value.slice (some { block := p1, off := 0 }) 2 2, Value.pointer (some { block := w.heap.size, off := 1 }), Value.int IntKind.i64 (h : Int), Value.pointer (some { block := p1, off := h }), Value.string W2, Value.string X1, Value.pointer (some { block := w.heap.size, off := 3 }), Value.int IntKind.u64 (tk : Int), Value.string W3, undef, undef, undef, undef, undef, undef, undef, undef, undef, undef, undef, undef, undef, undef, undef, undef, undef, undef, undef, undef, undef, undef, undef, undef, undef, undef, undef, undef, undef, undef, undef, undef, undef, undef, undef, undef, undef, undef, undef, undef, undef, undef, undef, undef], defers := [] }) (by kernel_rfl) ?_
      refine WK.take (i := 15) (v := Value.string (X1 ++ W3)) rfl (by kernel_rfl) (by kernel_rfl) (by kernel_rfl) (fun _ _ _ h => h) (YK.run (by kernel_rfl) (fun wz hz => by go_simp)) ?_
      refine WK.frame (a' := { tmps := #[Value.agg #[Value.int IntKind.i64 ((q : Int) + 1), Value.int IntKind.i64 (h : Int), Value.int IntKind.u64 (sq : Int), Value.int IntKind.u64 (tk : Int), Value.int IntKind.i64 cd, Value.slice A n c, Value.string ad], Value.pointer (some { block := w.heap.size, off := 0 }), Value.string { data := #[] }, undef, Value.agg #[Value.int IntKind.i64 ((q : Int) + 1), Value.int IntKind.i64 (h : Int), Value.int IntKind.u64 (sq : Int), Value.int IntKind.u64 (tk : Int), Value.int IntKind.i64 cd, Value.slice A n c, Value.string ad], Value.bool true, Value.bool false, Value.slice (some { block := p2, off := 0 }) 5 5, Value.pointer (some { block := w.heap.size, off := 0 }), Value.int IntKind.i64 ((q : Int) + 1), Value.int IntKind.i64 (q : Int), Value.pointer (some { block := p2, off := q }), Value.string W1, Value.slice (some { block := p1, off := 0 }) 2 2, Value.pointer (some { block := w.heap.size, off := 1 }), Value.int IntKind.i64 (h : Int), Value.pointer (some { block := p1, off := h }), Value.string W2, Value.string X1, Value.pointer (some { block := w.heap.size, off := 3 }), Value.int IntKind.u64 (tk : Int), Value.string W3, Value.string (X1 ++ W3), undef, undef, undef, undef, undef, undef, undef, undef, undef, undef, undef, undef, undef, undef, undef, undef, undef, undef, undef, undef, undef, undef, undef, undef, undef, undef, undef, undef, undef, undef, undef, undef, undef, undef, undef, undef, undef, undef, undef, undef, undef, undef, undef], defers := [] }) (by kernel_rfl) ?_
      refine WK.take (i := 16) (v := Value.string (X1 ++ W3)) rfl (by kernel_rfl) (by kernel_rfl) (by kernel_rfl) (fun _ _ _ h => h) (YK.run (by kernel_rfl) (fun wz hz => by go_simp)) ?_
      refine WK.frame (a' := { tmps := #[Value.agg #[Value.int IntKind.i64 ((q : Int) + 1), Value.int IntKind.i64 (h : Int), Value.int IntKind.u64 (sq : Int), Value.int IntKind.u64 (tk : Int), Value.int IntKind.i64 cd, Value.slice A n c, Value.string ad], Value.pointer (some { block := w.heap.size, off := 0 }), Value.string { data := #[] }, Value.string (X1 ++ W3), Value.agg #[Value.int IntKind.i64 ((q : Int) + 1), Value.int IntKind.i64 (h : Int), Value.int IntKind.u64 (sq : Int), Value.int IntKind.u64 (tk : Int), Value.int IntKind.i64 cd, Value.slice A n c, Value.string ad], Value.bool true, Value.bool false, Value.slice (some { block := p2, off := 0 }) 5 5, Value.pointer (some { block := w.heap.size, off := 0 }), Value.int IntKind.i64 ((q : Int) + 1), Value.int IntKind.i64 (q : Int), Value.pointer (some { block := p2, off := q }), Value.string W1, Value.slice (some { block := p1, off := 0 }) 2 2, Value.pointer (some { block := w.heap.size, off := 1 }), Value.int IntKind.i64 (h : Int), Value.pointer (some { block := p1, off := h }), Value.string W2, Value.string X1, Value.pointer (some { block := w.heap.size, off := 3 }), Value.int IntKind.u64 (tk : Int), Value.string W3, Value.string (X1 ++ W3), undef, undef, undef, undef, undef, undef, undef, undef, undef, undef, undef, undef, undef, undef, undef, undef, undef, undef, undef, undef, undef, undef, undef, undef, undef, undef, undef, undef, undef, undef, undef, undef, undef, undef, undef, undef, undef, undef, undef, undef, undef, undef, undef], defers := [] }) (by kernel_rfl) ?_
      refine WK.done (by kernel_rfl) (fun wz hz => ?_)
      have hbz : Below w1.heap.size w1 wz := (((h1x.trans h1y).trans (h2x.trans h2y)).trans hz).below
      go_wp2_with fail
      go_meet
      case rel => exact ⟨rfl, hbz⟩
  
  case rest =>
    obtain ⟨rfl, hbc⟩ := hcut
    have K2 := Lib.hid (Blk.below K1.out hbc hlt)
    have H2 := Lib.hid (H1.out.trans (hbc.mono H1.out.size))
    have hltc : w.heap.size < wc.heap.size := Nat.lt_of_lt_of_le hlt hbc.size
    have hBs : (X1 ++ W3).size ≤ 37 := by rw [ByteArray.size_append]; omega
    rw [hX1] at hV
    clear c0 c1 c2 c3 c4 c5 c6 hkw hwh hX1 ha1 ha2 ha3 hz1 hz2 hft hsub hsub3 hqi hbc H0 K0 H1 K1
    generalize X1 ++ W3 = B at *
    have hfs := fun W => number_any sq W hsq
    have hfl : ∀ W, Calls Tryd.prog 27 #[.int .u64 (IntKind.u64.wrap (n : Int))] W fun e w' => e = .returned (.string (decS n)) ∧ Below W.heap.size W w' := fun W => by
      rw [show IntKind.u64.wrap (n : Int) = (n : Int) by (first | exact IntWalk.u64_in _ (by omega) | (unfold IntKind.wrap; simp [IntKind.bits, IntKind.signed]; omega))]
      exact number_any n W (by omega)
    have hnm := fun W => rname_any cd W
    have hzs := decS_size sq hsq
    have hzl := decS_size n (by omega)
    have hzn := nameS_size cd
    generalize decS sq = S at *
    generalize decS n = L at *
    generalize nameS cd = N at *
    clear hX1s hz3
    have hq5 : q = 0 ∨ q = 1 ∨ q = 2 ∨ q = 3 ∨ q = 4 := by omega
    obtain ⟨Y1, hY1, hy1⟩ : ∃ Y, B ++ (⟨#[32]⟩ : ByteArray) = Y ∧ Y.size ≤ 38 := ⟨_, rfl, by rw [ByteArray.size_append]; have : (⟨#[32]⟩ : ByteArray).size = 1 := rfl; omega⟩
    have hb1 : B.size ≤ 9223372036854775806 := by omega
    have hb1' : (9223372036854775807 < B.size + 1) = False := by simp; omega
    rcases hq5 with rfl | rfl | rfl | rfl | rfl
    · obtain ⟨c0, c1, c2, c3, c4, c5, c6⟩ := blk_seven K2.out
      obtain ⟨Y2, hY2, hy2⟩ : ∃ Y, Y1 ++ S = Y ∧ Y.size ≤ 58 := ⟨_, rfl, by rw [ByteArray.size_append]; omega⟩
      obtain ⟨Y3, hY3, hy3⟩ : ∃ Y, Y2 ++ (⟨#[32]⟩ : ByteArray) = Y ∧ Y.size ≤ 59 := ⟨_, rfl, by rw [ByteArray.size_append]; have : (⟨#[32]⟩ : ByteArray).size = 1 := rfl; omega⟩
      obtain ⟨Y4, hY4, hy4⟩ : ∃ Y, Y3 ++ L = Y ∧ Y.size ≤ 79 := ⟨_, rfl, by rw [ByteArray.size_append]; omega⟩
      obtain ⟨Y5, hY5, hy5⟩ : ∃ Y, Y4 ++ (⟨#[32]⟩ : ByteArray) = Y ∧ Y.size ≤ 80 := ⟨_, rfl, by rw [ByteArray.size_append]; have : (⟨#[32]⟩ : ByteArray).size = 1 := rfl; omega⟩
      have hV' : Y5 ++ ad = V := by
        rw [← hV, ← hY5, ← hY4, ← hY3, ← hY2, ← hY1]
        rfl
      have g2 : (9223372036854775807 < Y1.size + S.size) = False := by simp; omega
      have g3 : (9223372036854775807 < Y2.size + 1) = False := by simp; omega
      have g4 : (9223372036854775807 < Y3.size + L.size) = False := by simp; omega
      have g5 : (9223372036854775807 < Y4.size + 1) = False := by simp; omega
      have g6 : (9223372036854775807 < Y5.size + ad.size) = False := by simp; omega
      have HV := Lib.hid hV
      clear hV hnm hzn hy1 hy2 hy3 hy4 hy5 hBs
      go_upto_region 5 with (fail)
      have d2 := cell_regrown c2
      have d5 := cell_regrown c5
      have d6 := cell_regrown c6
      refine wp_region_quiet_below (by kernel_rfl) (by kernel_rfl) ?_
      repeat (first
        | go_big_quiet_skip
        | quiet_step (first | (go_at_call 27; with_reducible exact Calls.regrown_of (hfs _)) | (go_at_call 27; with_reducible exact Calls.regrown_of (hfl _))))
      refine wpQuiet_nil ?_
      rintro _ ⟨⟨dq, osq⟩, rfl⟩
      have hb5 := below_regrown wc dq osq
      have K3 := Lib.hid (Blk.below K2.out hb5 hltc)
      have H3 := Lib.hid (H2.out.trans (hb5.mono H2.out.size))
      clear c0 c1 c2 c3 c4 c5 c6 d2 d5 d6 hb5
      generalize grow (redrawn wc dq) osq = w5 at *
      obtain ⟨c0, c1, c2, c3, c4, c5, c6⟩ := blk_seven K3.out
      go_wp2_with fail
      go_ret
      exact ⟨rfl, H3.out⟩
    · obtain ⟨c0, c1, c2, c3, c4, c5, c6⟩ := blk_seven K2.out
      obtain ⟨Y2, hY2, hy2⟩ : ∃ Y, Y1 ++ S = Y ∧ Y.size ≤ 58 := ⟨_, rfl, by rw [ByteArray.size_append]; omega⟩
      obtain ⟨Y3, hY3, hy3⟩ : ∃ Y, Y2 ++ (⟨#[32]⟩ : ByteArray) = Y ∧ Y.size ≤ 59 := ⟨_, rfl, by rw [ByteArray.size_append]; have : (⟨#[32]⟩ : ByteArray).size = 1 := rfl; omega⟩
      obtain ⟨Y4, hY4, hy4⟩ : ∃ Y, Y3 ++ L = Y ∧ Y.size ≤ 79 := ⟨_, rfl, by rw [ByteArray.size_append]; omega⟩
      obtain ⟨Y5, hY5, hy5⟩ : ∃ Y, Y4 ++ (⟨#[32]⟩ : ByteArray) = Y ∧ Y.size ≤ 80 := ⟨_, rfl, by rw [ByteArray.size_append]; have : (⟨#[32]⟩ : ByteArray).size = 1 := rfl; omega⟩
      have hV' : Y5 ++ ad = V := by
        rw [← hV, ← hY5, ← hY4, ← hY3, ← hY2, ← hY1]
        rfl
      have g2 : (9223372036854775807 < Y1.size + S.size) = False := by simp; omega
      have g3 : (9223372036854775807 < Y2.size + 1) = False := by simp; omega
      have g4 : (9223372036854775807 < Y3.size + L.size) = False := by simp; omega
      have g5 : (9223372036854775807 < Y4.size + 1) = False := by simp; omega
      have g6 : (9223372036854775807 < Y5.size + ad.size) = False := by simp; omega
      have HV := Lib.hid hV
      clear hV hnm hzn hy1 hy2 hy3 hy4 hy5 hBs
      go_upto_region 5 with (fail)
      have d2 := cell_regrown c2
      have d5 := cell_regrown c5
      have d6 := cell_regrown c6
      refine wp_region_quiet_below (by kernel_rfl) (by kernel_rfl) ?_
      repeat (first
        | go_big_quiet_skip
        | quiet_step (first | (go_at_call 27; with_reducible exact Calls.regrown_of (hfs _)) | (go_at_call 27; with_reducible exact Calls.regrown_of (hfl _))))
      refine wpQuiet_nil ?_
      rintro _ ⟨⟨dq, osq⟩, rfl⟩
      have hb5 := below_regrown wc dq osq
      have K3 := Lib.hid (Blk.below K2.out hb5 hltc)
      have H3 := Lib.hid (H2.out.trans (hb5.mono H2.out.size))
      clear c0 c1 c2 c3 c4 c5 c6 d2 d5 d6 hb5
      generalize grow (redrawn wc dq) osq = w5 at *
      obtain ⟨c0, c1, c2, c3, c4, c5, c6⟩ := blk_seven K3.out
      go_wp2_with fail
      go_ret
      exact ⟨rfl, H3.out⟩
    · obtain ⟨c0, c1, c2, c3, c4, c5, c6⟩ := blk_seven K2.out
      obtain ⟨Y2, hY2, hy2⟩ : ∃ Y, Y1 ++ N = Y ∧ Y.size ≤ 58 := ⟨_, rfl, by rw [ByteArray.size_append]; omega⟩
      obtain ⟨Y3, hY3, hy3⟩ : ∃ Y, Y2 ++ (⟨#[32]⟩ : ByteArray) = Y ∧ Y.size ≤ 59 := ⟨_, rfl, by rw [ByteArray.size_append]; have : (⟨#[32]⟩ : ByteArray).size = 1 := rfl; omega⟩
      have hV' : Y3 ++ ad = V := by
        rw [← hV, ← hY3, ← hY2, ← hY1]
        rfl
      have g2 : Y1.size + N.size ≤ 9223372036854775807 := by omega
      have g3 : (9223372036854775807 < Y2.size + 1) = False := by simp; omega
      have g3' : Y2.size ≤ 9223372036854775806 := by omega
      have g6 : Y3.size + ad.size ≤ 9223372036854775807 := by omega
      have HV := Lib.hid hV
      clear hV hfs hfl hzs hzl hy1 hy2 hy3 hBs
      go_wp2_with (go_at_call 28; refine (hnm _).mono ?_; rintro _ w5 ⟨rfl, hb⟩; refine Hid.out ?_)
      refine Lib.hid ?_
      have K3 := Lib.hid (Blk.below K2.out hb hltc)
      have H3 := Lib.hid (H2.out.trans (hb.mono H2.out.size))
      clear c0 c1 c2 c3 c4 c5 c6 hb hnm
      obtain ⟨c0, c1, c2, c3, c4, c5, c6⟩ := blk_seven K3.out
      go_wp2_with fail
      go_ret
      exact ⟨rfl, H3.out⟩
    · obtain ⟨c0, c1, c2, c3, c4, c5, c6⟩ := blk_seven K2.out
      have hV' : Y1 ++ N = V := by
        rw [← hV, ← hY1]
        rfl
      have g2 : Y1.size + N.size ≤ 9223372036854775807 := by omega
      have HV := Lib.hid hV
      clear hV hfs hfl hzs hzl hy1 hBs
      go_wp2_with (go_at_call 28; refine (hnm _).mono ?_; rintro _ w5 ⟨rfl, hb⟩; refine Hid.out ?_)
      refine Lib.hid ?_
      have K3 := Lib.hid (Blk.below K2.out hb hltc)
      have H3 := Lib.hid (H2.out.trans (hb.mono H2.out.size))
      clear c0 c1 c2 c3 c4 c5 c6 hb hnm
      obtain ⟨c0, c1, c2, c3, c4, c5, c6⟩ := blk_seven K3.out
      go_wp2_with fail
      go_ret
      exact ⟨rfl, H3.out⟩
    · obtain ⟨c0, c1, c2, c3, c4, c5, c6⟩ := blk_seven K2.out
      obtain rfl : B = V := hV
      clear hfs hfl hnm
      go_wp2_with fail
      go_ret
      exact ⟨rfl, H2.out⟩
end Go.Proofs.YtgnegllehcpdpaaDoor
