import Derived.Test.YtbkgmeopdcealaaDoorHxp
import Derived.Test.YtbkgmeopdcealaaDoorKri
import Derived.Laws.BytesArg
import Derived.Laws.IdiomStrings
namespace Go.Proofs.YtbkgmeopdcealaaDoor
open Go.ChangeShapes Go.WideShapes Go.ChangeAt Go.RowKit Go.Sort
set_option linter.unusedVariables false
set_option linter.unusedSimpArgs false
theorem conv_bys {w : World} {n c : Nat} {Ad : Option Addr} {bs : List Nat} (h : Bys w Ad n bs) : (convert 22 9 (.slice Ad n c)).run Tryd.prog w = .ok (.string (str bs)) w := by
  have hl := h.len
  cases Ad with
  | none =>
    have h0 : n = 0 := by
      rcases Nat.eq_zero_or_pos n with h0 | h0
      · exact h0
      · obtain ⟨_, _, _, e, _⟩ := h.cell h0; cases e
    subst h0
    obtain rfl := List.length_eq_zero_iff.1 hl
    exact run_convert_bytes_nil w 22 5 Tryd.underlying22 Tryd.underlying5 0 c 9 Tryd.underlying9
  | some a =>
    have := run_convert_bytes_back (P := Tryd.prog) w 22 9 5 a c (bs.map UInt8.ofNat) Tryd.underlying22 Tryd.underlying5 Tryd.underlying9 (fun j hj => by
      have hj' : j < bs.length := by simpa using hj
      obtain ⟨b, o, x, e, _, hx, hx9, hc⟩ := h.cell (k := j) (by omega)
      injection e with e
      subst e
      rw [add_none, hc]
      have hxe : bs[j] = x := by rw [List.getElem?_eq_getElem hj'] at hx; exact Option.some.inj hx
      simp [hxe]
      omega)
    rw [show (bs.map UInt8.ofNat).length = n by simp [hl]] at this
    exact this
def alfS : ByteArray := ⟨#[48, 49, 50, 51, 52, 53, 54, 55, 56, 57, 97, 98, 99, 100, 101, 102]⟩
theorem alf_at : ∀ n : Fin 16, (alfS.data[n.1]?).map UInt8.toNat = some (hx n.1) := by decide
theorem idx_alf (n : Nat) (h : n < 16) (W : World) : (Instr.index 9 (.string ⟨#[48, 49, 50, 51, 52, 53, 54, 55, 56, 57, 97, 98, 99, 100, 101, 102]⟩) (.int .u8 (n : Int))).run Tryd.prog W = .ok (.int .u8 ((hx n : Nat) : Int)) W := by
  have hsz : alfS.size = 16 := rfl
  have e := alf_at ⟨n, h⟩
  have hr := run_index_string (P := Tryd.prog) (w := W) 9 alfS .u8 (n : Int) Tryd.underlying9
  rw [dif_pos ⟨by omega, by omega⟩] at hr
  refine hr.trans ?_
  have h2 : alfS[(n : Int).toNat]'(by omega) = alfS.data[n]'h := rfl
  have e1 : alfS.data[n]? = some (alfS.data[n]'h) := Array.getElem?_eq_getElem (show n < alfS.data.size from h)
  simp only at e
  rw [e1] at e
  simp at e
  rw [← e]
  rfl
theorem info5 : (Tryd.prog.info? 5).map (fun i => (i.zero, i.size, i.bytes)) = some (some (.int .u8 0), 1, 1) := by kernel_rfl
theorem blk_read {w : World} {g : Nat} {t : TypeId} {cs : Array Value} (h : Blk w g t cs) : ∀ j u, cs.toList[j]? = some u → w.cell? ((⟨g, 0, none⟩ : Addr).add j) = some u := by
  intro j u hu
  rw [add_none, Nat.zero_add, h.cell j, ← Array.getElem?_toList]
  exact hu
theorem news_blk2 (w : World) (cs : Array Value) (t : TypeId) : ∀ j u, cs.toList[j]? = some u → (w.alloc (.cells cs t)).cell? ((⟨w.heap.size, 0, none⟩ : Addr).add j) = some u := by
  intro j u hu
  rw [add_none, Nat.zero_add, Blk.cell (Blk.new w t cs) j, ← Array.getElem?_toList]
  exact hu
def u8v (l : List Nat) : List Value := l.map fun (x : Nat) => Value.int .u8 x
theorem hexL_next {bs : List Nat} {j x : Nat} (h : bs[j]? = some x) : hexL (bs.take (j + 1)) = hexL (bs.take j) ++ [hx (x / 16), hx (x % 16)] := by
  have app : ∀ a b : List Nat, hexL (a ++ b) = hexL a ++ hexL b := by
    intro a b
    induction a with
    | nil => rfl
    | cons y r ih => rw [List.cons_append, hexL, hexL, ih]; rfl
  rw [List.take_add_one, h, Option.toList_some, app]
  rfl
theorem u8_and15 (x : Nat) (h : x < 256) : bits .and .u8 (x : Int) 15 = ((x % 16 : Nat) : Int) := by
  have := u8_and_nat x 15 h (by decide)
  rw [show (15 : Nat) = 2 ^ 4 - 1 by decide, Nat.and_two_pow_sub_one_eq_mod] at this
  exact this
set_option maxRecDepth 100000 in
set_option maxHeartbeats 4000000 in
theorem hex_any (A : Option Addr) (n c : Nat) (bs : List Nat) (w : World) (hb : Bys w A n bs) (hn : n ≤ 1000000) :
    Calls Tryd.prog 21 #[.slice A n c] w fun e w' => e = .returned (.string (hexS bs)) ∧ Below w.heap.size w w' := by
  have hl := hb.len
  by_cases h0 : n = 0
  · subst h0
    obtain rfl := List.length_eq_zero_iff.1 hl
    clear hb hl
    go_enter Tryd.func21, Tryd.ntmps21
    go_wp2_with fail
    go_ret
    exact ⟨rfl, Below.refl _ _⟩
  obtain ⟨i0, hi, hz0, hz1, hz2⟩ := info_parts info5
  have HB := Lib.hid hb
  have HL := Lib.hid hl
  have HR := Lib.hid (show hexS bs = str (hexL bs) by unfold hexS; rw [if_neg (by intro e; rw [e] at hl; exact h0 hl.symm)])
  generalize hexS bs = RT at *
  have hnb : ((n : Int) == 0) = false := beq_false_of_ne (by omega)
  have hn0 : ¬ (n : Int) = 0 := by omega
  clear hb hl
  go_enter Tryd.func21, Tryd.ntmps21
  go_wp2_with fail
  go_loopw [3, 11] (fun v i wr => ∃ j : Nat, i = .int .i64 j ∧ j ≤ n ∧ wr.ownsRow w.heap.size 5 1 v (j * 2) (u8v (hexL (bs.take j))) ∧ Below w.heap.size w wr) (fun _ i _ => n - (intOf i).toNat)
  case atStart => exact ⟨0, rfl, by omega, by rw [List.take_zero]; exact World.ownsRow_nil _ _ _ _, Below.refl _ _⟩
  case round =>
    obtain ⟨j, rfl, hjn, ho, hbel⟩ := hrel
    obtain ⟨A1, c1, rfl⟩ := own_form ho
    have HO := Lib.hid ho
    have HE := Lib.hid hbel
    have hsz := hbel.size
    clear ho hbel
    by_cases hlt : j < n
    · obtain ⟨b, o, x, rfl, hbw, hx, hx9, hc⟩ := HB.out.cell hlt
      have c0 := (HE.out.cell (p := ⟨b, o + j, none⟩) hbw).trans hc
      have HN := Lib.hid (hexL_next hx)
      have hji : (j : Int) < (n : Int) := by omega
      obtain ⟨p, hp⟩ : ∃ p, x / 16 = p := ⟨_, rfl⟩
      obtain ⟨q, hq⟩ : ∃ q, x % 16 = q := ⟨_, rfl⟩
      have hp16 : p < 16 := by omega
      have hq16 : q < 16 := by omega
      have hix := idx_alf p hp16
      have hiy := idx_alf q hq16
      have hdv : (x : Int) / 16 = (p : Int) := by omega
      have hand := u8_and15 x hx9
      rw [hq] at hand
      rw [hp, hq] at HN
      clear hc hx hp hq hx9
      generalize Go.Proofs.YtbkgmeopdcealaaDoor.hx p = P1 at *
      generalize Go.Proofs.YtbkgmeopdcealaaDoor.hx q = P2 at *
      go_wp2_with fail
      have hR := later_below
      have ho1 := HO.out
      have he1 := HE.out
      refine wp_region_later (X := [8]) hR (by kernel_rfl) ?_
      refine WK.pure hR (i := 0) (v := Value.slice A1 (j * 2) c1) rfl (by kernel_rfl) (by kernel_rfl) (by kernel_rfl) (fun _ _ _ h => h) (by kernel_rfl) (fun wz => by go_simp) ?_
      refine WK.frame (a' := { tmps := #[Value.slice (some { block := b, off := o }) n c, undef, Value.string { data := #[] }, Value.slice A1 (j * 2) c1, undef, Value.int IntKind.u8 x, Value.slice (some { block := b, off := o }) n c, Value.int IntKind.i64 n, Value.bool false, Value.slice (some { block := b, off := o }) n c, Value.int IntKind.i64 n, Value.int IntKind.i64 j, Value.bool true, Value.pointer (some { block := b, off := o + j }), Value.int IntKind.u8 x, Value.slice A1 (j * 2) c1, u16, u17, u18, u19, u20, u21, u22, u23, u24, undef, undef], defers := [] }) (by kernel_rfl) ?_
      refine WK.pure hR (i := 1) (v := Value.int IntKind.u8 x) rfl (by kernel_rfl) (by kernel_rfl) (by kernel_rfl) (fun _ _ _ h => h) (by kernel_rfl) (fun wz => by go_simp) ?_
      refine WK.frame (a' := { tmps := #[Value.slice (some { block := b, off := o }) n c, undef, Value.string { data := #[] }, Value.slice A1 (j * 2) c1, undef, Value.int IntKind.u8 x, Value.slice (some { block := b, off := o }) n c, Value.int IntKind.i64 n, Value.bool false, Value.slice (some { block := b, off := o }) n c, Value.int IntKind.i64 n, Value.int IntKind.i64 j, Value.bool true, Value.pointer (some { block := b, off := o + j }), Value.int IntKind.u8 x, Value.slice A1 (j * 2) c1, Value.int IntKind.u8 x, u17, u18, u19, u20, u21, u22, u23, u24, undef, undef], defers := [] }) (by kernel_rfl) ?_
      refine WK.pure hR (i := 2) (v := Value.int IntKind.u8 p) rfl (by kernel_rfl) (by kernel_rfl) (by kernel_rfl) (fun _ _ _ h => h) (by kernel_rfl) (fun wz => by go_simp; first | done | rfl) ?_
      refine WK.frame (a' := { tmps := #[Value.slice (some { block := b, off := o }) n c, undef, Value.string { data := #[] }, Value.slice A1 (j * 2) c1, undef, Value.int IntKind.u8 x, Value.slice (some { block := b, off := o }) n c, Value.int IntKind.i64 n, Value.bool false, Value.slice (some { block := b, off := o }) n c, Value.int IntKind.i64 n, Value.int IntKind.i64 j, Value.bool true, Value.pointer (some { block := b, off := o + j }), Value.int IntKind.u8 x, Value.slice A1 (j * 2) c1, Value.int IntKind.u8 x, Value.int IntKind.u8 p, u18, u19, u20, u21, u22, u23, u24, undef, undef], defers := [] }) (by kernel_rfl) ?_
      refine WK.pure hR (i := 3) (v := Value.int IntKind.u8 P1) rfl (by kernel_rfl) (by kernel_rfl) (by kernel_rfl) (fun _ _ _ h => h) (by kernel_rfl) (fun wz => by first | exact hix wz | (go_simp; done) | (go_simp; rw [hix wz]; rfl)) ?_
      refine WK.frame (a' := { tmps := #[Value.slice (some { block := b, off := o }) n c, undef, Value.string { data := #[] }, Value.slice A1 (j * 2) c1, undef, Value.int IntKind.u8 x, Value.slice (some { block := b, off := o }) n c, Value.int IntKind.i64 n, Value.bool false, Value.slice (some { block := b, off := o }) n c, Value.int IntKind.i64 n, Value.int IntKind.i64 j, Value.bool true, Value.pointer (some { block := b, off := o + j }), Value.int IntKind.u8 x, Value.slice A1 (j * 2) c1, Value.int IntKind.u8 x, Value.int IntKind.u8 p, Value.int IntKind.u8 P1, u19, u20, u21, u22, u23, u24, undef, undef], defers := [] }) (by kernel_rfl) ?_
      refine WK.pure hR (i := 4) (v := Value.int IntKind.u8 x) rfl (by kernel_rfl) (by kernel_rfl) (by kernel_rfl) (fun _ _ _ h => h) (by kernel_rfl) (fun wz => by go_simp) ?_
      refine WK.frame (a' := { tmps := #[Value.slice (some { block := b, off := o }) n c, undef, Value.string { data := #[] }, Value.slice A1 (j * 2) c1, undef, Value.int IntKind.u8 x, Value.slice (some { block := b, off := o }) n c, Value.int IntKind.i64 n, Value.bool false, Value.slice (some { block := b, off := o }) n c, Value.int IntKind.i64 n, Value.int IntKind.i64 j, Value.bool true, Value.pointer (some { block := b, off := o + j }), Value.int IntKind.u8 x, Value.slice A1 (j * 2) c1, Value.int IntKind.u8 x, Value.int IntKind.u8 p, Value.int IntKind.u8 P1, Value.int IntKind.u8 x, u20, u21, u22, u23, u24, undef, undef], defers := [] }) (by kernel_rfl) ?_
      refine WK.pure hR (i := 5) (v := Value.int IntKind.u8 q) rfl (by kernel_rfl) (by kernel_rfl) (by kernel_rfl) (fun _ _ _ h => h) (by kernel_rfl) (fun wz => by go_simp; first | done | rfl) ?_
      refine WK.frame (a' := { tmps := #[Value.slice (some { block := b, off := o }) n c, undef, Value.string { data := #[] }, Value.slice A1 (j * 2) c1, undef, Value.int IntKind.u8 x, Value.slice (some { block := b, off := o }) n c, Value.int IntKind.i64 n, Value.bool false, Value.slice (some { block := b, off := o }) n c, Value.int IntKind.i64 n, Value.int IntKind.i64 j, Value.bool true, Value.pointer (some { block := b, off := o + j }), Value.int IntKind.u8 x, Value.slice A1 (j * 2) c1, Value.int IntKind.u8 x, Value.int IntKind.u8 p, Value.int IntKind.u8 P1, Value.int IntKind.u8 x, Value.int IntKind.u8 q, u21, u22, u23, u24, undef, undef], defers := [] }) (by kernel_rfl) ?_
      refine WK.pure hR (i := 6) (v := Value.int IntKind.u8 P2) rfl (by kernel_rfl) (by kernel_rfl) (by kernel_rfl) (fun _ _ _ h => h) (by kernel_rfl) (fun wz => by first | exact hiy wz | (go_simp; done) | (go_simp; rw [hiy wz]; rfl)) ?_
      refine WK.frame (a' := { tmps := #[Value.slice (some { block := b, off := o }) n c, undef, Value.string { data := #[] }, Value.slice A1 (j * 2) c1, undef, Value.int IntKind.u8 x, Value.slice (some { block := b, off := o }) n c, Value.int IntKind.i64 n, Value.bool false, Value.slice (some { block := b, off := o }) n c, Value.int IntKind.i64 n, Value.int IntKind.i64 j, Value.bool true, Value.pointer (some { block := b, off := o + j }), Value.int IntKind.u8 x, Value.slice A1 (j * 2) c1, Value.int IntKind.u8 x, Value.int IntKind.u8 p, Value.int IntKind.u8 P1, Value.int IntKind.u8 x, Value.int IntKind.u8 q, Value.int IntKind.u8 P2, u22, u23, u24, undef, undef], defers := [] }) (by kernel_rfl) ?_
      refine WK.each (rs := [7]) (by kernel_rfl) (by simp) (fun x1 hx1 i hi => ?_)
      simp only [List.mem_cons, List.not_mem_nil, or_false] at hi
      subst hi
      refine wpOp_makes (v := Value.slice (some { block := x1.heap.size, off := 0 }) 2 2) (w2 := x1.alloc (.cells #[.int .u8 P1, .int .u8 P2] 5)) rfl (by kernel_rfl) (by go_simp; first | done | rfl) ⟨.inr ((Below.refl _ x1).alloc (Nat.le_refl _) _), ?_⟩
      have KN := Blk.new x1 5 #[.int .u8 P1, .int .u8 P2]
      have hB2 : Below wr.heap.size wr (x1.alloc (.cells #[.int .u8 P1, .int .u8 P2] 5)) := hx1.alloc hx1.size _
      obtain ⟨bk, hbk⟩ : ∃ bk, x1.heap.size = bk := ⟨_, rfl⟩
      rw [hbk] at KN ⊢
      generalize x1.alloc (.cells #[.int .u8 P1, .int .u8 P2] 5) = x2 at *
      refine WK.frame (a' := { tmps := #[Value.slice (some { block := b, off := o }) n c, undef, Value.string { data := #[] }, Value.slice A1 (j * 2) c1, undef, Value.int IntKind.u8 x, Value.slice (some { block := b, off := o }) n c, Value.int IntKind.i64 n, Value.bool false, Value.slice (some { block := b, off := o }) n c, Value.int IntKind.i64 n, Value.int IntKind.i64 j, Value.bool true, Value.pointer (some { block := b, off := o + j }), Value.int IntKind.u8 x, Value.slice A1 (j * 2) c1, Value.int IntKind.u8 x, Value.int IntKind.u8 p, Value.int IntKind.u8 P1, Value.int IntKind.u8 x, Value.int IntKind.u8 q, Value.int IntKind.u8 P2, Value.slice (some { block := bk, off := 0 }) 2 2, u23, u24, undef, undef], defers := [] }) (by kernel_rfl) ?_
      refine WK.each (rs := [8]) (by kernel_rfl) (by simp) (fun x3 hx3 i hi => ?_)
      simp only [List.mem_cons, List.not_mem_nil, or_false] at hi
      subst hi
      have hb3 : Below wr.heap.size wr x3 := hB2.trans (hx3.mono hB2.size)
      have ho3 := own_below ho1 hb3
      have he3 := he1.trans (hb3.mono he1.size)
      have K3 := KN.below hx3 KN.lt
      refine wpOp_list rfl (by kernel_rfl) (wp_append_own (P := Tryd.prog) x3 (.tmp 15) (.tmp 22) 22 rfl w.heap.size 5 i0 _ 1 1 Tryd.underlying22 hi hz0 hz1 hz2 rfl (by decide) (Value.slice A1 (j * 2) c1) (j * 2) _ rfl ho3 ⟨bk, 0, none⟩ 2 2 [.int .u8 P1, .int .u8 P2] rfl rfl (blk_read K3) (by simp [Value.oneCell']) (by unfold maxLen; omega) (by omega) he3.size ?_)
      intro v9 w9 ho9 hg9 _
      refine ⟨.inl (by simp), ?_⟩
      have hb9 : Below w.heap.size w w9 := below_own he3 ho3 hg9 (Nat.le_refl _) he3.size
      obtain ⟨a9, c9, rfl⟩ := own_form ho9
      clear hg9 ho3 K3 KN hx3 hb3 he3 hB2 hx1
      refine WK.frame (a' := { tmps := #[Value.slice (some { block := b, off := o }) n c, undef, Value.string { data := #[] }, Value.slice A1 (j * 2) c1, undef, Value.int IntKind.u8 x, Value.slice (some { block := b, off := o }) n c, Value.int IntKind.i64 n, Value.bool false, Value.slice (some { block := b, off := o }) n c, Value.int IntKind.i64 n, Value.int IntKind.i64 j, Value.bool true, Value.pointer (some { block := b, off := o + j }), Value.int IntKind.u8 x, Value.slice A1 (j * 2) c1, Value.int IntKind.u8 x, Value.int IntKind.u8 p, Value.int IntKind.u8 P1, Value.int IntKind.u8 x, Value.int IntKind.u8 q, Value.int IntKind.u8 P2, Value.slice (some { block := bk, off := 0 }) 2 2, Value.slice a9 ((j * 2) + 2) c9, u24, undef, undef], defers := [] }) (by kernel_rfl) ?_
      refine WK.pure hR (i := 9) (v := Value.slice a9 ((j * 2) + 2) c9) rfl (by kernel_rfl) (by kernel_rfl) (by kernel_rfl) (fun _ _ _ h => h) (by kernel_rfl) (fun wz => by go_simp) ?_
      refine WK.frame (a' := { tmps := #[Value.slice (some { block := b, off := o }) n c, undef, Value.string { data := #[] }, Value.slice a9 ((j * 2) + 2) c9, undef, Value.int IntKind.u8 x, Value.slice (some { block := b, off := o }) n c, Value.int IntKind.i64 n, Value.bool false, Value.slice (some { block := b, off := o }) n c, Value.int IntKind.i64 n, Value.int IntKind.i64 j, Value.bool true, Value.pointer (some { block := b, off := o + j }), Value.int IntKind.u8 x, Value.slice A1 (j * 2) c1, Value.int IntKind.u8 x, Value.int IntKind.u8 p, Value.int IntKind.u8 P1, Value.int IntKind.u8 x, Value.int IntKind.u8 q, Value.int IntKind.u8 P2, Value.slice (some { block := bk, off := 0 }) 2 2, Value.slice a9 ((j * 2) + 2) c9, u24, undef, undef], defers := [] }) (by kernel_rfl) ?_
      refine WK.done (by kernel_rfl) (fun wz hz => ?_)
      have O7 := Lib.hid (own_below ho9 hz)
      have H7 := Lib.hid (hb9.trans (hz.mono hb9.size))
      clear hz ho9 hb9
      clear hix hiy hdv hand c0 ho1 he1 hR
      go_wp2_with fail
      go_roundw
      case rel => exact ⟨j + 1, by first | rfl | go_num, by omega, by rw [HN.out, show (j + 1) * 2 = j * 2 + 2 by omega]; simpa [u8v] using O7.out, H7.out⟩
      case measure => simp [intOf]; omega
    · obtain rfl : j = n := by omega
      have ht : bs.take j = bs := List.take_of_length_le (by rw [HL.out]; exact Nat.le_refl _)
      have ho2 := HO.out
      rw [ht] at ho2
      have hy : Bys wr A1 (j * 2) (hexL bs) := Bys.of_own ho2 (fun x hx => by have := hexL_lt bs HB.out.2 x hx; omega)
      have hcv := conv_bys (c := c1) hy
      rw [← HR.out] at hcv
      clear ht ho2 hy
      go_wp2_with fail
      go_ret
      exact ⟨rfl, HE.out⟩
set_option maxRecDepth 100000 in
set_option maxHeartbeats 4000000 in
theorem rhex_any (A : Option Addr) (n c : Nat) (bs : List Nat) (w : World) (hb : Bys w A n bs) (hn : n ≤ 1000000) :
    Calls Tryd.prog 24 #[.slice A n c] w fun e w' => e = .returned (.string (hexS bs)) ∧ Below w.heap.size w w' := by
  have hl := hb.len
  by_cases h0 : n = 0
  · subst h0
    obtain rfl := List.length_eq_zero_iff.1 hl
    clear hb hl
    go_enter Tryd.func24, Tryd.ntmps24
    go_wp2_with fail
    go_ret
    exact ⟨rfl, Below.refl _ _⟩
  obtain ⟨i0, hi, hz0, hz1, hz2⟩ := info_parts info5
  have HB := Lib.hid hb
  have HL := Lib.hid hl
  have HR := Lib.hid (show hexS bs = str (hexL bs) by unfold hexS; rw [if_neg (by intro e; rw [e] at hl; exact h0 hl.symm)])
  generalize hexS bs = RT at *
  have hnb : ((n : Int) == 0) = false := beq_false_of_ne (by omega)
  have hn0 : ¬ (n : Int) = 0 := by omega
  clear hb hl
  go_enter Tryd.func24, Tryd.ntmps24
  go_wp2_with fail
  go_loopw [4, 5] (fun v i wr => ∃ j : Nat, i = .int .i64 j ∧ j ≤ n ∧ wr.ownsRow w.heap.size 5 1 v (j * 2) (u8v (hexL (bs.take j))) ∧ Below w.heap.size w wr) (fun _ i _ => n - (intOf i).toNat)
  case atStart => exact ⟨0, rfl, by omega, by rw [List.take_zero]; exact World.ownsRow_nil _ _ _ _, Below.refl _ _⟩
  case round =>
    obtain ⟨j, rfl, hjn, ho, hbel⟩ := hrel
    obtain ⟨A1, c1, rfl⟩ := own_form ho
    have HO := Lib.hid ho
    have HE := Lib.hid hbel
    have hsz := hbel.size
    clear ho hbel
    by_cases hlt : j < n
    · obtain ⟨b, o, x, rfl, hbw, hx, hx9, hc⟩ := HB.out.cell hlt
      have c0 := (HE.out.cell (p := ⟨b, o + j, none⟩) hbw).trans hc
      have HN := Lib.hid (hexL_next hx)
      have hji : (j : Int) < (n : Int) := by omega
      have hbr : b < wr.heap.size := by omega
      obtain ⟨p, hp⟩ : ∃ p, x / 16 = p := ⟨_, rfl⟩
      obtain ⟨q, hq⟩ : ∃ q, x % 16 = q := ⟨_, rfl⟩
      have hp16 : p < 16 := by omega
      have hq16 : q < 16 := by omega
      have hix := idx_alf p hp16
      have hiy := idx_alf q hq16
      have hdv : (x : Int) / 16 = (p : Int) := by omega
      have hwp : IntKind.u8.wrap (p : Int) = (p : Int) := IntWalk.u8_in _ (by omega)
      have hmd : (x : Int).tmod 16 = (q : Int) := by rw [Int.tmod_eq_emod_of_nonneg (by omega)]; omega
      have hand := u8_and15 x hx9
      rw [hq] at hand
      rw [hp, hq] at HN
      clear hc hx hp hq hx9
      generalize Go.Proofs.YtbkgmeopdcealaaDoor.hx p = P1 at *
      generalize Go.Proofs.YtbkgmeopdcealaaDoor.hx q = P2 at *
      go_wp2_with fail
      have hR := later_below
      have ho1 := HO.out
      have he1 := HE.out
      refine wp_region_later (X := [16]) hR (by kernel_rfl) ?_
      refine WK.pure hR (i := 0) (v := Value.slice A1 (j * 2) c1) rfl (by kernel_rfl) (by kernel_rfl) (by kernel_rfl) (fun _ _ _ h => h) (by kernel_rfl) (fun wz => by go_simp) ?_
      refine WK.frame (a' := { tmps := #[Value.slice (some { block := b, off := o }) n c, undef, Value.string { data := #[] }, Value.string { data := #[48, 49, 50, 51, 52, 53, 54, 55, 56, 57, 97, 98, 99, 100, 101, 102] }, Value.slice A1 (j * 2) c1, Value.int IntKind.i64 j, Value.slice (some { block := b, off := o }) n c, Value.int IntKind.i64 n, Value.bool false, Value.int IntKind.i64 j, Value.slice (some { block := b, off := o }) n c, Value.int IntKind.i64 n, Value.bool true, u13, u14, Value.slice A1 (j * 2) c1, u16, u17, u18, u19, u20, u21, u22, u23, u24, u25, u26, u27, u28, u29, u30, u31, undef, undef], defers := [] }) (by kernel_rfl) ?_
      refine WK.pure hR (i := 1) (v := Value.string { data := #[48, 49, 50, 51, 52, 53, 54, 55, 56, 57, 97, 98, 99, 100, 101, 102] }) rfl (by kernel_rfl) (by kernel_rfl) (by kernel_rfl) (fun _ _ _ h => h) (by kernel_rfl) (fun wz => by go_simp) ?_
      refine WK.frame (a' := { tmps := #[Value.slice (some { block := b, off := o }) n c, undef, Value.string { data := #[] }, Value.string { data := #[48, 49, 50, 51, 52, 53, 54, 55, 56, 57, 97, 98, 99, 100, 101, 102] }, Value.slice A1 (j * 2) c1, Value.int IntKind.i64 j, Value.slice (some { block := b, off := o }) n c, Value.int IntKind.i64 n, Value.bool false, Value.int IntKind.i64 j, Value.slice (some { block := b, off := o }) n c, Value.int IntKind.i64 n, Value.bool true, u13, u14, Value.slice A1 (j * 2) c1, Value.string { data := #[48, 49, 50, 51, 52, 53, 54, 55, 56, 57, 97, 98, 99, 100, 101, 102] }, u17, u18, u19, u20, u21, u22, u23, u24, u25, u26, u27, u28, u29, u30, u31, undef, undef], defers := [] }) (by kernel_rfl) ?_
      refine WK.pure hR (i := 2) (v := Value.slice (some { block := b, off := o }) n c) rfl (by kernel_rfl) (by kernel_rfl) (by kernel_rfl) (fun _ _ _ h => h) (by kernel_rfl) (fun wz => by go_simp) ?_
      refine WK.frame (a' := { tmps := #[Value.slice (some { block := b, off := o }) n c, undef, Value.string { data := #[] }, Value.string { data := #[48, 49, 50, 51, 52, 53, 54, 55, 56, 57, 97, 98, 99, 100, 101, 102] }, Value.slice A1 (j * 2) c1, Value.int IntKind.i64 j, Value.slice (some { block := b, off := o }) n c, Value.int IntKind.i64 n, Value.bool false, Value.int IntKind.i64 j, Value.slice (some { block := b, off := o }) n c, Value.int IntKind.i64 n, Value.bool true, u13, u14, Value.slice A1 (j * 2) c1, Value.string { data := #[48, 49, 50, 51, 52, 53, 54, 55, 56, 57, 97, 98, 99, 100, 101, 102] }, Value.slice (some { block := b, off := o }) n c, u18, u19, u20, u21, u22, u23, u24, u25, u26, u27, u28, u29, u30, u31, undef, undef], defers := [] }) (by kernel_rfl) ?_
      refine WK.pure hR (i := 3) (v := Value.int IntKind.i64 j) rfl (by kernel_rfl) (by kernel_rfl) (by kernel_rfl) (fun _ _ _ h => h) (by kernel_rfl) (fun wz => by go_simp) ?_
      refine WK.frame (a' := { tmps := #[Value.slice (some { block := b, off := o }) n c, undef, Value.string { data := #[] }, Value.string { data := #[48, 49, 50, 51, 52, 53, 54, 55, 56, 57, 97, 98, 99, 100, 101, 102] }, Value.slice A1 (j * 2) c1, Value.int IntKind.i64 j, Value.slice (some { block := b, off := o }) n c, Value.int IntKind.i64 n, Value.bool false, Value.int IntKind.i64 j, Value.slice (some { block := b, off := o }) n c, Value.int IntKind.i64 n, Value.bool true, u13, u14, Value.slice A1 (j * 2) c1, Value.string { data := #[48, 49, 50, 51, 52, 53, 54, 55, 56, 57, 97, 98, 99, 100, 101, 102] }, Value.slice (some { block := b, off := o }) n c, Value.int IntKind.i64 j, u19, u20, u21, u22, u23, u24, u25, u26, u27, u28, u29, u30, u31, undef, undef], defers := [] }) (by kernel_rfl) ?_
      refine WK.pure hR (i := 4) (v := Value.pointer (some { block := b, off := o + j })) rfl (by kernel_rfl) (by kernel_rfl) (by kernel_rfl) (fun _ _ _ h => h) (by kernel_rfl) (fun wz => by go_simp; first | done | rfl) ?_
      refine WK.frame (a' := { tmps := #[Value.slice (some { block := b, off := o }) n c, undef, Value.string { data := #[] }, Value.string { data := #[48, 49, 50, 51, 52, 53, 54, 55, 56, 57, 97, 98, 99, 100, 101, 102] }, Value.slice A1 (j * 2) c1, Value.int IntKind.i64 j, Value.slice (some { block := b, off := o }) n c, Value.int IntKind.i64 n, Value.bool false, Value.int IntKind.i64 j, Value.slice (some { block := b, off := o }) n c, Value.int IntKind.i64 n, Value.bool true, u13, u14, Value.slice A1 (j * 2) c1, Value.string { data := #[48, 49, 50, 51, 52, 53, 54, 55, 56, 57, 97, 98, 99, 100, 101, 102] }, Value.slice (some { block := b, off := o }) n c, Value.int IntKind.i64 j, Value.pointer (some { block := b, off := o + j }), u20, u21, u22, u23, u24, u25, u26, u27, u28, u29, u30, u31, undef, undef], defers := [] }) (by kernel_rfl) ?_
      refine WK.take hR (i := 5) (v := Value.int IntKind.u8 x) rfl (by kernel_rfl) (by kernel_rfl) (by kernel_rfl) (by kernel_rfl) (fun _ _ _ h => h) (YK.run (by kernel_rfl) (fun wz hz => by have hcell := (hz.cell (p := ⟨b, o + j, none⟩) hbr).trans c0; go_simp)) ?_
      refine WK.frame (a' := { tmps := #[Value.slice (some { block := b, off := o }) n c, undef, Value.string { data := #[] }, Value.string { data := #[48, 49, 50, 51, 52, 53, 54, 55, 56, 57, 97, 98, 99, 100, 101, 102] }, Value.slice A1 (j * 2) c1, Value.int IntKind.i64 j, Value.slice (some { block := b, off := o }) n c, Value.int IntKind.i64 n, Value.bool false, Value.int IntKind.i64 j, Value.slice (some { block := b, off := o }) n c, Value.int IntKind.i64 n, Value.bool true, u13, u14, Value.slice A1 (j * 2) c1, Value.string { data := #[48, 49, 50, 51, 52, 53, 54, 55, 56, 57, 97, 98, 99, 100, 101, 102] }, Value.slice (some { block := b, off := o }) n c, Value.int IntKind.i64 j, Value.pointer (some { block := b, off := o + j }), Value.int IntKind.u8 x, u21, u22, u23, u24, u25, u26, u27, u28, u29, u30, u31, undef, undef], defers := [] }) (by kernel_rfl) ?_
      refine WK.pure hR (i := 6) (v := Value.int IntKind.u8 p) rfl (by kernel_rfl) (by kernel_rfl) (by kernel_rfl) (fun _ _ _ h => h) (by kernel_rfl) (fun wz => by go_simp; first | done | rfl) ?_
      refine WK.frame (a' := { tmps := #[Value.slice (some { block := b, off := o }) n c, undef, Value.string { data := #[] }, Value.string { data := #[48, 49, 50, 51, 52, 53, 54, 55, 56, 57, 97, 98, 99, 100, 101, 102] }, Value.slice A1 (j * 2) c1, Value.int IntKind.i64 j, Value.slice (some { block := b, off := o }) n c, Value.int IntKind.i64 n, Value.bool false, Value.int IntKind.i64 j, Value.slice (some { block := b, off := o }) n c, Value.int IntKind.i64 n, Value.bool true, u13, u14, Value.slice A1 (j * 2) c1, Value.string { data := #[48, 49, 50, 51, 52, 53, 54, 55, 56, 57, 97, 98, 99, 100, 101, 102] }, Value.slice (some { block := b, off := o }) n c, Value.int IntKind.i64 j, Value.pointer (some { block := b, off := o + j }), Value.int IntKind.u8 x, Value.int IntKind.u8 p, u22, u23, u24, u25, u26, u27, u28, u29, u30, u31, undef, undef], defers := [] }) (by kernel_rfl) ?_
      refine WK.pure hR (i := 7) (v := Value.int IntKind.u8 P1) rfl (by kernel_rfl) (by kernel_rfl) (by kernel_rfl) (fun _ _ _ h => h) (by kernel_rfl) (fun wz => by first | exact hix wz | (go_simp; done) | (go_simp; rw [hix wz]; rfl)) ?_
      refine WK.frame (a' := { tmps := #[Value.slice (some { block := b, off := o }) n c, undef, Value.string { data := #[] }, Value.string { data := #[48, 49, 50, 51, 52, 53, 54, 55, 56, 57, 97, 98, 99, 100, 101, 102] }, Value.slice A1 (j * 2) c1, Value.int IntKind.i64 j, Value.slice (some { block := b, off := o }) n c, Value.int IntKind.i64 n, Value.bool false, Value.int IntKind.i64 j, Value.slice (some { block := b, off := o }) n c, Value.int IntKind.i64 n, Value.bool true, u13, u14, Value.slice A1 (j * 2) c1, Value.string { data := #[48, 49, 50, 51, 52, 53, 54, 55, 56, 57, 97, 98, 99, 100, 101, 102] }, Value.slice (some { block := b, off := o }) n c, Value.int IntKind.i64 j, Value.pointer (some { block := b, off := o + j }), Value.int IntKind.u8 x, Value.int IntKind.u8 p, Value.int IntKind.u8 P1, u23, u24, u25, u26, u27, u28, u29, u30, u31, undef, undef], defers := [] }) (by kernel_rfl) ?_
      refine WK.pure hR (i := 8) (v := Value.string { data := #[48, 49, 50, 51, 52, 53, 54, 55, 56, 57, 97, 98, 99, 100, 101, 102] }) rfl (by kernel_rfl) (by kernel_rfl) (by kernel_rfl) (fun _ _ _ h => h) (by kernel_rfl) (fun wz => by go_simp) ?_
      refine WK.frame (a' := { tmps := #[Value.slice (some { block := b, off := o }) n c, undef, Value.string { data := #[] }, Value.string { data := #[48, 49, 50, 51, 52, 53, 54, 55, 56, 57, 97, 98, 99, 100, 101, 102] }, Value.slice A1 (j * 2) c1, Value.int IntKind.i64 j, Value.slice (some { block := b, off := o }) n c, Value.int IntKind.i64 n, Value.bool false, Value.int IntKind.i64 j, Value.slice (some { block := b, off := o }) n c, Value.int IntKind.i64 n, Value.bool true, u13, u14, Value.slice A1 (j * 2) c1, Value.string { data := #[48, 49, 50, 51, 52, 53, 54, 55, 56, 57, 97, 98, 99, 100, 101, 102] }, Value.slice (some { block := b, off := o }) n c, Value.int IntKind.i64 j, Value.pointer (some { block := b, off := o + j }), Value.int IntKind.u8 x, Value.int IntKind.u8 p, Value.int IntKind.u8 P1, Value.string { data := #[48, 49, 50, 51, 52, 53, 54, 55, 56, 57, 97, 98, 99, 100, 101, 102] }, u24, u25, u26, u27, u28, u29, u30, u31, undef, undef], defers := [] }) (by kernel_rfl) ?_
      refine WK.pure hR (i := 9) (v := Value.slice (some { block := b, off := o }) n c) rfl (by kernel_rfl) (by kernel_rfl) (by kernel_rfl) (fun _ _ _ h => h) (by kernel_rfl) (fun wz => by go_simp) ?_
      refine WK.frame (a' := { tmps := #[Value.slice (some { block := b, off := o }) n c, undef, Value.string { data := #[] }, Value.string { data := #[48, 49, 50, 51, 52, 53, 54, 55, 56, 57, 97, 98, 99, 100, 101, 102] }, Value.slice A1 (j * 2) c1, Value.int IntKind.i64 j, Value.slice (some { block := b, off := o }) n c, Value.int IntKind.i64 n, Value.bool false, Value.int IntKind.i64 j, Value.slice (some { block := b, off := o }) n c, Value.int IntKind.i64 n, Value.bool true, u13, u14, Value.slice A1 (j * 2) c1, Value.string { data := #[48, 49, 50, 51, 52, 53, 54, 55, 56, 57, 97, 98, 99, 100, 101, 102] }, Value.slice (some { block := b, off := o }) n c, Value.int IntKind.i64 j, Value.pointer (some { block := b, off := o + j }), Value.int IntKind.u8 x, Value.int IntKind.u8 p, Value.int IntKind.u8 P1, Value.string { data := #[48, 49, 50, 51, 52, 53, 54, 55, 56, 57, 97, 98, 99, 100, 101, 102] }, Value.slice (some { block := b, off := o }) n c, u25, u26, u27, u28, u29, u30, u31, undef, undef], defers := [] }) (by kernel_rfl) ?_
      refine WK.pure hR (i := 10) (v := Value.int IntKind.i64 j) rfl (by kernel_rfl) (by kernel_rfl) (by kernel_rfl) (fun _ _ _ h => h) (by kernel_rfl) (fun wz => by go_simp) ?_
      refine WK.frame (a' := { tmps := #[Value.slice (some { block := b, off := o }) n c, undef, Value.string { data := #[] }, Value.string { data := #[48, 49, 50, 51, 52, 53, 54, 55, 56, 57, 97, 98, 99, 100, 101, 102] }, Value.slice A1 (j * 2) c1, Value.int IntKind.i64 j, Value.slice (some { block := b, off := o }) n c, Value.int IntKind.i64 n, Value.bool false, Value.int IntKind.i64 j, Value.slice (some { block := b, off := o }) n c, Value.int IntKind.i64 n, Value.bool true, u13, u14, Value.slice A1 (j * 2) c1, Value.string { data := #[48, 49, 50, 51, 52, 53, 54, 55, 56, 57, 97, 98, 99, 100, 101, 102] }, Value.slice (some { block := b, off := o }) n c, Value.int IntKind.i64 j, Value.pointer (some { block := b, off := o + j }), Value.int IntKind.u8 x, Value.int IntKind.u8 p, Value.int IntKind.u8 P1, Value.string { data := #[48, 49, 50, 51, 52, 53, 54, 55, 56, 57, 97, 98, 99, 100, 101, 102] }, Value.slice (some { block := b, off := o }) n c, Value.int IntKind.i64 j, u26, u27, u28, u29, u30, u31, undef, undef], defers := [] }) (by kernel_rfl) ?_
      refine WK.pure hR (i := 11) (v := Value.pointer (some { block := b, off := o + j })) rfl (by kernel_rfl) (by kernel_rfl) (by kernel_rfl) (fun _ _ _ h => h) (by kernel_rfl) (fun wz => by go_simp; first | done | rfl) ?_
      refine WK.frame (a' := { tmps := #[Value.slice (some { block := b, off := o }) n c, undef, Value.string { data := #[] }, Value.string { data := #[48, 49, 50, 51, 52, 53, 54, 55, 56, 57, 97, 98, 99, 100, 101, 102] }, Value.slice A1 (j * 2) c1, Value.int IntKind.i64 j, Value.slice (some { block := b, off := o }) n c, Value.int IntKind.i64 n, Value.bool false, Value.int IntKind.i64 j, Value.slice (some { block := b, off := o }) n c, Value.int IntKind.i64 n, Value.bool true, u13, u14, Value.slice A1 (j * 2) c1, Value.string { data := #[48, 49, 50, 51, 52, 53, 54, 55, 56, 57, 97, 98, 99, 100, 101, 102] }, Value.slice (some { block := b, off := o }) n c, Value.int IntKind.i64 j, Value.pointer (some { block := b, off := o + j }), Value.int IntKind.u8 x, Value.int IntKind.u8 p, Value.int IntKind.u8 P1, Value.string { data := #[48, 49, 50, 51, 52, 53, 54, 55, 56, 57, 97, 98, 99, 100, 101, 102] }, Value.slice (some { block := b, off := o }) n c, Value.int IntKind.i64 j, Value.pointer (some { block := b, off := o + j }), u27, u28, u29, u30, u31, undef, undef], defers := [] }) (by kernel_rfl) ?_
      refine WK.take hR (i := 12) (v := Value.int IntKind.u8 x) rfl (by kernel_rfl) (by kernel_rfl) (by kernel_rfl) (by kernel_rfl) (fun _ _ _ h => h) (YK.run (by kernel_rfl) (fun wz hz => by have hcell := (hz.cell (p := ⟨b, o + j, none⟩) hbr).trans c0; go_simp)) ?_
      refine WK.frame (a' := { tmps := #[Value.slice (some { block := b, off := o }) n c, undef, Value.string { data := #[] }, Value.string { data := #[48, 49, 50, 51, 52, 53, 54, 55, 56, 57, 97, 98, 99, 100, 101, 102] }, Value.slice A1 (j * 2) c1, Value.int IntKind.i64 j, Value.slice (some { block := b, off := o }) n c, Value.int IntKind.i64 n, Value.bool false, Value.int IntKind.i64 j, Value.slice (some { block := b, off := o }) n c, Value.int IntKind.i64 n, Value.bool true, u13, u14, Value.slice A1 (j * 2) c1, Value.string { data := #[48, 49, 50, 51, 52, 53, 54, 55, 56, 57, 97, 98, 99, 100, 101, 102] }, Value.slice (some { block := b, off := o }) n c, Value.int IntKind.i64 j, Value.pointer (some { block := b, off := o + j }), Value.int IntKind.u8 x, Value.int IntKind.u8 p, Value.int IntKind.u8 P1, Value.string { data := #[48, 49, 50, 51, 52, 53, 54, 55, 56, 57, 97, 98, 99, 100, 101, 102] }, Value.slice (some { block := b, off := o }) n c, Value.int IntKind.i64 j, Value.pointer (some { block := b, off := o + j }), Value.int IntKind.u8 x, u28, u29, u30, u31, undef, undef], defers := [] }) (by kernel_rfl) ?_
      refine WK.pure hR (i := 13) (v := Value.int IntKind.u8 q) rfl (by kernel_rfl) (by kernel_rfl) (by kernel_rfl) (fun _ _ _ h => h) (by kernel_rfl) (fun wz => by go_simp; first | done | rfl) ?_
      refine WK.frame (a' := { tmps := #[Value.slice (some { block := b, off := o }) n c, undef, Value.string { data := #[] }, Value.string { data := #[48, 49, 50, 51, 52, 53, 54, 55, 56, 57, 97, 98, 99, 100, 101, 102] }, Value.slice A1 (j * 2) c1, Value.int IntKind.i64 j, Value.slice (some { block := b, off := o }) n c, Value.int IntKind.i64 n, Value.bool false, Value.int IntKind.i64 j, Value.slice (some { block := b, off := o }) n c, Value.int IntKind.i64 n, Value.bool true, u13, u14, Value.slice A1 (j * 2) c1, Value.string { data := #[48, 49, 50, 51, 52, 53, 54, 55, 56, 57, 97, 98, 99, 100, 101, 102] }, Value.slice (some { block := b, off := o }) n c, Value.int IntKind.i64 j, Value.pointer (some { block := b, off := o + j }), Value.int IntKind.u8 x, Value.int IntKind.u8 p, Value.int IntKind.u8 P1, Value.string { data := #[48, 49, 50, 51, 52, 53, 54, 55, 56, 57, 97, 98, 99, 100, 101, 102] }, Value.slice (some { block := b, off := o }) n c, Value.int IntKind.i64 j, Value.pointer (some { block := b, off := o + j }), Value.int IntKind.u8 x, Value.int IntKind.u8 q, u29, u30, u31, undef, undef], defers := [] }) (by kernel_rfl) ?_
      refine WK.pure hR (i := 14) (v := Value.int IntKind.u8 P2) rfl (by kernel_rfl) (by kernel_rfl) (by kernel_rfl) (fun _ _ _ h => h) (by kernel_rfl) (fun wz => by first | exact hiy wz | (go_simp; done) | (go_simp; rw [hiy wz]; rfl)) ?_
      refine WK.frame (a' := { tmps := #[Value.slice (some { block := b, off := o }) n c, undef, Value.string { data := #[] }, Value.string { data := #[48, 49, 50, 51, 52, 53, 54, 55, 56, 57, 97, 98, 99, 100, 101, 102] }, Value.slice A1 (j * 2) c1, Value.int IntKind.i64 j, Value.slice (some { block := b, off := o }) n c, Value.int IntKind.i64 n, Value.bool false, Value.int IntKind.i64 j, Value.slice (some { block := b, off := o }) n c, Value.int IntKind.i64 n, Value.bool true, u13, u14, Value.slice A1 (j * 2) c1, Value.string { data := #[48, 49, 50, 51, 52, 53, 54, 55, 56, 57, 97, 98, 99, 100, 101, 102] }, Value.slice (some { block := b, off := o }) n c, Value.int IntKind.i64 j, Value.pointer (some { block := b, off := o + j }), Value.int IntKind.u8 x, Value.int IntKind.u8 p, Value.int IntKind.u8 P1, Value.string { data := #[48, 49, 50, 51, 52, 53, 54, 55, 56, 57, 97, 98, 99, 100, 101, 102] }, Value.slice (some { block := b, off := o }) n c, Value.int IntKind.i64 j, Value.pointer (some { block := b, off := o + j }), Value.int IntKind.u8 x, Value.int IntKind.u8 q, Value.int IntKind.u8 P2, u30, u31, undef, undef], defers := [] }) (by kernel_rfl) ?_
      refine WK.each (rs := [15]) (by kernel_rfl) (by simp) (fun x1 hx1 i hi => ?_)
      simp only [List.mem_cons, List.not_mem_nil, or_false] at hi
      subst hi
      refine wpOp_makes (v := Value.slice (some { block := x1.heap.size, off := 0 }) 2 2) (w2 := x1.alloc (.cells #[.int .u8 P1, .int .u8 P2] 5)) rfl (by kernel_rfl) (by go_simp; first | done | rfl) ⟨.inr ((Below.refl _ x1).alloc (Nat.le_refl _) _), ?_⟩
      have KN := Blk.new x1 5 #[.int .u8 P1, .int .u8 P2]
      have hB2 : Below wr.heap.size wr (x1.alloc (.cells #[.int .u8 P1, .int .u8 P2] 5)) := hx1.alloc hx1.size _
      obtain ⟨bk, hbk⟩ : ∃ bk, x1.heap.size = bk := ⟨_, rfl⟩
      rw [hbk] at KN ⊢
      generalize x1.alloc (.cells #[.int .u8 P1, .int .u8 P2] 5) = x2 at *
      refine WK.frame (a' := { tmps := #[Value.slice (some { block := b, off := o }) n c, undef, Value.string { data := #[] }, Value.string { data := #[48, 49, 50, 51, 52, 53, 54, 55, 56, 57, 97, 98, 99, 100, 101, 102] }, Value.slice A1 (j * 2) c1, Value.int IntKind.i64 j, Value.slice (some { block := b, off := o }) n c, Value.int IntKind.i64 n, Value.bool false, Value.int IntKind.i64 j, Value.slice (some { block := b, off := o }) n c, Value.int IntKind.i64 n, Value.bool true, u13, u14, Value.slice A1 (j * 2) c1, Value.string { data := #[48, 49, 50, 51, 52, 53, 54, 55, 56, 57, 97, 98, 99, 100, 101, 102] }, Value.slice (some { block := b, off := o }) n c, Value.int IntKind.i64 j, Value.pointer (some { block := b, off := o + j }), Value.int IntKind.u8 x, Value.int IntKind.u8 p, Value.int IntKind.u8 P1, Value.string { data := #[48, 49, 50, 51, 52, 53, 54, 55, 56, 57, 97, 98, 99, 100, 101, 102] }, Value.slice (some { block := b, off := o }) n c, Value.int IntKind.i64 j, Value.pointer (some { block := b, off := o + j }), Value.int IntKind.u8 x, Value.int IntKind.u8 q, Value.int IntKind.u8 P2, Value.slice (some { block := bk, off := 0 }) 2 2, u31, undef, undef], defers := [] }) (by kernel_rfl) ?_
      refine WK.each (rs := [16]) (by kernel_rfl) (by simp) (fun x3 hx3 i hi => ?_)
      simp only [List.mem_cons, List.not_mem_nil, or_false] at hi
      subst hi
      have hb3 : Below wr.heap.size wr x3 := hB2.trans (hx3.mono hB2.size)
      have ho3 := own_below ho1 hb3
      have he3 := he1.trans (hb3.mono he1.size)
      have K3 := KN.below hx3 KN.lt
      refine wpOp_list rfl (by kernel_rfl) (wp_append_own (P := Tryd.prog) x3 (.tmp 15) (.tmp 30) 22 rfl w.heap.size 5 i0 _ 1 1 Tryd.underlying22 hi hz0 hz1 hz2 rfl (by decide) (Value.slice A1 (j * 2) c1) (j * 2) _ rfl ho3 ⟨bk, 0, none⟩ 2 2 [.int .u8 P1, .int .u8 P2] rfl rfl (blk_read K3) (by simp [Value.oneCell']) (by unfold maxLen; omega) (by omega) he3.size ?_)
      intro v9 w9 ho9 hg9 _
      refine ⟨.inl (by simp), ?_⟩
      have hb9 : Below w.heap.size w w9 := below_own he3 ho3 hg9 (Nat.le_refl _) he3.size
      obtain ⟨a9, c9, rfl⟩ := own_form ho9
      clear hg9 ho3 K3 KN hx3 hb3 he3 hB2 hx1
      refine WK.frame (a' := { tmps := #[Value.slice (some { block := b, off := o }) n c, undef, Value.string { data := #[] }, Value.string { data := #[48, 49, 50, 51, 52, 53, 54, 55, 56, 57, 97, 98, 99, 100, 101, 102] }, Value.slice A1 (j * 2) c1, Value.int IntKind.i64 j, Value.slice (some { block := b, off := o }) n c, Value.int IntKind.i64 n, Value.bool false, Value.int IntKind.i64 j, Value.slice (some { block := b, off := o }) n c, Value.int IntKind.i64 n, Value.bool true, u13, u14, Value.slice A1 (j * 2) c1, Value.string { data := #[48, 49, 50, 51, 52, 53, 54, 55, 56, 57, 97, 98, 99, 100, 101, 102] }, Value.slice (some { block := b, off := o }) n c, Value.int IntKind.i64 j, Value.pointer (some { block := b, off := o + j }), Value.int IntKind.u8 x, Value.int IntKind.u8 p, Value.int IntKind.u8 P1, Value.string { data := #[48, 49, 50, 51, 52, 53, 54, 55, 56, 57, 97, 98, 99, 100, 101, 102] }, Value.slice (some { block := b, off := o }) n c, Value.int IntKind.i64 j, Value.pointer (some { block := b, off := o + j }), Value.int IntKind.u8 x, Value.int IntKind.u8 q, Value.int IntKind.u8 P2, Value.slice (some { block := bk, off := 0 }) 2 2, Value.slice a9 ((j * 2) + 2) c9, undef, undef], defers := [] }) (by kernel_rfl) ?_
      refine WK.pure hR (i := 17) (v := Value.slice a9 ((j * 2) + 2) c9) rfl (by kernel_rfl) (by kernel_rfl) (by kernel_rfl) (fun _ _ _ h => h) (by kernel_rfl) (fun wz => by go_simp) ?_
      refine WK.frame (a' := { tmps := #[Value.slice (some { block := b, off := o }) n c, undef, Value.string { data := #[] }, Value.string { data := #[48, 49, 50, 51, 52, 53, 54, 55, 56, 57, 97, 98, 99, 100, 101, 102] }, Value.slice a9 ((j * 2) + 2) c9, Value.int IntKind.i64 j, Value.slice (some { block := b, off := o }) n c, Value.int IntKind.i64 n, Value.bool false, Value.int IntKind.i64 j, Value.slice (some { block := b, off := o }) n c, Value.int IntKind.i64 n, Value.bool true, u13, u14, Value.slice A1 (j * 2) c1, Value.string { data := #[48, 49, 50, 51, 52, 53, 54, 55, 56, 57, 97, 98, 99, 100, 101, 102] }, Value.slice (some { block := b, off := o }) n c, Value.int IntKind.i64 j, Value.pointer (some { block := b, off := o + j }), Value.int IntKind.u8 x, Value.int IntKind.u8 p, Value.int IntKind.u8 P1, Value.string { data := #[48, 49, 50, 51, 52, 53, 54, 55, 56, 57, 97, 98, 99, 100, 101, 102] }, Value.slice (some { block := b, off := o }) n c, Value.int IntKind.i64 j, Value.pointer (some { block := b, off := o + j }), Value.int IntKind.u8 x, Value.int IntKind.u8 q, Value.int IntKind.u8 P2, Value.slice (some { block := bk, off := 0 }) 2 2, Value.slice a9 ((j * 2) + 2) c9, undef, undef], defers := [] }) (by kernel_rfl) ?_
      refine WK.done (by kernel_rfl) (fun wz hz => ?_)
      have O7 := Lib.hid (own_below ho9 hz)
      have H7 := Lib.hid (hb9.trans (hz.mono hb9.size))
      clear hz ho9 hb9
      clear hix hiy hdv hand c0 ho1 he1 hR
      go_wp2_with fail
      go_roundw
      case rel => exact ⟨j + 1, by first | rfl | go_num, by omega, by rw [HN.out, show (j + 1) * 2 = j * 2 + 2 by omega]; simpa [u8v] using O7.out, H7.out⟩
      case measure => simp [intOf]; omega
    · obtain rfl : j = n := by omega
      have ht : bs.take j = bs := List.take_of_length_le (by rw [HL.out]; exact Nat.le_refl _)
      have ho2 := HO.out
      rw [ht] at ho2
      have hy : Bys wr A1 (j * 2) (hexL bs) := Bys.of_own ho2 (fun x hx => by have := hexL_lt bs HB.out.2 x hx; omega)
      have hcv := conv_bys (c := c1) hy
      rw [← HR.out] at hcv
      clear ht ho2 hy
      go_wp2_with fail
      go_ret
      exact ⟨rfl, HE.out⟩
end Go.Proofs.YtbkgmeopdcealaaDoor
