import Derived.Test.YthgbgkpchchicaaTke
namespace Go.Proofs.Ythgbgkpchchicaa
open Go.ChangeShapes Go.WideShapes Go.ChangeAt Go.RowKit
set_option linter.unusedVariables false
set_option linter.unusedSimpArgs false
theorem Turn.alloc {g : Nat} {v : Value} {a w : World} (h : Turn g v a w) (o : Obj) : Turn g v a (w.alloc o) := h.trans (Turn.of_below ((Below.refl _ w).alloc (Nat.le_refl _) o)) (Moved.refl _ _)
theorem Net.alloc {B g : Nat} {w : World} {v : Value} {ds : List Dg} {last : Int} (h : Net B w g v ds last) (o : Obj) : Net B (w.alloc o) g v ds last := h.below ((Below.refl _ w).alloc (Nat.le_refl _) o)
set_option maxRecDepth 100000 in
theorem drop_in (g i : Nat) (v : Value) (ds : List Dg) (last : Int) (d : Dg) (B : Nat) (w : World) (h : Net B w g v ds last) (hi : ds[i]? = some d) (hlen : ds.length ≤ 1000) :
    Calls Try.prog 15 #[P1 g, .int .i64 i] w fun e w' => ∃ v', e = .returned .nilIface ∧ Net B w' g v' (ds.eraseIdx i) last ∧ Turn g v w w' ∧ v'.ownBlock = v.ownBlock := by
  have hc := take_in g i v ds last d B w h hi hlen
  unfold Dg.v at hc
  clear h hi
  unfold P1 at *
  go_enter Try.func15, Try.ntmps15
  go_wp2_with (go_at_call 11; refine hc.mono ?_; rintro _ w1 ⟨v', rfl, hN, hT, hv, hs⟩; refine Hid.out ?_)
  refine Lib.hid ?_
  have HN := Lib.hid hN
  have HT := Lib.hid hT
  have HV := Lib.hid hv
  clear hN hT hv hc
  go_wp2_with fail
  go_ret
  exact ⟨v', rfl, HN.out.alloc _, HT.out.alloc _, HV.out⟩
set_option maxRecDepth 100000 in
theorem drop_out (g : Nat) (v : Value) (ds : List Dg) (last x : Int) (B : Nat) (w : World) (h : Net B w g v ds last) (hx : outB ds.length x = true) :
    Calls Try.prog 15 #[P1 g, .int .i64 x] w fun e w' => e = .returned (errV 10) ∧ Below w.heap.size w w' := by
  have hc := take_out g v ds last x B w h hx
  unfold zdV at hc
  rw [show errV 10 = .iface 62 (.int .i64 10) from rfl] at hc ⊢
  clear h hx
  unfold P1 at *
  go_enter Try.func15, Try.ntmps15
  go_wp2_with (go_at_call 11; refine hc.mono ?_; rintro _ w1 ⟨rfl, hb⟩; refine Hid.out ?_)
  refine Lib.hid ?_
  have HB := Lib.hid hb
  clear hb hc
  go_wp2_with fail
  go_ret
  exact ⟨rfl, HB.out.alloc HB.out.size _⟩
set_option maxRecDepth 100000 in
theorem drop_nil (x : Int) (w : World) : Calls Try.prog 15 #[.pointer none, .int .i64 x] w fun e w' => e = .returned (errV 7) ∧ Below w.heap.size w w' := by
  have hc := take_nil x w
  unfold zdV at hc
  rw [show errV 7 = .iface 62 (.int .i64 7) from rfl] at hc ⊢
  go_enter Try.func15, Try.ntmps15
  go_wp2_with (go_at_call 11; refine hc.mono ?_; rintro _ w1 ⟨rfl, hb⟩; refine Hid.out ?_)
  refine Lib.hid ?_
  have HB := Lib.hid hb
  clear hb hc
  go_wp2_with fail
  go_ret
  exact ⟨rfl, HB.out.alloc HB.out.size _⟩
set_option maxRecDepth 100000 in
theorem copy_out (g : Nat) (v : Value) (ds : List Dg) (last x : Int) (B : Nat) (w : World) (h : Net B w g v ds last) (hx : outB ds.length x = true) :
    Calls Try.prog 23 #[P1 g, .int .i64 x] w fun e w' => e = .returned (.tuple #[.int .i64 0, errV 10]) ∧ Below w.heap.size w w' := by
  have hb1 := (Below.refl _ w).alloc (Nat.le_refl _) (.cells #[.int .i64 x] 3)
  have hc := check_any g w.heap.size v ds last [x] B _ (h.below hb1) (by have := Blk.new w 3 #[.int .i64 x]; simpa using this) (by simp)
  rw [show [x].any (outB ds.length) = true by simp [hx]] at hc
  have e10 : errV 10 = .iface 62 (.int .i64 10) := rfl
  simp only [↓reduceIte, e10] at hc
  rw [e10]
  have e2 := neq62
  have H1 := Lib.hid hb1
  clear h hx hb1 e10
  unfold P1 at *
  go_enter Try.func23, Try.ntmps23
  go_wp2_with (go_at_call 26; refine hc.mono ?_; rintro _ w3 ⟨rfl, hb⟩)
  go_ret2
  exact ⟨rfl, H1.out.trans (hb.mono H1.out.size)⟩
set_option maxRecDepth 100000 in
theorem copy_nil (x : Int) (w : World) : Calls Try.prog 23 #[.pointer none, .int .i64 x] w fun e w' => e = .returned (.tuple #[.int .i64 0, errV 7]) ∧ Below w.heap.size w w' := by
  have hb1 := (Below.refl _ w).alloc (Nat.le_refl _) (.cells #[.int .i64 x] 3)
  have hc := check_nil (.slice (some ⟨w.heap.size, 0, none⟩) 1 1) (w.alloc (.cells #[.int .i64 x] 3))
  have e10 : errV 7 = .iface 62 (.int .i64 7) := rfl
  rw [e10] at hc ⊢
  have e2 := neq62
  have H1 := Lib.hid hb1
  clear hb1 e10
  go_enter Try.func23, Try.ntmps23
  go_wp2_with (go_at_call 26; refine hc.mono ?_; rintro _ w3 ⟨rfl, hb⟩)
  go_ret2
  exact ⟨rfl, H1.out.trans (hb.mono H1.out.size)⟩
set_option maxRecDepth 100000 in
theorem copy_in (g i : Nat) (v : Value) (ds : List Dg) (last : Int) (d : Dg) (B : Nat) (w : World) (h : Net B w g v ds last) (hi : ds[i]? = some d) (hlen : ds.length < 1000) (h0 : 0 ≤ last) (h1 : last < 1000000) (hn : d.bs.length ≤ 1000000) :
    Calls Try.prog 23 #[P1 g, .int .i64 i] w fun e w' => ∃ v' x, e = .returned (.tuple #[.int .i64 (last + 1), .nilIface]) ∧ Net B w' g v' (ds ++ [x]) (last + 1) ∧ x.k = (last + 1, d.fr, d.to, d.bs) ∧ (∀ k, x.sl.ownBlock = some k → w.heap.size ≤ k) ∧ Turn g v w w' ∧ Moved w v v' := by
  obtain ⟨r, c, rfl, hc1, hc2⟩ := h.form hi
  have hil := (List.getElem?_eq_some_iff.1 hi).1
  have hb1 := (Below.refl _ w).alloc (Nat.le_refl _) (.cells #[.int .i64 i] 3)
  have hc := check_any g w.heap.size _ ds last [(i : Int)] B _ (h.below hb1) (by have := Blk.new w 3 #[.int .i64 i]; simpa using this) (by simp)
  rw [show [(i : Int)].any (outB ds.length) = false by simp [outB_in hil]] at hc
  have e10 : errV 0 = .nilIface := rfl
  simp only [Bool.false_eq_true, ↓reduceIte, e10] at hc
  clear e10
  have H1 := Lib.hid hb1
  have H := Lib.hid h
  have HI := Lib.hid hi
  clear h hb1 hi
  unfold P1 at *
  go_enter Try.func23, Try.ntmps23
  go_wp2_with (go_at_call 26; refine hc.mono ?_; rintro _ w3 ⟨rfl, hb⟩; refine Hid.out ?_)
  refine Lib.hid ?_
  have H3 := Lib.hid (H1.out.trans (hb.mono H1.out.size))
  have N3 := Lib.hid (H.out.below H3.out)
  obtain ⟨d0, d1, d2, d3⟩ := N3.out.dg_cells HI.out
  have c0 : w3.cell? ⟨g, 0, none⟩ = some (.slice (some ⟨r, 0, none⟩) ds.length c) := (N3.out.blk.cell 0).trans rfl
  have hii : (i : Int) < (ds.length : Int) := by omega
  have hgl : g < w3.heap.size := N3.out.blk.lt
  have hb4 : Below w3.heap.size w3 (w3.alloc (.cells #[.int .i64 d.id, .string d.fr, .string d.to, .slice d.A d.n d.c] 32)) := (Below.refl _ w3).alloc (Nat.le_refl _) _
  have N4 := N3.out.below hb4
  have hbo := (N4.own d (List.mem_of_getElem? HI.out)).ok.bys
  have hpost := post_any g _ ds last B _ d.fr d.to d.A d.n d.c d.bs N4 hlen h0 h1 hbo (by rw [← hbo.len]; exact hn)
  have H4 := Lib.hid (H3.out.trans (hb4.mono H3.out.size))
  unfold maxLen at hc2
  unfold P1 at *
  clear hb hc H1 hb4 hbo N4
  go_wp2_with (go_at_call 10; refine hpost.mono ?_; rintro _ w5 ⟨v', x, rfl, hN, hk, hf, hT, hM⟩; refine Hid.out ?_)
  refine Lib.hid ?_
  have HN := Lib.hid hN
  have HK := Lib.hid hk
  have HF := Lib.hid hf
  have HT := Lib.hid hT
  have HM := Lib.hid hM
  clear hpost hN hk hf hT hM d0 d1 d2 d3 c0
  go_wp2_with fail
  go_ret2
  have hs4 := H4.out.size
  exact ⟨v', x, rfl, HN.out, HK.out, fun k hk => Nat.le_trans hs4 (HF.out k hk), (Turn.of_below H4.out).trans HT.out (Moved.refl _ _), fun k hk => (HM.out k hk).imp id fun h => Nat.le_trans hs4 h⟩
end Go.Proofs.Ythgbgkpchchicaa
