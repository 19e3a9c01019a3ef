import Derived.Test.YthgbgkpchchicaaBds
import Derived.Test.YthgbgkpchchicaaSwp
import Derived.Test.YthgbgkpchchicaaSam
namespace Go.Proofs.Ythgbgkpchchicaa
open Go.ChangeShapes Go.WideShapes Go.ChangeAt Go.RowKit Go.Maps
set_option linter.unusedVariables false
set_option linter.unusedSimpArgs false
theorem bys_new (w : World) (l : List Nat) (hl : ∀ x ∈ l, x < 256) : Bys (w.alloc (.cells (bv l).toArray 5)) (some ⟨w.heap.size, 0, none⟩) l.length l :=
  ⟨⟨by simp, fun _ => ⟨_, rfl, by simp, blk_cells (Blk.new w 5 (bv l).toArray)⟩⟩, hl⟩
theorem Net.eq {B g : Nat} {w : World} {v : Value} {ds ds' : List Dg} {last : Int} (h : Net B w g v ds last) (e : ds = ds') : Net B w g v ds' last := e ▸ h
theorem eql62 (x : Int) (w : World) : (binOp .eql 28 (.iface 62 (.int .i64 x)) (.iface 62 (.int .i64 x))).run Try.prog w = .ok (.bool true) w := by
  rw [eq62]; simp
set_option maxRecDepth 100000 in
set_option maxHeartbeats 8000000 in
theorem awake_any (w : World) : Calls Try.prog 8 #[] w fun e w' => e = .returned (.bool true) ∧ Below w.heap.size w w' := by
  have hnew := new_any w
  unfold P1 at hnew
  go_enter Try.func8, Try.ntmps8
  go_wp2_with (go_at_call 9; refine hnew.mono ?_; rintro _ w1 ⟨rfl, hN, hB⟩; refine Hid.out ?_)
  refine Lib.hid ?_
  clear hnew
  obtain ⟨g, hg⟩ : ∃ g, w.heap.size = g := ⟨_, rfl⟩
  rw [hg] at hN hB ⊢
  have HB1 := Lib.hid hB
  have HB1s : g ≤ w.heap.size := by omega
  -- Post x y 1
  have N1 := hN.alloc (.cells (bv [1]).toArray 5)
  have hp := post_any g _ [] 0 g _ ⟨#[120]⟩ ⟨#[121]⟩ (some ⟨w1.heap.size, 0, none⟩) 1 1 [1] N1 (by decide) (by decide) (by decide) (bys_new w1 [1] (by decide)) (by decide)
  have HB1' := Lib.hid (hB.alloc (by have := hN.blk.lt; omega) (.cells (bv [1]).toArray 5))
  have HN1 := Lib.hid N1
  unfold P1 at hp
  simp only [bv, List.map_cons, List.map_nil] at hp
  clear hN hB N1
  go_wp2_with (go_at_call 10; refine hp.mono ?_; rintro _ w2 ⟨v2, d1, rfl, hN, hk, _, hT, _⟩; refine Hid.out ?_)
  refine Lib.hid ?_
  have HB2 := Lib.hid (HB1'.out.trans (HN1.out.base hT))
  have HK1 := Lib.hid hk
  clear hp hk hT HN1 HB1 HB1'
  -- Post x z 2
  have N2 := hN.alloc (.cells (bv [2]).toArray 5)
  have hp := post_any g _ _ _ g _ ⟨#[120]⟩ ⟨#[122]⟩ (some ⟨w2.heap.size, 0, none⟩) 1 1 [2] N2 (by simp) (by decide) (by decide) (bys_new w2 [2] (by decide)) (by decide)
  have HB2' := Lib.hid (HB2.out.alloc (by have := hN.blk.lt; omega) (.cells (bv [2]).toArray 5))
  have HN2 := Lib.hid N2
  unfold P1 at hp
  simp only [bv, List.map_cons, List.map_nil] at hp
  clear hN N2
  go_wp2_with (go_at_call 10; refine hp.mono ?_; rintro _ w3 ⟨v3, d2, rfl, hN, hk, _, hT, _⟩; refine Hid.out ?_)
  refine Lib.hid ?_
  have HB3 := Lib.hid (HB2'.out.trans (HN2.out.base hT))
  have HK2 := Lib.hid hk
  clear hp hk hT HN2 HB2 HB2'
  have N3 : Net g w3 g v3 [d1, d2] 2 := hN
  clear hN
  -- Swap
  have hp := swap_in g 0 1 v3 [d1, d2] 2 d1 d2 g w3 N3 rfl rfl
  have HN3 := Lib.hid N3
  unfold P1 at hp
  clear N3
  go_wp2_with (go_at_call 24; refine hp.mono ?_; rintro _ w4 ⟨rfl, hN, hT⟩; refine Hid.out ?_)
  refine Lib.hid ?_
  have HB4 := Lib.hid (HB3.out.trans (HN3.out.base hT))
  have N4 : Net g w4 g v3 [d2, d1] 2 := hN
  clear hp hT hN HN3 HB3
  -- Take 0
  have hp := take_in g 0 v3 [d2, d1] 2 d2 g w4 N4 rfl (by simp)
  have HO4 := Lib.hid (N4.own d2 (by simp))
  have HN4 := Lib.hid N4
  unfold P1 Dg.v at hp
  clear N4
  go_wp2_with (go_at_call 11; refine hp.mono ?_; rintro _ w5 ⟨v5, rfl, hN, hT, _, _⟩; refine Hid.out ?_)
  refine Lib.hid ?_
  have HB5 := Lib.hid (HB4.out.trans (HN4.out.base hT))
  have HO5 := Lib.hid (HN4.out.otherB hT HO4.out)
  have N5 : Net g w5 g v5 [d1] 2 := hN
  clear hp hT hN HN4 HB4 HO4
  -- Take 5
  have hb6 : Below w5.heap.size w5 (w5.alloc (.cells #[.int .i64 d2.id, .string d2.fr, .string d2.to, .slice d2.A d2.n d2.c] 32)) := (Below.refl _ _).alloc (Nat.le_refl _) _
  have hp := take_out g v5 [d1] 2 5 g _ (N5.below hb6) (by rfl)
  have e10 : errV 10 = .iface 62 (.int .i64 10) := rfl
  rw [e10] at hp
  have HQ6 := Lib.hid (Blk.new w5 32 #[.int .i64 d2.id, .string d2.fr, .string d2.to, .slice d2.A d2.n d2.c])
  have HN5 := Lib.hid N5
  have HB6 := Lib.hid hb6
  unfold P1 zdV at hp
  clear N5 hb6 e10
  go_wp2_with (go_at_call 11; refine hp.mono ?_; rintro _ w7 ⟨rfl, hb⟩; refine Hid.out ?_)
  refine Lib.hid ?_
  have hb7 : Below w5.heap.size w5 w7 := HB6.out.trans (hb.mono HB6.out.size)
  have hb8 : Below w5.heap.size w5 (w7.alloc (.cells #[.int .i64 0, .string ⟨#[]⟩, .string ⟨#[]⟩, .slice none 0 0] 32)) := hb7.alloc hb7.size _
  have Q8 := (HQ6.out.below hb HQ6.out.lt).alloc (.cells #[.int .i64 0, .string ⟨#[]⟩, .string ⟨#[]⟩, .slice none 0 0] 32)
  have N8 := HN5.out.below hb8
  have O8 := HO5.out.below hb8
  have HB8 := Lib.hid (HB5.out.trans (hb8.mono (by have := HB5.out.size; omega)))
  clear hp hb hb7 HQ6 HN5 HB6 HB5 HO5 hb8
  have HQ8 := Lib.hid Q8
  have HN8 := Lib.hid N8
  have HO8 := Lib.hid O8
  clear Q8 N8 O8
  have hp := post_nil ⟨#[]⟩ ⟨#[]⟩ (.slice none 0 0) (w7.alloc (.cells #[.int .i64 0, .string ⟨#[]⟩, .string ⟨#[]⟩, .slice none 0 0] 32))
  have e7 : errV 7 = .iface 62 (.int .i64 7) := rfl
  rw [e7] at hp
  clear e7
  go_wp2_with (go_at_call 10; refine hp.mono ?_; rintro _ _ ⟨rfl, rfl⟩; refine Hid.out ?_)
  refine Lib.hid ?_
  clear hp
  generalize w7.alloc (.cells #[.int .i64 0, .string ⟨#[]⟩, .string ⟨#[]⟩, .slice none 0 0] 32) = W8 at *
  -- the long and
  obtain ⟨x1, f1, t1, A1, n1, c1, b1⟩ := d1
  obtain ⟨x2, f2, t2, A2, n2, c2, b2⟩ := d2
  have hk1 := HK1.out
  have hk2 := HK2.out
  simp only [Dg.k, Prod.mk.injEq] at hk1 hk2
  obtain ⟨rfl, rfl, rfl, rfl⟩ := hk1
  obtain ⟨rfl, rfl, rfl, rfl⟩ := hk2
  obtain ⟨q0, q1, q2, q3, _, _, _, _⟩ := HQ8.out.four_facts
  have hln := len_any g v5 _ 2 g W8 HN8.out
  have hbd := bodies_any g v5 _ 2 g W8 HN8.out (by simp) (by simp)
  have hl0 := len_nil
  unfold P1 at hln hbd
  simp only [List.length_cons, List.length_nil] at hln
  have e1 := eql62
  simp only at q0 q1 q2 q3
  clear HK1 HK2
  go_wp2_with (first
    | (go_at_call 13; refine hln.mono ?_; rintro _ _ ⟨rfl, rfl⟩)
    | (go_at_call 21; refine hbd.mono ?_; rintro _ w9 ⟨⟨D, rfl, hm, hD⟩, hb9⟩; refine Hid.out ?_))
  refine Lib.hid ?_
  have hkey : keyOf Try.prog 9 (.string ⟨#[1]⟩) = some (klit [1]) := key_str (b := [1]) (by decide)
  obtain ⟨cq, hlk, hat, _⟩ := hm.lookup_int law9 Try.underlying56 Try.underlying3 (zero3 _) hkey
  have hc1 : cq = 1 := by
    obtain ⟨es0, rfl, _, _, h3⟩ := hD
    have h4 := h3 [1] (by decide)
    rw [hat] at h4
    injection h4 with h4
    injection h4
  subst hc1
  have O9 := HO8.out.below hb9
  have Q9 := HQ8.out.below hb9 HQ8.out.lt
  have hsm := dsame_any _ _ w9 O9.ok O9.ok
  rw [dgB_self] at hsm
  unfold Dg.v at hsm
  simp only at hsm
  obtain ⟨q0, q1, q2, q3, _, _, _, _⟩ := Q9.four_facts
  have HB9 := Lib.hid (HB8.out.trans (hb9.mono (by have := HB8.out.size; omega)))
  clear hm hD hat hkey O9 Q9 hbd hln
  go_wp2_with (first
    | (go_at_call 13; refine (hl0 _).mono ?_; rintro _ _ ⟨rfl, rfl⟩)
    | (go_at_call 22; refine hsm.mono ?_; rintro _ w10 ⟨rfl, hb10⟩))
  go_ret
  exact ⟨rfl, by rw [hg]; exact HB9.out.trans (hb10.mono (by have := HB9.out.size; have := HB1s; omega))⟩
end Go.Proofs.Ythgbgkpchchicaa
