import Derived.Test.YthgbgkpchchicaaRdt
namespace Go.Proofs.Ythgbgkpchchicaa
open Go.ChangeShapes Go.WideShapes Go.ChangeAt Go.RowKit
set_option linter.unusedVariables false
set_option linter.unusedSimpArgs false
set_option maxRecDepth 100000 in
set_option maxHeartbeats 4000000 in
theorem rdo_copy (v : Value) (ms : List Dg) (last : Int) (a b : Int) (fr to : ByteArray) (A : Option Addr) (n c : Nat) (bs : List Nat) (w : World) (h : RRow w v ms) (i : Nat) (d : Dg) (hi : ms[i]? = some d) (hlen : ms.length < 1000) (h0 : 0 ≤ last) (h1 : last < 1000000) : Calls Try.prog 18 #[.agg #[v, .int .i64 last], .agg #[.int .i64 2, .int .i64 (i : Int), .int .i64 b, .string fr, .string to, .slice A n c]] w fun e w' => ∃ v', e = .returned (.tuple #[.agg #[v', .int .i64 (last + 1)], .int .i64 (last + 1), .agg zc, .int .i64 0]) ∧ RRow w' v' (ms ++ [⟨last + 1, d.fr, d.to, d.A, d.n, d.c, d.bs⟩]) ∧ Moved w v v' ∧ Below w.heap.size w w' := by
  obtain ⟨rA, rc, rfl⟩ := own_form h
  have hb4 := W4_below w (.slice rA ms.length rc) last (⟨2, (i : Int), b, fr, to, A, n, c, bs⟩ : Opr)
  have hs4 := W4_size w (.slice rA ms.length rc) last (⟨2, (i : Int), b, fr, to, A, n, c, bs⟩ : Opr)
  have P0 := W4_0 w (.slice rA ms.length rc) last (⟨2, (i : Int), b, fr, to, A, n, c, bs⟩ : Opr)
  have P1 := W4_1 w (.slice rA ms.length rc) last (⟨2, (i : Int), b, fr, to, A, n, c, bs⟩ : Opr)
  have P2 := W4_2 w (.slice rA ms.length rc) last (⟨2, (i : Int), b, fr, to, A, n, c, bs⟩ : Opr)
  have P3 := W4_3 w (.slice rA ms.length rc) last (⟨2, (i : Int), b, fr, to, A, n, c, bs⟩ : Opr)
  have hR4 := h.below hb4
  have hil := (List.getElem?_eq_some_iff.1 hi).1
  have hpr : ∀ k, rA = some ⟨k, 0, none⟩ → k < w.heap.size := fun k hk => (h.lt k (by rw [hk]; rfl)).2
  have hnn0 : (Value.slice rA ms.length rc).ownBlock ≠ some (w.heap.size + 1 + 1 + 1) := fun e9 => by have := (h.lt _ e9).2; omega
  have hd1 : ¬ (ms.length : Int) ≤ (i : Int) := by omega
  have hd2 : (i : Int) < (ms.length : Int) := by omega
  unfold W4 z2 zc at P0 P1 P2 P3 hR4 hb4 hs4
  dsimp only at P0 P1 P2 P3 hR4 hb4 hs4
  have HP0 := Lib.hid P0
  have HP1 := Lib.hid P1
  have HP2 := Lib.hid P2
  have HP3 := Lib.hid P3
  have HR4 := Lib.hid hR4
  have HB4 := Lib.hid hb4
  have HS4 := Lib.hid hs4
  clear P0 P1 P2 P3 hR4 hb4 hs4 h
  go_enter Try.func18, Try.ntmps18
  go_upto_region 4 with (fail)
  generalize (((w.alloc (.cells #[.slice rA ms.length rc, .int .i64 last] 44)).alloc (.cells #[.int .i64 2, .int .i64 (i : Int), .int .i64 b, .string fr, .string to, .slice A n c] 48)).alloc (.cells #[.slice none 0 0, .int .i64 0] 44)).alloc (.cells #[.int .i64 0, .string ⟨#[]⟩, .string ⟨#[]⟩, .slice none 0 0] 49) = w4 at *
  obtain ⟨u0, u1, f0, f1⟩ := two_facts HP0.out
  have v0 : w4.cell? ⟨w.heap.size + 1, 0, none⟩ = some (.int .i64 2) := (HP1.out.cell 0).trans rfl
  have v1 : w4.cell? ⟨w.heap.size + 1, 1, none⟩ = some (.int .i64 (i : Int)) := (HP1.out.cell 1).trans rfl
  have v2 : w4.cell? ⟨w.heap.size + 1, 2, none⟩ = some (.int .i64 b) := (HP1.out.cell 2).trans rfl
  obtain ⟨r, e, hrl, c0, c1, c2, c3⟩ := own_dg_cells9 HR4.out hi
  obtain rfl := e
  have hlt0 := HP0.out.lt
  have hlt1 := HP1.out.lt
  have hlt2 := HP2.out.lt
  have hlt3 := HP3.out.lt
  have hb5 : Below w4.heap.size w4 (w4.alloc (.cells #[.int .i64 d.id, .string d.fr, .string d.to, .slice d.A d.n d.c] 49)) := (Below.refl _ _).alloc (Nat.le_refl _) _
  have hc := rpost_any _ ms last d _ (HR4.out.below hb5) hlen h0 h1
  unfold Dg.v at hc
  have HP4 := Blk.new w4 49 #[.int .i64 d.id, .string d.fr, .string d.to, .slice d.A d.n d.c]
  go_upto_region 12 with (fail)
  have HQ0 := HP0.out.below hb5 HP0.out.lt
  have HQ2 := Lib.hid (HP2.out.below hb5 HP2.out.lt)
  have HQ3 := Lib.hid (HP3.out.below hb5 HP3.out.lt)
  have HBB := Lib.hid (HB4.out.trans (hb5.mono HB4.out.size))
  have hs45 : (w4.alloc (.cells #[.int .i64 d.id, .string d.fr, .string d.to, .slice d.A d.n d.c] 49)).heap.size = w4.heap.size + 1 := by simp
  obtain ⟨u0, u1, f0, f1⟩ := two_facts HQ0
  obtain ⟨c0, c1, c2, c3, _, _, _, _⟩ := HP4.four_facts
  clear v0 v1 v2 HP0 HP1 HP2 HP3 HR4 HB4 hb5 HQ0 HP4
  generalize w4.alloc (.cells #[.int .i64 d.id, .string d.fr, .string d.to, .slice d.A d.n d.c] 49) = w5 at *
  go_wp2_with (go_at_call 28; refine hc.mono ?_; rintro _ w6 ⟨v6, rfl, hn6, hb6⟩; refine Hid.out ?_)
  refine Lib.hid ?_
  have hnn : v6.ownBlock ≠ some (w.heap.size + 1 + 1 + 1) := fun e9 => by have h9 : w5.heap.size ≤ _ := (hn6.lt _ e9).1; have := HS4.out; omega
  have HMV := Lib.hid (show Moved w (Value.slice (some ⟨r, 0, none⟩) ms.length rc) v6 from fun k hk => .inr (by have h9 : w5.heap.size ≤ k := (hn6.lt k hk).1; have := HS4.out; omega))
  have hrr : RRow w6 v6 (ms ++ [⟨last + 1, d.fr, d.to, d.A, d.n, d.c, d.bs⟩]) := hn6.row
  have q2 := HQ2.out.below hb6 HQ2.out.lt
  have q3 := HQ3.out.below hb6 HQ3.out.lt
  have hbb := HBB.out.trans (hb6.mono HBB.out.size)
  clear hb6 hn6 HQ2 HQ3 HBB hc c0 c1 c2 c3 u0 u1 f0 f1
  obtain ⟨a5, c5, e5⟩ := own_form hrr
  generalize hmm : List.length _ = m5 at e5
  subst e5
  clear hmm
  have hw6 : Below w6.heap.size w6 (w6.alloc (.cells #[.slice a5 m5 c5, .int .i64 (last + 1)] 44)) := (Below.refl _ _).alloc (Nat.le_refl _) _
  have q2 := q2.below hw6 q2.lt
  have q3 := q3.below hw6 q3.lt
  have hrr := hrr.below hw6
  have hbb := hbb.trans (hw6.mono hbb.size)
  obtain ⟨s0, s1, s2, s3⟩ := two_of q2
  obtain ⟨t0, t1, t2, t3, t4, t5, t6, t7⟩ := zc9_facts q3
  have hf := Lib.hid (rfin q2 q3 hrr hnn hbb (by omega) (by omega) (.slice a5 m5 c5) (.int .i64 (last + 1)) (.int .i64 0) (.string ⟨#[]⟩) (.string ⟨#[]⟩) (.slice none 0 0))
  have hl2 := q2.lt
  have hl3 := q3.lt
  clear q2 q3 hrr hbb hw6 hnn
  go_wp2_with fail
  obtain ⟨K2, K3, KR, KB⟩ := hf.out
  refine ret_ctct rfl rfl (by rfl) (K2.range (l := [.slice a5 m5 c5, .int .i64 (last + 1)])) Try.underlying44 rfl (by kernel_rfl) (by rfl) (K3.range (l := [.int .i64 0, .string ⟨#[]⟩, .string ⟨#[]⟩, .slice none 0 0])) Try.underlying49 rfl (by kernel_rfl) ⟨.slice a5 m5 c5, rfl, KR, HMV.out, KB⟩
end Go.Proofs.Ythgbgkpchchicaa
