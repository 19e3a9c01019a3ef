import Derived.Test.YthgbgkpchchicaaRdo
namespace Go.Proofs.Ythgbgkpchchicaa
open Go.ChangeShapes Go.WideShapes Go.ChangeAt Go.RowKit
set_option linter.unusedVariables false
set_option linter.unusedSimpArgs false
set_option maxRecDepth 100000 in
set_option maxHeartbeats 4000000 in
theorem rdo_drop (v : Value) (ms : List Dg) (last : Int) (a b : Int) (fr to : ByteArray) (A : Option Addr) (n c : Nat) (bs : List Nat) (w : World) (h : RRow w v ms) (i : Nat) (d : Dg) (hi : ms[i]? = some d) (hlen : ms.length ≤ 1000) : Calls Try.prog 18 #[.agg #[v, .int .i64 last], .agg #[.int .i64 1, .int .i64 (i : Int), .int .i64 b, .string fr, .string to, .slice A n c]] w fun e w' => ∃ v', e = .returned (.tuple #[.agg #[v', .int .i64 last], .int .i64 0, .agg zc, .int .i64 0]) ∧ RRow w' v' (ms.eraseIdx i) ∧ Moved w v v' ∧ Below w.heap.size w w' := by
  obtain ⟨rA, rc, rfl⟩ := own_form h
  have hb4 := W4_below w (.slice rA ms.length rc) last (⟨1, (i : Int), b, fr, to, A, n, c, bs⟩ : Opr)
  have hs4 := W4_size w (.slice rA ms.length rc) last (⟨1, (i : Int), b, fr, to, A, n, c, bs⟩ : Opr)
  have P0 := W4_0 w (.slice rA ms.length rc) last (⟨1, (i : Int), b, fr, to, A, n, c, bs⟩ : Opr)
  have P1 := W4_1 w (.slice rA ms.length rc) last (⟨1, (i : Int), b, fr, to, A, n, c, bs⟩ : Opr)
  have P2 := W4_2 w (.slice rA ms.length rc) last (⟨1, (i : Int), b, fr, to, A, n, c, bs⟩ : Opr)
  have P3 := W4_3 w (.slice rA ms.length rc) last (⟨1, (i : Int), b, fr, to, A, n, c, bs⟩ : Opr)
  have hR4 := h.below hb4
  have hil := (List.getElem?_eq_some_iff.1 hi).1
  have hpr : ∀ k, rA = some ⟨k, 0, none⟩ → k < w.heap.size := fun k hk => (h.lt k (by rw [hk]; rfl)).2
  have hnn0 : (Value.slice rA ms.length rc).ownBlock ≠ some (w.heap.size + 1 + 1 + 1) := fun e9 => by have := (h.lt _ e9).2; omega
  have hd1 : ¬ (ms.length : Int) ≤ (i : Int) := by omega
  have hd2 : (i : Int) < (ms.length : Int) := by omega
  unfold W4 z2 zc at P0 P1 P2 P3 hR4 hb4 hs4
  dsimp only at P0 P1 P2 P3 hR4 hb4 hs4
  have HP0 := Lib.hid P0
  have HP1 := Lib.hid P1
  have HP2 := Lib.hid P2
  have HP3 := Lib.hid P3
  have HR4 := Lib.hid hR4
  have HB4 := Lib.hid hb4
  have HS4 := Lib.hid hs4
  clear P0 P1 P2 P3 hR4 hb4 hs4 h
  go_enter Try.func18, Try.ntmps18
  go_upto_region 4 with (fail)
  generalize (((w.alloc (.cells #[.slice rA ms.length rc, .int .i64 last] 44)).alloc (.cells #[.int .i64 1, .int .i64 (i : Int), .int .i64 b, .string fr, .string to, .slice A n c] 48)).alloc (.cells #[.slice none 0 0, .int .i64 0] 44)).alloc (.cells #[.int .i64 0, .string ⟨#[]⟩, .string ⟨#[]⟩, .slice none 0 0] 49) = w4 at *
  obtain ⟨u0, u1, f0, f1⟩ := two_facts HP0.out
  have v0 : w4.cell? ⟨w.heap.size + 1, 0, none⟩ = some (.int .i64 1) := (HP1.out.cell 0).trans rfl
  have v1 : w4.cell? ⟨w.heap.size + 1, 1, none⟩ = some (.int .i64 (i : Int)) := (HP1.out.cell 1).trans rfl
  have v2 : w4.cell? ⟨w.heap.size + 1, 2, none⟩ = some (.int .i64 b) := (HP1.out.cell 2).trans rfl
  obtain ⟨r, e, hrl, c0, c1, c2, c3⟩ := own_dg_cells9 HR4.out hi
  obtain rfl := e
  have hlt0 := HP0.out.lt
  have hlt1 := HP1.out.lt
  have hlt2 := HP2.out.lt
  have hlt3 := HP3.out.lt
  have hb5 : Below w4.heap.size w4 (w4.alloc (.cells #[.int .i64 d.id, .string d.fr, .string d.to, .slice d.A d.n d.c] 49)) := (Below.refl _ _).alloc (Nat.le_refl _) _
  have hc := without_any _ ms i _ (HR4.out.below hb5) hil hlen
  have HP4 := Lib.hid (Blk.new w4 49 #[.int .i64 d.id, .string d.fr, .string d.to, .slice d.A d.n d.c])
  go_upto_region 9 with (fail)
  have HQ0 := Lib.hid (HP0.out.below hb5 HP0.out.lt)
  have HQ2 := Lib.hid (HP2.out.below hb5 HP2.out.lt)
  have HQ3 := Lib.hid (HP3.out.below hb5 HP3.out.lt)
  have HBB := Lib.hid (HB4.out.trans (hb5.mono HB4.out.size))
  have hs45 : (w4.alloc (.cells #[.int .i64 d.id, .string d.fr, .string d.to, .slice d.A d.n d.c] 49)).heap.size = w4.heap.size + 1 := by simp
  obtain ⟨u0, u1, f0, f1⟩ := two_facts HQ0.out
  have v1 : (w4.alloc (.cells #[.int .i64 d.id, .string d.fr, .string d.to, .slice d.A d.n d.c] 49)).cell? ⟨w.heap.size + 1, 1, none⟩ = some (.int .i64 (i : Int)) := ((HP1.out.below hb5 HP1.out.lt).cell 1).trans rfl
  clear c0 c1 c2 c3 v0 v2 HP0 HP1 HP2 HP3 HR4 HB4 hb5
  generalize w4.alloc (.cells #[.int .i64 d.id, .string d.fr, .string d.to, .slice d.A d.n d.c] 49) = w5 at *
  go_wp2_with (go_at_call 29; refine hc.mono ?_; rintro _ w6 ⟨v6, rfl, hn6, hb6⟩; refine Hid.out ?_)
  refine Lib.hid ?_
  have hn3 : v6.ownBlock ≠ some (w.heap.size + 1 + 1 + 1) := fun e9 => by have h9 : w5.heap.size ≤ _ := (hn6.lt _ e9).1; have := HS4.out; omega
  have HMV := Lib.hid (show Moved w (Value.slice (some ⟨r, 0, none⟩) ms.length rc) v6 from fun k hk => .inr (by have h9 : w5.heap.size ≤ k := (hn6.lt k hk).1; have := HS4.out; omega))
  have hn0 : v6.ownBlock ≠ some w.heap.size := fun e9 => by have h9 : w5.heap.size ≤ _ := (hn6.lt _ e9).1; have := HS4.out; omega
  have q0 := HQ0.out.below hb6 HQ0.out.lt
  obtain ⟨x0, x1, g0, g1⟩ := two_facts q0
  have k0 := q0.set_ 0 v6
  have k2 := (HQ2.out.below hb6 HQ2.out.lt).far (p := ⟨w.heap.size, 0, none⟩) (by show w.heap.size + 1 + 1 ≠ w.heap.size; omega) v6
  have k3 := (HQ3.out.below hb6 HQ3.out.lt).far (p := ⟨w.heap.size, 0, none⟩) (by show w.heap.size + 1 + 1 + 1 ≠ w.heap.size; omega) v6
  have k4 := (HP4.out.below hb6 HP4.out.lt).far (p := ⟨w.heap.size, 0, none⟩) (by show w4.heap.size ≠ w.heap.size; omega) v6
  have kr : RRow (w6.setCell ⟨w.heap.size, 0, none⟩ v6) v6 (ms.eraseIdx i) := ownsRow_set (p := ⟨w.heap.size, 0, none⟩) hn6.row hn0 v6
  have kb : Below w.heap.size w (w6.setCell ⟨w.heap.size, 0, none⟩ v6) := (HBB.out.trans (hb6.mono HBB.out.size)).setCell (p := ⟨w.heap.size, 0, none⟩) (Nat.le_refl _) v6
  have K0 := Lib.hid k0
  have K2 := Lib.hid k2
  have K3 := Lib.hid k3
  have K4 := Lib.hid k4
  have KR := Lib.hid kr
  have KB := Lib.hid kb
  obtain ⟨a6, c6, e6⟩ := own_form hn6
  generalize hmm : List.length _ = m6 at e6
  have HN3 := Lib.hid hn3
  clear hmm k0 k2 k3 k4 kr kb hn6 hb6 hn0 hn3 q0 hc HQ0 HQ2 HQ3 HBB v1 u0 u1 f0 f1 hs45
  subst e6
  go_upto_region 10 with (fail)
  generalize w6.setCell ⟨w.heap.size, 0, none⟩ (.slice a6 m6 c6) = w7 at *
  obtain ⟨y0, y1, _, _⟩ := two_facts K0.out
  obtain ⟨s0, s1, s2, s3⟩ := two_of K2.out
  obtain ⟨t0, t1, t2, t3, t4, t5, t6, t7⟩ := zc9_facts K3.out
  have hf := Lib.hid (rfin K2.out K3.out KR.out HN3.out KB.out (by omega) (by omega) (.slice a6 m6 c6) (.int .i64 last) (.int .i64 0) (.string ⟨#[]⟩) (.string ⟨#[]⟩) (.slice none 0 0))
  go_wp2_with fail
  obtain ⟨K2, K3, KR, KB⟩ := hf.out
  refine ret_ctct rfl rfl (by rfl) (K2.range (l := [.slice a6 m6 c6, .int .i64 last])) Try.underlying44 rfl (by kernel_rfl) (by rfl) (K3.range (l := [.int .i64 0, .string ⟨#[]⟩, .string ⟨#[]⟩, .slice none 0 0])) Try.underlying49 rfl (by kernel_rfl) ⟨.slice a6 m6 c6, rfl, KR, HMV.out, KB⟩

end Go.Proofs.Ythgbgkpchchicaa
