import Derived.Test.YthgbgkpchchicaaRps
import Derived.Test.YthgbgkpchchicaaStp
import Derived.Test.YthgbgkpchchicaaLwb
namespace Go.Proofs.Ythgbgkpchchicaa
open Go.ChangeShapes Go.WideShapes Go.ChangeAt Go.RowKit
set_option linter.unusedVariables false
set_option linter.unusedSimpArgs false
def z2 : Array Value := #[.slice none 0 0, .int .i64 0]
theorem rfin {B p2 p3 : Nat} {a w : World} {v' : Value} {ms' : List Dg} (h2 : Blk w p2 44 z2) (h3 : Blk w p3 49 zc) (hr : RRow w v' ms') (hn : v'.ownBlock ≠ some p3) (hb : Below B a w) (hB2 : B ≤ p2) (hB3 : B ≤ p3) (x0 x1 y0 y1 y2 y3 : Value) :
    Blk ((((((w.setCell ⟨p2, 0, none⟩ x0).setCell ⟨p2, 1, none⟩ x1).setCell ⟨p3, 0, none⟩ y0).setCell ⟨p3, 1, none⟩ y1).setCell ⟨p3, 2, none⟩ y2).setCell ⟨p3, 3, none⟩ y3) p2 44 #[x0, x1] ∧
    Blk ((((((w.setCell ⟨p2, 0, none⟩ x0).setCell ⟨p2, 1, none⟩ x1).setCell ⟨p3, 0, none⟩ y0).setCell ⟨p3, 1, none⟩ y1).setCell ⟨p3, 2, none⟩ y2).setCell ⟨p3, 3, none⟩ y3) p3 49 #[y0, y1, y2, y3] ∧
    RRow ((((((w.setCell ⟨p2, 0, none⟩ x0).setCell ⟨p2, 1, none⟩ x1).setCell ⟨p3, 0, none⟩ y0).setCell ⟨p3, 1, none⟩ y1).setCell ⟨p3, 2, none⟩ y2).setCell ⟨p3, 3, none⟩ y3) v' ms' ∧
    Below B a ((((((w.setCell ⟨p2, 0, none⟩ x0).setCell ⟨p2, 1, none⟩ x1).setCell ⟨p3, 0, none⟩ y0).setCell ⟨p3, 1, none⟩ y1).setCell ⟨p3, 2, none⟩ y2).setCell ⟨p3, 3, none⟩ y3) := by
  have hne : p2 ≠ p3 := Blk.ne_ h2 h3 (by decide)
  have g2 := (h2.set_ 0 x0).set_ 1 x1
  have g3 := (h3.far (p := ⟨p2, 0, none⟩) (Ne.symm hne) x0).far (p := ⟨p2, 1, none⟩) (Ne.symm hne) x1
  have k2 := (((g2.far (p := ⟨p3, 0, none⟩) hne y0).far (p := ⟨p3, 1, none⟩) hne y1).far (p := ⟨p3, 2, none⟩) hne y2).far (p := ⟨p3, 3, none⟩) hne y3
  have k3 := (((g3.set_ 0 y0).set_ 1 y1).set_ 2 y2).set_ 3 y3
  refine ⟨k2, k3, ?_, ?_⟩
  · have r2 : v'.ownBlock ≠ some p2 := own_blk_ne hr h2 (by decide)
    exact ownsRow_set (p := ⟨p3, 3, none⟩) (ownsRow_set (p := ⟨p3, 2, none⟩) (ownsRow_set (p := ⟨p3, 1, none⟩) (ownsRow_set (p := ⟨p3, 0, none⟩) (ownsRow_set (p := ⟨p2, 1, none⟩) (ownsRow_set (p := ⟨p2, 0, none⟩) hr r2 _) r2 _) hn _) hn _) hn _) hn _
  · exact (((((hb.setCell (p := ⟨p2, 0, none⟩) hB2 _).setCell (p := ⟨p2, 1, none⟩) hB2 _).setCell (p := ⟨p3, 0, none⟩) hB3 _).setCell (p := ⟨p3, 1, none⟩) hB3 _).setCell (p := ⟨p3, 2, none⟩) hB3 _).setCell (p := ⟨p3, 3, none⟩) hB3 _
theorem two_of {w : World} {b : Nat} (h : Blk w b 44 z2) : w.cell? ⟨b, 0, none⟩ = some (.slice none 0 0) ∧ w.cell? ⟨b, 1, none⟩ = some (.int .i64 0) ∧ w.frozen? ⟨b, 0, none⟩ = false ∧ w.frozen? ⟨b, 1, none⟩ = false := two_facts h
theorem zc9_facts {w : World} {b : Nat} (h : Blk w b 49 zc) :
    w.cell? ⟨b, 0, none⟩ = some (.int .i64 0) ∧ w.cell? ⟨b, 1, none⟩ = some (.string ⟨#[]⟩) ∧ w.cell? ⟨b, 2, none⟩ = some (.string ⟨#[]⟩) ∧ w.cell? ⟨b, 3, none⟩ = some (.slice none 0 0) ∧ w.frozen? ⟨b, 0, none⟩ = false ∧ w.frozen? ⟨b, 1, none⟩ = false ∧ w.frozen? ⟨b, 2, none⟩ = false ∧ w.frozen? ⟨b, 3, none⟩ = false := Blk.four_facts h
/-- The four blocks that a call of the reference lays first. -/
def W4 (w : World) (v : Value) (last : Int) (o : Opr) : World := (((w.alloc (.cells #[v, .int .i64 last] 44)).alloc (.cells #[.int .i64 o.kind, .int .i64 o.a, .int .i64 o.b, .string o.fr, .string o.to, .slice o.A o.n o.c] 48)).alloc (.cells z2 44)).alloc (.cells zc 49)
theorem W4_size (w : World) (v : Value) (last : Int) (o : Opr) : (W4 w v last o).heap.size = w.heap.size + 1 + 1 + 1 + 1 := by simp [W4]
theorem W4_below (w : World) (v : Value) (last : Int) (o : Opr) : Below w.heap.size w (W4 w v last o) := ((((Below.refl _ w).alloc (Nat.le_refl _) _).alloc (by simp) _).alloc (by simp; omega) _).alloc (by simp; omega) _
theorem W4_0 (w : World) (v : Value) (last : Int) (o : Opr) : Blk (W4 w v last o) w.heap.size 44 #[v, .int .i64 last] := (((Blk.new w 44 _).alloc _).alloc _).alloc _
theorem W4_1 (w : World) (v : Value) (last : Int) (o : Opr) : Blk (W4 w v last o) (w.heap.size + 1) 48 #[.int .i64 o.kind, .int .i64 o.a, .int .i64 o.b, .string o.fr, .string o.to, .slice o.A o.n o.c] := by
  have := ((Blk.new (w.alloc (.cells #[v, .int .i64 last] 44)) 48 #[.int .i64 o.kind, .int .i64 o.a, .int .i64 o.b, .string o.fr, .string o.to, .slice o.A o.n o.c]).alloc (.cells z2 44)).alloc (.cells zc 49)
  simpa [W4] using this
theorem W4_2 (w : World) (v : Value) (last : Int) (o : Opr) : Blk (W4 w v last o) (w.heap.size + 1 + 1) 44 z2 := by
  have := (Blk.new ((w.alloc (.cells #[v, .int .i64 last] 44)).alloc (.cells #[.int .i64 o.kind, .int .i64 o.a, .int .i64 o.b, .string o.fr, .string o.to, .slice o.A o.n o.c] 48)) 44 z2).alloc (.cells zc 49)
  simpa [W4] using this
theorem W4_3 (w : World) (v : Value) (last : Int) (o : Opr) : Blk (W4 w v last o) (w.heap.size + 1 + 1 + 1) 49 zc := by
  have := Blk.new (((w.alloc (.cells #[v, .int .i64 last] 44)).alloc (.cells #[.int .i64 o.kind, .int .i64 o.a, .int .i64 o.b, .string o.fr, .string o.to, .slice o.A o.n o.c] 48)).alloc (.cells z2 44)) 49 zc
  simpa [W4] using this
theorem own_dg_cells9 {B c n i : Nat} {w : World} {A : Option Addr} {es : List Dg} {d : Dg} (h : w.ownsRow B 49 4 (.slice A n c) n (dgCells es)) (hi : es[i]? = some d) :
    ∃ r, A = some ⟨r, 0, none⟩ ∧ r < w.heap.size ∧ w.cell? ⟨r, i * 4, none⟩ = some (.int .i64 d.id) ∧ w.cell? ⟨r, i * 4 + 1, none⟩ = some (.string d.fr) ∧ w.cell? ⟨r, i * 4 + 2, none⟩ = some (.string d.to) ∧ w.cell? ⟨r, i * 4 + 3, none⟩ = some (.slice d.A d.n d.c) := by
  have hil := (List.getElem?_eq_some_iff.1 hi).1
  have hlen : es.length * 4 = n * 4 := by rw [← dgCells_len]; exact h.1
  rcases h.2 with ⟨_, h0⟩ | ⟨r, cap, cur, hv, hbg, hh, _⟩
  · omega
  · injection hv with e1 _ _
    subst e1
    have hc := h.cells (g := r) rfl
    have get : ∀ k, k < 4 → ∀ u, d.cells[k]? = some u → w.cell? ⟨r, i * 4 + k, none⟩ = some u := fun k hk u hu => by
      have := hc (i * 4 + k) u ((dgCells_get hi hk).trans hu)
      rwa [add_none, Nat.zero_add] at this
    exact ⟨r, rfl, (Array.getElem?_eq_some_iff.1 hh).1, get 0 (by omega) _ rfl, get 1 (by omega) _ rfl, get 2 (by omega) _ rfl, get 3 (by omega) _ rfl⟩

set_option maxRecDepth 100000 in
set_option maxHeartbeats 4000000 in
theorem rdo_post (v : Value) (ms : List Dg) (last : Int) (a b : Int) (fr to : ByteArray) (A : Option Addr) (n c : Nat) (bs : List Nat) (w : World) (h : RRow w v ms) (hlen : ms.length < 1000) (h0 : 0 ≤ last) (h1 : last < 1000000) : Calls Try.prog 18 #[.agg #[v, .int .i64 last], .agg #[.int .i64 0, .int .i64 a, .int .i64 b, .string fr, .string to, .slice A n c]] w fun e w' => ∃ v', e = .returned (.tuple #[.agg #[v', .int .i64 (last + 1)], .int .i64 (last + 1), .agg zc, .int .i64 0]) ∧ RRow w' v' (ms ++ [⟨last + 1, fr, to, A, n, c, bs⟩]) ∧ Moved w v v' ∧ Below w.heap.size w w' := by
  obtain ⟨rA, rc, rfl⟩ := own_form h
  have hb4 := W4_below w (.slice rA ms.length rc) last (⟨0, a, b, fr, to, A, n, c, bs⟩ : Opr)
  have hs4 := W4_size w (.slice rA ms.length rc) last (⟨0, a, b, fr, to, A, n, c, bs⟩ : Opr)
  have P0 := W4_0 w (.slice rA ms.length rc) last (⟨0, a, b, fr, to, A, n, c, bs⟩ : Opr)
  have P1 := W4_1 w (.slice rA ms.length rc) last (⟨0, a, b, fr, to, A, n, c, bs⟩ : Opr)
  have P2 := W4_2 w (.slice rA ms.length rc) last (⟨0, a, b, fr, to, A, n, c, bs⟩ : Opr)
  have P3 := W4_3 w (.slice rA ms.length rc) last (⟨0, a, b, fr, to, A, n, c, bs⟩ : Opr)
  have hR4 := h.below hb4
  have hc := rpost_any _ ms last ⟨0, fr, to, A, n, c, bs⟩ _ hR4 hlen h0 h1
  have H2 := Lib.hid P2
  have H3 := Lib.hid P3
  have HB := Lib.hid hb4
  have HS := Lib.hid hs4
  clear P0 P1 P2 P3 hb4 hs4 hR4 h
  unfold W4 z2 zc Dg.v at hc
  dsimp only at hc
  go_enter Try.func18, Try.ntmps18
  go_wp2_with (go_at_call 28; refine hc.mono ?_; rintro _ w5 ⟨v5, rfl, hn5, hb5⟩; refine Hid.out ?_)
  refine Lib.hid ?_
  have hb5w : Below (W4 w (.slice rA ms.length rc) last (⟨0, a, b, fr, to, A, n, c, bs⟩ : Opr)).heap.size (W4 w (.slice rA ms.length rc) last (⟨0, a, b, fr, to, A, n, c, bs⟩ : Opr)) w5 := hb5
  have hnn : v5.ownBlock ≠ some (w.heap.size + 1 + 1 + 1) := fun e9 => by
    have h9 : (W4 w (.slice rA ms.length rc) last (⟨0, a, b, fr, to, A, n, c, bs⟩ : Opr)).heap.size ≤ _ := (hn5.lt _ e9).1
    have := HS.out
    omega
  have HMV := Lib.hid (show Moved w (Value.slice rA ms.length rc) v5 from fun k hk => .inr (by have h9 : (W4 w (.slice rA ms.length rc) last (⟨0, a, b, fr, to, A, n, c, bs⟩ : Opr)).heap.size ≤ k := (hn5.lt k hk).1; have := HS.out; omega))
  have hrr : RRow w5 v5 (ms ++ [⟨last + 1, fr, to, A, n, c, bs⟩]) := hn5.row
  have q2 := H2.out.below hb5w H2.out.lt
  have q3 := H3.out.below hb5w H3.out.lt
  have hbb := HB.out.trans (hb5w.mono HB.out.size)
  clear hb5 hb5w hn5 H2 H3 HB HS hc
  obtain ⟨a5, c5, e5⟩ := own_form hrr
  generalize hmm : List.length _ = m5 at e5
  subst e5
  clear hmm
  have hw6 : Below w5.heap.size w5 (w5.alloc (.cells #[.slice a5 m5 c5, .int .i64 (last + 1)] 44)) := (Below.refl _ _).alloc (Nat.le_refl _) _
  have q2 := q2.below hw6 q2.lt
  have q3 := q3.below hw6 q3.lt
  have hrr := hrr.below hw6
  have hbb := hbb.trans (hw6.mono hbb.size)
  obtain ⟨s0, s1, s2, s3⟩ := two_of q2
  obtain ⟨t0, t1, t2, t3, t4, t5, t6, t7⟩ := zc9_facts q3
  have hf := Lib.hid (rfin q2 q3 hrr hnn hbb (by omega) (by omega) (.slice a5 m5 c5) (.int .i64 (last + 1)) (.int .i64 0) (.string ⟨#[]⟩) (.string ⟨#[]⟩) (.slice none 0 0))
  have hl2 := q2.lt
  have hl3 := q3.lt
  clear q2 q3 hrr hbb hw6 hnn
  go_wp2_with fail
  obtain ⟨K2, K3, KR, KB⟩ := hf.out
  refine ret_ctct rfl rfl (by rfl) (K2.range (l := [.slice a5 m5 c5, .int .i64 (last + 1)])) Try.underlying44 rfl (by kernel_rfl) (by rfl) (K3.range (l := [.int .i64 0, .string ⟨#[]⟩, .string ⟨#[]⟩, .slice none 0 0])) Try.underlying49 rfl (by kernel_rfl) ⟨.slice a5 m5 c5, rfl, KR, HMV.out, KB⟩
set_option maxRecDepth 100000 in
set_option maxHeartbeats 4000000 in
theorem rdo_out (K : Int) (v : Value) (ms : List Dg) (last : Int) (a b : Int) (fr to : ByteArray) (A : Option Addr) (n c : Nat) (bs : List Nat) (w : World) (h : RRow w v ms) (k0 : K ≠ 0) (hx : outB ms.length a = true ∨ (K = 3 ∧ outB ms.length b = true)) (hm : ms.length ≤ 1000) : Calls Try.prog 18 #[.agg #[v, .int .i64 last], .agg #[.int .i64 K, .int .i64 a, .int .i64 b, .string fr, .string to, .slice A n c]] w fun e w' => ∃ v', e = .returned (.tuple #[.agg #[v', .int .i64 last], .int .i64 0, .agg zc, .int .i64 10]) ∧ RRow w' v' ms ∧ Moved w v v' ∧ Below w.heap.size w w' := by
  obtain ⟨rA, rc, rfl⟩ := own_form h
  have hb4 := W4_below w (.slice rA ms.length rc) last (⟨K, a, b, fr, to, A, n, c, bs⟩ : Opr)
  have hs4 := W4_size w (.slice rA ms.length rc) last (⟨K, a, b, fr, to, A, n, c, bs⟩ : Opr)
  have P0 := W4_0 w (.slice rA ms.length rc) last (⟨K, a, b, fr, to, A, n, c, bs⟩ : Opr)
  have P1 := W4_1 w (.slice rA ms.length rc) last (⟨K, a, b, fr, to, A, n, c, bs⟩ : Opr)
  have P2 := W4_2 w (.slice rA ms.length rc) last (⟨K, a, b, fr, to, A, n, c, bs⟩ : Opr)
  have P3 := W4_3 w (.slice rA ms.length rc) last (⟨K, a, b, fr, to, A, n, c, bs⟩ : Opr)
  have hR4 := h.below hb4
  have hnn : (Value.slice rA ms.length rc).ownBlock ≠ some (w.heap.size + 1 + 1 + 1) := fun e9 => by have := (h.lt _ e9).2; omega
  unfold W4 z2 zc at P0 P2 P3 hR4 hb4
  dsimp only at P0 P2 P3 hR4 hb4
  obtain ⟨u0, u1, _, _⟩ := two_facts P0
  obtain ⟨s0, s1, s2, s3⟩ := two_of P2
  obtain ⟨t0, t1, t2, t3, t4, t5, t6, t7⟩ := zc9_facts P3
  have hf := Lib.hid (rfin P2 P3 hR4 hnn hb4 (by omega) (by omega) (.slice rA ms.length rc) (.int .i64 last) (.int .i64 0) (.string ⟨#[]⟩) (.string ⟨#[]⟩) (.slice none 0 0))
  have g0 : (K == 0) = false := by simp; exact k0
  have HMV := Lib.hid (Moved.refl w (Value.slice rA ms.length rc))
  have hx4 : a < 0 ∨ ((ms.length : Int) ≤ a ∧ ¬ a < 0) ∨ ((¬ a < 0 ∧ ¬ (ms.length : Int) ≤ a) ∧ K = 3 ∧ (b < 0 ∨ ((ms.length : Int) ≤ b ∧ ¬ b < 0))) := by
    unfold outB at hx
    simp only [decide_eq_true_eq] at hx
    omega
  clear P0 P1 P2 P3 hb4 hs4 hR4 h hnn hx k0
  rcases hx4 with hx | hx | ⟨hx1, rfl, hx | hx⟩
  · have HX := Lib.hid hx
    have d1 : decide (a < 0) = true := by simp; exact hx
    clear hx
    go_enter Try.func18, Try.ntmps18
    go_upto_region 5 with (fail)
    generalize (((w.alloc (.cells #[.slice rA ms.length rc, .int .i64 last] 44)).alloc (.cells #[.int .i64 K, .int .i64 a, .int .i64 b, .string fr, .string to, .slice A n c] 48)).alloc (.cells #[.slice none 0 0, .int .i64 0] 44)).alloc (.cells #[.int .i64 0, .string ⟨#[]⟩, .string ⟨#[]⟩, .slice none 0 0] 49) = w4 at *
    go_wp2_with fail
    obtain ⟨K2, K3, KR, KB⟩ := hf.out
    refine ret_ctct rfl rfl (by rfl) (K2.range (l := [.slice rA ms.length rc, .int .i64 last])) Try.underlying44 rfl (by kernel_rfl) (by rfl) (K3.range (l := [.int .i64 0, .string ⟨#[]⟩, .string ⟨#[]⟩, .slice none 0 0])) Try.underlying49 rfl (by kernel_rfl) ⟨.slice rA ms.length rc, rfl, KR, HMV.out, KB⟩
  · have d1 : decide (a < 0) = false := by simp; omega
    have d2 : decide ((ms.length : Int) ≤ a) = true := by simp; omega
    clear hx
    go_enter Try.func18, Try.ntmps18
    go_upto_region 5 with (fail)
    generalize (((w.alloc (.cells #[.slice rA ms.length rc, .int .i64 last] 44)).alloc (.cells #[.int .i64 K, .int .i64 a, .int .i64 b, .string fr, .string to, .slice A n c] 48)).alloc (.cells #[.slice none 0 0, .int .i64 0] 44)).alloc (.cells #[.int .i64 0, .string ⟨#[]⟩, .string ⟨#[]⟩, .slice none 0 0] 49) = w4 at *
    go_wp2_with fail
    obtain ⟨K2, K3, KR, KB⟩ := hf.out
    refine ret_ctct rfl rfl (by rfl) (K2.range (l := [.slice rA ms.length rc, .int .i64 last])) Try.underlying44 rfl (by kernel_rfl) (by rfl) (K3.range (l := [.int .i64 0, .string ⟨#[]⟩, .string ⟨#[]⟩, .slice none 0 0])) Try.underlying49 rfl (by kernel_rfl) ⟨.slice rA ms.length rc, rfl, KR, HMV.out, KB⟩
  · have d1 : decide (a < 0) = false := by simp; omega
    have d2 : decide ((ms.length : Int) ≤ a) = false := by simp; omega
    have d3 : decide (b < 0) = true := by simp; exact hx
    clear hx hx1
    go_enter Try.func18, Try.ntmps18
    go_upto_region 5 with (fail)
    generalize (((w.alloc (.cells #[.slice rA ms.length rc, .int .i64 last] 44)).alloc (.cells #[.int .i64 3, .int .i64 a, .int .i64 b, .string fr, .string to, .slice A n c] 48)).alloc (.cells #[.slice none 0 0, .int .i64 0] 44)).alloc (.cells #[.int .i64 0, .string ⟨#[]⟩, .string ⟨#[]⟩, .slice none 0 0] 49) = w4 at *
    go_wp2_with fail
    obtain ⟨K2, K3, KR, KB⟩ := hf.out
    refine ret_ctct rfl rfl (by rfl) (K2.range (l := [.slice rA ms.length rc, .int .i64 last])) Try.underlying44 rfl (by kernel_rfl) (by rfl) (K3.range (l := [.int .i64 0, .string ⟨#[]⟩, .string ⟨#[]⟩, .slice none 0 0])) Try.underlying49 rfl (by kernel_rfl) ⟨.slice rA ms.length rc, rfl, KR, HMV.out, KB⟩
  · have d1 : decide (a < 0) = false := by simp; omega
    have d2 : decide ((ms.length : Int) ≤ a) = false := by simp; omega
    have d3 : decide (b < 0) = false := by simp; omega
    have d4 : decide ((ms.length : Int) ≤ b) = true := by simp; omega
    clear hx hx1
    go_enter Try.func18, Try.ntmps18
    go_upto_region 5 with (fail)
    generalize (((w.alloc (.cells #[.slice rA ms.length rc, .int .i64 last] 44)).alloc (.cells #[.int .i64 3, .int .i64 a, .int .i64 b, .string fr, .string to, .slice A n c] 48)).alloc (.cells #[.slice none 0 0, .int .i64 0] 44)).alloc (.cells #[.int .i64 0, .string ⟨#[]⟩, .string ⟨#[]⟩, .slice none 0 0] 49) = w4 at *
    go_wp2_with fail
    obtain ⟨K2, K3, KR, KB⟩ := hf.out
    refine ret_ctct rfl rfl (by rfl) (K2.range (l := [.slice rA ms.length rc, .int .i64 last])) Try.underlying44 rfl (by kernel_rfl) (by rfl) (K3.range (l := [.int .i64 0, .string ⟨#[]⟩, .string ⟨#[]⟩, .slice none 0 0])) Try.underlying49 rfl (by kernel_rfl) ⟨.slice rA ms.length rc, rfl, KR, HMV.out, KB⟩

end Go.Proofs.Ythgbgkpchchicaa
