import Derived.Test.YthgbgkpchchicaaRwo
import Derived.Test.YthgbgkpchchicaaDoo
import Derived.Deep.Cut
namespace Go.Proofs.Ythgbgkpchchicaa
open Go.ChangeShapes Go.WideShapes Go.ChangeAt Go.RowKit
set_option linter.unusedVariables false
set_option linter.unusedSimpArgs false
/-- An append to a new empty row turns nothing that was there. -/
theorem append_fresh {P : Program} (w : World) (base g : Nat) (t ty e : TypeId) (i : TypeInfo) (z : Value) (size bytes : Nat) (ht : P.underlying t = some (.slice e)) (hi : P.info? e = some i) (hz : i.zero = some z)
    (hsize : i.size = size) (hby : i.bytes = bytes) (hzs : z.cells.size = size) (hsz : 0 < size) (hg : Blk w g e #[]) (hbg : base ≤ g) (hbase : base ≤ w.heap.size)
    (B : Nat) (A : Option Addr) (m c : Nat) (news : List Value) (hr : Reads w B size A m news) (h1 : ∀ u ∈ news, u.oneCell' = true) (h63 : m ≤ maxLen) (hbytes : m * bytes ≤ 140737488355328) :
    ∃ v' w', (Builtin.append_ #[t, t] ty #[.slice (some ⟨g, 0, none⟩) 0 0, .slice A m c]).run P w = .ok v' w' ∧ w'.ownsRow base e size v' m news ∧ Below w.heap.size w w' := by
  have hown : w.ownsRow base e size (.slice (some ⟨g, 0, none⟩) 0 0) 0 [] := ⟨by simp, .inr ⟨g, 0, #[], rfl, hbg, hg, Nat.le_refl _, by unfold maxLen; omega, by simp, by simp⟩⟩
  cases A with
  | none =>
    have hm : m = 0 := by
      rcases Nat.eq_zero_or_pos m with h0 | h0
      · exact h0
      · obtain ⟨ad, h, _⟩ := hr.2 h0
        cases h
    subst hm
    have hn : news = [] := List.eq_nil_of_length_eq_zero (by simpa using hr.1)
    subst hn
    exact ⟨_, w, run_append_of_nil w base t ty e i size ht hi _ 0 [] hown c, hown, Below.refl _ _⟩
  | some ad =>
    have hcells : ∀ j u, news[j]? = some u → w.cell? (ad.add j) = some u := by
      intro j u hu
      rcases Nat.eq_zero_or_pos m with h0 | h0
      · subst h0
        have hn : news = [] := List.eq_nil_of_length_eq_zero (by simpa using hr.1)
        subst hn
        simp at hu
      · obtain ⟨ad', h, _, hc⟩ := hr.2 h0
        injection h with h
        subst h
        exact hc j u hu
    obtain ⟨v', w', hrun, ho, hgr, _, _⟩ := run_append_own_at (P := P) w base t ty e i z size bytes ht hi hz hsize hby hzs hsz _ 0 [] hown ad m c news hr.1 hcells h1 (by simpa using h63) (by simpa using hbytes) hbase
    refine ⟨v', w', hrun, by simpa using ho, ?_⟩
    rcases Nat.eq_zero_or_pos m with h0 | h0
    · subst h0
      have hn : news = [] := List.eq_nil_of_length_eq_zero (by simpa using hr.1)
      subst hn
      have h2 := run_append_room (P := P) w t ty e i ht hi g 0 0 #[] hg ad 0 c [] (by simp) (by simp) (by simp) (by omega) (by simp)
      rw [h2] at hrun
      injection hrun with _ hw
      rw [← hw]
      have e2 : (List.take (0 * i.size) (#[] : Array Value).toList ++ [] ++ List.drop (0 * i.size + ([] : List Value).length) (#[] : Array Value).toList).toArray = #[] := by simp
      rw [e2, setRow_self w g #[] e (0, 0) hg]
      exact Below.refl _ _
    · have h2 := run_append_grow (P := P) w t ty e i z ht hi hz ⟨g, 0, none⟩ 0 0 [] (by simp) (by simp) ad m c news (by rw [hsize]; exact hr.1) hcells (by omega) (by unfold maxLen at h63; omega) (growslice_fits (by omega) (by rw [hby]; simpa using hbytes))
      rw [h2] at hrun
      injection hrun with _ hw
      rw [← hw]
      exact (Below.refl _ w).drew.alloc (Nat.le_refl _) _
theorem two_facts {w : World} {b : Nat} {t : TypeId} {u0 u1 : Value} (h : Blk w b t #[u0, u1]) : w.cell? ⟨b, 0, none⟩ = some u0 ∧ w.cell? ⟨b, 1, none⟩ = some u1 ∧ w.frozen? ⟨b, 0, none⟩ = false ∧ w.frozen? ⟨b, 1, none⟩ = false :=
  ⟨(h.cell 0).trans rfl, (h.cell 1).trans rfl, h.frozen 0, h.frozen 1⟩
set_option maxRecDepth 100000 in
set_option maxHeartbeats 8000000 in
theorem rpost_any (v : Value) (ms : List Dg) (last : Int) (d : Dg) (w : World) (h : RRow w v ms) (hlen : ms.length < 1000) (h0 : 0 ≤ last) (h1 : last < 1000000) :
    Calls Try.prog 28 #[.agg #[v, .int .i64 last], d.v] w fun e w' => ∃ v', e = .returned (.tuple #[.agg #[v', .int .i64 (last + 1)], .int .i64 (last + 1), .int .i64 0]) ∧ RNew w w' v' (ms ++ [{ d with id := last + 1 }]) ∧ Below w.heap.size w w' := by
  obtain ⟨rA, rc, rfl⟩ := own_form h
  obtain ⟨i0, ii, hz0, hz1, hz2⟩ := info_parts info49
  have H := Lib.hid h
  have hl1 : ¬ (1000 : Int) ≤ (ms.length : Int) := by omega
  unfold Dg.v
  clear h
  go_enter Try.func28, Try.ntmps28
  go_upto_region 5 with (fail)
  obtain ⟨w3, hw3⟩ : ∃ w3, (((w.alloc (Obj.cells #[Value.slice rA ms.length rc, Value.int IntKind.i64 (last + 1)] 44)).alloc (Obj.cells #[Value.int IntKind.i64 (last + 1), Value.string d.fr, Value.string d.to, Value.slice d.A d.n d.c] 49)).alloc (Obj.cells #[Value.slice none 0 0, Value.int IntKind.i64 0] 44)) = w3 := ⟨_, rfl⟩
  have hB3 : Below w.heap.size w w3 := by rw [← hw3]; exact (((Below.refl _ w).alloc (Nat.le_refl _) _).alloc (by simp) _).alloc (by simp; omega) _
  have P0 : Blk w3 w.heap.size 44 #[Value.slice rA ms.length rc, Value.int IntKind.i64 (last + 1)] := by rw [← hw3]; exact ((Blk.new w 44 _).alloc _).alloc _
  have P1 : Blk w3 (w.heap.size + 1) 49 #[Value.int IntKind.i64 (last + 1), Value.string d.fr, Value.string d.to, Value.slice d.A d.n d.c] := by rw [← hw3]; have := (Blk.new (w.alloc (Obj.cells #[Value.slice rA ms.length rc, Value.int IntKind.i64 (last + 1)] 44)) 49 #[Value.int IntKind.i64 (last + 1), Value.string d.fr, Value.string d.to, Value.slice d.A d.n d.c]).alloc (Obj.cells #[Value.slice none 0 0, Value.int IntKind.i64 0] 44); simpa using this
  have P2 : Blk w3 (w.heap.size + 1 + 1) 44 #[Value.slice none 0 0, Value.int IntKind.i64 0] := by rw [← hw3]; have := Blk.new ((w.alloc (Obj.cells #[Value.slice rA ms.length rc, Value.int IntKind.i64 (last + 1)] 44)).alloc (Obj.cells #[Value.int IntKind.i64 (last + 1), Value.string d.fr, Value.string d.to, Value.slice d.A d.n d.c] 49)) 44 #[Value.slice none 0 0, Value.int IntKind.i64 0]; simpa using this
  have hR3 := RRow.below H.out hB3
  rw [hw3]
  clear hw3 H
  have hbase : w.heap.size ≤ w.heap.size := Nat.le_refl _
  obtain ⟨p0, hp0⟩ : ∃ p0, w.heap.size = p0 := ⟨_, rfl⟩
  obtain ⟨p1, hp1⟩ : ∃ p1, p0 + 1 = p1 := ⟨_, rfl⟩
  obtain ⟨p2, hp2⟩ : ∃ p2, p1 + 1 = p2 := ⟨_, rfl⟩
  rw [hp0] at hB3 P0 P1 P2 ⊢
  rw [hp1] at P1 P2 ⊢
  rw [hp2] at P2 ⊢
  have hs3 : p0 < w3.heap.size := P0.lt
  have hRd : Reads w3 w3.heap.size 4 rA ms.length (dgCells ms) := Reads.of_own hR3
  have hR := later_below
  refine wp_region_later (X := [6, 7, 8]) hR (by kernel_rfl) ?_
  refine WK.pure hR (i := 1) (v := Value.pointer (some { block := p0, off := 0 })) rfl (by kernel_rfl) (by kernel_rfl) (by kernel_rfl) (fun _ _ _ h => h) (by kernel_rfl) (fun wz => by go_simp) ?_
  refine WK.frame (a' := { tmps := #[Value.agg #[Value.slice rA ms.length rc, Value.int IntKind.i64 last], Value.agg #[Value.int IntKind.i64 d.id, Value.string d.fr, Value.string d.to, Value.slice d.A d.n d.c], Value.pointer (some { block := p0, off := 0 }), Value.pointer (some { block := p1, off := 0 }), Value.pointer (some { block := p2, off := 0 }), Value.int IntKind.i64 0, Value.int IntKind.i64 0, Value.pointer (some { block := p0, off := 0 }), Value.slice rA ms.length rc, Value.int IntKind.i64 (ms.length : Int), Value.bool false, undef, Value.pointer (some { block := p0, off := 1 }), Value.int IntKind.i64 last, Value.int IntKind.i64 (last + 1), Value.pointer (some { block := p0, off := 1 }), Value.pointer (some { block := p0, off := 1 }), Value.int IntKind.i64 (last + 1), Value.pointer (some { block := p1, off := 0 }), undef, Value.pointer (some { block := p0, off := 0 }), undef, undef, undef, undef, undef, undef, undef, undef, undef], defers := [] }) (by kernel_rfl) ?_
  refine WK.take hR (i := 2) (v := Value.slice rA ms.length rc) rfl (by kernel_rfl) (by kernel_rfl) (by kernel_rfl) (by kernel_rfl) (fun _ _ _ h => h) (YK.run (by kernel_rfl) (fun wz hz => by have hcell := (hz.cell (p := ⟨p0, 0, none⟩) P0.lt).trans ((P0.cell 0).trans rfl); go_simp)) ?_
  refine WK.frame (a' := { tmps := #[Value.agg #[Value.slice rA ms.length rc, Value.int IntKind.i64 last], Value.agg #[Value.int IntKind.i64 d.id, Value.string d.fr, Value.string d.to, Value.slice d.A d.n d.c], Value.pointer (some { block := p0, off := 0 }), Value.pointer (some { block := p1, off := 0 }), Value.pointer (some { block := p2, off := 0 }), Value.int IntKind.i64 0, Value.int IntKind.i64 0, Value.pointer (some { block := p0, off := 0 }), Value.slice rA ms.length rc, Value.int IntKind.i64 (ms.length : Int), Value.bool false, undef, Value.pointer (some { block := p0, off := 1 }), Value.int IntKind.i64 last, Value.int IntKind.i64 (last + 1), Value.pointer (some { block := p0, off := 1 }), Value.pointer (some { block := p0, off := 1 }), Value.int IntKind.i64 (last + 1), Value.pointer (some { block := p1, off := 0 }), undef, Value.pointer (some { block := p0, off := 0 }), Value.slice rA ms.length rc, undef, undef, undef, undef, undef, undef, undef, undef], defers := [] }) (by kernel_rfl) ?_
  refine WK.take hR (i := 4) (v := Value.agg #[Value.int IntKind.i64 (last + 1), Value.string d.fr, Value.string d.to, Value.slice d.A d.n d.c]) rfl (by kernel_rfl) (by kernel_rfl) (by kernel_rfl) (by kernel_rfl) (fun _ _ _ h => h) (YK.run (by kernel_rfl) (fun wz hz => by obtain ⟨a0, a1, a2, a3, _, _, _, _⟩ := (P1.below hz P1.lt).four_facts; go_simp)) ?_
  refine WK.frame (a' := { tmps := #[Value.agg #[Value.slice rA ms.length rc, Value.int IntKind.i64 last], Value.agg #[Value.int IntKind.i64 d.id, Value.string d.fr, Value.string d.to, Value.slice d.A d.n d.c], Value.pointer (some { block := p0, off := 0 }), Value.pointer (some { block := p1, off := 0 }), Value.pointer (some { block := p2, off := 0 }), Value.int IntKind.i64 0, Value.int IntKind.i64 0, Value.pointer (some { block := p0, off := 0 }), Value.slice rA ms.length rc, Value.int IntKind.i64 (ms.length : Int), Value.bool false, undef, Value.pointer (some { block := p0, off := 1 }), Value.int IntKind.i64 last, Value.int IntKind.i64 (last + 1), Value.pointer (some { block := p0, off := 1 }), Value.pointer (some { block := p0, off := 1 }), Value.int IntKind.i64 (last + 1), Value.pointer (some { block := p1, off := 0 }), undef, Value.pointer (some { block := p0, off := 0 }), Value.slice rA ms.length rc, undef, Value.agg #[Value.int IntKind.i64 (last + 1), Value.string d.fr, Value.string d.to, Value.slice d.A d.n d.c], undef, undef, undef, undef, undef, undef], defers := [] }) (by kernel_rfl) ?_
  have hbw3 : Below w3.heap.size w3 w3 := Below.refl _ _
  refine WK.each (rs := [0, 5]) (by kernel_rfl) (by simp) (fun x1 hx1 i hi => ?_)
  simp only [List.mem_cons, List.not_mem_nil, or_false] at hi
  have hbx1 : Below w3.heap.size w3 x1 := hbw3.trans (hx1.mono hbw3.size)
  rcases hi with rfl | rfl
  · refine wpOp_makes (v := Value.slice (some { block := x1.heap.size, off := 0 }) 0 0) (w2 := x1.alloc (.cells #[] 49)) rfl (by kernel_rfl) (by go_simp; first | done | rfl) ⟨.inr ((Below.refl _ x1).alloc (Nat.le_refl _) _), ?_⟩
    have KAy2 := Blk.new x1 49 #[]
    have hby2 : Below w3.heap.size w3 (x1.alloc (.cells #[] 49)) := hbx1.alloc hbx1.size _
    obtain ⟨ga, hga⟩ : ∃ ga, x1.heap.size = ga := ⟨_, rfl⟩
    have hgs : w3.heap.size ≤ ga := hga ▸ hbx1.size
    rw [hga] at KAy2 ⊢
    have hstp : Below x1.heap.size x1 (x1.alloc (.cells #[] 49)) := (Below.refl _ x1).alloc (Nat.le_refl _) _
    generalize x1.alloc (.cells #[] 49) = y2 at *
    refine WK.frame (a' := { tmps := #[Value.agg #[Value.slice rA ms.length rc, Value.int IntKind.i64 last], Value.agg #[Value.int IntKind.i64 d.id, Value.string d.fr, Value.string d.to, Value.slice d.A d.n d.c], Value.pointer (some { block := p0, off := 0 }), Value.pointer (some { block := p1, off := 0 }), Value.pointer (some { block := p2, off := 0 }), Value.int IntKind.i64 0, Value.int IntKind.i64 0, Value.pointer (some { block := p0, off := 0 }), Value.slice rA ms.length rc, Value.int IntKind.i64 (ms.length : Int), Value.bool false, undef, Value.pointer (some { block := p0, off := 1 }), Value.int IntKind.i64 last, Value.int IntKind.i64 (last + 1), Value.pointer (some { block := p0, off := 1 }), Value.pointer (some { block := p0, off := 1 }), Value.int IntKind.i64 (last + 1), Value.pointer (some { block := p1, off := 0 }), Value.slice (some { block := ga, off := 0 }) 0 0, Value.pointer (some { block := p0, off := 0 }), Value.slice rA ms.length rc, undef, Value.agg #[Value.int IntKind.i64 (last + 1), Value.string d.fr, Value.string d.to, Value.slice d.A d.n d.c], undef, undef, undef, undef, undef, undef], defers := [] }) (by kernel_rfl) ?_
    refine WK.each (rs := [3, 5]) (by kernel_rfl) (by simp) (fun x3 hx3 i hi => ?_)
    simp only [List.mem_cons, List.not_mem_nil, or_false] at hi
    have hbx3 : Below w3.heap.size w3 x3 := hby2.trans (hx3.mono hby2.size)
    have KAx3 := KAy2.below hx3 KAy2.lt
    rcases hi with rfl | rfl
    · obtain ⟨v7, y4, hrun, ho7, hstep⟩ := append_fresh (P := Try.prog) x3 w3.heap.size ga 42 42 49 i0 _ 4 64 Try.underlying42 ii hz0 hz1 hz2 rfl (by decide) KAx3 hgs hbx3.size w3.heap.size rA ms.length rc (dgCells ms) (hRd.below hbx3) (dg_one ms) (by unfold maxLen; omega) (by omega)
      refine wpOp_list rfl (by kernel_rfl) (wp_append_run x3 (.tmp 19) (.tmp 21) 42 rfl _ _ _ _ rfl rfl hrun ?_)
      refine ⟨.inr hstep, ?_⟩
      have hby4 : Below w3.heap.size w3 y4 := hbx3.trans (hstep.mono hbx3.size)
      obtain ⟨a7, c7, rfl⟩ := own_form ho7
      have hstp := hstep
      clear hrun hstep
      refine WK.frame (a' := { tmps := #[Value.agg #[Value.slice rA ms.length rc, Value.int IntKind.i64 last], Value.agg #[Value.int IntKind.i64 d.id, Value.string d.fr, Value.string d.to, Value.slice d.A d.n d.c], Value.pointer (some { block := p0, off := 0 }), Value.pointer (some { block := p1, off := 0 }), Value.pointer (some { block := p2, off := 0 }), Value.int IntKind.i64 0, Value.int IntKind.i64 0, Value.pointer (some { block := p0, off := 0 }), Value.slice rA ms.length rc, Value.int IntKind.i64 (ms.length : Int), Value.bool false, undef, Value.pointer (some { block := p0, off := 1 }), Value.int IntKind.i64 last, Value.int IntKind.i64 (last + 1), Value.pointer (some { block := p0, off := 1 }), Value.pointer (some { block := p0, off := 1 }), Value.int IntKind.i64 (last + 1), Value.pointer (some { block := p1, off := 0 }), Value.slice (some { block := ga, off := 0 }) 0 0, Value.pointer (some { block := p0, off := 0 }), Value.slice rA ms.length rc, Value.slice a7 ms.length c7, Value.agg #[Value.int IntKind.i64 (last + 1), Value.string d.fr, Value.string d.to, Value.slice d.A d.n d.c], undef, undef, undef, undef, undef, undef], defers := [] }) (by kernel_rfl) ?_
      have hoy4 := ho7
      clear ho7
      refine WK.each (rs := [5]) (by kernel_rfl) (by simp) (fun x5 hx5 i hi => ?_)
      simp only [List.mem_cons, List.not_mem_nil, or_false] at hi
      have hbx5 : Below w3.heap.size w3 x5 := hby4.trans (hx5.mono hby4.size)
      have hox5 := own_below hoy4 hx5
      subst hi
      refine wpOp_makes (v := Value.slice (some { block := x5.heap.size, off := 0 }) 1 1) (w2 := x5.alloc (.cells #[Value.int IntKind.i64 (last + 1), Value.string d.fr, Value.string d.to, Value.slice d.A d.n d.c] 49)) rfl (by kernel_rfl) (by go_simp; first | done | rfl) ⟨.inr ((Below.refl _ x5).alloc (Nat.le_refl _) _), ?_⟩
      have KBy6 : Blk (x5.alloc (.cells #[Value.int IntKind.i64 (last + 1), Value.string d.fr, Value.string d.to, Value.slice d.A d.n d.c] 49)) x5.heap.size 49 #[Value.int IntKind.i64 (last + 1), Value.string d.fr, Value.string d.to, Value.slice d.A d.n d.c] := Blk.new x5 49 _
      have hby6 : Below w3.heap.size w3 (x5.alloc (.cells #[Value.int IntKind.i64 (last + 1), Value.string d.fr, Value.string d.to, Value.slice d.A d.n d.c] 49)) := hbx5.alloc hbx5.size _
      obtain ⟨gb, hgb⟩ : ∃ gb, x5.heap.size = gb := ⟨_, rfl⟩
      rw [hgb] at KBy6 ⊢
      have hstp : Below x5.heap.size x5 (x5.alloc (.cells #[Value.int IntKind.i64 (last + 1), Value.string d.fr, Value.string d.to, Value.slice d.A d.n d.c] 49)) := (Below.refl _ x5).alloc (Nat.le_refl _) _
      generalize x5.alloc (.cells #[Value.int IntKind.i64 (last + 1), Value.string d.fr, Value.string d.to, Value.slice d.A d.n d.c] 49) = y6 at *
      refine WK.frame (a' := { tmps := #[Value.agg #[Value.slice rA ms.length rc, Value.int IntKind.i64 last], Value.agg #[Value.int IntKind.i64 d.id, Value.string d.fr, Value.string d.to, Value.slice d.A d.n d.c], Value.pointer (some { block := p0, off := 0 }), Value.pointer (some { block := p1, off := 0 }), Value.pointer (some { block := p2, off := 0 }), Value.int IntKind.i64 0, Value.int IntKind.i64 0, Value.pointer (some { block := p0, off := 0 }), Value.slice rA ms.length rc, Value.int IntKind.i64 (ms.length : Int), Value.bool false, undef, Value.pointer (some { block := p0, off := 1 }), Value.int IntKind.i64 last, Value.int IntKind.i64 (last + 1), Value.pointer (some { block := p0, off := 1 }), Value.pointer (some { block := p0, off := 1 }), Value.int IntKind.i64 (last + 1), Value.pointer (some { block := p1, off := 0 }), Value.slice (some { block := ga, off := 0 }) 0 0, Value.pointer (some { block := p0, off := 0 }), Value.slice rA ms.length rc, Value.slice a7 ms.length c7, Value.agg #[Value.int IntKind.i64 (last + 1), Value.string d.fr, Value.string d.to, Value.slice d.A d.n d.c], Value.slice (some { block := gb, off := 0 }) 1 1, undef, undef, undef, undef, undef], defers := [] }) (by kernel_rfl) ?_
      have hoy6 := own_below hox5 hstp
      refine WK.each (rs := [6]) (by kernel_rfl) (by simp) (fun x7 hx7 i hi => ?_)
      simp only [List.mem_cons, List.not_mem_nil, or_false] at hi
      subst hi
      have hbx7 : Below w3.heap.size w3 x7 := hby6.trans (hx7.mono hby6.size)
      have KBx7 := KBy6.below hx7 KBy6.lt
      have hox7 := own_below hoy6 hx7
      refine wpOp_list rfl (by kernel_rfl) (wp_append_own (P := Try.prog) x7 (.tmp 22) (.tmp 24) 42 rfl w3.heap.size 49 i0 _ 4 64 Try.underlying42 ii hz0 hz1 hz2 rfl (by decide) (Value.slice a7 ms.length c7) ms.length (dgCells ms) rfl hox7 ⟨gb, 0, none⟩ 1 1 [Value.int IntKind.i64 (last + 1), Value.string d.fr, Value.string d.to, Value.slice d.A d.n d.c] rfl rfl (blk_cells KBx7) (by simp [Value.oneCell']) (by unfold maxLen; omega) (by omega) hbx7.size ?_)
      intro v9 w9 ho9 hg9 _
      refine ⟨.inl (by simp), ?_⟩
      have hb9 : Below w3.heap.size w3 w9 := below_own hbx7 hox7 hg9 (Nat.le_refl _) hbx7.size
      obtain ⟨a9, c9, rfl⟩ := own_form ho9
      clear hg9 hox7 KBx7 hx7 hbx7
      refine WK.frame (a' := { tmps := #[Value.agg #[Value.slice rA ms.length rc, Value.int IntKind.i64 last], Value.agg #[Value.int IntKind.i64 d.id, Value.string d.fr, Value.string d.to, Value.slice d.A d.n d.c], Value.pointer (some { block := p0, off := 0 }), Value.pointer (some { block := p1, off := 0 }), Value.pointer (some { block := p2, off := 0 }), Value.int IntKind.i64 0, Value.int IntKind.i64 0, Value.pointer (some { block := p0, off := 0 }), Value.slice rA ms.length rc, Value.int IntKind.i64 (ms.length : Int), Value.bool false, undef, Value.pointer (some { block := p0, off := 1 }), Value.int IntKind.i64 last, Value.int IntKind.i64 (last + 1), Value.pointer (some { block := p0, off := 1 }), Value.pointer (some { block := p0, off := 1 }), Value.int IntKind.i64 (last + 1), Value.pointer (some { block := p1, off := 0 }), Value.slice (some { block := ga, off := 0 }) 0 0, Value.pointer (some { block := p0, off := 0 }), Value.slice rA ms.length rc, Value.slice a7 ms.length c7, Value.agg #[Value.int IntKind.i64 (last + 1), Value.string d.fr, Value.string d.to, Value.slice d.A d.n d.c], Value.slice (some { block := gb, off := 0 }) 1 1, Value.slice a9 (ms.length + 1) c9, undef, undef, undef, undef], defers := [] }) (by kernel_rfl) ?_
      refine WK.pure hR (i := 7) (v := Value.pointer (some { block := p0, off := 0 })) rfl (by kernel_rfl) (by kernel_rfl) (by kernel_rfl) (fun _ _ _ h => h) (by kernel_rfl) (fun wz => by go_simp) ?_
      refine WK.frame (a' := { tmps := #[Value.agg #[Value.slice rA ms.length rc, Value.int IntKind.i64 last], Value.agg #[Value.int IntKind.i64 d.id, Value.string d.fr, Value.string d.to, Value.slice d.A d.n d.c], Value.pointer (some { block := p0, off := 0 }), Value.pointer (some { block := p1, off := 0 }), Value.pointer (some { block := p2, off := 0 }), Value.int IntKind.i64 0, Value.int IntKind.i64 0, Value.pointer (some { block := p0, off := 0 }), Value.slice rA ms.length rc, Value.int IntKind.i64 (ms.length : Int), Value.bool false, undef, Value.pointer (some { block := p0, off := 1 }), Value.int IntKind.i64 last, Value.int IntKind.i64 (last + 1), Value.pointer (some { block := p0, off := 1 }), Value.pointer (some { block := p0, off := 1 }), Value.int IntKind.i64 (last + 1), Value.pointer (some { block := p1, off := 0 }), Value.slice (some { block := ga, off := 0 }) 0 0, Value.pointer (some { block := p0, off := 0 }), Value.slice rA ms.length rc, Value.slice a7 ms.length c7, Value.agg #[Value.int IntKind.i64 (last + 1), Value.string d.fr, Value.string d.to, Value.slice d.A d.n d.c], Value.slice (some { block := gb, off := 0 }) 1 1, Value.slice a9 (ms.length + 1) c9, Value.pointer (some { block := p0, off := 0 }), undef, undef, undef], defers := [] }) (by kernel_rfl) ?_
      refine WK.each (rs := [8]) (by kernel_rfl) (by simp) (fun z1 hz1 i hi => ?_)
      simp only [List.mem_cons, List.not_mem_nil, or_false] at hi
      subst hi
      have hbz1 : Below w3.heap.size w3 z1 := hb9.trans (hz1.mono hb9.size)
      have Q0 := P0.below hbz1 P0.lt
      have cz := (Q0.cell 0).trans rfl
      have fz := Q0.frozen 0
      have cz' : z1.cell? ⟨p0, 0, none⟩ = some (Value.slice rA ms.length rc) := (Q0.cell 0).trans rfl
      refine wpOp_skips (w2 := z1.setCell ⟨p0, 0, none⟩ (Value.slice a9 (ms.length + 1) c9)) rfl (by kernel_rfl) (by go_simp; first | done | rfl) ⟨.inl (by simp), ?_⟩
      refine WK.frame (a' := { tmps := #[Value.agg #[Value.slice rA ms.length rc, Value.int IntKind.i64 last], Value.agg #[Value.int IntKind.i64 d.id, Value.string d.fr, Value.string d.to, Value.slice d.A d.n d.c], Value.pointer (some { block := p0, off := 0 }), Value.pointer (some { block := p1, off := 0 }), Value.pointer (some { block := p2, off := 0 }), Value.int IntKind.i64 0, Value.int IntKind.i64 0, Value.pointer (some { block := p0, off := 0 }), Value.slice rA ms.length rc, Value.int IntKind.i64 (ms.length : Int), Value.bool false, undef, Value.pointer (some { block := p0, off := 1 }), Value.int IntKind.i64 last, Value.int IntKind.i64 (last + 1), Value.pointer (some { block := p0, off := 1 }), Value.pointer (some { block := p0, off := 1 }), Value.int IntKind.i64 (last + 1), Value.pointer (some { block := p1, off := 0 }), Value.slice (some { block := ga, off := 0 }) 0 0, Value.pointer (some { block := p0, off := 0 }), Value.slice rA ms.length rc, Value.slice a7 ms.length c7, Value.agg #[Value.int IntKind.i64 (last + 1), Value.string d.fr, Value.string d.to, Value.slice d.A d.n d.c], Value.slice (some { block := gb, off := 0 }) 1 1, Value.slice a9 (ms.length + 1) c9, Value.pointer (some { block := p0, off := 0 }), undef, undef, undef], defers := [] }) (by kernel_rfl) ?_
      have S0 := Lib.hid (Q0.set_ 0 (Value.slice a9 (ms.length + 1) c9))
      have S1 := Lib.hid ((P1.below hbz1 P1.lt).far (p := ⟨p0, 0, none⟩) (by show p1 ≠ p0; omega) (Value.slice a9 (ms.length + 1) c9))
      have S2 := Lib.hid ((P2.below hbz1 P2.lt).far (p := ⟨p0, 0, none⟩) (by show p2 ≠ p0; omega) (Value.slice a9 (ms.length + 1) c9))
      have SR := Lib.hid (ownsRow_set (p := ⟨p0, 0, none⟩) (own_below ho9 hz1) (fun e9 => by have := ((own_below ho9 hz1).lt _ e9).1; have h8 : w3.heap.size ≤ p0 := this; omega) (Value.slice a9 (ms.length + 1) c9))
      have SB := Lib.hid (show Below p0 w (z1.setCell ⟨p0, 0, none⟩ (Value.slice a9 (ms.length + 1) c9)) from (hB3.trans (hbz1.mono (by omega))).setCell (p := ⟨p0, 0, none⟩) (Nat.le_refl _) _)
      generalize z1.setCell ⟨p0, 0, none⟩ (Value.slice a9 (ms.length + 1) c9) = z2 at *
      refine WK.done (by kernel_rfl) (fun wz hz => ?_)
      have SS0 := S0.out.below hz S0.out.lt
      have SS1 := S1.out.below hz S1.out.lt
      have SS2 := S2.out.below hz S2.out.lt
      have SSR := Lib.hid (own_below SR.out hz)
      have SSB := Lib.hid (SB.out.trans (hz.mono (by have := SB.out.size; omega)))
      have hsp2 : p2 < wz.heap.size := SS2.lt
      obtain ⟨c0, c1, _, _⟩ := two_facts SS0
      obtain ⟨z0, z1, g0, g1⟩ := two_facts SS2
      obtain ⟨d0, _, _, _, _, _, _, _⟩ := SS1.four_facts
      have SQ := Lib.hid SS2
      clear SS0 SS1 SS2 hz S0 S1 S2 SR SB
      go_wp2_with fail
      go_region
      have SD : Blk wz.drew p2 44 #[.slice none 0 0, .int .i64 0] := SQ.out
      have SE : wz.drew.ownsRow w3.heap.size 49 4 (.slice a9 (ms.length + 1) c9) (ms.length + 1) (dgCells ms ++ [.int .i64 (last + 1), .string d.fr, .string d.to, .slice d.A d.n d.c]) := SSR.out
      go_wp2_with fail
      refine ret_ctt rfl rfl rfl (((SD.set_ 0 _).set_ 1 _).range (l := [.slice a9 (ms.length + 1) c9, .int .i64 (last + 1)])) Try.underlying44 rfl (by kernel_rfl) ⟨_, rfl, ?_, by rw [hp0]; exact ((SSB.out.drew).setCell (p := ⟨p2, 0, none⟩) (by show p0 ≤ p2; omega) _).setCell (p := ⟨p2, 1, none⟩) (by show p0 ≤ p2; omega) _⟩
      unfold RNew
      rw [dgCells_append, List.length_append]
      exact ownsRow_more (ownsRow_set (p := ⟨p2, 1, none⟩) (ownsRow_set (p := ⟨p2, 0, none⟩) SE (own_blk_ne SE SD (by decide)) _) (own_blk_ne SE SD (by decide)) _) (by omega)
    · refine wpOp_makes (v := Value.slice (some { block := x3.heap.size, off := 0 }) 1 1) (w2 := x3.alloc (.cells #[Value.int IntKind.i64 (last + 1), Value.string d.fr, Value.string d.to, Value.slice d.A d.n d.c] 49)) rfl (by kernel_rfl) (by go_simp; first | done | rfl) ⟨.inr ((Below.refl _ x3).alloc (Nat.le_refl _) _), ?_⟩
      have KBy8 : Blk (x3.alloc (.cells #[Value.int IntKind.i64 (last + 1), Value.string d.fr, Value.string d.to, Value.slice d.A d.n d.c] 49)) x3.heap.size 49 #[Value.int IntKind.i64 (last + 1), Value.string d.fr, Value.string d.to, Value.slice d.A d.n d.c] := Blk.new x3 49 _
      have hby8 : Below w3.heap.size w3 (x3.alloc (.cells #[Value.int IntKind.i64 (last + 1), Value.string d.fr, Value.string d.to, Value.slice d.A d.n d.c] 49)) := hbx3.alloc hbx3.size _
      obtain ⟨gb, hgb⟩ : ∃ gb, x3.heap.size = gb := ⟨_, rfl⟩
      rw [hgb] at KBy8 ⊢
      have hstp : Below x3.heap.size x3 (x3.alloc (.cells #[Value.int IntKind.i64 (last + 1), Value.string d.fr, Value.string d.to, Value.slice d.A d.n d.c] 49)) := (Below.refl _ x3).alloc (Nat.le_refl _) _
      generalize x3.alloc (.cells #[Value.int IntKind.i64 (last + 1), Value.string d.fr, Value.string d.to, Value.slice d.A d.n d.c] 49) = y8 at *
      refine WK.frame (a' := { tmps := #[Value.agg #[Value.slice rA ms.length rc, Value.int IntKind.i64 last], Value.agg #[Value.int IntKind.i64 d.id, Value.string d.fr, Value.string d.to, Value.slice d.A d.n d.c], Value.pointer (some { block := p0, off := 0 }), Value.pointer (some { block := p1, off := 0 }), Value.pointer (some { block := p2, off := 0 }), Value.int IntKind.i64 0, Value.int IntKind.i64 0, Value.pointer (some { block := p0, off := 0 }), Value.slice rA ms.length rc, Value.int IntKind.i64 (ms.length : Int), Value.bool false, undef, Value.pointer (some { block := p0, off := 1 }), Value.int IntKind.i64 last, Value.int IntKind.i64 (last + 1), Value.pointer (some { block := p0, off := 1 }), Value.pointer (some { block := p0, off := 1 }), Value.int IntKind.i64 (last + 1), Value.pointer (some { block := p1, off := 0 }), Value.slice (some { block := ga, off := 0 }) 0 0, Value.pointer (some { block := p0, off := 0 }), Value.slice rA ms.length rc, undef, Value.agg #[Value.int IntKind.i64 (last + 1), Value.string d.fr, Value.string d.to, Value.slice d.A d.n d.c], Value.slice (some { block := gb, off := 0 }) 1 1, undef, undef, undef, undef, undef], defers := [] }) (by kernel_rfl) ?_
      have KAy8 : Blk y8 ga 49 #[] := KAx3.below hstp KAx3.lt
      refine WK.each (rs := [3]) (by kernel_rfl) (by simp) (fun x9 hx9 i hi => ?_)
      simp only [List.mem_cons, List.not_mem_nil, or_false] at hi
      have hbx9 : Below w3.heap.size w3 x9 := hby8.trans (hx9.mono hby8.size)
      have KAx9 := KAy8.below hx9 KAy8.lt
      have KBx9 := KBy8.below hx9 KBy8.lt
      subst hi
      obtain ⟨v7, y10, hrun, ho7, hstep⟩ := append_fresh (P := Try.prog) x9 w3.heap.size ga 42 42 49 i0 _ 4 64 Try.underlying42 ii hz0 hz1 hz2 rfl (by decide) KAx9 hgs hbx9.size w3.heap.size rA ms.length rc (dgCells ms) (hRd.below hbx9) (dg_one ms) (by unfold maxLen; omega) (by omega)
      refine wpOp_list rfl (by kernel_rfl) (wp_append_run x9 (.tmp 19) (.tmp 21) 42 rfl _ _ _ _ rfl rfl hrun ?_)
      refine ⟨.inr hstep, ?_⟩
      have hby10 : Below w3.heap.size w3 y10 := hbx9.trans (hstep.mono hbx9.size)
      obtain ⟨a7, c7, rfl⟩ := own_form ho7
      have hstp := hstep
      clear hrun hstep
      refine WK.frame (a' := { tmps := #[Value.agg #[Value.slice rA ms.length rc, Value.int IntKind.i64 last], Value.agg #[Value.int IntKind.i64 d.id, Value.string d.fr, Value.string d.to, Value.slice d.A d.n d.c], Value.pointer (some { block := p0, off := 0 }), Value.pointer (some { block := p1, off := 0 }), Value.pointer (some { block := p2, off := 0 }), Value.int IntKind.i64 0, Value.int IntKind.i64 0, Value.pointer (some { block := p0, off := 0 }), Value.slice rA ms.length rc, Value.int IntKind.i64 (ms.length : Int), Value.bool false, undef, Value.pointer (some { block := p0, off := 1 }), Value.int IntKind.i64 last, Value.int IntKind.i64 (last + 1), Value.pointer (some { block := p0, off := 1 }), Value.pointer (some { block := p0, off := 1 }), Value.int IntKind.i64 (last + 1), Value.pointer (some { block := p1, off := 0 }), Value.slice (some { block := ga, off := 0 }) 0 0, Value.pointer (some { block := p0, off := 0 }), Value.slice rA ms.length rc, Value.slice a7 ms.length c7, Value.agg #[Value.int IntKind.i64 (last + 1), Value.string d.fr, Value.string d.to, Value.slice d.A d.n d.c], Value.slice (some { block := gb, off := 0 }) 1 1, undef, undef, undef, undef, undef], defers := [] }) (by kernel_rfl) ?_
      have hoy10 := ho7
      clear ho7
      have KBy10 : Blk y10 gb 49 #[Value.int IntKind.i64 (last + 1), Value.string d.fr, Value.string d.to, Value.slice d.A d.n d.c] := KBx9.below hstp KBx9.lt
      refine WK.each (rs := [6]) (by kernel_rfl) (by simp) (fun x11 hx11 i hi => ?_)
      simp only [List.mem_cons, List.not_mem_nil, or_false] at hi
      subst hi
      have hbx11 : Below w3.heap.size w3 x11 := hby10.trans (hx11.mono hby10.size)
      have KBx11 := KBy10.below hx11 KBy10.lt
      have hox11 := own_below hoy10 hx11
      refine wpOp_list rfl (by kernel_rfl) (wp_append_own (P := Try.prog) x11 (.tmp 22) (.tmp 24) 42 rfl w3.heap.size 49 i0 _ 4 64 Try.underlying42 ii hz0 hz1 hz2 rfl (by decide) (Value.slice a7 ms.length c7) ms.length (dgCells ms) rfl hox11 ⟨gb, 0, none⟩ 1 1 [Value.int IntKind.i64 (last + 1), Value.string d.fr, Value.string d.to, Value.slice d.A d.n d.c] rfl rfl (blk_cells KBx11) (by simp [Value.oneCell']) (by unfold maxLen; omega) (by omega) hbx11.size ?_)
      intro v9 w9 ho9 hg9 _
      refine ⟨.inl (by simp), ?_⟩
      have hb9 : Below w3.heap.size w3 w9 := below_own hbx11 hox11 hg9 (Nat.le_refl _) hbx11.size
      obtain ⟨a9, c9, rfl⟩ := own_form ho9
      clear hg9 hox11 KBx11 hx11 hbx11
      refine WK.frame (a' := { tmps := #[Value.agg #[Value.slice rA ms.length rc, Value.int IntKind.i64 last], Value.agg #[Value.int IntKind.i64 d.id, Value.string d.fr, Value.string d.to, Value.slice d.A d.n d.c], Value.pointer (some { block := p0, off := 0 }), Value.pointer (some { block := p1, off := 0 }), Value.pointer (some { block := p2, off := 0 }), Value.int IntKind.i64 0, Value.int IntKind.i64 0, Value.pointer (some { block := p0, off := 0 }), Value.slice rA ms.length rc, Value.int IntKind.i64 (ms.length : Int), Value.bool false, undef, Value.pointer (some { block := p0, off := 1 }), Value.int IntKind.i64 last, Value.int IntKind.i64 (last + 1), Value.pointer (some { block := p0, off := 1 }), Value.pointer (some { block := p0, off := 1 }), Value.int IntKind.i64 (last + 1), Value.pointer (some { block := p1, off := 0 }), Value.slice (some { block := ga, off := 0 }) 0 0, Value.pointer (some { block := p0, off := 0 }), Value.slice rA ms.length rc, Value.slice a7 ms.length c7, Value.agg #[Value.int IntKind.i64 (last + 1), Value.string d.fr, Value.string d.to, Value.slice d.A d.n d.c], Value.slice (some { block := gb, off := 0 }) 1 1, Value.slice a9 (ms.length + 1) c9, undef, undef, undef, undef], defers := [] }) (by kernel_rfl) ?_
      refine WK.pure hR (i := 7) (v := Value.pointer (some { block := p0, off := 0 })) rfl (by kernel_rfl) (by kernel_rfl) (by kernel_rfl) (fun _ _ _ h => h) (by kernel_rfl) (fun wz => by go_simp) ?_
      refine WK.frame (a' := { tmps := #[Value.agg #[Value.slice rA ms.length rc, Value.int IntKind.i64 last], Value.agg #[Value.int IntKind.i64 d.id, Value.string d.fr, Value.string d.to, Value.slice d.A d.n d.c], Value.pointer (some { block := p0, off := 0 }), Value.pointer (some { block := p1, off := 0 }), Value.pointer (some { block := p2, off := 0 }), Value.int IntKind.i64 0, Value.int IntKind.i64 0, Value.pointer (some { block := p0, off := 0 }), Value.slice rA ms.length rc, Value.int IntKind.i64 (ms.length : Int), Value.bool false, undef, Value.pointer (some { block := p0, off := 1 }), Value.int IntKind.i64 last, Value.int IntKind.i64 (last + 1), Value.pointer (some { block := p0, off := 1 }), Value.pointer (some { block := p0, off := 1 }), Value.int IntKind.i64 (last + 1), Value.pointer (some { block := p1, off := 0 }), Value.slice (some { block := ga, off := 0 }) 0 0, Value.pointer (some { block := p0, off := 0 }), Value.slice rA ms.length rc, Value.slice a7 ms.length c7, Value.agg #[Value.int IntKind.i64 (last + 1), Value.string d.fr, Value.string d.to, Value.slice d.A d.n d.c], Value.slice (some { block := gb, off := 0 }) 1 1, Value.slice a9 (ms.length + 1) c9, Value.pointer (some { block := p0, off := 0 }), undef, undef, undef], defers := [] }) (by kernel_rfl) ?_
      refine WK.each (rs := [8]) (by kernel_rfl) (by simp) (fun z1 hz1 i hi => ?_)
      simp only [List.mem_cons, List.not_mem_nil, or_false] at hi
      subst hi
      have hbz1 : Below w3.heap.size w3 z1 := hb9.trans (hz1.mono hb9.size)
      have Q0 := P0.below hbz1 P0.lt
      have cz := (Q0.cell 0).trans rfl
      have fz := Q0.frozen 0
      have cz' : z1.cell? ⟨p0, 0, none⟩ = some (Value.slice rA ms.length rc) := (Q0.cell 0).trans rfl
      refine wpOp_skips (w2 := z1.setCell ⟨p0, 0, none⟩ (Value.slice a9 (ms.length + 1) c9)) rfl (by kernel_rfl) (by go_simp; first | done | rfl) ⟨.inl (by simp), ?_⟩
      refine WK.frame (a' := { tmps := #[Value.agg #[Value.slice rA ms.length rc, Value.int IntKind.i64 last], Value.agg #[Value.int IntKind.i64 d.id, Value.string d.fr, Value.string d.to, Value.slice d.A d.n d.c], Value.pointer (some { block := p0, off := 0 }), Value.pointer (some { block := p1, off := 0 }), Value.pointer (some { block := p2, off := 0 }), Value.int IntKind.i64 0, Value.int IntKind.i64 0, Value.pointer (some { block := p0, off := 0 }), Value.slice rA ms.length rc, Value.int IntKind.i64 (ms.length : Int), Value.bool false, undef, Value.pointer (some { block := p0, off := 1 }), Value.int IntKind.i64 last, Value.int IntKind.i64 (last + 1), Value.pointer (some { block := p0, off := 1 }), Value.pointer (some { block := p0, off := 1 }), Value.int IntKind.i64 (last + 1), Value.pointer (some { block := p1, off := 0 }), Value.slice (some { block := ga, off := 0 }) 0 0, Value.pointer (some { block := p0, off := 0 }), Value.slice rA ms.length rc, Value.slice a7 ms.length c7, Value.agg #[Value.int IntKind.i64 (last + 1), Value.string d.fr, Value.string d.to, Value.slice d.A d.n d.c], Value.slice (some { block := gb, off := 0 }) 1 1, Value.slice a9 (ms.length + 1) c9, Value.pointer (some { block := p0, off := 0 }), undef, undef, undef], defers := [] }) (by kernel_rfl) ?_
      have S0 := Lib.hid (Q0.set_ 0 (Value.slice a9 (ms.length + 1) c9))
      have S1 := Lib.hid ((P1.below hbz1 P1.lt).far (p := ⟨p0, 0, none⟩) (by show p1 ≠ p0; omega) (Value.slice a9 (ms.length + 1) c9))
      have S2 := Lib.hid ((P2.below hbz1 P2.lt).far (p := ⟨p0, 0, none⟩) (by show p2 ≠ p0; omega) (Value.slice a9 (ms.length + 1) c9))
      have SR := Lib.hid (ownsRow_set (p := ⟨p0, 0, none⟩) (own_below ho9 hz1) (fun e9 => by have := ((own_below ho9 hz1).lt _ e9).1; have h8 : w3.heap.size ≤ p0 := this; omega) (Value.slice a9 (ms.length + 1) c9))
      have SB := Lib.hid (show Below p0 w (z1.setCell ⟨p0, 0, none⟩ (Value.slice a9 (ms.length + 1) c9)) from (hB3.trans (hbz1.mono (by omega))).setCell (p := ⟨p0, 0, none⟩) (Nat.le_refl _) _)
      generalize z1.setCell ⟨p0, 0, none⟩ (Value.slice a9 (ms.length + 1) c9) = z2 at *
      refine WK.done (by kernel_rfl) (fun wz hz => ?_)
      have SS0 := S0.out.below hz S0.out.lt
      have SS1 := S1.out.below hz S1.out.lt
      have SS2 := S2.out.below hz S2.out.lt
      have SSR := Lib.hid (own_below SR.out hz)
      have SSB := Lib.hid (SB.out.trans (hz.mono (by have := SB.out.size; omega)))
      have hsp2 : p2 < wz.heap.size := SS2.lt
      obtain ⟨c0, c1, _, _⟩ := two_facts SS0
      obtain ⟨z0, z1, g0, g1⟩ := two_facts SS2
      obtain ⟨d0, _, _, _, _, _, _, _⟩ := SS1.four_facts
      have SQ := Lib.hid SS2
      clear SS0 SS1 SS2 hz S0 S1 S2 SR SB
      go_wp2_with fail
      go_region
      have SD : Blk wz.drew p2 44 #[.slice none 0 0, .int .i64 0] := SQ.out
      have SE : wz.drew.ownsRow w3.heap.size 49 4 (.slice a9 (ms.length + 1) c9) (ms.length + 1) (dgCells ms ++ [.int .i64 (last + 1), .string d.fr, .string d.to, .slice d.A d.n d.c]) := SSR.out
      go_wp2_with fail
      refine ret_ctt rfl rfl rfl (((SD.set_ 0 _).set_ 1 _).range (l := [.slice a9 (ms.length + 1) c9, .int .i64 (last + 1)])) Try.underlying44 rfl (by kernel_rfl) ⟨_, rfl, ?_, by rw [hp0]; exact ((SSB.out.drew).setCell (p := ⟨p2, 0, none⟩) (by show p0 ≤ p2; omega) _).setCell (p := ⟨p2, 1, none⟩) (by show p0 ≤ p2; omega) _⟩
      unfold RNew
      rw [dgCells_append, List.length_append]
      exact ownsRow_more (ownsRow_set (p := ⟨p2, 1, none⟩) (ownsRow_set (p := ⟨p2, 0, none⟩) SE (own_blk_ne SE SD (by decide)) _) (own_blk_ne SE SD (by decide)) _) (by omega)
  · refine wpOp_makes (v := Value.slice (some { block := x1.heap.size, off := 0 }) 1 1) (w2 := x1.alloc (.cells #[Value.int IntKind.i64 (last + 1), Value.string d.fr, Value.string d.to, Value.slice d.A d.n d.c] 49)) rfl (by kernel_rfl) (by go_simp; first | done | rfl) ⟨.inr ((Below.refl _ x1).alloc (Nat.le_refl _) _), ?_⟩
    have KBy12 : Blk (x1.alloc (.cells #[Value.int IntKind.i64 (last + 1), Value.string d.fr, Value.string d.to, Value.slice d.A d.n d.c] 49)) x1.heap.size 49 #[Value.int IntKind.i64 (last + 1), Value.string d.fr, Value.string d.to, Value.slice d.A d.n d.c] := Blk.new x1 49 _
    have hby12 : Below w3.heap.size w3 (x1.alloc (.cells #[Value.int IntKind.i64 (last + 1), Value.string d.fr, Value.string d.to, Value.slice d.A d.n d.c] 49)) := hbx1.alloc hbx1.size _
    obtain ⟨gb, hgb⟩ : ∃ gb, x1.heap.size = gb := ⟨_, rfl⟩
    rw [hgb] at KBy12 ⊢
    have hstp : Below x1.heap.size x1 (x1.alloc (.cells #[Value.int IntKind.i64 (last + 1), Value.string d.fr, Value.string d.to, Value.slice d.A d.n d.c] 49)) := (Below.refl _ x1).alloc (Nat.le_refl _) _
    generalize x1.alloc (.cells #[Value.int IntKind.i64 (last + 1), Value.string d.fr, Value.string d.to, Value.slice d.A d.n d.c] 49) = y12 at *
    refine WK.frame (a' := { tmps := #[Value.agg #[Value.slice rA ms.length rc, Value.int IntKind.i64 last], Value.agg #[Value.int IntKind.i64 d.id, Value.string d.fr, Value.string d.to, Value.slice d.A d.n d.c], Value.pointer (some { block := p0, off := 0 }), Value.pointer (some { block := p1, off := 0 }), Value.pointer (some { block := p2, off := 0 }), Value.int IntKind.i64 0, Value.int IntKind.i64 0, Value.pointer (some { block := p0, off := 0 }), Value.slice rA ms.length rc, Value.int IntKind.i64 (ms.length : Int), Value.bool false, undef, Value.pointer (some { block := p0, off := 1 }), Value.int IntKind.i64 last, Value.int IntKind.i64 (last + 1), Value.pointer (some { block := p0, off := 1 }), Value.pointer (some { block := p0, off := 1 }), Value.int IntKind.i64 (last + 1), Value.pointer (some { block := p1, off := 0 }), undef, Value.pointer (some { block := p0, off := 0 }), Value.slice rA ms.length rc, undef, Value.agg #[Value.int IntKind.i64 (last + 1), Value.string d.fr, Value.string d.to, Value.slice d.A d.n d.c], Value.slice (some { block := gb, off := 0 }) 1 1, undef, undef, undef, undef, undef], defers := [] }) (by kernel_rfl) ?_
    refine WK.each (rs := [0]) (by kernel_rfl) (by simp) (fun x13 hx13 i hi => ?_)
    simp only [List.mem_cons, List.not_mem_nil, or_false] at hi
    have hbx13 : Below w3.heap.size w3 x13 := hby12.trans (hx13.mono hby12.size)
    have KBx13 := KBy12.below hx13 KBy12.lt
    subst hi
    refine wpOp_makes (v := Value.slice (some { block := x13.heap.size, off := 0 }) 0 0) (w2 := x13.alloc (.cells #[] 49)) rfl (by kernel_rfl) (by go_simp; first | done | rfl) ⟨.inr ((Below.refl _ x13).alloc (Nat.le_refl _) _), ?_⟩
    have KAy14 := Blk.new x13 49 #[]
    have hby14 : Below w3.heap.size w3 (x13.alloc (.cells #[] 49)) := hbx13.alloc hbx13.size _
    obtain ⟨ga, hga⟩ : ∃ ga, x13.heap.size = ga := ⟨_, rfl⟩
    have hgs : w3.heap.size ≤ ga := hga ▸ hbx13.size
    rw [hga] at KAy14 ⊢
    have hstp : Below x13.heap.size x13 (x13.alloc (.cells #[] 49)) := (Below.refl _ x13).alloc (Nat.le_refl _) _
    generalize x13.alloc (.cells #[] 49) = y14 at *
    refine WK.frame (a' := { tmps := #[Value.agg #[Value.slice rA ms.length rc, Value.int IntKind.i64 last], Value.agg #[Value.int IntKind.i64 d.id, Value.string d.fr, Value.string d.to, Value.slice d.A d.n d.c], Value.pointer (some { block := p0, off := 0 }), Value.pointer (some { block := p1, off := 0 }), Value.pointer (some { block := p2, off := 0 }), Value.int IntKind.i64 0, Value.int IntKind.i64 0, Value.pointer (some { block := p0, off := 0 }), Value.slice rA ms.length rc, Value.int IntKind.i64 (ms.length : Int), Value.bool false, undef, Value.pointer (some { block := p0, off := 1 }), Value.int IntKind.i64 last, Value.int IntKind.i64 (last + 1), Value.pointer (some { block := p0, off := 1 }), Value.pointer (some { block := p0, off := 1 }), Value.int IntKind.i64 (last + 1), Value.pointer (some { block := p1, off := 0 }), Value.slice (some { block := ga, off := 0 }) 0 0, Value.pointer (some { block := p0, off := 0 }), Value.slice rA ms.length rc, undef, Value.agg #[Value.int IntKind.i64 (last + 1), Value.string d.fr, Value.string d.to, Value.slice d.A d.n d.c], Value.slice (some { block := gb, off := 0 }) 1 1, undef, undef, undef, undef, undef], defers := [] }) (by kernel_rfl) ?_
    have KBy14 : Blk y14 gb 49 #[Value.int IntKind.i64 (last + 1), Value.string d.fr, Value.string d.to, Value.slice d.A d.n d.c] := KBx13.below hstp KBx13.lt
    refine WK.each (rs := [3]) (by kernel_rfl) (by simp) (fun x15 hx15 i hi => ?_)
    simp only [List.mem_cons, List.not_mem_nil, or_false] at hi
    have hbx15 : Below w3.heap.size w3 x15 := hby14.trans (hx15.mono hby14.size)
    have KAx15 := KAy14.below hx15 KAy14.lt
    have KBx15 := KBy14.below hx15 KBy14.lt
    subst hi
    obtain ⟨v7, y16, hrun, ho7, hstep⟩ := append_fresh (P := Try.prog) x15 w3.heap.size ga 42 42 49 i0 _ 4 64 Try.underlying42 ii hz0 hz1 hz2 rfl (by decide) KAx15 hgs hbx15.size w3.heap.size rA ms.length rc (dgCells ms) (hRd.below hbx15) (dg_one ms) (by unfold maxLen; omega) (by omega)
    refine wpOp_list rfl (by kernel_rfl) (wp_append_run x15 (.tmp 19) (.tmp 21) 42 rfl _ _ _ _ rfl rfl hrun ?_)
    refine ⟨.inr hstep, ?_⟩
    have hby16 : Below w3.heap.size w3 y16 := hbx15.trans (hstep.mono hbx15.size)
    obtain ⟨a7, c7, rfl⟩ := own_form ho7
    have hstp := hstep
    clear hrun hstep
    refine WK.frame (a' := { tmps := #[Value.agg #[Value.slice rA ms.length rc, Value.int IntKind.i64 last], Value.agg #[Value.int IntKind.i64 d.id, Value.string d.fr, Value.string d.to, Value.slice d.A d.n d.c], Value.pointer (some { block := p0, off := 0 }), Value.pointer (some { block := p1, off := 0 }), Value.pointer (some { block := p2, off := 0 }), Value.int IntKind.i64 0, Value.int IntKind.i64 0, Value.pointer (some { block := p0, off := 0 }), Value.slice rA ms.length rc, Value.int IntKind.i64 (ms.length : Int), Value.bool false, undef, Value.pointer (some { block := p0, off := 1 }), Value.int IntKind.i64 last, Value.int IntKind.i64 (last + 1), Value.pointer (some { block := p0, off := 1 }), Value.pointer (some { block := p0, off := 1 }), Value.int IntKind.i64 (last + 1), Value.pointer (some { block := p1, off := 0 }), Value.slice (some { block := ga, off := 0 }) 0 0, Value.pointer (some { block := p0, off := 0 }), Value.slice rA ms.length rc, Value.slice a7 ms.length c7, Value.agg #[Value.int IntKind.i64 (last + 1), Value.string d.fr, Value.string d.to, Value.slice d.A d.n d.c], Value.slice (some { block := gb, off := 0 }) 1 1, undef, undef, undef, undef, undef], defers := [] }) (by kernel_rfl) ?_
    have hoy16 := ho7
    clear ho7
    have KBy16 : Blk y16 gb 49 #[Value.int IntKind.i64 (last + 1), Value.string d.fr, Value.string d.to, Value.slice d.A d.n d.c] := KBx15.below hstp KBx15.lt
    refine WK.each (rs := [6]) (by kernel_rfl) (by simp) (fun x17 hx17 i hi => ?_)
    simp only [List.mem_cons, List.not_mem_nil, or_false] at hi
    subst hi
    have hbx17 : Below w3.heap.size w3 x17 := hby16.trans (hx17.mono hby16.size)
    have KBx17 := KBy16.below hx17 KBy16.lt
    have hox17 := own_below hoy16 hx17
    refine wpOp_list rfl (by kernel_rfl) (wp_append_own (P := Try.prog) x17 (.tmp 22) (.tmp 24) 42 rfl w3.heap.size 49 i0 _ 4 64 Try.underlying42 ii hz0 hz1 hz2 rfl (by decide) (Value.slice a7 ms.length c7) ms.length (dgCells ms) rfl hox17 ⟨gb, 0, none⟩ 1 1 [Value.int IntKind.i64 (last + 1), Value.string d.fr, Value.string d.to, Value.slice d.A d.n d.c] rfl rfl (blk_cells KBx17) (by simp [Value.oneCell']) (by unfold maxLen; omega) (by omega) hbx17.size ?_)
    intro v9 w9 ho9 hg9 _
    refine ⟨.inl (by simp), ?_⟩
    have hb9 : Below w3.heap.size w3 w9 := below_own hbx17 hox17 hg9 (Nat.le_refl _) hbx17.size
    obtain ⟨a9, c9, rfl⟩ := own_form ho9
    clear hg9 hox17 KBx17 hx17 hbx17
    refine WK.frame (a' := { tmps := #[Value.agg #[Value.slice rA ms.length rc, Value.int IntKind.i64 last], Value.agg #[Value.int IntKind.i64 d.id, Value.string d.fr, Value.string d.to, Value.slice d.A d.n d.c], Value.pointer (some { block := p0, off := 0 }), Value.pointer (some { block := p1, off := 0 }), Value.pointer (some { block := p2, off := 0 }), Value.int IntKind.i64 0, Value.int IntKind.i64 0, Value.pointer (some { block := p0, off := 0 }), Value.slice rA ms.length rc, Value.int IntKind.i64 (ms.length : Int), Value.bool false, undef, Value.pointer (some { block := p0, off := 1 }), Value.int IntKind.i64 last, Value.int IntKind.i64 (last + 1), Value.pointer (some { block := p0, off := 1 }), Value.pointer (some { block := p0, off := 1 }), Value.int IntKind.i64 (last + 1), Value.pointer (some { block := p1, off := 0 }), Value.slice (some { block := ga, off := 0 }) 0 0, Value.pointer (some { block := p0, off := 0 }), Value.slice rA ms.length rc, Value.slice a7 ms.length c7, Value.agg #[Value.int IntKind.i64 (last + 1), Value.string d.fr, Value.string d.to, Value.slice d.A d.n d.c], Value.slice (some { block := gb, off := 0 }) 1 1, Value.slice a9 (ms.length + 1) c9, undef, undef, undef, undef], defers := [] }) (by kernel_rfl) ?_
    refine WK.pure hR (i := 7) (v := Value.pointer (some { block := p0, off := 0 })) rfl (by kernel_rfl) (by kernel_rfl) (by kernel_rfl) (fun _ _ _ h => h) (by kernel_rfl) (fun wz => by go_simp) ?_
    refine WK.frame (a' := { tmps := #[Value.agg #[Value.slice rA ms.length rc, Value.int IntKind.i64 last], Value.agg #[Value.int IntKind.i64 d.id, Value.string d.fr, Value.string d.to, Value.slice d.A d.n d.c], Value.pointer (some { block := p0, off := 0 }), Value.pointer (some { block := p1, off := 0 }), Value.pointer (some { block := p2, off := 0 }), Value.int IntKind.i64 0, Value.int IntKind.i64 0, Value.pointer (some { block := p0, off := 0 }), Value.slice rA ms.length rc, Value.int IntKind.i64 (ms.length : Int), Value.bool false, undef, Value.pointer (some { block := p0, off := 1 }), Value.int IntKind.i64 last, Value.int IntKind.i64 (last + 1), Value.pointer (some { block := p0, off := 1 }), Value.pointer (some { block := p0, off := 1 }), Value.int IntKind.i64 (last + 1), Value.pointer (some { block := p1, off := 0 }), Value.slice (some { block := ga, off := 0 }) 0 0, Value.pointer (some { block := p0, off := 0 }), Value.slice rA ms.length rc, Value.slice a7 ms.length c7, Value.agg #[Value.int IntKind.i64 (last + 1), Value.string d.fr, Value.string d.to, Value.slice d.A d.n d.c], Value.slice (some { block := gb, off := 0 }) 1 1, Value.slice a9 (ms.length + 1) c9, Value.pointer (some { block := p0, off := 0 }), undef, undef, undef], defers := [] }) (by kernel_rfl) ?_
    refine WK.each (rs := [8]) (by kernel_rfl) (by simp) (fun z1 hz1 i hi => ?_)
    simp only [List.mem_cons, List.not_mem_nil, or_false] at hi
    subst hi
    have hbz1 : Below w3.heap.size w3 z1 := hb9.trans (hz1.mono hb9.size)
    have Q0 := P0.below hbz1 P0.lt
    have cz := (Q0.cell 0).trans rfl
    have fz := Q0.frozen 0
    have cz' : z1.cell? ⟨p0, 0, none⟩ = some (Value.slice rA ms.length rc) := (Q0.cell 0).trans rfl
    refine wpOp_skips (w2 := z1.setCell ⟨p0, 0, none⟩ (Value.slice a9 (ms.length + 1) c9)) rfl (by kernel_rfl) (by go_simp; first | done | rfl) ⟨.inl (by simp), ?_⟩
    refine WK.frame (a' := { tmps := #[Value.agg #[Value.slice rA ms.length rc, Value.int IntKind.i64 last], Value.agg #[Value.int IntKind.i64 d.id, Value.string d.fr, Value.string d.to, Value.slice d.A d.n d.c], Value.pointer (some { block := p0, off := 0 }), Value.pointer (some { block := p1, off := 0 }), Value.pointer (some { block := p2, off := 0 }), Value.int IntKind.i64 0, Value.int IntKind.i64 0, Value.pointer (some { block := p0, off := 0 }), Value.slice rA ms.length rc, Value.int IntKind.i64 (ms.length : Int), Value.bool false, undef, Value.pointer (some { block := p0, off := 1 }), Value.int IntKind.i64 last, Value.int IntKind.i64 (last + 1), Value.pointer (some { block := p0, off := 1 }), Value.pointer (some { block := p0, off := 1 }), Value.int IntKind.i64 (last + 1), Value.pointer (some { block := p1, off := 0 }), Value.slice (some { block := ga, off := 0 }) 0 0, Value.pointer (some { block := p0, off := 0 }), Value.slice rA ms.length rc, Value.slice a7 ms.length c7, Value.agg #[Value.int IntKind.i64 (last + 1), Value.string d.fr, Value.string d.to, Value.slice d.A d.n d.c], Value.slice (some { block := gb, off := 0 }) 1 1, Value.slice a9 (ms.length + 1) c9, Value.pointer (some { block := p0, off := 0 }), undef, undef, undef], defers := [] }) (by kernel_rfl) ?_
    have S0 := Lib.hid (Q0.set_ 0 (Value.slice a9 (ms.length + 1) c9))
    have S1 := Lib.hid ((P1.below hbz1 P1.lt).far (p := ⟨p0, 0, none⟩) (by show p1 ≠ p0; omega) (Value.slice a9 (ms.length + 1) c9))
    have S2 := Lib.hid ((P2.below hbz1 P2.lt).far (p := ⟨p0, 0, none⟩) (by show p2 ≠ p0; omega) (Value.slice a9 (ms.length + 1) c9))
    have SR := Lib.hid (ownsRow_set (p := ⟨p0, 0, none⟩) (own_below ho9 hz1) (fun e9 => by have := ((own_below ho9 hz1).lt _ e9).1; have h8 : w3.heap.size ≤ p0 := this; omega) (Value.slice a9 (ms.length + 1) c9))
    have SB := Lib.hid (show Below p0 w (z1.setCell ⟨p0, 0, none⟩ (Value.slice a9 (ms.length + 1) c9)) from (hB3.trans (hbz1.mono (by omega))).setCell (p := ⟨p0, 0, none⟩) (Nat.le_refl _) _)
    generalize z1.setCell ⟨p0, 0, none⟩ (Value.slice a9 (ms.length + 1) c9) = z2 at *
    refine WK.done (by kernel_rfl) (fun wz hz => ?_)
    have SS0 := S0.out.below hz S0.out.lt
    have SS1 := S1.out.below hz S1.out.lt
    have SS2 := S2.out.below hz S2.out.lt
    have SSR := Lib.hid (own_below SR.out hz)
    have SSB := Lib.hid (SB.out.trans (hz.mono (by have := SB.out.size; omega)))
    have hsp2 : p2 < wz.heap.size := SS2.lt
    obtain ⟨c0, c1, _, _⟩ := two_facts SS0
    obtain ⟨z0, z1, g0, g1⟩ := two_facts SS2
    obtain ⟨d0, _, _, _, _, _, _, _⟩ := SS1.four_facts
    have SQ := Lib.hid SS2
    clear SS0 SS1 SS2 hz S0 S1 S2 SR SB
    go_wp2_with fail
    go_region
    have SD : Blk wz.drew p2 44 #[.slice none 0 0, .int .i64 0] := SQ.out
    have SE : wz.drew.ownsRow w3.heap.size 49 4 (.slice a9 (ms.length + 1) c9) (ms.length + 1) (dgCells ms ++ [.int .i64 (last + 1), .string d.fr, .string d.to, .slice d.A d.n d.c]) := SSR.out
    go_wp2_with fail
    refine ret_ctt rfl rfl rfl (((SD.set_ 0 _).set_ 1 _).range (l := [.slice a9 (ms.length + 1) c9, .int .i64 (last + 1)])) Try.underlying44 rfl (by kernel_rfl) ⟨_, rfl, ?_, by rw [hp0]; exact ((SSB.out.drew).setCell (p := ⟨p2, 0, none⟩) (by show p0 ≤ p2; omega) _).setCell (p := ⟨p2, 1, none⟩) (by show p0 ≤ p2; omega) _⟩
    unfold RNew
    rw [dgCells_append, List.length_append]
    exact ownsRow_more (ownsRow_set (p := ⟨p2, 1, none⟩) (ownsRow_set (p := ⟨p2, 0, none⟩) SE (own_blk_ne SE SD (by decide)) _) (own_blk_ne SE SD (by decide)) _) (by omega)
end Go.Proofs.Ythgbgkpchchicaa
