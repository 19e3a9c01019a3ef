import Derived.Test.YthgbgkpchchicaaDel
import Derived.Test.YthgbgkpchchicaaChk
import Derived.Test.YthgbgkpchchicaaRes
namespace Go.Proofs.Ythgbgkpchchicaa
open Go.ChangeShapes Go.WideShapes Go.ChangeAt Go.RowKit
set_option linter.unusedVariables false
set_option linter.unusedSimpArgs false
def zdV : Value := .agg #[.int .i64 0, .string ⟨#[]⟩, .string ⟨#[]⟩, .slice none 0 0]
theorem neq62 (y : Value) (w : World) : (binOp .neq 28 (.iface 62 y) .nilIface).run Try.prog w = .ok (.bool true) w := by kernel_rfl
set_option maxRecDepth 100000 in
set_option maxHeartbeats 2000000 in
theorem take_out (g : Nat) (v : Value) (ds : List Dg) (last x : Int) (B : Nat) (w : World) (h : Net B w g v ds last) (hx : outB ds.length x = true) :
    Calls Try.prog 11 #[P1 g, .int .i64 x] w fun e w' => e = .returned (.tuple #[zdV, errV 10]) ∧ Below w.heap.size w w' := by
  have hb1 := (Below.refl _ w).alloc (Nat.le_refl _) (.cells #[.int .i64 0, .string ⟨#[]⟩, .string ⟨#[]⟩, .slice none 0 0] 32)
  have hb2 := hb1.alloc (by simp) (.cells #[.int .i64 x] 3)
  have hc := check_any g (w.heap.size + 1) v ds last [x] B _ (h.below hb2) (by have := Blk.new (w.alloc (.cells #[.int .i64 0, .string ⟨#[]⟩, .string ⟨#[]⟩, .slice none 0 0] 32)) 3 #[.int .i64 x]; simpa using this) (by simp)
  rw [show [x].any (outB ds.length) = true by simp [hx]] at hc
  have e10 : errV 10 = .iface 62 (.int .i64 10) := rfl
  simp only [↓reduceIte, e10] at hc
  rw [e10]
  clear e10
  have HP := Lib.hid (((Blk.new w 32 #[.int .i64 0, .string ⟨#[]⟩, .string ⟨#[]⟩, .slice none 0 0]).alloc (.cells #[.int .i64 x] 3)))
  have e2 := neq62
  have H2 := Lib.hid hb2
  clear h hx hb1 hb2
  unfold P1 at *
  go_enter Try.func11, Try.ntmps11
  go_wp2_with (go_at_call 26; refine hc.mono ?_; rintro _ w3 ⟨rfl, hb⟩; refine Hid.out ?_)
  refine Lib.hid ?_
  have P3 := HP.out.below hb HP.out.lt
  obtain ⟨c0, c1, c2, c3, f0, f1, f2, f3⟩ := P3.four_facts
  have H3 := Lib.hid (H2.out.trans (hb.mono H2.out.size))
  have HP3 := Lib.hid P3
  clear hb P3 HP H2 hc
  go_wp2_with fail
  refine ret_ct rfl rfl rfl (HP3.out.four _ _ _ _).range Try.underlying32 rfl (by kernel_rfl) ⟨rfl, Below.four H3.out (Nat.le_refl _) _ _ _ _⟩
theorem take_nil (x : Int) (w : World) : Calls Try.prog 11 #[.pointer none, .int .i64 x] w fun e w' => e = .returned (.tuple #[zdV, errV 7]) ∧ Below w.heap.size w w' := by
  have hb1 := (Below.refl _ w).alloc (Nat.le_refl _) (.cells #[.int .i64 0, .string ⟨#[]⟩, .string ⟨#[]⟩, .slice none 0 0] 32)
  have hb2 := hb1.alloc (by simp) (.cells #[.int .i64 x] 3)
  have hc := check_nil (.slice (some ⟨w.heap.size + 1, 0, none⟩) 1 1) ((w.alloc (.cells #[.int .i64 0, .string ⟨#[]⟩, .string ⟨#[]⟩, .slice none 0 0] 32)).alloc (.cells #[.int .i64 x] 3))
  rw [show errV 7 = .iface 62 (.int .i64 7) from rfl] at hc ⊢
  have HP := Lib.hid (((Blk.new w 32 #[.int .i64 0, .string ⟨#[]⟩, .string ⟨#[]⟩, .slice none 0 0]).alloc (.cells #[.int .i64 x] 3)))
  have e2 := neq62
  have H2 := Lib.hid hb2
  clear hb1 hb2
  go_enter Try.func11, Try.ntmps11
  go_wp2_with (go_at_call 26; refine hc.mono ?_; rintro _ w3 ⟨rfl, hb⟩; refine Hid.out ?_)
  refine Lib.hid ?_
  have P3 := HP.out.below hb HP.out.lt
  obtain ⟨c0, c1, c2, c3, f0, f1, f2, f3⟩ := P3.four_facts
  have H3 := Lib.hid (H2.out.trans (hb.mono H2.out.size))
  have HP3 := Lib.hid P3
  clear hb P3 HP H2 hc
  go_wp2_with fail
  refine ret_ct rfl rfl rfl (HP3.out.four _ _ _ _).range Try.underlying32 rfl (by kernel_rfl) ⟨rfl, Below.four H3.out (Nat.le_refl _) _ _ _ _⟩
theorem Net.dg_cells {B g r c : Nat} {w : World} {ds : List Dg} {last : Int} {n i : Nat} {d : Dg} (h : Net B w g (.slice (some ⟨r, 0, none⟩) n c) ds last) (hi : ds[i]? = some d) :
    w.cell? ⟨r, i * 4, none⟩ = some (.int .i64 d.id) ∧ w.cell? ⟨r, i * 4 + 1, none⟩ = some (.string d.fr) ∧ w.cell? ⟨r, i * 4 + 2, none⟩ = some (.string d.to) ∧ w.cell? ⟨r, i * 4 + 3, none⟩ = some (.slice d.A d.n d.c) := by
  have hc := h.row.cells (g := r) rfl
  have get : ∀ k, k < 4 → ∀ u, d.cells[k]? = some u → w.cell? ⟨r, i * 4 + k, none⟩ = some u := fun k hk u hu => by
    have := hc (i * 4 + k) u ((dgCells_get hi hk).trans hu)
    rwa [add_none, Nat.zero_add] at this
  exact ⟨get 0 (by omega) _ rfl, get 1 (by omega) _ rfl, get 2 (by omega) _ rfl, get 3 (by omega) _ rfl⟩
theorem Net.form {B g : Nat} {w : World} {v : Value} {ds : List Dg} {last : Int} {i : Nat} {d : Dg} (h : Net B w g v ds last) (hi : ds[i]? = some d) : ∃ r c, v = .slice (some ⟨r, 0, none⟩) ds.length c ∧ ds.length ≤ c ∧ c ≤ maxLen := by
  have hlt := (List.getElem?_eq_some_iff.1 hi).1
  rcases h.row.2 with ⟨_, h0⟩ | ⟨r, c, cur, hv, _, _, h1, h2, _⟩
  · omega
  · exact ⟨r, c, hv, h1, h2⟩
theorem dg_one (ds : List Dg) : ∀ u ∈ dgCells ds, u.oneCell' = true := by
  intro u hu
  unfold dgCells at hu
  obtain ⟨d, _, hd⟩ := List.mem_flatMap.1 hu
  unfold Dg.cells at hd
  simp at hd
  rcases hd with rfl | rfl | rfl | rfl <;> rfl
theorem dgCells_erase : ∀ (ds : List Dg) (i : Nat), dgCells (ds.eraseIdx i) = (dgCells ds).take (i * 4) ++ (dgCells ds).drop ((i + 1) * 4)
  | [], i => by simp [dgCells]
  | d :: ds, 0 => by
    have h1 : List.drop 4 d.cells = [] := rfl
    rw [List.eraseIdx_zero, List.tail_cons, Nat.zero_mul, List.take_zero, List.nil_append]
    show _ = ((d :: ds).flatMap Dg.cells).drop 4
    rw [List.flatMap_cons, List.drop_append, h1, Dg.cells_len]
    rfl
  | d :: ds, i + 1 => by
    have ih := dgCells_erase ds i
    unfold dgCells at ih ⊢
    have h1 : List.take ((i + 1) * 4) d.cells = d.cells := List.take_of_length_le (by rw [Dg.cells_len]; omega)
    have h2 : List.drop ((i + 1 + 1) * 4) d.cells = [] := List.drop_of_length_le (by rw [Dg.cells_len]; omega)
    rw [List.eraseIdx_cons_succ, List.flatMap_cons, List.flatMap_cons, ih, List.take_append, List.drop_append, Dg.cells_len, h1, h2,
      show (i + 1) * 4 - 4 = i * 4 by omega, show (i + 1 + 1) * 4 - 4 = (i + 1) * 4 by omega]
    simp
theorem Net.only {B g p : Nat} {w w' : World} {v : Value} {ds : List Dg} {last : Int} {t : TypeId} {cs : Array Value} (h : Net B w g v ds last) (hg : w.grownBy w' (some p)) (hp : Blk w p t cs) (h1 : t ≠ 64) (h5 : t ≠ 5) (h2 : v.ownBlock ≠ some p) : Net B w' g v ds last :=
  ⟨h.hg, Nat.le_trans h.hB hg.size, h.blk.grown hg (fun e => by injection e with e; exact (hp.ne_ h.blk h1) e.symm), h.row.kept hg (.inr h2), fun d hd => ⟨(h.own d hd).1.kept hg (.inr (own_blk_ne (h.own d hd).1 hp (Ne.symm h5))), (h.own d hd).2⟩⟩
theorem Turn.only {g p : Nat} {v : Value} {a w w' : World} (h : Turn g v a w) (hg : w.grownBy w' (some p)) (hp : a.heap.size ≤ p) : Turn g v a w' :=
  ⟨hg.os.trans h.os, hg.tape.trans h.tape, hg.output.trans h.output, Nat.le_trans h.size hg.size, fun k hk h1 h2 => (hg.block k (Nat.lt_of_lt_of_le hk h.size) (fun e => by injection e with e; omega)).trans (h.block k hk h1 h2)⟩
theorem only_four (w : World) (p : Nat) (v0 v1 v2 v3 : Value) : w.grownBy ((((w.setCell ⟨p, 0, none⟩ v0).setCell ⟨p, 1, none⟩ v1).setCell ⟨p, 2, none⟩ v2).setCell ⟨p, 3, none⟩ v3) (some p) :=
  only_setCell (only_setCell (only_setCell (only_setCell (only_refl w p) (.inl rfl) _) (.inl rfl) _) (.inl rfl) _) (.inl rfl) _
theorem outB_in {len i : Nat} (h : i < len) : outB len i = false := by unfold outB; simp; omega
set_option maxRecDepth 100000 in
set_option maxHeartbeats 2000000 in
theorem take_in (g i : Nat) (v : Value) (ds : List Dg) (last : Int) (d : Dg) (B : Nat) (w : World) (h : Net B w g v ds last) (hi : ds[i]? = some d) (hlen : ds.length ≤ 1000) :
    Calls Try.prog 11 #[P1 g, .int .i64 i] w fun e w' => ∃ v', e = .returned (.tuple #[d.v, .nilIface]) ∧ Net B w' g v' (ds.eraseIdx i) last ∧ Turn g v w w' ∧ v'.ownBlock = v.ownBlock ∧ w.heap.size ≤ w'.heap.size := by
  obtain ⟨r, c, rfl, hc1, hc2⟩ := h.form hi
  have hil := (List.getElem?_eq_some_iff.1 hi).1
  have hb1 := (Below.refl _ w).alloc (Nat.le_refl _) (.cells #[.int .i64 0, .string ⟨#[]⟩, .string ⟨#[]⟩, .slice none 0 0] 32)
  have hb2 := hb1.alloc (by simp) (.cells #[.int .i64 i] 3)
  have hc := check_any g (w.heap.size + 1) _ ds last [(i : Int)] B _ (h.below hb2) (by have := Blk.new (w.alloc (.cells #[.int .i64 0, .string ⟨#[]⟩, .string ⟨#[]⟩, .slice none 0 0] 32)) 3 #[.int .i64 i]; simpa using this) (by simp)
  rw [show [(i : Int)].any (outB ds.length) = false by simp [outB_in hil]] at hc
  have e10 : errV 0 = .nilIface := rfl
  simp only [Bool.false_eq_true, ↓reduceIte, e10] at hc
  clear e10
  have HP := Lib.hid (((Blk.new w 32 #[.int .i64 0, .string ⟨#[]⟩, .string ⟨#[]⟩, .slice none 0 0]).alloc (.cells #[.int .i64 i] 3)))
  have H2 := Lib.hid hb2
  have H := Lib.hid h
  have HI := Lib.hid hi
  clear h hb1 hb2 hi
  unfold P1 at *
  go_enter Try.func11, Try.ntmps11
  go_wp2_with (go_at_call 26; refine hc.mono ?_; rintro _ w3 ⟨rfl, hb⟩; refine Hid.out ?_)
  refine Lib.hid ?_
  have H3 := Lib.hid (H2.out.trans (hb.mono H2.out.size))
  have HP3 := Lib.hid (HP.out.below hb HP.out.lt)
  have N3 := Lib.hid (H.out.below H3.out)
  obtain ⟨d0, d1, d2, d3⟩ := N3.out.dg_cells HI.out
  have c0 : w3.cell? ⟨g, 0, none⟩ = some (.slice (some ⟨r, 0, none⟩) ds.length c) := (N3.out.blk.cell 0).trans rfl
  have hii : (i : Int) < (ds.length : Int) := by omega
  unfold maxLen at hc2
  have hgl : g < w3.heap.size := N3.out.blk.lt
  have hb4 : Below w3.heap.size w3 (w3.alloc (.cells #[.int .i64 d.id, .string d.fr, .string d.to, .slice d.A d.n d.c] 32)) := (Below.refl _ w3).alloc (Nat.le_refl _) _
  have N4 := Lib.hid (N3.out.below hb4)
  have hdel := del_any r i c (dgCells ds) ds.length B _ N4.out.row (dg_one ds) hil
  have H4 := Lib.hid (H3.out.trans (hb4.mono H3.out.size))
  have HP4 := Lib.hid (HP3.out.below hb4 HP3.out.lt)
  have HD4 := Lib.hid (Blk.new w3 32 #[.int .i64 d.id, .string d.fr, .string d.to, .slice d.A d.n d.c])
  clear hb hc H2 HP HP3 hb4
  go_wp2_with (go_at_call 27; refine hdel.mono ?_; rintro _ w5 ⟨rfl, ho5, hg5⟩; refine Hid.out ?_)
  refine Lib.hid ?_
  have hr5 : some r = (Value.slice (some (⟨r, 0, none⟩ : Addr)) ds.length c).ownBlock := rfl
  have B5 : Blk w5 g 64 #[.slice (some ⟨r, 0, none⟩) ds.length c, .int .i64 last] := N4.out.blk.grown hg5 (fun e => N4.out.ne (hr5 ▸ e.symm))
  have hpr : w.heap.size ≠ r := fun e => by have := (H.out.row.lt r rfl).2; omega
  have hqr : w3.heap.size ≠ r := fun e => by have := (N3.out.row.lt r rfl).2; omega
  have P5 := HP4.out.grown hg5 (fun e => hpr (by injection e))
  have D5 := HD4.out.grown hg5 (fun e => hqr (by injection e))
  have c5 : w5.cell? ⟨g, 0, none⟩ = some (.slice (some ⟨r, 0, none⟩) ds.length c) := (B5.cell 0).trans rfl
  have g5 := B5.frozen 0
  have hpg : w.heap.size ≠ g := fun e => by have := H.out.blk.lt; omega
  have hqg : w3.heap.size ≠ g := fun e => by have := N3.out.blk.lt; omega
  have hlt5 := B5.lt
  have O5 : w5.ownsRow B 32 4 (.slice (some ⟨r, 0, none⟩) (ds.length - 1) c) (ds.eraseIdx i).length (dgCells (ds.eraseIdx i)) := by
    rw [List.length_eraseIdx_of_lt hil, dgCells_erase]
    exact ho5
  have W5 : ∀ e ∈ ds.eraseIdx i, BOwn B w5 e := fun e he => by
    have h9 := N4.out.own e (List.mem_of_mem_eraseIdx he)
    exact ⟨h9.1.kept hg5 (by rcases own_own_ne h9.1 N4.out.row (by decide) with h8 | h8; exact .inl h8; exact .inr h8), h9.2⟩
  have N6 := Lib.hid (Net.setRow H.out.hg (Nat.le_trans (Nat.le_trans H.out.hB H4.out.size) hg5.size) B5 O5 W5)
  have T5 : Turn g (.slice (some ⟨r, 0, none⟩) ds.length c) w w5 := (Turn.of_below H4.out).trans (Turn.of_grown (v := .slice (some ⟨r, 0, none⟩) ds.length c) hg5) (Moved.refl _ _)
  have T6 := Lib.hid (T5.trans (Turn.of_set g (.slice (some ⟨r, 0, none⟩) ds.length c) w5 0 (.slice (some ⟨r, 0, none⟩) (ds.length - 1) c)) (Moved.refl _ _))
  have HP6 := Lib.hid (P5.far (p := ⟨g, 0, none⟩) hpg (.slice (some ⟨r, 0, none⟩) (ds.length - 1) c))
  have HD6 := Lib.hid (D5.far (p := ⟨g, 0, none⟩) hqg (.slice (some ⟨r, 0, none⟩) (ds.length - 1) c))
  obtain ⟨p0, p1, p2, p3, pf0, pf1, pf2, pf3⟩ := HP6.out.four_facts
  obtain ⟨q0, q1, q2, q3, _, _, _, _⟩ := HD6.out.four_facts
  have hpr' := hpr
  clear P5 D5 O5 W5 T5 ho5 hg5 hdel hr5 hpr hqr B5 d0 d1 d2 d3 c0
  have hlt6 : w.heap.size < w5.heap.size := HP6.out.lt |> fun h => by simpa [World.setCell] using h
  have hlt7 : w3.heap.size < w5.heap.size := HD6.out.lt |> fun h => by simpa [World.setCell] using h
  have HPR := Lib.hid (show (Value.slice (some (⟨r, 0, none⟩ : Addr)) (ds.length - 1) c).ownBlock ≠ some w.heap.size from fun e => hpr' (by simpa [Value.ownBlock] using e.symm))
  clear hpr'
  go_wp2_with fail
  have G := only_four (w5.setCell ⟨g, 0, none⟩ (.slice (some ⟨r, 0, none⟩) (ds.length - 1) c)) w.heap.size (.int .i64 d.id) (.string d.fr) (.string d.to) (.slice d.A d.n d.c)
  refine ret_ct rfl rfl rfl (HP6.out.four _ _ _ _).range Try.underlying32 rfl (by kernel_rfl) ⟨.slice (some ⟨r, 0, none⟩) (ds.length - 1) c, rfl, N6.out.only G HP6.out (by decide) (by decide) HPR.out, T6.out.only G (Nat.le_refl _), rfl, (T6.out.only G (Nat.le_refl _)).size⟩
end Go.Proofs.Ythgbgkpchchicaa
