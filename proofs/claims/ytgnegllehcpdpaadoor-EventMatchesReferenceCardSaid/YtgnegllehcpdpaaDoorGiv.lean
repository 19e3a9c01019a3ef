import Derived.Test.YtgnegllehcpdpaaDoorFew
namespace Go.Proofs.YtgnegllehcpdpaaDoor
open Go.ChangeShapes Go.WideShapes Go.ChangeAt Go.RowKit
set_option linter.unusedVariables false
set_option linter.unusedSimpArgs false
theorem info29 : (Tryd.prog.info? 29).map (fun i => (i.zero, i.size, i.bytes)) = some (some (.agg #[.int .i64 0, .int .i64 0, .int .u64 0, .int .u64 0, .int .i64 0, .slice none 0 0, .string ByteArray.empty]), 7, 80) := by kernel_rfl
theorem news_ev (w : World) (t : TypeId) (e : Ev) : ∀ j u, e.cells[j]? = some u → (w.alloc (.cells #[.int .i64 e.kind, .int .i64 e.who, .int .u64 e.seq, .int .u64 e.tick, .int .i64 e.code, .slice e.A e.n e.c, .string e.ad] t)).cell? ((⟨w.heap.size, 0, none⟩ : Addr).add j) = some u := by
  intro j u hu
  rw [add_none, Nat.zero_add, Blk.cell (Blk.new w t _) j, ← Array.getElem?_toList]
  exact hu
theorem cells_one (e : Ev) : ∀ u ∈ e.cells, u.oneCell' = true := by
  intro u hu
  simp [Ev.cells] at hu
  rcases hu with rfl | rfl | rfl | rfl | rfl | rfl | rfl <;> rfl
theorem evCells_take (es : List Ev) (j : Nat) (e : Ev) (h : es[j]? = some e) : evCells (es.take (j + 1)) = evCells (es.take j) ++ e.cells := by
  unfold evCells
  rw [List.take_add_one, h, List.flatMap_append]
  simp
theorem evCells_snoc (es : List Ev) (e : Ev) : evCells (es ++ [e]) = evCells es ++ e.cells := by unfold evCells; rw [List.flatMap_append]; simp
theorem Evs.keep_ok {w w' : World} {A : Option Addr} {n : Nat} {es : List Ev} (h : Evs w A n es) (hb : Below w.heap.size w w') : ∀ e ∈ es, EvOk w' e := fun e he => (h.2.2 e he).below hb
set_option maxRecDepth 100000 in
set_option maxHeartbeats 4000000 in
theorem given_any (w : World) (A : Option Addr) (n cap : Nat) (es : List Ev) (h : Evs w A n es) (hn : n ≤ 1000) :
    Calls Tryd.prog 16 #[.slice A n cap] w fun r w' => (∃ A' c', r = .returned (.slice A' n c') ∧ Evs w' A' n es) ∧ Below w.heap.size w w' := by
  obtain ⟨i0, hi, hz0, hz1, hz2⟩ := info_parts info29
  have HL := Lib.hid h.2.1
  have H := Lib.hid h
  clear h
  go_enter Tryd.func16, Tryd.ntmps16
  go_wp2_with fail
  go_loopw [3, 4] (fun v i wr => ∃ (j : Nat), j ≤ n ∧ i = .int .i64 j ∧ wr.ownsRow w.heap.size 29 7 v j (evCells (es.take j)) ∧ Below w.heap.size w wr) (fun _ i _ => n - (intOf i).toNat)
  case atStart => exact ⟨0, by omega, rfl, by rw [List.take_zero]; exact ⟨rfl, .inl ⟨rfl, rfl⟩⟩, Below.refl _ _⟩
  case round =>
    obtain ⟨j, hj, rfl, hown, hbel⟩ := hrel
    have HO := Lib.hid hown
    have HB := Lib.hid hbel
    have hbs := hbel.size
    clear hown hbel
    obtain ⟨A', c', rfl⟩ := own_form HO.out
    by_cases h1 : j < n
    · have h1i : (j : Int) < (n : Int) := by omega
      obtain ⟨b, o, e, rfl, hb, hs, hok, hc⟩ := H.out.at_ h1
      obtain ⟨c0, c1, c2, c3, c4, c5, c6⟩ := hc.below HB.out hb
      have HX := Lib.hid hs
      clear hs hok hc hb
      go_wp2_with (at_builtin; refine wpList_append_own _ rfl _ _ 36 rfl w.heap.size 29 i0 _ 7 80 Tryd.underlying36 hi hz0 hz1 hz2 rfl (by decide) _ _ _ rfl (HO.out.alloc _) ⟨wr.heap.size, 0, none⟩ 1 1 e.cells rfl rfl (news_ev wr 29 e) (cells_one e) (by unfold maxLen; omega) (by omega) (by simp; omega) ?_; intro v7 w7 hown7 hg7 hx7; clear hx7)
      have hb7 := below_own (HB.out.alloc (by omega) _) (HO.out.alloc _) hg7 (by omega) (by simp; omega)
      have hown8 : w7.ownsRow w.heap.size 29 7 v7 (j + 1) (evCells (es.take (j + 1))) := by
        rw [evCells_take es j e HX.out]
        exact hown7
      have HO8 := Lib.hid hown8
      have HB8 := Lib.hid hb7
      clear hown7 hg7 hb7 hown8 c0 c1 c2 c3 c4 c5 c6
      go_wp2_with fail
      go_roundw
      case rel => exact ⟨j + 1, by omega, by go_num, HO8.out, HB8.out⟩
      case measure => simp [intOf]; omega
    · obtain rfl : j = n := by omega
      have hE : Evs wr A' j es := by
        have := HO.out
        rw [List.take_of_length_le (by rw [HL.out]; exact Nat.le_refl _)] at this
        exact Evs.of_own this (H.out.keep_ok HB.out)
      have HE := Lib.hid hE
      clear hE
      go_wp2_with fail
      go_ret
      exact ⟨⟨A', c', rfl, HE.out⟩, HB.out⟩
end Go.Proofs.YtgnegllehcpdpaaDoor
