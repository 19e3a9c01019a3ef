import Derived.Test.YtgnegllehcpdpaaDoorGiv
namespace Go.Proofs.YtgnegllehcpdpaaDoor
open Go.ChangeShapes Go.WideShapes Go.ChangeAt Go.RowKit
set_option linter.unusedVariables false
set_option linter.unusedSimpArgs false
theorem news_ev2 (w : World) (o : Obj) (t : TypeId) (e : Ev) : ∀ j u, e.cells[j]? = some u → ((w.alloc o).alloc (.cells #[.int .i64 e.kind, .int .i64 e.who, .int .u64 e.seq, .int .u64 e.tick, .int .i64 e.code, .slice e.A e.n e.c, .string e.ad] t)).cell? ((⟨w.heap.size + 1, 0, none⟩ : Addr).add j) = some u := by
  have := news_ev (w.alloc o) t e
  simpa using this
def chP (kind who : Int) (e : Ev) : Bool := decide (e.kind = kind ∧ e.who = who)
theorem filter_take {es : List Ev} {j : Nat} {e : Ev} {p : Ev → Bool} (h : es[j]? = some e) : (es.take (j + 1)).filter p = (es.take j).filter p ++ if p e then [e] else [] := by
  rw [List.take_add_one, h, List.filter_append]
  simp [List.filter_cons]
set_option maxRecDepth 100000 in
set_option maxHeartbeats 4000000 in
theorem choose_any (w : World) (A : Option Addr) (n cap : Nat) (es : List Ev) (kind who : Int) (h : Evs w A n es) (hn : n ≤ 1000) :
    Calls Tryd.prog 21 #[.slice A n cap, .int .i64 kind, .int .i64 who] w fun r w' => (∃ A' m c', r = .returned (.slice A' m c') ∧ m ≤ 1000 ∧ Evs w' A' m (es.filter (chP kind who))) ∧ Below w.heap.size w w' := by
  obtain ⟨i0, hi, hz0, hz1, hz2⟩ := info_parts info29
  have HL := Lib.hid h.2.1
  have H := Lib.hid h
  clear h
  go_enter Tryd.func21, Tryd.ntmps21
  go_wp2_with fail
  go_loopw [7, 12] (fun v i wr => ∃ (j m : Nat), j ≤ n ∧ m ≤ j ∧ i = .int .i64 j ∧ wr.ownsRow w.heap.size 29 7 v m (evCells ((es.take j).filter (chP kind who))) ∧ Below w.heap.size w wr) (fun _ i _ => n - (intOf i).toNat)
  case atStart => exact ⟨0, 0, by omega, by omega, rfl, by rw [List.take_zero]; exact ⟨rfl, .inl ⟨rfl, rfl⟩⟩, Below.refl _ _⟩
  case round =>
    obtain ⟨j, m, hj, hm, rfl, hown, hbel⟩ := hrel
    have HO := Lib.hid hown
    have HB := Lib.hid hbel
    have hbs := hbel.size
    clear hown hbel
    obtain ⟨A', c', rfl⟩ := own_form HO.out
    by_cases h1 : j < n
    · have h1i : (j : Int) < (n : Int) := by omega
      obtain ⟨b, o, e, rfl, hb, hs, hok, hc⟩ := H.out.at_ h1
      obtain ⟨c0, c1, c2, c3, c4, c5, c6⟩ := hc.below HB.out hb
      have HX := Lib.hid hs
      clear hs hok hc hb
      by_cases hk : e.kind = kind
      case neg =>
        have hb0 : (e.kind == kind) = false := by simp; exact hk
        have hp : chP kind who e = false := by simp [chP, hk]
        have HP := Lib.hid hp
        clear hk hp
        go_wp2_with fail
        go_roundw
        case rel => exact ⟨j + 1, m, by omega, by omega, by go_num, by rw [filter_take HX.out, HP.out]; simp only [Bool.false_eq_true, if_false, List.append_nil]; exact HO.out.alloc _, HB.out.alloc (by omega) _⟩
        case measure => simp [intOf]; omega
      by_cases hw : e.who = who
      case neg =>
        have hb0 : (e.who == who) = false := by simp; exact hw
        have hp : chP kind who e = false := by simp [chP, hw]
        have HP := Lib.hid hp
        subst hk
        clear hw hp
        go_wp2_with fail
        go_roundw
        case rel => exact ⟨j + 1, m, by omega, by omega, by go_num, by rw [filter_take HX.out, HP.out]; simp only [Bool.false_eq_true, if_false, List.append_nil]; exact HO.out.alloc _, HB.out.alloc (by omega) _⟩
        case measure => simp [intOf]; omega
      have hp : chP kind who e = true := by simp [chP, hk, hw]
      have HP := Lib.hid hp
      subst hk hw
      clear hp
      go_wp2_with (at_builtin; refine wpList_append_own _ rfl _ _ 36 rfl w.heap.size 29 i0 _ 7 80 Tryd.underlying36 hi hz0 hz1 hz2 rfl (by decide) _ _ _ rfl ((HO.out.alloc _).alloc _) ⟨wr.heap.size + 1, 0, none⟩ 1 1 e.cells rfl rfl (news_ev2 wr _ 29 e) (cells_one e) (by unfold maxLen; omega) (by omega) (by simp; omega) ?_; intro v7 w7 hown7 hg7 hx7; clear hx7)
      have hb7 := below_own ((HB.out.alloc (by omega) _).alloc (by simp; omega) _) ((HO.out.alloc _).alloc _) hg7 (by omega) (by simp; omega)
      have hown8 : w7.ownsRow w.heap.size 29 7 v7 (m + 1) (evCells ((es.take (j + 1)).filter (chP e.kind e.who))) := by
        rw [filter_take HX.out, HP.out]
        simp only [if_true]
        rw [evCells_snoc]
        exact hown7
      have HO8 := Lib.hid hown8
      have HB8 := Lib.hid hb7
      clear hown7 hg7 hb7 hown8 c0 c1 c2 c3 c4 c5 c6
      go_wp2_with fail
      go_roundw
      case rel => exact ⟨j + 1, m + 1, by omega, by omega, by go_num, HO8.out, HB8.out⟩
      case measure => simp [intOf]; omega
    · obtain rfl : j = n := by omega
      have hE : Evs wr A' m (es.filter (chP kind who)) := by
        have := HO.out
        rw [List.take_of_length_le (by rw [HL.out]; exact Nat.le_refl _)] at this
        exact Evs.of_own this (fun e he => H.out.keep_ok HB.out e (List.mem_filter.1 he).1)
      have HE := Lib.hid hE
      clear hE
      go_wp2_with fail
      go_ret
      exact ⟨⟨A', m, c', rfl, by omega, HE.out⟩, HB.out⟩
end Go.Proofs.YtgnegllehcpdpaaDoor
