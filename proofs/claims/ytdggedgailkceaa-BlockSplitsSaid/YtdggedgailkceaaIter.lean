import Derived.RangeFuncNested
import Derived.RangeFuncBound
import Derived.RangeFuncCalls
import Derived.RangeFuncLeaves
import Derived.RangeFuncBox
import Derived.RangeFuncFrom
import Derived.Shelf.Abstract
import Derived.OwnWalkIn
import Derived.TacticsInMore
import Derived.LoopNIn
import Derived.LoopIn
import Derived.Maps.AppendAt
import Derived.Test.YtdggedgailkceaaUnp
namespace Go.Proofs.Ytdggedgailkceaa
open Go.ChangeShapes Go.WideShapes Go.ChangeAt Go.RowKit Go.Shelf
set_option linter.unusedVariables false
set_option linter.unusedSimpArgs false
attribute [local go_sem] Oper.semAt_some
theorem wpListIn_load_mid {F : Fence} {n : Nat} {P : Program} {ops : Array Oper} {rest : List Oper} {op : Oper} {a : Act} {w : World} {Q : Exit → Act → World → Prop} (hgd : op.guard = none) (ty : TypeId) (x : Operand) (ho : op.op = .load ty x)
    (b o : Nat) (hx : a.eval x = .pointer (some ⟨b, o, none⟩)) (cs : List Value) (d : TypeDesc) (hc : w.rangeAt b o cs)
    (hu : P.underlying ty = some d) (hd : d.isRow = true) (hi : (P.info? ty).map (·.size) = some cs.length)
    (h : wpListIn F n P ops Q rest (a.put op.dst (.agg cs.toArray)) w) : wpListIn F n P ops Q (op :: rest) a w := by
  refine wpListIn_plain hgd fun K hK' => ?_
  unfold Oper.wpIn
  refine ⟨?_, ?_⟩
  · simp [Oper.about, ho]
  · rw [Oper.semAt_plain F _ _ (by rw [ho]; intro c hc'; cases hc')]
    unfold execOp
    simp only [ho, hx, Instr.loadAt, Instr.sureAddr, Sem.run_bind, Sem.run_pure, Result.andThen_ok, run_loadVar_mid w b o ty cs d hc hu hd hi]
    exact hK' _ _ h
theorem wpListIn_store_mid {F : Fence} {n : Nat} {P : Program} {ops : Array Oper} {rest : List Oper} {op : Oper} {a : Act} {w : World} {Q : Exit → Act → World → Prop} (hgd : op.guard = none) (ty : TypeId) (x y : Operand) (ho : op.op = .store ty x y)
    (b o : Nat) (cells : Array Value) (hx : a.eval x = .pointer (some ⟨b, o, none⟩)) (hy : a.eval y = .agg cells)
    (ht : w.there b o cells.size) (hi : (P.info? ty).map (·.size) = some cells.size) (h1 : cells.all (·.oneCell') = true)
    (h : wpListIn F n P ops Q rest (a.put op.dst undef) (w.setCells b o cells.toList)) : wpListIn F n P ops Q (op :: rest) a w := by
  refine wpListIn_plain hgd fun K hK' => ?_
  unfold Oper.wpIn
  refine ⟨?_, ?_⟩
  · simp [Oper.about, ho]
  · rw [Oper.semAt_plain F _ _ (by rw [ho]; intro c hc'; cases hc')]
    unfold execOp
    simp only [ho, hx, hy, Instr.storeAt, Instr.sureAddr, Sem.run_bind, Sem.run_pure, Result.andThen_ok, run_storeVar_mid w b o ty cells ht hi h1]
    exact hK' _ _ h
/-- The block of a place: 16 bytes, whatever there is. -/
def pt (bs : List Nat) (k : Nat) : List Nat := (part bs k ++ zeros).take 16
theorem pt_len (bs : List Nat) (k : Nat) : (pt bs k).length = 16 := by simp [pt, zeros_len]
theorem pt_eq (bs : List Nat) (k : Nat) (h : 16 * k + 16 ≤ bs.length) : pt bs k = part bs k := by
  have := part_len bs k h
  simp [pt, List.take_append, this]
theorem pt_lt (bs : List Nat) (k : Nat) (h : ∀ x ∈ bs, x < 256) : ∀ x ∈ pt bs k, x < 256 := by
  intro x hx
  rcases List.mem_append.1 (List.mem_of_mem_take hx) with h1 | h1
  · exact h x (List.mem_of_mem_drop (List.mem_of_mem_take h1))
  · simp [zeros] at h1; omega
def encP (bs : List Nat) (x : Nat) : Array Value := #[.int .i64 ((x : Int) + 1), .agg (vc (pt bs x))]
/-- What a round keeps: all that lay ahead of a block, and one block beyond. -/
def Keep (n₀ Bs : Nat) (W W' : World) : Prop := Below n₀ W W' ∧ W'.heap[Bs]? = W.heap[Bs]?
theorem Keep.refl (n₀ Bs : Nat) (W : World) : Keep n₀ Bs W W := ⟨Below.refl _ _, rfl⟩
theorem Keep.trans {n₀ Bs : Nat} {A B C : World} (h : Keep n₀ Bs A B) (k : Keep n₀ Bs B C) : Keep n₀ Bs A C := ⟨h.1.trans k.1, k.2.trans h.2⟩
theorem keep_b {n₀ Bs : Nat} {w : World} (hn : n₀ ≤ w.heap.size) (hB : Bs < w.heap.size) (W : World) (l : Nat) (o o' : Obj) (hl : w.heap.size ≤ l) (h : W.heap[l]? = some o) (h1 : o.isCells = false) (h2 : o.isWalk = false) : Keep n₀ Bs W (W.putObj l o') :=
  ⟨belowK_b hn W l o o' hl h h1 h2, World.putObj_heap_other (by omega)⟩
theorem Keep.box {n₀ Bs : Nat} {W W' : World} {v : Value} (h : Keep n₀ Bs W W') (hc : W.cell? ⟨Bs, 0, none⟩ = some v) : W'.cell? ⟨Bs, 0, none⟩ = some v := (World.cell?_of_block (a := ⟨Bs, 0, none⟩) h.2).trans hc
set_option maxRecDepth 100000 in
set_option maxHeartbeats 2000000 in
theorem all1_in (F : Fence) (n : Nat) (h25 : F.fn 25) (hro : F.round = none) (hn : 1 ≤ n) (l Bs n₀ m c : Nat) (A : Option Addr) (bs : List Nat) (hm : m ≤ 100000) (hmc : m ≤ c) (hl : bs.length = m) (J Jx : List Nat → World → Prop)
    (hY : ∀ pre x W, J pre W → pre.length < m / 16 → YieldAt F (n - 1) Try.prog l (encP bs x) W fun e W' =>
      (e = .returned (.bool true) ∧ J (pre ++ [x]) W' ∧ Keep n₀ Bs W W') ∨ (e = .returned (.bool false) ∧ Jx (pre ++ [x]) W'))
    (W : World) (hBs : W.cell? ⟨Bs, 0, none⟩ = some (.slice A m c)) (hc : Reads W n₀ 1 A m (bv bs)) (h0 : J [] W) :
    CallsIn F n Try.prog 25 #[.func (.yield l) #[] #[], .pointer (some ⟨Bs, 0, none⟩)] W fun e W' => (∃ v, e = .returned v) ∧
      ((∃ ys, ys = List.range (m / 16) ∧ J ys W') ∨ (∃ pre, (∃ k, k ≤ m / 16 ∧ pre = List.range k) ∧ Jx pre W')) := by
  have HL := Lib.hid hl
  have HC := Lib.hid hc
  have HY := Lib.hid hY
  clear hl hc hY
  refine callsIn_of_wp Try.func25 rfl h25 ?_ hro
  simp only [Try.ntmps25, List.size_toArray, List.length_cons, List.length_nil, Nat.reduceAdd, Nat.reduceSub, Array.replicate_succ, Array.replicate_zero, List.push_toArray, List.append_toArray, List.nil_append, List.cons_append]
  gi_wp2
  gi_loopw [3] (fun i wr => ∃ k : Nat, k ≤ m / 16 ∧ i = .int .i64 ((k : Int) + 1) ∧ J (List.range k) wr ∧ Keep n₀ Bs W wr)
    (fun i _ => m + 1 - (intOf i).toNat)
  case atStart => exact ⟨0, Nat.zero_le _, rfl, h0, Keep.refl _ _ _⟩
  case round =>
    obtain ⟨k, hk, rfl, hJs, hnx⟩ := hrel
    have hbx : wr.cell? ⟨Bs, 0, none⟩ = some (.slice A m c) := hnx.box hBs
    have HN := Lib.hid hnx
    have HJ := Lib.hid hJs
    clear hnx hJs
    by_cases hlt : k < m / 16
    · obtain ⟨fn, tmps, assign, body, hy, hR⟩ := HY.out _ k wr HJ.out (by rw [List.length_range]; exact hlt)
      have HR := Lib.hid hR
      have HYy := Lib.hid hy
      clear hR
      dsimp only [encP] at hy
      obtain ⟨b, o, rfl, hb, hcc⟩ := (HC.out.below HN.out.1).row (by omega)
      have harr : ∀ W : World, (Instr.arrayAt 24 (.slice (some ⟨b, o + k * 16, none⟩) ((k + 1) * 16 - k * 16) (c - k * 16))).run Try.prog W = .ok (.pointer (some ⟨b, o + k * 16, none⟩)) W := fun W => run_arrayAt W 24 5 16 _ _ _ Try.underlying24 (by omega)
      have h9 : ((k : Int) + 1) * 16 ≤ (m : Int) := by omega
      have hpe := pt_eq bs k (by rw [HL.out]; omega)
      have hl16 : (part bs k).length = 16 := part_len bs k (by rw [HL.out]; omega)
      rw [hpe] at hy
      have hrg : wr.rangeAt b (o + k * 16) (vc (part bs k)).toList := fun j v hv => by
        have hj := (List.getElem?_eq_some_iff.1 hv).1
        simp [vc, hl16] at hj
        rw [Nat.add_assoc]
        refine hcc (k * 16 + j) v ?_
        simp only [vc, part, List.getElem?_map, List.map_take, List.map_drop] at hv
        rw [List.getElem?_take_of_lt (by omega), List.getElem?_drop] at hv
        rw [Nat.mul_comm]
        simpa [bv] using hv
      have HRG := Lib.hid hrg
      have HL16 := Lib.hid hl16
      obtain ⟨q, hq⟩ : ∃ q, part bs k = q := ⟨_, rfl⟩
      rw [hq] at HRG HL16 hy
      have HQ := Lib.hid hq
      clear hrg hl16 hcc hq hpe
      gi_wp2_with (refine wpListIn_load_mid rfl 24 (.tmp 20) rfl b (o + k * 16) rfl (vc q).toList (.array 16 5) HRG.out Try.underlying24 rfl (info16 HL16.out) ?_)
      refine HR.out.mono ?_
      rintro e W3 (⟨rfl, hJ3, hk3⟩ | ⟨rfl, hJx3⟩)
      · have HJ3 := Lib.hid hJ3
        have HN3 := Lib.hid (HN.out.trans hk3)
        clear hJ3 hk3 HR HYy hy
        gi_wp2
        go_roundw
        case rel => exact ⟨k + 1, by omega, by congr 1, by rw [List.range_succ]; exact HJ3.out, HN3.out⟩
        case measure => simp [intOf]; omega
      · have HJ3 := Lib.hid hJx3
        clear hJx3 HR HYy hy
        gi_wp2
        refine bodyPost_ret (results_none rfl _ _ _) rfl ?_
        exact ⟨⟨_, rfl⟩, .inr ⟨_, ⟨k + 1, by omega, List.range_succ.symm⟩, HJ3.out⟩⟩
    · obtain rfl : k = m / 16 := by omega
      have h9 : (m : Int) < ((m : Int) / 16 + 1) * 16 := by omega
      have hkc : ((m / 16 : Nat) : Int) = (m : Int) / 16 := by omega
      gi_wp2
      go_end0
      exact ⟨⟨_, rfl⟩, .inl ⟨_, rfl, HJ.out⟩⟩
set_option maxHeartbeats 1000000 in
theorem all_in (F : Fence) (n : Nat) (h14 : F.fn 14) (hro : F.round = none) (A : Option Addr) (m c : Nat) (w : World) :
    CallsIn F n Try.prog 14 #[.slice A m c] w fun e w' => e = .returned (.func (.func 25) #[] #[.pointer (some ⟨w.heap.size, 0, none⟩)]) ∧ w' = w.alloc (.cells #[.slice A m c] 27) := by
  refine callsIn_of_wp Try.func14 rfl h14 ?_ hro
  simp only [Try.ntmps14, List.size_toArray, List.length_cons, List.length_nil, Nat.reduceAdd, Nat.reduceSub, Array.replicate_succ, Array.replicate_zero, List.push_toArray, List.append_toArray, List.nil_append, List.cons_append]
  gi_wp2
  go_ret
  exact ⟨rfl, rfl⟩
theorem all_stops (F : Fence) (n : Nat) (h25 : F.fn 25) (hro : F.round = none) (hn : 1 ≤ n) (Bs n₀ m c : Nat) (A : Option Addr) (bs : List Nat) (hm : m ≤ 100000) (hmc : m ≤ c) (hl : bs.length = m) (w : World) (hBs : Bs < w.heap.size) (hn₀ : n₀ ≤ w.heap.size)
    (hc : w.cell? ⟨Bs, 0, none⟩ = some (.slice A m c)) (hr : Reads w n₀ 1 A m (bv bs)) :
    SeqStopsK F n Try.prog 25 #[.pointer (some ⟨Bs, 0, none⟩)] (encP bs) (Keep n₀ Bs) (fun ys => ys = List.range (m / 16)) (fun pre => ∃ k, k ≤ m / 16 ∧ pre = List.range k) (m / 16) w := fun l J Jx W hW _ _ hY h0 => by
  refine all1_in F n h25 hro hn l Bs n₀ m c A bs hm hmc hl J Jx (fun pre x W' h1 h2 => hY pre x W' h1 h2) W ((hW.cell (p := ⟨Bs, 0, none⟩) hBs).trans hc) (hr.below (hW.mono hn₀)) h0
end Go.Proofs.Ytdggedgailkceaa
