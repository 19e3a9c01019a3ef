import Derived.Test.YtojfghfgaljkkaaDoorRps
import Derived.Shelf.Abstract
namespace Go.Proofs.YtojfghfgaljkkaaDoor
open Go.ChangeShapes Go.WideShapes Go.ChangeAt Go.RowKit Go.Shelf
set_option linter.unusedSimpArgs false
theorem part5 (w : World) (l : List Nat) (i : Nat) (h : i < l.length) : (Go.part 5 (vc l) i).run Tryd.prog w = .ok (.int .u8 (l.getD i 0 : Nat)) w := by
  have ha : ∀ w, (isAgg 5).run Tryd.prog w = .ok false w := fun _ => by kernel_rfl
  simp [Go.part, ha, vc, List.getD, h]
theorem run_eq5 (d : Nat) (w : World) (a b : Nat) : (Op.equalIn (d + 1) 5 (.int .u8 (a : Nat)) (.int .u8 (b : Nat))).run Tryd.prog w = .ok (decide (a = b)) w := by
  have hu : Tryd.prog.underlying 5 = some (.int .u8) := by kernel_rfl
  rw [run_equalIn_int w d 5 .u8 .u8 a b hu]
  congr 1
  rw [Bool.eq_iff_iff]; simp
  exact Int.ofNat_inj
theorem drop_eq (a b : List Nat) (k : Nat) (ha : k < a.length) (hb : k < b.length) : (a.drop k = b.drop k) ↔ (a.getD k 0 = b.getD k 0 ∧ a.drop (k + 1) = b.drop (k + 1)) := by
  rw [List.drop_eq_getElem_cons ha, List.drop_eq_getElem_cons hb, List.cons.injEq]
  rw [List.getD, List.getD, List.getElem?_eq_getElem ha, List.getElem?_eq_getElem hb]
  rfl
theorem eq_loop (d : Nat) (w : World) (a b : List Nat) : ∀ (n k : Nat), a.length = k + n → b.length = k + n →
    Sem.run Tryd.prog (forIn (List.range' k n) ((none, ()) : Option Bool × Unit) fun i __s => do
            let __do_lift ← Go.part 5 (vc a) (i * 1)
            let __do_lift_1 ← Go.part 5 (vc b) (i * 1)
            let __do_lift ← Op.equalIn (d + 1) 5 __do_lift __do_lift_1
            if (!__do_lift) = true then pure (ForInStep.done (some false, ())) else pure (ForInStep.yield (none, ()))) w = .ok (if a.drop k = b.drop k then (none, ()) else (some false, ())) w
  | 0, k, ha, hb => by
    rw [List.drop_of_length_le (by omega), List.drop_of_length_le (by omega)]; simp
  | n + 1, k, ha, hb => by
    rw [List.range'_succ, List.forIn_cons]
    simp only [Nat.mul_one, Sem.run_bind, part5 w a k (by omega), part5 w b k (by omega), Result.andThen_ok, run_eq5]
    by_cases h : a.getD k 0 = b.getD k 0
    · have := eq_loop d w a b n (k + 1) (by omega) (by omega)
      simp only [Nat.mul_one] at this
      rw [h]
      simp only [decide_true, Bool.not_true, Bool.false_eq_true, if_false, Sem.run_pure, Result.andThen_ok]
      rw [this]
      congr 2
      rw [drop_eq a b k (by omega) (by omega)]
      simp only [h, true_and]
    · simp only [h, decide_false, Bool.not_false, if_true, Sem.run_pure, Result.andThen_ok]
      rw [if_neg (fun e => h ((drop_eq a b k (by omega) (by omega)).1 e).1)]
theorem run_eq16 (d : Nat) (w : World) (a b : List Nat) (ha : a.length = 16) (hb : b.length = 16) : (Op.equalIn (d + 2) 22 (.agg (vc a)) (.agg (vc b))).run Tryd.prog w = .ok (decide (a = b)) w := by
  have hu : Tryd.prog.underlying 22 = some (.array 16 5) := by kernel_rfl
  have hsz : ∀ w, (sizeOf 5).run Tryd.prog w = .ok 1 w := fun _ => by kernel_rfl
  rw [Op.equalIn]
  simp only [Sem.run_bind, run_underlying hu, Result.andThen_ok, hsz, Std.Legacy.Range.forIn_eq_forIn_range']
  have := eq_loop d w a b 16 0 (by omega) (by omega)
  rw [show (Std.Legacy.Range.size [:16]) = 16 from rfl]
  rw [this]
  by_cases h : a = b <;> simp [h]
theorem run_arr_eql (w : World) (a b : List Nat) (ha : a.length = 16) (hb : b.length = 16) : (binOp .eql 22 (.agg (vc a)) (.agg (vc b))).run Tryd.prog w = .ok (.bool (decide (a = b))) w := by
  rw [run_eql_struct, run_eq16 9998 w a b ha hb]; rfl
theorem run_arr_neq (w : World) (a b : List Nat) (ha : a.length = 16) (hb : b.length = 16) : (binOp .neq 22 (.agg (vc a)) (.agg (vc b))).run Tryd.prog w = .ok (.bool (!decide (a = b))) w := by
  rw [run_neq_struct, run_eq16 9998 w a b ha hb]; rfl
end Go.Proofs.YtojfghfgaljkkaaDoor
