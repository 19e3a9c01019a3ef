import Derived.Test.YtojfghfgaljkkaaDoorRpr
import Derived.Laws.ResultCell
import Derived.Deep.RegionWith
import Derived.Deep.RegionLaw
import Derived.WalkMore
namespace Go.Proofs.YtojfghfgaljkkaaDoor
open Go.ChangeShapes Go.WideShapes Go.ChangeAt Go.RowKit
set_option linter.unusedVariables false
set_option linter.unusedSimpArgs false
theorem results_row_tmp {P : Program} {fn : Func} {p u : Tmp} {ty : TypeId} (h : fn.results = #[.cell p ty, .tmp u]) (tmps : Array Value) (w : World) (g : Nat) (t : TypeId) (cs : Array Value) (fr : Nat × Nat) (d : TypeDesc)
    (hp : tmps.getD p undef = .pointer (some ⟨g, 0, none⟩)) (hg : w.heap[g]? = some (.cells cs t fr))
    (hu : P.underlying ty = some d) (hd : (match d with | .struct _ | .array _ _ => true | _ => false) = true) (hi : (P.info? ty).map (·.size) = some cs.size) :
    (results fn tmps).run P w = .ok (.tuple #[.agg cs, tmps.getD u undef]) w := by
  have hp' : tmps[p]?.getD undef = .pointer (some ⟨g, 0, none⟩) := by simpa using hp
  rw [results_cell_tmp h]
  simp [hp', asAddr, Result.andThen, run_loadVar_row w g t ty cs fr d hg hu hd hi]
theorem results_row_tmp2 {P : Program} {fn : Func} {p u x : Tmp} {ty : TypeId} (h : fn.results = #[.cell p ty, .tmp u, .tmp x]) (tmps : Array Value) (w : World) (g : Nat) (t : TypeId) (cs : Array Value) (fr : Nat × Nat) (d : TypeDesc)
    (hp : tmps.getD p undef = .pointer (some ⟨g, 0, none⟩)) (hg : w.heap[g]? = some (.cells cs t fr))
    (hu : P.underlying ty = some d) (hd : (match d with | .struct _ | .array _ _ => true | _ => false) = true) (hi : (P.info? ty).map (·.size) = some cs.size) :
    (results fn tmps).run P w = .ok (.tuple #[.agg cs, tmps.getD u undef, tmps.getD x undef]) w := by
  have hp' : tmps[p]?.getD undef = .pointer (some ⟨g, 0, none⟩) := by simpa using hp
  simp only [results, h]
  simp [Sem.run_bind, hp', asAddr, Result.andThen, run_loadVar_row w g t ty cs fr d hg hu hd hi]
/-- What Parse gives. -/
def badAt (cs : List Nat) : Option Nat := (List.range 22).find? fun i => decide (vOf (cs.getD i 0) < 0)
def parseR (cs : List Nat) : List Nat × Option (Int × Int) :=
  if cs.length ≠ 22 then (zeros, some (4, (cs.length : Nat))) else
    match badAt cs with
    | some i => (zeros, some (11, (i : Nat)))
    | none => if (vOf (cs.getD 21 0)).toNat % 16 ≠ 0 then (zeros, some (11, 21)) else (parseL cs, none)
theorem badAt_some {cs : List Nat} {i : Nat} (hi : i < 22) (hb : vOf (cs.getD i 0) < 0) (hk : ∀ k, k < i → 0 ≤ vOf (cs.getD k 0)) : badAt cs = some i := by
  unfold badAt
  rw [List.find?_eq_some_iff_getElem]
  refine ⟨by simpa using hb, i, by simpa using hi, by simp, fun j hj => ?_⟩
  have := hk j hj
  simp
  simpa using this
theorem badAt_none {cs : List Nat} (hk : ∀ k, k < 22 → 0 ≤ vOf (cs.getD k 0)) : badAt cs = none := by
  unfold badAt
  rw [List.find?_eq_none]
  intro i hi
  have := hk i (by simpa using hi)
  simp
  simpa using this
def outL (cs : List Nat) (n : Nat) : List Nat := (List.range 16).map fun j => if j < n then gv (vb cs) (8 * j) 8 else 0
theorem outL_len (cs : List Nat) (n : Nat) : (outL cs n).length = 16 := by simp [outL]
theorem outL_0 (cs : List Nat) : outL cs 0 = zeros := by simp [outL, zeros]; decide
theorem outL_all (cs : List Nat) : outL cs 16 = parseL cs := by
  unfold outL parseL
  apply List.map_congr_left
  intro j hj
  simp only [List.mem_range] at hj
  simp [hj]
theorem outL_next (cs : List Nat) (n : Nat) (h : n < 16) : (outL cs n).set n (gv (vb cs) (8 * n) 8) = outL cs (n + 1) := by
  apply List.ext_getElem?
  intro k
  rw [List.getElem?_set]
  by_cases hk : n = k
  · subst hk
    rw [if_pos rfl, if_pos (by rw [outL_len]; exact h)]
    simp [outL, h]
  · rw [if_neg hk]
    simp only [outL, List.getElem?_map]
    by_cases h9 : k < 16
    · rw [List.getElem?_range h9]
      simp only [Option.map_some, Option.some.injEq]
      by_cases h8 : k < n
      · rw [if_pos h8, if_pos (by omega)]
      · rw [if_neg h8, if_neg (by omega)]
    · rw [List.getElem?_eq_none (by simp; omega)]; rfl
theorem zeros_len : zeros.length = 16 := by simp [zeros]
theorem mod_div256 (n u : Nat) (hu : u ≤ 6) : n % 4294967296 / 2 ^ u % 256 = n / 2 ^ u % 256 := by
  rcases (show u = 0 ∨ u = 1 ∨ u = 2 ∨ u = 3 ∨ u = 4 ∨ u = 5 ∨ u = 6 by omega) with rfl | rfl | rfl | rfl | rfl | rfl | rfl <;> omega
theorem or64 (a c : Nat) (h : c < 64) : a * 64 ||| c = a * 64 + c := by
  have := Nat.two_pow_add_eq_or_of_lt (i := 6) (show c < 2 ^ 6 by omega) a
  rw [Nat.mul_comm, show (64 : Nat) = 2 ^ 6 by decide, ← this]
theorem u32_or64 (H x : Nat) (hx : x < 64) : bits .or .u32 ((H : Int) * 64 % 4294967296) (x : Int) = (((H * 64 + x) % 4294967296 : Nat) : Int) := by
  have e : (H : Int) * 64 % 4294967296 = ((H % 67108864 * 64 : Nat) : Int) := by omega
  rw [e]
  have h1 : H % 67108864 * 64 ||| x = H % 67108864 * 64 + x := or64 _ _ hx
  have h2 : (H * 64 + x) % 4294967296 = H % 67108864 * 64 + x := by omega
  rw [h2, ← h1]
  have hb : H % 67108864 * 64 ||| x < 4294967296 := by rw [h1]; omega
  exact u32_or_nat _ _ (by omega) (by omega)
theorem vc_zeros_hid (w : World) : ∃ q : Array Value, q = vc zeros ∧ q.size = 16 := ⟨_, rfl, by rw [vc_size, zeros_len]⟩
theorem build22 (W : World) : (Op.build 22 (#[] : Array (Nat × Operand))) = Op.build 22 #[] := rfl
theorem step_load_mid {P : Program} {ops : Array Oper} {o : Oper} {a : Act} {w : World} {K : Act → World → Prop} {Q : Exit → Act → World → Prop} {E : Prop} (hgd : o.guard = none) (ty : TypeId) (x : Operand) (ho : o.op = .load ty x)
    (b of : Nat) (hx : a.eval x = .pointer (some ⟨b, of, none⟩)) (cs : List Value) (d : TypeDesc) (hc : w.rangeAt b of cs)
    (hu : P.underlying ty = some d) (hd : d.isRow = true) (hi : (P.info? ty).map (·.size) = some cs.length)
    (h : K (a.put o.dst (.agg cs.toArray)) w) : if Region.wanted o (yielded ops a.tmps) = true then Oper.wp P o a w K Q else E := by
  have hw : Region.wanted o (yielded ops a.tmps) = true := by simp [Region.wanted, hgd]
  rw [if_pos hw]
  exact wp_load_mid ty x ho b of hx cs d hc hu hd hi h
theorem step_store_mid {P : Program} {ops : Array Oper} {o : Oper} {a : Act} {w : World} {K : Act → World → Prop} {Q : Exit → Act → World → Prop} {E : Prop} (hgd : o.guard = none) (ty : TypeId) (x y : Operand) (ho : o.op = .store ty x y)
    (b of : Nat) (cells : Array Value) (hx : a.eval x = .pointer (some ⟨b, of, none⟩)) (hy : a.eval y = .agg cells)
    (ht : w.there b of cells.size) (hi : (P.info? ty).map (·.size) = some cells.size) (h1 : cells.all (·.oneCell') = true)
    (h : K (a.put o.dst undef) (w.setCells b of cells.toList)) : if Region.wanted o (yielded ops a.tmps) = true then Oper.wp P o a w K Q else E := by
  have hw : Region.wanted o (yielded ops a.tmps) = true := by simp [Region.wanted, hgd]
  rw [if_pos hw]
  exact wp_store_mid ty x y ho b of cells hx hy ht hi h1 h
set_option maxRecDepth 100000 in
set_option maxHeartbeats 4000000 in
theorem parse_short (s : ByteArray) (w : World) (hs : s.size ≤ maxLen) (hne : s.size ≠ 22) :
    Calls Tryd.prog 9 #[.string s] w fun e w' => e = .returned (.tuple #[.agg (vc zeros), errV (some (4, (s.size : Nat)))]) ∧ Below w.heap.size w w' := by
  unfold maxLen at hs
  have hne2 : ((s.size : Int) != 22) = true := by simp; omega
  go_enter Tryd.func9, Tryd.ntmps9
  go_wp2_with fail
  go_step3
  go_wp2_with fail
  go_region_with (go_at_call 16; refine (new_any _ _ _).mono ?_; rintro _ _ ⟨rfl, rfl⟩)
  all_goals
    go_wp2_with fail
    rw [Exit.noGoto_ret]
    refine bodyPost_ret (results_row_tmp rfl _ _ w.heap.size 22 (vc zeros) (0, 0) (.array 16 5) rfl (Blk.drew ((Blk.new w 22 (vc zeros)).alloc _)) Tryd.underlying22 rfl (by kernel_rfl)) rfl ⟨rfl, below_drewN (((Below.refl _ w).alloc (Nat.le_refl _) _).alloc (by simp) _) 1⟩
end Go.Proofs.YtojfghfgaljkkaaDoor
