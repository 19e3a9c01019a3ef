import Derived.Test.YthgbgkpchchicaaPst
import Derived.Deep.RegionLaw
namespace Go.Proofs.Ythgbgkpchchicaa
open Go.ChangeShapes Go.WideShapes Go.ChangeAt Go.RowKit
set_option linter.unusedVariables false
set_option linter.unusedSimpArgs false
def zdg : List Value := [.int .i64 0, .string ByteArray.empty, .string ByteArray.empty, .slice none 0 0]
theorem zero32 (w : World) : (zeroValue 32).run Try.prog w = .ok (.agg zdg.toArray) w := by kernel_rfl
theorem zero32' (w : World) : (zeroValue 32).run Try.prog w = .ok (.agg zdg.toArray) w := zero32 w
theorem wp_append_run {P : Program} (w : World) {o : Oper} {a : Act} {K : Act → World → Prop} {Q : Exit → Act → World → Prop} (s x : Operand) (t : TypeId)
    (ho : o.op = .call { callee := .builtin .append, args := #[s, x], argTypes := #[t, t] }) (v xv v' : Value) (w' : World) (hs : a.eval s = v) (hx : a.eval x = xv)
    (hrun : (Builtin.append_ #[t, t] o.type #[v, xv]).run P w = .ok v' w') (h : K (a.put o.dst v') w') : o.wp P a w K Q := by
  unfold Oper.wp execOp
  simp only [ho, resolve, invoke, builtin, Sem.run_bind, Sem.run_pure, Result.andThen_ok, List.map_toArray, List.map_cons, List.map_nil, hs, hx, hrun]
  exact h
theorem run_clear_one (w : World) (g o c : Nat) (cur : Array Value) (hg : w.heap[g]? = some (.cells cur 32 (0, 0))) (ho : o + 4 ≤ cur.size) (ty : TypeId) :
    (Builtin.clear_ #[52] ty #[.slice (some ⟨g, o, none⟩) 1 c]).run Try.prog w = .ok (.tuple #[]) (w.setRow g (cur.toList.take o ++ zdg ++ cur.toList.drop (o + 4)).toArray) := by
  have hst := run_storeCells_at Try.prog g o 32 zdg 0 cur w hg (by show o + 0 + 4 ≤ _; omega) (by simp [zdg, Value.oneCell'])
  have hz : (Builtin.zeroCells (Value.agg #[.int .i64 0, .string ⟨#[]⟩, .string ⟨#[]⟩, .slice none 0 0]).cells 1).toList = zdg := by kernel_rfl
  simp only [Nat.add_zero] at hst
  have hl : zdg.length = 4 := rfl
  rw [hl] at hst
  generalize zdg = zz at *
  simp [Builtin.clear_, run_underlying Try.underlying52, zero32', hz, hst]
theorem grown_setRow {w : World} {g : Nat} (cs : Array Value) : w.grownBy (w.setRow g cs) (some g) :=
  ⟨rfl, rfl, rfl, by simp [World.setRow], fun k _ hk => setRow_other w g k _ (fun e => hk (by rw [e]))⟩
set_option maxRecDepth 100000 in
set_option maxHeartbeats 2000000 in
theorem del_any (g i c : Nat) (xs : List Value) (n : Nat) (B : Nat) (w : World) (h : w.ownsRow B 32 4 (.slice (some ⟨g, 0, none⟩) n c) n xs) (hone : ∀ u ∈ xs, u.oneCell' = true) (hi : i < n) :
    Calls Try.prog 27 #[.slice (some ⟨g, 0, none⟩) n c, .int .i64 i, .int .i64 (i + 1)] w fun e w' => e = .returned (.slice (some ⟨g, 0, none⟩) (n - 1) c) ∧ w'.ownsRow B 32 4 (.slice (some ⟨g, 0, none⟩) (n - 1) c) (n - 1) (xs.take (i * 4) ++ xs.drop ((i + 1) * 4)) ∧ w.grownBy w' (some g) := by
  rcases h.2 with ⟨hv, _⟩ | ⟨g', cap, cur, hv, hbg, hh, hnc, hcm, hcs, htake⟩
  · cases hv
  injection hv with e1 _ e2
  injection e1 with e1
  injection e1 with e1
  subst e1
  subst e2
  have hxl := h.1
  have hne : ¬ (i : Int) = (i : Int) + 1 := by omega
  have hb : ((i : Int) == (i : Int) + 1) = false := by simp; omega
  have k1 : i + 1 ≤ n := by omega
  have hp1 : (i : Int) + 1 ≤ (n : Int) := by omega
  unfold maxLen at hcm
  have hR := later_below
  have later_g := later_grown (some g)
  obtain ⟨m, hm⟩ : ∃ m, n - 1 = m := ⟨_, rfl⟩
  rw [hm]
  have q1 : ¬ c < i := by omega
  have q2 : ¬ (i : Int) + 1 < 0 := by omega
  have q3 : ¬ (n : Int) < (i : Int) + 1 := by omega
  have hB : Blk w g 32 cur := hh
  obtain ⟨cu2, hcu⟩ : ∃ cu2, cu2 = cur.toList.take (i * 4) ++ xs.drop ((i + 1) * 4) ++ cur.toList.drop (i * 4 + (xs.drop ((i + 1) * 4)).length) := ⟨_, rfl⟩
  have hnl : (xs.drop ((i + 1) * 4)).length = (n - (i + 1)) * 4 := by rw [List.length_drop, hxl, Nat.sub_mul]
  have hcl2 : cu2.length = c * 4 := by
    rw [hcu]
    simp only [List.length_append, List.length_take, List.length_drop, Array.length_toList, hnl, hcs]
    omega
  obtain ⟨i0, ii, hz0, hz1, hz2⟩ := info_parts info32
  obtain ⟨S, hS⟩ : ∃ S, (if c = i + 1 then some (⟨g, 0, none⟩ : Addr) else some ⟨g, (i + 1) * 4, none⟩) = some S := by split <;> exact ⟨_, rfl⟩
  have happ : ∀ W, Blk W g 32 cur → (Builtin.append_ #[52, 52] 52 #[.slice (some ⟨g, 0, none⟩) i c, .slice (some S) (n - (i + 1)) (c - (i + 1))]).run Try.prog W = .ok (.slice (some ⟨g, 0, none⟩) m c) (W.setRow g cu2.toArray) := by
    intro W hW
    have := run_append_room (P := Try.prog) W 52 52 32 i0 Try.underlying52 ii g i c cur hW S (n - (i + 1)) (c - (i + 1)) (xs.drop ((i + 1) * 4)) (by rw [hnl, hz1]) ?_ ?_ (by omega) ?_
    · rw [this, hz1, ← hcu, show i + (n - (i + 1)) = m by omega]
    · intro j u hu
      have hj : j < (n - (i + 1)) * 4 := by rw [← hnl]; exact (List.getElem?_eq_some_iff.1 hu).1
      rw [if_neg (by omega)] at hS
      injection hS with hS
      subst hS
      rw [Addr.add_lit, hW.cell]
      rw [List.getElem?_drop, ← htake, List.getElem?_take, if_pos (by omega)] at hu
      simpa using hu
    · intro u hu
      exact hone u (List.mem_of_mem_drop hu)
    · rw [hnl, hz1, hcs]; omega
  clear h hh
  go_enter Try.func27, Try.ntmps27
  go_upto_region 5 with (fail)
  refine wp_region_later (X := [6, 7]) hR (by kernel_rfl) ?_
  refine WK.pure hR (i := 0) (v := Value.slice (some { block := g, off := 0 }) n c) rfl (by kernel_rfl) (by kernel_rfl) (by kernel_rfl) (fun _ _ _ h => h) (by kernel_rfl) (fun wz => by go_simp) ?_
  refine WK.frame (a' := { tmps := #[Value.slice (some { block := g, off := 0 }) n c, Value.int IntKind.i64 (i : Int), Value.int IntKind.i64 ((i : Int) + 1), undef, undef, undef, Value.slice none 0 0, Value.int IntKind.i64 (n : Int), Value.slice (some { block := g, off := 0 }) n c, Value.int IntKind.i64 (i : Int), Value.int IntKind.i64 ((i : Int) + 1), Value.slice (some { block := g, off := 0 }) n c, Value.int IntKind.i64 (n : Int), Value.slice (some { block := g, off := i * 4 }) 1 (n - i), Value.int IntKind.i64 (i : Int), Value.int IntKind.i64 ((i : Int) + 1), Value.bool false, undef, Value.slice (some { block := g, off := 0 }) n c, Value.int IntKind.i64 (n : Int), Value.slice (some { block := g, off := 0 }) n c, undef, undef, undef, undef, undef, undef, undef, undef, undef, undef, undef, undef], defers := [] }) (by kernel_rfl) ?_
  refine WK.pure hR (i := 1) (v := Value.int IntKind.i64 (i : Int)) rfl (by kernel_rfl) (by kernel_rfl) (by kernel_rfl) (fun _ _ _ h => h) (by kernel_rfl) (fun wz => by go_simp) ?_
  refine WK.frame (a' := { tmps := #[Value.slice (some { block := g, off := 0 }) n c, Value.int IntKind.i64 (i : Int), Value.int IntKind.i64 ((i : Int) + 1), undef, undef, undef, Value.slice none 0 0, Value.int IntKind.i64 (n : Int), Value.slice (some { block := g, off := 0 }) n c, Value.int IntKind.i64 (i : Int), Value.int IntKind.i64 ((i : Int) + 1), Value.slice (some { block := g, off := 0 }) n c, Value.int IntKind.i64 (n : Int), Value.slice (some { block := g, off := i * 4 }) 1 (n - i), Value.int IntKind.i64 (i : Int), Value.int IntKind.i64 ((i : Int) + 1), Value.bool false, undef, Value.slice (some { block := g, off := 0 }) n c, Value.int IntKind.i64 (n : Int), Value.slice (some { block := g, off := 0 }) n c, Value.int IntKind.i64 (i : Int), undef, undef, undef, undef, undef, undef, undef, undef, undef, undef, undef], defers := [] }) (by kernel_rfl) ?_
  refine WK.pure hR (i := 2) (v := Value.slice (some { block := g, off := 0 }) i c) rfl (by kernel_rfl) (by kernel_rfl) (by kernel_rfl) (fun _ _ _ h => h) (by kernel_rfl) (fun wz => by go_simp) ?_
  refine WK.frame (a' := { tmps := #[Value.slice (some { block := g, off := 0 }) n c, Value.int IntKind.i64 (i : Int), Value.int IntKind.i64 ((i : Int) + 1), undef, undef, undef, Value.slice none 0 0, Value.int IntKind.i64 (n : Int), Value.slice (some { block := g, off := 0 }) n c, Value.int IntKind.i64 (i : Int), Value.int IntKind.i64 ((i : Int) + 1), Value.slice (some { block := g, off := 0 }) n c, Value.int IntKind.i64 (n : Int), Value.slice (some { block := g, off := i * 4 }) 1 (n - i), Value.int IntKind.i64 (i : Int), Value.int IntKind.i64 ((i : Int) + 1), Value.bool false, undef, Value.slice (some { block := g, off := 0 }) n c, Value.int IntKind.i64 (n : Int), Value.slice (some { block := g, off := 0 }) n c, Value.int IntKind.i64 (i : Int), Value.slice (some { block := g, off := 0 }) i c, undef, undef, undef, undef, undef, undef, undef, undef, undef, undef], defers := [] }) (by kernel_rfl) ?_
  refine WK.pure hR (i := 3) (v := Value.slice (some { block := g, off := 0 }) n c) rfl (by kernel_rfl) (by kernel_rfl) (by kernel_rfl) (fun _ _ _ h => h) (by kernel_rfl) (fun wz => by go_simp) ?_
  refine WK.frame (a' := { tmps := #[Value.slice (some { block := g, off := 0 }) n c, Value.int IntKind.i64 (i : Int), Value.int IntKind.i64 ((i : Int) + 1), undef, undef, undef, Value.slice none 0 0, Value.int IntKind.i64 (n : Int), Value.slice (some { block := g, off := 0 }) n c, Value.int IntKind.i64 (i : Int), Value.int IntKind.i64 ((i : Int) + 1), Value.slice (some { block := g, off := 0 }) n c, Value.int IntKind.i64 (n : Int), Value.slice (some { block := g, off := i * 4 }) 1 (n - i), Value.int IntKind.i64 (i : Int), Value.int IntKind.i64 ((i : Int) + 1), Value.bool false, undef, Value.slice (some { block := g, off := 0 }) n c, Value.int IntKind.i64 (n : Int), Value.slice (some { block := g, off := 0 }) n c, Value.int IntKind.i64 (i : Int), Value.slice (some { block := g, off := 0 }) i c, Value.slice (some { block := g, off := 0 }) n c, undef, undef, undef, undef, undef, undef, undef, undef, undef], defers := [] }) (by kernel_rfl) ?_
  refine WK.pure hR (i := 4) (v := Value.int IntKind.i64 ((i : Int) + 1)) rfl (by kernel_rfl) (by kernel_rfl) (by kernel_rfl) (fun _ _ _ h => h) (by kernel_rfl) (fun wz => by go_simp) ?_
  refine WK.frame (a' := { tmps := #[Value.slice (some { block := g, off := 0 }) n c, Value.int IntKind.i64 (i : Int), Value.int IntKind.i64 ((i : Int) + 1), undef, undef, undef, Value.slice none 0 0, Value.int IntKind.i64 (n : Int), Value.slice (some { block := g, off := 0 }) n c, Value.int IntKind.i64 (i : Int), Value.int IntKind.i64 ((i : Int) + 1), Value.slice (some { block := g, off := 0 }) n c, Value.int IntKind.i64 (n : Int), Value.slice (some { block := g, off := i * 4 }) 1 (n - i), Value.int IntKind.i64 (i : Int), Value.int IntKind.i64 ((i : Int) + 1), Value.bool false, undef, Value.slice (some { block := g, off := 0 }) n c, Value.int IntKind.i64 (n : Int), Value.slice (some { block := g, off := 0 }) n c, Value.int IntKind.i64 (i : Int), Value.slice (some { block := g, off := 0 }) i c, Value.slice (some { block := g, off := 0 }) n c, Value.int IntKind.i64 ((i : Int) + 1), undef, undef, undef, undef, undef, undef, undef, undef], defers := [] }) (by kernel_rfl) ?_
  refine WK.pure hR (i := 5) (v := Value.slice (some S) (n - (i + 1)) (c - (i + 1))) rfl (by kernel_rfl) (by kernel_rfl) (by kernel_rfl) (fun _ _ _ h => h) (by kernel_rfl) (fun wz => by go_simp) ?_
  refine WK.frame (a' := { tmps := #[Value.slice (some { block := g, off := 0 }) n c, Value.int IntKind.i64 (i : Int), Value.int IntKind.i64 ((i : Int) + 1), undef, undef, undef, Value.slice none 0 0, Value.int IntKind.i64 (n : Int), Value.slice (some { block := g, off := 0 }) n c, Value.int IntKind.i64 (i : Int), Value.int IntKind.i64 ((i : Int) + 1), Value.slice (some { block := g, off := 0 }) n c, Value.int IntKind.i64 (n : Int), Value.slice (some { block := g, off := i * 4 }) 1 (n - i), Value.int IntKind.i64 (i : Int), Value.int IntKind.i64 ((i : Int) + 1), Value.bool false, undef, Value.slice (some { block := g, off := 0 }) n c, Value.int IntKind.i64 (n : Int), Value.slice (some { block := g, off := 0 }) n c, Value.int IntKind.i64 (i : Int), Value.slice (some { block := g, off := 0 }) i c, Value.slice (some { block := g, off := 0 }) n c, Value.int IntKind.i64 ((i : Int) + 1), Value.slice (some S) (n - (i + 1)) (c - (i + 1)), undef, undef, undef, undef, undef, undef, undef], defers := [] }) (by kernel_rfl) ?_
  refine WK.each (rs := [6]) (by kernel_rfl) (by simp) (fun x1 hx1 i hi => ?_)
  simp only [List.mem_cons, List.not_mem_nil, or_false] at hi
  subst hi
  have B1 := hB.below hx1 hB.lt
  refine wpOp_list rfl (by kernel_rfl) (wp_append_run x1 (.tmp 22) (.tmp 25) 52 rfl _ _ _ _ rfl rfl (happ x1 B1) ?_)
  refine ⟨.inl (by simp), ?_⟩
  refine WK.frame (a' := { tmps := #[Value.slice (some { block := g, off := 0 }) n c, Value.int IntKind.i64 (i : Int), Value.int IntKind.i64 ((i : Int) + 1), undef, undef, undef, Value.slice none 0 0, Value.int IntKind.i64 (n : Int), Value.slice (some { block := g, off := 0 }) n c, Value.int IntKind.i64 (i : Int), Value.int IntKind.i64 ((i : Int) + 1), Value.slice (some { block := g, off := 0 }) n c, Value.int IntKind.i64 (n : Int), Value.slice (some { block := g, off := i * 4 }) 1 (n - i), Value.int IntKind.i64 (i : Int), Value.int IntKind.i64 ((i : Int) + 1), Value.bool false, undef, Value.slice (some { block := g, off := 0 }) n c, Value.int IntKind.i64 (n : Int), Value.slice (some { block := g, off := 0 }) n c, Value.int IntKind.i64 (i : Int), Value.slice (some { block := g, off := 0 }) i c, Value.slice (some { block := g, off := 0 }) n c, Value.int IntKind.i64 ((i : Int) + 1), Value.slice (some S) (n - (i + 1)) (c - (i + 1)), Value.slice (some { block := g, off := 0 }) m c, undef, undef, undef, undef, undef, undef], defers := [] }) (by kernel_rfl) ?_
  refine WK.pure hR (i := 7) (v := Value.slice (some { block := g, off := 0 }) m c) rfl (by kernel_rfl) (by kernel_rfl) (by kernel_rfl) (fun _ _ _ h => h) (by kernel_rfl) (fun wz => by go_simp) ?_
  refine WK.frame (a' := { tmps := #[Value.slice (some { block := g, off := 0 }) m c, Value.int IntKind.i64 (i : Int), Value.int IntKind.i64 ((i : Int) + 1), undef, undef, undef, Value.slice none 0 0, Value.int IntKind.i64 (n : Int), Value.slice (some { block := g, off := 0 }) n c, Value.int IntKind.i64 (i : Int), Value.int IntKind.i64 ((i : Int) + 1), Value.slice (some { block := g, off := 0 }) n c, Value.int IntKind.i64 (n : Int), Value.slice (some { block := g, off := i * 4 }) 1 (n - i), Value.int IntKind.i64 (i : Int), Value.int IntKind.i64 ((i : Int) + 1), Value.bool false, undef, Value.slice (some { block := g, off := 0 }) n c, Value.int IntKind.i64 (n : Int), Value.slice (some { block := g, off := 0 }) n c, Value.int IntKind.i64 (i : Int), Value.slice (some { block := g, off := 0 }) i c, Value.slice (some { block := g, off := 0 }) n c, Value.int IntKind.i64 ((i : Int) + 1), Value.slice (some S) (n - (i + 1)) (c - (i + 1)), Value.slice (some { block := g, off := 0 }) m c, undef, undef, undef, undef, undef, undef], defers := [] }) (by kernel_rfl) ?_
  refine WK.done (by kernel_rfl) (fun wz hz => ?_)
  have B2 : Blk (x1.setRow g cu2.toArray) g 32 cu2.toArray := setRow_heap x1 g cur _ 32 _ B1
  have Bz := B2.below hz B2.lt
  have G2 : w.grownBy wz (some g) := later_g.trans (grown_of_below hx1) (later_g.trans (grown_setRow _) (grown_of_below hz))
  have hcl := run_clear_one wz g (m * 4) (c - m) cu2.toArray Bz (by simp [hcl2]; omega)
  have B9 : Blk (wz.setRow g (cu2.toArray.toList.take (m * 4) ++ zdg ++ cu2.toArray.toList.drop (m * 4 + 4)).toArray) g 32 _ := setRow_heap wz g cu2.toArray _ 32 _ Bz
  have G9 : w.grownBy (wz.setRow g (cu2.toArray.toList.take (m * 4) ++ zdg ++ cu2.toArray.toList.drop (m * 4 + 4)).toArray) (some g) := later_g.trans G2 (grown_setRow _)
  have HO := Lib.hid (show (wz.setRow g (cu2.toArray.toList.take (m * 4) ++ zdg ++ cu2.toArray.toList.drop (m * 4 + 4)).toArray).ownsRow B 32 4 (.slice (some ⟨g, 0, none⟩) m c) m (xs.take (i * 4) ++ xs.drop ((i + 1) * 4)) from by
    refine ⟨by simp only [List.length_append, List.length_take, hnl, hxl]; omega, .inr ⟨g, c, _, rfl, hbg, B9, by omega, by unfold maxLen; omega, ?_, ?_⟩⟩
    · have hz4 : zdg.length = 4 := rfl
      simp only [List.size_toArray, List.length_append, List.length_take, List.length_drop, hcl2, hz4]
      omega
    · rw [List.append_assoc, List.take_append_of_le_length (by simp [hcl2]; omega), List.take_take, Nat.min_self]
      have hq : (cur.toList.take (i * 4) ++ xs.drop ((i + 1) * 4)).length = m * 4 := by simp only [List.length_append, List.length_take, hnl, Array.length_toList, hcs]; omega
      rw [show cu2.toArray.toList = cu2 from rfl, hcu, List.take_append_of_le_length (by omega), List.take_of_length_le (by omega), ← htake, List.take_take, Nat.min_eq_left (by omega)])
  have HG := Lib.hid G9
  have hnm : n - m = 1 := by omega
  have r1 : ¬ c = m := by omega
  have r2 : ¬ n < m := by omega
  have r3 : ¬ c < n := by omega
  have r4 : m ≤ n := by omega
  have r5 : n ≤ c := hnc
  clear B9 G9 Bz G2 B2 hz hx1 B1 hB hcu hcl2 happ htake hcs hm hp1 k1 hb hne q1 q2 q3 hi hnl hxl hS
  generalize wz.setRow g (cu2.toArray.toList.take (m * 4) ++ zdg ++ cu2.toArray.toList.drop (m * 4 + 4)).toArray = w9 at *
  go_wp2_with fail
  go_ret
  exact ⟨rfl, HO.out, HG.out⟩
end Go.Proofs.Ythgbgkpchchicaa
