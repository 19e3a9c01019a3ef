import Derived.Test.YtbifakhalnkfbaaDoorRsh
namespace Go.Proofs.YtbifakhalnkfbaaDoor
open Go.ChangeShapes Go.WideShapes Go.ChangeAt Go.RowKit Go.Sort
set_option linter.unusedVariables false
set_option linter.unusedSimpArgs false
/-- optional. -/
theorem opt_any (b : Bool) (x y : ByteArray) (w : World) : Calls Tryd.prog 24 #[.bool b, .string x, .string y] w fun e w' => e = .returned (.string (if b = true then x else y)) ∧ Below w.heap.size w w' := by
  cases b
  · go_enter Tryd.func24, Tryd.ntmps24
    go_wp2_with fail
    go_ret
    exact ⟨rfl, Below.refl _ _⟩
  · go_enter Tryd.func24, Tryd.ntmps24
    go_wp2_with fail
    go_ret
    exact ⟨rfl, Below.refl _ _⟩
theorem num_any (u : Nat) (w : World) (hu : u < 18446744073709551616) (hp : Pow w) : Calls Tryd.prog 21 #[.int .u64 u] w fun e w' => e = .returned (.string (decS u)) ∧ Below w.heap.size w w' := by
  have hf := fuint_any u w hu hp
  clear hp
  go_enter Tryd.func21, Tryd.ntmps21
  go_wp2_with (go_at_call 22; refine hf.mono ?_; rintro _ w1 ⟨rfl, hb⟩; refine Hid.out ?_)
  refine Lib.hid ?_
  go_wp2_with fail
  go_ret
  exact ⟨rfl, hb⟩
theorem rnum_any (u : Nat) (w : World) (hu : u < 9223372036854775808) : Calls Tryd.prog 32 #[.int .i64 u] w fun e w' => e = .returned (.string (decS u)) ∧ Below w.heap.size w w' := by
  have hf := number_any u w (by omega)
  have hw : IntKind.u64.wrap (u : Int) = (u : Int) := IntWalk.u64_in _ (by omega)
  have h0 : (0 : Int) ≤ (u : Int) := by omega
  clear hu
  go_enter Tryd.func32, Tryd.ntmps32
  go_wp2_with (go_at_call 19; refine hf.mono ?_; rintro _ w1 ⟨rfl, hb⟩; refine Hid.out ?_)
  refine Lib.hid ?_
  go_wp2_with fail
  go_ret
  exact ⟨rfl, hb⟩
/-- join over a row of the call's own. -/
theorem jn_any (bk : Nat) (xs : List ByteArray) (w : World) (hc : Blk w bk 9 (xs.map Value.string).toArray) (hz : ∀ x ∈ xs, x.size ≤ 6000) (hl : xs.length ≤ 1000) :
    Calls Tryd.prog 23 #[.slice (some ⟨bk, 0, none⟩) xs.length xs.length] w fun e w' => e = .returned (.string (joinS xs)) ∧ Below w.heap.size w w' := by
  have hj := join_any bk xs.length xs w (fun j x hj => by rw [hc.cell]; simp [hj]) hc.lt (Nat.le_refl _) hz hl
  obtain ⟨n, hn⟩ : ∃ n, xs.length = n := ⟨_, rfl⟩
  rw [hn] at hj ⊢
  clear hc hz hl hn
  go_enter Tryd.func23, Tryd.ntmps23
  go_wp2_with (go_at_call 36; refine hj.mono ?_; rintro _ w1 ⟨rfl, hb⟩; refine Hid.out ?_)
  refine Lib.hid ?_
  go_wp2_with fail
  go_ret
  exact ⟨rfl, hb⟩
end Go.Proofs.YtbifakhalnkfbaaDoor
