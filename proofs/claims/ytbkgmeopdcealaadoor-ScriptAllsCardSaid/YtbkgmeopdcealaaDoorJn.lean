import Derived.Test.YtbkgmeopdcealaaDoorNum
import Derived.Test.YtbkgmeopdcealaaDoorTail
import Derived.Lib.Join
namespace Go.Proofs.YtbkgmeopdcealaaDoor
open Go.ChangeShapes Go.WideShapes Go.ChangeAt Go.RowKit Go.Sort
set_option linter.unusedVariables false
set_option linter.unusedSimpArgs false
def joinS (xs : List ByteArray) : ByteArray := ⟨(Lib.join (xs.map (·.data.toList)) [32]).toArray⟩
theorem lens_le (m : Nat) : ∀ xs : List ByteArray, (∀ x ∈ xs, x.size ≤ m) → Lib.lens (xs.map (·.data.toList)) ≤ m * xs.length
  | [], _ => by simp [Lib.lens]
  | x :: xs, h => by
    have ih := lens_le m xs (fun y hy => h y (List.mem_cons_of_mem _ hy))
    have hx := h x List.mem_cons_self
    have e : x.data.toList.length = x.size := by simp
    have e2 : Lib.lens ((x :: xs).map (·.data.toList)) = x.data.toList.length + Lib.lens (xs.map (·.data.toList)) := by simp [Lib.lens]
    rw [e2, List.length_cons, Nat.mul_add, Nat.mul_one]
    omega
theorem join_bound (xs : List ByteArray) (h : ∀ x ∈ xs, x.size ≤ 6000) (hl : xs.length ≤ 1000) : (Lib.join (xs.map (·.data.toList)) (⟨#[32]⟩ : ByteArray).data.toList).length ≤ 140737488355328 := by
  cases xs with
  | nil => simp [Lib.join, List.intercalate]
  | cons x xs =>
    have h1 := lens_le 6000 (x :: xs) h
    rw [List.map_cons] at h1 ⊢
    rw [Lib.join_length]
    have h2 : (⟨#[32]⟩ : ByteArray).data.toList.length = 1 := rfl
    have h3 : (xs.map (·.data.toList)).length = xs.length := by simp
    rw [h2, h3]
    rw [List.length_cons] at h1 hl
    omega
/-- strings.Join of a row of the call's own. -/
theorem join_any (bk c : Nat) (xs : List ByteArray) (w : World) (hc : ∀ (j : Nat) x, xs[j]? = some x → w.cell? ⟨bk, 0 + j, none⟩ = some (.string x)) (hb : bk < w.heap.size) (hcap : xs.length ≤ c) (h : ∀ x ∈ xs, x.size ≤ 6000) (hl : xs.length ≤ 1000) :
    Calls Tryd.prog 37 #[.slice (some ⟨bk, 0, none⟩) xs.length c, .string ⟨#[32]⟩] w fun e w' => e = .returned (.string (joinS xs)) ∧ Below w.heap.size w w' :=
  Tryd.strings_Join bk 0 c xs ⟨#[32]⟩ w hc hb (by omega) hcap (join_bound xs h hl)
theorem join_own {base c : Nat} {A : Option Addr} (xs : List ByteArray) {w : World} (h : w.ownsRow base 9 1 (.slice A xs.length c) xs.length (xs.map Value.string)) (h0 : 0 < xs.length) (hz : ∀ x ∈ xs, x.size ≤ 6000) (hl : xs.length ≤ 1000) :
    Calls Tryd.prog 37 #[.slice A xs.length c, .string ⟨#[32]⟩] w fun e w' => e = .returned (.string (joinS xs)) ∧ Below w.heap.size w w' := by
  rcases h.2 with ⟨_, hx⟩ | ⟨g, cap, cur, hv, hgb, hh, hcap, _⟩
  · omega
  · injection hv with h1 h2 h3
    subst h1 h3
    have hlt := (h.lt g rfl).2
    refine join_any g c xs w (fun j x hj => ?_) ?_ ?_ hz hl
    · have := h.cells (g := g) rfl j (.string x) (by simp [hj])
      rwa [add_none] at this
    · exact hlt
    · exact hcap
end Go.Proofs.YtbkgmeopdcealaaDoor
