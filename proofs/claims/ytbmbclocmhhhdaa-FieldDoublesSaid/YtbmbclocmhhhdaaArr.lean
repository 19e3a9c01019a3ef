/-
  OPENING AN ARRAY OF BYTES that came in: plain.
-/
import Derived.Test.YtbmbclocmhhhdaaBase
namespace Go.Proofs.Ytbmbclocmhhhdaa
open Go.RowKit Go.ChangeShapes Go.WideShapes Go.Deep Go.Joins
theorem open_arr_u8 {H : Type} {enc : TypeId × Value → H} {P : Program} {w : World} {spare : Nat → Bool} {held : Bool} {t e n : Nat} {v : Value} {d : DataW H} {p : List MemPlace} {r : Reach} {b0 : Nat}
    (ht : P.underlying t = some (.array n e)) (he : P.underlying e = some (.int .u8)) (hc : P.cellsOf e = 1) (hC : P.cellsOf t = n) (hv : Value.okWide P w r b0 t v) (h : DataW.Trod enc P w 0 spare held t v d p) :
    ∃ bs : List Nat, v = .agg (bs.map fun (x : Nat) => Value.int .u8 x).toArray ∧ bs.length = n ∧ ∀ x ∈ bs, x < 256 := by
  simp only [Value.okWide, ht] at hv
  obtain ⟨cs, rfl, h2, _⟩ := hv
  obtain ⟨fuel, hf⟩ := h
  obtain ⟨ys, m, _, hx, hlen, hyl, hg⟩ := DataW.trod_array ht hf
  obtain ⟨cs⟩ := cs
  have hcs : cs.length = n := h2.trans hC
  have each : ∀ i (hi : i < cs.length), ∃ x : Nat, x < 256 ∧ cs[i] = .int .u8 (x : Nat) := by
    intro i hi
    have h1 := hg i (by omega)
    rw [hc, Nat.mul_one] at h1
    have hone : ((Value.agg (List.toArray cs)).cells.toList.drop i).take 1 = [cs[i]] := by
      simp only [Value.cells]
      rw [List.drop_eq_getElem_cons hi]
      rfl
    rw [hone] at h1
    have hys : ys[i]? = some (ys[i]'(by omega)) := List.getElem?_eq_getElem (by omega)
    rw [hys] at h1
    obtain ⟨a, e0, _, wa⟩ := DataW.trod_int he h1
    have hb := bounds_u8 wa
    simp at e0
    exact ⟨a.toNat, by omega, by rw [e0]; congr 1; omega⟩
  refine ⟨cs.map (fun v => (intOf v).toNat), ?_, by simp [hcs], ?_⟩
  · congr 1
    apply Array.ext'
    simp only [List.map_map]
    apply List.ext_getElem
    · simp
    · intro i h1 h2
      obtain ⟨x, hx, e⟩ := each i h1
      simp [e, intOf]
  · intro x hx
    simp only [List.mem_map] at hx
    obtain ⟨v, hv, rfl⟩ := hx
    obtain ⟨i, hi, rfl⟩ := List.getElem_of_mem hv
    obtain ⟨x, hx, e⟩ := each i hi
    simp [e, intOf]
    exact hx
theorem list4 {l : List Nat} (h : l.length = 4) : ∃ a b c d, l = [a, b, c, d] := by
  match l, h with
  | [a, b, c, d], _ => exact ⟨a, b, c, d, rfl⟩
end Go.Proofs.Ytbmbclocmhhhdaa
