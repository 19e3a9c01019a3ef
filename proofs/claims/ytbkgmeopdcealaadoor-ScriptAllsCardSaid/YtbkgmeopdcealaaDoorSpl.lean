import Derived.Test.YtbkgmeopdcealaaDoorJn
import Derived.Lib.SplitLaws
namespace Go.Proofs.YtbkgmeopdcealaaDoor
open Go.ChangeShapes Go.WideShapes Go.ChangeAt Go.RowKit Go.Sort
set_option linter.unusedVariables false
set_option linter.unusedSimpArgs false
/-- A byte ahead of the first word. -/
def onto (c : UInt8) : List (List UInt8) → List (List UInt8)
  | [] => [[c]]
  | w :: ws => (c :: w) :: ws
/-- Cut at the spaces. -/
def spl : List UInt8 → List (List UInt8)
  | [] => [[]]
  | c :: l => if c = 32 then [] :: spl l else onto c (spl l)
theorem spl_nil : spl [] = [[]] := rfl
theorem spl_sp (l : List UInt8) : spl (32 :: l) = [] :: spl l := by rw [spl, if_pos rfl]
theorem spl_no {c : UInt8} (h : c ≠ 32) (l : List UInt8) : spl (c :: l) = onto c (spl l) := by rw [spl, if_neg h]
theorem spl_word : ∀ (w : List UInt8), (∀ c ∈ w, c ≠ 32) → spl w = [w]
  | [], _ => rfl
  | c :: w, h => by rw [spl_no (h c (by simp)), spl_word w (fun d hd => h d (by simp [hd]))]; rfl
theorem spl_word_sp : ∀ (w l : List UInt8), (∀ c ∈ w, c ≠ 32) → spl (w ++ 32 :: l) = w :: spl l
  | [], l, _ => spl_sp l
  | c :: w, l, h => by rw [List.cons_append, spl_no (h c (by simp)), spl_word_sp w l (fun d hd => h d (by simp [hd]))]; rfl
theorem spl_join : ∀ (ws : List (List UInt8)), ws ≠ [] → (∀ w ∈ ws, ∀ c ∈ w, c ≠ 32) → spl (Lib.join ws [32]) = ws
  | [], h, _ => absurd rfl h
  | [w], _, h => by rw [Lib.join_one]; exact spl_word w (h w (by simp))
  | a :: b :: r, _, h => by
    have e : Lib.join (a :: b :: r) [32] = a ++ 32 :: Lib.join (b :: r) [32] := by
      rw [Lib.join_cons, Lib.join_cons]
      simp [Lib.joinTail]
    rw [e, spl_word_sp a _ (h a (by simp)), spl_join (b :: r) (by simp) (fun w hw => h w (by simp [hw]))]
theorem onto_ne (c : UInt8) (x : List (List UInt8)) : onto c x ≠ [] := by cases x <;> simp [onto]
theorem spl_ne (l : List UInt8) : spl l ≠ [] := by
  cases l with
  | nil => simp [spl]
  | cons c l =>
    by_cases h : c = 32
    · subst h; rw [spl_sp]; simp
    · rw [spl_no h]; exact onto_ne _ _
theorem spl_len : ∀ l : List UInt8, (spl l).length ≤ l.length + 1 ∧ ∀ w ∈ spl l, w.length ≤ l.length
  | [] => by simp [spl]
  | c :: l => by
    have ih := spl_len l
    by_cases h : c = 32
    · subst h
      rw [spl_sp]
      refine ⟨by simp; omega, fun w hw => ?_⟩
      rcases List.mem_cons.1 hw with rfl | hw
      · simp
      · have := ih.2 w hw; simp; omega
    · rw [spl_no h]
      cases hs : spl l with
      | nil => exact absurd hs (spl_ne l)
      | cons w ws =>
        rw [hs] at ih
        refine ⟨by have := ih.1; simp [onto] at this ⊢; omega, fun x hx => ?_⟩
        rcases List.mem_cons.1 hx with rfl | hx
        · have := ih.2 w (by simp); simp; omega
        · have := ih.2 x (by simp [hx]); simp; omega
theorem splitK_onto (b : UInt8) (h : b ≠ 32) : ∀ (k : Nat) (l : List UInt8), Lib.splitK [32] 0 k (b :: l) = onto b (Lib.splitK [32] 0 k l)
  | 0, l => rfl
  | k + 1, l => by
    have hp : ([32] : List UInt8).isPrefixOf (b :: l) = false := by simp [List.isPrefixOf, Ne.symm h]
    have hix : Lib.index (b :: l) [32] = if Lib.index l [32] == -1 then -1 else Lib.index l [32] + 1 := by rw [Lib.index, hp]; simp
    unfold Lib.splitK
    by_cases hm : Lib.index l [32] = -1
    · rw [hix, hm]; rfl
    · have hge := Lib.index_ge l [32]
      obtain ⟨j, hj⟩ : ∃ j : Nat, Lib.index l [32] = j := ⟨(Lib.index l [32]).toNat, by omega⟩
      rw [hix, hj]
      have e1 : ((j : Int) == -1) = false := beq_false_of_ne (by omega)
      have e2 : ((j : Int) + 1 == -1) = false := beq_false_of_ne (by omega)
      have e3 : ((j : Int) + 1).toNat = j + 1 := by omega
      simp only [e1, e2, e3, Bool.false_eq_true, if_false, Int.toNat_natCast, Nat.add_zero, onto]
      simp
theorem split_spl : ∀ l : List UInt8, Lib.split l [32] = spl l
  | [] => by unfold Lib.split; rw [Lib.count_one]; rfl
  | b :: l => by
    have ih := split_spl l
    unfold Lib.split at ih ⊢
    by_cases h : b = 32
    · subst h
      rw [spl_sp, ← ih, Lib.count_cons_eq, Nat.add_comm]
      have hix : Lib.index (32 :: l) [32] = ((0 : Nat) : Int) := by rw [Lib.index]; simp [List.isPrefixOf]
      conv => lhs; unfold Lib.splitK
      rw [hix]
      simp
    · rw [spl_no h, ← ih, Lib.count_cons_ne _ _ _ h, splitK_onto b h]
/-- The words of a string. -/
def cutS (s : ByteArray) : List ByteArray := (spl s.data.toList).map fun l => ⟨l.toArray⟩
theorem bs_eta (s : ByteArray) : (⟨s.data.toList.toArray⟩ : ByteArray) = s := by obtain ⟨⟨l⟩⟩ := s; rfl
theorem map_back (xs : List ByteArray) : (xs.map (·.data.toList)).map (fun l => (⟨l.toArray⟩ : ByteArray)) = xs := by
  rw [List.map_map]
  exact (List.map_congr_left (fun x _ => bs_eta x)).trans (List.map_id xs)
theorem split_cut (s : ByteArray) : Lib.splitB ⟨#[32]⟩ 0 (Lib.countB s ⟨#[32]⟩) s = cutS s := by
  have h := Lib.splitB_data ⟨#[32]⟩ 0 (Lib.countB s ⟨#[32]⟩) s
  have h2 := split_spl s.data.toList
  unfold Lib.split at h2
  have h3 : (Lib.splitB ⟨#[32]⟩ 0 (Lib.countB s ⟨#[32]⟩) s).map (·.data.toList) = spl s.data.toList := h.trans h2
  unfold cutS
  rw [← h3, map_back]
theorem cut_size (s : ByteArray) : ∀ x ∈ cutS s, x.size ≤ s.size := by
  intro x hx
  obtain ⟨l, hl, rfl⟩ := List.mem_map.1 hx
  have h := (spl_len s.data.toList).2 l hl
  show l.length ≤ s.data.size
  simpa using h
theorem cut_len (s : ByteArray) : (cutS s).length ≤ s.size + 1 := by
  have := (spl_len s.data.toList).1
  simpa [cutS] using this
theorem cut_count (s : ByteArray) : (cutS s).length = Lib.countB s ⟨#[32]⟩ + 1 := by rw [← split_cut]; exact Lib.splitB_all ⟨#[32]⟩ (by decide) 0 _ s rfl
theorem cut_join (ws : List ByteArray) (h0 : ws ≠ []) (h : ∀ w ∈ ws, ∀ c ∈ w.data.toList, c ≠ 32) : cutS (joinS ws) = ws := by
  unfold cutS joinS
  have e : spl (Lib.join (ws.map (·.data.toList)) [32]) = ws.map (·.data.toList) := spl_join _ (by simpa using h0) (fun w hw => by
    obtain ⟨x, hx, rfl⟩ := List.mem_map.1 hw
    exact h x hx)
  show (spl (Lib.join (ws.map (·.data.toList)) [32])).map _ = ws
  rw [e, map_back]
end Go.Proofs.YtbkgmeopdcealaaDoor
