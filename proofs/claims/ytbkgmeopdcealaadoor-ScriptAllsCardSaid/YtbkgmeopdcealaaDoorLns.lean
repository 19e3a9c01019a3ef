import Derived.Test.YtbkgmeopdcealaaDoorRgt
import Derived.Test.YtbkgmeopdcealaaDoorSpl
import Derived.Test.YtbkgmeopdcealaaDoorWds
import Derived.Test.YtbkgmeopdcealaaDoorOpr
namespace Go.Proofs.YtbkgmeopdcealaaDoor
open Go.ChangeShapes Go.WideShapes Go.ChangeAt Go.RowKit Go.Sort
set_option linter.unusedVariables false
set_option linter.unusedSimpArgs false

/-- A byte ahead of the first word. -/
def ontoL (c : UInt8) : List (List UInt8) → List (List UInt8)
  | [] => [[c]]
  | w :: ws => (c :: w) :: ws
/-- Cut at the spaces. -/
def splL : List UInt8 → List (List UInt8)
  | [] => [[]]
  | c :: l => if c = 10 then [] :: splL l else ontoL c (splL l)
theorem spl_nilL : splL [] = [[]] := rfl
theorem spl_spL (l : List UInt8) : splL (10 :: l) = [] :: splL l := by rw [splL, if_pos rfl]
theorem spl_noL {c : UInt8} (h : c ≠ 10) (l : List UInt8) : splL (c :: l) = ontoL c (splL l) := by rw [splL, if_neg h]
theorem spl_wordL : ∀ (w : List UInt8), (∀ c ∈ w, c ≠ 10) → splL w = [w]
  | [], _ => rfl
  | c :: w, h => by rw [spl_noL (h c (by simp)), spl_wordL w (fun d hd => h d (by simp [hd]))]; rfl
theorem spl_word_spL : ∀ (w l : List UInt8), (∀ c ∈ w, c ≠ 10) → splL (w ++ 10 :: l) = w :: splL l
  | [], l, _ => spl_spL l
  | c :: w, l, h => by rw [List.cons_append, spl_noL (h c (by simp)), spl_word_spL w l (fun d hd => h d (by simp [hd]))]; rfl
theorem onto_neL (c : UInt8) (x : List (List UInt8)) : ontoL c x ≠ [] := by cases x <;> simp [ontoL]
theorem spl_neL (l : List UInt8) : splL l ≠ [] := by
  cases l with
  | nil => simp [splL]
  | cons c l =>
    by_cases h : c = 10
    · subst h; rw [spl_spL]; simp
    · rw [spl_noL h]; exact onto_neL _ _
theorem spl_lenL : ∀ l : List UInt8, (splL l).length ≤ l.length + 1 ∧ ∀ w ∈ splL l, w.length ≤ l.length
  | [] => by simp [splL]
  | c :: l => by
    have ih := spl_lenL l
    by_cases h : c = 10
    · subst h
      rw [spl_spL]
      refine ⟨by simp; omega, fun w hw => ?_⟩
      rcases List.mem_cons.1 hw with rfl | hw
      · simp
      · have := ih.2 w hw; simp; omega
    · rw [spl_noL h]
      cases hs : splL l with
      | nil => exact absurd hs (spl_neL l)
      | cons w ws =>
        rw [hs] at ih
        refine ⟨by have := ih.1; simp [ontoL] at this ⊢; omega, fun x hx => ?_⟩
        rcases List.mem_cons.1 hx with rfl | hx
        · have := ih.2 w (by simp); simp; omega
        · have := ih.2 x (by simp [hx]); simp; omega
theorem splitK_ontoL (b : UInt8) (h : b ≠ 10) : ∀ (k : Nat) (l : List UInt8), Lib.splitK [10] 0 k (b :: l) = ontoL b (Lib.splitK [10] 0 k l)
  | 0, l => rfl
  | k + 1, l => by
    have hp : ([10] : List UInt8).isPrefixOf (b :: l) = false := by simp [List.isPrefixOf, Ne.symm h]
    have hix : Lib.index (b :: l) [10] = if Lib.index l [10] == -1 then -1 else Lib.index l [10] + 1 := by rw [Lib.index, hp]; simp
    unfold Lib.splitK
    by_cases hm : Lib.index l [10] = -1
    · rw [hix, hm]; rfl
    · have hge := Lib.index_ge l [10]
      obtain ⟨j, hj⟩ : ∃ j : Nat, Lib.index l [10] = j := ⟨(Lib.index l [10]).toNat, by omega⟩
      rw [hix, hj]
      have e1 : ((j : Int) == -1) = false := beq_false_of_ne (by omega)
      have e2 : ((j : Int) + 1 == -1) = false := beq_false_of_ne (by omega)
      have e3 : ((j : Int) + 1).toNat = j + 1 := by omega
      simp only [e1, e2, e3, Bool.false_eq_true, if_false, Int.toNat_natCast, Nat.add_zero, ontoL]
      simp
theorem split_splL : ∀ l : List UInt8, Lib.split l [10] = splL l
  | [] => by unfold Lib.split; rw [Lib.count_one]; rfl
  | b :: l => by
    have ih := split_splL l
    unfold Lib.split at ih ⊢
    by_cases h : b = 10
    · subst h
      rw [spl_spL, ← ih, Lib.count_cons_eq, Nat.add_comm]
      have hix : Lib.index (10 :: l) [10] = ((0 : Nat) : Int) := by rw [Lib.index]; simp [List.isPrefixOf]
      conv => lhs; unfold Lib.splitK
      rw [hix]
      simp
    · rw [spl_noL h, ← ih, Lib.count_cons_ne _ _ _ h, splitK_ontoL b h]
/-- The words of a string. -/
def cutSL (s : ByteArray) : List ByteArray := (splL s.data.toList).map fun l => ⟨l.toArray⟩
theorem split_cutL (s : ByteArray) : Lib.splitB ⟨#[10]⟩ 0 (Lib.countB s ⟨#[10]⟩) s = cutSL s := by
  have h := Lib.splitB_data ⟨#[10]⟩ 0 (Lib.countB s ⟨#[10]⟩) s
  have h2 := split_splL s.data.toList
  unfold Lib.split at h2
  have h3 : (Lib.splitB ⟨#[10]⟩ 0 (Lib.countB s ⟨#[10]⟩) s).map (·.data.toList) = splL s.data.toList := h.trans h2
  unfold cutSL
  rw [← h3, map_back]
theorem cut_sizeL (s : ByteArray) : ∀ x ∈ cutSL s, x.size ≤ s.size := by
  intro x hx
  obtain ⟨l, hl, rfl⟩ := List.mem_map.1 hx
  have h := (spl_lenL s.data.toList).2 l hl
  show l.length ≤ s.data.size
  simpa using h
theorem cut_lenL (s : ByteArray) : (cutSL s).length ≤ s.size + 1 := by
  have := (spl_lenL s.data.toList).1
  simpa [cutSL] using this
theorem cut_countL (s : ByteArray) : (cutSL s).length = Lib.countB s ⟨#[10]⟩ + 1 := by rw [← split_cutL]; exact Lib.splitB_all ⟨#[10]⟩ (by decide) 0 _ s rfl
/-- The words so far: done, and what is from place k on. -/
def CuttingL (s : ByteArray) (done : List ByteArray) (k i : Nat) : Prop :=
  splL s.data.toList = done.map (·.data.toList) ++ splL (s.data.toList.drop k) ∧ (∀ c ∈ (s.data.toList.drop k).take (i - k), c ≠ 10) ∧ done.length ≤ k ∧ k ≤ i ∧ i ≤ s.size
theorem CuttingL.start (s : ByteArray) : CuttingL s [] 0 0 := ⟨by simp, by simp, by simp, by simp, by simp⟩
theorem CuttingL.next {s : ByteArray} {done : List ByteArray} {k i : Nat} {c : UInt8} (h : CuttingL s done k i) (hc : s.data.toList[i]? = some c) (hne : c ≠ 10) : CuttingL s done k (i + 1) := by
  obtain ⟨h1, h2, h3, h4, h5⟩ := h
  have hi : i < s.data.toList.length := (List.getElem?_eq_some_iff.1 hc).1
  refine ⟨h1, fun d hd => ?_, h3, by omega, by have e : s.data.toList.length = s.size := Array.length_toList; omega⟩
  rw [show i + 1 - k = (i - k) + 1 by omega, List.take_add_one, List.mem_append] at hd
  rcases hd with hd | hd
  · exact h2 d hd
  · rw [List.getElem?_drop, show k + (i - k) = i by omega, hc] at hd
    simp at hd
    rw [hd]; exact hne
theorem CuttingL.word {s : ByteArray} {done : List ByteArray} {k i : Nat} (h : CuttingL s done k i) (hc : s.data.toList[i]? = some 10) : CuttingL s (done ++ [s.extract k i]) (i + 1) (i + 1) := by
  obtain ⟨h1, h2, h3, h4, h5⟩ := h
  have hi : i < s.data.toList.length := (List.getElem?_eq_some_iff.1 hc).1
  have e : s.data.toList.drop k = (s.data.toList.drop k).take (i - k) ++ 10 :: s.data.toList.drop (i + 1) := by
    conv => lhs; rw [← List.take_append_drop (i - k) (s.data.toList.drop k)]
    congr 1
    rw [List.drop_drop, show k + (i - k) = i by omega, List.drop_eq_getElem_cons hi]
    congr 1
    have := List.getElem?_eq_getElem hi
    rw [hc] at this
    injection this with this
    exact this.symm
  refine ⟨?_, by simp, by simp; omega, Nat.le_refl _, by have e : s.data.toList.length = s.size := Array.length_toList; omega⟩
  rw [h1, List.map_append, List.map_cons, List.map_nil, ext_list, e, List.append_assoc]
  congr 1
  rw [spl_word_spL _ _ h2]
  rw [← e]
  rfl
theorem CuttingL.last {s : ByteArray} {done : List ByteArray} {k : Nat} (h : CuttingL s done k s.size) : done ++ [s.extract k s.size] = cutSL s := by
  obtain ⟨h1, h2, h3, h4, h5⟩ := h
  have e : (s.data.toList.drop k).take (s.size - k) = s.data.toList.drop k := List.take_of_length_le (by simp)
  have h6 : splL (s.data.toList.drop k) = [s.data.toList.drop k] := spl_wordL _ (by rw [e] at h2; exact h2)
  unfold cutSL
  rw [h1, h6, List.map_append, map_back]
  congr 1
  rw [List.map_cons, List.map_nil, ← e, ← ext_list, bs_eta]
set_option maxRecDepth 100000 in
set_option maxHeartbeats 4000000 in
theorem words_anyL (s : ByteArray) (w : World) (hs : s.size ≤ 300000) : Calls Tryd.prog 20 #[.string s] w fun e w' => (∃ v, e = .returned v ∧ w'.ownsRow w.heap.size 9 1 v (cutSL s).length ((cutSL s).map Value.string)) ∧ Below w.heap.size w w' := by
  obtain ⟨i0, hi, hz0, hz1, hz2⟩ := info_parts info9
  have hb := bys_len s
  go_enter Tryd.func20, Tryd.ntmps20
  go_wp2_with fail
  go_loopw [3, 4, 5] (fun v a b wr => ∃ (done : List ByteArray) (k i : Nat), a = .int .i64 k ∧ b = .int .i64 i ∧ CuttingL s done k i ∧ wr.ownsRow w.heap.size 9 1 v done.length (done.map Value.string) ∧ Below w.heap.size w wr) (fun v a b _ => s.size - (intOf b).toNat)
  case atStart => exact ⟨[], 0, 0, rfl, rfl, CuttingL.start s, World.ownsRow_nil _ _ _ _, Below.refl _ _⟩
  case round =>
    obtain ⟨done, k, i, rfl, rfl, hcut, ho, hbel⟩ := hrel
    obtain ⟨A1, c1, rfl⟩ := own_form ho
    have HC := Lib.hid hcut
    have HO := Lib.hid ho
    have HB := Lib.hid hbel
    have hdk : done.length ≤ k := hcut.2.2.1
    have hki : k ≤ i := hcut.2.2.2.1
    have his : i ≤ s.size := hcut.2.2.2.2
    have hsz := hbel.size
    clear hcut ho hbel
    have HN := Lib.hid (show ∀ x : ByteArray, wr.heap.size ≤ (wr.alloc (.cells #[.string x] 9)).heap.size from fun x => by simp)
    by_cases hlt : i < s.size
    · obtain ⟨x, hx⟩ : ∃ x, s[i].toNat = x := ⟨_, rfl⟩
      have hx9 : x < 256 := by rw [← hx]; exact s[i].toNat_lt
      have hix : ∀ W : World, (Instr.index 9 (.string s) (.int .i64 (i : Int))).run Tryd.prog W = .ok (.int .u8 (x : Int)) W := fun W => by
        rw [run_index_string (w := W) 9 s .i64 (i : Int) Tryd.underlying9, dif_pos ⟨by omega, by omega⟩]
        have : s[(i : Int).toNat]'(by omega) = s[i] := by congr 1
        rw [← hx]
        rfl
      have hc0 : s.data.toList[i]? = some s[i] := by simp [hlt]; rfl
      have HX := Lib.hid (And.intro hx hc0)
      clear hx hc0
      by_cases h1 : x = 10
      · subst h1
        have HW := Lib.hid (HC.out.word (by
          obtain ⟨e1, e2⟩ := HX.out
          rw [e2, show s[i] = 10 from UInt8.toNat_inj.1 e1]))
        go_wp2_with (at_builtin; refine wpList_append_own _ rfl _ _ 44 rfl w.heap.size 9 i0 (.string ByteArray.empty) 1 16 Tryd.underlying44 hi hz0 hz1 hz2 rfl (by decide) _ _ _ rfl (HO.out.alloc _) ⟨wr.heap.size, 0, none⟩ 1 1 [.string (s.extract k i)] rfl rfl (news_blk wr #[.string (s.extract k i)] 9) (by intro u hu; simp at hu; subst hu; rfl) (by unfold maxLen; omega) (by omega) (by simp; omega) ?_; intro v7 w7 hown7 hg7 hx7; clear hx7; refine Hid.out ?_)
        refine Lib.hid ?_
        have H7 := Lib.hid (below_own (HB.out.alloc hsz _) (HO.out.alloc _) hg7 (Nat.le_refl _) (by simp; omega))
        have O7 := Lib.hid hown7
        clear hown7 hg7
        go_wp2_with fail
        go_roundw
        case rel => exact ⟨done ++ [s.extract k i], i + 1, i + 1, by first | rfl | go_num, by first | rfl | go_num, HW.out, by simpa using O7.out, H7.out⟩
        case measure => simp [intOf]; omega
      · have HW := Lib.hid (HC.out.next HX.out.2 (by
          intro e
          have := HX.out.1
          rw [e] at this
          exact h1 this.symm))
        go_wp2_with fail
        go_roundw
        case rel => exact ⟨done, k, i + 1, by first | rfl | go_num, by first | rfl | go_num, HW.out, HO.out, HB.out⟩
        case measure => simp [intOf]; omega
    · obtain rfl : i = s.size := by omega
      have HW := Lib.hid HC.out.last
      go_wp2_with (at_builtin; refine wpList_append_own _ rfl _ _ 44 rfl w.heap.size 9 i0 (.string ByteArray.empty) 1 16 Tryd.underlying44 hi hz0 hz1 hz2 rfl (by decide) _ _ _ rfl (HO.out.alloc _) ⟨wr.heap.size, 0, none⟩ 1 1 [.string (s.extract k s.size)] rfl rfl (news_blk wr #[.string (s.extract k s.size)] 9) (by intro u hu; simp at hu; subst hu; rfl) (by unfold maxLen; omega) (by omega) (by simp; omega) ?_; intro v7 w7 hown7 hg7 hx7; clear hx7; refine Hid.out ?_)
      refine Lib.hid ?_
      have H7 := Lib.hid (below_own (HB.out.alloc hsz _) (HO.out.alloc _) hg7 (Nat.le_refl _) (by simp; omega))
      have O7 := Lib.hid hown7
      clear hown7 hg7
      go_wp2_with fail
      go_ret
      refine ⟨⟨_, rfl, ?_⟩, H7.out⟩
      rw [← HW.out]
      simpa using O7.out
end Go.Proofs.YtbkgmeopdcealaaDoor
