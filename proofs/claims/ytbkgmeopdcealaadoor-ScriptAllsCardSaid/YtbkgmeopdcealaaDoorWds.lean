import Derived.Test.YtbkgmeopdcealaaDoorRgt
import Derived.Test.YtbkgmeopdcealaaDoorSpl
namespace Go.Proofs.YtbkgmeopdcealaaDoor
open Go.ChangeShapes Go.WideShapes Go.ChangeAt Go.RowKit Go.Sort
set_option linter.unusedVariables false
set_option linter.unusedSimpArgs false
theorem info9 : (Tryd.prog.info? 9).map (fun i => (i.zero, i.size, i.bytes)) = some (some (.string ByteArray.empty), 1, 16) := by kernel_rfl
theorem news_blk (w : World) (cs : Array Value) (t : TypeId) : ∀ j u, cs.toList[j]? = some u → (w.alloc (.cells cs t)).cell? ((⟨w.heap.size, 0, none⟩ : Addr).add j) = some u := by
  intro j u hu
  rw [add_none, Nat.zero_add, Blk.cell (Blk.new w t cs) j, ← Array.getElem?_toList]
  exact hu
/-- The words so far: done, and what is from place k on. -/
def Cutting (s : ByteArray) (done : List ByteArray) (k i : Nat) : Prop :=
  spl s.data.toList = done.map (·.data.toList) ++ spl (s.data.toList.drop k) ∧ (∀ c ∈ (s.data.toList.drop k).take (i - k), c ≠ 32) ∧ done.length ≤ k ∧ k ≤ i ∧ i ≤ s.size
theorem Cutting.start (s : ByteArray) : Cutting s [] 0 0 := ⟨by simp, by simp, by simp, by simp, by simp⟩
theorem ext_list (s : ByteArray) (k i : Nat) : (s.extract k i).data.toList = (s.data.toList.drop k).take (i - k) := by
  rw [Lib.extract_data]
theorem Cutting.next {s : ByteArray} {done : List ByteArray} {k i : Nat} {c : UInt8} (h : Cutting s done k i) (hc : s.data.toList[i]? = some c) (hne : c ≠ 32) : Cutting s done k (i + 1) := by
  obtain ⟨h1, h2, h3, h4, h5⟩ := h
  have hi : i < s.data.toList.length := (List.getElem?_eq_some_iff.1 hc).1
  refine ⟨h1, fun d hd => ?_, h3, by omega, by have e : s.data.toList.length = s.size := Array.length_toList; omega⟩
  rw [show i + 1 - k = (i - k) + 1 by omega, List.take_add_one, List.mem_append] at hd
  rcases hd with hd | hd
  · exact h2 d hd
  · rw [List.getElem?_drop, show k + (i - k) = i by omega, hc] at hd
    simp at hd
    rw [hd]; exact hne
theorem Cutting.word {s : ByteArray} {done : List ByteArray} {k i : Nat} (h : Cutting s done k i) (hc : s.data.toList[i]? = some 32) : Cutting s (done ++ [s.extract k i]) (i + 1) (i + 1) := by
  obtain ⟨h1, h2, h3, h4, h5⟩ := h
  have hi : i < s.data.toList.length := (List.getElem?_eq_some_iff.1 hc).1
  have e : s.data.toList.drop k = (s.data.toList.drop k).take (i - k) ++ 32 :: s.data.toList.drop (i + 1) := by
    conv => lhs; rw [← List.take_append_drop (i - k) (s.data.toList.drop k)]
    congr 1
    rw [List.drop_drop, show k + (i - k) = i by omega, List.drop_eq_getElem_cons hi]
    congr 1
    have := List.getElem?_eq_getElem hi
    rw [hc] at this
    injection this with this
    exact this.symm
  refine ⟨?_, by simp, by simp; omega, Nat.le_refl _, by have e : s.data.toList.length = s.size := Array.length_toList; omega⟩
  rw [h1, List.map_append, List.map_cons, List.map_nil, ext_list, e, List.append_assoc]
  congr 1
  rw [spl_word_sp _ _ h2]
  rw [← e]
  rfl
theorem Cutting.last {s : ByteArray} {done : List ByteArray} {k : Nat} (h : Cutting s done k s.size) : done ++ [s.extract k s.size] = cutS s := by
  obtain ⟨h1, h2, h3, h4, h5⟩ := h
  have e : (s.data.toList.drop k).take (s.size - k) = s.data.toList.drop k := List.take_of_length_le (by simp)
  have h6 : spl (s.data.toList.drop k) = [s.data.toList.drop k] := spl_word _ (by rw [e] at h2; exact h2)
  unfold cutS
  rw [h1, h6, List.map_append, map_back]
  congr 1
  rw [List.map_cons, List.map_nil, ← e, ← ext_list, bs_eta]
set_option maxRecDepth 100000 in
set_option maxHeartbeats 4000000 in
theorem words_any (s : ByteArray) (w : World) (hs : s.size ≤ 300000) : Calls Tryd.prog 32 #[.string s] w fun e w' => (∃ v, e = .returned v ∧ w'.ownsRow w.heap.size 9 1 v (cutS s).length ((cutS s).map Value.string)) ∧ Below w.heap.size w w' := by
  obtain ⟨i0, hi, hz0, hz1, hz2⟩ := info_parts info9
  have hb := bys_len s
  go_enter Tryd.func32, Tryd.ntmps32
  go_wp2_with fail
  go_loopw [3, 4, 5] (fun v a b wr => ∃ (done : List ByteArray) (k i : Nat), a = .int .i64 k ∧ b = .int .i64 i ∧ Cutting s done k i ∧ wr.ownsRow w.heap.size 9 1 v done.length (done.map Value.string) ∧ Below w.heap.size w wr) (fun v a b _ => s.size - (intOf b).toNat)
  case atStart => exact ⟨[], 0, 0, rfl, rfl, Cutting.start s, World.ownsRow_nil _ _ _ _, Below.refl _ _⟩
  case round =>
    obtain ⟨done, k, i, rfl, rfl, hcut, ho, hbel⟩ := hrel
    obtain ⟨A1, c1, rfl⟩ := own_form ho
    have HC := Lib.hid hcut
    have HO := Lib.hid ho
    have HB := Lib.hid hbel
    have hdk : done.length ≤ k := hcut.2.2.1
    have hki : k ≤ i := hcut.2.2.2.1
    have his : i ≤ s.size := hcut.2.2.2.2
    have hsz := hbel.size
    clear hcut ho hbel
    have HN := Lib.hid (show ∀ x : ByteArray, wr.heap.size ≤ (wr.alloc (.cells #[.string x] 9)).heap.size from fun x => by simp)
    by_cases hlt : i < s.size
    · obtain ⟨x, hx⟩ : ∃ x, s[i].toNat = x := ⟨_, rfl⟩
      have hx9 : x < 256 := by rw [← hx]; exact s[i].toNat_lt
      have hix : ∀ W : World, (Instr.index 9 (.string s) (.int .i64 (i : Int))).run Tryd.prog W = .ok (.int .u8 (x : Int)) W := fun W => by
        rw [run_index_string (w := W) 9 s .i64 (i : Int) Tryd.underlying9, dif_pos ⟨by omega, by omega⟩]
        have : s[(i : Int).toNat]'(by omega) = s[i] := by congr 1
        rw [← hx]
        rfl
      have hc0 : s.data.toList[i]? = some s[i] := by simp [hlt]; rfl
      have HX := Lib.hid (And.intro hx hc0)
      clear hx hc0
      by_cases h1 : x = 32
      · subst h1
        have HW := Lib.hid (HC.out.word (by
          obtain ⟨e1, e2⟩ := HX.out
          rw [e2, show s[i] = 32 from UInt8.toNat_inj.1 e1]))
        go_wp2_with (at_builtin; refine wpList_append_own _ rfl _ _ 44 rfl w.heap.size 9 i0 (.string ByteArray.empty) 1 16 Tryd.underlying44 hi hz0 hz1 hz2 rfl (by decide) _ _ _ rfl (HO.out.alloc _) ⟨wr.heap.size, 0, none⟩ 1 1 [.string (s.extract k i)] rfl rfl (news_blk wr #[.string (s.extract k i)] 9) (by intro u hu; simp at hu; subst hu; rfl) (by unfold maxLen; omega) (by omega) (by simp; omega) ?_; intro v7 w7 hown7 hg7 hx7; clear hx7; refine Hid.out ?_)
        refine Lib.hid ?_
        have H7 := Lib.hid (below_own (HB.out.alloc hsz _) (HO.out.alloc _) hg7 (Nat.le_refl _) (by simp; omega))
        have O7 := Lib.hid hown7
        clear hown7 hg7
        go_wp2_with fail
        go_roundw
        case rel => exact ⟨done ++ [s.extract k i], i + 1, i + 1, by first | rfl | go_num, by first | rfl | go_num, HW.out, by simpa using O7.out, H7.out⟩
        case measure => simp [intOf]; omega
      · have HW := Lib.hid (HC.out.next HX.out.2 (by
          intro e
          have := HX.out.1
          rw [e] at this
          exact h1 this.symm))
        go_wp2_with fail
        go_roundw
        case rel => exact ⟨done, k, i + 1, by first | rfl | go_num, by first | rfl | go_num, HW.out, HO.out, HB.out⟩
        case measure => simp [intOf]; omega
    · obtain rfl : i = s.size := by omega
      have HW := Lib.hid HC.out.last
      go_wp2_with (at_builtin; refine wpList_append_own _ rfl _ _ 44 rfl w.heap.size 9 i0 (.string ByteArray.empty) 1 16 Tryd.underlying44 hi hz0 hz1 hz2 rfl (by decide) _ _ _ rfl (HO.out.alloc _) ⟨wr.heap.size, 0, none⟩ 1 1 [.string (s.extract k s.size)] rfl rfl (news_blk wr #[.string (s.extract k s.size)] 9) (by intro u hu; simp at hu; subst hu; rfl) (by unfold maxLen; omega) (by omega) (by simp; omega) ?_; intro v7 w7 hown7 hg7 hx7; clear hx7; refine Hid.out ?_)
      refine Lib.hid ?_
      have H7 := Lib.hid (below_own (HB.out.alloc hsz _) (HO.out.alloc _) hg7 (Nat.le_refl _) (by simp; omega))
      have O7 := Lib.hid hown7
      clear hown7 hg7
      go_wp2_with fail
      go_ret
      refine ⟨⟨_, rfl, ?_⟩, H7.out⟩
      rw [← HW.out]
      simpa using O7.out
end Go.Proofs.YtbkgmeopdcealaaDoor
