import Derived.Test.YtbcmiembahhgeaaRight
namespace Go.Proofs.Ytbcmiembahhgeaa
open Go.ChangeShapes Go.WideShapes Go.ChangeAt Go.RowKit
set_option linter.unusedVariables false
set_option linter.unusedSimpArgs false
def firstS (s : ByteArray) : ByteArray := if rightS s = true then s else ⟨#[]⟩
set_option maxRecDepth 100000 in
theorem rfirst_any (s : ByteArray) (w : World) (hs : s.size ≤ maxLen) :
    Calls Try.prog 11 #[.string s] w fun e w' => e = .returned (.string (firstS s)) ∧ w = w' := by
  have h := rright_any s w hs
  obtain ⟨b, hb⟩ : ∃ b, rightS s = b := ⟨_, rfl⟩
  rw [hb] at h
  have HF := Lib.hid (show firstS s = if b = true then s else ⟨#[]⟩ by unfold firstS; rw [hb])
  clear hb
  unfold maxLen at hs
  cases b
  · go_enter Try.func11, Try.ntmps11
    go_wp2_with (go_at_call 12; refine h.mono ?_; rintro _ _ ⟨rfl, rfl⟩)
    go_ret
    exact ⟨by rw [HF.out]; rfl, by simp⟩
  · go_enter Try.func11, Try.ntmps11
    go_wp2_with (go_at_call 12; refine h.mono ?_; rintro _ _ ⟨rfl, rfl⟩)
    go_ret
    exact ⟨by rw [HF.out]; rfl, by simp⟩
/-- Byte by byte. -/
def lessL : List Nat → List Nat → Bool
  | a :: la, b :: lb => if a = b then lessL la lb else decide (a < b)
  | [], _ :: _ => true
  | _, [] => false
theorem lessL_same (xs : List Nat) (la lb : List Nat) : lessL (xs ++ la) (xs ++ lb) = lessL la lb := by
  induction xs with
  | nil => rfl
  | cons x xs ih => simp [lessL, ih]
theorem lessL_at {xs ys : List Nat} {j x y : Nat} (ht : xs.take j = ys.take j) (hx : xs[j]? = some x) (hy : ys[j]? = some y) (hne : x ≠ y) : lessL xs ys = decide (x < y) := by
  have hxl := (List.getElem?_eq_some_iff.1 hx)
  have hyl := (List.getElem?_eq_some_iff.1 hy)
  obtain ⟨h1, h2⟩ := hxl
  obtain ⟨h3, h4⟩ := hyl
  rw [← List.take_append_drop j xs, ← List.take_append_drop j ys, ht, lessL_same, List.drop_eq_getElem_cons h1, List.drop_eq_getElem_cons h3, h2, h4]
  simp [lessL, hne]
theorem lessL_end {xs ys : List Nat} {j : Nat} (ht : xs.take j = ys.take j) (h : j = xs.length ∨ j = ys.length) (hj1 : j ≤ xs.length) (hj2 : j ≤ ys.length) : lessL xs ys = decide (xs.length < ys.length) := by
  rw [← List.take_append_drop j xs, ← List.take_append_drop j ys, ht, lessL_same]
  rcases h with h | h
  · rw [show xs.drop j = [] by rw [List.drop_eq_nil_iff]; omega]
    cases e : ys.drop j with
    | nil => have := congrArg List.length e; simp at this; simp [lessL]; try omega
    | cons b bs => have := congrArg List.length e; simp at this; simp [lessL]; try omega
  · rw [show ys.drop j = [] by rw [List.drop_eq_nil_iff]; omega]
    cases e : xs.drop j with
    | nil => have := congrArg List.length e; simp at this; simp [lessL]; try omega
    | cons b bs => have := congrArg List.length e; simp at this; simp [lessL]; try omega
set_option maxRecDepth 100000 in
set_option maxHeartbeats 1000000 in
theorem rless_any (s t : ByteArray) (w : World) (hs : s.size ≤ maxLen) (ht : t.size ≤ maxLen) :
    Calls Try.prog 19 #[.string s, .string t] w fun e w' => e = .returned (.bool (lessL (bys s) (bys t))) ∧ ∃ k, w' = w.drewN k := by
  unfold maxLen at hs ht
  go_enter Try.func19, Try.ntmps19
  go_wp2_with fail
  go_loopw [5] (fun i wr => ∃ (j k : Nat), j ≤ s.size ∧ j ≤ t.size ∧ i = .int .i64 j ∧ (bys s).take j = (bys t).take j ∧ wr = w.drewN k) (fun i _ => s.size - (intOf i).toNat)
  case atStart => exact ⟨0, 0, by omega, by omega, rfl, by simp, rfl⟩
  case round =>
    obtain ⟨j, k, hj, hj2, rfl, htk, rfl⟩ := hrel
    have HT := Lib.hid htk
    clear htk
    by_cases hlt : j < s.size ∧ j < t.size
    · obtain ⟨hl1, hl2⟩ := hlt
      have hx0 : (bys s)[j]? = some (s[j].toNat) := by simp [bys, hl1]; rfl
      have hy0 : (bys t)[j]? = some (t[j].toNat) := by simp [bys, hl2]; rfl
      by_cases he : s[j].toNat = t[j].toNat
      · have HN := Lib.hid (show (bys s).take (j + 1) = (bys t).take (j + 1) by rw [List.take_add_one, List.take_add_one, hx0, hy0, HT.out, he])
        have hb : ((s[j].toNat : Int) != (t[j].toNat : Int)) = false := by simp [he]
        clear hx0 hy0 HT
        go_wp2_with fail
        go_quiet (fail)
        go_wp2_with fail
        go_roundw
        case rel => exact ⟨j + 1, _, by omega, by omega, by go_num, HN.out, rfl⟩
        case measure => simp [intOf]; omega
      · have HN := Lib.hid (lessL_at HT.out hx0 hy0 he)
        have hb : ((s[j].toNat : Int) != (t[j].toNat : Int)) = true := by simp; omega
        clear hx0 hy0 HT
        go_wp2_with fail
        go_quiet (fail)
        go_wp2_with fail
        go_quiet (fail)
        go_wp2_with fail
        go_ret
        exact ⟨ret_bool (by rw [HN.out]; try simp), _, by rw [World.drewN_drewN, World.drewN_drewN]⟩
    · have HN := Lib.hid (lessL_end HT.out (by rw [bys_len, bys_len]; omega) (by rw [bys_len]; omega) (by rw [bys_len]; omega))
      clear HT
      by_cases h1 : j < s.size
      · have h2 : ¬ j < t.size := fun h => hlt ⟨h1, h⟩
        clear hlt
        go_wp2_with fail
        go_ret
        exact ⟨ret_bool (by rw [HN.out, bys_len, bys_len]; try simp), _, rfl⟩
      · clear hlt
        go_wp2_with fail
        go_ret
        exact ⟨ret_bool (by rw [HN.out, bys_len, bys_len]; try simp), _, rfl⟩
end Go.Proofs.Ytbcmiembahhgeaa
