import Derived.Test.YtbifakhalnkfbaaDoorPrd
import Derived.Test.YtbifakhalnkfbaaDoorRtx
import Derived.Test.YtbifakhalnkfbaaDoorSpl
namespace Go.Proofs.YtbifakhalnkfbaaDoor
open Go.ChangeShapes Go.WideShapes Go.ChangeAt Go.RowKit Go.Sort
set_option linter.unusedVariables false
set_option linter.unusedSimpArgs false
theorem dec_no32 (n : Nat) : ∀ c ∈ (decS n).data.toList, c ≠ 32 := by
  intro c hc e
  subst e
  have := (dec_digit n 32 (by simpa [decS] using hc)).1
  simp at this
theorem it_no32 {x : Int} (h : sm31 x = true) : ∀ c ∈ (itS x).data.toList, c ≠ 32 := by
  have hx : 0 ≤ x ∧ x ≤ 2147483647 := by simpa [sm31] using h
  obtain ⟨n, rfl⟩ : ∃ n : Nat, x = (n : Int) := ⟨x.toNat, by omega⟩
  rw [itS_nat]
  exact dec_no32 n
theorem right_no32 {s : ByteArray} (h : rightS s = true) : ∀ c ∈ s.data.toList, c ≠ 32 := by
  intro c hc e
  subst e
  unfold rightS at h
  simp only [Bool.and_eq_true, List.all_eq_true] at h
  have := h.1.1 32 (List.mem_map.2 ⟨32, hc, rfl⟩)
  revert this
  decide
theorem right_star : rightS starS = false := by decide
theorem words_no32 {s : St} (h : rgtS s = true) : ∀ x ∈ wordsS s, ∀ c ∈ x.data.toList, c ≠ 32 := by
  obtain ⟨a, b, c, d, e, f, g, i, j⟩ := rgt_parts h
  have z1 := dec_no32 s.nx
  have z2 : ∀ c ∈ (lsW s).data.toList, c ≠ 32 := by unfold lsW; split; exact dec_no32 _; decide
  have z3 : ∀ c ∈ (spW s).data.toList, c ≠ 32 := by unfold spW; split; exact dec_no32 _; decide
  have z4 := it_no32 a
  have z5 := it_no32 b
  have z6 := it_no32 c
  have z7 := it_no32 d
  have z8 : ∀ c ∈ (atW s).data.toList, c ≠ 32 := by
    unfold atW
    split
    · decide
    · rcases j with j | j
      · contradiction
      · exact right_no32 j
  have z9 : ∀ c ∈ (endW s).data.toList, c ≠ 32 := by unfold endW; split <;> decide
  intro x hx
  simp only [wordsS, List.mem_cons, List.not_mem_nil, or_false] at hx
  rcases hx with rfl | rfl | rfl | rfl | rfl | rfl | rfl | rfl | rfl | rfl | rfl | rfl | rfl | rfl | rfl | rfl | rfl
  all_goals first | assumption | decide
theorem text_cut {s : St} (h : rgtS s = true) : cutS (textS s) = wordsS s := by
  unfold textS
  rw [if_pos h]
  exact cut_join _ (by simp [wordsS]) (words_no32 h)
theorem dec_dash : decB dashS = false ∧ decN dashS = 0 := dec_bad (c := 45) (by decide) (by decide)
theorem ls_back {s : St} (hs : StOk s) (h : rgtS s = true) : decN (lsW s) = s.ls ∧ decB (lsW s) = s.an := by
  obtain ⟨_, _, _, _, _, _, g, _, _⟩ := rgt_parts h
  unfold lsW
  cases ha : s.an with
  | true => exact ⟨decN_dec _ hs.l1, decB_dec _ hs.l1⟩
  | false =>
    rw [ha] at g
    rcases g with g | g
    · cases g
    · rw [g]; exact ⟨dec_dash.2, dec_dash.1⟩
theorem it_back {x : Int} (h : sm31 x = true) : ((decN (itS x) : Nat) : Int) = x ∧ decN (itS x) ≤ 2147483647 := by
  have hx : 0 ≤ x ∧ x ≤ 2147483647 := by simpa [sm31] using h
  obtain ⟨n, rfl⟩ : ∃ n : Nat, x = (n : Int) := ⟨x.toNat, by omega⟩
  rw [itS_nat, decN_dec n (by omega)]
  omega
theorem sml_back {x : Int} (h : sm31 x = true) : ((sml (itS x) : Nat) : Int) = x := by
  have := it_back h
  unfold sml
  rw [Nat.min_eq_left this.2]
  exact this.1
theorem sp_back {s : St} (hs : StOk s) (h : rgtS s = true) : decN (spW s) = s.sp := by
  obtain ⟨_, _, _, d, _, _, _, i, _⟩ := rgt_parts h
  have hx : 0 ≤ s.sm ∧ s.sm ≤ 2147483647 := by simpa [sm31] using d
  unfold spW
  by_cases hc : 0 < s.sm
  · rw [if_pos (decide_eq_true hc)]; exact decN_dec _ (Nat.lt_trans hs.p1 (by decide))
  · rw [if_neg (by simpa using hc), dec_dash.2]
    omega
theorem at_back {s : St} (h : rgtS s = true) : adP (atW s) = s.ad := by
  obtain ⟨_, _, _, _, _, _, _, _, j⟩ := rgt_parts h
  unfold atW adP
  by_cases hc : s.ad = ByteArray.empty
  · rw [if_pos hc, if_pos rfl, hc]
  · rw [if_neg hc, if_neg]
    intro e
    rcases j with j | j
    · exact hc j
    · rw [e, right_star] at j; cases j
theorem end_back (s : St) : decide (endW s = closedS) = s.cl := by
  unfold endW
  cases s.cl <;> decide
/-- The words of a right status lead back to it. -/
theorem cand_words {s : St} (hs : StOk s) (h : rgtS s = true) : cand (wordsS s) = s := by
  obtain ⟨a, b, c, d, e, f, g, i, j⟩ := rgt_parts h
  have e1 : tk nxN (wordsS s) = (decS s.nx, [lsN, lsW s, acN, itS s.ac, rfN, itS s.rf, mvN, itS s.mv, smN, itS s.sm, spN, spW s, atN, atW s, endW s]) := tk_two rfl
  have e2 : tk lsN (x1 (wordsS s)) = (lsW s, [acN, itS s.ac, rfN, itS s.rf, mvN, itS s.mv, smN, itS s.sm, spN, spW s, atN, atW s, endW s]) := by unfold x1; rw [e1]; exact tk_two rfl
  have e3 : tk acN (x2 (wordsS s)) = (itS s.ac, [rfN, itS s.rf, mvN, itS s.mv, smN, itS s.sm, spN, spW s, atN, atW s, endW s]) := by unfold x2; rw [e2]; exact tk_two rfl
  have e4 : tk rfN (x3 (wordsS s)) = (itS s.rf, [mvN, itS s.mv, smN, itS s.sm, spN, spW s, atN, atW s, endW s]) := by unfold x3; rw [e3]; exact tk_two rfl
  have e5 : tk mvN (x4 (wordsS s)) = (itS s.mv, [smN, itS s.sm, spN, spW s, atN, atW s, endW s]) := by unfold x4; rw [e4]; exact tk_two rfl
  have e6 : tk smN (x5 (wordsS s)) = (itS s.sm, [spN, spW s, atN, atW s, endW s]) := by unfold x5; rw [e5]; exact tk_two rfl
  have e7 : tk spN (x6 (wordsS s)) = (spW s, [atN, atW s, endW s]) := by unfold x6; rw [e6]; exact tk_two rfl
  have e8 : tk atN (x7 (wordsS s)) = (atW s, [endW s]) := by unfold x7; rw [e7]; exact tk_two rfl
  unfold cand x8
  rw [e1, e2, e3, e4, e5, e6, e7, e8]
  simp only [clB]
  rw [decN_dec _ hs.n1, (ls_back hs h).1, (ls_back hs h).2, sml_back a, sml_back b, sml_back c, sml_back d, at_back h, sp_back hs h, end_back, Nat.min_eq_left (by have := hs.p1; omega)]
def gw (ws : List ByteArray) (i : Nat) : ByteArray := ws.getD i ByteArray.empty
/-- The status that the reference makes of seventeen words. -/
def candR (ws : List ByteArray) : St := ⟨decN (gw ws 1), decN (gw ws 3), decB (gw ws 3), (decN (gw ws 5) : Nat), (decN (gw ws 7) : Nat), adP (gw ws 15), (decN (gw ws 9) : Nat), (decN (gw ws 11) : Nat), decN (gw ws 13), decide (gw ws 16 = closedS)⟩
def limR (ws : List ByteArray) : Prop := decN (gw ws 5) ≤ 2147483647 ∧ decN (gw ws 7) ≤ 2147483647 ∧ decN (gw ws 9) ≤ 2147483647 ∧ decN (gw ws 11) ≤ 2147483647 ∧ decN (gw ws 13) ≤ 65535
instance limR_dec (ws : List ByteArray) : Decidable (limR ws) := by unfold limR; infer_instance
def okR (ws : List ByteArray) (text : ByteArray) : Bool := decide (ws.length = 17) && decide (limR ws) && okP (candR ws) text
theorem candR_words {s : St} (hs : StOk s) (h : rgtS s = true) : candR (wordsS s) = s := by
  obtain ⟨a, b, c, d, e, f, g, i, j⟩ := rgt_parts h
  unfold candR
  rw [show gw (wordsS s) 1 = decS s.nx from rfl, show gw (wordsS s) 3 = lsW s from rfl, show gw (wordsS s) 5 = itS s.ac from rfl, show gw (wordsS s) 7 = itS s.rf from rfl, show gw (wordsS s) 9 = itS s.mv from rfl, show gw (wordsS s) 11 = itS s.sm from rfl, show gw (wordsS s) 13 = spW s from rfl, show gw (wordsS s) 15 = atW s from rfl, show gw (wordsS s) 16 = endW s from rfl]
  rw [decN_dec _ hs.n1, (ls_back hs h).1, (ls_back hs h).2, (it_back a).1, (it_back b).1, (it_back c).1, (it_back d).1, at_back h, sp_back hs h, end_back]
theorem limR_words {s : St} (hs : StOk s) (h : rgtS s = true) : limR (wordsS s) := by
  obtain ⟨a, b, c, d, e, f, g, i, j⟩ := rgt_parts h
  refine ⟨(it_back a).2, (it_back b).2, (it_back c).2, (it_back d).2, ?_⟩
  show decN (spW s) ≤ 65535
  rw [sp_back hs h]
  have := hs.p1
  omega
theorem okP_parts {c : St} {text : ByteArray} (h : okP c text = true) : rgtS c = true ∧ textS c = text := by
  unfold okP at h
  simpa using h
theorem okP_of {s : St} (hs : StOk s) (h : rgtS s = true) : okP (cand (cutS (textS s))) (textS s) = true ∧ cand (cutS (textS s)) = s := by
  have e : cand (cutS (textS s)) = s := by rw [text_cut h]; exact cand_words hs h
  rw [e]
  exact ⟨by simp [okP, h], rfl⟩
theorem okR_of {s : St} (hs : StOk s) (h : rgtS s = true) : okR (cutS (textS s)) (textS s) = true ∧ candR (cutS (textS s)) = s := by
  have e : candR (cutS (textS s)) = s := by rw [text_cut h]; exact candR_words hs h
  have e2 := limR_words hs h
  unfold okR
  rw [e, text_cut h, decide_eq_true e2, show (wordsS s).length = 17 from rfl]
  exact ⟨by simp [okP, h], rfl⟩
theorem candR_ok {ws : List ByteArray} (hl : limR ws) (h : ∀ x ∈ ws, x.size ≤ 300000) : StOk (candR ws) := by
  obtain ⟨l1, l2, l3, l4, l5⟩ := hl
  have h7 : (gw ws 15).size ≤ 300000 := by
    unfold gw
    rw [List.getD_eq_getElem?_getD]
    cases he : ws[15]? with
    | none => simp
    | some x => exact h x (List.mem_of_getElem? he)
  have ha : (adP (gw ws 15)).size ≤ 300000 := by unfold adP; split; simp; exact h7
  unfold candR
  exact ⟨decN_lt _, decN_lt _, by simp only; omega, by simp only; omega, by simp only; omega, by simp only; omega, by simp only; omega, by simp only; omega, by simp only; omega, by simp only; omega, by simp only; omega, by unfold maxLen; simp only; omega⟩
/-- Both parsers answer alike. -/
theorem parse_same (text : ByteArray) (hz : text.size ≤ 300000) : okP (cand (cutS text)) text = okR (cutS text) text ∧ (okR (cutS text) text = true → cand (cutS text) = candR (cutS text)) := by
  have hx : ∀ x ∈ cutS text, x.size ≤ 300000 := fun x hx => Nat.le_trans (cut_size text x hx) hz
  have h1 : okP (cand (cutS text)) text = true → okR (cutS text) text = true ∧ candR (cutS text) = cand (cutS text) := by
    intro h
    obtain ⟨hr, ht⟩ := okP_parts h
    have := okR_of (cand_ok hx) hr
    rw [ht] at this
    exact this
  have h2 : okR (cutS text) text = true → okP (cand (cutS text)) text = true := by
    intro h
    unfold okR at h
    simp only [Bool.and_eq_true, decide_eq_true_eq] at h
    obtain ⟨hr, ht⟩ := okP_parts h.2
    have := okP_of (candR_ok h.1.2 hx) hr
    rw [ht] at this
    exact this.1
  have h3 : okP (cand (cutS text)) text = okR (cutS text) text := by
    cases ha : okP (cand (cutS text)) text with
    | true => exact (h1 ha).1.symm
    | false =>
      cases hb : okR (cutS text) text with
      | false => rfl
      | true => rw [h2 hb] at ha; cases ha
  exact ⟨h3, fun h => (h1 (h2 h)).2.symm⟩
/-- Two right statuses with one text are the same. -/
theorem text_inj {a b : St} (ha : StOk a) (hb : StOk b) (ra : rgtS a = true) (rb : rgtS b = true) (e : textS a = textS b) : a = b := by
  rw [← (okP_of ha ra).2, e, (okP_of hb rb).2]
theorem textS_size {s : St} (hs : StOk s) : (textS s).size ≤ 200000 := by
  unfold textS
  split
  · rename_i h
    have h1 := lens_le 6000 (wordsS s) (words_size hs h)
    have e : (joinS (wordsS s)).size = (Lib.join ((wordsS s).map (·.data.toList)) [32]).length := rfl
    rw [e]
    rw [show (wordsS s) = (⟨#[110, 101, 120, 116]⟩ : ByteArray) :: (wordsS s).tail from rfl, List.map_cons] at h1 ⊢
    rw [Lib.join_length]
    have h3 : ((wordsS s).tail.map (·.data.toList)).length = 16 := rfl
    rw [h3]
    have h4 : ((⟨#[110, 101, 120, 116]⟩ : ByteArray) :: (wordsS s).tail).length = 17 := rfl
    rw [h4] at h1
    have h5 : ([32] : List UInt8).length = 1 := rfl
    rw [h5]
    omega
  · simp
end Go.Proofs.YtbifakhalnkfbaaDoor
