import Derived.Test.YtbkgmeopdcealaaDoorPsr
import Derived.Test.YtbkgmeopdcealaaDoorLns
import Derived.Test.YtbkgmeopdcealaaDoorRpp
namespace Go.Proofs.YtbkgmeopdcealaaDoor
open Go.ChangeShapes Go.WideShapes Go.ChangeAt Go.RowKit Go.Sort Go.Deep
set_option linter.unusedVariables false
set_option linter.unusedSimpArgs false
/-- The right operation with a line, in plain Lean. -/
def parseL (line : ByteArray) : Option PO :=
  if kdN (gw (cutS line) 0) 9 = 0 then none else foldF (ruleF (kdN (gw (cutS line) 0) 9)) (cutS line).tail (p0 (kdN (gw (cutS line) 0) 9))
theorem kdN_word (x : ByteArray) : ∀ i, kdN x i ≠ 0 → ruleW (kdN x i) = x
  | 0, h => absurd rfl h
  | i + 1, h => by
    unfold kdN at h ⊢
    split
    · rename_i e; exact e
    · rename_i e; rw [if_neg e] at h; exact kdN_word x i h
theorem kdN_rule (k : Nat) (h1 : 1 ≤ k) (h9 : k ≤ 9) : kdN (ruleW k) 9 = k := by
  rcases nine h1 h9 with rfl | rfl | rfl | rfl | rfl | rfl | rfl | rfl | rfl <;> decide
theorem cut_cons (s : ByteArray) : ∃ x r, cutS s = x :: r := by
  have := cut_count s
  cases h : cutS s with
  | nil => rw [h] at this; simp at this
  | cons x r => exact ⟨x, r, rfl⟩
theorem parseL_iff (line : ByteArray) (p : PO) : parseL line = some p ↔ RP p ∧ lineP p = line := by
  obtain ⟨x, r, hc⟩ := cut_cons line
  have hg : gw (cutS line) 0 = x := by rw [hc]; rfl
  constructor
  · intro h
    unfold parseL at h
    rw [hg, hc] at h
    split at h
    · cases h
    · rename_i hk
      have h9 := kdN_le x 9
      obtain ⟨h1, h2⟩ := words_rp (by omega) h9 h
      exact ⟨h1, words_line (by rw [h2, hc, kdN_word x 9 hk]; rfl) (join_cut line)⟩
  · rintro ⟨hr, rfl⟩
    obtain ⟨k, k1, k9, ek, fk⟩ := rp_words hr
    have e := line_cut hr
    have e2 : wordsP p = ruleW k :: (ruleF k).map (fieldS p) := by unfold wordsP; rw [ek, Int.toNat_natCast]
    rw [e2] at e
    unfold parseL
    rw [e]
    have hgk : kdN (gw (ruleW k :: (ruleF k).map (fieldS p)) 0) 9 = k := kdN_rule k k1 k9
    rw [hgk, if_neg (by omega)]
    exact fk
theorem parseL_none (line : ByteArray) : parseL line = none ↔ ∀ p, RP p → lineP p ≠ line := by
  constructor
  · intro h p hp e
    rw [(parseL_iff line p).2 ⟨hp, e⟩] at h
    cases h
  · intro h
    cases hp : parseL line with
    | none => rfl
    | some p => obtain ⟨h1, h2⟩ := (parseL_iff line p).1 hp; exact absurd h2 (h p h1)
def full (ls : List ByteArray) : List ByteArray := ls.filter fun x => decide (x ≠ em)
theorem full_skip {ls : List ByteArray} {j : Nat} (h : ls[j]? = some em) : full (ls.take (j + 1)) = full (ls.take j) := by
  unfold full
  rw [List.take_add_one, h, List.filter_append]
  simp
theorem full_one {ls : List ByteArray} {j : Nat} {x : ByteArray} (h : ls[j]? = some x) (hx : x ≠ em) : full (ls.take (j + 1)) = full (ls.take j) ++ [x] := by
  unfold full
  rw [List.take_add_one, h, List.filter_append]
  simp [hx]
def rowO (os : List Op) : List Value := os.flatMap fun o => o.arr.toList
theorem rowO_snoc (os : List Op) (o : Op) : rowO (os ++ [o]) = rowO os ++ o.arr.toList := by unfold rowO; simp
/-- What All answers: of the lines that are not empty. -/
inductive AlR (G : World → Op → Prop) (base : Nat) (ls : List ByteArray) (w : World) : Ending → Prop
  | ok (v : Value) (os : List Op) : w.ownsRow base 29 6 v os.length (rowO os) → (∀ o ∈ os, G w o) → (full ls).map parseL = os.map (fun o => some o.p) → AlR G base ls w (.returned (.tuple #[v, .int .i64 (-1)]))
  | bad (i : Nat) (x : ByteArray) (os : List Op) : ls[i]? = some x → x ≠ em → parseL x = none → (full (ls.take i)).map parseL = os.map (fun o => some o.p) → AlR G base ls w (.returned (.tuple #[.slice none 0 0, .int .i64 (i : Nat)]))
theorem info29b : (Tryd.prog.info? 29).map (fun i => (i.zero, i.size, i.bytes)) = some (some (.agg #[.int .i64 0, .int .i64 0, .int .i64 0, .int .i64 0, .slice none 0 0, .string ⟨#[]⟩]), 6, 72) := by kernel_rfl
set_option maxRecDepth 100000 in
set_option maxHeartbeats 2000000 in
/-- script.All. -/
theorem all_gen (G : World → Op → Prop) (hG1 : ∀ W W' o, G W o → Below W.heap.size W W' → G W' o) (hG2 : ∀ (W W' : World) o base v n xs, G W o → W.ownsRow base 29 6 v n xs → W.grownBy W' v.ownBlock → G W' o)
    (hpar : ∀ line W, Tab W → line.size ≤ 300000 → Calls Tryd.prog 16 #[.string line] W fun e w' => (PaR line w' e ∧ ∀ o : Op, e = .returned (.tuple #[o.v, .bool true]) → G w' o) ∧ Below W.heap.size W w')
    (text : ByteArray) (w : World) (ls : List ByteArray) (n : Nat) (hn : ls.length = n) (hT : Tab w) (hz : ∀ x ∈ ls, x.size ≤ 300000) (hl : n ≤ 1000000)
    (hsp : Calls Tryd.prog 29 #[.string text, .string ⟨#[10]⟩] w fun e w' => e = .returned (.slice (some ⟨w.heap.size, 0, none⟩) n n) ∧ w' = w.alloc (.cells (ls.map Value.string).toArray 9)) :
    Calls Tryd.prog 19 #[.string text] w fun e w' => AlR G (w.heap.size + 1) ls w' e ∧ Below w.heap.size w w' := by
  obtain ⟨i0, hi, hz0, hz1, hz2⟩ := info_parts info29b
  have b1 : Below w.heap.size w (w.alloc (.cells (ls.map Value.string).toArray 9)) := (Below.refl _ w).alloc (Nat.le_refl _) _
  have k1 := Blk.new w 9 (ls.map Value.string).toArray
  have H1 := Lib.hid (And.intro b1 (And.intro (hT.below b1) k1))
  have hz10 := hT.sz
  have HZ := Lib.hid hz
  have HN := Lib.hid hn
  have HG := Lib.hid (And.intro hG1 (And.intro hG2 hpar))
  have hn63 : (n : Int) ≤ 9223372036854775807 := by omega
  clear b1 k1 hT hz hn hG1 hG2 hpar
  go_enter Tryd.func19, Tryd.ntmps19
  go_wp2_with (go_at_call 29; refine hsp.mono ?_; rintro _ w2 ⟨rfl, rfl⟩; refine Hid.out ?_)
  refine Lib.hid ?_
  go_wp2_with fail
  go_loopw [12, 4] (fun i v wr => ∃ (j : Nat) (os : List Op), i = .int .i64 j ∧ j ≤ n ∧ os.length ≤ j ∧ (Below w.heap.size w wr ∧ Tab wr ∧ Blk wr w.heap.size 9 (ls.map Value.string).toArray) ∧ wr.ownsRow (w.heap.size + 1) 29 6 v os.length (rowO os) ∧ (∀ o ∈ os, G wr o) ∧ (full (ls.take j)).map parseL = os.map (fun o => some o.p)) (fun i v _ => n - (intOf i).toNat)
  case atStart => exact ⟨0, [], rfl, Nat.zero_le _, Nat.le_refl _, H1.out, World.ownsRow_nil _ _ _ _, by simp, by simp [full]⟩
  case round =>
    clear H1
    obtain ⟨j, os, rfl, hj, hoj, hw, hown, hgo, hmap⟩ := hrel
    obtain ⟨A1, c1, rfl⟩ := own_form hown
    by_cases hlt : j < n
    · obtain ⟨x, hx⟩ : ∃ x, ls[j]? = some x := ⟨_, List.getElem?_eq_getElem (by rw [HN.out]; exact hlt)⟩
      have cx : wr.cell? ⟨w.heap.size, j, none⟩ = some (.string x) := (hw.2.2.cell j).trans (by simp [hx])
      have hji : (j : Int) < (n : Int) := by omega
      have hlw := hw.2.2.lt
      have HX := Lib.hid hx
      have HW := Lib.hid hw
      have HO := Lib.hid hown
      have HGO := Lib.hid hgo
      have HM := Lib.hid hmap
      have hxz := HZ.out x (List.mem_of_getElem? hx)
      have hpc := HG.out.2.2 x wr hw.2.1 hxz
      have hsz := hw.1.size
      clear hx hw hown hgo hmap
      by_cases he : x = em
      · have h1 : (x.toList == []) = true := by rw [he]; first | rfl | simp [em]
        have h2 : x.size = 0 := by rw [he]; rfl
        have HE := Lib.hid he
        clear he hpc
        obtain rfl : x = ByteArray.empty := HE.out
        go_wp2_with fail
        go_roundw
        case rel => exact ⟨j + 1, os, by first | rfl | go_num, by omega, by omega, HW.out, HO.out, HGO.out, by rw [full_skip HX.out]; exact HM.out⟩
        case measure => simp [intOf]; omega
      · have h1 : (x.toList == []) = false := by
          have := toList_ne he
          rwa [show em.toList = [] by first | rfl | simp [em]] at this
        have HE := Lib.hid he
        clear he
        go_wp2_with (go_at_call 16; refine hpc.mono ?_; rintro _ w3 ⟨⟨hpr, hg⟩, hb⟩; refine Hid.out ?_)
        refine Lib.hid ?_
        have HW3 := Lib.hid (show Below w.heap.size w w3 ∧ Tab w3 ∧ Blk w3 w.heap.size 9 (ls.map Value.string).toArray from ⟨HW.out.1.trans (hb.mono hsz), HW.out.2.1.below hb, HW.out.2.2.below hb HW.out.2.2.lt⟩)
        have HO3 := Lib.hid (own_below HO.out hb)
        have HG3 := Lib.hid (fun o ho => HG.out.1 _ _ o (HGO.out o ho) hb)
        have hsz3 := HW3.out.1.size
        clear hb hpc HW HO HGO cx
        cases hpr with
        | no hno =>
          have HP := Lib.hid ((parseL_none x).2 hno)
          clear hno hg
          rw [show zO.v = .agg #[.int .i64 0, .int .i64 0, .int .i64 0, .int .i64 0, .slice none 0 0, .string ⟨#[]⟩] from rfl]
          have HB := Lib.hid (HW3.out.1.alloc hsz3 (.cells zO.arr 29))
          go_wp2_with fail
          all_goals go_ret2
          exact ⟨AlR.bad j x os HX.out HE.out HP.out HM.out, HB.out⟩
        | yes o' hr hl' hok =>
          have HGo := Lib.hid (hg o' rfl)
          have HP := Lib.hid ((parseL_iff x o'.p).2 ⟨hr, hl'⟩)
          clear hr hl' hok hg
          obtain ⟨Y, hY⟩ : ∃ y, o' = y := ⟨_, rfl⟩
          have HY := Lib.hid hY
          rw [hY] at HGo HP
          clear hY
          have hYa : Y.arr = #[.int .i64 o'.kd, .int .i64 o'.wh, .int .i64 o'.nn, .int .i64 o'.mm, .slice o'.A o'.n o'.c, .string o'.ad] := by rw [← HY.out]; rfl
          have HYA := Lib.hid hYa
          clear hYa
          obtain ⟨k', wh', nn', mm', A', n', c', bs', ad'⟩ := o'
          unfold Op.v
          simp only at HYA ⊢
          have b5 : Below w3.heap.size w3 ((w3.alloc (.cells #[.int .i64 k', .int .i64 wh', .int .i64 nn', .int .i64 mm', .slice A' n' c', .string ad'] 29)).alloc (.cells #[.int .i64 k', .int .i64 wh', .int .i64 nn', .int .i64 mm', .slice A' n' c', .string ad'] 29)) := ((Below.refl _ w3).alloc (Nat.le_refl _) _).alloc (by simp) _
          have HW5 := Lib.hid (show Below w.heap.size w ((w3.alloc (.cells #[.int .i64 k', .int .i64 wh', .int .i64 nn', .int .i64 mm', .slice A' n' c', .string ad'] 29)).alloc (.cells #[.int .i64 k', .int .i64 wh', .int .i64 nn', .int .i64 mm', .slice A' n' c', .string ad'] 29)) ∧ Tab ((w3.alloc (.cells #[.int .i64 k', .int .i64 wh', .int .i64 nn', .int .i64 mm', .slice A' n' c', .string ad'] 29)).alloc (.cells #[.int .i64 k', .int .i64 wh', .int .i64 nn', .int .i64 mm', .slice A' n' c', .string ad'] 29)) ∧ Blk ((w3.alloc (.cells #[.int .i64 k', .int .i64 wh', .int .i64 nn', .int .i64 mm', .slice A' n' c', .string ad'] 29)).alloc (.cells #[.int .i64 k', .int .i64 wh', .int .i64 nn', .int .i64 mm', .slice A' n' c', .string ad'] 29)) w.heap.size 9 (ls.map Value.string).toArray from
            ⟨HW3.out.1.trans (b5.mono hsz3), HW3.out.2.1.below b5, HW3.out.2.2.below b5 HW3.out.2.2.lt⟩)
          have HG5 := Lib.hid (show ∀ o ∈ os ++ [Y], G ((w3.alloc (.cells #[.int .i64 k', .int .i64 wh', .int .i64 nn', .int .i64 mm', .slice A' n' c', .string ad'] 29)).alloc (.cells #[.int .i64 k', .int .i64 wh', .int .i64 nn', .int .i64 mm', .slice A' n' c', .string ad'] 29)) o from fun o ho => by
            rcases List.mem_append.1 ho with ho | ho
            · exact HG.out.1 _ _ o (HG3.out o ho) b5
            · rw [List.mem_singleton.1 ho]; exact HG.out.1 _ _ _ HGo.out b5)
          have HO5 := Lib.hid ((HO3.out.alloc (.cells #[.int .i64 k', .int .i64 wh', .int .i64 nn', .int .i64 mm', .slice A' n' c', .string ad'] 29)).alloc (.cells #[.int .i64 k', .int .i64 wh', .int .i64 nn', .int .i64 mm', .slice A' n' c', .string ad'] 29))
          have hnews := news_blk (w3.alloc (.cells #[.int .i64 k', .int .i64 wh', .int .i64 nn', .int .i64 mm', .slice A' n' c', .string ad'] 29)) #[.int .i64 k', .int .i64 wh', .int .i64 nn', .int .i64 mm', .slice A' n' c', .string ad'] 29
          rw [World.size_alloc] at hnews
          have HNW := Lib.hid hnews
          have hlw3 := HW3.out.2.2.lt
          clear b5 hnews HGo HG3 HW3 HO3
          go_wp2_with (at_builtin; refine wpList_append_own _ rfl _ _ 41 rfl (w.heap.size + 1) 29 i0 (.agg #[.int .i64 0, .int .i64 0, .int .i64 0, .int .i64 0, .slice none 0 0, .string ⟨#[]⟩]) 6 72 Tryd.underlying41 hi hz0 hz1 hz2 rfl (by decide) _ _ _ rfl HO5.out ⟨w3.heap.size + 1, 0, none⟩ 1 1 (#[.int .i64 k', .int .i64 wh', .int .i64 nn', .int .i64 mm', .slice A' n' c', .string ad'] : Array Value).toList rfl rfl HNW.out (by intro u hu; simp at hu; rcases hu with rfl | rfl | rfl | rfl | rfl | rfl <;> rfl) (by unfold maxLen; omega) (by omega) (by simp; omega) ?_; intro v7 w7 hown7 hg7 hx7; clear hx7; refine Hid.out ?_)
          refine Lib.hid ?_
          have H7 := Lib.hid (show Below w.heap.size w w7 ∧ Tab w7 ∧ Blk w7 w.heap.size 9 (ls.map Value.string).toArray from
            ⟨below_own HW5.out.1 HO5.out hg7 (by omega) HW5.out.1.size, HW5.out.2.1.keep hg7.size (fun k hk => hg7.block k (by have := HW5.out.2.1.sz; omega) (own_ne HO5.out (by omega))), HW5.out.2.2.grown hg7 (own_ne HO5.out (by omega))⟩)
          have HG7 := Lib.hid (fun o ho => HG.out.2.1 _ _ o _ _ _ _ (HG5.out o ho) HO5.out hg7)
          have HO7 := Lib.hid hown7
          clear hown7 hg7 HW5 HO5 HG5 HNW
          go_wp2_with fail
          go_roundw
          case rel =>
            refine ⟨j + 1, os ++ [Y], by first | rfl | go_num, by omega, by simp; omega, H7.out, ?_, HG7.out, ?_⟩
            · rw [rowO_snoc, HYA.out, List.length_append]; exact HO7.out
            · rw [full_one HX.out HE.out, List.map_append, HM.out, List.map_append]
              simp [HP.out]
          case measure => simp [intOf]; omega
    · obtain rfl : j = n := by omega
      have HB := Lib.hid hw.1
      have HF := Lib.hid (show (full ls).map parseL = os.map (fun o => some o.p) by rw [List.take_of_length_le (by rw [HN.out]; exact Nat.le_refl _)] at hmap; exact hmap)
      have HO := Lib.hid (And.intro hown hgo)
      clear hw hown hgo hmap
      go_wp2_with fail
      all_goals go_ret2
      exact ⟨AlR.ok _ os HO.out.1 HO.out.2 HF.out, HB.out⟩
theorem all_any (G : World → Op → Prop) (hG1 : ∀ W W' o, G W o → Below W.heap.size W W' → G W' o) (hG2 : ∀ (W W' : World) o base v n xs, G W o → W.ownsRow base 29 6 v n xs → W.grownBy W' v.ownBlock → G W' o)
    (hpar : ∀ line W, Tab W → line.size ≤ 300000 → Calls Tryd.prog 16 #[.string line] W fun e w' => (PaR line w' e ∧ ∀ o : Op, e = .returned (.tuple #[o.v, .bool true]) → G w' o) ∧ Below W.heap.size W w')
    (text : ByteArray) (w : World) (hT : Tab w) (hs : text.size ≤ 300000) : Calls Tryd.prog 19 #[.string text] w fun e w' => AlR G (w.heap.size + 1) (cutSL text) w' e ∧ Below w.heap.size w w' := by
  refine all_gen G hG1 hG2 hpar text w (cutSL text) (Lib.countB text ⟨#[10]⟩ + 1) (cut_countL text) hT (fun x hx => Nat.le_trans (cut_sizeL text x hx) hs) (by have := cut_lenL text; rw [cut_countL] at this; omega) ?_
  obtain ⟨m, hm⟩ := hT.mx
  refine (Tryd.strings_Split text ⟨#[10]⟩ m _ (by omega) hm (by decide)).mono fun e w' ⟨he, hw⟩ => ⟨?_, ?_⟩
  · rw [he]
  · rw [hw, split_cutL]
theorem all_weak (text : ByteArray) (w : World) (hT : Tab w) (hs : text.size ≤ 300000) : Calls Tryd.prog 19 #[.string text] w fun e w' => AlR (fun _ _ => True) (w.heap.size + 1) (cutSL text) w' e ∧ Below w.heap.size w w' :=
  all_any (fun _ _ => True) (fun _ _ _ _ _ => trivial) (fun _ _ _ _ _ _ _ _ _ _ => trivial) (fun line W hT hs => (parse_any line W hT hs).mono fun e w' ⟨h1, h2⟩ => ⟨⟨h1, fun _ _ => trivial⟩, h2⟩) text w hT hs
end Go.Proofs.YtbkgmeopdcealaaDoor
