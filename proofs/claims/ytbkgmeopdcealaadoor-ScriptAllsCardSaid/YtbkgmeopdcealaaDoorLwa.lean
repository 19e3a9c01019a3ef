import Derived.Test.YtbkgmeopdcealaaDoorTag
import Derived.Test.YtbkgmeopdcealaaDoorLwc
namespace Go.Proofs.YtbkgmeopdcealaaDoor
open Go.ChangeShapes Go.WideShapes Go.ChangeAt Go.RowKit Go.Sort Go.Deep
set_option linter.unusedVariables false
set_option linter.unusedSimpArgs false
set_option maxRecDepth 100000 in
set_option maxHeartbeats 2000000 in
/-- script.All. -/
theorem all_genT (G : World → Op → Prop) (hG1 : ∀ W W' o, G W o → Below W.heap.size W W' → G W' o) (hG2 : ∀ (W W' : World) o base v n xs, G W o → W.ownsRow base 29 6 v n xs → W.grownBy W' v.ownBlock → G W' o)
    (hpar : ∀ line W, Tab W → line.size ≤ 300000 → Calls Tryd.prog 16 #[.string line] W fun e w' => (PaR line w' e ∧ ∀ o : Op, e = .returned (.tuple #[o.v, .bool true]) → OpOk w' o → G w' o) ∧ Below W.heap.size W w')
    (text : ByteArray) (w : World) (ls : List ByteArray) (n : Nat) (hn : ls.length = n) (hT : Tab w) (hz : ∀ x ∈ ls, x.size ≤ 300000) (hl : n ≤ 1000000)
    (hsp : Calls Tryd.prog 29 #[.string text, .string ⟨#[10]⟩] w fun e w' => e = .returned (.slice (some ⟨w.heap.size, 0, none⟩) n n) ∧ w' = w.alloc (.cells (ls.map Value.string).toArray 9)) :
    Calls Tryd.prog 19 #[.string text] w fun e w' => AlR G (w.heap.size + 1) ls w' e ∧ Below w.heap.size w w' := by
  obtain ⟨i0, hi, hz0, hz1, hz2⟩ := info_parts info29b
  have b1 : Below w.heap.size w (w.alloc (.cells (ls.map Value.string).toArray 9)) := (Below.refl _ w).alloc (Nat.le_refl _) _
  have k1 := Blk.new w 9 (ls.map Value.string).toArray
  have H1 := Lib.hid (And.intro b1 (And.intro (hT.below b1) k1))
  have hz10 := hT.sz
  have HZ := Lib.hid hz
  have HN := Lib.hid hn
  have HG := Lib.hid (And.intro hG1 (And.intro hG2 hpar))
  have hn63 : (n : Int) ≤ 9223372036854775807 := by omega
  clear b1 k1 hT hz hn hG1 hG2 hpar
  go_enter Tryd.func19, Tryd.ntmps19
  go_wp2_with (go_at_call 29; refine hsp.mono ?_; rintro _ w2 ⟨rfl, rfl⟩; refine Hid.out ?_)
  refine Lib.hid ?_
  go_wp2_with fail
  go_loopw [12, 4] (fun i v wr => ∃ (j : Nat) (os : List Op), i = .int .i64 j ∧ j ≤ n ∧ os.length ≤ j ∧ (Below w.heap.size w wr ∧ Tab wr ∧ Blk wr w.heap.size 9 (ls.map Value.string).toArray) ∧ wr.ownsRow (w.heap.size + 1) 29 6 v os.length (rowO os) ∧ (∀ o ∈ os, G wr o) ∧ (full (ls.take j)).map parseL = os.map (fun o => some o.p)) (fun i v _ => n - (intOf i).toNat)
  case atStart => exact ⟨0, [], rfl, Nat.zero_le _, Nat.le_refl _, H1.out, World.ownsRow_nil _ _ _ _, by simp, by simp [full]⟩
  case round =>
    clear H1
    obtain ⟨j, os, rfl, hj, hoj, hw, hown, hgo, hmap⟩ := hrel
    obtain ⟨A1, c1, rfl⟩ := own_form hown
    by_cases hlt : j < n
    · obtain ⟨x, hx⟩ : ∃ x, ls[j]? = some x := ⟨_, List.getElem?_eq_getElem (by rw [HN.out]; exact hlt)⟩
      have cx : wr.cell? ⟨w.heap.size, j, none⟩ = some (.string x) := (hw.2.2.cell j).trans (by simp [hx])
      have hji : (j : Int) < (n : Int) := by omega
      have hlw := hw.2.2.lt
      have HX := Lib.hid hx
      have HW := Lib.hid hw
      have HO := Lib.hid hown
      have HGO := Lib.hid hgo
      have HM := Lib.hid hmap
      have hxz := HZ.out x (List.mem_of_getElem? hx)
      have hpc := HG.out.2.2 x wr hw.2.1 hxz
      have hsz := hw.1.size
      clear hx hw hown hgo hmap
      by_cases he : x = em
      · have h1 : (x.toList == []) = true := by rw [he]; first | rfl | simp [em]
        have h2 : x.size = 0 := by rw [he]; rfl
        have HE := Lib.hid he
        clear he hpc
        obtain rfl : x = ByteArray.empty := HE.out
        go_wp2_with fail
        go_roundw
        case rel => exact ⟨j + 1, os, by first | rfl | go_num, by omega, by omega, HW.out, HO.out, HGO.out, by rw [full_skip HX.out]; exact HM.out⟩
        case measure => simp [intOf]; omega
      · have h1 : (x.toList == []) = false := by
          have := toList_ne he
          rwa [show em.toList = [] by first | rfl | simp [em]] at this
        have HE := Lib.hid he
        clear he
        go_wp2_with (go_at_call 16; refine hpc.mono ?_; rintro _ w3 ⟨⟨hpr, hg⟩, hb⟩; refine Hid.out ?_)
        refine Lib.hid ?_
        have HW3 := Lib.hid (show Below w.heap.size w w3 ∧ Tab w3 ∧ Blk w3 w.heap.size 9 (ls.map Value.string).toArray from ⟨HW.out.1.trans (hb.mono hsz), HW.out.2.1.below hb, HW.out.2.2.below hb HW.out.2.2.lt⟩)
        have HO3 := Lib.hid (own_below HO.out hb)
        have HG3 := Lib.hid (fun o ho => HG.out.1 _ _ o (HGO.out o ho) hb)
        have hsz3 := HW3.out.1.size
        clear hb hpc HW HO HGO cx
        cases hpr with
        | no hno =>
          have HP := Lib.hid ((parseL_none x).2 hno)
          clear hno hg
          rw [show zO.v = .agg #[.int .i64 0, .int .i64 0, .int .i64 0, .int .i64 0, .slice none 0 0, .string ⟨#[]⟩] from rfl]
          have HB := Lib.hid (HW3.out.1.alloc hsz3 (.cells zO.arr 29))
          go_wp2_with fail
          all_goals go_ret2
          exact ⟨AlR.bad j x os HX.out HE.out HP.out HM.out, HB.out⟩
        | yes o' hr hl' hok =>
          have HGo := Lib.hid (hg o' rfl hok)
          have HP := Lib.hid ((parseL_iff x o'.p).2 ⟨hr, hl'⟩)
          clear hr hl' hok hg
          obtain ⟨Y, hY⟩ : ∃ y, o' = y := ⟨_, rfl⟩
          have HY := Lib.hid hY
          rw [hY] at HGo HP
          clear hY
          have hYa : Y.arr = #[.int .i64 o'.kd, .int .i64 o'.wh, .int .i64 o'.nn, .int .i64 o'.mm, .slice o'.A o'.n o'.c, .string o'.ad] := by rw [← HY.out]; rfl
          have HYA := Lib.hid hYa
          clear hYa
          obtain ⟨k', wh', nn', mm', A', n', c', bs', ad'⟩ := o'
          unfold Op.v
          simp only at HYA ⊢
          have b5 : Below w3.heap.size w3 ((w3.alloc (.cells #[.int .i64 k', .int .i64 wh', .int .i64 nn', .int .i64 mm', .slice A' n' c', .string ad'] 29)).alloc (.cells #[.int .i64 k', .int .i64 wh', .int .i64 nn', .int .i64 mm', .slice A' n' c', .string ad'] 29)) := ((Below.refl _ w3).alloc (Nat.le_refl _) _).alloc (by simp) _
          have HW5 := Lib.hid (show Below w.heap.size w ((w3.alloc (.cells #[.int .i64 k', .int .i64 wh', .int .i64 nn', .int .i64 mm', .slice A' n' c', .string ad'] 29)).alloc (.cells #[.int .i64 k', .int .i64 wh', .int .i64 nn', .int .i64 mm', .slice A' n' c', .string ad'] 29)) ∧ Tab ((w3.alloc (.cells #[.int .i64 k', .int .i64 wh', .int .i64 nn', .int .i64 mm', .slice A' n' c', .string ad'] 29)).alloc (.cells #[.int .i64 k', .int .i64 wh', .int .i64 nn', .int .i64 mm', .slice A' n' c', .string ad'] 29)) ∧ Blk ((w3.alloc (.cells #[.int .i64 k', .int .i64 wh', .int .i64 nn', .int .i64 mm', .slice A' n' c', .string ad'] 29)).alloc (.cells #[.int .i64 k', .int .i64 wh', .int .i64 nn', .int .i64 mm', .slice A' n' c', .string ad'] 29)) w.heap.size 9 (ls.map Value.string).toArray from
            ⟨HW3.out.1.trans (b5.mono hsz3), HW3.out.2.1.below b5, HW3.out.2.2.below b5 HW3.out.2.2.lt⟩)
          have HG5 := Lib.hid (show ∀ o ∈ os ++ [Y], G ((w3.alloc (.cells #[.int .i64 k', .int .i64 wh', .int .i64 nn', .int .i64 mm', .slice A' n' c', .string ad'] 29)).alloc (.cells #[.int .i64 k', .int .i64 wh', .int .i64 nn', .int .i64 mm', .slice A' n' c', .string ad'] 29)) o from fun o ho => by
            rcases List.mem_append.1 ho with ho | ho
            · exact HG.out.1 _ _ o (HG3.out o ho) b5
            · rw [List.mem_singleton.1 ho]; exact HG.out.1 _ _ _ HGo.out b5)
          have HO5 := Lib.hid ((HO3.out.alloc (.cells #[.int .i64 k', .int .i64 wh', .int .i64 nn', .int .i64 mm', .slice A' n' c', .string ad'] 29)).alloc (.cells #[.int .i64 k', .int .i64 wh', .int .i64 nn', .int .i64 mm', .slice A' n' c', .string ad'] 29))
          have hnews := news_blk (w3.alloc (.cells #[.int .i64 k', .int .i64 wh', .int .i64 nn', .int .i64 mm', .slice A' n' c', .string ad'] 29)) #[.int .i64 k', .int .i64 wh', .int .i64 nn', .int .i64 mm', .slice A' n' c', .string ad'] 29
          rw [World.size_alloc] at hnews
          have HNW := Lib.hid hnews
          have hlw3 := HW3.out.2.2.lt
          clear b5 hnews HGo HG3 HW3 HO3
          go_wp2_with (at_builtin; refine wpList_append_own _ rfl _ _ 41 rfl (w.heap.size + 1) 29 i0 (.agg #[.int .i64 0, .int .i64 0, .int .i64 0, .int .i64 0, .slice none 0 0, .string ⟨#[]⟩]) 6 72 Tryd.underlying41 hi hz0 hz1 hz2 rfl (by decide) _ _ _ rfl HO5.out ⟨w3.heap.size + 1, 0, none⟩ 1 1 (#[.int .i64 k', .int .i64 wh', .int .i64 nn', .int .i64 mm', .slice A' n' c', .string ad'] : Array Value).toList rfl rfl HNW.out (by intro u hu; simp at hu; rcases hu with rfl | rfl | rfl | rfl | rfl | rfl <;> rfl) (by unfold maxLen; omega) (by omega) (by simp; omega) ?_; intro v7 w7 hown7 hg7 hx7; clear hx7; refine Hid.out ?_)
          refine Lib.hid ?_
          have H7 := Lib.hid (show Below w.heap.size w w7 ∧ Tab w7 ∧ Blk w7 w.heap.size 9 (ls.map Value.string).toArray from
            ⟨below_own HW5.out.1 HO5.out hg7 (by omega) HW5.out.1.size, HW5.out.2.1.keep hg7.size (fun k hk => hg7.block k (by have := HW5.out.2.1.sz; omega) (own_ne HO5.out (by omega))), HW5.out.2.2.grown hg7 (own_ne HO5.out (by omega))⟩)
          have HG7 := Lib.hid (fun o ho => HG.out.2.1 _ _ o _ _ _ _ (HG5.out o ho) HO5.out hg7)
          have HO7 := Lib.hid hown7
          clear hown7 hg7 HW5 HO5 HG5 HNW
          go_wp2_with fail
          go_roundw
          case rel =>
            refine ⟨j + 1, os ++ [Y], by first | rfl | go_num, by omega, by simp; omega, H7.out, ?_, HG7.out, ?_⟩
            · rw [rowO_snoc, HYA.out, List.length_append]; exact HO7.out
            · rw [full_one HX.out HE.out, List.map_append, HM.out, List.map_append]
              simp [HP.out]
          case measure => simp [intOf]; omega
    · obtain rfl : j = n := by omega
      have HB := Lib.hid hw.1
      have HF := Lib.hid (show (full ls).map parseL = os.map (fun o => some o.p) by rw [List.take_of_length_le (by rw [HN.out]; exact Nat.le_refl _)] at hmap; exact hmap)
      have HO := Lib.hid (And.intro hown hgo)
      clear hw hown hgo hmap
      go_wp2_with fail
      all_goals go_ret2
      exact ⟨AlR.ok _ os HO.out.1 HO.out.2 HF.out, HB.out⟩
theorem all_anyT (G : World → Op → Prop) (hG1 : ∀ W W' o, G W o → Below W.heap.size W W' → G W' o) (hG2 : ∀ (W W' : World) o base v n xs, G W o → W.ownsRow base 29 6 v n xs → W.grownBy W' v.ownBlock → G W' o)
    (hpar : ∀ line W, Tab W → line.size ≤ 300000 → Calls Tryd.prog 16 #[.string line] W fun e w' => (PaR line w' e ∧ ∀ o : Op, e = .returned (.tuple #[o.v, .bool true]) → OpOk w' o → G w' o) ∧ Below W.heap.size W w')
    (text : ByteArray) (w : World) (hT : Tab w) (hs : text.size ≤ 300000) : Calls Tryd.prog 19 #[.string text] w fun e w' => AlR G (w.heap.size + 1) (cutSL text) w' e ∧ Below w.heap.size w w' := by
  refine all_genT G hG1 hG2 hpar text w (cutSL text) (Lib.countB text ⟨#[10]⟩ + 1) (cut_countL text) hT (fun x hx => Nat.le_trans (cut_sizeL text x hx) hs) (by have := cut_lenL text; rw [cut_countL] at this; omega) ?_
  obtain ⟨m, hm⟩ := hT.mx
  refine (Tryd.strings_Split text ⟨#[10]⟩ m _ (by omega) hm (by decide)).mono fun e w' ⟨he, hw⟩ => ⟨?_, ?_⟩
  · rw [he]
  · rw [hw, split_cutL]
/-- An operation whose body lies in a block of bytes. -/
def GO (W : World) (o : Op) : Prop := OpOk W o ∧ Tag W o
theorem GO.below {W W' : World} {o : Op} (h : GO W o) (hb : Below W.heap.size W W') : GO W' o := ⟨h.1.below hb, h.2.below hb⟩
theorem GO.row {W W' : World} {o : Op} {base n : Nat} {v : Value} {xs : List Value} (h : GO W o) (hr : W.ownsRow base 29 6 v n xs) (hg : W.grownBy W' v.ownBlock) : GO W' o := by
  obtain ⟨h1, h2⟩ := h.2.row hr hg
  have k := h.1
  refine ⟨⟨⟨⟨k.y.1.1, fun hn => ?_⟩, k.y.2⟩, k.c0, k.c1, k.k0, k.k1, k.w0, k.w1, k.n0, k.n1, k.m0, k.m1, k.a1⟩, h1⟩
  obtain ⟨ad, e, hb, hc⟩ := k.y.1.2 hn
  refine ⟨ad, e, Nat.lt_of_lt_of_le hb hg.size, fun j u hu => ?_⟩
  rw [← hc j u hu]
  exact World.cell?_of_block (by rw [block_of_add]; exact h2 ad e)
theorem all_strong (text : ByteArray) (w : World) (hT : Tab w) (hs : text.size ≤ 300000) : Calls Tryd.prog 19 #[.string text] w fun e w' => AlR GO (w.heap.size + 1) (cutSL text) w' e ∧ Below w.heap.size w w' :=
  all_anyT GO (fun _ _ _ h hb => h.below hb) (fun _ _ _ _ _ _ _ h hr hg => h.row hr hg) (fun line W hT hs => (parse_anyT line W hT hs).mono fun e w' ⟨⟨h1, h2⟩, h3⟩ => ⟨⟨h1, fun o he ho => ⟨ho, h2 o he⟩⟩, h3⟩) text w hT hs
/-- Under way in the law on texts. -/
structure AI (w : World) (b1 b2 : Nat) (ls : List ByteArray) (vL v : Value) (os : List Op) (W : World) : Prop where
  bel : Below w.heap.size w W
  lr : W.ownsRow b2 9 1 vL ls.length (ls.map Value.string)
  own : W.ownsRow b1 29 6 v os.length (rowO os)
  g : ∀ o ∈ os, GO W o
theorem AI.step {w : World} {b1 b2 : Nat} {ls : List ByteArray} {vL v : Value} {os : List Op} {W W' : World} (h : AI w b1 b2 ls vL v os W) (hb : Below W.heap.size W W') : AI w b1 b2 ls vL v os W' :=
  ⟨thru h.bel hb, own_below h.lr hb, own_below h.own hb, fun o ho => (h.g o ho).below hb⟩
theorem AI.line {w : World} {b1 b2 : Nat} {ls : List ByteArray} {vL v : Value} {os : List Op} {W : World} (h : AI w b1 b2 ls vL v os W) {j : Nat} {x : ByteArray} (hx : ls[j]? = some x) : ∃ g c, vL = .slice (some ⟨g, 0, none⟩) ls.length c ∧ W.cell? ⟨g, j, none⟩ = some (.string x) := by
  have hl := h.lr
  have hj : j < ls.length := (List.getElem?_eq_some_iff.1 hx).1
  obtain ⟨g, cap, hv, _, _⟩ := hl.form (by omega)
  subst hv
  exact ⟨g, cap, rfl, own_at hl (by rw [List.getElem?_map, hx]; rfl)⟩
theorem full_at {ls : List ByteArray} {j : Nat} {x : ByteArray} (hx : ls[j]? = some x) (he : x ≠ em) : (full ls)[(full (ls.take j)).length]? = some x := by
  have h1 : full ls = full (ls.take j) ++ full (ls.drop j) := by
    unfold full
    rw [← List.filter_append, List.take_append_drop]
  obtain ⟨hlt, hxe⟩ := List.getElem?_eq_some_iff.1 hx
  have h2 : full (ls.drop j) = x :: full (ls.drop (j + 1)) := by
    unfold full
    rw [List.drop_eq_getElem_cons hlt, hxe, List.filter_cons, if_pos (by simpa using he)]
  rw [h1, h2, List.getElem?_append_right (Nat.le_refl _), Nat.sub_self]
  rfl
theorem full_mem {ls : List ByteArray} {i j : Nat} {x : ByteArray} (hx : ls[j]? = some x) (he : x ≠ em) (hj : j < i) : x ∈ full (ls.take i) := by
  unfold full
  rw [List.mem_filter]
  exact ⟨List.mem_of_getElem? (i := j) (by rw [List.getElem?_take_of_lt hj]; exact hx), by simpa using he⟩
theorem some_of {xs : List ByteArray} {os : List Op} (h : xs.map parseL = os.map (fun o => some o.p)) {x : ByteArray} (hx : x ∈ xs) : parseL x ≠ none := by
  have h1 : parseL x ∈ xs.map parseL := List.mem_map_of_mem hx
  rw [h] at h1
  obtain ⟨o, _, h2⟩ := List.mem_map.1 h1
  rw [← h2]
  simp
theorem at_op {xs : List ByteArray} {os : List Op} (h : xs.map parseL = os.map (fun o => some o.p)) {k : Nat} {x : ByteArray} (hx : xs[k]? = some x) : ∃ o, os[k]? = some o ∧ parseL x = some o.p := by
  have h1 : (xs.map parseL)[k]? = some (parseL x) := by rw [List.getElem?_map, hx]; rfl
  rw [h, List.getElem?_map] at h1
  cases ho : os[k]? with
  | none => rw [ho] at h1; cases h1
  | some o => rw [ho] at h1; exact ⟨o, rfl, by simpa using h1.symm⟩
theorem par_cases {x : ByteArray} {w : World} {e : Ending} (h : PaR x w e) : (parseL x = none ∧ e = .returned (.tuple #[zO.v, .bool false])) ∨ ∃ o : Op, parseL x = some o.p ∧ OpOk w o ∧ e = .returned (.tuple #[o.v, .bool true]) := by
  cases h with
  | yes o h1 h2 h3 => exact .inr ⟨o, (parseL_iff x o.p).2 ⟨h1, h2⟩, h3, rfl⟩
  | no h1 => exact .inl ⟨(parseL_none x).2 h1, rfl⟩
theorem rowO_at (os : List Op) (k : Nat) (o : Op) (ho : os[k]? = some o) (t : Nat) (ht : t < 6) : (rowO os)[k * 6 + t]? = o.arr[t]? := by
  induction os generalizing k with
  | nil => simp at ho
  | cons a r ih =>
    have ha : a.arr.toList.length = 6 := rfl
    unfold rowO
    rw [List.flatMap_cons]
    cases k with
    | zero =>
      simp only [List.getElem?_cons_zero, Option.some.injEq] at ho
      subst ho
      rw [List.getElem?_append_left (by rw [ha]; omega), Nat.zero_mul, Nat.zero_add, Array.getElem?_toList]
    | succ k =>
      rw [List.getElem?_append_right (by rw [ha]; omega), ha, show (k + 1) * 6 + t - 6 = k * 6 + t by omega]
      exact ih k (by simpa using ho)
set_option maxRecDepth 100000 in
set_option maxHeartbeats 4000000 in
/-- ScriptAlls. -/
theorem alls_any (s : ByteArray) (w : World) (hT : Tab w) (hs : s.size ≤ maxLen) :
    Calls Tryd.prog 7 #[.string s] w fun e w' => e = .returned (.bool true) ∧ Below w.heap.size w w' := by
  have haw := awake_any w hT
  have HAW := Lib.hid (fun W (hW : Tab W) => awake_any W hW)
  have HT := Lib.hid hT
  unfold maxLen at hs
  clear hT
  by_cases h2 : s.size ≤ 3000
  · have hj : (s.size : Int) ≤ 3000 := by omega
    go_enter Tryd.func7, Tryd.ntmps7
    go_wp2_with (go_at_call 9; refine haw.mono ?_; rintro _ w1 ⟨rfl, hb⟩; refine Hid.out ?_)
    refine Lib.hid ?_
    have B1 := Lib.hid hb
    have hl := all_strong s w1 (HT.out.below hb) (by omega)
    have hzl := cut_sizeL s
    have hnl := cut_lenL s
    have hcl := cut_countL s
    obtain ⟨ls, hls⟩ : ∃ l, cutSL s = l := ⟨_, rfl⟩
    rw [hls] at hl hzl hnl hcl
    have HLS := Lib.hid hls
    have HZL := Lib.hid hzl
    obtain ⟨M, hM⟩ : ∃ m, ls.length = m := ⟨_, rfl⟩
    have HM := Lib.hid hM
    rw [hM] at hnl hcl
    have hM1 : M ≤ 3001 := by omega
    clear hb haw hls hzl hM hnl hcl
    go_wp2_with (go_at_call 19; refine hl.mono ?_; rintro _ w2 ⟨har, hb⟩; refine Hid.out ?_)
    refine Lib.hid ?_
    have B2 := Lib.hid (thru B1.out hb)
    have hw := words_anyL s w2 (by omega)
    rw [HLS.out] at hw
    clear hb hl B1
    cases har with
    | bad i xb os hxb hxe hxn hmap =>
      have HI := Lib.hid (And.intro hxb (And.intro hxe (And.intro hxn hmap)))
      have hiM : i < M := by rw [← HM.out]; exact (List.getElem?_eq_some_iff.1 hxb).1
      clear hxb hxe hxn hmap
      go_wp2_with (go_at_call 20; refine hw.mono ?_; rintro _ w3 ⟨⟨vL, rfl, ho⟩, hb⟩; refine Hid.out ?_)
      refine Lib.hid ?_
      obtain ⟨AL, cL, rfl⟩ := own_form ho
      have hA0 : AI w w.heap.size w2.heap.size ls (.slice AL ls.length cL) (.slice none 0 0) [] w3 := ⟨thru B2.out hb, ho, World.ownsRow_nil _ _ _ _, by simp⟩
      have HA0 := Lib.hid hA0
      rw [HM.out]
      clear hb hw ho hA0 B2
      go_wp2_with fail
      go_loopw [7, 6] (fun a b wr => ∃ j : Nat, a = .int .i64 j ∧ b = .int .i64 ((full (ls.take j)).length : Nat) ∧ j ≤ i ∧ AI w w.heap.size w2.heap.size ls (.slice AL ls.length cL) (.slice none 0 0) [] wr) (fun a b _ => M - (intOf a).toNat)
      case atStart => exact ⟨0, rfl, rfl, Nat.zero_le _, HA0.out⟩
      case round =>
        clear HA0
        obtain ⟨j, rfl, rfl, hji, hai⟩ := hrel
        obtain ⟨x, hx⟩ : ∃ x, ls[j]? = some x := ⟨_, List.getElem?_eq_getElem (by rw [HM.out]; omega)⟩
        obtain ⟨g, c, hv, hc⟩ := hai.line hx
        injection hv with hv1 _ hv2
        subst hv1
        have hjM : (j : Int) < (M : Int) := by omega
        have hxz := HZL.out x (List.mem_of_getElem? hx)
        have hpc := rparse_any x wr (by omega)
        have hpc2 := hpc.mono (fun e w' h => And.intro (par_cases h.1) h.2)
        have HAI := Lib.hid hai
        have HX := Lib.hid hx
        have hglt := lt_of_cell hc
        simp only at hglt
        obtain ⟨F, hF⟩ : ∃ f, (full (ls.take j)).length = f := ⟨_, rfl⟩
        have hFj : F ≤ j := by
          rw [← hF]
          unfold full
          exact Nat.le_trans (List.length_filter_le _ _) (by rw [List.length_take]; exact Nat.min_le_left _ _)
        rw [hF]
        have HF := Lib.hid hF
        clear hai hx hpc hF hv2
        by_cases he : x = em
        · have HE := Lib.hid he
          have hjni : j ≠ i := by
            rintro rfl
            have h1 := HI.out.1
            rw [HX.out] at h1
            injection h1 with h1
            exact HI.out.2.1 (h1.symm.trans he)
          clear he hpc2
          obtain rfl : x = ByteArray.empty := HE.out
          go_wp2_with fail
          go_roundw
          case rel => exact ⟨j + 1, by first | rfl | go_num, by rw [full_skip HX.out, HF.out], by omega, HAI.out⟩
          case measure => simp [intOf]; omega
        · have h1 : (x.toList == []) = false := by
            have := toList_ne he
            rwa [show em.toList = [] by first | rfl | simp [em]] at this
          have HE := Lib.hid he
          clear he
          go_wp2_with (go_at_call 18; refine hpc2.mono ?_; rintro _ w5 ⟨⟨hpn, rfl⟩ | ⟨o2, hps, hok, rfl⟩, hb⟩; all_goals refine Hid.out ?_)
          · refine Lib.hid ?_
            have hij : j = i := by
              rcases Nat.lt_or_ge j i with h | h
              · exact absurd hpn (some_of HI.out.2.2.2 (full_mem HX.out HE.out h))
              · omega
            have HB := Lib.hid (thru (HAI.out.step hb).bel (below_new w5 (.cells zO.arr 24)))
            subst hij
            clear hb hpn hpc2
            rw [show zO.v = .agg #[.int .i64 0, .int .i64 0, .int .i64 0, .int .i64 0, .slice none 0 0, .string ⟨#[]⟩] from rfl]
            go_wp2_with fail
            all_goals go_ret
            exact ⟨by first | rfl | simp, HB.out⟩
          · refine Lib.hid ?_
            have hjni : j ≠ i := by
              rintro rfl
              have h1 := HI.out.1
              rw [HX.out] at h1
              injection h1 with h1
              rw [h1, HI.out.2.2.1] at hps
              cases hps
            have HB := Lib.hid ((HAI.out.step hb).step (below_new w5 (.cells o2.arr 24)))
            clear hb hps hpc2 hok
            obtain ⟨k2, wh2, nn2, mm2, A2, n2, c2, bs2, ad2⟩ := o2
            unfold Op.v
            unfold Op.arr at HB
            simp only at HB ⊢
            go_wp2_with fail
            go_roundw
            case rel => exact ⟨j + 1, by first | rfl | go_num, by rw [full_one HX.out HE.out, List.length_append, HF.out]; first | rfl | go_num, by omega, HB.out⟩
            case measure => simp [intOf]; omega
    | ok v os hown hgo hmap =>
      have HO := Lib.hid hmap
      have hol : os.length = (full ls).length := by have := congrArg List.length hmap; simpa using this.symm
      have HOL := Lib.hid hol
      obtain ⟨Av, cv, rfl⟩ := own_form hown
      have hfM : (full ls).length ≤ M := by
        rw [← HM.out]; unfold full; exact List.length_filter_le _ _
      have hoM : os.length ≤ 3001 := by omega
      have HOWN := Lib.hid (And.intro hown hgo)
      obtain ⟨K, hK⟩ : ∃ k, os.length = k := ⟨_, rfl⟩
      have HKK := Lib.hid hK
      rw [hK] at hoM ⊢
      clear hmap hown hgo hK hfM hol
      go_wp2_with (go_at_call 20; refine hw.mono ?_; rintro _ w3 ⟨⟨vL, rfl, ho⟩, hb⟩; refine Hid.out ?_)
      refine Lib.hid ?_
      obtain ⟨AL, cL, rfl⟩ := own_form ho
      have hA0 : AI w (w1.heap.size + 1) w2.heap.size ls (.slice AL ls.length cL) (.slice Av os.length cv) os w3 := ⟨thru B2.out hb, ho, own_below HOWN.out.1 hb, fun o h => (HOWN.out.2 o h).below hb⟩
      have HA0 := Lib.hid hA0
      rw [HM.out]
      clear hb hw ho hA0 B2 HOWN
      go_wp2_with fail
      go_loopw [7, 6] (fun a b wr => ∃ j : Nat, a = .int .i64 j ∧ b = .int .i64 ((full (ls.take j)).length : Nat) ∧ j ≤ M ∧ AI w (w1.heap.size + 1) w2.heap.size ls (.slice AL ls.length cL) (.slice Av os.length cv) os wr) (fun a b _ => M - (intOf a).toNat)
      case atStart => exact ⟨0, rfl, rfl, Nat.zero_le _, HA0.out⟩
      case round =>
        clear HA0
        obtain ⟨j, rfl, rfl, hjM, hai⟩ := hrel
        obtain ⟨F, hF⟩ : ∃ f, (full (ls.take j)).length = f := ⟨_, rfl⟩
        have hFj : F ≤ j := by
          rw [← hF]
          unfold full
          exact Nat.le_trans (List.length_filter_le _ _) (by rw [List.length_take]; exact Nat.min_le_left _ _)
        rw [hF]
        by_cases hlt : j < M
        · obtain ⟨x, hx⟩ : ∃ x, ls[j]? = some x := ⟨_, List.getElem?_eq_getElem (by rw [HM.out]; omega)⟩
          obtain ⟨g, c, hv, hc⟩ := hai.line hx
          injection hv with hv1 _ hv2
          subst hv1
          have hji : (j : Int) < (M : Int) := by omega
          have hxz := HZL.out x (List.mem_of_getElem? hx)
          have hpc := rparse_any x wr (by omega)
          have hpc2 := hpc.mono (fun e w' h => And.intro (par_cases h.1) h.2)
          have HAI := Lib.hid hai
          have HX := Lib.hid hx
          have hglt := lt_of_cell hc
          simp only at hglt
          have HF := Lib.hid hF
          clear hai hx hpc hF hv2
          by_cases he : x = em
          · have HE := Lib.hid he
            clear he hpc2
            obtain rfl : x = ByteArray.empty := HE.out
            go_wp2_with fail
            go_roundw
            case rel => exact ⟨j + 1, by first | rfl | go_num, by rw [full_skip HX.out, HF.out], by omega, HAI.out⟩
            case measure => simp [intOf]; omega
          · have h1 : (x.toList == []) = false := by
              have := toList_ne he
              rwa [show em.toList = [] by first | rfl | simp [em]] at this
            have HE := Lib.hid he
            clear he
            go_wp2_with (go_at_call 18; refine hpc2.mono ?_; rintro _ w5 ⟨⟨hpn, rfl⟩ | ⟨o2, hps, hok, rfl⟩, hb⟩; all_goals refine Hid.out ?_)
            · exact absurd hpn (some_of HO.out (by have := full_mem HX.out HE.out hlt; rwa [List.take_of_length_le (by rw [HM.out]; exact Nat.le_refl _)] at this))
            · refine Lib.hid ?_
              have HB := Lib.hid ((HAI.out.step hb).step (below_new w5 (.cells o2.arr 24)))
              clear hb hps hpc2 hok
              obtain ⟨k2, wh2, nn2, mm2, A2, n2, c2, bs2, ad2⟩ := o2
              unfold Op.v
              unfold Op.arr at HB
              simp only at HB ⊢
              go_wp2_with fail
              go_roundw
              case rel => exact ⟨j + 1, by first | rfl | go_num, by rw [full_one HX.out HE.out, List.length_append, HF.out]; first | rfl | go_num, by omega, HB.out⟩
              case measure => simp [intOf]; omega
        · obtain rfl : j = M := by omega
          have hFK : F = K := by rw [← hF, List.take_of_length_le (by rw [HM.out]; exact Nat.le_refl _), ← HOL.out, HKK.out]
          have HAI := Lib.hid hai
          subst hFK
          clear hai hF
          go_wp2_with fail
          go_loopw [11, 10] (fun a b wr => ∃ j2 : Nat, a = .int .i64 j2 ∧ b = .int .i64 ((full (ls.take j2)).length : Nat) ∧ j2 ≤ j ∧ AI w (w1.heap.size + 1) w2.heap.size ls (.slice AL ls.length cL) (.slice Av os.length cv) os wr) (fun a b _ => j - (intOf a).toNat)
          case atStart => exact ⟨0, rfl, rfl, Nat.zero_le _, HAI.out⟩
          case round =>
            clear HAI
            obtain ⟨i, rfl, rfl, hiM, hai⟩ := hrel
            obtain ⟨k, hk⟩ : ∃ f, (full (ls.take i)).length = f := ⟨_, rfl⟩
            have hki : k ≤ i := by
              rw [← hk]
              unfold full
              exact Nat.le_trans (List.length_filter_le _ _) (by rw [List.length_take]; exact Nat.min_le_left _ _)
            rw [hk]
            by_cases hlt2 : i < j
            · obtain ⟨x, hx⟩ : ∃ x, ls[i]? = some x := ⟨_, List.getElem?_eq_getElem (by rw [HM.out]; omega)⟩
              obtain ⟨g, c, hv, hc⟩ := hai.line hx
              injection hv with hv1 _ hv2
              subst hv1
              have hji : (i : Int) < (j : Int) := by omega
              have hxz := HZL.out x (List.mem_of_getElem? hx)
              have hpc := rparse_any x wr (by omega)
              have hpc2 := hpc.mono (fun e w' h => And.intro (par_cases h.1) h.2)
              have HAI := Lib.hid hai
              have HX := Lib.hid hx
              have hglt := lt_of_cell hc
              simp only at hglt
              have HF := Lib.hid hk
              clear hai hx hpc hk hv2
              by_cases he : x = em
              · have HE := Lib.hid he
                clear he hpc2
                obtain rfl : x = ByteArray.empty := HE.out
                go_wp2_with fail
                go_roundw
                case rel => exact ⟨i + 1, by first | rfl | go_num, by rw [full_skip HX.out, HF.out], by omega, HAI.out⟩
                case measure => simp [intOf]; omega
              · have h1 : (x.toList == []) = false := by
                  have := toList_ne he
                  rwa [show em.toList = [] by first | rfl | simp [em]] at this
                have HE := Lib.hid he
                clear he
                obtain ⟨o, ho, hpo⟩ := at_op HO.out (by have := full_at HX.out HE.out; rwa [HF.out] at this)
                have hkK : k < F := by have := (List.getElem?_eq_some_iff.1 ho).1; rw [HKK.out] at this; exact this
                obtain ⟨gv, cap, hgv, _, hgvl⟩ := HAI.out.own.form (by rw [HKK.out]; omega)
                injection hgv with hgv1 _ hgv2
                subst hgv1
                have HPO := Lib.hid (And.intro ho hpo)
                clear ho hpo hgv2
                go_wp2_with (go_at_call 18; refine hpc2.mono ?_; rintro _ w5 ⟨⟨hpn, rfl⟩ | ⟨o2, hps, hok, rfl⟩, hb⟩; all_goals refine Hid.out ?_)
                · rw [HPO.out.2] at hpn; cases hpn
                · refine Lib.hid ?_
                  have hpe : o.p = o2.p := by rw [HPO.out.2] at hps; injection hps
                  have b6 := below_new w5 (.cells o2.arr 24)
                  have hA6 := (HAI.out.step hb).step b6
                  have k6 := Blk.new w5 24 o2.arr
                  have hok6 := hok.below b6
                  have HB := Lib.hid (show AI w (w1.heap.size + 1) w2.heap.size ls (.slice (some ⟨g, 0, none⟩) ls.length cL) (.slice (some ⟨gv, 0, none⟩) os.length cv) os (w5.alloc (.cells o2.arr 24)) ∧ Blk (w5.alloc (.cells o2.arr 24)) w5.heap.size 24 o2.arr from ⟨hA6, k6⟩)
                  have hup : ∀ d os', AI w (w1.heap.size + 1) w2.heap.size ls (.slice (some ⟨g, 0, none⟩) ls.length cL) (.slice (some ⟨gv, 0, none⟩) os.length cv) os (grow (redrawn (w5.alloc (.cells o2.arr 24)) d) os') := fun d os' => hA6.step (below_regrown _ d os')
                  have HSM := Lib.hid (fun d os' => show Calls Tryd.prog 13 #[o.v, o2.v] (grow (redrawn (w5.alloc (.cells o2.arr 24)) d) os') (fun e w' => e = .returned (.bool true) ∧ Below (grow (redrawn (w5.alloc (.cells o2.arr 24)) d) os').heap.size (grow (redrawn (w5.alloc (.cells o2.arr 24)) d) os') w') from by
                    have h := rsameo_any o o2 _ ((hup d os').g o (List.mem_of_getElem? HPO.out.1)).1 (hok6.below (below_regrown _ d os'))
                    rwa [show opEq o o2 = true from (opEq_iff _ _).2 hpe] at h)
                  have HRG := Lib.hid (show ∀ w', (∃ p : Regrown, w' = grow (redrawn (w5.alloc (.cells o2.arr 24)) p.d) p.os) → w'.rangeAt gv (k * 6) o.arr.toList from by
                    rintro _ ⟨p, rfl⟩ t u ht
                    have h := (hup p.d p.os).own.cells (g := gv) rfl (k * 6 + t) u (by rw [rowO_at os k o HPO.out.1 t (by have := (List.getElem?_eq_some_iff.1 ht).1; exact this)]; simpa using ht)
                    rw [add_none, Nat.zero_add] at h
                    exact h)
                  have HK6 := Lib.hid (show Blk (w5.alloc (.cells o2.arr 24)) w5.heap.size 24 o2.arr from k6)
                  have hkki : (k : Int) < (F : Int) := by omega
                  have hoa : o.v = .agg o.arr := rfl
                  rw [hoa] at HSM
                  clear hb hps hpc2 hok hpe b6 hA6 k6 hok6 hup hoa
                  obtain ⟨OA, hOA⟩ : ∃ a, o.arr = a := ⟨_, rfl⟩
                  rw [hOA] at HRG HSM
                  have hOS : OA.size = 6 := by rw [← hOA]; rfl
                  clear hOA
                  obtain ⟨k2, wh2, nn2, mm2, A2, n2, c2, bs2, ad2⟩ := o2
                  unfold Op.v at HSM ⊢
                  unfold Op.arr at HB HSM HRG HK6
                  simp only at HB HSM HRG HK6 ⊢
                  go_wp2_with fail
                  refine wp_region_quiet_below (by kernel_rfl) (by kernel_rfl) ?_
                  repeat (first
                    | go_big_quiet_skip
                    | (refine wpQuiet_load_row rfl 29 (.tmp 89) rfl gv (k * 6) rfl OA.toList _ HRG.out Tryd.underlying29 rfl (by rw [show OA.toList.length = 6 from hOS]; kernel_rfl) ?_)
                    | (refine wpQuiet_load_row rfl 24 (.tmp 12) rfl w5.heap.size 0 rfl _ _ (Blk.up HK6.out) Tryd.underlying24 rfl (by kernel_rfl) ?_)
                    | quiet_step ((go_at_call 13; with_reducible exact Calls.regrown_of (HSM.out _ _))))
                  refine wpQuiet_nil ?_
                  rintro _ ⟨⟨dq, osq⟩, rfl⟩
                  have HB8 := Lib.hid (HB.out.1.step (below_regrown _ dq osq))
                  clear HB HK6 HSM HRG hOS
                  generalize grow (redrawn (w5.alloc (.cells #[.int .i64 k2, .int .i64 wh2, .int .i64 nn2, .int .i64 mm2, .slice A2 n2 c2, .string ad2] 24)) dq) osq = w8 at *
                  go_wp2_with fail
                  go_roundw
                  case rel => exact ⟨i + 1, by first | rfl | go_num, by rw [full_one HX.out HE.out, List.length_append, HF.out]; first | rfl | go_num, by omega, HB8.out⟩
                  case measure => simp [intOf]; omega
            · obtain rfl : i = j := by omega
              have HB := Lib.hid hai.bel
              clear hai hk
              go_wp2_with fail
              all_goals go_ret
              exact ⟨by first | rfl | simp, HB.out⟩
  · have hj2 : (3000 : Int) < (s.size : Int) := by omega
    go_enter Tryd.func7, Tryd.ntmps7
    go_wp2_with (go_at_call 9; refine haw.mono ?_; rintro _ w1 ⟨rfl, hb⟩; refine Hid.out ?_)
    refine Lib.hid ?_
    have B1 := Lib.hid hb
    have ha2 := HAW.out w1 (HT.out.below hb)
    clear hb haw
    go_wp2_with (go_at_call 9; refine ha2.mono ?_; rintro _ w2 ⟨rfl, hb⟩)
    all_goals go_ret
    exact ⟨rfl, thru B1.out hb⟩
end Go.Proofs.YtbkgmeopdcealaaDoor
