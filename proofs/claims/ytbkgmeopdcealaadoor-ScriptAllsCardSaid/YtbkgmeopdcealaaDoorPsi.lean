import Derived.Test.YtbkgmeopdcealaaDoorLin
namespace Go.Proofs.YtbkgmeopdcealaaDoor
open Go.ChangeShapes Go.WideShapes Go.ChangeAt Go.RowKit Go.Sort Go.Deep
set_option linter.unusedVariables false
set_option linter.unusedSimpArgs false
theorem join_two (x y : List UInt8) (r : List (List UInt8)) : Lib.join (x :: y :: r) [32] = x ++ 32 :: Lib.join (y :: r) [32] := by
  rw [Lib.join_cons, Lib.join_cons]
  simp [Lib.joinTail]
theorem join_spl : ∀ l : List UInt8, Lib.join (spl l) [32] = l
  | [] => by rw [spl_nil, Lib.join_one]
  | c :: l => by
    have ih := join_spl l
    have hne := spl_ne l
    by_cases h : c = 32
    · subst h
      rw [spl_sp]
      cases hs : spl l with
      | nil => exact absurd hs hne
      | cons y r => rw [join_two, ← hs, ih]; rfl
    · rw [spl_no h]
      cases hs : spl l with
      | nil => exact absurd hs hne
      | cons y r =>
        rw [hs] at ih
        show Lib.join ((c :: y) :: r) [32] = _
        rw [Lib.join_cons] at ih ⊢
        rw [List.cons_append, ih]
theorem join_cut (s : ByteArray) : joinS (cutS s) = s := by
  unfold joinS cutS
  rw [List.map_map]
  have : (spl s.data.toList).map ((fun (x : ByteArray) => x.data.toList) ∘ fun (l : List UInt8) => (⟨l.toArray⟩ : ByteArray)) = spl s.data.toList := by
    rw [show ((fun (x : ByteArray) => x.data.toList) ∘ fun (l : List UInt8) => (⟨l.toArray⟩ : ByteArray)) = id by funext l; rfl]; simp
  rw [this, join_spl]
theorem OpOk.setRes {W : World} {g : Nat} {o : Op} (h : OpOk W o) (hK : Blk W g 29 zO.arr) (cs : List Value) : OpOk (W.setCells g 0 cs) o := by
  refine ⟨⟨⟨h.y.1.1, fun hn => ?_⟩, h.y.2⟩, h.c0, h.c1, h.k0, h.k1, h.w0, h.w1, h.n0, h.n1, h.m0, h.m1, h.a1⟩
  obtain ⟨ad, e, hb, hc⟩ := h.y.1.2 hn
  have hsz : ∀ (vs : List Value) (o : Nat) (w : World), (w.setCells g o vs).heap.size = w.heap.size := by
    intro vs
    induction vs with
    | nil => intro o w; rfl
    | cons v r ih => intro o w; rw [World.setCells, ih]; exact World.size_setCell _ _ _
  have hne : ad.block ≠ g := by
    rintro rfl
    have hl := h.y.len
    obtain ⟨b, bo, x, hA, _, _, _, hcx⟩ := h.y.cell (k := 0) hn
    rw [e] at hA
    injection hA with hA
    subst hA
    have hz := hK.cell (bo + 0)
    rw [hcx] at hz
    have : ∀ (i : Nat) (x : Int), zO.arr[i]? = some (.int .u8 x) → False := by
      intro i x hi
      have hi6 : i < 6 := (Array.getElem?_eq_some_iff.1 hi).1
      rcases (show i = 0 ∨ i = 1 ∨ i = 2 ∨ i = 3 ∨ i = 4 ∨ i = 5 by omega) with rfl | rfl | rfl | rfl | rfl | rfl <;> simp [zO, Op.arr] at hi
    exact this _ _ hz.symm
  refine ⟨ad, e, by rw [hsz]; exact hb, fun j u hu => ?_⟩
  rw [← hc j u hu]
  exact World.cell?_of_block (setCells_heap g cs 0 W _ (by rw [block_of_add]; exact hne))
/-- Under way in Parse: behind the words and the readers. -/
structure PI (w : World) (xs : List ByteArray) (m p1 q1 p2 q2 p3 q3 : Nat) (W : World) : Prop where
  lo : 10 ≤ w.heap.size
  bel : Below w.heap.size w W
  tab : Tab W
  res : Blk W w.heap.size 29 zO.arr
  wd : Blk W (w.heap.size + 1) 9 (xs.map Value.string).toArray
  rd : Rdrs W m p1 q1 p2 q2 p3 q3
section
variable {w W W' : World} {xs : List ByteArray} {m p1 q1 p2 q2 p3 q3 B it pos : Nat} {rf : ByteArray} {o : Op}
theorem PI.below (h : PI w xs m p1 q1 p2 q2 p3 q3 W) (hb : Below W.heap.size W W') : PI w xs m p1 q1 p2 q2 p3 q3 W' :=
  ⟨h.lo, h.bel.trans (hb.mono h.bel.size), h.tab.below hb, h.res.below hb h.res.lt, h.wd.below hb h.wd.lt, h.rd.below hb⟩
theorem PI.alloc (h : PI w xs m p1 q1 p2 q2 p3 q3 W) (ob : Obj) : PI w xs m p1 q1 p2 q2 p3 q3 (W.alloc ob) := h.below ((Below.refl _ W).alloc (Nat.le_refl _) ob)
theorem PI.only (h : PI w xs m p1 q1 p2 q2 p3 q3 W) {cs : Array Value} (hK : Blk W B 29 cs) (hB : w.heap.size + 2 ≤ B) (hg : W.grownBy W' (some B)) : PI w xs m p1 q1 p2 q2 p3 q3 W' := by
  have := h.lo
  exact ⟨h.lo, below_only h.bel hg h.bel.size (by omega), h.tab.only hg (by omega), h.res.only hg (by omega), h.wd.only hg (by omega), h.rd.only hK hg⟩
theorem iter_ne {k g : Nat} {cs : Array Value} {t : TypeId} (hi : W.heap[it]? = some (.stringIter rf pos)) (h : W.heap[k]? = some (.cells cs t (0, 0))) : k ≠ it := by
  rintro rfl; rw [hi] at h; cases h
theorem PI.iter (h : PI w xs m p1 q1 p2 q2 p3 q3 W) (hi : W.heap[it]? = some (.stringIter rf pos)) (hl : w.heap.size ≤ it) : PI w xs m p1 q1 p2 q2 p3 q3 (W.iterAt it rf (pos + 1)) := by
  have hs : (W.iterAt it rf (pos + 1)).heap.size = W.heap.size := by simp [World.iterAt]
  have hk : ∀ k, k ≠ it → (W.iterAt it rf (pos + 1)).heap[k]? = W.heap[k]? := fun k hk => iter_other _ _ _ _ _ hk
  have hlo := h.lo
  refine ⟨h.lo, h.bel.trans ⟨rfl, rfl, rfl, by rw [hs]; exact Nat.le_refl _, fun k hk2 => hk k (by omega)⟩, h.tab.keep (by rw [hs]; exact Nat.le_refl _) (fun k hk2 => hk k (by omega)), (hk _ (iter_ne (g := 0) hi h.res)).trans h.res, (hk _ (iter_ne (g := 0) hi h.wd)).trans h.wd, h.rd.keep fun k hk2 => hk k ?_⟩
  rcases hk2 with rfl | rfl | rfl | rfl | rfl | rfl | rfl
  · rintro rfl
    have := h.rd.map
    rw [hi] at this; cases this
  · exact iter_ne (g := 0) hi h.rd.a1
  · exact iter_ne (g := 0) hi h.rd.b1
  · exact iter_ne (g := 0) hi h.rd.a2
  · exact iter_ne (g := 0) hi h.rd.b2
  · exact iter_ne (g := 0) hi h.rd.a3
  · exact iter_ne (g := 0) hi h.rd.b3
/-- Under way in the fields of a rule. -/
structure QI (w : World) (xs : List ByteArray) (m p1 q1 p2 q2 p3 q3 B it : Nat) (rf : ByteArray) (pos : Nat) (o : Op) (W : World) : Prop where
  pi : PI w xs m p1 q1 p2 q2 p3 q3 W
  op : Blk W B 29 o.arr
  ok : OpOk W o
  off : Off o B
  itr : W.heap[it]? = some (.stringIter rf pos)
  hB : w.heap.size + 2 ≤ B
  hit : w.heap.size ≤ it
theorem QI.step (h : QI w xs m p1 q1 p2 q2 p3 q3 B it rf pos o W) : QI w xs m p1 q1 p2 q2 p3 q3 B it rf (pos + 1) o (W.iterAt it rf (pos + 1)) := by
  have hs : (W.iterAt it rf (pos + 1)).heap.size = W.heap.size := by simp [World.iterAt]
  refine ⟨h.pi.iter h.itr h.hit, (iter_other _ _ _ _ _ (iter_ne (g := 0) h.itr h.op)).trans h.op, ?_, h.off, Lib.iterAt_heap W _ rf pos (pos + 1) h.itr, h.hB, h.hit⟩
  have k := h.ok
  refine ⟨⟨⟨k.y.1.1, fun hn => ?_⟩, k.y.2⟩, k.c0, k.c1, k.k0, k.k1, k.w0, k.w1, k.n0, k.n1, k.m0, k.m1, k.a1⟩
  obtain ⟨ad, e, hb2, hcc⟩ := k.y.1.2 hn
  refine ⟨ad, e, by rw [hs]; exact hb2, fun j u hu => ?_⟩
  rw [← hcc j u hu]
  refine World.cell?_of_block (iter_other _ _ _ _ _ (fun e2 => ?_))
  have h3 := hcc j u hu
  rw [World.cell?, e2, h.itr] at h3
  cases h3
theorem QI.got {f : Nat} {x : ByteArray} (h : QI w xs m p1 q1 p2 q2 p3 q3 B it rf pos o W) (hg : Got f x B o W true W') : ∃ o', readF f x o.p = some o'.p ∧ QI w xs m p1 q1 p2 q2 p3 q3 B it rf pos o' W' := by
  obtain ⟨o', e, hk, ho, hf⟩ := hg.yes rfl
  refine ⟨o', e, h.pi.only h.op h.hB hg.gr, hk, ho, hf, (hg.gr.block it (Array.getElem?_eq_some_iff.1 h.itr).1 ?_).trans h.itr, h.hB, h.hit⟩
  intro e2
  injection e2 with e2
  exact iter_ne (g := 0) h.itr h.op e2.symm
/-! ### the six readers -/
theorem rd_num {f mx p q : Nat} {x : ByteArray} (hmx : mx ≤ 2000000) (hrd : ∀ o : Op, readF f x o.p = if numB x mx = true then some (Op.p ⟨o.kd, o.wh, (dvS x : Nat), o.mm, o.A, o.n, o.c, o.bs, o.ad⟩) else none)
    (hx : x.size ≤ 1000000) (hT : Tab W) (hK : Blk W B 29 o.arr) (hO : OpOk W o) (hF : Off o B) (Kp : Blk W p 3 #[.int .i64 (mx : Int)]) (Kq : Blk W q 68 #[.func (.func 42) #[] #[]]) (hB : 10 ≤ B) :
    Calls Tryd.prog 40 #[.pointer (some ⟨B, 0, none⟩), .string x, .pointer (some ⟨p, 0, none⟩), .pointer (some ⟨q, 0, none⟩)] W fun e w' => ∃ b, e = .returned (.bool b) ∧ Got f x B o W b w' :=
  (read_nn x B mx p q o W hmx hx hT hK Kp Kq hB).mono fun e w' ⟨he, hg, hy⟩ => ⟨_, he, by
    have hr := hrd o
    cases hb : numB x mx with
    | false => rw [hb] at hr; exact Got.bad hg hr
    | true =>
      rw [hb] at hr
      have h := hO.only hg hF
      have hd := (num_back hb).2
      exact Got.good (o' := ⟨o.kd, o.wh, (dvS x : Nat), o.mm, o.A, o.n, o.c, o.bs, o.ad⟩) hg hr (hy hb) ⟨h.y, h.c0, h.c1, h.k0, h.k1, h.w0, h.w1, by simp only; omega, by simp only; omega, h.m0, h.m1, h.a1⟩ hF⟩
theorem rd_num2 {f mx p q : Nat} {x : ByteArray} (hmx : mx ≤ 2000000) (hrd : ∀ o : Op, readF f x o.p = if numB x mx = true then some (Op.p ⟨o.kd, o.wh, o.nn, (dvS x : Nat), o.A, o.n, o.c, o.bs, o.ad⟩) else none)
    (hx : x.size ≤ 1000000) (hT : Tab W) (hK : Blk W B 29 o.arr) (hO : OpOk W o) (hF : Off o B) (Kp : Blk W p 3 #[.int .i64 (mx : Int)]) (Kq : Blk W q 68 #[.func (.func 43) #[] #[]]) (hB : 10 ≤ B) :
    Calls Tryd.prog 40 #[.pointer (some ⟨B, 0, none⟩), .string x, .pointer (some ⟨p, 0, none⟩), .pointer (some ⟨q, 0, none⟩)] W fun e w' => ∃ b, e = .returned (.bool b) ∧ Got f x B o W b w' :=
  (read_mm x B mx p q o W hmx hx hT hK Kp Kq hB).mono fun e w' ⟨he, hg, hy⟩ => ⟨_, he, by
    have hr := hrd o
    cases hb : numB x mx with
    | false => rw [hb] at hr; exact Got.bad hg hr
    | true =>
      rw [hb] at hr
      have h := hO.only hg hF
      have hd := (num_back hb).2
      exact Got.good (o' := ⟨o.kd, o.wh, o.nn, (dvS x : Nat), o.A, o.n, o.c, o.bs, o.ad⟩) hg hr (hy hb) ⟨h.y, h.c0, h.c1, h.k0, h.k1, h.w0, h.w1, h.n0, h.n1, by simp only; omega, by simp only; omega, h.a1⟩ hF⟩
theorem QI.call_n (h : QI w xs m p1 q1 p2 q2 p3 q3 B it rf pos o W) (x : ByteArray) (hx : x.size ≤ 1000000) :
    Calls Tryd.prog 40 #[.pointer (some ⟨B, 0, none⟩), .string x, .pointer (some ⟨p1, 0, none⟩), .pointer (some ⟨q1, 0, none⟩)] W fun e w' => ∃ b, e = .returned (.bool b) ∧ Got 110 x B o W b w' :=
  rd_num (mx := 999) (by omega) (fun o => readF_n x o.p) hx h.pi.tab h.op h.ok h.off h.pi.rd.a1 h.pi.rd.b1 (by have := h.hB; have := h.pi.lo; omega)
theorem QI.call_t (h : QI w xs m p1 q1 p2 q2 p3 q3 B it rf pos o W) (x : ByteArray) (hx : x.size ≤ 1000000) :
    Calls Tryd.prog 40 #[.pointer (some ⟨B, 0, none⟩), .string x, .pointer (some ⟨p2, 0, none⟩), .pointer (some ⟨q2, 0, none⟩)] W fun e w' => ∃ b, e = .returned (.bool b) ∧ Got 116 x B o W b w' :=
  rd_num (mx := 1048576) (by omega) (fun o => readF_t x o.p) hx h.pi.tab h.op h.ok h.off h.pi.rd.a2 h.pi.rd.b2 (by have := h.hB; have := h.pi.lo; omega)
theorem QI.call_m (h : QI w xs m p1 q1 p2 q2 p3 q3 B it rf pos o W) (x : ByteArray) (hx : x.size ≤ 1000000) :
    Calls Tryd.prog 40 #[.pointer (some ⟨B, 0, none⟩), .string x, .pointer (some ⟨p3, 0, none⟩), .pointer (some ⟨q3, 0, none⟩)] W fun e w' => ∃ b, e = .returned (.bool b) ∧ Got 109 x B o W b w' :=
  rd_num2 (mx := 999) (by omega) (fun o => readF_m x o.p) hx h.pi.tab h.op h.ok h.off h.pi.rd.a3 h.pi.rd.b3 (by have := h.hB; have := h.pi.lo; omega)
theorem QI.get_n (h : QI w xs m p1 q1 p2 q2 p3 q3 B it rf pos o W) : (Instr.lookup 53 (.map (some m)) (.int .i32 110) false).run Tryd.prog W = .ok (.func (.func 40) #[] #[.pointer (some ⟨p1, 0, none⟩), .pointer (some ⟨q1, 0, none⟩)]) W :=
  h.pi.rd.get ⟨.int .i32 110, fnV p1 q1, 0⟩ 110 (by simp [rdE]) rfl
theorem QI.get_t (h : QI w xs m p1 q1 p2 q2 p3 q3 B it rf pos o W) : (Instr.lookup 53 (.map (some m)) (.int .i32 116) false).run Tryd.prog W = .ok (.func (.func 40) #[] #[.pointer (some ⟨p2, 0, none⟩), .pointer (some ⟨q2, 0, none⟩)]) W :=
  h.pi.rd.get ⟨.int .i32 116, fnV p2 q2, 1⟩ 116 (by simp [rdE]) rfl
theorem QI.get_m (h : QI w xs m p1 q1 p2 q2 p3 q3 B it rf pos o W) : (Instr.lookup 53 (.map (some m)) (.int .i32 109) false).run Tryd.prog W = .ok (.func (.func 40) #[] #[.pointer (some ⟨p3, 0, none⟩), .pointer (some ⟨q3, 0, none⟩)]) W :=
  h.pi.rd.get ⟨.int .i32 109, fnV p3 q3, 2⟩ 109 (by simp [rdE]) rfl
theorem QI.get_w (h : QI w xs m p1 q1 p2 q2 p3 q3 B it rf pos o W) : (Instr.lookup 53 (.map (some m)) (.int .i32 119) false).run Tryd.prog W = .ok (.func (.func 44) #[] #[]) W :=
  h.pi.rd.get ⟨.int .i32 119, .func (.func 44) #[] #[], 3⟩ 119 (by simp [rdE]) rfl
theorem QI.get_a (h : QI w xs m p1 q1 p2 q2 p3 q3 B it rf pos o W) : (Instr.lookup 53 (.map (some m)) (.int .i32 97) false).run Tryd.prog W = .ok (.func (.func 45) #[] #[]) W :=
  h.pi.rd.get ⟨.int .i32 97, .func (.func 45) #[] #[], 4⟩ 97 (by simp [rdE]) rfl
theorem QI.get_b (h : QI w xs m p1 q1 p2 q2 p3 q3 B it rf pos o W) : (Instr.lookup 53 (.map (some m)) (.int .i32 98) false).run Tryd.prog W = .ok (.func (.func 47) #[] #[]) W :=
  h.pi.rd.get ⟨.int .i32 98, .func (.func 47) #[] #[], 5⟩ 98 (by simp [rdE]) rfl
end
end Go.Proofs.YtbkgmeopdcealaaDoor
