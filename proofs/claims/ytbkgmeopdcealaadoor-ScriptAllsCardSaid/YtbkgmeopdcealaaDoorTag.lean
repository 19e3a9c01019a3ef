import Derived.Test.YtbkgmeopdcealaaDoorPsr
namespace Go.Proofs.YtbkgmeopdcealaaDoor
open Go.ChangeShapes Go.WideShapes Go.ChangeAt Go.RowKit Go.Sort Go.Deep
set_option linter.unusedVariables false
set_option linter.unusedSimpArgs false
/-- The body lies in a block of bytes. -/
def Tag (W : World) (o : Op) : Prop := ∀ ad, o.A = some ad → ∃ cs, W.heap[ad.block]? = some (.cells cs 5 (0, 0))
theorem Tag.lt {W : World} {o : Op} (h : Tag W o) {ad : Addr} (e : o.A = some ad) : ad.block < W.heap.size := by
  obtain ⟨cs, hc⟩ := h ad e
  exact (Array.getElem?_eq_some_iff.1 hc).1
theorem Tag.keep {W W' : World} {o : Op} (h : Tag W o) (hk : ∀ ad, o.A = some ad → W'.heap[ad.block]? = W.heap[ad.block]?) : Tag W' o := fun ad e => by
  obtain ⟨cs, hc⟩ := h ad e
  exact ⟨cs, (hk ad e).trans hc⟩
theorem Tag.below {W W' : World} {o : Op} (h : Tag W o) (hb : Below W.heap.size W W') : Tag W' o := h.keep fun ad e => hb.block _ (h.lt e)
theorem Tag.ne {W : World} {o : Op} {B : Nat} {cs : Array Value} {t : TypeId} (h : Tag W o) (hK : W.heap[B]? = some (.cells cs t (0, 0))) (ht : t ≠ 5) : ∀ ad, o.A = some ad → ad.block ≠ B := by
  rintro ad e rfl
  obtain ⟨c, hc⟩ := h ad e
  rw [hK] at hc
  injection hc with hc
  injection hc with _ hc
  exact ht hc
theorem Tag.only {W W' : World} {o : Op} {B : Nat} {cs : Array Value} (h : Tag W o) (hK : Blk W B 29 cs) (hg : W.grownBy W' (some B)) : Tag W' o :=
  h.keep fun ad e => hg.block _ (h.lt e) (by intro e2; injection e2 with e2; exact h.ne hK (by decide) ad e e2)
theorem Tag.row {W W' : World} {o : Op} {base n : Nat} {v : Value} {xs : List Value} (h : Tag W o) (hr : W.ownsRow base 29 6 v n xs) (hg : W.grownBy W' v.ownBlock) : Tag W' o ∧ ∀ ad, o.A = some ad → W'.heap[ad.block]? = W.heap[ad.block]? := by
  have hk : ∀ ad, o.A = some ad → W'.heap[ad.block]? = W.heap[ad.block]? := fun ad e => hg.block _ (h.lt e) (by
    rcases hr.2 with ⟨rfl, _⟩ | ⟨g, cap, cur, rfl, _, hh, _⟩
    · simp [Value.ownBlock]
    · intro e2
      simp only [Value.ownBlock, Option.some.injEq] at e2
      exact h.ne hh (by decide) ad e e2)
  exact ⟨h.keep hk, hk⟩
theorem Tag.iter {W : World} {o : Op} {it pos p2 : Nat} {rf : ByteArray} (h : Tag W o) (hi : W.heap[it]? = some (.stringIter rf pos)) : Tag (W.iterAt it rf p2) o :=
  h.keep fun ad e => iter_other _ _ _ _ _ (by rintro rfl; obtain ⟨cs, hc⟩ := h ad e; rw [hi] at hc; cases hc)
structure GotT (f : Nat) (x : ByteArray) (B : Nat) (o : Op) (w : World) (b : Bool) (w' : World) : Prop where
  gr : w.grownBy w' (some B)
  yes : b = true → ∃ o', readF f x o.p = some o'.p ∧ Blk w' B 29 o'.arr ∧ OpOk w' o' ∧ Off o' B ∧ (o'.A = o.A ∨ Tag w' o')
  no : b = false → readF f x o.p = none
theorem GotT.bad {f : Nat} {x : ByteArray} {B : Nat} {o : Op} {w w' : World} (hg : w.grownBy w' (some B)) (h : readF f x o.p = none) : GotT f x B o w false w' := ⟨hg, fun h => (nomatch h), fun _ => h⟩
theorem GotT.good {f : Nat} {x : ByteArray} {B : Nat} {o o' : Op} {w w' : World} (hg : w.grownBy w' (some B)) (h : readF f x o.p = some o'.p) (hk : Blk w' B 29 o'.arr) (ho : OpOk w' o') (hf : Off o' B) (ht : o'.A = o.A ∨ Tag w' o') : GotT f x B o w true w' :=
  ⟨hg, fun _ => ⟨o', h, hk, ho, hf, ht⟩, fun h => (nomatch h)⟩
/-- A parsed operation's body. -/
def TagE (w : World) (e : Ending) : Prop := ∀ o : Op, e = .returned (.tuple #[o.v, .bool true]) → Tag w o
theorem TagE.yes {w : World} {o : Op} (h : Tag w o) : TagE w (.returned (.tuple #[o.v, .bool true])) := by
  intro u e ad ha
  injection e with e
  injection e with e
  have e1 := congrArg (·[0]?) e
  simp only [List.getElem?_toArray, List.getElem?_cons_zero, Option.some.injEq] at e1
  unfold Op.v at e1
  injection e1 with e1
  have e2 := congrArg (·[4]?) e1
  simp only [List.getElem?_toArray, List.getElem?_cons_zero, List.getElem?_cons_succ, Option.some.injEq] at e2
  injection e2 with e2
  exact h ad (e2.trans ha)
theorem TagE.no {w : World} {v : Value} : TagE w (.returned (.tuple #[v, .bool false])) := by
  intro u e
  injection e with e
  injection e with e
  have e1 := congrArg (·[1]?) e
  simp only [List.getElem?_toArray, List.getElem?_cons_zero, List.getElem?_cons_succ, Option.some.injEq] at e1
  injection e1 with e1
  cases e1
set_option maxRecDepth 100000 in
set_option maxHeartbeats 1000000 in
/-- The reader of WHO. -/
theorem read_whoT (x : ByteArray) (B : Nat) (o : Op) (w : World) (hT : Tab w) (hK : Blk w B 29 o.arr) (hO : OpOk w o) (hF : Off o B) :
    Calls Tryd.prog 44 #[.pointer (some ⟨B, 0, none⟩), .string x] w fun e w' => ∃ b, e = .returned (.bool b) ∧ GotT 119 x B o w b w' := by
  have c1 : w.cell? ⟨B, 1, none⟩ = some (.int .i64 o.wh) := (hK.cell 1).trans rfl
  have f1 := hK.frozen 1
  have n0 : w.cell? ⟨1, 0, none⟩ = some (.string ⟨#[99, 108, 105, 101, 110, 116]⟩) := hT.nam 0 _ rfl
  have n1 : w.cell? ⟨1, 1, none⟩ = some (.string ⟨#[115, 101, 114, 118, 101, 114]⟩) := hT.nam 1 _ rfl
  have hlt := hK.lt
  have ix0 : ∀ W : World, (Instr.index 73 (.agg #[.string ⟨#[99, 108, 105, 101, 110, 116]⟩, .string ⟨#[115, 101, 114, 118, 101, 114]⟩]) (.int .i64 0)).run Tryd.prog W = .ok (.string ⟨#[99, 108, 105, 101, 110, 116]⟩) W := fun W => by kernel_rfl
  have ix1 : ∀ W : World, (Instr.index 73 (.agg #[.string ⟨#[99, 108, 105, 101, 110, 116]⟩, .string ⟨#[115, 101, 114, 118, 101, 114]⟩]) (.int .i64 1)).run Tryd.prog W = .ok (.string ⟨#[115, 101, 114, 118, 101, 114]⟩) W := fun W => by kernel_rfl
  have HX := Lib.hid (And.intro hK (And.intro hO hF))
  clear hT hK hO hF
  by_cases hc : x = clS
  · have HR := Lib.hid (show readF 119 x o.p = some ⟨o.p.kd, 0, o.p.nn, o.p.mm, o.p.bs, o.p.ad⟩ by rw [readF_w, if_pos hc])
    have e0 : ([99, 108, 105, 101, 110, 116] == x.toList) = true := by rw [hc]; first | rfl | decide | simp [clS]
    clear hc
    go_enter Tryd.func44, Tryd.ntmps44
    go_wp2_with fail
    go_loopw [8] (fun i wr => i = .int .i64 0 ∧ wr = w) (fun _ _ => 0)
    case atStart => exact ⟨rfl, rfl⟩
    case round =>
      obtain ⟨rfl, rfl⟩ := hrel
      go_wp2_with fail
      go_ret
      exact ⟨true, rfl, GotT.good (o' := ⟨o.kd, 0, o.nn, o.mm, o.A, o.n, o.c, o.bs, o.ad⟩) (grown_set _) HR.out (HX.out.1.set_ 1 _) (by
        have h := HX.out.2.1.only (grown_set (i := 1) (.int .i64 0)) HX.out.2.2
        exact ⟨h.y, h.c0, h.c1, h.k0, h.k1, by simp only; omega, by simp only; omega, h.n0, h.n1, h.m0, h.m1, h.a1⟩) HX.out.2.2 (.inl rfl)⟩
  · have e0 : ([99, 108, 105, 101, 110, 116] == x.toList) = false := by have := toList_ne (fun e => hc (Eq.symm e)); rwa [show clS.toList = [99, 108, 105, 101, 110, 116] by first | rfl | decide | simp [clS]] at this
    by_cases hs : x = svS
    · have HR := Lib.hid (show readF 119 x o.p = some ⟨o.p.kd, 1, o.p.nn, o.p.mm, o.p.bs, o.p.ad⟩ by rw [readF_w, if_neg hc, if_pos hs])
      have e1 : ([115, 101, 114, 118, 101, 114] == x.toList) = true := by rw [hs]; first | rfl | decide | simp [svS]
      clear hc hs
      go_enter Tryd.func44, Tryd.ntmps44
      go_wp2_with fail
      go_loopw [8] (fun i wr => (i = .int .i64 0 ∨ i = .int .i64 1) ∧ wr = w) (fun i _ => 2 - (intOf i).toNat)
      case atStart => exact ⟨.inl rfl, rfl⟩
      case round =>
        obtain ⟨rfl | rfl, rfl⟩ := hrel
        · go_wp2_with fail
          go_roundw
          case rel => exact ⟨.inr rfl, by first | rfl | trivial⟩
          case measure => simp [intOf]
        · go_wp2_with fail
          go_ret
          exact ⟨true, rfl, GotT.good (o' := ⟨o.kd, 1, o.nn, o.mm, o.A, o.n, o.c, o.bs, o.ad⟩) (grown_set _) HR.out (HX.out.1.set_ 1 _) (by
            have h := HX.out.2.1.only (grown_set (i := 1) (.int .i64 1)) HX.out.2.2
            exact ⟨h.y, h.c0, h.c1, h.k0, h.k1, by simp only; omega, by simp only; omega, h.n0, h.n1, h.m0, h.m1, h.a1⟩) HX.out.2.2 (.inl rfl)⟩
    · have HR := Lib.hid (show readF 119 x o.p = none by rw [readF_w, if_neg hc, if_neg hs])
      have e1 : ([115, 101, 114, 118, 101, 114] == x.toList) = false := by have := toList_ne (fun e => hs (Eq.symm e)); rwa [show svS.toList = [115, 101, 114, 118, 101, 114] by first | rfl | decide | simp [svS]] at this
      clear hc hs
      go_enter Tryd.func44, Tryd.ntmps44
      go_wp2_with fail
      go_loopw [8] (fun i wr => (i = .int .i64 0 ∨ i = .int .i64 1 ∨ i = .int .i64 2) ∧ wr = w) (fun i _ => 2 - (intOf i).toNat)
      case atStart => exact ⟨.inl rfl, rfl⟩
      case round =>
        obtain ⟨rfl | rfl | rfl, rfl⟩ := hrel
        · go_wp2_with fail
          go_roundw
          case rel => exact ⟨.inr (.inl rfl), by first | rfl | trivial⟩
          case measure => simp [intOf]
        · go_wp2_with fail
          go_roundw
          case rel => exact ⟨.inr (.inr rfl), by first | rfl | trivial⟩
          case measure => simp [intOf]
        · go_wp2_with fail
          go_ret
          exact ⟨false, rfl, GotT.bad (only_refl _ _) HR.out⟩
set_option maxRecDepth 100000 in
set_option maxHeartbeats 1000000 in
/-- The reader of ADDRESS. -/
theorem read_addrT (x : ByteArray) (B : Nat) (o : Op) (w : World) (hx : x.size ≤ maxLen) (hK : Blk w B 29 o.arr) (hO : OpOk w o) (hF : Off o B) :
    Calls Tryd.prog 45 #[.pointer (some ⟨B, 0, none⟩), .string x] w fun e w' => ∃ b, e = .returned (.bool b) ∧ GotT 97 x B o w b w' := by
  have c5 : w.cell? ⟨B, 5, none⟩ = some (.string o.ad) := (hK.cell 5).trans rfl
  have f5 := hK.frozen 5
  have hlt := hK.lt
  have hr := Right_any x (w.setCell ⟨B, 5, none⟩ (.string x)) hx
  have HZ := Lib.hid hx
  have HX := Lib.hid (And.intro hK (And.intro hO hF))
  clear hK hO hF hx
  obtain ⟨r, hrr⟩ : ∃ r, rightS x = r := ⟨_, rfl⟩
  rw [hrr] at hr
  have HR := Lib.hid hrr
  clear hrr
  go_enter Tryd.func45, Tryd.ntmps45
  go_wp2_with (go_at_call 46; refine hr.mono ?_; rintro _ w2 ⟨rfl, hb⟩; refine Hid.out ?_)
  refine Lib.hid ?_
  have HB := Lib.hid hb
  clear hb hr c5 f5
  go_wp2_with fail
  go_ret
  have hs : (w.setCell ⟨B, 5, none⟩ (.string x)).heap.size = w.heap.size := World.size_setCell _ _ _
  have hg : w.grownBy w2 (some B) := (grown_set (i := 5) (.string x)).trans (only_of_below HB.out _)
  refine ⟨r, rfl, ?_⟩
  cases r with
  | false => exact GotT.bad hg (by rw [readF_a, if_neg (by rw [HR.out]; decide)])
  | true =>
    refine GotT.good (o' := ⟨o.kd, o.wh, o.nn, o.mm, o.A, o.n, o.c, o.bs, x⟩) hg (by rw [readF_a, if_pos HR.out]; rfl) ?_ ?_ HX.out.2.2 (.inl rfl)
    · exact (HX.out.1.set_ 5 (.string x)).below HB.out (by rw [hs]; exact HX.out.1.lt)
    · have h := HX.out.2.1.only hg HX.out.2.2
      exact ⟨h.y, h.c0, h.c1, h.k0, h.k1, h.w0, h.w1, h.n0, h.n1, h.m0, h.m1, HZ.out⟩
set_option maxRecDepth 100000 in
set_option maxHeartbeats 1000000 in
/-- The reader of BODY. -/
theorem read_bodyT (x : ByteArray) (B : Nat) (o : Op) (w : World) (hx : x.size ≤ 1000000) (hK : Blk w B 29 o.arr) (hO : OpOk w o) (hF : Off o B) :
    Calls Tryd.prog 47 #[.pointer (some ⟨B, 0, none⟩), .string x] w fun e w' => ∃ b, e = .returned (.bool b) ∧ GotT 98 x B o w b w' := by
  have hu := unhex_any x w hx
  have hlt := hK.lt
  have HX := Lib.hid (And.intro hK (And.intro hO hF))
  clear hK hO hF hx
  cases hr : unhexS x with
  | none =>
    have HR := Lib.hid (show readF 98 x o.p = none by rw [readF_b, hr])
    rw [hr] at hu
    clear hr
    go_enter Tryd.func47, Tryd.ntmps47
    go_wp2_with (go_at_call 22; refine hu.mono ?_; rintro _ w2 ⟨rfl, hb⟩; refine Hid.out ?_)
    refine Lib.hid ?_
    have HB := Lib.hid hb
    have c4 : w2.cell? ⟨B, 4, none⟩ = some (.slice o.A o.n o.c) := ((HX.out.1.below hb HX.out.1.lt).cell 4).trans rfl
    have f4 := (HX.out.1.below hb HX.out.1.lt).frozen 4
    have hlt2 := (HX.out.1.below hb HX.out.1.lt).lt
    clear hb hu
    go_wp2_with fail
    go_ret
    exact ⟨false, rfl, GotT.bad ((only_of_below HB.out _).trans (grown_set _)) HR.out⟩
  | some bs =>
    rw [hr] at hu
    have HR := Lib.hid hr
    clear hr
    go_enter Tryd.func47, Tryd.ntmps47
    go_wp2_with (go_at_call 22; refine hu.mono ?_; rintro _ w2 ⟨⟨v, rfl, ho⟩, hb⟩; refine Hid.out ?_)
    refine Lib.hid ?_
    obtain ⟨A, c, rfl⟩ := own_form ho
    have HB := Lib.hid hb
    have HO := Lib.hid ho
    have K2 := HX.out.1.below hb HX.out.1.lt
    have HK2 := Lib.hid K2
    have c4 : w2.cell? ⟨B, 4, none⟩ = some (.slice o.A o.n o.c) := (K2.cell 4).trans rfl
    have f4 := K2.frozen 4
    have hlt2 := K2.lt
    have hg : w.grownBy (w2.setCell ⟨B, 4, none⟩ (.slice A bs.length c)) (some B) := (only_of_below hb _).trans (grown_set _)
    have HG := Lib.hid hg
    obtain ⟨hcap0, hcap1⟩ : bs.length ≤ c ∧ c ≤ maxLen := by
      rcases ho.2 with ⟨e, e2⟩ | ⟨g, cap, cur, e, _, _, h1, h2, _⟩
      · injection e with _ _ e3; rw [e2, e3]; exact ⟨Nat.le_refl _, by unfold maxLen; omega⟩
      · injection e with _ _ e3; rw [e3]; exact ⟨h1, h2⟩
    have HC := Lib.hid (And.intro hcap0 hcap1)
    have HL := Lib.hid (show readF 98 x o.p = if bs.length ≤ 1300 then some ⟨o.p.kd, o.p.wh, o.p.nn, o.p.mm, bs, o.p.ad⟩ else none by rw [readF_b, HR.out])
    obtain ⟨L, hL⟩ : ∃ L, bs.length = L := ⟨_, rfl⟩
    have HLL := Lib.hid hL
    have hl63 : L ≤ 9223372036854775807 := by unfold maxLen at hcap1; omega
    rw [hL] at HG ⊢
    clear hb hu ho K2 hg hcap0 hcap1 hL
    by_cases h1 : L ≤ 1300
    · have hi : (L : Int) ≤ 1300 := by omega
      clear h1
      go_wp2_with fail
      go_ret
      refine ⟨true, rfl, GotT.good (o' := ⟨o.kd, o.wh, o.nn, o.mm, A, L, c, bs, o.ad⟩) HG.out (by rw [HL.out, if_pos (by rw [HLL.out]; omega)]; rfl) ?_ ?_ ?_ ?_⟩
      · exact HK2.out.set_ 4 _
      · have h := HX.out.2.1.only HG.out HX.out.2.2
        have hy : Bys (w2.setCell ⟨B, 4, none⟩ (.slice A L c)) A L bs := by
          have ho2 := HO.out.kept (grown_set (B := B) (i := 4) (.slice A L c)) (by
            have := own_ne HO.out HX.out.1.lt
            exact .inr (fun e => this e.symm))
          have hb256 : ∀ y ∈ bs, y < 256 := (hex_unhex HR.out).2.1
          have := Bys.of_own (bs := bs) (n := bs.length) (by rw [HLL.out]; rw [HLL.out] at ho2; exact ho2) hb256
          rwa [HLL.out] at this
        exact ⟨hy, by have := HC.out.1; simp only; rw [← HLL.out]; exact this, HC.out.2, h.k0, h.k1, h.w0, h.w1, h.n0, h.n1, h.m0, h.m1, h.a1⟩
      · rintro ad e
        rcases HO.out.2 with ⟨e1, _⟩ | ⟨g, cap, cur, e1, hbg, _⟩
        · injection e1 with e1; simp only at e; rw [e1] at e; cases e
        · injection e1 with e1
          simp only at e
          rw [e1] at e
          injection e with e
          subst e
          have := HX.out.1.lt
          simp only
          omega
      · refine .inr (fun ad e => ?_)
        rcases HO.out.2 with ⟨e1, _⟩ | ⟨g, cap, cur, e1, hbg, hh, _⟩
        · injection e1 with e1; simp only at e; rw [e1] at e; cases e
        · injection e1 with e1
          simp only at e
          rw [e1] at e
          injection e with e
          subst e
          have := HX.out.1.lt
          exact ⟨cur, (Below.heap_setCell w2 ⟨B, 4, none⟩ (.slice A L c) g (by show g ≠ B; omega)).trans hh⟩
    · have hi : ¬ (L : Int) ≤ 1300 := by omega
      clear h1
      go_wp2_with fail
      go_ret
      exact Or.inl ⟨by first | rfl | simp [hi], GotT.bad HG.out (by rw [HL.out, if_neg (by rw [HLL.out]; omega)])⟩
section
variable {w W W' : World} {xs : List ByteArray} {m p1 q1 p2 q2 p3 q3 B it pos : Nat} {rf : ByteArray} {o : Op}
/-- Under way in the fields of a rule. -/
structure QT (w : World) (xs : List ByteArray) (m p1 q1 p2 q2 p3 q3 B it : Nat) (rf : ByteArray) (pos : Nat) (o : Op) (W : World) : Prop where
  pi : PI w xs m p1 q1 p2 q2 p3 q3 W
  op : Blk W B 29 o.arr
  ok : OpOk W o
  off : Off o B
  itr : W.heap[it]? = some (.stringIter rf pos)
  hB : w.heap.size + 2 ≤ B
  hit : w.heap.size ≤ it
  tag : Tag W o
theorem QT.step (h : QT w xs m p1 q1 p2 q2 p3 q3 B it rf pos o W) : QT w xs m p1 q1 p2 q2 p3 q3 B it rf (pos + 1) o (W.iterAt it rf (pos + 1)) := by
  have hs : (W.iterAt it rf (pos + 1)).heap.size = W.heap.size := by simp [World.iterAt]
  refine ⟨h.pi.iter h.itr h.hit, (iter_other _ _ _ _ _ (iter_ne (g := 0) h.itr h.op)).trans h.op, ?_, h.off, Lib.iterAt_heap W _ rf pos (pos + 1) h.itr, h.hB, h.hit, h.tag.iter h.itr⟩
  have k := h.ok
  refine ⟨⟨⟨k.y.1.1, fun hn => ?_⟩, k.y.2⟩, k.c0, k.c1, k.k0, k.k1, k.w0, k.w1, k.n0, k.n1, k.m0, k.m1, k.a1⟩
  obtain ⟨ad, e, hb2, hcc⟩ := k.y.1.2 hn
  refine ⟨ad, e, by rw [hs]; exact hb2, fun j u hu => ?_⟩
  rw [← hcc j u hu]
  refine World.cell?_of_block (iter_other _ _ _ _ _ (fun e2 => ?_))
  have h3 := hcc j u hu
  rw [World.cell?, e2, h.itr] at h3
  cases h3
theorem QT.got {f : Nat} {x : ByteArray} (h : QT w xs m p1 q1 p2 q2 p3 q3 B it rf pos o W) (hg : GotT f x B o W true W') : ∃ o', readF f x o.p = some o'.p ∧ QT w xs m p1 q1 p2 q2 p3 q3 B it rf pos o' W' := by
  obtain ⟨o', e, hk, ho, hf, ht⟩ := hg.yes rfl
  refine ⟨o', e, h.pi.only h.op h.hB hg.gr, hk, ho, hf, (hg.gr.block it (Array.getElem?_eq_some_iff.1 h.itr).1 ?_).trans h.itr, h.hB, h.hit, ht.elim (fun e2 ad ha => (h.tag.only h.op hg.gr) ad (e2 ▸ ha)) id⟩
  intro e2
  injection e2 with e2
  exact iter_ne (g := 0) h.itr h.op e2.symm
/-! ### the six readers -/
theorem rd_numT {f mx p q : Nat} {x : ByteArray} (hmx : mx ≤ 2000000) (hrd : ∀ o : Op, readF f x o.p = if numB x mx = true then some (Op.p ⟨o.kd, o.wh, (dvS x : Nat), o.mm, o.A, o.n, o.c, o.bs, o.ad⟩) else none)
    (hx : x.size ≤ 1000000) (hT : Tab W) (hK : Blk W B 29 o.arr) (hO : OpOk W o) (hF : Off o B) (Kp : Blk W p 3 #[.int .i64 (mx : Int)]) (Kq : Blk W q 68 #[.func (.func 42) #[] #[]]) (hB : 10 ≤ B) :
    Calls Tryd.prog 40 #[.pointer (some ⟨B, 0, none⟩), .string x, .pointer (some ⟨p, 0, none⟩), .pointer (some ⟨q, 0, none⟩)] W fun e w' => ∃ b, e = .returned (.bool b) ∧ GotT f x B o W b w' :=
  (read_nn x B mx p q o W hmx hx hT hK Kp Kq hB).mono fun e w' ⟨he, hg, hy⟩ => ⟨_, he, by
    have hr := hrd o
    cases hb : numB x mx with
    | false => rw [hb] at hr; exact GotT.bad hg hr
    | true =>
      rw [hb] at hr
      have h := hO.only hg hF
      have hd := (num_back hb).2
      exact GotT.good (o' := ⟨o.kd, o.wh, (dvS x : Nat), o.mm, o.A, o.n, o.c, o.bs, o.ad⟩) hg hr (hy hb) ⟨h.y, h.c0, h.c1, h.k0, h.k1, h.w0, h.w1, by simp only; omega, by simp only; omega, h.m0, h.m1, h.a1⟩ hF (.inl rfl)⟩
theorem rd_num2T {f mx p q : Nat} {x : ByteArray} (hmx : mx ≤ 2000000) (hrd : ∀ o : Op, readF f x o.p = if numB x mx = true then some (Op.p ⟨o.kd, o.wh, o.nn, (dvS x : Nat), o.A, o.n, o.c, o.bs, o.ad⟩) else none)
    (hx : x.size ≤ 1000000) (hT : Tab W) (hK : Blk W B 29 o.arr) (hO : OpOk W o) (hF : Off o B) (Kp : Blk W p 3 #[.int .i64 (mx : Int)]) (Kq : Blk W q 68 #[.func (.func 43) #[] #[]]) (hB : 10 ≤ B) :
    Calls Tryd.prog 40 #[.pointer (some ⟨B, 0, none⟩), .string x, .pointer (some ⟨p, 0, none⟩), .pointer (some ⟨q, 0, none⟩)] W fun e w' => ∃ b, e = .returned (.bool b) ∧ GotT f x B o W b w' :=
  (read_mm x B mx p q o W hmx hx hT hK Kp Kq hB).mono fun e w' ⟨he, hg, hy⟩ => ⟨_, he, by
    have hr := hrd o
    cases hb : numB x mx with
    | false => rw [hb] at hr; exact GotT.bad hg hr
    | true =>
      rw [hb] at hr
      have h := hO.only hg hF
      have hd := (num_back hb).2
      exact GotT.good (o' := ⟨o.kd, o.wh, o.nn, (dvS x : Nat), o.A, o.n, o.c, o.bs, o.ad⟩) hg hr (hy hb) ⟨h.y, h.c0, h.c1, h.k0, h.k1, h.w0, h.w1, h.n0, h.n1, by simp only; omega, by simp only; omega, h.a1⟩ hF (.inl rfl)⟩
theorem QT.call_n (h : QT w xs m p1 q1 p2 q2 p3 q3 B it rf pos o W) (x : ByteArray) (hx : x.size ≤ 1000000) :
    Calls Tryd.prog 40 #[.pointer (some ⟨B, 0, none⟩), .string x, .pointer (some ⟨p1, 0, none⟩), .pointer (some ⟨q1, 0, none⟩)] W fun e w' => ∃ b, e = .returned (.bool b) ∧ GotT 110 x B o W b w' :=
  rd_numT (mx := 999) (by omega) (fun o => readF_n x o.p) hx h.pi.tab h.op h.ok h.off h.pi.rd.a1 h.pi.rd.b1 (by have := h.hB; have := h.pi.lo; omega)
theorem QT.call_t (h : QT w xs m p1 q1 p2 q2 p3 q3 B it rf pos o W) (x : ByteArray) (hx : x.size ≤ 1000000) :
    Calls Tryd.prog 40 #[.pointer (some ⟨B, 0, none⟩), .string x, .pointer (some ⟨p2, 0, none⟩), .pointer (some ⟨q2, 0, none⟩)] W fun e w' => ∃ b, e = .returned (.bool b) ∧ GotT 116 x B o W b w' :=
  rd_numT (mx := 1048576) (by omega) (fun o => readF_t x o.p) hx h.pi.tab h.op h.ok h.off h.pi.rd.a2 h.pi.rd.b2 (by have := h.hB; have := h.pi.lo; omega)
theorem QT.call_m (h : QT w xs m p1 q1 p2 q2 p3 q3 B it rf pos o W) (x : ByteArray) (hx : x.size ≤ 1000000) :
    Calls Tryd.prog 40 #[.pointer (some ⟨B, 0, none⟩), .string x, .pointer (some ⟨p3, 0, none⟩), .pointer (some ⟨q3, 0, none⟩)] W fun e w' => ∃ b, e = .returned (.bool b) ∧ GotT 109 x B o W b w' :=
  rd_num2T (mx := 999) (by omega) (fun o => readF_m x o.p) hx h.pi.tab h.op h.ok h.off h.pi.rd.a3 h.pi.rd.b3 (by have := h.hB; have := h.pi.lo; omega)
theorem QT.get_n (h : QT w xs m p1 q1 p2 q2 p3 q3 B it rf pos o W) : (Instr.lookup 53 (.map (some m)) (.int .i32 110) false).run Tryd.prog W = .ok (.func (.func 40) #[] #[.pointer (some ⟨p1, 0, none⟩), .pointer (some ⟨q1, 0, none⟩)]) W :=
  h.pi.rd.get ⟨.int .i32 110, fnV p1 q1, 0⟩ 110 (by simp [rdE]) rfl
theorem QT.get_t (h : QT w xs m p1 q1 p2 q2 p3 q3 B it rf pos o W) : (Instr.lookup 53 (.map (some m)) (.int .i32 116) false).run Tryd.prog W = .ok (.func (.func 40) #[] #[.pointer (some ⟨p2, 0, none⟩), .pointer (some ⟨q2, 0, none⟩)]) W :=
  h.pi.rd.get ⟨.int .i32 116, fnV p2 q2, 1⟩ 116 (by simp [rdE]) rfl
theorem QT.get_m (h : QT w xs m p1 q1 p2 q2 p3 q3 B it rf pos o W) : (Instr.lookup 53 (.map (some m)) (.int .i32 109) false).run Tryd.prog W = .ok (.func (.func 40) #[] #[.pointer (some ⟨p3, 0, none⟩), .pointer (some ⟨q3, 0, none⟩)]) W :=
  h.pi.rd.get ⟨.int .i32 109, fnV p3 q3, 2⟩ 109 (by simp [rdE]) rfl
theorem QT.get_w (h : QT w xs m p1 q1 p2 q2 p3 q3 B it rf pos o W) : (Instr.lookup 53 (.map (some m)) (.int .i32 119) false).run Tryd.prog W = .ok (.func (.func 44) #[] #[]) W :=
  h.pi.rd.get ⟨.int .i32 119, .func (.func 44) #[] #[], 3⟩ 119 (by simp [rdE]) rfl
theorem QT.get_a (h : QT w xs m p1 q1 p2 q2 p3 q3 B it rf pos o W) : (Instr.lookup 53 (.map (some m)) (.int .i32 97) false).run Tryd.prog W = .ok (.func (.func 45) #[] #[]) W :=
  h.pi.rd.get ⟨.int .i32 97, .func (.func 45) #[] #[], 4⟩ 97 (by simp [rdE]) rfl
theorem QT.get_b (h : QT w xs m p1 q1 p2 q2 p3 q3 B it rf pos o W) : (Instr.lookup 53 (.map (some m)) (.int .i32 98) false).run Tryd.prog W = .ok (.func (.func 47) #[] #[]) W :=
  h.pi.rd.get ⟨.int .i32 98, .func (.func 47) #[] #[], 5⟩ 98 (by simp [rdE]) rfl
end
theorem QT.drew {w W : World} {xs : List ByteArray} {m p1 q1 p2 q2 p3 q3 B it pos : Nat} {rf : ByteArray} {o : Op} (h : QT w xs m p1 q1 p2 q2 p3 q3 B it rf pos o W) : QT w xs m p1 q1 p2 q2 p3 q3 B it rf pos o W.drew :=
  ⟨h.pi.below (below_drewN (Below.refl _ _) 1), h.op, h.ok.below (below_drewN (Below.refl _ _) 1), h.off, h.itr, h.hB, h.hit, h.tag.below (below_drewN (Below.refl _ _) 1)⟩
set_option maxRecDepth 100000 in
set_option maxHeartbeats 1000000 in
/-- script.Parse, at whatever words. -/
theorem parse_genT (line : ByteArray) (w : World) (xs : List ByteArray) (n : Nat) (hn : xs.length = n) (h0 : 0 < n) (hT : Tab w) (hz : ∀ x ∈ xs, x.size ≤ 300000) (hl : n ≤ 1000000) (hx : xs = cutS line)
    (hsp : Calls Tryd.prog 29 #[.string line, .string ⟨#[32]⟩] (w.alloc (.cells zO.arr 29)) fun e w' => e = .returned (.slice (some ⟨w.heap.size + 1, 0, none⟩) n n) ∧ w' = (w.alloc (.cells zO.arr 29)).alloc (.cells (xs.map Value.string).toArray 9)) :
    Calls Tryd.prog 16 #[.string line] w fun e w' => (PaR line w' e ∧ TagE w' e) ∧ Below w.heap.size w w' := by
  have hrd := readers_any ((w.alloc (.cells zO.arr 29)).alloc (.cells (xs.map Value.string).toArray 9))
  have b2 : Below w.heap.size w ((w.alloc (.cells zO.arr 29)).alloc (.cells (xs.map Value.string).toArray 9)) := ((Below.refl _ w).alloc (Nat.le_refl _) _).alloc (by simp) _
  have k1 := (Blk.new w 29 zO.arr).alloc (.cells (xs.map Value.string).toArray 9)
  have k2 := Blk.new (w.alloc (.cells zO.arr 29)) 9 (xs.map Value.string).toArray
  rw [World.size_alloc] at k2
  have HP := Lib.hid (show ∀ m p1 q1 p2 q2 p3 q3 W, Rdrs W m p1 q1 p2 q2 p3 q3 → Below ((w.alloc (.cells zO.arr 29)).alloc (.cells (xs.map Value.string).toArray 9)).heap.size ((w.alloc (.cells zO.arr 29)).alloc (.cells (xs.map Value.string).toArray 9)) W → PI w xs m p1 q1 p2 q2 p3 q3 W from
    fun m p1 q1 p2 q2 p3 q3 W hr hb => ⟨hT.sz, b2.trans (hb.mono b2.size), (hT.below b2).below hb, k1.below hb k1.lt, k2.below hb k2.lt, hr⟩)
  have hz10 := hT.sz
  have HX := Lib.hid (And.intro hx hz)
  have HN := Lib.hid hn
  obtain ⟨W2, hW2⟩ : ∃ W, (w.alloc (.cells zO.arr 29)).alloc (.cells (xs.map Value.string).toArray 9) = W := ⟨_, rfl⟩
  rw [hW2] at hrd HP hsp
  rw [show zO.arr = #[.int .i64 0, .int .i64 0, .int .i64 0, .int .i64 0, .slice none 0 0, .string ByteArray.empty] from rfl] at hsp
  clear b2 k1 k2 hT hz hx hW2 hn
  go_enter Tryd.func16, Tryd.ntmps16
  go_wp2_with (first
    | (go_at_call 29; refine hsp.mono ?_; rintro _ w2 ⟨rfl, rfl⟩)
    | (go_at_call 30; refine hrd.mono ?_; rintro _ w3 ⟨m, p1, q1, p2, q2, p3, q3, rfl, hR, hb⟩; refine Hid.out ?_))
  refine Lib.hid ?_
  have HP3 := Lib.hid (HP.out m p1 q1 p2 q2 p3 q3 w3 hR hb)
  clear hR hb hrd hsp HP
  obtain ⟨x0, ys, hxs⟩ : ∃ x0 ys, xs = x0 :: ys := by
    have h := HN.out
    cases hc : xs with
    | nil => rw [hc] at h; simp at h; omega
    | cons a r => exact ⟨a, r, rfl⟩
  have HXS := Lib.hid hxs
  clear hxs
  go_wp2_with ((with_reducible (show wpList _ _ _ ({ dst := _, op := Op.load 57 _, type := _, pos := _, after := _, guard := _ } :: _) _ _)); refine wpList_load_mid rfl 57 (.global 0) rfl 0 0 rfl _ _ HP3.out.tab.rul Tryd.underlying57 rfl (by kernel_rfl) ?_; refine Hid.out ?_)
  refine Lib.hid ?_
  have hri := rules_ix
  obtain ⟨RV, hRV⟩ : ∃ v, Value.agg rulesL.toArray = v := ⟨_, rfl⟩
  rw [hRV] at hri ⊢
  have HRI := Lib.hid hri
  clear hRV hri
  have hn63 : n ≤ 9223372036854775807 := by omega
  go_wp2_with fail
  go_loopw [15] (fun i wr => ∃ k : Nat, i = .int .i64 k ∧ k ≤ 10 ∧ PI w xs m p1 q1 p2 q2 p3 q3 wr ∧ ∀ j, 1 ≤ j → j < k → ¬ (rwS j = x0 ∧ (rfS j).size + 1 = n)) (fun i _ => 10 - (intOf i).toNat)
  case atStart => exact ⟨0, rfl, by omega, HP3.out, fun j h1 h2 => absurd h2 (by omega)⟩
  case round =>
    clear HP3
    obtain ⟨k, rfl, hk10, hpi, hno⟩ := hrel
    have HNO := Lib.hid hno
    by_cases hk : k < 10
    · have hix := HRI.out k hk
      have HP4 := Lib.hid (hpi.alloc (.cells #[.string (rwS k), .string (rfS k)] 56))
      have hcw : (wr.alloc (.cells #[.string (rwS k), .string (rfS k)] 56)).cell? ⟨w.heap.size + 1, 0, none⟩ = some (.string x0) := (HP4.out.wd.cell 0).trans (by rw [HXS.out]; rfl)
      have hrf : (rfS k).size ≤ 3 := by
        have : ∀ j : Fin 10, (rfS j.1).size ≤ 3 := by decide
        exact this ⟨k, hk⟩
      have hk1 : (k : Int) < 10 := by omega
      have hszw := hpi.bel.size
      have HKK := Lib.hid (And.intro hk hk10)
      obtain ⟨rw_, hrw⟩ : ∃ s, rwS k = s := ⟨_, rfl⟩
      obtain ⟨rf, hrf2⟩ : ∃ s, rfS k = s := ⟨_, rfl⟩
      rw [hrw, hrf2] at hix hcw HP4
      rw [hrf2] at hrf
      have HRW := Lib.hid (And.intro hrw hrf2)
      clear hno hpi hrw hrf2 hk10 hk
      by_cases hk0 : k = 0
      · have hb0 : ((k : Int) == 0) = true := by simp [hk0]
        have HK0 := Lib.hid hk0
        clear hk0
        go_wp2_with fail
        go_quiet (fail)
        go_wp2_with fail
        go_roundw
        case rel => exact ⟨k + 1, by go_num, HKK.out.1, HP4.out.below (below_drewN (Below.refl _ _) _), fun j h1 h2 => by have := HK0.out; omega⟩
        case measure => have := HKK.out.1; simp [intOf]; omega
      have hb0 : ((k : Int) == 0) = false := by simp [hk0]
      have HK0 := Lib.hid hk0
      clear hk0
      by_cases hw0 : rw_ = x0
      · have hw1 : (rw_.toList == x0.toList) = true := by rw [hw0]; simp
        have HW0 := Lib.hid hw0
        clear hw0
        by_cases hl0 : rf.size + 1 = n
        · have hl1 : ((rf.size : Int) == (n : Int) - 1) = true := by
            have : (rf.size : Int) = (n : Int) - 1 := by omega
            rw [this]; simp
          have hl2 : ((rf.size : Int) != (n : Int) - 1) = false := by simp only [bne, hl1]; rfl
          have HL0 := Lib.hid hl0
          clear hl0
          go_wp2_with fail
          go_quiet (fail)
          go_wp2_with fail
          have HF0 := Lib.hid (show ∀ W, PI w xs m p1 q1 p2 q2 p3 q3 W → W.heap.size = wr.heap.size + 1 → QT w xs m p1 q1 p2 q2 p3 q3 (wr.heap.size + 1) (wr.heap.size + 1 + 1) rf 0 (o0 k) ((W.alloc (.cells (o0 k).arr 29)).iter rf 0) from fun W hW hsz => by
            have h1 := hW.alloc (.cells (o0 k).arr 29)
            have h2 : PI w xs m p1 q1 p2 q2 p3 q3 ((W.alloc (.cells (o0 k).arr 29)).iter rf 0) := h1.alloc (.stringIter rf 0)
            have h3 := (Blk.new W 29 (o0 k).arr).alloc (.stringIter rf 0)
            rw [hsz] at h3
            refine ⟨h2, h3, o0_ok _ k HKK.out.1, (fun ad e => nomatch e), ?_, by have := hW.res.lt; have := hW.wd.lt; omega, by omega, (fun ad e => nomatch e)⟩
            have := World.iter_heap (W.alloc (.cells (o0 k).arr 29)) rf 0
            rw [World.size_alloc, hsz] at this
            exact this)
          have hs0 := HF0.out _ (HP4.out.below (below_drewN (Below.refl _ _) nq)) (by simp)
          have hk19 : 1 ≤ k ∧ k ≤ 9 := by have := HK0.out; have := HKK.out.1; omega
          have HR6 := Lib.hid (rfS_bys k hk19.1 hk19.2)
          have HYS := Lib.hid (show ys.length = rf.size by have h1 := HN.out; rw [HXS.out] at h1; have h2 := HL0.out; simp at h1; omega)
          have hs1 : QT w xs m p1 q1 p2 q2 p3 q3 (wr.heap.size + 1) (wr.heap.size + 1 + 1) rf 0 (o0 k) (((((wr.alloc (Obj.cells #[Value.string rw_, Value.string rf] 56)).drewN nq).alloc (Obj.cells #[Value.int IntKind.i64 (k : Int), Value.int IntKind.i64 0, Value.int IntKind.i64 0, Value.int IntKind.i64 0, Value.slice none 0 0, Value.string ⟨#[]⟩] 29)).iter rf 0)) := hs0
          have HS1 := Lib.hid hs1
          have HK19 := Lib.hid hk19
          have HNB := Lib.hid (show (∀ p, foldF (ruleF k) ys (p0 k) = some p → RP p ∧ lineP p = line) ∧ (foldF (ruleF k) ys (p0 k) = none → ∀ p, RP p → lineP p ≠ line) from by
            have hx0 : x0 = ruleW k := by rw [← HW0.out, ← HRW.out.1]; rfl
            have hcl : cutS line = ruleW k :: ys := by rw [← HX.out.1, HXS.out, hx0]
            refine ⟨fun p hp => ?_, fun hno => no_line fun j j1 j9 zs hj => ?_⟩
            · obtain ⟨h1, h2⟩ := words_rp hk19.1 hk19.2 hp
              exact ⟨h1, words_line (by rw [h2, hcl]) (join_cut line)⟩
            · rw [hcl] at hj
              injection hj with e1 e2
              obtain rfl := ruleW_inj hk19.1 hk19.2 j1 j9 e1
              rw [← e2]; exact hno)
          have HYZ := Lib.hid (show ∀ (i : Nat) x, ys[i]? = some x → x.size ≤ 300000 ∧ (xs.map Value.string).toArray[i + 1]? = some (.string x) from fun i x hx => ⟨HX.out.2 x (by rw [HXS.out]; exact List.mem_cons_of_mem _ (List.mem_of_getElem? hx)), by rw [HXS.out]; simp [hx]⟩)
          obtain ⟨g0, hg0⟩ : ∃ g, wr.heap.size = g := ⟨_, rfl⟩
          rw [hg0] at HS1
          clear hs0 hs1 HF0 HP4 hk19 HNO HL0 HW0 hcw hix hw1 hl1 hl2 hb0 hszw HK0
          simp only [hg0]
          go_loopw [9] (fun v wz => ∃ (pos : Nat) (o : Op), QT w xs m p1 q1 p2 q2 p3 q3 (g0 + 1) (g0 + 1 + 1) rf pos o wz ∧ pos ≤ rf.size ∧ foldF (ruleF k) ys (p0 k) = foldF ((ruleF k).drop pos) (ys.drop pos) o.p) (fun v wz => rf.size - wz.iterPos (g0 + 1 + 1))
          case atStart => exact ⟨0, o0 k, HS1.out, Nat.zero_le _, rfl⟩
          case round =>
            clear HS1
            obtain ⟨pos, o, hqi, hpos, hfold⟩ := hrel
            have hip : wr.iterPos (g0 + 1 + 1) = pos := by simp [World.iterPos, hqi.itr]
            by_cases hlt : pos < rf.size
            · obtain ⟨f, hf⟩ : ∃ f, (ruleF k)[pos]? = some f := by
                rw [← HR6.out.1, HRW.out.2]
                exact ⟨_, List.getElem?_eq_getElem (by rw [bys_len]; exact hlt)⟩
              have hfb : (bys rf)[pos]? = some f := by rw [← HRW.out.2, HR6.out.1]; exact hf
              have hf6 := HR6.out.2 f (List.mem_of_getElem? hf)
              have hrn := rune_at rf pos f hlt hfb
              have hnx : ∀ ty, (Instr.next (.pointer (some ⟨g0 + 1 + 1, 0, none⟩)) true ty).run Tryd.prog wr = .ok (.tuple #[.bool true, .int .i64 pos, .int .i32 (f : Nat)]) (wr.iterAt (g0 + 1 + 1) rf (pos + 1)) := fun ty => by
                rw [Lib.run_next_ascii_at wr _ rf pos ty hqi.itr hlt (by rw [hrn]; omega), hrn]
              have h2 := hqi.step
              obtain ⟨W, hW⟩ : ∃ W, wr.iterAt (g0 + 1 + 1) rf (pos + 1) = W := ⟨_, rfl⟩
              rw [hW] at hnx h2
              obtain ⟨x, hx⟩ : ∃ x, ys[pos]? = some x := ⟨_, List.getElem?_eq_getElem (by rw [HYS.out]; exact hlt)⟩
              have hxz := (HYZ.out pos x hx).1
              have hcx : W.cell? ⟨w.heap.size + 1, pos + 1, none⟩ = some (.string x) := (h2.pi.wd.cell (pos + 1)).trans (HYZ.out pos x hx).2
              have hpn : (pos : Int) + 1 < (n : Int) := by
                have h1 := HN.out
                rw [HXS.out] at h1
                have h3 := HYS.out
                simp at h1; omega
              have hp0 : (0 : Int) ≤ (pos : Int) + 1 := by omega
              have hpw : IntKind.i64.wrap ((pos : Int) + 1) = (pos : Int) + 1 := IntWalk.i64_in _ (by omega)
              have hstep : ∀ o' : Op, readF f x o.p = some o'.p → foldF (ruleF k) ys (p0 k) = foldF ((ruleF k).drop (pos + 1)) (ys.drop (pos + 1)) o'.p := fun o' ho => by
                obtain ⟨a1, a2⟩ := List.getElem?_eq_some_iff.1 hf
                obtain ⟨b1, b2⟩ := List.getElem?_eq_some_iff.1 hx
                rw [hfold, List.drop_eq_getElem_cons a1, List.drop_eq_getElem_cons b1, a2, b2]
                exact fold_step ho
              have hstop : readF f x o.p = none → ∀ p, RP p → lineP p ≠ line := fun hno => HNB.out.2 (by
                obtain ⟨a1, a2⟩ := List.getElem?_eq_some_iff.1 hf
                obtain ⟨b1, b2⟩ := List.getElem?_eq_some_iff.1 hx
                rw [hfold, List.drop_eq_getElem_cons a1, List.drop_eq_getElem_cons b1, a2, b2]
                simp only [foldF, hno])
              have HST := Lib.hid (And.intro hstep hstop)
              have HQ := Lib.hid h2.drew
              have HXZ := Lib.hid hxz
              have HIP := Lib.hid hip
              have hBlt := h2.op.lt
              clear hfold hstep hstop h2 hqi hip hf hfb hrn hW hx hxz
              rcases hf6 with rfl | rfl | rfl | rfl | rfl | rfl
              · have hlk := HQ.out.get_w
                have hc := (read_whoT x _ o W.drew HQ.out.pi.tab HQ.out.op HQ.out.ok HQ.out.off)
                have hkk : (((119 : Nat) : Int)) = 119 := rfl
                rw [hkk] at hnx
                clear hkk
                go_wp2_with fail
                refine region_tail 8 (by kernel_rfl) (by kernel_rfl) ?_
                simp only [List.take_succ_cons, List.take_zero, List.drop_succ_cons, List.drop_zero]
                iterate 8 still_step
                refine wpStill_nil ?_
                go_wp2_with (go_at_call 44; refine hc.mono ?_; rintro _ w7 ⟨b, rfl, hg⟩; refine Hid.out ?_)
                refine Lib.hid ?_
                have HG := Lib.hid hg
                have HP7 := Lib.hid (HQ.out.pi.only HQ.out.op HQ.out.hB hg.gr)
                clear hg hc hlk hcx
                cases b
                · have HNL := Lib.hid (HST.out.2 (HG.out.no rfl))
                  clear HG HST HQ
                  go_wp2_with ((with_reducible (show wpList _ _ _ ({ dst := _, op := Op.store 29 _ _, type := _, pos := _, after := _, guard := _ } :: _) _ _)); refine wpList_store_mid rfl 29 (.tmp 2) (.tmp 57) rfl w.heap.size 0 zO.arr rfl rfl (Blk.there HP7.out.res rfl) info29 (arr_oneO _) ?_; refine Hid.out ?_)
                  refine Lib.hid ?_
                  obtain ⟨wq, hwq⟩ : ∃ W, w7.setCells w.heap.size 0 (zO.arr).toList = W := ⟨_, rfl⟩
                  have HZ := Lib.hid (And.intro (Blk.setAll HP7.out.res (cs' := zO.arr) (by rfl)) (below_setCells (zO.arr).toList 0 w7 HP7.out.bel (Nat.le_refl _)))
                  rw [hwq] at HZ ⊢
                  clear hwq HP7
                  repeat go_step
                  (try simp only [Exit.then])
                  refine ret_ct (by rfl) (by rfl) (by rfl) (Blk.rangeAt HZ.out.1) Tryd.underlying29 (by rfl) (by kernel_rfl) ?_
                  exact ⟨⟨PaR.no HNL.out, TagE.no⟩, HZ.out.2⟩
                · obtain ⟨o', ho', hq'⟩ := HQ.out.got HG.out
                  have HQ' := Lib.hid (And.intro ho' hq')
                  clear HG HQ ho' hq'
                  go_wp2_with fail
                  go_roundw
                  case rel => exact ⟨pos + 1, o', HQ'.out.2, by omega, HST.out.1 o' HQ'.out.1⟩
                  case measure =>
                    have e1 := HIP.out
                    have e2 : w7.iterPos (g0 + 1 + 1) = pos + 1 := by simp [World.iterPos, HQ'.out.2.itr]
                    omega
              · have hlk := HQ.out.get_n
                have hc := (HQ.out.call_n x (by have := HXZ.out; omega))
                have hkk : (((110 : Nat) : Int)) = 110 := rfl
                rw [hkk] at hnx
                clear hkk
                go_wp2_with fail
                refine region_tail 8 (by kernel_rfl) (by kernel_rfl) ?_
                simp only [List.take_succ_cons, List.take_zero, List.drop_succ_cons, List.drop_zero]
                iterate 8 still_step
                refine wpStill_nil ?_
                go_wp2_with (go_at_call 40; refine hc.mono ?_; rintro _ w7 ⟨b, rfl, hg⟩; refine Hid.out ?_)
                refine Lib.hid ?_
                have HG := Lib.hid hg
                have HP7 := Lib.hid (HQ.out.pi.only HQ.out.op HQ.out.hB hg.gr)
                clear hg hc hlk hcx
                cases b
                · have HNL := Lib.hid (HST.out.2 (HG.out.no rfl))
                  clear HG HST HQ
                  go_wp2_with ((with_reducible (show wpList _ _ _ ({ dst := _, op := Op.store 29 _ _, type := _, pos := _, after := _, guard := _ } :: _) _ _)); refine wpList_store_mid rfl 29 (.tmp 2) (.tmp 57) rfl w.heap.size 0 zO.arr rfl rfl (Blk.there HP7.out.res rfl) info29 (arr_oneO _) ?_; refine Hid.out ?_)
                  refine Lib.hid ?_
                  obtain ⟨wq, hwq⟩ : ∃ W, w7.setCells w.heap.size 0 (zO.arr).toList = W := ⟨_, rfl⟩
                  have HZ := Lib.hid (And.intro (Blk.setAll HP7.out.res (cs' := zO.arr) (by rfl)) (below_setCells (zO.arr).toList 0 w7 HP7.out.bel (Nat.le_refl _)))
                  rw [hwq] at HZ ⊢
                  clear hwq HP7
                  repeat go_step
                  (try simp only [Exit.then])
                  refine ret_ct (by rfl) (by rfl) (by rfl) (Blk.rangeAt HZ.out.1) Tryd.underlying29 (by rfl) (by kernel_rfl) ?_
                  exact ⟨⟨PaR.no HNL.out, TagE.no⟩, HZ.out.2⟩
                · obtain ⟨o', ho', hq'⟩ := HQ.out.got HG.out
                  have HQ' := Lib.hid (And.intro ho' hq')
                  clear HG HQ ho' hq'
                  go_wp2_with fail
                  go_roundw
                  case rel => exact ⟨pos + 1, o', HQ'.out.2, by omega, HST.out.1 o' HQ'.out.1⟩
                  case measure =>
                    have e1 := HIP.out
                    have e2 : w7.iterPos (g0 + 1 + 1) = pos + 1 := by simp [World.iterPos, HQ'.out.2.itr]
                    omega
              · have hlk := HQ.out.get_t
                have hc := (HQ.out.call_t x (by have := HXZ.out; omega))
                have hkk : (((116 : Nat) : Int)) = 116 := rfl
                rw [hkk] at hnx
                clear hkk
                go_wp2_with fail
                refine region_tail 8 (by kernel_rfl) (by kernel_rfl) ?_
                simp only [List.take_succ_cons, List.take_zero, List.drop_succ_cons, List.drop_zero]
                iterate 8 still_step
                refine wpStill_nil ?_
                go_wp2_with (go_at_call 40; refine hc.mono ?_; rintro _ w7 ⟨b, rfl, hg⟩; refine Hid.out ?_)
                refine Lib.hid ?_
                have HG := Lib.hid hg
                have HP7 := Lib.hid (HQ.out.pi.only HQ.out.op HQ.out.hB hg.gr)
                clear hg hc hlk hcx
                cases b
                · have HNL := Lib.hid (HST.out.2 (HG.out.no rfl))
                  clear HG HST HQ
                  go_wp2_with ((with_reducible (show wpList _ _ _ ({ dst := _, op := Op.store 29 _ _, type := _, pos := _, after := _, guard := _ } :: _) _ _)); refine wpList_store_mid rfl 29 (.tmp 2) (.tmp 57) rfl w.heap.size 0 zO.arr rfl rfl (Blk.there HP7.out.res rfl) info29 (arr_oneO _) ?_; refine Hid.out ?_)
                  refine Lib.hid ?_
                  obtain ⟨wq, hwq⟩ : ∃ W, w7.setCells w.heap.size 0 (zO.arr).toList = W := ⟨_, rfl⟩
                  have HZ := Lib.hid (And.intro (Blk.setAll HP7.out.res (cs' := zO.arr) (by rfl)) (below_setCells (zO.arr).toList 0 w7 HP7.out.bel (Nat.le_refl _)))
                  rw [hwq] at HZ ⊢
                  clear hwq HP7
                  repeat go_step
                  (try simp only [Exit.then])
                  refine ret_ct (by rfl) (by rfl) (by rfl) (Blk.rangeAt HZ.out.1) Tryd.underlying29 (by rfl) (by kernel_rfl) ?_
                  exact ⟨⟨PaR.no HNL.out, TagE.no⟩, HZ.out.2⟩
                · obtain ⟨o', ho', hq'⟩ := HQ.out.got HG.out
                  have HQ' := Lib.hid (And.intro ho' hq')
                  clear HG HQ ho' hq'
                  go_wp2_with fail
                  go_roundw
                  case rel => exact ⟨pos + 1, o', HQ'.out.2, by omega, HST.out.1 o' HQ'.out.1⟩
                  case measure =>
                    have e1 := HIP.out
                    have e2 : w7.iterPos (g0 + 1 + 1) = pos + 1 := by simp [World.iterPos, HQ'.out.2.itr]
                    omega
              · have hlk := HQ.out.get_m
                have hc := (HQ.out.call_m x (by have := HXZ.out; omega))
                have hkk : (((109 : Nat) : Int)) = 109 := rfl
                rw [hkk] at hnx
                clear hkk
                go_wp2_with fail
                refine region_tail 8 (by kernel_rfl) (by kernel_rfl) ?_
                simp only [List.take_succ_cons, List.take_zero, List.drop_succ_cons, List.drop_zero]
                iterate 8 still_step
                refine wpStill_nil ?_
                go_wp2_with (go_at_call 40; refine hc.mono ?_; rintro _ w7 ⟨b, rfl, hg⟩; refine Hid.out ?_)
                refine Lib.hid ?_
                have HG := Lib.hid hg
                have HP7 := Lib.hid (HQ.out.pi.only HQ.out.op HQ.out.hB hg.gr)
                clear hg hc hlk hcx
                cases b
                · have HNL := Lib.hid (HST.out.2 (HG.out.no rfl))
                  clear HG HST HQ
                  go_wp2_with ((with_reducible (show wpList _ _ _ ({ dst := _, op := Op.store 29 _ _, type := _, pos := _, after := _, guard := _ } :: _) _ _)); refine wpList_store_mid rfl 29 (.tmp 2) (.tmp 57) rfl w.heap.size 0 zO.arr rfl rfl (Blk.there HP7.out.res rfl) info29 (arr_oneO _) ?_; refine Hid.out ?_)
                  refine Lib.hid ?_
                  obtain ⟨wq, hwq⟩ : ∃ W, w7.setCells w.heap.size 0 (zO.arr).toList = W := ⟨_, rfl⟩
                  have HZ := Lib.hid (And.intro (Blk.setAll HP7.out.res (cs' := zO.arr) (by rfl)) (below_setCells (zO.arr).toList 0 w7 HP7.out.bel (Nat.le_refl _)))
                  rw [hwq] at HZ ⊢
                  clear hwq HP7
                  repeat go_step
                  (try simp only [Exit.then])
                  refine ret_ct (by rfl) (by rfl) (by rfl) (Blk.rangeAt HZ.out.1) Tryd.underlying29 (by rfl) (by kernel_rfl) ?_
                  exact ⟨⟨PaR.no HNL.out, TagE.no⟩, HZ.out.2⟩
                · obtain ⟨o', ho', hq'⟩ := HQ.out.got HG.out
                  have HQ' := Lib.hid (And.intro ho' hq')
                  clear HG HQ ho' hq'
                  go_wp2_with fail
                  go_roundw
                  case rel => exact ⟨pos + 1, o', HQ'.out.2, by omega, HST.out.1 o' HQ'.out.1⟩
                  case measure =>
                    have e1 := HIP.out
                    have e2 : w7.iterPos (g0 + 1 + 1) = pos + 1 := by simp [World.iterPos, HQ'.out.2.itr]
                    omega
              · have hlk := HQ.out.get_b
                have hc := (read_bodyT x _ o W.drew (by have := HXZ.out; omega) HQ.out.op HQ.out.ok HQ.out.off)
                have hkk : (((98 : Nat) : Int)) = 98 := rfl
                rw [hkk] at hnx
                clear hkk
                go_wp2_with fail
                refine region_tail 8 (by kernel_rfl) (by kernel_rfl) ?_
                simp only [List.take_succ_cons, List.take_zero, List.drop_succ_cons, List.drop_zero]
                iterate 8 still_step
                refine wpStill_nil ?_
                go_wp2_with (go_at_call 47; refine hc.mono ?_; rintro _ w7 ⟨b, rfl, hg⟩; refine Hid.out ?_)
                refine Lib.hid ?_
                have HG := Lib.hid hg
                have HP7 := Lib.hid (HQ.out.pi.only HQ.out.op HQ.out.hB hg.gr)
                clear hg hc hlk hcx
                cases b
                · have HNL := Lib.hid (HST.out.2 (HG.out.no rfl))
                  clear HG HST HQ
                  go_wp2_with ((with_reducible (show wpList _ _ _ ({ dst := _, op := Op.store 29 _ _, type := _, pos := _, after := _, guard := _ } :: _) _ _)); refine wpList_store_mid rfl 29 (.tmp 2) (.tmp 57) rfl w.heap.size 0 zO.arr rfl rfl (Blk.there HP7.out.res rfl) info29 (arr_oneO _) ?_; refine Hid.out ?_)
                  refine Lib.hid ?_
                  obtain ⟨wq, hwq⟩ : ∃ W, w7.setCells w.heap.size 0 (zO.arr).toList = W := ⟨_, rfl⟩
                  have HZ := Lib.hid (And.intro (Blk.setAll HP7.out.res (cs' := zO.arr) (by rfl)) (below_setCells (zO.arr).toList 0 w7 HP7.out.bel (Nat.le_refl _)))
                  rw [hwq] at HZ ⊢
                  clear hwq HP7
                  repeat go_step
                  (try simp only [Exit.then])
                  refine ret_ct (by rfl) (by rfl) (by rfl) (Blk.rangeAt HZ.out.1) Tryd.underlying29 (by rfl) (by kernel_rfl) ?_
                  exact ⟨⟨PaR.no HNL.out, TagE.no⟩, HZ.out.2⟩
                · obtain ⟨o', ho', hq'⟩ := HQ.out.got HG.out
                  have HQ' := Lib.hid (And.intro ho' hq')
                  clear HG HQ ho' hq'
                  go_wp2_with fail
                  go_roundw
                  case rel => exact ⟨pos + 1, o', HQ'.out.2, by omega, HST.out.1 o' HQ'.out.1⟩
                  case measure =>
                    have e1 := HIP.out
                    have e2 : w7.iterPos (g0 + 1 + 1) = pos + 1 := by simp [World.iterPos, HQ'.out.2.itr]
                    omega
              · have hlk := HQ.out.get_a
                have hc := (read_addrT x _ o W.drew (by have := HXZ.out; unfold maxLen; omega) HQ.out.op HQ.out.ok HQ.out.off)
                have hkk : (((97 : Nat) : Int)) = 97 := rfl
                rw [hkk] at hnx
                clear hkk
                go_wp2_with fail
                refine region_tail 8 (by kernel_rfl) (by kernel_rfl) ?_
                simp only [List.take_succ_cons, List.take_zero, List.drop_succ_cons, List.drop_zero]
                iterate 8 still_step
                refine wpStill_nil ?_
                go_wp2_with (go_at_call 45; refine hc.mono ?_; rintro _ w7 ⟨b, rfl, hg⟩; refine Hid.out ?_)
                refine Lib.hid ?_
                have HG := Lib.hid hg
                have HP7 := Lib.hid (HQ.out.pi.only HQ.out.op HQ.out.hB hg.gr)
                clear hg hc hlk hcx
                cases b
                · have HNL := Lib.hid (HST.out.2 (HG.out.no rfl))
                  clear HG HST HQ
                  go_wp2_with ((with_reducible (show wpList _ _ _ ({ dst := _, op := Op.store 29 _ _, type := _, pos := _, after := _, guard := _ } :: _) _ _)); refine wpList_store_mid rfl 29 (.tmp 2) (.tmp 57) rfl w.heap.size 0 zO.arr rfl rfl (Blk.there HP7.out.res rfl) info29 (arr_oneO _) ?_; refine Hid.out ?_)
                  refine Lib.hid ?_
                  obtain ⟨wq, hwq⟩ : ∃ W, w7.setCells w.heap.size 0 (zO.arr).toList = W := ⟨_, rfl⟩
                  have HZ := Lib.hid (And.intro (Blk.setAll HP7.out.res (cs' := zO.arr) (by rfl)) (below_setCells (zO.arr).toList 0 w7 HP7.out.bel (Nat.le_refl _)))
                  rw [hwq] at HZ ⊢
                  clear hwq HP7
                  repeat go_step
                  (try simp only [Exit.then])
                  refine ret_ct (by rfl) (by rfl) (by rfl) (Blk.rangeAt HZ.out.1) Tryd.underlying29 (by rfl) (by kernel_rfl) ?_
                  exact ⟨⟨PaR.no HNL.out, TagE.no⟩, HZ.out.2⟩
                · obtain ⟨o', ho', hq'⟩ := HQ.out.got HG.out
                  have HQ' := Lib.hid (And.intro ho' hq')
                  clear HG HQ ho' hq'
                  go_wp2_with fail
                  go_roundw
                  case rel => exact ⟨pos + 1, o', HQ'.out.2, by omega, HST.out.1 o' HQ'.out.1⟩
                  case measure =>
                    have e1 := HIP.out
                    have e2 : w7.iterPos (g0 + 1 + 1) = pos + 1 := by simp [World.iterPos, HQ'.out.2.itr]
                    omega
            · obtain rfl : pos = rf.size := by omega
              have hnx : ∀ ty, (Instr.next (.pointer (some ⟨g0 + 1 + 1, 0, none⟩)) true ty).run Tryd.prog wr = .ok (.tuple #[.bool false]) wr := fun ty => Lib.run_next_end_at wr _ rf rf.size ty hqi.itr hlt
              have HPO := Lib.hid (HNB.out.1 o.p (by
                rw [hfold, List.drop_of_length_le (by rw [← HR6.out.1, HRW.out.2, bys_len]; exact Nat.le_refl _), List.drop_of_length_le (by rw [HYS.out]; exact Nat.le_refl _)]
                rfl))
              have HQ := Lib.hid hqi
              clear hqi hfold hip
              go_wp2_with (first
                | ((with_reducible (show wpList _ _ _ ({ dst := _, op := Op.load 29 _, type := _, pos := _, after := _, guard := _ } :: _) _ _)); refine wpList_load_mid rfl 29 (.tmp 8) rfl (g0 + 1) 0 rfl _ _ (Blk.rangeAt HQ.out.op) Tryd.underlying29 rfl (by kernel_rfl) ?_)
                | ((with_reducible (show wpList _ _ _ ({ dst := _, op := Op.store 29 _ _, type := _, pos := _, after := _, guard := _ } :: _) _ _)); refine wpList_store_mid rfl 29 (.tmp 2) (.tmp 58) rfl w.heap.size 0 o.arr rfl rfl (Blk.there HQ.out.pi.res rfl) info29 (arr_oneO _) ?_; refine Hid.out ?_))
              refine Lib.hid ?_
              have HOK := Lib.hid (HQ.out.ok.setRes HQ.out.pi.res o.arr.toList)
              have HTG := Lib.hid (show Tag (wr.setCells w.heap.size 0 (o.arr).toList) o from HQ.out.tag.keep fun ad e => setCells_heap _ _ 0 wr _ (HQ.out.tag.ne HQ.out.pi.res (by decide) ad e))
              obtain ⟨wq, hwq⟩ : ∃ W, wr.setCells w.heap.size 0 (o.arr).toList = W := ⟨_, rfl⟩
              have HZ := Lib.hid (And.intro (Blk.setAll HQ.out.pi.res (cs' := o.arr) (by rfl)) (below_setCells (o.arr).toList 0 wr HQ.out.pi.bel (Nat.le_refl _)))
              rw [hwq] at HZ HOK HTG ⊢
              clear hwq HQ
              repeat go_step
              (try simp only [Exit.then])
              refine ret_ct (by rfl) (by rfl) (by rfl) (Blk.rangeAt HZ.out.1) Tryd.underlying29 (by rfl) (by kernel_rfl) ?_
              exact ⟨⟨PaR.yes o HPO.out.1 HPO.out.2 HOK.out, TagE.yes HTG.out⟩, HZ.out.2⟩
        · have hl1 : ((rf.size : Int) == (n : Int) - 1) = false := by simp; omega
          have hl2 : ((rf.size : Int) != (n : Int) - 1) = true := by simp; omega
          have HL0 := Lib.hid hl0
          clear hl0
          go_wp2_with fail
          go_quiet (fail)
          go_wp2_with fail
          go_roundw
          case rel => exact ⟨k + 1, by go_num, HKK.out.1, HP4.out.below (below_drewN (Below.refl _ _) _), fun j h1 h2 => by
            by_cases hj : j = k
            · subst hj; rintro ⟨_, h4⟩; rw [HRW.out.2] at h4; exact HL0.out h4
            · exact HNO.out j h1 (by omega)⟩
          case measure => have := HKK.out.1; simp [intOf]; omega
      · have hw1 : (rw_.toList == x0.toList) = false := toList_ne hw0
        have HW0 := Lib.hid hw0
        clear hw0
        go_wp2_with fail
        go_quiet (fail)
        go_wp2_with fail
        go_roundw
        case rel => exact ⟨k + 1, by go_num, HKK.out.1, HP4.out.below (below_drewN (Below.refl _ _) _), fun j h1 h2 => by
          by_cases hj : j = k
          · subst hj; rintro ⟨h3, _⟩; rw [HRW.out.1] at h3; exact HW0.out h3
          · exact HNO.out j h1 (by omega)⟩
        case measure => have := HKK.out.1; simp [intOf]; omega
    · obtain rfl : k = 10 := by omega
      have HNL := Lib.hid (show ∀ p, RP p → lineP p ≠ line from no_line fun j j1 j9 zs hj => by
        rw [← HX.out.1, HXS.out] at hj
        injection hj with e1 e2
        cases hf : foldF (ruleF j) zs (p0 j) with
        | none => rfl
        | some p =>
          exfalso
          have h1 := fold_len _ _ _ _ hf
          have h2 : (rfS j).size = (ruleF j).length := by rw [← bys_len, (rfS_bys j j1 j9).1]
          have h3 := HN.out
          rw [HXS.out, e2] at h3
          simp only [List.length_cons] at h3
          exact HNO.out j j1 (by omega) ⟨e1.symm, by omega⟩)
      have HP := Lib.hid hpi
      clear hpi hno
      have hk1 : ¬ ((10 : Nat) : Int) < 10 := by omega
      go_wp2_with ((with_reducible (show wpList _ _ _ ({ dst := _, op := Op.store 29 _ _, type := _, pos := _, after := _, guard := _ } :: _) _ _)); refine wpList_store_mid rfl 29 (.tmp 2) (.tmp 60) rfl w.heap.size 0 zO.arr rfl rfl (Blk.there HP.out.res rfl) info29 (arr_oneO _) ?_; refine Hid.out ?_)
      refine Lib.hid ?_
      obtain ⟨wq, hwq⟩ : ∃ W, wr.setCells w.heap.size 0 (zO.arr).toList = W := ⟨_, rfl⟩
      have HZ := Lib.hid (And.intro (Blk.setAll HP.out.res (cs' := zO.arr) (by rfl)) (below_setCells (zO.arr).toList 0 wr HP.out.bel (Nat.le_refl _)))
      rw [hwq] at HZ ⊢
      clear hwq HP
      repeat go_step
      (try simp only [Exit.then])
      refine ret_ct (by rfl) (by rfl) (by rfl) (Blk.rangeAt HZ.out.1) Tryd.underlying29 (by rfl) (by kernel_rfl) ?_
      exact ⟨⟨PaR.no HNL.out, TagE.no⟩, HZ.out.2⟩
/-- script.Parse. -/
theorem parse_anyT (line : ByteArray) (w : World) (hT : Tab w) (hs : line.size ≤ 300000) : Calls Tryd.prog 16 #[.string line] w fun e w' => (PaR line w' e ∧ TagE w' e) ∧ Below w.heap.size w w' := by
  refine parse_genT line w (cutS line) (Lib.countB line ⟨#[32]⟩ + 1) (cut_count line) (by omega) hT (fun x hx => Nat.le_trans (cut_size line x hx) hs) (by have := cut_len line; rw [cut_count] at this; omega) rfl ?_
  have hT1 := hT.below ((Below.refl _ w).alloc (Nat.le_refl _) (.cells zO.arr 29))
  obtain ⟨m, hm⟩ := hT1.mx
  refine (Tryd.strings_Split line ⟨#[32]⟩ m _ (by omega) hm (by decide)).mono fun e w' ⟨he, hw⟩ => ⟨?_, ?_⟩
  · rw [he]; simp
  · rw [hw, split_cut]
end Go.Proofs.YtbkgmeopdcealaaDoor
