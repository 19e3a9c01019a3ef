import Derived.Test.YtbkgmeopdcealaaDoorShw
namespace Go.Proofs.YtbkgmeopdcealaaDoor
open Go.ChangeShapes Go.WideShapes Go.ChangeAt Go.RowKit Go.Sort Go.Deep
set_option linter.unusedVariables false
set_option linter.unusedSimpArgs false
theorem own_new (w : World) (base : Nat) (x : Value) (e : TypeId) (hb : base ≤ w.heap.size) : (w.alloc (.cells #[x] e)).ownsRow base e 1 (.slice (some ⟨w.heap.size, 0, none⟩) 1 1) 1 [x] :=
  ⟨rfl, .inr ⟨_, 1, _, rfl, hb, heap_alloc_new w _, Nat.le_refl _, by unfold maxLen; omega, rfl, rfl⟩⟩
theorem own_ne_it {w : World} {base : Nat} {e : TypeId} {size n : Nat} {v : Value} {xs : List Value} {it pos : Nat} {s : ByteArray} (h : w.ownsRow base e size v n xs) (hi : w.heap[it]? = some (.stringIter s pos)) : some it ≠ v.ownBlock := by
  rcases h.2 with ⟨rfl, _⟩ | ⟨g, cap, cur, rfl, _, hh, _⟩
  · simp [Value.ownBlock]
  · intro e2
    simp only [Value.ownBlock, Option.some.injEq] at e2
    subst e2
    rw [hi] at hh
    cases hh
theorem iter_other (w : World) (k : Nat) (s : ByteArray) (pos i : Nat) (h : i ≠ k) : (w.iterAt k s pos).heap[i]? = w.heap[i]? := by
  simp [World.iterAt, Array.getElem?_setIfInBounds, Ne.symm h]
theorem own_iter {w : World} {base : Nat} {e : TypeId} {size n : Nat} {v : Value} {xs : List Value} {it pos pos' : Nat} {s : ByteArray} (h : w.ownsRow base e size v n xs) (hi : w.heap[it]? = some (.stringIter s pos)) : (w.iterAt it s pos').ownsRow base e size v n xs := by
  refine ⟨h.1, ?_⟩
  have hne := own_ne_it h hi
  rcases h.2 with h1 | ⟨g, cap, cur, rfl, hb, hh, hr⟩
  · exact .inl h1
  · refine .inr ⟨g, cap, cur, rfl, hb, ?_, hr⟩
    rw [iter_other _ _ _ _ _ (by intro e; subst e; exact hne rfl)]
    exact hh
/-- The line so far. -/
structure LI (w : World) (o : Op) (rs : ByteArray) (pos : Nat) (xs : List ByteArray) (v : Value) (W : World) : Prop where
  lo : 10 ≤ w.heap.size
  bel : Below w.heap.size w W
  tab : Tab W
  ok : OpOk W o
  box : Blk W w.heap.size 29 o.arr
  it : W.heap[w.heap.size + 1 + 1 + 1]? = some (.stringIter rs pos)
  own : W.ownsRow (w.heap.size + 1 + 1) 9 1 v xs.length (xs.map Value.string)
theorem LI.sz {w : World} {o : Op} {rs : ByteArray} {pos : Nat} {xs : List ByteArray} {v : Value} {W : World} (h : LI w o rs pos xs v W) : w.heap.size + 1 + 1 + 1 < W.heap.size := (Array.getElem?_eq_some_iff.1 h.it).1
theorem LI.step {w : World} {o : Op} {rs : ByteArray} {pos : Nat} {xs : List ByteArray} {v : Value} {W : World} (h : LI w o rs pos xs v W) : LI w o rs (pos + 1) xs v (W.iterAt (w.heap.size + 1 + 1 + 1) rs (pos + 1)) := by
  have hz := h.sz
  have hs : (W.iterAt (w.heap.size + 1 + 1 + 1) rs (pos + 1)).heap.size = W.heap.size := by simp [World.iterAt]
  have hb : Below w.heap.size W (W.iterAt (w.heap.size + 1 + 1 + 1) rs (pos + 1)) := ⟨rfl, rfl, rfl, by rw [hs]; exact Nat.le_refl _, fun i hi => iter_other _ _ _ _ _ (by omega)⟩
  have hc : ∀ a : Addr, a.block ≠ w.heap.size + 1 + 1 + 1 → (W.iterAt (w.heap.size + 1 + 1 + 1) rs (pos + 1)).cell? a = W.cell? a := fun a ha => World.cell?_of_block (iter_other _ _ _ _ _ ha)
  refine ⟨h.lo, h.bel.trans hb, h.tab.keep (by rw [hs]; exact Nat.le_refl _) (fun i hi => iter_other _ _ _ _ _ (by have := h.lo; omega)), ?_, (iter_other _ _ _ _ _ (by omega)).trans h.box, Lib.iterAt_heap W _ rs pos (pos + 1) h.it, own_iter h.own h.it⟩
  have k := h.ok
  refine ⟨⟨⟨k.y.1.1, fun hn => ?_⟩, k.y.2⟩, k.c0, k.c1, k.k0, k.k1, k.w0, k.w1, k.n0, k.n1, k.m0, k.m1, k.a1⟩
  obtain ⟨ad, e, hb2, hcc⟩ := k.y.1.2 hn
  refine ⟨ad, e, by rw [hs]; exact hb2, fun j u hu => ?_⟩
  rw [← hcc j u hu]
  refine hc _ (fun e2 => ?_)
  have h3 := hcc j u hu
  rw [World.cell?, e2, h.it] at h3
  cases h3
theorem LI.call {w : World} {o : Op} {rs : ByteArray} {pos : Nat} {xs : List ByteArray} {v : Value} {W W' : World} (h : LI w o rs pos xs v W) (hb : Below W.heap.size W W') : LI w o rs pos xs v W' :=
  ⟨h.lo, h.bel.trans (hb.mono h.bel.size), h.tab.below hb, h.ok.below hb, h.box.below hb h.box.lt, (hb.block _ h.sz).trans h.it, own_below h.own hb⟩
theorem LI.app {w : World} {o : Op} {rs : ByteArray} {pos : Nat} {xs : List ByteArray} {v v' : Value} {W W' : World} (h : LI w o rs pos xs v W) (hf : 0 < o.n → ∀ ad, o.A = some ad → ad.block < w.heap.size + 1 + 1) (x : ByteArray) (hg : W.grownBy W' v.ownBlock) (ho : W'.ownsRow (w.heap.size + 1 + 1) 9 1 v' (xs ++ [x]).length ((xs ++ [x]).map Value.string)) : LI w o rs pos (xs ++ [x]) v' W' := by
  have hz := h.sz
  have hne : ∀ k, k < w.heap.size + 1 + 1 → some k ≠ v.ownBlock := fun k hk => own_ne h.own hk
  refine ⟨h.lo, below_own h.bel h.own hg (by omega) h.bel.size, h.tab.keep hg.size (fun k hk => hg.block k (by have := h.tab.sz; omega) (hne k (by have := h.lo; omega))), ?_, h.box.grown hg (hne _ (by omega)), (hg.block _ hz (own_ne_it h.own h.it)).trans h.it, ho⟩
  have k := h.ok
  refine ⟨⟨⟨k.y.1.1, fun hn => ?_⟩, k.y.2⟩, k.c0, k.c1, k.k0, k.k1, k.w0, k.w1, k.n0, k.n1, k.m0, k.m1, k.a1⟩
  obtain ⟨ad, e, hb2, hcc⟩ := k.y.1.2 hn
  refine ⟨ad, e, Nat.lt_of_lt_of_le hb2 hg.size, fun j u hu => ?_⟩
  rw [← hcc j u hu]
  exact World.cell?_of_block (hg.block _ (by rw [block_of_add]; exact hb2) (hne _ (by rw [block_of_add]; exact hf hn ad e)))
theorem rfS_bys (k : Nat) (h1 : 1 ≤ k) (h9 : k ≤ 9) : bys (rfS k) = ruleF k ∧ ∀ f ∈ ruleF k, f = 119 ∨ f = 110 ∨ f = 116 ∨ f = 109 ∨ f = 98 ∨ f = 97 := by
  rcases nine h1 h9 with rfl | rfl | rfl | rfl | rfl | rfl | rfl | rfl | rfl <;> exact ⟨by decide, by decide⟩
theorem rul_cells {w : World} (h : w.rangeAt 0 0 rulesL) (k : Nat) (h1 : 1 ≤ k) (h9 : k ≤ 9) : w.cell? ⟨0, k * 2, none⟩ = some (.string (rwS k)) ∧ w.cell? ⟨0, k * 2 + 1, none⟩ = some (.string (rfS k)) := by
  have g : ∀ j v, rulesL[j]? = some v → w.cell? ⟨0, j, none⟩ = some v := fun j v hv => by have := h j v hv; rwa [Nat.zero_add] at this
  rcases nine h1 h9 with rfl | rfl | rfl | rfl | rfl | rfl | rfl | rfl | rfl <;> exact ⟨g _ _ rfl, g _ _ rfl⟩
theorem rune_at (s : ByteArray) (i f : Nat) (h : i < s.size) (hf : (bys s)[i]? = some f) : (s[i]'h).toNat = f := by
  have e : s.data.toList[i]? = some (s[i]'h) := by simp [h]; rfl
  unfold bys at hf
  rw [List.getElem?_map, e] at hf
  simpa using hf
theorem fieldS_size {w : World} {o : Op} (hO : OpOk w o) (hn : o.n ≤ 2500) (ha : o.ad.size ≤ 5000) (f : Nat) : (fieldS o.p f).size ≤ 5000 := by
  have hl := hO.y.len
  have e1 : (whS o.p.wh).size ≤ 5000 := by unfold whS; split <;> decide
  have e2 : (itS o.p.nn).size ≤ 5000 := Nat.le_trans (itS_le _ hO.n0 hO.n1) (by decide)
  have e3 : (itS o.p.mm).size ≤ 5000 := Nat.le_trans (itS_le _ hO.m0 hO.m1) (by decide)
  have e4 : (hexS o.p.bs).size ≤ 5000 := by
    unfold hexS
    split
    · decide
    · rw [str_size, hexL_len]; show o.bs.length * 2 ≤ 5000; omega
  have e5 : o.p.ad.size ≤ 5000 := ha
  unfold fieldS
  split
  · exact e1
  · split
    · exact e2
    · split
      · exact e2
      · split
        · exact e3
        · split
          · exact e4
          · exact e5
theorem rwS_size (k : Nat) (h1 : 1 ≤ k) (h9 : k ≤ 9) : (rwS k).size ≤ 7 := by
  rcases nine h1 h9 with rfl | rfl | rfl | rfl | rfl | rfl | rfl | rfl | rfl <;> decide
theorem LI.start {w : World} {o : Op} (rw_ rf : ByteArray) (hT : Tab w) (hO : OpOk w o) (arr : Array Value) (e : arr = o.arr) : LI w o rf 0 [rw_] (.slice (some ⟨w.heap.size + 1 + 1, 0, none⟩) 1 1) ((((w.alloc (.cells arr 29)).alloc (.cells #[.string rw_, .string rf] 56)).alloc (.cells #[.string rw_] 9)).iter rf 0) := by
  subst e
  have b : Below w.heap.size w ((((w.alloc (.cells o.arr 29)).alloc (.cells #[.string rw_, .string rf] 56)).alloc (.cells #[.string rw_] 9)).iter rf 0) :=
    ((((Below.refl _ w).alloc (Nat.le_refl _) _).alloc (by simp) _).alloc (by simp; omega) _).alloc (by simp; omega) _
  refine ⟨hT.sz, b, hT.below b, hO.below b, (((Blk.new w 29 o.arr).alloc _).alloc _).alloc _, ?_, ?_⟩
  · have := World.iter_heap (((w.alloc (.cells o.arr 29)).alloc (.cells #[.string rw_, .string rf] 56)).alloc (.cells #[.string rw_] 9)) rf 0
    simpa using this
  · have h := own_new ((w.alloc (.cells o.arr 29)).alloc (.cells #[.string rw_, .string rf] 56)) (w.heap.size + 1 + 1) (.string rw_) 9 (by simp)
    have h2 := h.alloc (.stringIter rf 0)
    rw [show ((w.alloc (.cells o.arr 29)).alloc (.cells #[.string rw_, .string rf] 56)).heap.size = w.heap.size + 1 + 1 by simp] at h2
    exact h2
set_option maxRecDepth 100000 in
set_option maxHeartbeats 1000000 in
/-- script.line. -/
theorem line_any (o : Op) (k : Nat) (h1 : 1 ≤ k) (h9 : k ≤ 9) (hk : o.kd = (k : Int)) (w : World) (hT : Tab w) (hO : OpOk w o) (hn : o.n ≤ 2500) (ha : o.ad.size ≤ 5000):
    Calls Tryd.prog 27 #[o.v] w fun e w' => e = .returned (.string (lineP o.p)) ∧ Below w.heap.size w w' := by
  obtain ⟨i0, hi, hz0, hz1, hz2⟩ := info_parts info9
  have hzw := hT.sz
  have b1 : Below w.heap.size w (w.alloc (.cells o.arr 29)) := (Below.refl _ w).alloc (Nat.le_refl _) _
  have c := rul_cells (hT.below b1).rul k h1 h9
  have HT := Lib.hid hT
  have HO := Lib.hid hO
  have hf0 : 0 < o.n → ∀ ad, o.A = some ad → ad.block < w.heap.size := fun h0 ad e => by
    obtain ⟨ad', e', hb, _⟩ := hO.y.1.2 h0
    rw [e] at e'
    injection e' with e'
    subst e'
    exact hb
  have HF := Lib.hid hf0
  have HFS := Lib.hid (fun f => fieldS_size hO hn ha f)
  have HRS := Lib.hid (rwS_size k h1 h9)
  have HL := Lib.hid (show lineP o.p = joinS (rwS k :: (ruleF k).map (fieldS o.p)) by
    unfold lineP wordsP
    rw [show o.p.kd.toNat = k by show o.kd.toNat = k; rw [hk]; rfl]; rfl)
  obtain ⟨LP, hLP⟩ : ∃ l, lineP o.p = l := ⟨_, rfl⟩
  have HLP := Lib.hid hLP
  rw [hLP]
  have HA := Lib.hid (And.intro hn ha)
  have HR := Lib.hid (rfS_bys k h1 h9)
  obtain ⟨c0, c1⟩ := c
  obtain ⟨rw_, hrw⟩ : ∃ s, rwS k = s := ⟨_, rfl⟩
  obtain ⟨rf, hrf⟩ : ∃ s, rfS k = s := ⟨_, rfl⟩
  rw [hrw] at c0
  rw [hrf] at c1
  have HRW := Lib.hid (And.intro hrw hrf)
  have hrs : rf.size ≤ 3 := by
    rw [← hrf]
    rcases nine h1 h9 with rfl | rfl | rfl | rfl | rfl | rfl | rfl | rfl | rfl <;> decide
  clear hT hO hf0 hLP hn ha hrw hrf b1
  have hkz : (k : Int) < 10 := by omega
  have HS := Lib.hid (show ∀ arr, arr = o.arr → LI w o rf 0 [rw_] (.slice (some ⟨w.heap.size + 1 + 1, 0, none⟩) 1 1) ((((w.alloc (.cells arr 29)).alloc (.cells #[.string rw_, .string rf] 56)).alloc (.cells #[.string rw_] 9)).iter rf 0) from fun arr e => LI.start rw_ rf HT.out HO.out arr e)
  have HW := Lib.hid (show ∀ W pos xs v, LI w o rf pos xs v W → ∀ f, (f = 119 ∨ f = 110 ∨ f = 116 ∨ f = 109 ∨ f = 98 ∨ f = 97) → Calls Tryd.prog 36 #[o.v, .int .i32 (f : Nat)] W fun e w' => e = .returned (.string (fieldS o.p f)) ∧ Below W.heap.size W w' from
    fun W pos xs v h f hf => show_any o f hf W h.tab h.ok (by have := HA.out.1; omega))
  obtain ⟨fz, hfz⟩ : ∃ g : Nat → ByteArray, fieldS o.p = g := ⟨_, rfl⟩
  rw [hfz] at HL HW
  have HFZ := Lib.hid (show ∀ f, (fz f).size ≤ 5000 by
    intro f
    rw [← hfz]; exact HFS.out f)
  clear HFS
  obtain ⟨X, hX⟩ : ∃ x, o = x := ⟨_, rfl⟩
  have HX := Lib.hid hX
  rw [hX] at HS HF
  obtain ⟨kd, wh, nn, mm, A, n, cc, bs, ad⟩ := o
  simp only at hk
  subst hk
  unfold Op.v
  unfold Op.arr at c0 c1
  simp only at c0 c1 ⊢
  go_enter Tryd.func27, Tryd.ntmps27
  go_wp2_with fail
  go_loopw [4] (fun v wr => ∃ (pos : Nat) (xs : List ByteArray), LI w X rf pos xs v wr ∧ xs = rw_ :: ((ruleF k).take pos).map fz ∧ pos ≤ rf.size) (fun v wr => rf.size - wr.iterPos (w.heap.size + 1 + 1 + 1))
  case atStart => exact ⟨0, [rw_], HS.out _ (by rw [← HX.out]; rfl), rfl, Nat.zero_le _⟩
  case round =>
    obtain ⟨pos, xs, hli, hxs, hpos⟩ := hrel
    have hip : wr.iterPos (w.heap.size + 1 + 1 + 1) = pos := by simp [World.iterPos, hli.it]
    by_cases hlt : pos < rf.size
    · obtain ⟨f, hf⟩ : ∃ f, (ruleF k)[pos]? = some f := by
        rw [← HR.out.1, HRW.out.2]
        exact ⟨_, List.getElem?_eq_getElem (by rw [bys_len]; exact hlt)⟩
      have hfb : (bys rf)[pos]? = some f := by rw [← HRW.out.2, HR.out.1]; exact hf
      have hf6 := HR.out.2 f (List.mem_of_getElem? hf)
      have hrn := rune_at rf pos f hlt hfb
      have hnx : ∀ ty, (Instr.next (.pointer (some ⟨w.heap.size + 1 + 1 + 1, 0, none⟩)) true ty).run Tryd.prog wr = .ok (.tuple #[.bool true, .int .i64 pos, .int .i32 (f : Nat)]) (wr.iterAt (w.heap.size + 1 + 1 + 1) rf (pos + 1)) := fun ty => by
        rw [Lib.run_next_ascii_at wr _ rf pos ty hli.it hlt (by rw [hrn]; omega), hrn]
      have h2 := hli.step
      obtain ⟨W, hW⟩ : ∃ W, wr.iterAt (w.heap.size + 1 + 1 + 1) rf (pos + 1) = W := ⟨_, rfl⟩
      rw [hW] at hnx h2
      have hc := HW.out W (pos + 1) xs _ (by rw [HX.out]; exact h2) f hf6
      have d0 : ∀ (i : Nat) u, X.arr[i]? = some u → W.cell? ⟨w.heap.size, i, none⟩ = some u := fun i u hu => (h2.box.cell i).trans hu
      have e0 : W.cell? ⟨w.heap.size, 0, none⟩ = some (.int .i64 (k : Int)) := d0 0 _ (by rw [← HX.out]; rfl)
      have e1 : W.cell? ⟨w.heap.size, 1, none⟩ = some (.int .i64 wh) := d0 1 _ (by rw [← HX.out]; rfl)
      have e2 : W.cell? ⟨w.heap.size, 2, none⟩ = some (.int .i64 nn) := d0 2 _ (by rw [← HX.out]; rfl)
      have e3 : W.cell? ⟨w.heap.size, 3, none⟩ = some (.int .i64 mm) := d0 3 _ (by rw [← HX.out]; rfl)
      have e4 : W.cell? ⟨w.heap.size, 4, none⟩ = some (.slice A n cc) := d0 4 _ (by rw [← HX.out]; rfl)
      have e5 : W.cell? ⟨w.heap.size, 5, none⟩ = some (.string ad) := d0 5 _ (by rw [← HX.out]; rfl)
      obtain ⟨A1, c1', rfl⟩ := own_form h2.own
      have H2 := Lib.hid h2
      have HXS := Lib.hid (And.intro hxs hf)
      have HP := Lib.hid (And.intro hip hpos)
      obtain ⟨fw, hfw⟩ : ∃ x, fz f = x := ⟨_, rfl⟩
      rw [hfw] at hc
      unfold Op.v at hc
      simp only at hc
      have HFW := Lib.hid hfw
      have hxl : xs.length ≤ 4 := by
        rw [hxs]
        have : ((ruleF k).take pos).length ≤ 3 := by rw [List.length_take]; have := hrs; omega
        simp; omega
      clear d0 h2 hli hxs hip hf hfb hf6 hrn hW hfw
      go_wp2_with (first
        | (go_at_call 36; refine hc.mono ?_; rintro _ w2 ⟨rfl, hb⟩; refine Hid.out ?_))
      refine Lib.hid ?_
      have H3 := Lib.hid (H2.out.call hb)
      have hs2 := H3.out.bel.size
      clear hc hb H2 e0 e1 e2 e3 e4 e5
      go_wp2_with (at_builtin; refine wpList_append_own _ rfl _ _ 44 rfl (w.heap.size + 1 + 1) 9 i0 (.string ByteArray.empty) 1 16 Tryd.underlying44 hi hz0 hz1 hz2 rfl (by decide) _ _ _ rfl (H3.out.own.alloc _) ⟨w2.heap.size, 0, none⟩ 1 1 [.string fw] rfl rfl (news_blk w2 #[.string fw] 9) (by intro u hu; simp at hu; subst hu; rfl) (by unfold maxLen; omega) (by omega) (by have := H3.out.sz; simp; omega) ?_; intro v7 w7 hown7 hg7 hx7; clear hx7; refine Hid.out ?_)
      refine Lib.hid ?_
      have H4 : LI w X rf (pos + 1) xs (.slice A1 xs.length c1') (w2.alloc (.cells #[.string fw] 9)) := H3.out.call ((Below.refl _ w2).alloc (Nat.le_refl _) _)
      have H7 := Lib.hid (H4.app (fun h0 ad e => by have := HF.out h0 ad e; omega) fw hg7 (by simpa using hown7))
      clear hown7 hg7 H4 H3
      go_wp2_with fail
      go_roundw
      case rel => exact ⟨pos + 1, xs ++ [fw], H7.out, by
        rw [HXS.out.1, List.take_add_one, HXS.out.2, ← HFW.out]; simp, by omega⟩
      case measure =>
        have e1 := HP.out.1
        have e2 : w7.iterPos (w.heap.size + 1 + 1 + 1) = pos + 1 := by simp [World.iterPos, H7.out.it]
        omega
    · obtain rfl : pos = rf.size := by omega
      have hnx : ∀ ty, (Instr.next (.pointer (some ⟨w.heap.size + 1 + 1 + 1, 0, none⟩)) true ty).run Tryd.prog wr = .ok (.tuple #[.bool false]) wr := fun ty => Lib.run_next_end_at wr _ rf rf.size ty hli.it hlt
      obtain ⟨A1, c1', rfl⟩ := own_form hli.own
      have hall : xs = rw_ :: (ruleF k).map fz := by
        rw [hxs, List.take_of_length_le (by rw [← HR.out.1, HRW.out.2, bys_len]; exact Nat.le_refl _)]
      have hj := join_own xs hli.own (by rw [hall]; simp) (by
        rw [hall]
        intro x hx
        rcases List.mem_cons.1 hx with rfl | hx
        · have := HRS.out; rw [HRW.out.1] at this; omega
        · obtain ⟨f, _, rfl⟩ := List.mem_map.1 hx
          have := HFZ.out f; omega) (by
        rw [hall]
        have : (ruleF k).length ≤ 3 := by rw [← HR.out.1, HRW.out.2, bys_len]; exact hrs
        simp; omega)
      have HB := Lib.hid hli.bel
      have HE := Lib.hid (show joinS xs = LP by rw [hall, ← HRW.out.1, ← HL.out, HLP.out])
      clear hli hxs hip hall
      go_wp2_with (go_at_call 37; refine hj.mono ?_; rintro _ w2 ⟨rfl, hb⟩; refine Hid.out ?_)
      refine Lib.hid ?_
      have HB2 := Lib.hid (HB.out.trans (hb.mono HB.out.size))
      clear hb hj HB
      go_wp2_with fail
      go_ret
      exact ⟨by rw [← HE.out]; rfl, HB2.out⟩
end Go.Proofs.YtbkgmeopdcealaaDoor
