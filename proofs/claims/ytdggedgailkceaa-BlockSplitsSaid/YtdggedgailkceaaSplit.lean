import Derived.Test.YtdggedgailkceaaIter
namespace Go.Proofs.Ytdggedgailkceaa
open Go.ChangeShapes Go.WideShapes Go.ChangeAt Go.RowKit Go.Shelf
set_option linter.unusedVariables false
set_option linter.unusedSimpArgs false
attribute [local go_sem] Oper.semAt_some
theorem info24 : (Try.prog.info? 24).map (fun i => (i.zero, i.size, i.bytes)) = some (some (.agg (vc zeros)), 16, 16) := by kernel_rfl
/-- The cells of blocks. -/
def flat (bs : List Nat) (pre : List Nat) : List Value := pre.flatMap fun x => bv (pt bs x)
theorem flat_snoc (bs pre : List Nat) (x : Nat) : flat bs (pre ++ [x]) = flat bs pre ++ bv (pt bs x) := by simp [flat]
theorem blk_own {β : Type} (B : Nat) (t : TypeId) (f : β → Array Value) : Own (fun s W => Blk W B t (f s)) := fun s X Y row hs hg hrow => by
  refine Blk.grown hs hg fun e' => ?_
  obtain ⟨o, ho, hc⟩ := hrow B e'.symm
  rw [show X.heap[B]? = _ from hs] at ho; cases ho; cases hc
theorem list16 {q : List Nat} (h : q.length = 16) : ∃ a0 a1 a2 a3 a4 a5 a6 a7 a8 a9 b0 b1 b2 b3 b4 b5, q = [a0, a1, a2, a3, a4, a5, a6, a7, a8, a9, b0, b1, b2, b3, b4, b5] := by
  match q, h with
  | [a0, a1, a2, a3, a4, a5, a6, a7, a8, a9, b0, b1, b2, b3, b4, b5], _ => exact ⟨_, _, _, _, _, _, _, _, _, _, _, _, _, _, _, _, rfl⟩
theorem fold16 (q : List Nat) (h : q.length = 16) : Array.foldl (fun (cs : Array Value) (x : Value × Nat) => cs.setIfInBounds x.snd x.fst)
    #[Value.int IntKind.u8 0, Value.int IntKind.u8 0, Value.int IntKind.u8 0, Value.int IntKind.u8 0, Value.int IntKind.u8 0, Value.int IntKind.u8 0, Value.int IntKind.u8 0, Value.int IntKind.u8 0,
      Value.int IntKind.u8 0, Value.int IntKind.u8 0, Value.int IntKind.u8 0, Value.int IntKind.u8 0, Value.int IntKind.u8 0, Value.int IntKind.u8 0, Value.int IntKind.u8 0, Value.int IntKind.u8 0]
    (vc q).zipIdx 0 (vc q).size = vc q := by
  obtain ⟨a0, a1, a2, a3, a4, a5, a6, a7, a8, a9, b0, b1, b2, b3, b4, b5, rfl⟩ := list16 h
  simp [vc]
theorem new_row16 (w : World) (q : List Nat) : ∀ j u, (bv q)[j]? = some u → (w.alloc (.cells (vc q) 24)).cell? ((⟨w.heap.size, 0, none⟩ : Addr).add j) = some u := by
  intro j u hu
  rw [add_none, Nat.zero_add, Blk.cell (Blk.new w 24 (vc q))]
  simpa [vc, bv] using hu
theorem keeps_setCells {a w : World} {g : Nat} (h : KeepsOthers a w) : ∀ (vs : List Value) (o : Nat), KeepsOthers a (w.setCells g o vs) := by
  intro vs
  induction vs generalizing w with
  | nil => intro o; exact h
  | cons v r ih => intro o; rw [World.setCells]; exact ih (h.trans (KeepsOthers.setCell _ _ _)) _
theorem Blk.boxed {w : World} {g : Nat} {t : TypeId} {v : Value} (h : Boxed w g t v) : Blk w g t #[v] := h
theorem own_mono {w : World} {base base' : Nat} {e : TypeId} {size : Nat} {v : Value} {n : Nat} {xs : List Value} (h : w.ownsRow base e size v n xs) (hb : base' ≤ base) : w.ownsRow base' e size v n xs := by
  obtain ⟨h1, h2⟩ := h
  refine ⟨h1, ?_⟩
  rcases h2 with h2 | ⟨g, cap, cur, a, b, c⟩
  · exact .inl h2
  · exact .inr ⟨g, cap, cur, a, by omega, c⟩
/-- What holds behind the loop, and behind the append. -/
def SpPre (w : World) (D k c1 : Nat) (A1 : Option Addr) (bs : List Nat) (X : World) : Prop :=
  X.ownsRow w.heap.size 24 16 (.slice A1 k c1) k (flat bs (List.range k)) ∧ Below w.heap.size w X ∧ Blk X w.heap.size 28 #[.slice A1 k c1] ∧ X.heap[D]? = some (.deferred (some []))
theorem SpPre.drew {w X : World} {D k c1 : Nat} {A1 : Option Addr} {bs : List Nat} (h : SpPre w D k c1 A1 bs X) : SpPre w D k c1 A1 bs X.drew := ⟨h.1, h.2.1.drew, h.2.2.1, h.2.2.2⟩
theorem SpPre.store {w X : World} {D k c1 : Nat} {A1 : Option Addr} {bs : List Nat} (h : SpPre w D k c1 A1 bs X) : SpPre w D k c1 A1 bs (X.setCell ⟨w.heap.size, 0, none⟩ (.slice A1 k c1)) := by
  obtain ⟨h1, h2, h3, h4⟩ := h
  refine ⟨h1.kept (only_setCell (only_refl X w.heap.size) (.inl rfl) _) (.inr (own_blk_ne h1 h3 (by decide))), h2.setCell (by simp) _, Blk.set_ h3 0 _, ?_⟩
  rw [Below.heap_setCell X _ _ D (by rintro rfl; unfold Blk at h3; rw [h3] at h4; cases h4)]; exact h4
theorem SpPre.grown {w X Y : World} {D k c1 : Nat} {A1 : Option Addr} {bs : List Nat} (h : SpPre w D k c1 A1 bs X) (hg : X.grownBy Y none) : SpPre w D k c1 A1 bs Y := by
  obtain ⟨h1, h2, h3, h4⟩ := h
  exact ⟨h1.kept hg (by cases A1 <;> simp [Value.ownBlock]), h2.grown hg h2.size (by simp), Blk.grown h3 hg (by simp), (hg.block D (Array.getElem?_eq_some_iff.1 h4).1 (by simp)).trans h4⟩
theorem SpPre.put {w X : World} {D k c1 : Nat} {A1 : Option Addr} {bs : List Nat} (h : SpPre w D k c1 A1 bs X) (hD : w.heap.size ≤ D) : (X.putObj D (.deferred none)).ownsRow w.heap.size 24 16 (.slice A1 k c1) k (flat bs (List.range k)) ∧ Below w.heap.size w (X.putObj D (.deferred none)) ∧ (X.putObj D (.deferred none)).cell? ⟨w.heap.size, 0, none⟩ = some (.slice A1 k c1) := by
  obtain ⟨h1, h2, h3, h4⟩ := h
  exact ⟨ownsRow_putObj h1 _ h4 rfl, h2.trans (belowK_b (w := w) (Nat.le_refl _) X D _ _ hD h4 rfl rfl), cell_kept (Blk.cell h3 0) (grownBy_putObj' _ D (.deferred none)) (fun r e => by cases e; exact ⟨_, h4, rfl⟩)⟩
set_option maxRecDepth 100000 in
set_option maxHeartbeats 2000000 in
theorem split_in (F : Fence) (n : Nat) (h11 : F.fn 11) (h14 : F.fn 14) (h25 : F.fn 25) (hro : F.round = none) (HW : Hid (F = Fence.wide)) (hn : 3 ≤ n) (A : Option Addr) (m c : Nat) (bs : List Nat) (w : World) (hb : Bys w A m bs) (hm : m ≤ 100000) (hmc : m ≤ c) :
    CallsIn F n Try.prog 11 #[.slice A m c] w fun e W' => (∃ A1 c1 A2 c2, e = .returned (.tuple #[.slice A1 (m / 16) c1, .slice A2 (m - m / 16 * 16) c2]) ∧ W'.ownsRow w.heap.size 24 16 (.slice A1 (m / 16) c1) (m / 16) (flat bs (List.range (m / 16))) ∧ W'.ownsRow w.heap.size 5 1 (.slice A2 (m - m / 16 * 16) c2) (m - m / 16 * 16) (bv (bs.drop (m / 16 * 16)))) ∧ Below w.heap.size w W' := by
  have h1 : 1 ≤ n := by omega
  obtain ⟨i0, hi, hz0, hz1, hz2⟩ := info_parts info24
  have hl := hb.len
  refine callsIn_of_wp_marks Try.func11 rfl h11 ?_ hro
  simp only [Try.ntmps11, List.size_toArray, List.length_cons, List.length_nil, Nat.reduceAdd, Nat.reduceSub, Array.replicate_succ, Array.replicate_zero, List.push_toArray, List.append_toArray, List.nil_append, List.cons_append]
  gi_wp2_with (gi_at_call 14; refine (all_in F (n - 1) h14 hro _ _ _ _).mono ?_; rintro e w' ⟨rfl, rfl⟩)
  have bF := (Boxed.new w 28 (.slice none 0 0)).alloc (.cells #[.slice A m c] 27)
  have bN := Boxed.new (w.alloc (.cells #[.slice none 0 0] 28)) 27 (.slice A m c)
  rw [World.size_alloc] at bN
  have hB0 : Below w.heap.size w ((w.alloc (.cells #[.slice none 0 0] 28)).alloc (.cells #[.slice A m c] 27)) := ((Below.refl _ w).alloc (Nat.le_refl _) _).alloc (by simp) _
  have hsz : ((w.alloc (.cells #[.slice none 0 0] 28)).alloc (.cells #[.slice A m c] 27)).heap.size = w.heap.size + 2 := by simp
  have hrd : Reads ((w.alloc (.cells #[.slice none 0 0] 28)).alloc (.cells #[.slice A m c] 27)) w.heap.size 1 A m (bv bs) := Reads.below hb.1 hB0
  obtain ⟨W0, hW0⟩ : ∃ W0, (w.alloc (.cells #[.slice none 0 0] 28)).alloc (.cells #[.slice A m c] 27) = W0 := ⟨_, rfl⟩
  rw [hW0] at bF bN hB0 hsz hrd ⊢
  clear hW0
  refine wpIn_rangeFunc_ownH hro h1 (gf := 25) (lb := #[.pointer (some ⟨w.heap.size + 1, 0, none⟩)]) rfl h25 (enters_of Try.func25 (by kernel_rfl) rfl)
    (all_stops F (n - 1) h25 hro (by omega) (w.heap.size + 1) w.heap.size m c A bs hm hmc hl W0 (by omega) (by omega) bN.cell hrd) Keep.trans (keep_b (by omega) (by omega)) (Below.refl _ _) (fun _ => rfl)
    (fun pre W => ((∃ v, Boxed W w.heap.size 28 v ∧ W.ownsRow w.heap.size 24 16 v pre.length (flat bs pre) ∧ True) ∧ Boxed W (w.heap.size + 1) 27 (.slice A m c)) ∧ Below w.heap.size w W)
    (fun _ _ _ => False)
    (OwnFrom.and (OwnFrom.and (Own.from (holdsRow_own w.heap.size w.heap.size 28 24 16 (fun pre => pre.length) (fun pre => flat bs pre) (fun _ _ => True)) _) (Own.from (boxed_own _ _ _) _)) (ownFrom_below (Nat.le_refl _) (by omega)))
    (fun _ _ _ _ _ hs _ _ => hs)
    ⟨⟨⟨_, bF, World.ownsRow_nil _ _ _ _, trivial⟩, bN⟩, hB0⟩
    (fun x a' W => ∃ Bx, w.heap.size + 1 < Bx ∧ Blk W Bx 24 (vc (pt bs x)) ∧ a' = { tmps := #[.slice A m c, undef, .pointer (some ⟨w.heap.size, 0, none⟩), .slice none 0 0, undef, .pointer (some ⟨Bx, 0, none⟩), .slice A m c, .func (.func 25) #[] #[.pointer (some ⟨w.heap.size + 1, 0, none⟩)], .int .i64 ((x : Int) + 1), .agg (vc (pt bs x)), undef, undef, undef, undef, undef, undef, undef, undef, undef, undef, undef, undef], defers := [] })
    (fun x a' _ X Y row hs hg hr => by obtain ⟨Bx, h1, h2, h3⟩ := hs; exact ⟨Bx, h1, blk_own Bx 24 (fun (_ : Unit) => vc (pt bs x)) () X Y row h2 hg (fun r e => (hr r e).2), h3⟩)
    ?assign ?body ?done ?stop
  case assign =>
    rintro l pre x W K ⟨⟨⟨v, bS1, hown, -⟩, bN1⟩, hB1⟩ hK
    have hp := pt_len bs x
    obtain ⟨q, hq⟩ : ∃ q, pt bs x = q := ⟨_, rfl⟩
    rw [hq] at hp hK
    dsimp only [encP]
    rw [hq]
    have HP := Lib.hid hp
    have HQ0 := Lib.hid hq
    have hs1 := hB1.size
    have HB1 := Lib.hid hB1
    have HO := Lib.hid hown
    have HS := Lib.hid bS1
    clear hq hp hB1 hown bS1
    gi_wp2_with (refine wpListIn_store_mid rfl 24 (.tmp 5) (.tmp 9) rfl W.heap.size 0 (vc q) rfl rfl (Blk.there (Blk.new W 24 _) (by rw [vc_size, HP.out]; rfl)) (info16' HP.out) (vc_one _) ?_)
    have hlt := bN1.lt
    have HN2 := Lib.hid (Blk.setFar (g' := W.heap.size) (Blk.alloc (Blk.boxed bN1) (.cells (vc zeros) 24)) (by omega) (vc q).toList 0)
    refine hK _ _ ((keeps_setCells (KeepsOthers.alloc _ _) _ _).from _) ⟨below_setCells _ _ _ ((Below.refl _ W).alloc (by omega) _) (by omega), HN2.out.trans (show _ = _ from bN1).symm⟩ ⟨⟨⟨v, Blk.setFar (Blk.alloc (Blk.boxed HS.out) _) (by have := HS.out.lt; omega) _ _, (HO.out.alloc _).kept (only_setCells (only_refl _ _) _ _) (by
      rcases hv : v.ownBlock with _ | k
      · exact .inl rfl
      · right; have := (HO.out.lt k hv).2; simp; omega), trivial⟩, HN2.out⟩, below_setCells _ _ _ (HB1.out.alloc hs1 _) hs1⟩ ⟨W.heap.size, hlt, Blk.setAll (Blk.new W 24 _) (by rw [vc_size, HP.out]; rfl), rfl⟩
  case body =>
    rintro l pre x a' W hl ⟨r, hr⟩ ⟨⟨⟨v, bS1, hown, -⟩, bN1⟩, hB1⟩ ⟨Bx, hBx, bX, rfl⟩ hlt
    have hp := pt_len bs x
    obtain ⟨q, hq⟩ : ∃ q, pt bs x = q := ⟨_, rfl⟩
    have hfl := flat_snoc bs pre x
    rw [hq] at hp bX hfl ⊢
    have HP := Lib.hid hp
    have HFL := Lib.hid hfl
    have HX := Lib.hid bX
    have HO := Lib.hid hown
    have HS := Lib.hid bS1
    have HB1 := Lib.hid hB1
    have HN1 := Lib.hid bN1
    have cS := bS1.cell
    have fS := bS1.frozen
    obtain ⟨A1, c1, rfl⟩ := own_form hown
    clear hq hp hfl bX hown bS1 hB1 bN1
    have hvs : (vc q).size = 16 := by rw [vc_size, HP.out]
    have hfold := fold16 q HP.out
    rw [hvs] at hfold
    have hxl := HX.out.lt
    gi_wp2_with (first | (refine wpListIn_load_mid rfl 24 (.tmp 5) rfl Bx 0 rfl (vc q).toList (.array 16 5) (Blk.rangeAt HX.out) Try.underlying24 rfl (info16 HP.out) ?_) | (gi_at_builtin; refine wpListIn_append_own _ rfl (.tmp 10) (.tmp 12) 28 rfl w.heap.size 24 i0 (.agg (vc zeros)) 16 16 Try.underlying28 hi hz0 hz1 hz2 rfl (by decide) _ pre.length (flat bs pre) rfl (HO.out.alloc _) ⟨W.heap.size, 0, none⟩ 1 1 (bv q) rfl (by rw [bv_len, HP.out]) (new_row16 W q) (bv_one q) (by unfold maxLen; omega) (by omega) (by have := HB1.out.size; simp; omega) ?_; intro v' w1 hown' hgrow _; obtain ⟨g', cap', rfl⟩ := ownsRow_succ hown'; obtain ⟨hv1, hv2, hr2, hk2, hb2⟩ := HS.out.appended (by decide) HO.out HB1.out.size (Nat.le_refl _) hown' hgrow; have hc1 := hv1.cell; have hf1 := hv1.frozen; have hg1 := Lib.hid hgrow; have HO1 := Lib.hid hown'; have HR2 := Lib.hid hr2; have HV2 := Lib.hid hv2; have HK2 := Lib.hid hk2; have HB2 := Lib.hid hb2; clear hown' hgrow hv2 hr2 hk2 hb2 hv1))
    have hN3 : (w1.setCell ⟨w.heap.size, 0, none⟩ (.slice (some ⟨g', 0, none⟩) (pre.length + 1) cap')).heap[w.heap.size + 1]? = some (.cells #[.slice A m c] 27 (0, 0)) := by
      have h3 := Blk.grown (Blk.alloc (Blk.boxed HN1.out) (.cells (vc q) 24)) hg1.out (fun e => own_blk_ne (HO.out.alloc (.cells (vc q) 24)) (Blk.alloc (Blk.boxed HN1.out) (.cells (vc q) 24)) (by decide) e.symm)
      exact Blk.far h3 (by simp) _
    exact ⟨HK2.out.from _, ⟨HB2.out, hN3.trans (show _ = _ from HN1.out).symm⟩, ⟨⟨⟨_, HV2.out, by rw [HFL.out, List.length_append, List.length_singleton]; exact HR2.out, trivial⟩, hN3⟩, HB1.out.trans HB2.out⟩⟩
  case done =>
    rintro D ys W hD rfl ⟨⟨⟨v, bS1, hown, -⟩, bN1⟩, hB1⟩ hK
    have hF := HW.out
    subst hF
    obtain ⟨A1, c1, rfl⟩ := own_form hown
    have cS := bS1.cell
    have fS := bS1.frozen
    have HO := Lib.hid hown
    have HS := Lib.hid bS1
    have HB1 := Lib.hid hB1
    have HK := Lib.hid hK
    clear hown bS1 hB1 hK bN1
    gi_wp2
    have hlen : (List.range (m / 16)).length = m / 16 := List.length_range
    rw [hlen] at cS HO HS
    obtain ⟨k, hk⟩ : ∃ k, m / 16 = k := ⟨_, rfl⟩
    rw [hk] at cS HO HS
    have hk16 : k * 16 ≤ m := by omega
    have HK16 := Lib.hid hk
    obtain ⟨A', hA'⟩ : ∃ A', (if c = k * 16 then A else Option.map (fun x => x.add (k * 16)) A) = A' := ⟨_, rfl⟩
    have hcut : Reads W w.heap.size 1 A' (m - k * 16) (bv (bs.drop (k * 16))) := by
      have := (Reads.below hb.1 HB1.out).cut (k := k * 16) (cap := c) hk16 hmc
      rw [Nat.mul_one, hA'] at this
      simpa [bv, List.map_drop] using this
    have hw16 : IntKind.i64.wrap ((k : Int) * 16) = (k : Int) * 16 := IntWalk.i64_in _ (by omega)
    have ht16 : ((k : Int) * 16).toNat = k * 16 := by omega
    have h016 : (0 : Int) ≤ (k : Int) * 16 := by omega
    have hm16 : (k : Int) * 16 ≤ (m : Int) := by omega
    have HCUT := Lib.hid hcut
    clear hcut hk hlen
    have HPRE := Lib.hid (show SpPre w D k c1 A1 bs W from ⟨HO.out, HB1.out, HS.out, HK.out⟩)
    have hws := HB1.out.size
    have hbl := HS.out.lt
    refine wpIn_wide.2 ?_
    rename_i K hKw
    refine Go.wp_mono (Q := Exit.then K fun _ _ _ => False) ?_ (fun e a w h => by cases e <;> first | exact h | exact h.elim)
    obtain ⟨i5, hj, hy0, hy1, hy2⟩ := info_parts info5
    go_region_law (refine step_append_any _ rfl (.tmp 15) (.tmp 20) 27 rfl W.heap.size 5 i5 (.int .u8 0) 1 1 Try.underlying27 hj hy0 hy1 hy2 rfl (by decide) (.slice none 0 0) 0 [] rfl (World.ownsRow_nil _ _ _ _) w.heap.size A' (m - k * 16) (c - k * 16) (bv (bs.drop (k * 16))) rfl (by first | exact HCUT.out | exact HCUT.out.drew.setCell (Nat.le_refl _) _) (bv_one _) (by unfold maxLen; omega) (by omega) (by simp) ?_; intro v9 w9 ho9 hg9 hor9; clear hor9; have hS9 : SpPre w D k c1 A1 bs w9 := (by first | exact SpPre.grown (SpPre.drew HPRE.out) hg9 | exact SpPre.grown (SpPre.store (SpPre.drew HPRE.out)) hg9); have hc9 := Blk.cell hS9.2.2.1 0; have hf9 := Blk.frozen hS9.2.2.1 0; simp at hc9; have ho9 : w9.ownsRow W.heap.size 5 1 v9 (m - k * 16) (bv (bs.drop (k * 16))) := (by simpa using ho9); have HS9 := Lib.hid hS9; have HO9 := Lib.hid ho9; clear hS9 ho9 hg9)
    all_goals gi_wp2
    all_goals
      have HE : SpPre w D k c1 A1 bs (w9.setCell ⟨w.heap.size, 0, none⟩ (.slice A1 k c1)) := SpPre.store HS9.out
      have hO : (w9.setCell ⟨w.heap.size, 0, none⟩ (.slice A1 k c1)).ownsRow W.heap.size 5 1 v9 (m - k * 16) (bv (bs.drop (k * 16))) := HO9.out.kept (only_setCell (only_refl w9 w.heap.size) (.inl rfl) _) (.inr (fun e => own_ne HO9.out hbl e.symm))
      have hP := HE.put (by omega)
      have hO2 := ownsRow_putObj hO (.deferred none) HE.2.2.2 rfl
      obtain ⟨A2, c2, rfl⟩ := own_form hO
      refine ⟨by simp [Act.put], .inl ⟨_, _, rfl, run_takeDeferred HE.2.2.2, ?_⟩⟩
      refine ⟨.tuple #[.slice A1 k c1, .slice A2 (m - k * 16) c2], ?_, ⟨A1, c1, A2, c2, by rw [HK16.out], by rw [HK16.out]; exact hP.1, by rw [HK16.out]; exact own_mono hO2 (by omega)⟩, hP.2.1⟩
      have hpc := hP.2.2
      rw [results_cell_tmp rfl]
      simp [go_sem, hpc]
  case stop =>
    rintro D c pre W _ _ h _
    exact h.elim
end Go.Proofs.Ytdggedgailkceaa
