import Derived.Test.YtbifakhalnkfbaaDoorTak
namespace Go.Proofs.YtbifakhalnkfbaaDoor
open Go.ChangeShapes Go.WideShapes Go.ChangeAt Go.RowKit Go.Sort
set_option linter.unusedVariables false
set_option linter.unusedSimpArgs false
theorem Tab.only {w w' : World} {g : Nat} (h : Tab w) (hg : w.grownBy w' (some g)) (h4 : 4 ≤ g) : Tab w' := by
  have hs := h.sz
  have hne : ∀ k, k < 4 → w'.heap[k]? = w.heap[k]? := fun k hk => hg.block k (by omega) (by intro e; injection e with e; omega)
  refine ⟨h.pow.of_heap hg.size (hne 0 (by omega)), Nat.le_trans hs hg.size, ?_, ?_, ?_⟩
  · obtain ⟨m, hm⟩ := h.mx
    exact ⟨m, (World.cell?_of_block (a := ⟨3, 0, none⟩) (hne 3 (by omega))).trans hm⟩
  · obtain ⟨a, b, e⟩ := h.syn
    exact ⟨a, b, (var_of_block gSyn (hne 1 (by omega))).trans e⟩
  · obtain ⟨a, b, e⟩ := h.rng
    exact ⟨a, b, (var_of_block gRng (hne 2 (by omega))).trans e⟩
set_option maxRecDepth 100000 in
set_option maxHeartbeats 4000000 in
/-- number: the number of the next name. -/
theorem numw_any (t : ByteArray) (xs : List ByteArray) (g g3 : Nat) (w : World) (hT : Tab w) (h : WD w g xs) (h4 : 4 ≤ g) (K3 : Blk w g3 61 #[.func (.func 29) #[] #[.pointer (some ⟨g, 0, none⟩)]]) :
    Calls Tryd.prog 30 #[.string t, .pointer (some ⟨g3, 0, none⟩)] w fun e w' => e = .returned (.int .u64 (decN (tk t xs).1)) ∧ WD w' g (tk t xs).2 ∧ w.grownBy w' (some g) := by
  have ht := take_any t xs g w h
  have hlt := K3.lt
  have c3 : w.cell? ⟨g3, 0, none⟩ = some (.func (.func 29) #[] #[.pointer (some ⟨g, 0, none⟩)]) := (K3.cell 0).trans rfl
  have hz : (tk t xs).1.size ≤ 300000 := (tk_sz (by obtain ⟨_, _, _, _, _, _, _, _, h⟩ := h; exact h)).1
  obtain ⟨u, hu⟩ : ∃ u, (tk t xs).1 = u := ⟨_, rfl⟩
  obtain ⟨ys, hys⟩ : ∃ ys, (tk t xs).2 = ys := ⟨_, rfl⟩
  rw [hu] at ht hz ⊢
  rw [hys] at ht ⊢
  have hd : ∀ W, w.grownBy W (some g) → Calls Tryd.prog 18 #[.string u] W fun e w' => e = .returned (.tuple #[.int .u64 (decN u), .bool (decB u)]) ∧ Below W.heap.size W w' := fun W hW => decimal_any u W (hT.only hW h4) (by omega)
  have HD := Lib.hid hd
  clear hd hu hys hz hT h K3
  go_enter Tryd.func30, Tryd.ntmps30
  go_wp2_with (go_at_call 29; refine ht.mono ?_; rintro _ w1 ⟨rfl, hw1, hg1⟩; refine Hid.out ?_)
  refine Lib.hid ?_
  have H1 := Lib.hid (And.intro hw1 hg1)
  have hd1 := HD.out w1 hg1
  clear hw1 hg1 ht c3
  go_wp2_with (go_at_call 18; refine hd1.mono ?_; rintro _ w2 ⟨rfl, hb⟩; refine Hid.out ?_)
  refine Lib.hid ?_
  clear hd1
  go_wp2_with fail
  go_ret
  exact ⟨rfl, H1.out.1.below hb, H1.out.2.trans (only_of_below hb _)⟩
set_option maxRecDepth 100000 in
set_option maxHeartbeats 4000000 in
/-- small: it, or the greatest. -/
theorem smw_any (t : ByteArray) (xs : List ByteArray) (g g3 g4 : Nat) (w : World) (hT : Tab w) (h : WD w g xs) (h4 : 4 ≤ g) (K3 : Blk w g3 61 #[.func (.func 29) #[] #[.pointer (some ⟨g, 0, none⟩)]]) (K4 : Blk w g4 62 #[.func (.func 30) #[] #[.pointer (some ⟨g3, 0, none⟩)]]) :
    Calls Tryd.prog 31 #[.string t, .pointer (some ⟨g4, 0, none⟩)] w fun e w' => e = .returned (.int .i64 ((min (decN (tk t xs).1) 2147483647 : Nat) : Int)) ∧ WD w' g (tk t xs).2 ∧ w.grownBy w' (some g) := by
  have ht := numw_any t xs g g3 w hT h h4 K3
  have hlt := K4.lt
  have c4 : w.cell? ⟨g4, 0, none⟩ = some (.func (.func 30) #[] #[.pointer (some ⟨g3, 0, none⟩)]) := (K4.cell 0).trans rfl
  have hn := decN_lt (tk t xs).1
  obtain ⟨n, hu⟩ : ∃ u, decN (tk t xs).1 = u := ⟨_, rfl⟩
  obtain ⟨ys, hys⟩ : ∃ ys, (tk t xs).2 = ys := ⟨_, rfl⟩
  rw [hu] at ht hn ⊢
  rw [hys] at ht ⊢
  clear hu hys hT h K3 K4
  rcases Nat.lt_or_ge 2147483647 n with hc | hc
  · have hm : min n 2147483647 = 2147483647 := by omega
    have hi : (2147483647 : Int) < (n : Int) := by omega
    have hmi : min (n : Int) 2147483647 = 2147483647 := by omega
    rw [hm]
    clear hm
    go_enter Tryd.func31, Tryd.ntmps31
    go_wp2_with (go_at_call 30; refine ht.mono ?_; rintro _ w1 ⟨rfl, hw1, hg1⟩; refine Hid.out ?_)
    refine Lib.hid ?_
    have H1 := Lib.hid (And.intro hw1 hg1)
    clear hw1 hg1 ht c4
    go_wp2_with fail
    go_ret
    exact ⟨by first | rfl | go_num, H1.out.1, H1.out.2⟩
  · have hm : min n 2147483647 = n := by omega
    have hi : (n : Int) ≤ 2147483647 := by omega
    have hmi : min (n : Int) 2147483647 = (n : Int) := by omega
    have hw : IntKind.i64.wrap (n : Int) = (n : Int) := IntWalk.i64_in _ (by omega)
    rw [hm]
    clear hm
    go_enter Tryd.func31, Tryd.ntmps31
    go_wp2_with (go_at_call 30; refine ht.mono ?_; rintro _ w1 ⟨rfl, hw1, hg1⟩; refine Hid.out ?_)
    refine Lib.hid ?_
    have H1 := Lib.hid (And.intro hw1 hg1)
    clear hw1 hg1 ht c4
    go_wp2_with fail
    go_ret
    exact ⟨by first | rfl | go_num, H1.out.1, H1.out.2⟩
end Go.Proofs.YtbifakhalnkfbaaDoor
