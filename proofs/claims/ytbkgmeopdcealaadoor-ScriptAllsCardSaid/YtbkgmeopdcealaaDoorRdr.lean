import Derived.Test.YtbkgmeopdcealaaDoorCls
namespace Go.Proofs.YtbkgmeopdcealaaDoor
open Go.ChangeShapes Go.WideShapes Go.ChangeAt Go.RowKit Go.Sort Go.Deep
set_option linter.unusedVariables false
set_option linter.unusedSimpArgs false
theorem keyd21 : Maps.Keyed Tryd.prog 21 := Maps.int_keyed Tryd.underlying21
/-- A new key. -/
theorem map_put {w : World} {b clock : Nat} {es : Array MapEntry} {r : Int} (v : Value) (hb : w.heap[b]? = some (.map es clock)) (hes : ∀ e ∈ es.toList, ∃ x : Int, e.key = .int .i32 x ∧ (Lit.int .i32 x).wf = true ∧ x ≠ r) (hr : (Lit.int .i32 r).wf = true) :
    (Instr.mapUpdate 53 (.map (some b)) (.int .i32 r) v).run Tryd.prog w = .ok () (ChangeMaps.setBlock w b (.map (es.push ⟨.int .i32 r, v, clock⟩) (clock + 1))) := by
  have hkey : keyOf Tryd.prog 21 (.int .i32 r) = some (.int .i32 r) := Maps.keyOf_int_mk Tryd.underlying21 hr
  have hall : ∀ e ∈ es.toList, ∃ l, keyOf Tryd.prog 21 e.key = some l := fun e he => by
    obtain ⟨x, e1, e2, _⟩ := hes e he
    exact ⟨_, by rw [e1]; exact Maps.keyOf_int_mk Tryd.underlying21 e2⟩
  rcases keyd21.find w hkey es.toList hall with ⟨h1, _⟩ | ⟨j, e0, h1, h2, h3⟩
  · simp [Instr.mapUpdate, run_underlying Tryd.underlying53, MapKept.run_getObj_map hb, keyd21.check w false hkey, h1, MapKept.run_setObj_map _ hb, Result.andThen, ChangeMaps.setBlock]
  · exfalso
    obtain ⟨x, e1, _, hne⟩ := hes e0 (List.mem_of_getElem? h2)
    rw [e1] at h3
    injection h3 with _ h3
    exact hne h3
/-- A key that is there. -/
theorem map_get {w : World} {b clock : Nat} {es : Array MapEntry} {r : Int} {e0 : MapEntry} (hb : w.heap[b]? = some (.map es clock)) (hes : ∀ e ∈ es.toList, (∃ x : Int, e.key = .int .i32 x ∧ (Lit.int .i32 x).wf = true) ∧ (e.key = .int .i32 r → e = e0)) (hr : (Lit.int .i32 r).wf = true) (h0 : e0 ∈ es.toList) (hk : e0.key = .int .i32 r) :
    (Instr.lookup 53 (.map (some b)) (.int .i32 r) false).run Tryd.prog w = .ok e0.val w := by
  have hkey : keyOf Tryd.prog 21 (.int .i32 r) = some (.int .i32 r) := Maps.keyOf_int_mk Tryd.underlying21 hr
  have hall : ∀ e ∈ es.toList, ∃ l, keyOf Tryd.prog 21 e.key = some l := fun e he => by
    obtain ⟨⟨x, e1, e2⟩, _⟩ := hes e he
    exact ⟨_, by rw [e1]; exact Maps.keyOf_int_mk Tryd.underlying21 e2⟩
  rcases keyd21.find w hkey es.toList hall with ⟨_, h1⟩ | ⟨j, e1, h1, h2, h3⟩
  · exact absurd hk (h1 e0 h0)
  · obtain rfl := (hes e1 (List.mem_of_getElem? h2)).2 h3
    simp [Instr.lookup, run_underlying Tryd.underlying53, MapKept.run_getObj_map hb, keyd21.check w false hkey, keyd21.check w es.isEmpty hkey, h1, Result.andThen]
def fnV (p q : Nat) : Value := .func (.func 40) #[] #[.pointer (some ⟨p, 0, none⟩), .pointer (some ⟨q, 0, none⟩)]
def rdE (p1 q1 p2 q2 p3 q3 : Nat) : List MapEntry := [⟨.int .i32 110, fnV p1 q1, 0⟩, ⟨.int .i32 116, fnV p2 q2, 1⟩, ⟨.int .i32 109, fnV p3 q3, 2⟩, ⟨.int .i32 119, .func (.func 44) #[] #[], 3⟩, ⟨.int .i32 97, .func (.func 45) #[] #[], 4⟩, ⟨.int .i32 98, .func (.func 47) #[] #[], 5⟩]
/-- The readers lie at m. -/
structure Rdrs (w : World) (m p1 q1 p2 q2 p3 q3 : Nat) : Prop where
  map : w.heap[m]? = some (.map (rdE p1 q1 p2 q2 p3 q3).toArray 6)
  a1 : Blk w p1 3 #[.int .i64 999]
  b1 : Blk w q1 68 #[.func (.func 42) #[] #[]]
  a2 : Blk w p2 3 #[.int .i64 1048576]
  b2 : Blk w q2 68 #[.func (.func 42) #[] #[]]
  a3 : Blk w p3 3 #[.int .i64 999]
  b3 : Blk w q3 68 #[.func (.func 43) #[] #[]]
theorem Rdrs.keep {w w' : World} {m p1 q1 p2 q2 p3 q3 : Nat} (h : Rdrs w m p1 q1 p2 q2 p3 q3) (hk : ∀ k, k = m ∨ k = p1 ∨ k = q1 ∨ k = p2 ∨ k = q2 ∨ k = p3 ∨ k = q3 → w'.heap[k]? = w.heap[k]?) : Rdrs w' m p1 q1 p2 q2 p3 q3 :=
  ⟨(hk m (by simp)).trans h.map, (hk p1 (by simp)).trans h.a1, (hk q1 (by simp)).trans h.b1, (hk p2 (by simp)).trans h.a2, (hk q2 (by simp)).trans h.b2, (hk p3 (by simp)).trans h.a3, (hk q3 (by simp)).trans h.b3⟩
theorem Rdrs.lt {w : World} {m p1 q1 p2 q2 p3 q3 : Nat} (h : Rdrs w m p1 q1 p2 q2 p3 q3) : ∀ k, k = m ∨ k = p1 ∨ k = q1 ∨ k = p2 ∨ k = q2 ∨ k = p3 ∨ k = q3 → k < w.heap.size := by
  have hm : m < w.heap.size := (Array.getElem?_eq_some_iff.1 h.map).1
  have := h.a1.lt; have := h.b1.lt; have := h.a2.lt; have := h.b2.lt; have := h.a3.lt; have := h.b3.lt
  intro k hk
  omega
theorem Rdrs.below {w w' : World} {m p1 q1 p2 q2 p3 q3 : Nat} (h : Rdrs w m p1 q1 p2 q2 p3 q3) (hb : Below w.heap.size w w') : Rdrs w' m p1 q1 p2 q2 p3 q3 := h.keep fun k hk => hb.block k (h.lt k hk)
theorem Rdrs.ne {w : World} {m p1 q1 p2 q2 p3 q3 B : Nat} {cs : Array Value} (h : Rdrs w m p1 q1 p2 q2 p3 q3) (hK : Blk w B 29 cs) : ∀ k, k = m ∨ k = p1 ∨ k = q1 ∨ k = p2 ∨ k = q2 ∨ k = p3 ∨ k = q3 → k ≠ B := by
  rintro k hk rfl
  rcases hk with rfl | rfl | rfl | rfl | rfl | rfl | rfl
  · have h1 := h.map; unfold Blk at hK; rw [hK] at h1; cases h1
  · exact Blk.ne_ h.a1 hK (by decide) rfl
  · exact Blk.ne_ h.b1 hK (by decide) rfl
  · exact Blk.ne_ h.a2 hK (by decide) rfl
  · exact Blk.ne_ h.b2 hK (by decide) rfl
  · exact Blk.ne_ h.a3 hK (by decide) rfl
  · exact Blk.ne_ h.b3 hK (by decide) rfl
theorem Rdrs.only {w w' : World} {m p1 q1 p2 q2 p3 q3 B : Nat} {cs : Array Value} (h : Rdrs w m p1 q1 p2 q2 p3 q3) (hK : Blk w B 29 cs) (hg : w.grownBy w' (some B)) : Rdrs w' m p1 q1 p2 q2 p3 q3 :=
  h.keep fun k hk => hg.block k (h.lt k hk) (by intro e; injection e with e; exact h.ne hK k hk e)
theorem Rdrs.get {w : World} {m p1 q1 p2 q2 p3 q3 : Nat} (h : Rdrs w m p1 q1 p2 q2 p3 q3) (e0 : MapEntry) (r : Int) (h0 : e0 ∈ rdE p1 q1 p2 q2 p3 q3) (hk : e0.key = .int .i32 r) : (Instr.lookup 53 (.map (some m)) (.int .i32 r) false).run Tryd.prog w = .ok e0.val w := by
  have hw : ∀ e ∈ rdE p1 q1 p2 q2 p3 q3, ∃ x : Int, e.key = .int .i32 x ∧ (Lit.int .i32 x).wf = true := by
    intro e he
    simp only [rdE, List.mem_cons, List.not_mem_nil, or_false] at he
    rcases he with rfl | rfl | rfl | rfl | rfl | rfl
    all_goals exact ⟨_, rfl, by decide⟩
  refine map_get h.map (fun e he => ⟨hw e he, fun hr => ?_⟩) ?_ h0 hk
  · have he' : e ∈ rdE p1 q1 p2 q2 p3 q3 := he
    rw [← hk] at hr
    simp only [rdE, List.mem_cons, List.not_mem_nil, or_false] at he' h0
    rcases he' with rfl | rfl | rfl | rfl | rfl | rfl <;> rcases h0 with rfl | rfl | rfl | rfl | rfl | rfl <;> first | rfl | (exfalso; simp at hr)
  · obtain ⟨x, e1, e2⟩ := hw e0 h0
    rw [hk] at e1
    injection e1 with _ e1
    rw [e1]; exact e2
set_option maxRecDepth 100000 in
set_option maxHeartbeats 1000000 in
theorem place_any (g : Nat) (m : Int) (w : World) : Calls Tryd.prog 39 #[.func (.func g) #[] #[], .int .i64 m] w fun e w' => e = .returned (fnV (w.heap.size + 1) w.heap.size) ∧ w' = (w.alloc (.cells #[.func (.func g) #[] #[]] 68)).alloc (.cells #[.int .i64 m] 3) := by
  have hmf : ∀ (fn : Fn) (first cap : Array Value) (w : World), (Instr.makeFunc fn first cap).run Tryd.prog w = .ok (.func fn first cap) w := fun _ _ _ _ => rfl
  go_enter Tryd.func39, Tryd.ntmps39
  go_wp2_with fail
  go_ret
  exact ⟨rfl, rfl⟩
theorem sb_size {w : World} {b : Nat} {o : Obj} : (ChangeMaps.setBlock w b o).heap.size = w.heap.size := by simp [ChangeMaps.setBlock]
/-- Readers laid so far: the map at m, n blocks in all, nothing old turned. -/
structure Laying (w : World) (es : List MapEntry) (n : Nat) (W : World) : Prop where
  map : W.heap[w.heap.size]? = some (.map es.toArray es.length)
  sz : W.heap.size = w.heap.size + n
  bel : Below w.heap.size w W
theorem Laying.put {w W : World} {es : List MapEntry} {n : Nat} (h : Laying w es n W) (r : Int) (v : Value) (hr : (Lit.int .i32 r).wf = true) (hes : ∀ e ∈ es, ∃ x : Int, e.key = .int .i32 x ∧ (Lit.int .i32 x).wf = true ∧ x ≠ r) :
    ∃ W', (Instr.mapUpdate 53 (.map (some w.heap.size)) (.int .i32 r) v).run Tryd.prog W = .ok () W' ∧ Laying w (es ++ [⟨.int .i32 r, v, es.length⟩]) n W' ∧ (∀ k, k ≠ w.heap.size → W'.heap[k]? = W.heap[k]?) := by
  refine ⟨_, map_put v h.map hes hr, ⟨?_, by rw [sb_size]; exact h.sz, ?_⟩, fun k hk => ChangeMaps.heap_setBlock_other h.map _ hk⟩
  · rw [ChangeMaps.heap_setBlock_same h.map]; simp
  · have hs := h.bel.size
    exact ⟨h.bel.os, h.bel.tape, h.bel.output, by rw [sb_size]; exact hs, fun k hk => (ChangeMaps.heap_setBlock_other h.map _ (by omega)).trans (h.bel.block k hk)⟩
theorem Laying.place {w W : World} {es : List MapEntry} {n : Nat} (h : Laying w es n W) (a b : Obj) : Laying w es (n + 2) ((W.alloc a).alloc b) := by
  have hs := h.sz
  have hl : w.heap.size < W.heap.size := (Array.getElem?_eq_some_iff.1 h.map).1
  refine ⟨?_, by rw [World.size_alloc, World.size_alloc]; omega, (h.bel.alloc (by omega) _).alloc (by rw [World.size_alloc]; omega) _⟩
  rw [Below.heap_alloc _ _ _ (by rw [World.size_alloc]; omega), Below.heap_alloc _ _ _ hl]
  exact h.map
set_option maxRecDepth 100000 in
set_option maxHeartbeats 1000000 in
theorem readers_any (w : World) : Calls Tryd.prog 30 #[] w fun e w' => ∃ m p1 q1 p2 q2 p3 q3, e = .returned (.map (some m)) ∧ Rdrs w' m p1 q1 p2 q2 p3 q3 ∧ Below w.heap.size w w' := by
  have hmm := @run_makeMap Tryd.prog
  have L0 : Laying w [] 1 (w.alloc (.map #[] 0)) := ⟨heap_alloc_new w _, by simp, (Below.refl _ w).alloc (Nat.le_refl _) _⟩
  have L1 := L0.place (.cells #[.func (.func 42) #[] #[]] 68) (.cells #[.int .i64 999] 3)
  have A1 := Blk.new ((w.alloc (.map #[] 0)).alloc (.cells #[.func (.func 42) #[] #[]] 68)) 3 #[.int .i64 999]
  have B1 := (Blk.new (w.alloc (.map #[] 0)) 68 #[.func (.func 42) #[] #[]]).alloc (.cells #[.int .i64 999] 3)
  have hc1 := place_any 42 999 (w.alloc (.map #[] 0))
  simp only [World.size_alloc] at A1 B1 hc1
  obtain ⟨W1, hW1⟩ : ∃ W, ((w.alloc (.map #[] 0)).alloc (.cells #[.func (.func 42) #[] #[]] 68)).alloc (.cells #[.int .i64 999] 3) = W := ⟨_, rfl⟩
  rw [hW1] at L1 A1 B1 hc1
  obtain ⟨W2, hu1, L2, k2⟩ := L1.put 110 (fnV (w.heap.size + 1 + 1) (w.heap.size + 1)) (by decide) (by simp)
  have A1 := (k2 _ (by omega)).trans A1
  have B1 := (k2 _ (by omega)).trans B1
  have z2 := L2.sz
  have L3 := L2.place (.cells #[.func (.func 42) #[] #[]] 68) (.cells #[.int .i64 1048576] 3)
  have A2 := Blk.new (W2.alloc (.cells #[.func (.func 42) #[] #[]] 68)) 3 #[.int .i64 1048576]
  have B2 := (Blk.new W2 68 #[.func (.func 42) #[] #[]]).alloc (.cells #[.int .i64 1048576] 3)
  have hc2 := place_any 42 1048576 W2
  simp only [World.size_alloc, z2] at A2 B2 hc2
  have A1 := Blk.alloc (Blk.alloc A1 (.cells #[.func (.func 42) #[] #[]] 68)) (.cells #[.int .i64 1048576] 3)
  have B1 := Blk.alloc (Blk.alloc B1 (.cells #[.func (.func 42) #[] #[]] 68)) (.cells #[.int .i64 1048576] 3)
  obtain ⟨W3, hW3⟩ : ∃ W, (W2.alloc (.cells #[.func (.func 42) #[] #[]] 68)).alloc (.cells #[.int .i64 1048576] 3) = W := ⟨_, rfl⟩
  rw [hW3] at L3 hc2 A1 B1 A2 B2
  obtain ⟨W4, hu2, L4, k4⟩ := L3.put 116 (fnV (w.heap.size + 3 + 1) (w.heap.size + 3)) (by decide) (by intro e he; simp at he; subst he; exact ⟨_, rfl, by decide, by decide⟩)
  have z4 := L4.sz
  have A1 := (k4 _ (by omega)).trans A1
  have B1 := (k4 _ (by omega)).trans B1
  have A2 := (k4 _ (by omega)).trans A2
  have B2 := (k4 _ (by omega)).trans B2
  have L5 := L4.place (.cells #[.func (.func 43) #[] #[]] 68) (.cells #[.int .i64 999] 3)
  have A3 := Blk.new (W4.alloc (.cells #[.func (.func 43) #[] #[]] 68)) 3 #[.int .i64 999]
  have B3 := (Blk.new W4 68 #[.func (.func 43) #[] #[]]).alloc (.cells #[.int .i64 999] 3)
  have hc3 := place_any 43 999 W4
  simp only [World.size_alloc, z4] at A3 B3 hc3
  have A1 := Blk.alloc (Blk.alloc A1 (.cells #[.func (.func 43) #[] #[]] 68)) (.cells #[.int .i64 999] 3)
  have B1 := Blk.alloc (Blk.alloc B1 (.cells #[.func (.func 43) #[] #[]] 68)) (.cells #[.int .i64 999] 3)
  have A2 := Blk.alloc (Blk.alloc A2 (.cells #[.func (.func 43) #[] #[]] 68)) (.cells #[.int .i64 999] 3)
  have B2 := Blk.alloc (Blk.alloc B2 (.cells #[.func (.func 43) #[] #[]] 68)) (.cells #[.int .i64 999] 3)
  obtain ⟨W5, hW5⟩ : ∃ W, (W4.alloc (.cells #[.func (.func 43) #[] #[]] 68)).alloc (.cells #[.int .i64 999] 3) = W := ⟨_, rfl⟩
  rw [hW5] at L5 hc3 A1 B1 A2 B2 A3 B3
  obtain ⟨W6, hu3, L6, k6⟩ := L5.put 109 (fnV (w.heap.size + 5 + 1) (w.heap.size + 5)) (by decide) (by intro e he; simp at he; rcases he with rfl | rfl <;> exact ⟨_, rfl, by decide, by decide⟩)
  have z6 := L6.sz
  have A1 := (k6 _ (by omega)).trans A1
  have B1 := (k6 _ (by omega)).trans B1
  have A2 := (k6 _ (by omega)).trans A2
  have B2 := (k6 _ (by omega)).trans B2
  have A3 := (k6 _ (by omega)).trans A3
  have B3 := (k6 _ (by omega)).trans B3
  obtain ⟨W7, hu4, L7, k7⟩ := L6.put 119 (.func (.func 44) #[] #[]) (by decide) (by intro e he; simp at he; rcases he with rfl | rfl | rfl <;> exact ⟨_, rfl, by decide, by decide⟩)
  have A1 := (k7 _ (by omega)).trans A1
  have B1 := (k7 _ (by omega)).trans B1
  have A2 := (k7 _ (by omega)).trans A2
  have B2 := (k7 _ (by omega)).trans B2
  have A3 := (k7 _ (by omega)).trans A3
  have B3 := (k7 _ (by omega)).trans B3
  obtain ⟨W8, hu5, L8, k8⟩ := L7.put 97 (.func (.func 45) #[] #[]) (by decide) (by intro e he; simp at he; rcases he with rfl | rfl | rfl | rfl <;> exact ⟨_, rfl, by decide, by decide⟩)
  have A1 := (k8 _ (by omega)).trans A1
  have B1 := (k8 _ (by omega)).trans B1
  have A2 := (k8 _ (by omega)).trans A2
  have B2 := (k8 _ (by omega)).trans B2
  have A3 := (k8 _ (by omega)).trans A3
  have B3 := (k8 _ (by omega)).trans B3
  obtain ⟨W9, hu6, L9, k9⟩ := L8.put 98 (.func (.func 47) #[] #[]) (by decide) (by intro e he; simp at he; rcases he with rfl | rfl | rfl | rfl | rfl <;> exact ⟨_, rfl, by decide, by decide⟩)
  have A1 := (k9 _ (by omega)).trans A1
  have B1 := (k9 _ (by omega)).trans B1
  have A2 := (k9 _ (by omega)).trans A2
  have B2 := (k9 _ (by omega)).trans B2
  have A3 := (k9 _ (by omega)).trans A3
  have B3 := (k9 _ (by omega)).trans B3
  have HR := Lib.hid (show Rdrs W9 w.heap.size (w.heap.size + 1 + 1) (w.heap.size + 1) (w.heap.size + 3 + 1) (w.heap.size + 3) (w.heap.size + 5 + 1) (w.heap.size + 5) from ⟨L9.map, A1, B1, A2, B2, A3, B3⟩)
  have HB := Lib.hid L9.bel
  clear A1 B1 A2 B2 A3 B3 L0 L1 L2 L3 L4 L5 L6 L7 L8 L9 k2 k4 k6 k7 k8 k9 z2 z4 z6 hW1 hW3 hW5
  go_enter Tryd.func30, Tryd.ntmps30
  go_wp2_with (go_at_call 39; first | (refine hc1.mono ?_; rintro _ _ ⟨rfl, rfl⟩) | (refine hc2.mono ?_; rintro _ _ ⟨rfl, rfl⟩) | (refine hc3.mono ?_; rintro _ _ ⟨rfl, rfl⟩))
  go_ret
  exact ⟨_, _, _, _, _, _, _, rfl, HR.out, HB.out⟩
end Go.Proofs.YtbkgmeopdcealaaDoor
