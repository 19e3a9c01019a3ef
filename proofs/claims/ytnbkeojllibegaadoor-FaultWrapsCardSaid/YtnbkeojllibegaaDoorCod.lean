import Derived.Test.YtnbkeojllibegaaDoorAse
namespace Go.Proofs.YtnbkeojllibegaaDoor
open Go.ChangeShapes Go.WideShapes Go.ChangeAt Go.RowKit Go.Extern.Stop Go.Stop Go.Extern
set_option linter.unusedVariables false
set_option linter.unusedSimpArgs false
theorem only_back {a w w' : World} {g : Nat} (h : a.grownBy w (some g)) (k : w.grownBy w' (some g)) (hs : a.heap.size ≤ w.heap.size) : a.grownBy w' (some g) :=
  ⟨k.os.trans h.os, k.tape.trans h.tape, k.output.trans h.output, Nat.le_trans h.size k.size, fun i hi hn => (k.block i (Nat.lt_of_lt_of_le hi hs) hn).trans (h.block i hi hn)⟩
theorem as_code (ps : List ByteArray) (core : Value) (c a : Int) (hcore : core = codeV c ∨ core = faultV c a) (t : Addr) (old : Value) (w : World) (hg : Err w) (ht : w.cell? t = some old) (hf : w.frozen? t = false) :
    Calls Tryd.prog 23 #[wrapV ps core, .iface 52 (.pointer (some t))] w fun e w' => e = .returned (.bool true) ∧ w'.cell? t = some (.int .i64 c) ∧ w.grownBy w' (some t.block) := by
  obtain ⟨ty, x, e⟩ := wrapV_form ps core (by rcases hcore with rfl | rfl <;> exact ⟨_, _, rfl⟩)
  have htl : t.block < w.heap.size := lt_of_cell ht
  have h31 := as31_code ps core c a hcore t w.heap.size old ((w.alloc (.cells #[.pointer (some t)] 52)).alloc (.cells #[.pointer (some ⟨5, 52, none⟩), .pointer (some ⟨w.heap.size, 0, none⟩), .int .u64 150] 70))
    (by rw [World.cell?_alloc_lt _ _ ⟨w.heap.size, 0, none⟩ (by simp)]; simp) (by rw [World.cell?_alloc_lt _ _ t (by simp; omega), World.cell?_alloc_lt _ _ t htl]; exact ht)
    (by rw [World.frozen?_alloc_old _ _ t (by simp; omega), World.frozen?_alloc_old _ _ t (Nat.ne_of_lt htl)]; exact hf)
  rw [e] at h31 ⊢
  refine (as23_code ty x t w hg (fun bb w' => bb = true ∧ w'.cell? t = some (.int .i64 c) ∧ w.grownBy w' (some t.block)) (h31.mono ?_)).mono ?_
  · rintro _ w' ⟨rfl, h1, h2⟩
    exact ⟨true, rfl, rfl, h1, only_back (only_alloc (only_alloc (World.grownBy.refl w _) _) _) h2 (by simp; omega)⟩
  · rintro _ w' ⟨bb, rfl, rfl, h1, h2⟩
    exact ⟨rfl, h1, h2⟩
theorem as_fault (ps : List ByteArray) (c a : Int) (g : Nat) (o0 o1 : Value) (w : World) (hg : Err w) (ht0 : w.cell? ⟨g, 0, none⟩ = some o0) (ht1 : w.cell? ⟨g, 1, none⟩ = some o1) (hf0 : w.frozen? ⟨g, 0, none⟩ = false) (hf1 : w.frozen? ⟨g, 1, none⟩ = false) :
    Calls Tryd.prog 23 #[wrapV ps (faultV c a), .iface 53 (.pointer (some ⟨g, 0, none⟩))] w fun e w' => e = .returned (.bool true) ∧ w'.cell? ⟨g, 0, none⟩ = some (.int .i64 c) ∧ w'.cell? ⟨g, 1, none⟩ = some (.int .i64 a) ∧ w.grownBy w' (some g) := by
  obtain ⟨ty, x, e⟩ := wrapV_form ps (faultV c a) ⟨_, _, rfl⟩
  have htl : g < w.heap.size := by have := lt_of_cell ht0; exact this
  have h31 := as31_fault ps c a g w.heap.size o0 o1 ((w.alloc (.cells #[.pointer (some ⟨g, 0, none⟩)] 53)).alloc (.cells #[.pointer (some ⟨5, 53, none⟩), .pointer (some ⟨w.heap.size, 0, none⟩), .int .u64 150] 70))
    (by rw [World.cell?_alloc_lt _ _ ⟨w.heap.size, 0, none⟩ (by simp)]; simp)
    (by rw [World.cell?_alloc_lt _ _ ⟨g, 0, none⟩ (by simp; omega), World.cell?_alloc_lt _ _ ⟨g, 0, none⟩ htl]; exact ht0)
    (by rw [World.cell?_alloc_lt _ _ ⟨g, 1, none⟩ (by simp; omega), World.cell?_alloc_lt _ _ ⟨g, 1, none⟩ htl]; exact ht1)
    (by rw [World.frozen?_alloc_old _ _ ⟨g, 0, none⟩ (by simp; omega), World.frozen?_alloc_old _ _ ⟨g, 0, none⟩ (Nat.ne_of_lt htl)]; exact hf0)
    (by rw [World.frozen?_alloc_old _ _ ⟨g, 1, none⟩ (by simp; omega), World.frozen?_alloc_old _ _ ⟨g, 1, none⟩ (Nat.ne_of_lt htl)]; exact hf1)
  rw [e] at h31 ⊢
  refine (as23_fault ty x ⟨g, 0, none⟩ w hg (fun bb w' => bb = true ∧ w'.cell? ⟨g, 0, none⟩ = some (.int .i64 c) ∧ w'.cell? ⟨g, 1, none⟩ = some (.int .i64 a) ∧ w.grownBy w' (some g)) (h31.mono ?_)).mono ?_
  · rintro _ w' ⟨rfl, h1, h2, h3⟩
    exact ⟨true, rfl, rfl, h1, h2, only_back (only_alloc (only_alloc (World.grownBy.refl w _) _) _) h3 (by simp; omega)⟩
  · rintro _ w' ⟨bb, rfl, rfl, h1, h2, h3⟩
    exact ⟨rfl, h1, h2, h3⟩
theorem as_fault_no (ps : List ByteArray) (c : Int) (t : Addr) (w : World) (hg : Err w) :
    Calls Tryd.prog 23 #[wrapV ps (codeV c), .iface 53 (.pointer (some t))] w fun e w' => e = .returned (.bool false) ∧ Below w.heap.size w w' := by
  obtain ⟨ty, x, e⟩ := wrapV_form ps (codeV c) ⟨_, _, rfl⟩
  have h31 := as31_no ps 50 53 30 w.heap.size (.int .i64 c) (.iface 53 (.pointer (some t))) ((w.alloc (.cells #[.pointer (some t)] 53)).alloc (.cells #[.pointer (some ⟨5, 53, none⟩), .pointer (some ⟨w.heap.size, 0, none⟩), .int .u64 150] 70))
    assignable59_50 (typeOf30 _) assignable30_50 (noAs30 _) (noUnwrap30 _) (noUnwraps30 _)
  rw [show Value.iface 30 (.int .i64 c) = codeV c from rfl, e] at h31
  rw [e]
  refine (as23_fault ty x t w hg (fun bb w' => bb = false ∧ Below w.heap.size w w') (h31.mono ?_)).mono ?_
  · rintro _ w' ⟨rfl, h1⟩
    exact ⟨false, rfl, rfl, (((Below.refl _ w).alloc (Nat.le_refl _) _).alloc (by simp) _).trans (h1.mono (by simp; omega))⟩
  · rintro _ w' ⟨bb, rfl, rfl, h1⟩
    exact ⟨rfl, h1⟩
theorem as_fault_str (y : Value) (t : Addr) (w : World) (hg : Err w) :
    Calls Tryd.prog 23 #[.iface 55 y, .iface 53 (.pointer (some t))] w fun e w' => e = .returned (.bool false) ∧ Below w.heap.size w w' := by
  have h31 := as31_no [] 50 53 55 w.heap.size y (.iface 53 (.pointer (some t))) ((w.alloc (.cells #[.pointer (some t)] 53)).alloc (.cells #[.pointer (some ⟨5, 53, none⟩), .pointer (some ⟨w.heap.size, 0, none⟩), .int .u64 150] 70))
    assignable59_50 (typeOf55 _) assignable55_50 (noAs55 _) (noUnwrap55 _) (noUnwraps55 _)
  rw [show wrapV [] (Value.iface 55 y) = .iface 55 y from rfl] at h31
  refine (as23_fault 55 y t w hg (fun bb w' => bb = false ∧ Below w.heap.size w w') (h31.mono ?_)).mono ?_
  · rintro _ w' ⟨rfl, h1⟩
    exact ⟨false, rfl, rfl, (((Below.refl _ w).alloc (Nat.le_refl _) _).alloc (by simp) _).trans (h1.mono (by simp; omega))⟩
  · rintro _ w' ⟨bb, rfl, rfl, h1⟩
    exact ⟨rfl, h1⟩
theorem as_code_str (y : Value) (t : Addr) (w : World) (hg : Err w) :
    Calls Tryd.prog 23 #[.iface 55 y, .iface 52 (.pointer (some t))] w fun e w' => e = .returned (.bool false) ∧ Below w.heap.size w w' := by
  have h31 := as31_no [] 30 52 55 w.heap.size y (.iface 52 (.pointer (some t))) ((w.alloc (.cells #[.pointer (some t)] 52)).alloc (.cells #[.pointer (some ⟨5, 52, none⟩), .pointer (some ⟨w.heap.size, 0, none⟩), .int .u64 150] 70))
    assignable59_30 (typeOf55 _) assignable55_30 (noAs55 _) (noUnwrap55 _) (noUnwraps55 _)
  rw [show wrapV [] (Value.iface 55 y) = .iface 55 y from rfl] at h31
  refine (as23_code 55 y t w hg (fun bb w' => bb = false ∧ Below w.heap.size w w') (h31.mono ?_)).mono ?_
  · rintro _ w' ⟨rfl, h1⟩
    exact ⟨false, rfl, rfl, (((Below.refl _ w).alloc (Nat.le_refl _) _).alloc (by simp) _).trans (h1.mono (by simp; omega))⟩
  · rintro _ w' ⟨bb, rfl, rfl, h1⟩
    exact ⟨rfl, h1⟩
/-! fault.Code and fault.At. -/
theorem code_nil (w : World) : Calls Tryd.prog 10 #[.nilIface] w fun e w' => e = .returned (.tuple #[.int .i64 0, .bool false]) ∧ Below w.heap.size w w' := by
  go_enter Tryd.func10, Tryd.ntmps10
  go_wp2_with (go_at_call 23; refine (as_nil _ _).mono ?_; rintro _ _ ⟨rfl, rfl⟩)
  refine bodyPost_ret (results_tmp2 rfl _ _ _) rfl ?_
  exact ⟨rfl, (Below.refl _ w).alloc (Nat.le_refl _) _⟩
theorem at_nil (w : World) : Calls Tryd.prog 11 #[.nilIface] w fun e w' => e = .returned (.tuple #[.int .i64 0, .bool false]) ∧ Below w.heap.size w w' := by
  go_enter Tryd.func11, Tryd.ntmps11
  go_wp2_with (go_at_call 23; refine (as_nil _ _).mono ?_; rintro _ _ ⟨rfl, rfl⟩)
  refine bodyPost_ret (results_tmp2 rfl _ _ _) rfl ?_
  exact ⟨rfl, (Below.refl _ w).alloc (Nat.le_refl _) _⟩
theorem code_any (ps : List ByteArray) (core : Value) (c a : Int) (hcore : core = codeV c ∨ core = faultV c a) (w : World) (hg : Err w) :
    Calls Tryd.prog 10 #[wrapV ps core] w fun e w' => e = .returned (.tuple #[.int .i64 c, .bool true]) ∧ Below w.heap.size w w' := by
  have has := as_code ps core c a hcore ⟨w.heap.size, 0, none⟩ (.int .i64 0) (w.alloc (.cells #[.int .i64 0] 30)) (hg.alloc _) (by simp) (by simp)
  generalize wrapV ps core = v at *
  clear hg hcore
  go_enter Tryd.func10, Tryd.ntmps10
  go_wp2_with (go_at_call 23; refine has.mono ?_; rintro _ w1 ⟨rfl, hc, hb⟩; refine Hid.out ?_)
  refine Lib.hid ?_
  have HB := Lib.hid (below_only ((Below.refl _ w).alloc (Nat.le_refl _) _) hb (by simp) (Nat.le_refl _))
  clear hb has
  go_wp2_with fail
  refine bodyPost_ret (results_tmp2 rfl _ _ _) rfl ?_
  exact ⟨rfl, HB.out⟩
theorem at_fault (ps : List ByteArray) (c a : Int) (w : World) (hg : Err w) :
    Calls Tryd.prog 11 #[wrapV ps (faultV c a)] w fun e w' => e = .returned (.tuple #[.int .i64 a, .bool true]) ∧ Below w.heap.size w w' := by
  have has := as_fault ps c a w.heap.size (.int .i64 0) (.int .i64 0) (w.alloc (.cells #[.int .i64 0, .int .i64 0] 50)) (hg.alloc _) (by simp) (by simp) (by simp) (by simp)
  generalize wrapV ps (faultV c a) = v at *
  clear hg
  go_enter Tryd.func11, Tryd.ntmps11
  go_wp2_with (go_at_call 23; refine has.mono ?_; rintro _ w1 ⟨rfl, hc, ha, hb⟩; refine Hid.out ?_)
  refine Lib.hid ?_
  have HB := Lib.hid (below_only ((Below.refl _ w).alloc (Nat.le_refl _) _) hb (by simp) (Nat.le_refl _))
  clear hb has
  go_wp2_with fail
  refine bodyPost_ret (results_tmp2 rfl _ _ _) rfl ?_
  exact ⟨rfl, HB.out⟩
theorem at_no (v : Value) (w : World) (has : Calls Tryd.prog 23 #[v, .iface 53 (.pointer (some ⟨w.heap.size, 0, none⟩))] (w.alloc (.cells #[.int .i64 0, .int .i64 0] 50)) fun e w' => e = .returned (.bool false) ∧ Below (w.alloc (.cells #[.int .i64 0, .int .i64 0] 50)).heap.size (w.alloc (.cells #[.int .i64 0, .int .i64 0] 50)) w') :
    Calls Tryd.prog 11 #[v] w fun e w' => e = .returned (.tuple #[.int .i64 0, .bool false]) ∧ Below w.heap.size w w' := by
  go_enter Tryd.func11, Tryd.ntmps11
  go_wp2_with (go_at_call 23; refine has.mono ?_; rintro _ w1 ⟨rfl, hb⟩; refine Hid.out ?_)
  refine Lib.hid ?_
  have hc : w1.cell? ⟨w.heap.size, 1, none⟩ = some (.int .i64 0) := (hb.cell (p := ⟨w.heap.size, 1, none⟩) (by simp)).trans (by simp)
  have HB := Lib.hid (((Below.refl _ w).alloc (Nat.le_refl _) _).trans (hb.mono (by simp)))
  clear hb has
  go_wp2_with fail
  refine bodyPost_ret (results_tmp2 rfl _ _ _) rfl ?_
  exact ⟨rfl, HB.out⟩
theorem at_code (ps : List ByteArray) (c : Int) (w : World) (hg : Err w) : Calls Tryd.prog 11 #[wrapV ps (codeV c)] w fun e w' => e = .returned (.tuple #[.int .i64 0, .bool false]) ∧ Below w.heap.size w w' :=
  at_no _ w (as_fault_no ps c _ _ (hg.alloc _))
theorem at_str (y : Value) (w : World) (hg : Err w) : Calls Tryd.prog 11 #[.iface 55 y] w fun e w' => e = .returned (.tuple #[.int .i64 0, .bool false]) ∧ Below w.heap.size w w' :=
  at_no _ w (as_fault_str y _ _ (hg.alloc _))
theorem code_str (y : Value) (w : World) (hg : Err w) : Calls Tryd.prog 10 #[.iface 55 y] w fun e w' => e = .returned (.tuple #[.int .i64 0, .bool false]) ∧ Below w.heap.size w w' := by
  have has := as_code_str y ⟨w.heap.size, 0, none⟩ (w.alloc (.cells #[.int .i64 0] 30)) (hg.alloc _)
  clear hg
  go_enter Tryd.func10, Tryd.ntmps10
  go_wp2_with (go_at_call 23; refine has.mono ?_; rintro _ w1 ⟨rfl, hb⟩; refine Hid.out ?_)
  refine Lib.hid ?_
  have hc : w1.cell? ⟨w.heap.size, 0, none⟩ = some (.int .i64 0) := (hb.cell (p := ⟨w.heap.size, 0, none⟩) (by simp)).trans (by simp)
  have HB := Lib.hid (((Below.refl _ w).alloc (Nat.le_refl _) _).trans (hb.mono (by simp)))
  clear hb has
  go_wp2_with fail
  refine bodyPost_ret (results_tmp2 rfl _ _ _) rfl ?_
  exact ⟨rfl, HB.out⟩
theorem new_any (c a : Int) (w : World) : Calls Tryd.prog 22 #[.int .i64 c, .int .i64 a] w fun e w' => e = .returned (faultV c a) ∧ w = w' := by
  go_enter Tryd.func22, Tryd.ntmps22
  go_wp2_with fail
  go_ret
  exact ⟨rfl, by simp⟩
theorem in_nil (p : ByteArray) (w : World) : Calls Tryd.prog 19 #[.string p, .nilIface] w fun e w' => e = .returned .nilIface ∧ w = w' := by
  go_enter Tryd.func19, Tryd.ntmps19
  go_wp2_with fail
  go_ret
  exact ⟨rfl, by simp⟩
theorem in_any (p : ByteArray) (ty : TypeId) (x : Value) (w : World) : Calls Tryd.prog 19 #[.string p, .iface ty x] w fun e w' => e = .returned (.iface 59 (.agg #[.string p, .iface ty x])) ∧ w = w' := by
  go_enter Tryd.func19, Tryd.ntmps19
  go_wp2_with fail
  go_ret
  exact ⟨rfl, by simp⟩
end Go.Proofs.YtnbkeojllibegaaDoor
