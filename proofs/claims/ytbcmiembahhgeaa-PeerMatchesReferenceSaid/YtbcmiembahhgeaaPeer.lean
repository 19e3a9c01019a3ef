import Derived.Test.YtbcmiembahhgeaaMet
namespace Go.Proofs.Ytbcmiembahhgeaa
open Go.ChangeShapes Go.WideShapes Go.ChangeAt Go.RowKit
set_option linter.unusedVariables false
set_option linter.unusedSimpArgs false
/-- How often each address was met. -/
def MetAt (w : World) (B n : Nat) (f : ByteArray → Nat) : Prop :=
  ∃ D : DataW Unit, w.ownsMap Try.prog 41 (plainElem Try.prog 3) B n D ∧ ∀ s kl, keyOf Try.prog 41 (.agg #[.string s]) = some kl → D.atKey kl (.lit (.int .i64 0)) = .lit (.int .i64 (f s : Nat))
theorem met_made (w : World) : MetAt (w.alloc (.map #[] 0)) w.heap.size 0 (fun _ => 0) :=
  ⟨.map [], World.ownsMap_made _ _ _ _, fun s kl _ => rfl⟩
theorem MetAt.kept {w w' : World} {B n : Nat} {f : ByteArray → Nat} (h : MetAt w B n f) {row : Option Nat} (hg : w.grownBy w' row) (hne : some B ≠ row) : MetAt w' B n f := by
  obtain ⟨D, h1, h2⟩ := h
  exact ⟨D, h1.kept hg hne, h2⟩
theorem MetAt.drewN {w : World} {B n : Nat} {f : ByteArray → Nat} (h : MetAt w B n f) (k : Nat) : MetAt (w.drewN k) B n f := h
theorem MetAt.drew {w : World} {B n : Nat} {f : ByteArray → Nat} (h : MetAt w B n f) : MetAt w.drew B n f := h
theorem MetAt.below {w w' : World} {B n : Nat} {f : ByteArray → Nat} (h : MetAt w B n f) (hb : Below w.heap.size w w') : MetAt w' B n f := h.kept (only_of_below hb none) (by simp)
theorem MetAt.lt {w : World} {B n : Nat} {f : ByteArray → Nat} (h : MetAt w B n f) : B < w.heap.size := by
  obtain ⟨D, h1, h2⟩ := h; exact h1.lt
theorem MetAt.look {w : World} {B n : Nat} {f : ByteArray → Nat} (h : MetAt w B n f) (s : ByteArray) (hs : s.size ≤ maxLen) :
    (Instr.lookup 37 (.map (some B)) (.agg #[.string s]) false).run Try.prog w = .ok (.int .i64 (f s : Nat)) w := by
  obtain ⟨D, h1, h2⟩ := h
  obtain ⟨kl, hkl⟩ := key_of s hs
  obtain ⟨c, hc, hat, _⟩ := h1.lookup_int keyd Try.underlying37 Try.underlying3 (zero3 w) hkl
  have := h2 s kl hkl
  rw [hat] at this
  have : c = (f s : Nat) := by injection this with this; injection this
  rw [hc, this]
theorem MetAt.put {w : World} {B n : Nat} {f : ByteArray → Nat} (h : MetAt w B n f) (hn : n < maxLen) (s : ByteArray) (hs : s.size ≤ maxLen) (hf : f s < 4611686018427387904) :
    ∃ (st : Nat) (w2 w3 : World), (Instr.lookup 37 (.map (some B)) (.agg #[.string s]) false).run Try.prog w2 = .ok (.int .i64 (f s : Nat)) w2 ∧ (Instr.lookup 37 (.map (some B)) (.agg #[.string s]) false).run Try.prog w = .ok (.int .i64 (f s : Nat)) w ∧
      (Instr.mapEntry 37 (.map (some B)) (.agg #[.string s])).run Try.prog w = .ok (.tuple #[.int .i64 (f s : Nat), .int .i64 (st : Nat)]) w2 ∧
      (Instr.entryStore 37 (.map (some B)) (.int .i64 (st : Nat)) (.int .i64 ((f s : Nat) + 1 : Int))).run Try.prog w2 = .ok () w3 ∧
      MetAt w3 B (n + 1) (fun t => if t = s then f s + 1 else f t) ∧ w.grownBy w3 (some B) := by
  obtain ⟨D, h1, h2⟩ := h
  obtain ⟨kl, hkl⟩ := key_of s hs
  obtain ⟨c, st, w2, hl2, hat, hl, he, hst⟩ := entry_int klaw Try.underlying37 Try.underlying3 zero3 h1 hn hkl
  have hh := h2 s kl hkl
  rw [hat] at hh
  have hc : c = (f s : Nat) := by injection hh with hh; injection hh
  subst hc
  obtain ⟨w3, h3, h4, h5⟩ := hst ((f s : Nat) + 1 : Int) (WalkArith.wf_i64 (by omega))
  refine ⟨st, w2, w3, hl2, hl, he, h3, ⟨_, h4, fun t kt hkt => ?_⟩, h5⟩
  by_cases e : t = s
  · subst e
    rw [hkl] at hkt
    cases hkt
    rw [Maps.atKey_put_same (h1.isMap) (keyd.key hkl)]
    simp
  · have hne : kt ≠ kl := by rintro rfl; exact e (key_inj hkt hkl)
    rw [Maps.atKey_put_other hne, h2 t kt hkt]
    simp [e]
/-- All of a peer. -/
structure St (w : World) (g B n : Nat) (a : ByteArray) (f : Bool) (m : Nat) (cnt : ByteArray → Nat) : Prop where
  peer : PeerAt w g a f (m : Int) (.map (some B))
  met : MetAt w B n cnt
theorem peer_ne {w : World} {g B n : Nat} {a : ByteArray} {f : Bool} {m : Int} {mp : Value} {cnt : ByteArray → Nat} (h : PeerAt w g a f m mp) (h' : MetAt w B n cnt) : g ≠ B := by
  rintro rfl
  obtain ⟨D, ⟨es, clock, hb, _⟩, _⟩ := h'
  unfold PeerAt Blk at h
  rw [h] at hb
  cases hb
theorem St.below {w w' : World} {g B n : Nat} {a : ByteArray} {f : Bool} {m : Nat} {cnt : ByteArray → Nat} (h : St w g B n a f m cnt) (hb : Below w.heap.size w w') : St w' g B n a f m cnt :=
  ⟨Blk.below h.peer hb (Blk.lt h.peer), h.met.below hb⟩
theorem St.drewN {w : World} {g B n : Nat} {a : ByteArray} {f : Bool} {m : Nat} {cnt : ByteArray → Nat} (h : St w g B n a f m cnt) (k : Nat) : St (w.drewN k) g B n a f m cnt := ⟨h.peer, h.met⟩
/-- Only two old blocks have turned. -/
structure Only2 (w w' : World) (g B : Nat) : Prop where
  os : w'.os = w.os
  tape : w'.tape = w.tape
  output : w'.output = w.output
  size : w.heap.size ≤ w'.heap.size
  block : ∀ i, i < w.heap.size → i ≠ g → i ≠ B → w'.heap[i]? = w.heap[i]?
theorem Only2.refl (w : World) (g B : Nat) : Only2 w w g B := ⟨rfl, rfl, rfl, Nat.le_refl _, fun _ _ _ _ => rfl⟩
theorem Only2.of_below {w w' : World} (h : Below w.heap.size w w') (g B : Nat) : Only2 w w' g B := ⟨h.os, h.tape, h.output, h.size, fun i hi _ _ => h.block i hi⟩
theorem Only2.of_only1 {w w' : World} {g : Nat} (h : w.grownBy w' (some g)) (B : Nat) : Only2 w w' g B := ⟨h.os, h.tape, h.output, h.size, fun i hi hg _ => h.block i hi (by intro e; injection e with e; exact hg e)⟩
theorem Only2.of_only2 {w w' : World} {B : Nat} (h : w.grownBy w' (some B)) (g : Nat) : Only2 w w' g B := ⟨h.os, h.tape, h.output, h.size, fun i hi _ hg => h.block i hi (by intro e; injection e with e; exact hg e)⟩
theorem Only2.trans {a b c : World} {g B : Nat} (h : Only2 a b g B) (k : Only2 b c g B) : Only2 a c g B :=
  ⟨k.os.trans h.os, k.tape.trans h.tape, k.output.trans h.output, Nat.le_trans h.size k.size, fun i hi h1 h2 => (k.block i (Nat.lt_of_lt_of_le hi h.size) h1 h2).trans (h.block i hi h1 h2)⟩
theorem Only2.below {a w w' : World} {g B N : Nat} (h : Below N a w) (k : Only2 w w' g B) (hg : N ≤ g) (hB : N ≤ B) (hN : N ≤ w.heap.size) : Below N a w' :=
  ⟨k.os.trans h.os, k.tape.trans h.tape, k.output.trans h.output, Nat.le_trans h.size k.size, fun i hi => (k.block i (by omega) (by omega) (by omega)).trans (h.block i hi)⟩
theorem St.other {w w' : World} {g B g' B' n : Nat} {a : ByteArray} {f : Bool} {m : Nat} {cnt : ByteArray → Nat} (h : St w g B n a f m cnt) (k : Only2 w w' g' B') (h1 : g ≠ g') (h2 : g ≠ B') (h3 : B ≠ g') (h4 : B ≠ B') : St w' g B n a f m cnt := by
  have hg := Blk.lt h.peer
  have hB := h.met.lt
  refine ⟨(k.block g hg h1 h2).trans h.peer, ?_⟩
  obtain ⟨D, ⟨es, clock, hb, F, hs, hD⟩, h6⟩ := h.met
  exact ⟨D, ⟨es, clock, (k.block B hB h3 h4).trans hb, F, hs, hD⟩, h6⟩
theorem met_at (g B n : Nat) (a : ByteArray) (f : Bool) (m : Nat) (cnt : ByteArray → Nat) (s : ByteArray) (w : World) (h : St w g B n a f m cnt) (hs : s.size ≤ maxLen) :
    Calls Try.prog 16 #[.pointer (some ⟨g, 0, none⟩), .string s] w fun e w' => e = .returned (.int .i64 (cnt s : Nat)) ∧ w = w' := by
  have c3 := Blk.cell h.peer 3
  simp at c3
  have hl := h.met.look s hs
  clear h
  go_enter Try.func16, Try.ntmps16
  go_wp2_with fail
  go_ret
  exact ⟨rfl, by simp⟩
theorem move_fixed (g : Nat) (a : ByteArray) (m : Int) (mp : Value) (s : ByteArray) (w : World) (h : PeerAt w g a true m mp) :
    Calls Try.prog 13 #[.pointer (some ⟨g, 0, none⟩), .string s] w fun e w' => e = .returned (.bool false) ∧ w = w' := by
  have c1 := Blk.cell h 1
  simp at c1
  clear h
  go_enter Try.func13, Try.ntmps13
  go_wp2_with fail
  go_ret
  exact ⟨rfl, by simp⟩
theorem move_wrong (g : Nat) (a : ByteArray) (m : Int) (mp : Value) (s : ByteArray) (w : World) (h : PeerAt w g a false m mp) (hs : s.size ≤ maxLen) (hr : rightS s = false) :
    Calls Try.prog 13 #[.pointer (some ⟨g, 0, none⟩), .string s] w fun e w' => e = .returned (.bool false) ∧ Below w.heap.size w w' := by
  have c1 := Blk.cell h 1
  simp at c1
  have hR := Right_any s w hs
  rw [hr] at hR
  clear h hs hr
  go_enter Try.func13, Try.ntmps13
  go_wp2_with (go_at_call 18; refine hR.mono ?_; rintro _ w1 ⟨rfl, hb⟩; refine Hid.out ?_)
  refine Lib.hid ?_
  have HB := Lib.hid hb
  clear hb hR
  go_wp2_with fail
  go_ret
  exact ⟨rfl, HB.out⟩
def movA (a s : ByteArray) : ByteArray := if (a.toList == s.toList) = true then a else s
def movM (a s : ByteArray) (m : Nat) : Nat := if (a.toList == s.toList) = true then m else m + 1
def bump (cnt : ByteArray → Nat) (s : ByteArray) : ByteArray → Nat := fun t => if t = s then cnt s + 1 else cnt t
/-- The map's entry, then the rest. -/
theorem move_right (g B n : Nat) (a : ByteArray) (m : Nat) (cnt : ByteArray → Nat) (s : ByteArray) (w : World) (h : St w g B n a false m cnt) (hs : s.size ≤ maxLen) (hr : rightS s = true)
    (hn : n < 1000000) (hm : m < 1000000) (hc : cnt s < 1000000) :
    Calls Try.prog 13 #[.pointer (some ⟨g, 0, none⟩), .string s] w fun e w' => e = .returned (.bool (!(a.toList == s.toList))) ∧
      St w' g B (n + 1) (movA a s) false (movM a s m) (bump cnt s) ∧ Only2 w w' g B := by
  have c1 := Blk.cell h.peer 1
  simp at c1
  have hR := Right_any s w hs
  rw [hr] at hR
  have HH := Lib.hid h
  have HS := Lib.hid hs
  clear h hs hr
  go_enter Try.func13, Try.ntmps13
  go_wp2_with (go_at_call 18; refine hR.mono ?_; rintro _ w1 ⟨rfl, hb⟩; refine Hid.out ?_)
  refine Lib.hid ?_
  have h1 := HH.out.below hb
  have HO := Lib.hid (Only2.of_below hb g B)
  clear hb hR c1
  have c3 := Blk.cell h1.peer 3
  simp at c3
  obtain ⟨st, w2, w3, hl2, hl, he, hst, hmet, hgr⟩ := MetAt.put (MetAt.drew h1.met) (by unfold maxLen; omega) s HS.out (by omega)
  have hne := peer_ne h1.peer h1.met
  have h3 : PeerAt w3 g a false (m : Int) (.map (some B)) := Blk.only (Blk.drew h1.peer) hgr hne
  have HP := Lib.hid (And.intro h3 (And.intro hmet (And.intro hne (Only2.of_only2 hgr g))))
  clear h3 hmet hgr hne h1
  go_wp2_with fail
  go_region
  obtain ⟨h3, hmet, hne, hO2⟩ := HP.out
  have c0 := Blk.cell h3 0
  have c2 := Blk.cell h3 2
  have f0 := Blk.frozen h3 0
  have f2 := Blk.frozen h3 2
  simp at c0 c2
  have HQ := Lib.hid (And.intro h3 (And.intro hmet (And.intro hne ((HO.out.trans (Only2.of_below (below_drewN (Below.refl _ _) 1) g B)).trans hO2))))
  clear h3 hmet hne hO2 HP HO HH hl he hst hl2 c3
  cases he : (a.toList == s.toList)
  · have ea : movA a s = s := by unfold movA; rw [he]; rfl
    have em : movM a s m = m + 1 := by unfold movM; rw [he]; rfl
    have HE := Lib.hid (And.intro ea em)
    clear ea em
    go_wp2_with fail
    go_ret
    rw [HE.out.1, HE.out.2, he]
    refine ⟨rfl, ⟨?_, ?_⟩, ?_⟩
    · exact Blk.set_ (Blk.set_ HQ.out.1 0 _) 2 _
    · exact (HQ.out.2.1.kept (only_setCell (only_setCell (only_refl w3 g) (.inl rfl) _) (.inl rfl) _) (by intro e; injection e with e; exact HQ.out.2.2.1 e.symm))
    · exact HQ.out.2.2.2.trans (Only2.of_only1 (only_setCell (only_setCell (only_refl w3 g) (.inl rfl) _) (.inl rfl) _) B)
  · have ea : movA a s = a := by unfold movA; rw [he]; rfl
    have em : movM a s m = m := by unfold movM; rw [he]; rfl
    have HE := Lib.hid (And.intro ea em)
    clear ea em
    go_wp2_with fail
    go_ret
    rw [HE.out.1, HE.out.2, he]
    exact ⟨rfl, ⟨HQ.out.1, HQ.out.2.1⟩, HQ.out.2.2.2⟩
/-- A new peer. -/
def NewAt (w w' : World) (g : Nat) (a : ByteArray) (f : Bool) : Prop := ∃ B, St w' g B 0 a f 0 (fun _ => 0) ∧ Below w.heap.size w w' ∧ w.heap.size ≤ g ∧ w.heap.size ≤ B
theorem new_any (s : ByteArray) (w : World) (hs : s.size ≤ maxLen) :
    Calls Try.prog 9 #[.string s] w fun e w' => ∃ g, e = .returned (.pointer (some ⟨g, 0, none⟩)) ∧ NewAt w w' g (firstS s) false := by
  have hmm := @run_makeMap Try.prog
  have hR := fun W => Right_any s W hs
  obtain ⟨b, hb⟩ : ∃ b, rightS s = b := ⟨_, rfl⟩
  have HF := Lib.hid (show firstS s = if b = true then s else ⟨#[]⟩ by unfold firstS; rw [hb])
  rw [hb] at hR
  clear hb hs
  go_enter Try.func9, Try.ntmps9
  go_wp2_with (go_at_call 18; refine (hR _).mono ?_; rintro _ w1 ⟨rfl, hb⟩; refine Hid.out ?_)
  refine Lib.hid ?_
  have hA : Below w.heap.size w w1 := ((((Below.refl _ w).alloc (Nat.le_refl _) _).alloc (by simp) _).trans (hb.mono (by simp; omega)))
  have h0 : PeerAt ((w.alloc (Obj.map #[] 0)).alloc (Obj.cells #[Value.string { data := #[] }, Value.bool false, Value.int IntKind.i64 0, Value.map (some w.heap.size)] 39)) (w.heap.size + 1) ⟨#[]⟩ false ((0 : Nat) : Int) (.map (some w.heap.size)) := by
    have := Blk.new (w.alloc (Obj.map #[] 0)) 39 #[Value.string { data := #[] }, Value.bool false, Value.int IntKind.i64 0, Value.map (some w.heap.size)]
    simpa [PeerAt] using this
  have h1 : PeerAt w1 (w.heap.size + 1) ⟨#[]⟩ false ((0 : Nat) : Int) (.map (some w.heap.size)) := Blk.below h0 hb (by simp)
  have h2 : MetAt w1 w.heap.size 0 (fun _ => 0) := (((met_made w).kept (only_alloc (World.grownBy.refl _ none) _) (by simp))).below hb
  have f0 := Blk.frozen h1 0
  have c0 := Blk.cell h1 0
  simp at c0
  have HQ := Lib.hid (And.intro hA (And.intro h1 h2))
  clear hA h0 h1 h2 hb hR hmm
  cases b
  · go_wp2_with fail
    go_ret
    rw [HF.out]
    exact ⟨w.heap.size + 1, rfl, w.heap.size, ⟨HQ.out.2.1, HQ.out.2.2⟩, HQ.out.1, by omega, by omega⟩
  · go_wp2_with fail
    go_ret
    rw [HF.out]
    refine ⟨w.heap.size + 1, rfl, w.heap.size, ⟨?_, HQ.out.2.2.kept (only_setCell (only_refl w1 (w.heap.size + 1)) (.inl rfl) _) (by simp)⟩, ?_, by omega, by omega⟩
    · exact Blk.set_ HQ.out.2.1 0 _
    · exact below_only HQ.out.1 (only_setCell (only_refl w1 (w.heap.size + 1)) (.inl rfl) _) HQ.out.1.size (by omega)
/-- A fixed one. -/
theorem fixed_any (s : ByteArray) (w : World) (hs : s.size ≤ maxLen) :
    Calls Try.prog 10 #[.string s] w fun e w' => ∃ g, e = .returned (.pointer (some ⟨g, 0, none⟩)) ∧ NewAt w w' g (firstS s) true := by
  have hN := new_any s w hs
  clear hs
  go_enter Try.func10, Try.ntmps10
  go_wp2_with (go_at_call 9; refine hN.mono ?_; rintro _ w1 ⟨g, rfl, B, h1, h2, h3, h4⟩; refine Hid.out ?_)
  refine Lib.hid ?_
  have f1 := Blk.frozen h1.peer 1
  have c1 := Blk.cell h1.peer 1
  simp at c1
  have HQ := Lib.hid (And.intro h1 (And.intro h2 (And.intro h3 h4)))
  clear hN h1 h2 h3 h4
  go_wp2_with fail
  go_ret
  obtain ⟨h1, h2, h3, h4⟩ := HQ.out
  refine ⟨g, rfl, B, ⟨Blk.set_ h1.peer 1 _, h1.met.kept (only_setCell (only_refl w1 g) (.inl rfl) _) (by intro e; injection e with e; exact peer_ne h1.peer h1.met e.symm)⟩, below_only h2 (only_setCell (only_refl w1 g) (.inl rfl) _) h2.size h3, h3, h4⟩
end Go.Proofs.Ytbcmiembahhgeaa
