import Derived.Test.YtbcmiembahhgeaaLawsB
namespace Go.Proofs.Ytbcmiembahhgeaa
open Go.ChangeShapes Go.WideShapes Go.ChangeAt Go.RowKit
set_option linter.unusedVariables false
set_option linter.unusedSimpArgs false
/-- A peer and a fixed one, side by side. -/
def Two (w0 w : World) (g g' n : Nat) (a : ByteArray) (m : Nat) (cnt : ByteArray → Nat) (a' : ByteArray) : Prop :=
  ∃ B B', St w g B n a false m cnt ∧ St w g' B' 0 a' true 0 (fun _ => 0) ∧ Below w0.heap.size w0 w ∧ (w0.heap.size ≤ g ∧ w0.heap.size ≤ B ∧ w0.heap.size ≤ g' ∧ w0.heap.size ≤ B') ∧ (g' ≠ g ∧ g' ≠ B ∧ B' ≠ g ∧ B' ≠ B)
theorem Two.of_new {w0 w w1 w2 : World} {g g' : Nat} {a a' : ByteArray} (h0 : Below w0.heap.size w0 w) (h1 : NewAt w w1 g a false) (h2 : NewAt w1 w2 g' a' true) : Two w0 w2 g g' 0 a 0 (fun _ => 0) a' := by
  obtain ⟨B, s1, b1, x1, y1⟩ := h1
  obtain ⟨B', s2, b2, x2, y2⟩ := h2
  have hg := Blk.lt s1.peer
  have hB := s1.met.lt
  have := h0.size
  have := b1.size
  exact ⟨B, B', s1.below b2, s2, (h0.trans (b1.mono h0.size)).trans (b2.mono (by omega)), ⟨by omega, by omega, by omega, by omega⟩, ⟨by omega, by omega, by omega, by omega⟩⟩
section
variable {w0 w w' : World} {g g' n m : Nat} {a a' : ByteArray} {cnt : ByteArray → Nat}
theorem Two.frame (h : Two w0 w g g' n a m cnt a') : Below w0.heap.size w0 w := by obtain ⟨B, B', _, _, h, _⟩ := h; exact h
theorem Two.below (h : Two w0 w g g' n a m cnt a') (hb : Below w.heap.size w w') : Two w0 w' g g' n a m cnt a' := by
  obtain ⟨B, B', h1, h2, h3, h4, h5⟩ := h
  exact ⟨B, B', h1.below hb, h2.below hb, h3.trans (hb.mono h3.size), h4, h5⟩
theorem Two.drewN (h : Two w0 w g g' n a m cnt a') (k : Nat) : Two w0 (w.drewN k) g g' n a m cnt a' := by
  obtain ⟨B, B', h1, h2, h3, h4, h5⟩ := h
  exact ⟨B, B', h1.drewN k, h2.drewN k, below_drewN h3 k, h4, h5⟩
theorem Two.one (h : Two w0 w g g' n a m cnt a') : PSt w0 w g n a false m cnt := by
  obtain ⟨B, B', h1, h2, h3, h4, h5⟩ := h
  exact ⟨B, h1, h3, h4.1, h4.2.1⟩
theorem Two.two (h : Two w0 w g g' n a m cnt a') : PSt w0 w g' 0 a' true 0 (fun _ => 0) := by
  obtain ⟨B, B', h1, h2, h3, h4, h5⟩ := h
  exact ⟨B', h2, h3, h4.2.2.1, h4.2.2.2⟩
theorem Two.move (h : Two w0 w g g' n a m cnt a') (s : ByteArray) (hs : s.size ≤ maxLen) (hr : rightS s = true) (hn : n < 1000000) (hm : m < 1000000) (hc : cnt s < 1000000) :
    Calls Try.prog 13 #[.pointer (some ⟨g, 0, none⟩), .string s] w fun e w' => e = .returned (.bool (!(a.toList == s.toList))) ∧ Two w0 w' g g' (n + 1) (movA a s) (movM a s m) (bump cnt s) a' := by
  obtain ⟨B, B', h1, h2, h3, ⟨h4, h5, h6, h7⟩, h8⟩ := h
  refine (move_right g B n a m cnt s w h1 hs hr hn hm hc).mono ?_
  rintro _ w1 ⟨rfl, h9, h10⟩
  exact ⟨rfl, B, B', h9, h2.other h10 h8.1 h8.2.1 h8.2.2.1 h8.2.2.2, h10.below h3 h4 h5 h3.size, ⟨h4, h5, h6, h7⟩, h8⟩
theorem Two.wrong (h : Two w0 w g g' n a m cnt a') (s : ByteArray) (hs : s.size ≤ maxLen) (hr : rightS s = false) :
    Calls Try.prog 13 #[.pointer (some ⟨g, 0, none⟩), .string s] w fun e w' => e = .returned (.bool false) ∧ Two w0 w' g g' n a m cnt a' := by
  obtain ⟨B, hp⟩ := h.one.peer
  refine (move_wrong g a m _ s w hp hs hr).mono ?_
  rintro _ w1 ⟨rfl, hb⟩
  exact ⟨rfl, h.below hb⟩
theorem Two.fixed (h : Two w0 w g g' n a m cnt a') (s : ByteArray) :
    Calls Try.prog 13 #[.pointer (some ⟨g', 0, none⟩), .string s] w fun e w' => e = .returned (.bool false) ∧ w = w' := by
  obtain ⟨B, hp⟩ := h.two.peer
  exact move_fixed g' a' _ _ s w hp
end
theorem addr_q {w0 w : World} {g n m : Nat} {a : ByteArray} {f : Bool} {cnt : ByteArray → Nat} (h : PSt w0 w g n a f m cnt) :
    Calls Try.prog 14 #[.pointer (some ⟨g, 0, none⟩)] w fun e w' => e = .returned (.tuple #[.string a, .bool (!a.toList.isEmpty)]) ∧ ∃ k, w' = w.drewN k := by
  obtain ⟨B, h1⟩ := h.peer
  exact address_at g a f m _ w h1
theorem toList_inj {a b : ByteArray} (h : a.toList = b.toList) : a = b := by
  rw [ByteArray.toList_eq, ByteArray.toList_eq] at h
  cases a; cases b
  simp at h
  rw [h]
end Go.Proofs.Ytbcmiembahhgeaa
