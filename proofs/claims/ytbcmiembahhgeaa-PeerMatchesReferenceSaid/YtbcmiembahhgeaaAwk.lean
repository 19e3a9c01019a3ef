import Derived.Test.YtbcmiembahhgeaaPeer
namespace Go.Proofs.Ytbcmiembahhgeaa
open Go.ChangeShapes Go.WideShapes Go.ChangeAt Go.RowKit
set_option linter.unusedVariables false
set_option linter.unusedSimpArgs false
theorem addr_any (g : Nat) (a : ByteArray) (f : Bool) (m : Int) (mp : Value) (w : World) (h : PeerAt w g a f m mp) (b : Bool) (hb : (!a.data.toList.isEmpty) = b) :
    Calls Try.prog 14 #[.pointer (some ⟨g, 0, none⟩)] w fun e w' => e = .returned (.tuple #[.string a, .bool b]) ∧ ∃ k, w' = w.drewN k := by
  have := address_at g a f m mp w h
  rw [ByteArray.toList_eq, hb] at this
  exact this
/-- A peer of the call's own. -/
def PSt (w0 w : World) (g n : Nat) (a : ByteArray) (f : Bool) (m : Nat) (cnt : ByteArray → Nat) : Prop := ∃ B, St w g B n a f m cnt ∧ Below w0.heap.size w0 w ∧ w0.heap.size ≤ g ∧ w0.heap.size ≤ B
section
variable {w0 w w' : World} {g n m : Nat} {a : ByteArray} {f : Bool} {cnt : ByteArray → Nat}
theorem PSt.frame (h : PSt w0 w g n a f m cnt) : Below w0.heap.size w0 w := by obtain ⟨B, _, h, _⟩ := h; exact h
theorem PSt.below (h : PSt w0 w g n a f m cnt) (hb : Below w.heap.size w w') : PSt w0 w' g n a f m cnt := by
  obtain ⟨B, h1, h2, h3, h4⟩ := h
  exact ⟨B, h1.below hb, h2.trans (hb.mono h2.size), h3, h4⟩
theorem PSt.drewN (h : PSt w0 w g n a f m cnt) (k : Nat) : PSt w0 (w.drewN k) g n a f m cnt := by
  obtain ⟨B, h1, h2, h3, h4⟩ := h
  exact ⟨B, h1.drewN k, below_drewN h2 k, h3, h4⟩
theorem PSt.peer (h : PSt w0 w g n a f m cnt) : ∃ B, PeerAt w g a f (m : Int) (.map (some B)) := by
  obtain ⟨B, h1, _⟩ := h
  exact ⟨B, h1.peer⟩
theorem PSt.of_new (h : NewAt w w' g a f) (h0 : Below w0.heap.size w0 w) : PSt w0 w' g 0 a f 0 (fun _ => 0) := by
  obtain ⟨B, h1, h2, h3, h4⟩ := h
  exact ⟨B, h1, h0.trans (h2.mono h0.size), Nat.le_trans h0.size h3, Nat.le_trans h0.size h4⟩
end
theorem move_p {w0 w : World} {g n m : Nat} {a : ByteArray} {cnt : ByteArray → Nat} (h : PSt w0 w g n a false m cnt) (s : ByteArray) (hs : s.size ≤ maxLen) (hr : rightS s = true) (hn : n < 1000000) (hm : m < 1000000) (hc : cnt s < 1000000)
    (b : Bool) (hb : (a.toList == s.toList) = b) : Calls Try.prog 13 #[.pointer (some ⟨g, 0, none⟩), .string s] w fun e w' => e = .returned (.bool (!b)) ∧ PSt w0 w' g (n + 1) (movA a s) false (movM a s m) (bump cnt s) := by
  obtain ⟨B, h1, h2, h3, h4⟩ := h
  refine (move_right g B n a m cnt s w h1 hs hr hn hm hc).mono ?_
  rintro _ w1 ⟨rfl, h5, h6⟩
  rw [hb]
  exact ⟨rfl, B, h5, h6.below h2 h3 h4 h2.size, h3, h4⟩
theorem addr_p {w0 w : World} {g n m : Nat} {a : ByteArray} {f : Bool} {cnt : ByteArray → Nat} (h : PSt w0 w g n a f m cnt) (b : Bool) (hb : (!a.data.toList.isEmpty) = b) :
    Calls Try.prog 14 #[.pointer (some ⟨g, 0, none⟩)] w fun e w' => e = .returned (.tuple #[.string a, .bool b]) ∧ PSt w0 w' g n a f m cnt ∧ ∃ k, w' = w.drewN k := by
  obtain ⟨B, h1⟩ := h.peer
  refine (addr_any g a f m _ w h1 b hb).mono ?_
  rintro _ w1 ⟨rfl, k, rfl⟩
  exact ⟨rfl, h.drewN k, k, rfl⟩
theorem moves_p {w0 w : World} {g n m : Nat} {a : ByteArray} {f : Bool} {cnt : ByteArray → Nat} (h : PSt w0 w g n a f m cnt) :
    Calls Try.prog 15 #[.pointer (some ⟨g, 0, none⟩)] w fun e w' => e = .returned (.int .i64 (m : Nat)) ∧ w = w' := by
  obtain ⟨B, h1⟩ := h.peer
  exact moves_at g a f m _ w h1
theorem met_p {w0 w : World} {g n m : Nat} {a : ByteArray} {f : Bool} {cnt : ByteArray → Nat} (h : PSt w0 w g n a f m cnt) (s : ByteArray) (hs : s.size ≤ maxLen) :
    Calls Try.prog 16 #[.pointer (some ⟨g, 0, none⟩), .string s] w fun e w' => e = .returned (.int .i64 (cnt s : Nat)) ∧ w = w' := by
  obtain ⟨B, h1, _⟩ := h
  exact met_at g B n a f m cnt s w h1 hs
theorem below_of_drew {w : World} (k : Nat) : Below w.heap.size w (w.drewN k) := below_drewN (Below.refl _ _) k
set_option maxRecDepth 100000 in
set_option maxHeartbeats 2000000 in
theorem awake_any (w : World) : Calls Try.prog 7 #[] w fun e w' => e = .returned (.bool true) ∧ Below w.heap.size w w' := by
  have hN := new_any ⟨#[97, 58, 49]⟩ w (by unfold maxLen; decide)
  rw [show firstS ⟨#[97, 58, 49]⟩ = ⟨#[97, 58, 49]⟩ by unfold firstS; rw [if_pos (by decide +kernel)]] at hN
  have hr : rightS ⟨#[98, 58, 50]⟩ = true := by decide +kernel
  have e1 : ((⟨#[97, 58, 49]⟩ : ByteArray).toList == (⟨#[98, 58, 50]⟩ : ByteArray).toList) = false := by rw [ByteArray.toList_eq, ByteArray.toList_eq]; rfl
  have e2 : ((⟨#[98, 58, 50]⟩ : ByteArray).toList == (⟨#[98, 58, 50]⟩ : ByteArray).toList) = true := by simp
  have HR := Lib.hid (And.intro hr (And.intro e1 e2))
  clear hr e1 e2
  go_enter Try.func7, Try.ntmps7
  go_wp2_with (go_at_call 9; refine hN.mono ?_; rintro _ w1 ⟨g, rfl, hA⟩; refine Hid.out ?_)
  refine Lib.hid ?_
  have hF := fixed_any ⟨#[97]⟩ w1 (by unfold maxLen; decide)
  have HA := Lib.hid (PSt.of_new hA (Below.refl _ _))
  clear hN hA
  go_wp2_with (go_at_call 10; refine hF.mono ?_; rintro _ w2 ⟨g', rfl, hB⟩; refine Hid.out ?_)
  refine Lib.hid ?_
  have HP := Lib.hid (HA.out.below (by obtain ⟨_, _, h, _⟩ := hB; exact h))
  clear hF hB HA
  go_wp2_with (go_at_call 13; refine (move_p HP.out ⟨#[98, 58, 50]⟩ (by unfold maxLen; decide) HR.out.1 (by omega) (by omega) (by decide) false HR.out.2.1).mono ?_; rintro _ w3 ⟨rfl, h3⟩; refine Hid.out ?_)
  refine Lib.hid ?_
  rw [show movA ⟨#[97, 58, 49]⟩ ⟨#[98, 58, 50]⟩ = ⟨#[98, 58, 50]⟩ by unfold movA; rw [HR.out.2.1]; rfl, show movM ⟨#[97, 58, 49]⟩ ⟨#[98, 58, 50]⟩ 0 = 1 by unfold movM; rw [HR.out.2.1]; rfl] at h3
  have H3 := Lib.hid h3
  clear h3 HP
  go_wp2_with (go_at_call 13; refine (move_p H3.out ⟨#[98, 58, 50]⟩ (by unfold maxLen; decide) HR.out.1 (by omega) (by omega) (by simp [bump]) true HR.out.2.2).mono ?_; rintro _ w4 ⟨rfl, h3⟩; refine Hid.out ?_)
  refine Lib.hid ?_
  rw [show movA ⟨#[98, 58, 50]⟩ ⟨#[98, 58, 50]⟩ = ⟨#[98, 58, 50]⟩ by unfold movA; rw [HR.out.2.2]; rfl, show movM ⟨#[98, 58, 50]⟩ ⟨#[98, 58, 50]⟩ 1 = 1 by unfold movM; rw [HR.out.2.2]; rfl] at h3
  have H4 := Lib.hid h3
  clear h3 H3
  go_wp2_with (go_at_call 14; refine (addr_p H4.out true rfl).mono ?_; rintro _ w5 ⟨rfl, h3, _⟩; refine Hid.out ?_)
  refine Lib.hid ?_
  have hN := new_any ⟨#[]⟩ w5 (by unfold maxLen; decide)
  rw [show firstS ⟨#[]⟩ = ⟨#[]⟩ by unfold firstS; rw [if_neg (by decide +kernel)]] at hN
  have H5 := Lib.hid h3
  clear h3 H4
  go_wp2_with (go_at_call 9; refine hN.mono ?_; rintro _ w6 ⟨g6, rfl, hA⟩; refine Hid.out ?_)
  refine Lib.hid ?_
  have H6 := Lib.hid (And.intro (PSt.of_new hA H5.out.frame) (H5.out.below (by obtain ⟨_, _, h, _⟩ := hA; exact h)))
  clear hN hA H5
  go_wp2_with (go_at_call 14; refine (addr_p H6.out.1 false rfl).mono ?_; rintro _ w7 ⟨rfl, _, k, rfl⟩; refine Hid.out ?_)
  refine Lib.hid ?_
  have H7 := Lib.hid (H6.out.2.drewN k)
  clear H6
  have ha := fun W => Right_any ⟨#[97, 45, 49, 46, 98, 58, 50]⟩ W (by unfold maxLen; decide)
  rw [show rightS ⟨#[97, 45, 49, 46, 98, 58, 50]⟩ = true by decide +kernel] at ha
  have hb := fun W => Right_any ⟨#[97, 32, 98]⟩ W (by unfold maxLen; decide)
  rw [show rightS ⟨#[97, 32, 98]⟩ = false by decide +kernel] at hb
  have hc := fun W => pcompare_any ⟨#[97]⟩ ⟨#[98]⟩ W
  rw [show cmpS ⟨#[97]⟩ ⟨#[98]⟩ = -1 by rw [cmpS_eq]; decide +kernel] at hc
  have hm := moves_p H7.out
  have ht := met_p H7.out ⟨#[98, 58, 50]⟩ (by unfold maxLen; decide)
  rw [show bump (bump (fun _ => 0) ⟨#[98, 58, 50]⟩) ⟨#[98, 58, 50]⟩ ⟨#[98, 58, 50]⟩ = 2 by simp [bump]] at ht
  go_wp2_with (first
    | (go_at_call 15; refine hm.mono ?_; rintro _ _ ⟨rfl, rfl⟩)
    | (go_at_call 16; refine ht.mono ?_; rintro _ _ ⟨rfl, rfl⟩; refine Hid.out ?_))
  refine Lib.hid ?_
  clear hm ht
  go_wp2_with (go_at_call 18; refine (ha _).mono ?_; rintro _ w8 ⟨rfl, h8⟩; refine Hid.out ?_)
  refine Lib.hid ?_
  go_wp2_with (go_at_call 18; refine (hb _).mono ?_; rintro _ w9 ⟨rfl, h9⟩; refine Hid.out ?_)
  refine Lib.hid ?_
  have HB := Lib.hid (H7.out.frame.trans ((h8.trans (h9.mono h8.size)).mono H7.out.frame.size))
  clear h8 h9 H7
  go_wp2_with (go_at_call 17; refine (hc _).mono ?_; rintro _ _ ⟨rfl, rfl⟩)
  go_ret
  exact ⟨rfl, HB.out⟩
end Go.Proofs.Ytbcmiembahhgeaa
