import Derived.Test.YtnbkeojllibegaaDoorNam
namespace Go.Proofs.YtnbkeojllibegaaDoor
open Go.ChangeShapes Go.WideShapes Go.ChangeAt Go.RowKit
set_option linter.unusedVariables false
set_option linter.unusedSimpArgs false
theorem nm_size_fin : ∀ n : Fin 13, (nm n.1).size ≤ 9 := by decide +kernel
theorem nameS_size (c : Int) : (nameS c).size ≤ 9 := by
  unfold nameS
  split
  · rename_i h
    exact nm_size_fin ⟨c.toNat, by omega⟩
  · simp
def spS : ByteArray := ⟨#[32]⟩
/-- What Text says of a chain. -/
def tellS (fl : Bool) (c a : Int) : ByteArray := if fl then nameS c ++ spS ++ itS a else nameS c
theorem text_nil (w : World) : Calls Tryd.prog 16 #[.nilIface] w fun e w' => e = .returned (.string ⟨#[111, 107]⟩) ∧ Below w.heap.size w w' := by
  go_enter Tryd.func16, Tryd.ntmps16
  go_wp2_with (go_at_call 10; refine (code_nil _).mono ?_; rintro _ w1 ⟨rfl, hb⟩; refine Hid.out ?_)
  refine Lib.hid ?_
  have H1 := Lib.hid hb
  clear hb
  go_wp2_with (go_at_call 11; refine (at_nil _).mono ?_; rintro _ w2 ⟨rfl, hb⟩; refine Hid.out ?_)
  refine Lib.hid ?_
  have H2 := Lib.hid (H1.out.trans (hb.mono H1.out.size))
  clear hb
  go_wp2_with fail
  go_ret
  exact ⟨rfl, H2.out⟩
theorem text_str (y : Value) (w : World) (hg : Err w) : Calls Tryd.prog 16 #[.iface 55 y] w fun e w' => e = .returned (.string ⟨#[101, 114, 114, 111, 114]⟩) ∧ Below w.heap.size w w' := by
  have hc := code_str y w hg
  have ha := fun W (h : Below w.heap.size w W) => at_str y W (hg.below h)
  clear hg
  go_enter Tryd.func16, Tryd.ntmps16
  go_wp2_with (go_at_call 10; refine hc.mono ?_; rintro _ w1 ⟨rfl, hb⟩; refine Hid.out ?_)
  refine Lib.hid ?_
  have H1 := Lib.hid hb
  clear hb hc
  go_wp2_with (go_at_call 11; refine (ha _ H1.out).mono ?_; rintro _ w2 ⟨rfl, hb⟩; refine Hid.out ?_)
  refine Lib.hid ?_
  have H2 := Lib.hid (H1.out.trans (hb.mono H1.out.size))
  clear hb ha
  go_wp2_with fail
  go_ret
  exact ⟨rfl, H2.out⟩
set_option maxRecDepth 100000 in
set_option maxHeartbeats 4000000 in
theorem text_any (ps : List ByteArray) (fl : Bool) (c a : Int) (w : World) (hg : Err w) (hN : Nms w) (hP : Pow w) (h0 : -9223372036854775808 ≤ a) (h1 : a ≤ 9223372036854775807) :
    Calls Tryd.prog 16 #[wrapV ps (coreV fl c a)] w fun e w' => e = .returned (.string (tellS fl c a)) ∧ Below w.heap.size w w' := by
  have hcd := code_any ps (coreV fl c a) c a (coreV_is fl c a) w hg
  have hat := fun W (h : Below w.heap.size w W) => at_core ps fl c a W (hg.below h)
  have hnm := fun W (h : Below w.heap.size w W) => name_any c W (hN.below h)
  have hit := fun W (h : Below w.heap.size w W) => itoa_any a W (hP.below h) h0 h1
  have hz1 := nameS_size c
  have hz2 := itS_size a h0 h1
  obtain ⟨ty, x, hv⟩ : ∃ ty x, wrapV ps (coreV fl c a) = .iface ty x := wrapV_form ps _ (by rcases coreV_is fl c a with h | h <;> rw [h] <;> exact ⟨_, _, rfl⟩)
  rw [hv] at hcd hat ⊢
  unfold tellS
  generalize nameS c = n at *
  generalize itS a = m at *
  clear hg hN hP hv h0 h1
  go_enter Tryd.func16, Tryd.ntmps16
  go_wp2_with (go_at_call 10; refine hcd.mono ?_; rintro _ w1 ⟨rfl, hb⟩; refine Hid.out ?_)
  refine Lib.hid ?_
  have H1 := Lib.hid hb
  clear hb hcd
  go_wp2_with (go_at_call 11; refine (hat _ H1.out).mono ?_; rintro _ w2 ⟨rfl, hb⟩; refine Hid.out ?_)
  refine Lib.hid ?_
  have H2 := Lib.hid (H1.out.trans (hb.mono H1.out.size))
  clear hb hat
  cases fl with
  | false =>
    go_wp2_with (go_at_call 14; refine (hnm _ H2.out).mono ?_; rintro _ _ ⟨rfl, rfl⟩; refine Hid.out ?_)
    refine Lib.hid ?_
    go_wp2_with fail
    go_ret
    exact ⟨rfl, H2.out⟩
  | true =>
    rw [show offV true a = a from rfl]
    obtain ⟨q, hq, hqs⟩ : ∃ q, n ++ spS = q ∧ q.size ≤ 10 := ⟨_, rfl, by rw [ByteArray.size_append]; have : spS.size = 1 := rfl; omega⟩
    have hads3 : n.size + 1 ≤ 9223372036854775807 := by omega
    have hads2 : q.size + m.size ≤ 9223372036854775807 := by omega
    unfold spS at hq
    clear hz1 hz2 hqs
    go_wp2_with (first
      | (go_at_call 14; refine (hnm _ H2.out).mono ?_; rintro _ _ ⟨rfl, rfl⟩)
      | (go_at_call 25; refine (hit _ H2.out).mono ?_; rintro _ w3 ⟨rfl, hb⟩; refine Hid.out ?_))
    refine Lib.hid ?_
    go_wp2_with fail
    go_ret
    refine ⟨?_, H2.out.trans (hb.mono H2.out.size)⟩
    show _ = Ending.returned (.string (n ++ ⟨#[32]⟩ ++ m))
    rw [hq]
    rfl
end Go.Proofs.YtnbkeojllibegaaDoor
