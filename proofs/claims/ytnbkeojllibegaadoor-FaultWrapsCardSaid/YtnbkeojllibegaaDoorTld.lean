import Derived.Test.YtnbkeojllibegaaDoorRtx
namespace Go.Proofs.YtnbkeojllibegaaDoor
open Go.ChangeShapes Go.WideShapes Go.ChangeAt Go.RowKit
set_option linter.unusedVariables false
set_option linter.unusedSimpArgs false
set_option maxRecDepth 100000 in
set_option maxHeartbeats 4000000 in
theorem told_any (w : World) (nl fl : Bool) (A : Option Addr) (n cap : Nat) (c a : Int) (h0 : -9223372036854775808 ≤ a) (h1 : a ≤ 9223372036854775807) :
    Calls Tryd.prog 17 #[errE nl A n cap c a fl] w fun e w' => e = .returned (.string (if nl then ⟨#[111, 107]⟩ else tellS fl c a)) ∧ Below w.heap.size w w' := by
  have hdec := fun W => dec_any a W h0 h1
  have hnm := fun W => rname_any c W
  have hz1 := nameS_size c
  have hz2 := itS_size a h0 h1
  unfold errE
  have hbel : Below w.heap.size w (w.alloc (.cells #[.bool nl, .slice A n cap, .int .i64 c, .int .i64 a, .bool fl] 24)) := (Below.refl _ w).alloc (Nat.le_refl _) _
  have HB := Lib.hid hbel
  clear hbel h0 h1
  unfold tellS
  generalize nameS c = nn at *
  generalize itS a = m at *
  obtain ⟨q, hq, hqs⟩ : ∃ q, nn ++ spS = q ∧ q.size ≤ 10 := ⟨_, rfl, by rw [ByteArray.size_append]; have : spS.size = 1 := rfl; omega⟩
  have hads3 : nn.size + 1 ≤ 9223372036854775807 := by omega
  have hads2 : q.size + m.size ≤ 9223372036854775807 := by omega
  unfold spS at hq
  have HQ := Lib.hid hq
  clear hz1 hz2 hqs
  cases nl with
  | true =>
    clear hq
    go_enter Tryd.func17, Tryd.ntmps17
    go_wp2_with fail
    go_ret
    exact ⟨rfl, HB.out⟩
  | false =>
    cases fl with
    | false =>
      clear hq
      go_enter Tryd.func17, Tryd.ntmps17
      go_wp2_with (go_at_call 15; refine (hnm _).mono ?_; rintro _ w1 ⟨rfl, hb⟩; refine Hid.out ?_)
      refine Lib.hid ?_
      go_wp2_with fail
      go_ret
      exact ⟨rfl, HB.out.trans (hb.mono HB.out.size)⟩
    | true =>
      go_enter Tryd.func17, Tryd.ntmps17
      go_wp2_with fail
      go_region_with (first
        | (go_at_call 15; refine (hnm _).mono ?_; rintro _ w1 ⟨rfl, hb⟩; have hc3 : w1.cell? ⟨w.heap.size, 3, none⟩ = some (.int .i64 a) := (hb.cell (p := ⟨w.heap.size, 3, none⟩) (by simp)).trans (by simp))
        | (go_at_call 24; refine (hdec _).mono ?_; rintro _ w2 ⟨rfl, k, rfl⟩))
      all_goals (go_wp2_with fail)
      all_goals go_ret
      all_goals (refine ⟨?_, ?_⟩)
      all_goals (first
        | (show _ = Ending.returned (.string (nn ++ ⟨#[32]⟩ ++ m)); rw [HQ.out]; rfl)
        | exact below_drewN (HB.out.drew.trans (hb.mono HB.out.size)) _
        | exact HB.out.drew.trans (hb.mono HB.out.size)
        | exact (below_drewN HB.out.drew _).trans (hb.mono HB.out.size))
end Go.Proofs.YtnbkeojllibegaaDoor
