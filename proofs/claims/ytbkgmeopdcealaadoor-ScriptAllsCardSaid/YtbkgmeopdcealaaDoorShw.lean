import Derived.Test.YtbkgmeopdcealaaDoorRdr
namespace Go.Proofs.YtbkgmeopdcealaaDoor
open Go.ChangeShapes Go.WideShapes Go.ChangeAt Go.RowKit Go.Sort Go.Deep
set_option linter.unusedVariables false
set_option linter.unusedSimpArgs false
theorem i64_and_one (x : Int) : bits .and .i64 x 1 = x % 2 := by
  have h : (BitVec.ofInt 64 x &&& BitVec.ofInt 64 1).toNat = (x % 2).toNat := by
    rw [show (BitVec.ofInt 64 1) = 1#64 from rfl, BitVec.toNat_and]
    simp only [BitVec.toNat_ofInt]
    rw [show (1#64).toNat = 1 from rfl, Nat.and_one_is_mod]
    omega
  show IntKind.i64.wrap ((BitVec.ofInt 64 x &&& BitVec.ofInt 64 1).toNat : Int) = _
  rw [h, IntKind.wrap_i64]
  omega
set_option maxRecDepth 100000 in
set_option maxHeartbeats 1000000 in
/-- script.show. -/
theorem show_any (o : Op) (f : Nat) (hf : f = 119 ∨ f = 110 ∨ f = 116 ∨ f = 109 ∨ f = 98 ∨ f = 97) (w : World) (hT : Tab w) (hO : OpOk w o) (hn : o.n ≤ 5000) :
    Calls Tryd.prog 36 #[o.v, .int .i32 f] w fun e w' => e = .returned (.string (fieldS o.p f)) ∧ Below w.heap.size w w' := by
  have b1 : Below w.heap.size w (w.alloc (.cells o.arr 29)) := (Below.refl _ w).alloc (Nat.le_refl _) _
  have hi : ∀ x : Int, -9223372036854775808 ≤ x → x ≤ 9223372036854775807 → Calls Tryd.prog 49 #[.int .i64 x] (w.alloc (.cells o.arr 29)) fun e w' => e = .returned (.string (itS x)) ∧ Below (w.alloc (.cells o.arr 29)).heap.size (w.alloc (.cells o.arr 29)) w' := fun x h0 h1 => itoa_any x _ (hT.below b1).pow h0 h1
  have hin := hi o.nn hO.n0 hO.n1
  have him := hi o.mm hO.m0 hO.m1
  have hx := hex_any o.A o.n o.c o.bs _ (hO.y.below b1) (by omega)
  have n0 : (w.alloc (.cells o.arr 29)).cell? ⟨1, 0, none⟩ = some (.string ⟨#[99, 108, 105, 101, 110, 116]⟩) := (hT.below b1).nam 0 _ rfl
  have n1 : (w.alloc (.cells o.arr 29)).cell? ⟨1, 1, none⟩ = some (.string ⟨#[115, 101, 114, 118, 101, 114]⟩) := (hT.below b1).nam 1 _ rfl
  have hz : 10 ≤ w.heap.size := hT.sz
  have HB := Lib.hid b1
  obtain ⟨S, hS⟩ : ∃ s, fieldS o.p f = s := ⟨_, rfl⟩
  rw [hS]
  have HS := Lib.hid hS
  clear hi b1 hT hO hS
  obtain ⟨kd, wh, nn, mm, A, n, c, bs, ad⟩ := o
  unfold Op.v
  unfold Op.arr at hin him hx HB n0 n1
  simp only at hin him hx HB HS n0 n1 ⊢
  have through := fun {w1 w2 : World} (h1 : Below w.heap.size w w1) (h2 : Below w1.heap.size w1 w2) => h1.trans (h2.mono h1.size)
  rcases hf with rfl | rfl | rfl | rfl | rfl | rfl
  · have hw : wh % 2 = 0 ∨ wh % 2 = 1 := by omega
    rcases hw with hw | hw
    · have ha : bits .and .i64 wh 1 = 0 := by rw [i64_and_one, hw]
      obtain rfl : S = ⟨#[99, 108, 105, 101, 110, 116]⟩ := by
        have := HS.out
        rw [← this]
        show whS wh = _
        unfold whS
        rw [if_pos hw]; rfl
      clear hw HS
      go_enter Tryd.func36, Tryd.ntmps36
      go_wp2_with fail
      go_ret
      exact ⟨rfl, HB.out⟩
    · have ha : bits .and .i64 wh 1 = 1 := by rw [i64_and_one, hw]
      obtain rfl : S = ⟨#[115, 101, 114, 118, 101, 114]⟩ := by
        have := HS.out
        rw [← this]
        show whS wh = _
        unfold whS
        rw [if_neg (by omega)]; rfl
      clear hw HS
      go_enter Tryd.func36, Tryd.ntmps36
      go_wp2_with fail
      go_ret
      exact ⟨rfl, HB.out⟩
  · obtain rfl : itS nn = S := HS.out
    go_enter Tryd.func36, Tryd.ntmps36
    go_wp2_with (go_at_call 49; refine hin.mono ?_; rintro _ w2 ⟨rfl, hb⟩)
    go_ret
    exact ⟨rfl, through HB.out hb⟩
  · obtain rfl : itS nn = S := HS.out
    go_enter Tryd.func36, Tryd.ntmps36
    go_wp2_with (go_at_call 49; refine hin.mono ?_; rintro _ w2 ⟨rfl, hb⟩)
    go_ret
    exact ⟨rfl, through HB.out hb⟩
  · obtain rfl : itS mm = S := HS.out
    go_enter Tryd.func36, Tryd.ntmps36
    go_wp2_with (go_at_call 49; refine him.mono ?_; rintro _ w2 ⟨rfl, hb⟩)
    go_ret
    exact ⟨rfl, through HB.out hb⟩
  · obtain rfl : hexS bs = S := HS.out
    go_enter Tryd.func36, Tryd.ntmps36
    go_wp2_with (go_at_call 21; refine hx.mono ?_; rintro _ w2 ⟨rfl, hb⟩)
    go_ret
    exact ⟨rfl, through HB.out hb⟩
  · obtain rfl : ad = S := HS.out
    go_enter Tryd.func36, Tryd.ntmps36
    go_wp2_with fail
    go_ret
    exact ⟨rfl, HB.out⟩
end Go.Proofs.YtbkgmeopdcealaaDoor
