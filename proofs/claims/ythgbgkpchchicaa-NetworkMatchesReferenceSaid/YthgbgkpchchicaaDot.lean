import Derived.Test.YthgbgkpchchicaaDoo
namespace Go.Proofs.Ythgbgkpchchicaa
open Go.ChangeShapes Go.WideShapes Go.ChangeAt Go.RowKit
set_option linter.unusedVariables false
set_option linter.unusedSimpArgs false
set_option maxRecDepth 100000 in
set_option maxHeartbeats 4000000 in
theorem do_take_in (g : Nat) (v : Value) (ds : List Dg) (last : Int) (K b : Int) (fr to : ByteArray) (A : Option Addr) (n c : Nat) (bs : List Nat) (B : Nat) (w : World) (h : Net B w g v ds last) (i : Nat) (d : Dg) (hi : ds[i]? = some d) (hlen : ds.length ≤ 1000)
    (g0 : (K == 0) = false) (g1 : (K == 1) = false) (g2 : (K == 2) = false) (g3 : (K == 3) = false) : Calls Try.prog 17 #[P1 g, .agg #[.int .i64 K, .int .i64 i, .int .i64 b, .string fr, .string to, .slice A n c]] w fun e w' => ∃ v3, e = .returned (.tuple #[.int .i64 0, d.v, .nilIface]) ∧ BOwn B w' d ∧ Ended B w g v w' v3 (ds.eraseIdx i) last := by
  have N2 := h.below (W2_below w (⟨K, i, b, fr, to, A, n, c, bs⟩ : Opr))
  have hc := take_in g i v ds last d B _ N2 hi hlen
  have H := Lib.hid h
  have O2 := Lib.hid (N2.own d (List.mem_of_getElem? hi))
  have N2H := Lib.hid N2
  clear h N2 hi
  unfold P1 at *
  unfold W2 zc Dg.v at hc
  dsimp only at hc
  go_enter Try.func17, Try.ntmps17
  go_wp2_with (go_at_call 11; refine hc.mono ?_; rintro _ w3 ⟨v3, rfl, hN, hT, hv, _⟩; refine Hid.out ?_)
  refine Lib.hid ?_
  obtain ⟨hE, hP⟩ := Ended.of (o := (⟨K, i, b, fr, to, A, n, c, bs⟩ : Opr)) H.out hN hT (Moved.of_eq hv)
  have hb4 : Below w3.heap.size w3 (w3.alloc (.cells #[.int .i64 d.id, .string d.fr, .string d.to, .slice d.A d.n d.c] 32)) := (Below.refl _ _).alloc (Nat.le_refl _) _
  have O4 := Lib.hid ((N2H.out.otherB hT O2.out).below hb4)
  have HE := Lib.hid (hE.later hb4)
  have HP := Lib.hid (hP.below hb4 hP.lt)
  have HD := Lib.hid (Blk.new w3 32 #[.int .i64 d.id, .string d.fr, .string d.to, .slice d.A d.n d.c])
  have hsz := hE.size
  clear hE hP hc hN hT hv hb4 N2H O2
  go_upto_region 13 with (fail)
  generalize w3.alloc (.cells #[.int .i64 d.id, .string d.fr, .string d.to, .slice d.A d.n d.c] 32) = w4 at *
  obtain ⟨q0, q1, q2, q3, _, _, _, _⟩ := HD.out.four_facts
  obtain ⟨c0, c1, c2, c3, f0, f1, f2, f3⟩ := zc_facts HP.out
  go_region
  have HE5 := HE.out.later (Below.refl _ w4).drew
  have HP5 : Blk w4.drew (w.heap.size + 1) 32 zc := HP.out
  have O5 : BOwn B w4.drew d := O4.out
  go_wp2_with fail
  refine ret_tct rfl rfl rfl (Blk.four HP5 _ _ _ _).range Try.underlying32 rfl (by kernel_rfl) ⟨_, rfl, bown_four O5 HP5 _ _ _ _, HE5.store HP5 _ _ _ _⟩
set_option maxRecDepth 100000 in
set_option maxHeartbeats 4000000 in
theorem do_take_out (g : Nat) (v : Value) (ds : List Dg) (last : Int) (K a b : Int) (fr to : ByteArray) (A : Option Addr) (n c : Nat) (bs : List Nat) (B : Nat) (w : World) (h : Net B w g v ds last) (hx : outB ds.length a = true)
    (g0 : (K == 0) = false) (g1 : (K == 1) = false) (g2 : (K == 2) = false) (g3 : (K == 3) = false) : Calls Try.prog 17 #[P1 g, .agg #[.int .i64 K, .int .i64 a, .int .i64 b, .string fr, .string to, .slice A n c]] w fun e w' => ∃ v3, e = .returned (.tuple #[.int .i64 0, .agg zc, errV 10]) ∧ Ended B w g v w' v3 ds last := by
  have N2 := h.below (W2_below w (⟨K, a, b, fr, to, A, n, c, bs⟩ : Opr))
  have hc := take_out g v ds last a B _ N2 hx
  rw [show errV 10 = .iface 62 (.int .i64 10) from rfl] at hc ⊢
  have H := Lib.hid h
  have N2H := Lib.hid N2
  clear h N2 hx
  unfold P1 at *
  unfold W2 zc zdV at hc
  dsimp only at hc
  go_enter Try.func17, Try.ntmps17
  go_wp2_with (go_at_call 11; refine hc.mono ?_; rintro _ w3 ⟨rfl, hb⟩; refine Hid.out ?_)
  refine Lib.hid ?_
  obtain ⟨hE, hP⟩ := Ended.of (o := (⟨K, a, b, fr, to, A, n, c, bs⟩ : Opr)) H.out (N2H.out.below hb) (Turn.of_below hb) (Moved.refl _ _)
  have hb4 : Below w3.heap.size w3 (w3.alloc (.cells #[.int .i64 0, .string ⟨#[]⟩, .string ⟨#[]⟩, .slice none 0 0] 32)) := (Below.refl _ _).alloc (Nat.le_refl _) _
  have HE := Lib.hid (hE.later hb4)
  have HP := Lib.hid (hP.below hb4 hP.lt)
  have HD := Lib.hid (Blk.new w3 32 #[.int .i64 0, .string ⟨#[]⟩, .string ⟨#[]⟩, .slice none 0 0])
  have hsz := hE.size
  clear hE hP hc hb hb4 N2H
  go_upto_region 13 with (fail)
  generalize w3.alloc (.cells #[.int .i64 0, .string ⟨#[]⟩, .string ⟨#[]⟩, .slice none 0 0] 32) = w4 at *
  obtain ⟨q0, q1, q2, q3, _, _, _, _⟩ := HD.out.four_facts
  obtain ⟨c0, c1, c2, c3, f0, f1, f2, f3⟩ := zc_facts HP.out
  go_region
  have HE5 := HE.out.later (Below.refl _ w4).drew
  have HP5 : Blk w4.drew (w.heap.size + 1) 32 zc := HP.out
  go_wp2_with fail
  refine ret_tct rfl rfl rfl (Blk.four HP5 _ _ _ _).range Try.underlying32 rfl (by kernel_rfl) ⟨_, rfl, HE5.store HP5 _ _ _ _⟩
end Go.Proofs.Ythgbgkpchchicaa
