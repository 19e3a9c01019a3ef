import Derived.Test.YthgbgkpchchicaaAwk
import Derived.Test.YthgbgkpchchicaaArg
import Derived.Test.YthgbgkpchchicaaKep
namespace Go.Proofs.Ythgbgkpchchicaa
open Go.ChangeShapes Go.WideShapes Go.ChangeAt Go.RowKit
set_option linter.unusedVariables false
set_option linter.unusedSimpArgs false
abbrev KK := Int × ByteArray × ByteArray × List Nat
def zk : KK := (0, ⟨#[]⟩, ⟨#[]⟩, [])
def zDg : Dg := ⟨0, ⟨#[]⟩, ⟨#[]⟩, none, 0, 0, []⟩
def zc : Array Value := #[.int .i64 0, .string ⟨#[]⟩, .string ⟨#[]⟩, .slice none 0 0]
theorem zDg_k : zDg.k = zk := rfl
theorem zDg_own (B : Nat) (w : World) : BOwn B w zDg := ⟨World.ownsRow_nil _ _ _ _, by intro x hx; cases hx⟩
def W2 (w : World) (o : Opr) : World := (w.alloc (.cells #[.int .i64 o.kind, .int .i64 o.a, .int .i64 o.b, .string o.fr, .string o.to, .slice o.A o.n o.c] 48)).alloc (.cells zc 32)
theorem W2_below (w : World) (o : Opr) : Below w.heap.size w (W2 w o) := ((Below.refl _ w).alloc (Nat.le_refl _) _).alloc (by simp) _
theorem W2_size (w : World) (o : Opr) : (W2 w o).heap.size = w.heap.size + 1 + 1 := by simp [W2]
theorem W2_blk (w : World) (o : Opr) : Blk (W2 w o) (w.heap.size + 1) 32 zc := by
  have := Blk.new (w.alloc (.cells #[.int .i64 o.kind, .int .i64 o.a, .int .i64 o.b, .string o.fr, .string o.to, .slice o.A o.n o.c] 48)) 32 zc
  simpa [W2] using this
theorem W2_op (w : World) (o : Opr) : Blk (W2 w o) w.heap.size 48 #[.int .i64 o.kind, .int .i64 o.a, .int .i64 o.b, .string o.fr, .string o.to, .slice o.A o.n o.c] := (Blk.new w 48 _).alloc _
/-- What stands when a call has ended. -/
structure Ended (B : Nat) (w : World) (g : Nat) (v : Value) (w3 : World) (v3 : Value) (ds3 : List Dg) (last3 : Int) : Prop where
  net : Net B w3 g v3 ds3 last3
  turn : Turn g v w w3
  moved : Moved w v v3
  free : v3.ownBlock ≠ some (w.heap.size + 1)
  size : w.heap.size + 1 < w3.heap.size
theorem Ended.of {B g : Nat} {w w3 : World} {o : Opr} {v v3 : Value} {ds ds3 : List Dg} {last last3 : Int} (h : Net B w g v ds last) (N : Net B w3 g v3 ds3 last3) (T : Turn g v (W2 w o) w3) (M : Moved (W2 w o) v v3) : Ended B w g v w3 v3 ds3 last3 ∧ Blk w3 (w.heap.size + 1) 32 zc := by
  have hb := W2_below w o
  have hs := W2_size w o
  have hne : v.ownBlock ≠ some (w.heap.size + 1) := fun e => by have := (h.row.lt _ e).2; omega
  refine ⟨⟨N, (Turn.of_below hb).trans T (Moved.refl _ _), fun k hk => (M k hk).imp id fun h9 => by omega, fun e => ?_, ?_⟩, (h.below hb).boxOther T (W2_blk w o) (by decide) hne⟩
  · rcases M _ e with h9 | h9
    · exact hne h9
    · omega
  · have := T.size; omega
theorem Ended.later {B g : Nat} {w w3 w4 : World} {v v3 : Value} {ds3 : List Dg} {last3 : Int} (h : Ended B w g v w3 v3 ds3 last3) (hb : Below w3.heap.size w3 w4) : Ended B w g v w4 v3 ds3 last3 :=
  ⟨h.net.below hb, h.turn.trans (Turn.of_below hb) (Moved.refl _ _), h.moved, h.free, Nat.lt_of_lt_of_le h.size hb.size⟩
theorem Ended.store {B g : Nat} {w w3 : World} {v v3 : Value} {ds3 : List Dg} {last3 : Int} (h : Ended B w g v w3 v3 ds3 last3) (hp : Blk w3 (w.heap.size + 1) 32 zc) (a b c d : Value) :
    Ended B w g v ((((w3.setCell ⟨w.heap.size + 1, 0, none⟩ a).setCell ⟨w.heap.size + 1, 1, none⟩ b).setCell ⟨w.heap.size + 1, 2, none⟩ c).setCell ⟨w.heap.size + 1, 3, none⟩ d) v3 ds3 last3 :=
  ⟨h.net.only (only_four _ _ _ _ _ _) hp (by decide) (by decide) h.free, h.turn.only (only_four _ _ _ _ _ _) (by omega), h.moved, h.free, Nat.lt_of_lt_of_le h.size (only_four _ _ _ _ _ _).size⟩
theorem bown_four {B p : Nat} {w : World} {d : Dg} (h : BOwn B w d) (hp : Blk w p 32 zc) (a b c e : Value) : BOwn B ((((w.setCell ⟨p, 0, none⟩ a).setCell ⟨p, 1, none⟩ b).setCell ⟨p, 2, none⟩ c).setCell ⟨p, 3, none⟩ e) d :=
  h.kept (only_four _ _ _ _ _ _) (.inr (own_blk_ne h.1 hp (by decide)))
theorem zc_facts {w : World} {b : Nat} (h : Blk w b 32 zc) :
    w.cell? ⟨b, 0, none⟩ = some (.int .i64 0) ∧ w.cell? ⟨b, 1, none⟩ = some (.string ⟨#[]⟩) ∧ w.cell? ⟨b, 2, none⟩ = some (.string ⟨#[]⟩) ∧ w.cell? ⟨b, 3, none⟩ = some (.slice none 0 0) ∧ w.frozen? ⟨b, 0, none⟩ = false ∧ w.frozen? ⟨b, 1, none⟩ = false ∧ w.frozen? ⟨b, 2, none⟩ = false ∧ w.frozen? ⟨b, 3, none⟩ = false := Blk.four_facts h

set_option maxRecDepth 100000 in
set_option maxHeartbeats 4000000 in
theorem do_post (g : Nat) (v : Value) (ds : List Dg) (last : Int) (a b : Int) (fr to : ByteArray) (A : Option Addr) (n c : Nat) (bs : List Nat) (B : Nat) (w : World) (h : Net B w g v ds last) (hlen : ds.length < 1000) (h0 : 0 ≤ last) (h1 : last < 1000000) (ho : Bys w A n bs) (hn : n ≤ 1000000) : Calls Try.prog 17 #[P1 g, .agg #[.int .i64 0, .int .i64 a, .int .i64 b, .string fr, .string to, .slice A n c]] w fun e w' => ∃ v3 x, e = .returned (.tuple #[.int .i64 (last + 1), .agg zc, .nilIface]) ∧ x.k = (last + 1, fr, to, bs) ∧ Ended B w g v w' v3 (ds ++ [x]) (last + 1) := by
  have N2 := h.below (W2_below w (⟨0, a, b, fr, to, A, n, c, bs⟩ : Opr))
  have hc := post_any g v ds last B _ fr to A n c bs N2 hlen h0 h1 (ho.below (W2_below w (⟨0, a, b, fr, to, A, n, c, bs⟩ : Opr))) hn
  have H := Lib.hid h
  have N2H := Lib.hid N2
  clear h N2 ho
  unfold P1 at *
  unfold W2 zc at hc
  dsimp only at hc
  go_enter Try.func17, Try.ntmps17
  go_wp2_with (go_at_call 10; refine hc.mono ?_; rintro _ w3 ⟨v3, x, rfl, hN, hk3, _, hT, hM⟩; refine Hid.out ?_)
  refine Lib.hid ?_
  obtain ⟨hE, hP⟩ := Ended.of (o := (⟨0, a, b, fr, to, A, n, c, bs⟩ : Opr)) H.out hN hT hM
  have HE := Lib.hid hE
  have HP := Lib.hid hP
  obtain ⟨c0, c1, c2, c3, f0, f1, f2, f3⟩ := zc_facts hP
  have hsz := hE.size
  clear hE hP hc
  go_wp2_with fail
  refine ret_tct rfl rfl rfl (Blk.four HP.out _ _ _ _).range Try.underlying32 rfl (by kernel_rfl) ⟨_, x, rfl, hk3, HE.out.store HP.out _ _ _ _⟩
set_option maxRecDepth 100000 in
set_option maxHeartbeats 4000000 in
theorem do_drop_in (g : Nat) (v : Value) (ds : List Dg) (last : Int) (a b : Int) (fr to : ByteArray) (A : Option Addr) (n c : Nat) (bs : List Nat) (B : Nat) (w : World) (h : Net B w g v ds last) (i : Nat) (d : Dg) (hi : ds[i]? = some d) (hlen : ds.length ≤ 1000) : Calls Try.prog 17 #[P1 g, .agg #[.int .i64 1, .int .i64 (i : Int), .int .i64 b, .string fr, .string to, .slice A n c]] w fun e w' => ∃ v3, e = .returned (.tuple #[.int .i64 0, .agg zc, .nilIface]) ∧ Ended B w g v w' v3 (ds.eraseIdx i) last := by
  have N2 := h.below (W2_below w (⟨1, (i : Int), b, fr, to, A, n, c, bs⟩ : Opr))
  have hc := drop_in g i v ds last d B _ N2 hi hlen
  have H := Lib.hid h
  have N2H := Lib.hid N2
  clear h N2 hi
  unfold P1 at *
  unfold W2 zc at hc
  dsimp only at hc
  go_enter Try.func17, Try.ntmps17
  go_wp2_with (go_at_call 15; refine hc.mono ?_; rintro _ w3 ⟨v3, rfl, hN, hT, hv⟩; refine Hid.out ?_)
  refine Lib.hid ?_
  obtain ⟨hE, hP⟩ := Ended.of (o := (⟨1, (i : Int), b, fr, to, A, n, c, bs⟩ : Opr)) H.out hN hT (Moved.of_eq hv)
  have HE := Lib.hid hE
  have HP := Lib.hid hP
  obtain ⟨c0, c1, c2, c3, f0, f1, f2, f3⟩ := zc_facts hP
  have hsz := hE.size
  clear hE hP hc
  go_wp2_with fail
  refine ret_tct rfl rfl rfl (Blk.four HP.out _ _ _ _).range Try.underlying32 rfl (by kernel_rfl) ⟨_, rfl, HE.out.store HP.out _ _ _ _⟩
set_option maxRecDepth 100000 in
set_option maxHeartbeats 4000000 in
theorem do_drop_out (g : Nat) (v : Value) (ds : List Dg) (last : Int) (a b : Int) (fr to : ByteArray) (A : Option Addr) (n c : Nat) (bs : List Nat) (B : Nat) (w : World) (h : Net B w g v ds last) (hx : outB ds.length a = true) : Calls Try.prog 17 #[P1 g, .agg #[.int .i64 1, .int .i64 a, .int .i64 b, .string fr, .string to, .slice A n c]] w fun e w' => ∃ v3, e = .returned (.tuple #[.int .i64 0, .agg zc, errV 10]) ∧ Ended B w g v w' v3 ds last := by
  have N2 := h.below (W2_below w (⟨1, a, b, fr, to, A, n, c, bs⟩ : Opr))
  have hc := drop_out g v ds last a B _ N2 hx
  rw [show errV 10 = .iface 62 (.int .i64 10) from rfl] at hc ⊢
  have H := Lib.hid h
  have N2H := Lib.hid N2
  clear h N2 hx
  unfold P1 at *
  unfold W2 zc at hc
  dsimp only at hc
  go_enter Try.func17, Try.ntmps17
  go_wp2_with (go_at_call 15; refine hc.mono ?_; rintro _ w3 ⟨rfl, hb⟩; refine Hid.out ?_)
  refine Lib.hid ?_
  obtain ⟨hE, hP⟩ := Ended.of (o := (⟨1, a, b, fr, to, A, n, c, bs⟩ : Opr)) H.out (N2H.out.below hb) (Turn.of_below hb) (Moved.refl _ _)
  have HE := Lib.hid hE
  have HP := Lib.hid hP
  obtain ⟨c0, c1, c2, c3, f0, f1, f2, f3⟩ := zc_facts hP
  have hsz := hE.size
  clear hE hP hc
  go_wp2_with fail
  refine ret_tct rfl rfl rfl (Blk.four HP.out _ _ _ _).range Try.underlying32 rfl (by kernel_rfl) ⟨_, rfl, HE.out.store HP.out _ _ _ _⟩
set_option maxRecDepth 100000 in
set_option maxHeartbeats 4000000 in
theorem do_copy_in (g : Nat) (v : Value) (ds : List Dg) (last : Int) (a b : Int) (fr to : ByteArray) (A : Option Addr) (n c : Nat) (bs : List Nat) (B : Nat) (w : World) (h : Net B w g v ds last) (i : Nat) (d : Dg) (hi : ds[i]? = some d) (hlen : ds.length < 1000) (h0 : 0 ≤ last) (h1 : last < 1000000) (hn : d.bs.length ≤ 1000000) : Calls Try.prog 17 #[P1 g, .agg #[.int .i64 2, .int .i64 (i : Int), .int .i64 b, .string fr, .string to, .slice A n c]] w fun e w' => ∃ v3 x, e = .returned (.tuple #[.int .i64 (last + 1), .agg zc, .nilIface]) ∧ x.k = (last + 1, d.fr, d.to, d.bs) ∧ Ended B w g v w' v3 (ds ++ [x]) (last + 1) := by
  have N2 := h.below (W2_below w (⟨2, (i : Int), b, fr, to, A, n, c, bs⟩ : Opr))
  have hc := copy_in g i v ds last d B _ N2 hi hlen h0 h1 hn
  have H := Lib.hid h
  have N2H := Lib.hid N2
  clear h N2 hi
  unfold P1 at *
  unfold W2 zc at hc
  dsimp only at hc
  go_enter Try.func17, Try.ntmps17
  go_wp2_with (go_at_call 23; refine hc.mono ?_; rintro _ w3 ⟨v3, x, rfl, hN, hk3, _, hT, hM⟩; refine Hid.out ?_)
  refine Lib.hid ?_
  obtain ⟨hE, hP⟩ := Ended.of (o := (⟨2, (i : Int), b, fr, to, A, n, c, bs⟩ : Opr)) H.out hN hT hM
  have HE := Lib.hid hE
  have HP := Lib.hid hP
  obtain ⟨c0, c1, c2, c3, f0, f1, f2, f3⟩ := zc_facts hP
  have hsz := hE.size
  clear hE hP hc
  go_wp2_with fail
  refine ret_tct rfl rfl rfl (Blk.four HP.out _ _ _ _).range Try.underlying32 rfl (by kernel_rfl) ⟨_, x, rfl, hk3, HE.out.store HP.out _ _ _ _⟩
set_option maxRecDepth 100000 in
set_option maxHeartbeats 4000000 in
theorem do_copy_out (g : Nat) (v : Value) (ds : List Dg) (last : Int) (a b : Int) (fr to : ByteArray) (A : Option Addr) (n c : Nat) (bs : List Nat) (B : Nat) (w : World) (h : Net B w g v ds last) (hx : outB ds.length a = true) : Calls Try.prog 17 #[P1 g, .agg #[.int .i64 2, .int .i64 a, .int .i64 b, .string fr, .string to, .slice A n c]] w fun e w' => ∃ v3, e = .returned (.tuple #[.int .i64 0, .agg zc, errV 10]) ∧ Ended B w g v w' v3 ds last := by
  have N2 := h.below (W2_below w (⟨2, a, b, fr, to, A, n, c, bs⟩ : Opr))
  have hc := copy_out g v ds last a B _ N2 hx
  rw [show errV 10 = .iface 62 (.int .i64 10) from rfl] at hc ⊢
  have H := Lib.hid h
  have N2H := Lib.hid N2
  clear h N2 hx
  unfold P1 at *
  unfold W2 zc at hc
  dsimp only at hc
  go_enter Try.func17, Try.ntmps17
  go_wp2_with (go_at_call 23; refine hc.mono ?_; rintro _ w3 ⟨rfl, hb⟩; refine Hid.out ?_)
  refine Lib.hid ?_
  obtain ⟨hE, hP⟩ := Ended.of (o := (⟨2, a, b, fr, to, A, n, c, bs⟩ : Opr)) H.out (N2H.out.below hb) (Turn.of_below hb) (Moved.refl _ _)
  have HE := Lib.hid hE
  have HP := Lib.hid hP
  obtain ⟨c0, c1, c2, c3, f0, f1, f2, f3⟩ := zc_facts hP
  have hsz := hE.size
  clear hE hP hc
  go_wp2_with fail
  refine ret_tct rfl rfl rfl (Blk.four HP.out _ _ _ _).range Try.underlying32 rfl (by kernel_rfl) ⟨_, rfl, HE.out.store HP.out _ _ _ _⟩
set_option maxRecDepth 100000 in
set_option maxHeartbeats 4000000 in
theorem do_swap_in (g : Nat) (v : Value) (ds : List Dg) (last : Int) (a b : Int) (fr to : ByteArray) (A : Option Addr) (n c : Nat) (bs : List Nat) (B : Nat) (w : World) (h : Net B w g v ds last) (i j : Nat) (d d' : Dg) (hi : ds[i]? = some d) (hj : ds[j]? = some d') : Calls Try.prog 17 #[P1 g, .agg #[.int .i64 3, .int .i64 (i : Int), .int .i64 (j : Int), .string fr, .string to, .slice A n c]] w fun e w' => ∃ v3, e = .returned (.tuple #[.int .i64 0, .agg zc, .nilIface]) ∧ Ended B w g v w' v3 ((ds.set i d').set j d) last := by
  have N2 := h.below (W2_below w (⟨3, (i : Int), (j : Int), fr, to, A, n, c, bs⟩ : Opr))
  have hc := swap_in g i j v ds last d d' B _ N2 hi hj
  have H := Lib.hid h
  have N2H := Lib.hid N2
  clear h N2 hi hj
  unfold P1 at *
  unfold W2 zc at hc
  dsimp only at hc
  go_enter Try.func17, Try.ntmps17
  go_wp2_with (go_at_call 24; refine hc.mono ?_; rintro _ w3 ⟨rfl, hN, hT⟩; refine Hid.out ?_)
  refine Lib.hid ?_
  obtain ⟨hE, hP⟩ := Ended.of (o := (⟨3, (i : Int), (j : Int), fr, to, A, n, c, bs⟩ : Opr)) H.out hN hT (Moved.refl _ _)
  have HE := Lib.hid hE
  have HP := Lib.hid hP
  obtain ⟨c0, c1, c2, c3, f0, f1, f2, f3⟩ := zc_facts hP
  have hsz := hE.size
  clear hE hP hc
  go_wp2_with fail
  refine ret_tct rfl rfl rfl (Blk.four HP.out _ _ _ _).range Try.underlying32 rfl (by kernel_rfl) ⟨_, rfl, HE.out.store HP.out _ _ _ _⟩
set_option maxRecDepth 100000 in
set_option maxHeartbeats 4000000 in
theorem do_swap_out (g : Nat) (v : Value) (ds : List Dg) (last : Int) (a b : Int) (fr to : ByteArray) (A : Option Addr) (n c : Nat) (bs : List Nat) (B : Nat) (w : World) (h : Net B w g v ds last) (hx : (outB ds.length a || outB ds.length b) = true) : Calls Try.prog 17 #[P1 g, .agg #[.int .i64 3, .int .i64 a, .int .i64 b, .string fr, .string to, .slice A n c]] w fun e w' => ∃ v3, e = .returned (.tuple #[.int .i64 0, .agg zc, errV 10]) ∧ Ended B w g v w' v3 ds last := by
  have N2 := h.below (W2_below w (⟨3, a, b, fr, to, A, n, c, bs⟩ : Opr))
  have hc := swap_out g v ds last a b B _ N2 hx
  rw [show errV 10 = .iface 62 (.int .i64 10) from rfl] at hc ⊢
  have H := Lib.hid h
  have N2H := Lib.hid N2
  clear h N2 hx
  unfold P1 at *
  unfold W2 zc at hc
  dsimp only at hc
  go_enter Try.func17, Try.ntmps17
  go_wp2_with (go_at_call 24; refine hc.mono ?_; rintro _ w3 ⟨rfl, hb⟩; refine Hid.out ?_)
  refine Lib.hid ?_
  obtain ⟨hE, hP⟩ := Ended.of (o := (⟨3, a, b, fr, to, A, n, c, bs⟩ : Opr)) H.out (N2H.out.below hb) (Turn.of_below hb) (Moved.refl _ _)
  have HE := Lib.hid hE
  have HP := Lib.hid hP
  obtain ⟨c0, c1, c2, c3, f0, f1, f2, f3⟩ := zc_facts hP
  have hsz := hE.size
  clear hE hP hc
  go_wp2_with fail
  refine ret_tct rfl rfl rfl (Blk.four HP.out _ _ _ _).range Try.underlying32 rfl (by kernel_rfl) ⟨_, rfl, HE.out.store HP.out _ _ _ _⟩
end Go.Proofs.Ythgbgkpchchicaa
