import Derived.Test.YtmopabmpbeoppaaRows
import Derived.Test.YtmopabmpbeoppaaBase
namespace Go.Proofs.Ytmopabmpbeoppaa
open Go.ChangeShapes Go.WideShapes Go.ChangeAt Go.RowKit
set_option linter.unusedVariables false
set_option linter.unusedSimpArgs false
/-- A keeper that holds nothing; one that holds a stamp and its tick. -/
def No (w : World) (b : Nat) : Prop := Blk w b 41 #[.pointer none]
def Has (w : World) (b k : Nat) (s t : Int) : Prop := Blk w b 41 #[.pointer (some ⟨k, 0, none⟩)] ∧ Blk w k 58 #[.int .u16 s, .int .u64 t]
theorem No.below {w w' : World} {b : Nat} (h : No w b) (hb : Below w.heap.size w w') : No w' b := Blk.below h hb (Blk.lt h)
theorem Has.below {w w' : World} {b k : Nat} {s t : Int} (h : Has w b k s t) (hb : Below w.heap.size w w') : Has w' b k s t := ⟨h.1.below hb h.1.lt, h.2.below hb h.2.lt⟩
theorem Has.ne {w : World} {b k : Nat} {s t : Int} (h : Has w b k s t) : k ≠ b := Blk.ne_ h.2 h.1 (by decide)
/-- The ticks of holding; the echo. -/
def hold (t now : Int) : Int := if now < t then 0 else now - t
def ech (s h : Int) : Int := if h ≤ 1000 then (s + h) % 65536 else 65535
theorem hold_0 (t now : Int) (h0 : 0 ≤ t) (h1 : 0 ≤ now) : 0 ≤ hold t now := by unfold hold; split <;> omega
theorem hold_le (t now : Int) (h0 : 0 ≤ t) (h1 : 0 ≤ now) : hold t now ≤ now := by unfold hold; split <;> omega

theorem add_any (a n : Int) (w : World) : Calls Try.prog 23 #[.int .u16 a, .int .i64 n] w fun e w' => e = .returned (.int .u16 ((a + n) % 65536)) ∧ w = w' := by
  go_enter Try.func23, Try.ntmps23
  go_wp2
  go_ret
  exact ⟨ret_int (by rw [IntKind.wrap_u16, IntKind.wrap_u16]; omega), rfl⟩
theorem echo_any (a n : Int) (w : World) (hn : 0 ≤ n) (hn2 : n ≤ 18446744073709551615) : Calls Try.prog 21 #[.int .u16 a, .int .u64 n] w fun e w' => e = .returned (.int .u16 (ech a n)) ∧ w = w' := by
  unfold ech
  by_cases h : n ≤ 1000
  · rw [if_pos h]
    go_enter Try.func21, Try.ntmps21
    go_wp2_with (go_at_call 23; refine (add_any _ _ _).mono ?_; rintro e w1 ⟨rfl, rfl⟩)
    go_ret
    exact ⟨rfl, rfl⟩
  · rw [if_neg h]
    go_enter Try.func21, Try.ntmps21
    go_wp2_with (go_at_call 23; refine (add_any _ _ _).mono ?_; rintro e w1 ⟨rfl, rfl⟩)
    go_ret
    exact ⟨rfl, rfl⟩
theorem recho_any (a n : Int) (w : World) (ha : 0 ≤ a) (ha2 : a ≤ 65535) (hn : 0 ≤ n) (hn2 : n ≤ 18446744073709551615) : Calls Try.prog 22 #[.int .i64 a, .int .u64 n] w fun e w' => e = .returned (.int .i64 (ech a n)) ∧ w = w' := by
  unfold ech
  by_cases h : n ≤ 1000
  · rw [if_pos h]
    go_enter Try.func22, Try.ntmps22
    go_wp2
    go_ret
    exact ⟨rfl, rfl⟩
  · rw [if_neg h]
    go_enter Try.func22, Try.ntmps22
    go_wp2
    go_ret
    exact ⟨rfl, rfl⟩
theorem heldk_any (s t now : Int) (w : World) (h0 : 0 ≤ t) (h1 : 0 ≤ now) (h2 : now ≤ 18446744073709551615) : Calls Try.prog 20 #[.agg #[.int .u16 s, .int .u64 t], .int .u64 now] w fun e w' => e = .returned (.int .u64 (hold t now)) ∧ Below w.heap.size w w' := by
  unfold hold
  by_cases h : now < t
  · rw [if_pos h]
    go_enter Try.func20, Try.ntmps20
    go_wp2
    go_ret
    exact ⟨rfl, by go_grown⟩
  · rw [if_neg h]
    go_enter Try.func20, Try.ntmps20
    go_wp2
    go_ret
    exact ⟨rfl, by go_grown⟩
theorem new_any (w : World) : Calls Try.prog 9 #[] w fun e w' => ∃ b, e = .returned (.pointer (some ⟨b, 0, none⟩)) ∧ No w' b ∧ w.heap.size ≤ b ∧ Below w.heap.size w w' ∧ b < w'.heap.size := by
  go_enter Try.func9, Try.ntmps9
  go_wp2
  go_ret
  exact ⟨_, rfl, Blk.new _ _ _, Nat.le_refl _, by go_grown, Blk.lt (Blk.new w 41 _)⟩
theorem held_nil (now : Int) (w : World) : Calls Try.prog 10 #[.pointer none, .int .u64 now] w fun e w' => e = .returned (.tuple #[.int .u64 0, .bool false]) ∧ w = w' := by
  go_enter Try.func10, Try.ntmps10
  go_wp2
  go_ret2
  exact ⟨rfl, rfl⟩
theorem held_no (b : Nat) (now : Int) (w : World) (h : No w b) : Calls Try.prog 10 #[.pointer (some ⟨b, 0, none⟩), .int .u64 now] w fun e w' => e = .returned (.tuple #[.int .u64 0, .bool false]) ∧ w = w' := by
  have c0 := Blk.cell h 0
  simp at c0
  go_enter Try.func10, Try.ntmps10
  go_wp2
  go_ret2
  exact ⟨rfl, rfl⟩
theorem held_has (b k : Nat) (s t now : Int) (w : World) (h : Has w b k s t) (h0 : 0 ≤ t) (h1 : 0 ≤ now) (h2 : now ≤ 18446744073709551615) : Calls Try.prog 10 #[.pointer (some ⟨b, 0, none⟩), .int .u64 now] w fun e w' => e = .returned (.tuple #[.int .u64 (hold t now), .bool true]) ∧ Below w.heap.size w w' := by
  have c0 := Blk.cell h.1 0
  have d0 := Blk.cell h.2 0
  have d1 := Blk.cell h.2 1
  simp at c0 d0 d1
  go_enter Try.func10, Try.ntmps10
  go_wp2_with (go_at_call 20; refine (heldk_any _ _ _ _ h0 h1 h2).mono ?_; rintro e w1 ⟨rfl, hb⟩)
  go_ret2
  exact ⟨rfl, hb⟩
theorem take_nil (s t : Int) (w : World) : Calls Try.prog 12 #[.pointer none, .int .u16 s, .int .u64 t] w fun e w' => e = .returned (.tuple #[]) ∧ w = w' := by
  go_enter Try.func12, Try.ntmps12
  go_wp2
  go_returns
  exact ⟨rfl, rfl⟩
theorem take_any (b : Nat) (v : Value) (s t : Int) (w : World) (h : Blk w b 41 #[v]) : Calls Try.prog 12 #[.pointer (some ⟨b, 0, none⟩), .int .u16 s, .int .u64 t] w fun e w' => e = .returned (.tuple #[]) ∧ (∃ k, Has w' b k s t) ∧ w.grownBy w' (some b) := by
  have c0 := Blk.cell h 0
  have f0 := Blk.frozen h 0
  have hlt := h.lt
  simp at c0
  have H := Lib.hid h
  clear h
  go_enter Try.func12, Try.ntmps12
  go_wp2
  go_returns
  refine ⟨rfl, ⟨w.heap.size, ?_, ?_⟩, only_alloc (only_setCell (only_refl w b) (.inl rfl) _) _⟩
  · exact Blk.alloc (Blk.set_ H.out 0 _) _
  · have := Blk.new (w.setCell ⟨b, 0, none⟩ (.pointer (some ⟨w.heap.size, 0, none⟩))) 58 #[.int .u16 s, .int .u64 t]
    rw [World.size_setCell] at this
    exact this
theorem reply_nil (now : Int) (w : World) : Calls Try.prog 13 #[.pointer none, .int .u64 now] w fun e w' => e = .returned (.int .u16 65535) ∧ w = w' := by
  go_enter Try.func13, Try.ntmps13
  go_wp2_with (go_at_call 10; refine (held_nil _ _).mono ?_; rintro e w1 ⟨rfl, rfl⟩)
  go_ret
  exact ⟨rfl, rfl⟩
theorem reply_no (b : Nat) (now : Int) (w : World) (h : No w b) : Calls Try.prog 13 #[.pointer (some ⟨b, 0, none⟩), .int .u64 now] w fun e w' => e = .returned (.int .u16 65535) ∧ w = w' := by
  have H := Lib.hid h
  clear h
  go_enter Try.func13, Try.ntmps13
  go_wp2_with (go_at_call 10; refine (held_no _ _ _ H.out).mono ?_; rintro e w1 ⟨rfl, rfl⟩)
  go_ret
  exact ⟨rfl, rfl⟩
theorem reply_has (b k : Nat) (s t now : Int) (w : World) (h : Has w b k s t) (h0 : 0 ≤ t) (h1 : 0 ≤ now) (h2 : now ≤ 18446744073709551615) : Calls Try.prog 13 #[.pointer (some ⟨b, 0, none⟩), .int .u64 now] w fun e w' => e = .returned (.int .u16 (ech s (hold t now))) ∧ No w' b ∧ w.grownBy w' (some b) := by
  have H := Lib.hid h
  clear h
  have hh0 := hold_0 t now h0 h1
  have hh1 := hold_le t now h0 h1
  go_enter Try.func13, Try.ntmps13
  go_wp2_with fail
  refine (held_has _ _ _ _ _ _ H.out h0 h1 h2).mono ?_
  rintro e w1 ⟨rfl, hb⟩
  have h' := H.out.below hb
  have c0 := Blk.cell h'.1 0
  have d0 := Blk.cell h'.2 0
  have f0 := Blk.frozen h'.1 0
  simp at c0 d0
  have H' := Lib.hid h'
  clear h'
  go_wp2_with (go_at_call 21; refine (echo_any _ _ _ hh0 (by omega)).mono ?_; rintro e w2 ⟨rfl, rfl⟩)
  go_ret
  exact ⟨rfl, Blk.set_ H'.out.1 0 _, only_setCell (only_of_below hb _) (.inl rfl) _⟩
theorem rheld_any (s t now : Int) (c : Bool) (w : World) (h0 : 0 ≤ t) (h1 : 0 ≤ now) (h2 : now ≤ 18446744073709551615) : Calls Try.prog 11 #[.agg #[.bool c, .int .i64 s, .int .u64 t], .int .u64 now] w fun e w' => e = .returned (.int .u64 (hold t now)) ∧ Below w.heap.size w w' := by
  unfold hold
  by_cases h : now < t
  · rw [if_pos h]
    go_enter Try.func11, Try.ntmps11
    go_wp2
    go_ret
    exact ⟨rfl, by go_grown⟩
  · rw [if_neg h]
    by_cases h3 : t < now
    · go_enter Try.func11, Try.ntmps11
      go_wp2
      go_ret
      exact ⟨rfl, by go_grown⟩
    · go_enter Try.func11, Try.ntmps11
      go_wp2
      go_ret
      exact ⟨ret_int (by omega), by go_grown⟩
theorem rreply_no (s t now : Int) (w : World) : Calls Try.prog 14 #[.agg #[.bool false, .int .i64 s, .int .u64 t], .int .u64 now] w fun e w' => e = .returned (.int .i64 65535) ∧ Below w.heap.size w w' := by
  go_enter Try.func14, Try.ntmps14
  go_wp2
  go_ret
  exact ⟨rfl, by go_grown⟩
theorem rreply_has (s t now : Int) (w : World) (hs : 0 ≤ s) (hs2 : s ≤ 65535) (h0 : 0 ≤ t) (h1 : 0 ≤ now) (h2 : now ≤ 18446744073709551615) : Calls Try.prog 14 #[.agg #[.bool true, .int .i64 s, .int .u64 t], .int .u64 now] w fun e w' => e = .returned (.int .i64 (ech s (hold t now))) ∧ Below w.heap.size w w' := by
  have hh0 := hold_0 t now h0 h1
  have hh1 := hold_le t now h0 h1
  have hB := Blk.new w 28 #[.bool true, .int .i64 s, .int .u64 t]
  have hbel : Below w.heap.size w (w.alloc (.cells #[.bool true, .int .i64 s, .int .u64 t] 28)) := (Below.refl _ _).alloc (Nat.le_refl _) _
  have hlt := hB.lt
  go_enter Try.func14, Try.ntmps14
  go_wp2_with fail
  generalize w.alloc (.cells #[.bool true, .int .i64 s, .int .u64 t] 28) = W at *
  obtain ⟨g, hg⟩ : ∃ g, w.heap.size = g := ⟨_, rfl⟩
  rw [hg] at hB hbel hlt ⊢
  have m0 := Blk.cell hB 0
  have m1 := Blk.cell hB 1
  have m2 := Blk.cell hB 2
  simp at m0 m1 m2
  have HG := Lib.hid hg
  have HB := Lib.hid hB
  have HL := Lib.hid hbel
  clear hg hB hbel
  go_region_held3 (fun w' => w'.cell? ⟨g, 0, none⟩ = some (.bool true) ∧ w'.cell? ⟨g, 1, none⟩ = some (.int .i64 s) ∧ w'.cell? ⟨g, 2, none⟩ = some (.int .u64 t)) (first | exact ⟨m0, m1, m2⟩ | (refine ⟨?_, ?_, ?_⟩ <;> first | assumption | exact (Below.cell (by assumption) hlt).trans (by first | exact m0 | exact m1 | exact m2))) (first | (go_at_call 11; ((with_reducible refine (rheld_any _ _ _ _ _ h0 h1 h2).mono ?_); rintro e w5 ⟨rfl, hb5⟩)) | (go_at_call 22; ((with_reducible refine (recho_any _ _ _ hs hs2 hh0 (by omega)).mono ?_); rintro e w6 ⟨rfl, rfl⟩)))
  go_wp2_with fail
  go_ret
  exact ⟨rfl, HG.out.symm ▸ (by first | exact HL.out.trans (hb5.mono (by simp; omega)) | exact HL.out.drew.trans (hb5.mono (by simp; omega)))⟩

/-! ### the estimate -/
def Rt (w : World) (b : Nat) (l n e : Int) : Prop := Blk w b 46 #[.int .u16 l, .int .i64 n, .int .u32 e]
theorem Rt.c0 {w : World} {b : Nat} {l n e : Int} (h : Rt w b l n e) : w.cell? ⟨b, 0, none⟩ = some (.int .u16 l) := Blk.cell h 0
theorem Rt.c1 {w : World} {b : Nat} {l n e : Int} (h : Rt w b l n e) : w.cell? ⟨b, 1, none⟩ = some (.int .i64 n) := Blk.cell h 1
theorem Rt.c2 {w : World} {b : Nat} {l n e : Int} (h : Rt w b l n e) : w.cell? ⟨b, 2, none⟩ = some (.int .u32 e) := Blk.cell h 2
theorem Rt.below {w w' : World} {b : Nat} {l n e : Int} (h : Rt w b l n e) (hb : Below w.heap.size w w') : Rt w' b l n e := Blk.below h hb (Blk.lt h)
theorem Rt.eq {w : World} {b : Nat} {l n e n' e' : Int} (h : Rt w b l n e) (h1 : n = n') (h2 : e = e') : Rt w b l n' e' := by subst h1 h2; exact h
/-- The next estimate. -/
def nxt (n e s : Int) : Int := if n = 0 then 8 * s else e - (e + 4) / 8 + s
theorem radd_nil (s : Int) (w : World) : Calls Try.prog 15 #[.pointer none, .int .u16 s] w fun e w' => e = .returned (.tuple #[]) ∧ w = w' := by
  go_enter Try.func15, Try.ntmps15
  go_wp2
  go_returns
  exact ⟨rfl, rfl⟩
theorem radd_first (b : Nat) (l x s : Int) (w : World) (h : Rt w b l 0 x) (hs : 0 ≤ s) (hs2 : s ≤ 65535) : Calls Try.prog 15 #[.pointer (some ⟨b, 0, none⟩), .int .u16 s] w fun e w' => e = .returned (.tuple #[]) ∧ Rt w' b s 1 (8 * s) ∧ w.grownBy w' (some b) := by
  have c0 := h.c0
  have c1 := h.c1
  have c2 := h.c2
  have f0 := Blk.frozen h 0
  have f1 := Blk.frozen h 1
  have f2 := Blk.frozen h 2
  have H := Lib.hid h
  clear h
  go_enter Try.func15, Try.ntmps15
  go_wp2
  go_returns
  refine ⟨rfl, ?_, ?_⟩
  · have := Blk.set_ (Blk.set_ (Blk.set_ H.out 2 (.int .u32 (s * 8))) 0 (.int .u16 s)) 1 (.int .i64 1)
    rw [show s * 8 = 8 * s by omega] at this
    first | exact this | (rw [show s * 8 = 8 * s by omega]; exact this)
  · exact only_setCell (only_setCell (only_setCell (only_refl w b) (.inl rfl) _) (.inl rfl) _) (.inl rfl) _
theorem radd_next (b : Nat) (l n x s : Int) (w : World) (h : Rt w b l n x) (hn : 1 ≤ n) (hn2 : n ≤ 1000) (hx : 0 ≤ x) (hx2 : x ≤ 524287) (hs : 0 ≤ s) (hs2 : s ≤ 65535) : Calls Try.prog 15 #[.pointer (some ⟨b, 0, none⟩), .int .u16 s] w fun e w' => e = .returned (.tuple #[]) ∧ Rt w' b s (n + 1) (x - (x + 4) / 8 + s) ∧ w.grownBy w' (some b) := by
  have c0 := h.c0
  have c1 := h.c1
  have c2 := h.c2
  have f0 := Blk.frozen h 0
  have f1 := Blk.frozen h 1
  have f2 := Blk.frozen h 2
  have hz : (n == 0) = false := by simp; omega
  have H := Lib.hid h
  clear h
  go_enter Try.func15, Try.ntmps15
  go_wp2_with fail
  refine region_tail 15 (by kernel_rfl) (by kernel_rfl) ?_
  simp only [List.take_succ_cons, List.take_zero, List.drop_succ_cons, List.drop_zero]
  iterate 15 still_step
  refine wpStill_nil ?_
  go_wp2_with fail
  go_returns
  have e : (x + (s - (x + 4) / 8)) % 4294967296 = x - (x + 4) / 8 + s := by omega
  rw [e]
  exact ⟨rfl, Blk.drew (Blk.set_ (Blk.set_ (Blk.set_ H.out 2 _) 0 _) 1 _), only_drew (only_setCell (only_setCell (only_setCell (only_refl w b) (.inl rfl) _) (.inl rfl) _) (.inl rfl) _)⟩
theorem rlast_nil (w : World) : Calls Try.prog 16 #[.pointer none] w fun e w' => e = .returned (.tuple #[.int .u16 0, .bool false]) ∧ w = w' := by
  go_enter Try.func16, Try.ntmps16
  go_wp2
  go_ret2
  exact ⟨rfl, rfl⟩
theorem rlast_any (b : Nat) (l n x : Int) (w : World) (h : Rt w b l n x) : Calls Try.prog 16 #[.pointer (some ⟨b, 0, none⟩)] w fun e w' => e = .returned (.tuple #[.int .u16 l, .bool (decide (0 < n))]) ∧ ∃ k, w' = w.drewN k := by
  have c0 := h.c0
  have c1 := h.c1
  go_enter Try.func16, Try.ntmps16
  go_wp2
  go_quiet (fail)
  go_wp2
  go_ret2
  exact ⟨rfl, _, rfl⟩
theorem rcount_nil (w : World) : Calls Try.prog 17 #[.pointer none] w fun e w' => e = .returned (.int .i64 0) ∧ w = w' := by
  go_enter Try.func17, Try.ntmps17
  go_wp2
  go_ret
  exact ⟨rfl, rfl⟩
theorem rcount_any (b : Nat) (l n x : Int) (w : World) (h : Rt w b l n x) : Calls Try.prog 17 #[.pointer (some ⟨b, 0, none⟩)] w fun e w' => e = .returned (.int .i64 n) ∧ w = w' := by
  have c1 := h.c1
  go_enter Try.func17, Try.ntmps17
  go_wp2
  go_ret
  exact ⟨rfl, rfl⟩
theorem rest_nil (w : World) : Calls Try.prog 18 #[.pointer none] w fun e w' => e = .returned (.int .u32 0) ∧ w = w' := by
  go_enter Try.func18, Try.ntmps18
  go_wp2
  go_ret
  exact ⟨rfl, rfl⟩
theorem rest_any (b : Nat) (l n x : Int) (w : World) (h : Rt w b l n x) : Calls Try.prog 18 #[.pointer (some ⟨b, 0, none⟩)] w fun e w' => e = .returned (.int .u32 x) ∧ w = w' := by
  have c2 := h.c2
  go_enter Try.func18, Try.ntmps18
  go_wp2
  go_ret
  exact ⟨rfl, rfl⟩
/-- The estimate of samples. -/
def est : List Int → Int → Int → Int
  | [], _, e => e
  | s :: l, n, e => est l (n + 1) (nxt n e s)
theorem est_snoc (l : List Int) : ∀ n e s, est (l ++ [s]) n e = nxt (n + l.length) (est l n e) s := by
  induction l with
  | nil => intro n e s; simp [est]
  | cons y l ih => intro n e s; simp only [List.cons_append, est]; rw [ih]; congr 1; simp; omega
theorem est_bound (l : List Int) (h : ∀ s ∈ l, 0 ≤ s ∧ s ≤ 65535) : ∀ n e, 0 ≤ n → 0 ≤ e → e ≤ 524287 → 0 ≤ est l n e ∧ est l n e ≤ 524287 := by
  induction l with
  | nil => intro n e _ h1 h2; exact ⟨h1, h2⟩
  | cons s l ih =>
    intro n e hn h1 h2
    have hs := h s (by simp)
    simp only [est]
    refine ih (fun x hx => h x (by simp [hx])) _ _ (by omega) ?_ ?_
    · unfold nxt; split <;> omega
    · unfold nxt; split <;> omega
theorem est_take {l : List Int} {k : Nat} (hk : k < l.length) : est (l.take (k + 1)) 0 0 = nxt k (est (l.take k) 0 0) (l.getD k 0) := by
  rw [List.take_add_one, List.getElem?_eq_getElem hk]
  simp only [Option.toList_some]
  rw [est_snoc]
  congr 1
  · simp; omega
  · simp [List.getD, hk]
set_option maxHeartbeats 1000000 in
theorem resti_any (A : Option Addr) (len cap : Nat) (zs : List Int) (w : World) (hz : Ints .u16 w A len cap zs) (hl : len ≤ 300) :
    Calls Try.prog 19 #[.slice A len cap] w fun e w' => e = .returned (.int .i64 (est zs 0 0)) ∧ w = w' := by
  have HZ := Lib.hid hz
  have hzb : ∀ s ∈ zs, 0 ≤ s ∧ s ≤ 65535 := fun s hs => bounds_u16 (hz.2.2.1 s hs)
  have HZB := Lib.hid hzb
  clear hz hzb
  go_enter Try.func19, Try.ntmps19
  go_wp2_with fail
  go_loop [3, 4] (fun x i => ∃ k : Nat, ∃ y : Int, k ≤ len ∧ i = .int .i64 k ∧ y = est (zs.take k) 0 0 ∧ 0 ≤ y ∧ y ≤ 524287 ∧ x = .int .i64 y) (fun _ i => len - (intOf i).toNat)
  case atStart => exact ⟨0, 0, by omega, rfl, rfl, by omega, by omega, rfl⟩
  case round =>
    obtain ⟨k, y, hk, rfl, hy, hy0, hy1, rfl⟩ := hrel
    have HY := Lib.hid hy
    clear hy
    by_cases hlt : k < len
    · obtain ⟨ba, off, rfl, hlba, hcell⟩ := HZ.out.2.2.2 (by omega)
      have hcj := hcell k hlt
      have hl' := HZ.out.1
      have hsb := HZB.out (zs.getD k 0) (by rw [List.getD, List.getElem?_eq_getElem (by omega)]; simp)
      have hstep := est_take (l := zs) (k := k) (by omega)
      have hbd := est_bound (zs.take (k + 1)) (fun s hs => HZB.out s (List.mem_of_mem_take hs)) 0 0 (by omega) (by omega) (by omega)
      rw [hstep, ← HY.out] at hbd
      rw [← HY.out] at hstep
      clear hcell hl'
      generalize zs.getD k 0 = s at *
      have HS := Lib.hid hstep
      have HBD := Lib.hid hbd
      clear hstep hbd
      by_cases h0 : k = 0
      · have z : ((k : Int) == 0) = true := by simp [h0]
        have H0 := Lib.hid h0
        clear h0
        go_wp2_with fail
        go_round
        case rel => exact ⟨k + 1, 8 * s, by omega, by go_num, by rw [HS.out, nxt, if_pos (by have := H0.out; omega)], by omega, by omega, by first | rfl | (congr 1; omega)⟩
        case measure => simp [intOf]; omega
      · have z : ((k : Int) == 0) = false := by simp; omega
        have e : nxt k y s = y - (y + 4) / 8 + s := by unfold nxt; rw [if_neg (by omega)]
        have hb2 := HBD.out
        rw [e] at hb2
        have H0 := Lib.hid h0
        have HE := Lib.hid e
        clear h0 e
        go_wp2_with fail
        go_round
        case rel => exact ⟨k + 1, y - (y + 4) / 8 + s, by omega, by go_num, by rw [HS.out, HE.out], by omega, by omega, by first | rfl | (congr 1; omega)⟩
        case measure => simp [intOf]; omega
    · obtain rfl : k = len := by omega
      have hl' := HZ.out.1
      have hyl : y = est zs 0 0 := by rw [HY.out, List.take_of_length_le (by omega)]
      have HYL := Lib.hid hyl
      clear hyl hl'
      go_wp2_with fail
      go_ret
      exact ⟨ret_int HYL.out, rfl⟩
set_option maxRecDepth 100000 in
set_option maxHeartbeats 4000000 in
theorem awake_any (w : World) : Calls Try.prog 8 #[] w fun e w' => e = .returned (.bool true) ∧ Below w.heap.size w w' := by
  go_enter Try.func8, Try.ntmps8
  go_wp2_with fail
  refine (new_any _).mono ?_
  rintro e w1 ⟨b, rfl, hn1, hlb, hb1, hlt1⟩
  go_wp2_with (go_at_call 13; refine (reply_no _ _ _ hn1).mono ?_; rintro e w2 ⟨rfl, rfl⟩)
  refine (take_any _ _ _ _ _ hn1).mono ?_
  rintro e w2 ⟨rfl, ⟨k, hh2⟩, hg2⟩
  have hb2 := below_only hb1 hg2 hb1.size hlb
  have HH2 := Lib.hid hh2
  have HB2 := Lib.hid hb2
  clear hn1 hb1 hh2 hb2
  go_wp2_with fail
  refine (held_has _ _ _ _ _ _ HH2.out (by omega) (by omega) (by omega)).mono ?_
  rintro e w3 ⟨rfl, hb3⟩
  have hh3 := HH2.out.below hb3
  have hbb3 := HB2.out.trans (hb3.mono HB2.out.size)
  have HH3 := Lib.hid hh3
  have HB3 := Lib.hid hbb3
  clear hh3 hb3 hbb3
  go_wp2_with fail
  refine (reply_has _ _ _ _ _ _ HH3.out (by omega) (by omega) (by omega)).mono ?_
  rintro e w4 ⟨rfl, hn4, hg4⟩
  have hb4 := below_only HB3.out hg4 HB3.out.size hlb
  have HN4 := Lib.hid hn4
  have HB4 := Lib.hid hb4
  have hs4 := hb4.size
  clear hn4 hb4
  go_wp2_with (go_at_call 13; refine (reply_no _ _ _ HN4.out).mono ?_; rintro e w2 ⟨rfl, rfl⟩)
  have hr0 : Rt (w4.alloc (.cells #[.int .u16 0, .int .i64 0, .int .u32 0] 46)) w4.heap.size 0 0 0 := Blk.new _ _ _
  have hbr0 := HB4.out.alloc hs4 (.cells #[.int .u16 0, .int .i64 0, .int .u32 0] 46)
  refine (radd_first _ _ _ _ _ hr0 (by omega) (by omega)).mono ?_
  rintro e w5 ⟨rfl, hr5, hg5⟩
  have hb5 := below_only hbr0 hg5 (by simp; omega) hs4
  have HR5 := Lib.hid hr5
  have HB5 := Lib.hid hb5
  clear hr0 hbr0 hr5 hb5
  go_wp2_with fail
  refine (radd_next _ _ _ _ _ _ HR5.out (by omega) (by omega) (by omega) (by omega) (by omega) (by omega)).mono ?_
  rintro e w6 ⟨rfl, hr6, hg6⟩
  have hb6 := below_only HB5.out hg6 HB5.out.size hs4
  have HR6 := Lib.hid hr6
  have HB6 := Lib.hid hb6
  clear hr6 hb6
  go_wp2_with fail
  refine (rlast_any _ _ _ _ _ HR6.out).mono ?_
  rintro e w7 ⟨rfl, kk, rfl⟩
  go_wp2_with (first | (go_at_call 17; refine (rcount_any _ _ _ _ _ (Blk.drewN HR6.out _)).mono ?_; rintro e w8 ⟨rfl, rfl⟩) | (go_at_call 18; refine (rest_any _ _ _ _ _ (Blk.drewN HR6.out _)).mono ?_; rintro e w8 ⟨rfl, rfl⟩))
  go_ret
  exact ⟨ret_true (by decide), below_drewN HB6.out _⟩
end Go.Proofs.Ytmopabmpbeoppaa
