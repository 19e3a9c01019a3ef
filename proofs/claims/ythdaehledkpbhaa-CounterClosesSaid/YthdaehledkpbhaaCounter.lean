import Derived.Test.YthdaehledkpbhaaRows
import Derived.Test.YthdaehledkpbhaaBase
namespace Go.Proofs.Ythdaehledkpbhaa
open Go.ChangeShapes Go.WideShapes Go.ChangeAt Go.RowKit
open Go.ChangeMaps (open_string shut_string)
set_option linter.unusedVariables false
set_option linter.unusedSimpArgs false
theorem info42 : ∃ i, Try.prog.info? 42 = some i ∧ i.comparable = true := ⟨_, rfl, by kernel_rfl⟩
theorem eqlErr (w : World) (a b : Int) : (binOp .eql 27 (.iface 42 (.int .i64 a)) (.iface 42 (.int .i64 b))).run Try.prog w = .ok (.bool (a == b)) w := by
  obtain ⟨i, h1, h2⟩ := info42
  exact run_eql_iface_int w a b Try.underlying27 Try.underlying42 h1 h2
attribute [local go_sem] eqlErr

theorem err_any (c : Int) (w : World) : Calls Try.prog 18 #[.int .i64 c] w fun e w' => e = .returned (.tuple #[.int .u64 0, .iface 42 (.int .i64 c)]) ∧ w = w' := by
  go_enter Try.func18, Try.ntmps18
  go_wp2
  go_ret2
  exact ⟨rfl, rfl⟩
theorem peek_nil (w : World) : Calls Try.prog 16 #[.pointer none] w fun e w' => e = .returned (.tuple #[.int .u64 0, .iface 42 (.int .i64 7)]) ∧ w = w' := by
  go_enter Try.func16, Try.ntmps16
  go_wp2_with (go_at_call 18; refine (err_any _ _).mono ?_; rintro e w1 ⟨rfl, rfl⟩)
  go_ret2
  exact ⟨rfl, rfl⟩
/-- The counter behind a pointer: next, given, closed. -/
def Ctr (w : World) (b : Nat) (n g : Int) (c : Bool) : Prop := Blk w b 44 #[.int .u64 n, .int .u64 g, .bool c]
theorem Ctr.c0 {w : World} {b : Nat} {n g : Int} {c : Bool} (h : Ctr w b n g c) : w.cell? ⟨b, 0, none⟩ = some (.int .u64 n) := Blk.cell h 0
theorem Ctr.c1 {w : World} {b : Nat} {n g : Int} {c : Bool} (h : Ctr w b n g c) : w.cell? ⟨b, 1, none⟩ = some (.int .u64 g) := Blk.cell h 1
theorem Ctr.c2 {w : World} {b : Nat} {n g : Int} {c : Bool} (h : Ctr w b n g c) : w.cell? ⟨b, 2, none⟩ = some (.bool c) := Blk.cell h 2
theorem peek_closed (b : Nat) (n g : Int) (w : World) (h : Ctr w b n g true) : Calls Try.prog 16 #[.pointer (some ⟨b, 0, none⟩)] w fun e w' => e = .returned (.tuple #[.int .u64 0, .iface 42 (.int .i64 7)]) ∧ w = w' := by
  have c2 := h.c2
  go_enter Try.func16, Try.ntmps16
  go_wp2_with (go_at_call 18; refine (err_any _ _).mono ?_; rintro e w1 ⟨rfl, rfl⟩)
  go_ret2
  exact ⟨rfl, rfl⟩
theorem peek_out (b : Nat) (g : Int) (w : World) (h : Ctr w b 9223372036854775807 g false) : Calls Try.prog 16 #[.pointer (some ⟨b, 0, none⟩)] w fun e w' => e = .returned (.tuple #[.int .u64 0, .iface 42 (.int .i64 6)]) ∧ w = w' := by
  have c2 := h.c2
  have c0 := h.c0
  go_enter Try.func16, Try.ntmps16
  go_wp2_with (go_at_call 18; refine (err_any _ _).mono ?_; rintro e w1 ⟨rfl, rfl⟩)
  go_ret2
  exact ⟨rfl, rfl⟩
theorem peek_ok (b : Nat) (n g : Int) (w : World) (h : Ctr w b n g false) (hn : n < 9223372036854775807) : Calls Try.prog 16 #[.pointer (some ⟨b, 0, none⟩)] w fun e w' => e = .returned (.tuple #[.int .u64 n, .nilIface]) ∧ w = w' := by
  have c2 := h.c2
  have c0 := h.c0
  go_enter Try.func16, Try.ntmps16
  go_wp2_with (go_at_call 18; refine (err_any _ _).mono ?_; rintro e w1 ⟨rfl, rfl⟩)
  go_ret2
  exact ⟨rfl, rfl⟩
/-- What Peek answers of a state: the number and the error. -/
def pk (n : Int) (c : Bool) : Value × Value := if c then (.int .u64 0, .iface 42 (.int .i64 7)) else if n = 9223372036854775807 then (.int .u64 0, .iface 42 (.int .i64 6)) else (.int .u64 n, .nilIface)
theorem next_nil (w : World) : Calls Try.prog 10 #[.pointer none] w fun e w' => e = .returned (.tuple #[.int .u64 0, .iface 42 (.int .i64 7)]) ∧ w = w' := by
  go_enter Try.func10, Try.ntmps10
  go_wp2_with (go_at_call 16; refine (peek_nil _).mono ?_; rintro e w1 ⟨rfl, rfl⟩)
  go_ret2
  exact ⟨rfl, rfl⟩
theorem next_closed (b : Nat) (n g : Int) (w : World) (h : Ctr w b n g true) : Calls Try.prog 10 #[.pointer (some ⟨b, 0, none⟩)] w fun e w' => e = .returned (.tuple #[.int .u64 0, .iface 42 (.int .i64 7)]) ∧ w = w' := by
  have H := Lib.hid h
  clear h
  go_enter Try.func10, Try.ntmps10
  go_wp2_with (go_at_call 16; refine (peek_closed _ _ _ _ H.out).mono ?_; rintro e w1 ⟨rfl, rfl⟩)
  go_ret2
  exact ⟨rfl, rfl⟩
theorem next_out (b : Nat) (g : Int) (w : World) (h : Ctr w b 9223372036854775807 g false) : Calls Try.prog 10 #[.pointer (some ⟨b, 0, none⟩)] w fun e w' => e = .returned (.tuple #[.int .u64 0, .iface 42 (.int .i64 6)]) ∧ w = w' := by
  have H := Lib.hid h
  clear h
  go_enter Try.func10, Try.ntmps10
  go_wp2_with (go_at_call 16; refine (peek_out _ _ _ H.out).mono ?_; rintro e w1 ⟨rfl, rfl⟩)
  go_ret2
  exact ⟨rfl, rfl⟩
theorem next_ok (b : Nat) (n g : Int) (w : World) (h : Ctr w b n g false) (hn0 : 0 ≤ n) (hn : n < 9223372036854775807) (hg0 : 0 ≤ g) (hg : g < 9223372036854775808) :
    Calls Try.prog 10 #[.pointer (some ⟨b, 0, none⟩)] w fun e w' => e = .returned (.tuple #[.int .u64 n, .nilIface]) ∧ Ctr w' b (n + 1) (g + 1) false ∧ w.grownBy w' (some b) := by
  have c0 := h.c0
  have c1 := h.c1
  have f0 := Blk.frozen h 0
  have f1 := Blk.frozen h 1
  have H := Lib.hid h
  clear h
  go_enter Try.func10, Try.ntmps10
  go_wp2_with (go_at_call 16; refine (peek_ok _ _ _ _ H.out hn).mono ?_; rintro e w1 ⟨rfl, rfl⟩)
  go_ret2
  exact ⟨rfl, (Blk.set_ (Blk.set_ H.out 0 _) 1 _), only_setCell (only_setCell (only_refl w b) (.inl rfl) _) (.inl rfl) _⟩
theorem new_any (n : Int) (w : World) (h0 : 0 ≤ n) (h : n ≤ 18446744073709551615) : Calls Try.prog 9 #[.int .u64 n] w fun e w' => ∃ b, e = .returned (.pointer (some ⟨b, 0, none⟩)) ∧ Ctr w' b (if n ≤ 9223372036854775807 then n else 9223372036854775807) 0 false ∧ b = w.heap.size ∧ w' = w.alloc (.cells #[.int .u64 (if n ≤ 9223372036854775807 then n else 9223372036854775807), .int .u64 0, .bool false] 44) := by
  by_cases hn : n ≤ 9223372036854775807
  · rw [if_pos hn]
    go_enter Try.func9, Try.ntmps9
    go_wp2
    go_ret
    exact ⟨_, rfl, Blk.new _ _ _, rfl, rfl⟩
  · rw [if_neg hn]
    go_enter Try.func9, Try.ntmps9
    go_wp2
    go_ret
    exact ⟨_, rfl, Blk.new _ _ _, rfl, rfl⟩
theorem given_nil (w : World) : Calls Try.prog 12 #[.pointer none] w fun e w' => e = .returned (.int .u64 0) ∧ w = w' := by
  go_enter Try.func12, Try.ntmps12
  go_wp2
  go_ret
  exact ⟨rfl, rfl⟩
theorem given_any (b : Nat) (n g : Int) (c : Bool) (w : World) (h : Ctr w b n g c) : Calls Try.prog 12 #[.pointer (some ⟨b, 0, none⟩)] w fun e w' => e = .returned (.int .u64 g) ∧ w = w' := by
  have c1 := h.c1
  go_enter Try.func12, Try.ntmps12
  go_wp2
  go_ret
  exact ⟨rfl, rfl⟩
theorem left_nil (w : World) : Calls Try.prog 13 #[.pointer none] w fun e w' => e = .returned (.int .u64 0) ∧ w = w' := by
  go_enter Try.func13, Try.ntmps13
  go_wp2_with (go_at_call 16; refine (peek_nil _).mono ?_; rintro e w1 ⟨rfl, rfl⟩)
  go_ret
  exact ⟨rfl, rfl⟩
theorem left_any (b : Nat) (n g : Int) (c : Bool) (w : World) (h : Ctr w b n g c) (h0 : 0 ≤ n) (hn : n ≤ 9223372036854775807) : Calls Try.prog 13 #[.pointer (some ⟨b, 0, none⟩)] w fun e w' => e = .returned (.int .u64 (if c then 0 else 9223372036854775807 - n)) ∧ w = w' := by
  have H := Lib.hid h
  clear h
  cases c
  · by_cases hx : n = 9223372036854775807
    · subst hx
      go_enter Try.func13, Try.ntmps13
      go_wp2_with (go_at_call 16; refine (peek_out _ _ _ H.out).mono ?_; rintro e w1 ⟨rfl, rfl⟩)
      go_ret
      exact ⟨rfl, rfl⟩
    · have hx' : n < 9223372036854775807 := by omega
      go_enter Try.func13, Try.ntmps13
      go_wp2_with (go_at_call 16; refine (peek_ok _ _ _ _ H.out hx').mono ?_; rintro e w1 ⟨rfl, rfl⟩)
      go_ret
      exact ⟨rfl, rfl⟩
  · go_enter Try.func13, Try.ntmps13
    go_wp2_with (go_at_call 16; refine (peek_closed _ _ _ _ H.out).mono ?_; rintro e w1 ⟨rfl, rfl⟩)
    go_ret
    exact ⟨rfl, rfl⟩
theorem close_nil (w : World) : Calls Try.prog 17 #[.pointer none] w fun e w' => e = .returned (.tuple #[]) ∧ w = w' := by
  go_enter Try.func17, Try.ntmps17
  go_wp2
  go_returns
  exact ⟨rfl, rfl⟩
theorem close_any (b : Nat) (n g : Int) (c : Bool) (w : World) (h : Ctr w b n g c) : Calls Try.prog 17 #[.pointer (some ⟨b, 0, none⟩)] w fun e w' => e = .returned (.tuple #[]) ∧ Ctr w' b n g true ∧ w.grownBy w' (some b) := by
  have c2 := h.c2
  have f2 := Blk.frozen h 2
  have H := Lib.hid h
  clear h
  go_enter Try.func17, Try.ntmps17
  go_wp2
  go_returns
  exact ⟨rfl, (Blk.set_ H.out 2 _), only_setCell (only_refl w b) (.inl rfl) _⟩
theorem told_ok (w : World) : Calls Try.prog 11 #[.nilIface, .int .i64 0] w fun e w' => e = .returned (.bool true) ∧ w = w' := by
  go_enter Try.func11, Try.ntmps11
  go_wp2
  go_ret
  exact ⟨rfl, rfl⟩
theorem told_err (c : Int) (w : World) (h : c ≠ 0) : Calls Try.prog 11 #[.iface 42 (.int .i64 c), .int .i64 c] w fun e w' => e = .returned (.bool true) ∧ w = w' := by
  have h1 : (c == 0) = false := by simpa using h
  have h2 : (c != 0) = true := by simpa using h
  go_enter Try.func11, Try.ntmps11
  go_wp2
  go_ret
  exact ⟨ret_true (by simp), rfl⟩

set_option maxHeartbeats 2000000 in
theorem awake_any (w : World) :
    Calls Try.prog 8 #[] w fun e w' => e = .returned (.bool true) ∧ Below w.heap.size w w' := by
  go_enter Try.func8, Try.ntmps8
  go_wp2
  go_returns
  exact ⟨rfl, by go_grown⟩
end Go.Proofs.Ythdaehledkpbhaa
