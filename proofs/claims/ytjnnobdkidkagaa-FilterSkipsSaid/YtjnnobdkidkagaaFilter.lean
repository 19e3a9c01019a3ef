import Derived.Test.YtjnnobdkidkagaaRows
import Derived.Test.YtjnnobdkidkagaaBase
namespace Go.Proofs.Ytjnnobdkidkagaa
open Go.ChangeShapes Go.WideShapes Go.ChangeAt Go.RowKit
set_option linter.unusedVariables false
set_option linter.unusedSimpArgs false
theorem info42 : ∃ i, Try.prog.info? 42 = some i ∧ i.comparable = true := ⟨_, rfl, by kernel_rfl⟩
theorem eqlErr (w : World) (a b : Int) : (binOp .eql 32 (.iface 42 (.int .i64 a)) (.iface 42 (.int .i64 b))).run Try.prog w = .ok (.bool (a == b)) w := by
  obtain ⟨i, h1, h2⟩ := info42
  exact run_eql_iface_int w a b Try.underlying32 Try.underlying42 h1 h2
attribute [local go_sem] eqlErr

/-- The filter behind a pointer: accepted, refused, the least number that is fresh. -/
def Flt (w : World) (b : Nat) (a r l : Int) : Prop := Blk w b 46 #[.int .i64 a, .int .i64 r, .int .u64 l]
section
variable {w w' : World} {b : Nat} {a r l : Int}
theorem Flt.c0 (h : Flt w b a r l) : w.cell? ⟨b, 0, none⟩ = some (.int .i64 a) := Blk.cell h 0
theorem Flt.c1 (h : Flt w b a r l) : w.cell? ⟨b, 1, none⟩ = some (.int .i64 r) := Blk.cell h 1
theorem Flt.c2 (h : Flt w b a r l) : w.cell? ⟨b, 2, none⟩ = some (.int .u64 l) := Blk.cell h 2
theorem Flt.eq {a' r' l' : Int} (h : Flt w b a r l) (h1 : a = a') (h2 : r = r') (h3 : l = l') : Flt w b a' r' l' := by subst h1 h2 h3; exact h
theorem Flt.below (h : Flt w b a r l) (hb : Below w.heap.size w w') : Flt w' b a r l := Blk.below h hb (Blk.lt h)
theorem Flt.drewN (h : Flt w b a r l) (k : Nat) : Flt (w.drewN k) b a r l := h
end

theorem new_any (w : World) : Calls Try.prog 9 #[] w fun e w' => ∃ b, e = .returned (.pointer (some ⟨b, 0, none⟩)) ∧ Flt w' b 0 0 0 ∧ w.heap.size ≤ b ∧ Below w.heap.size w w' ∧ b < w'.heap.size := by
  go_enter Try.func9, Try.ntmps9
  go_wp2
  go_ret
  exact ⟨_, rfl, Blk.new _ _ _, Nat.le_refl _, by go_grown, Blk.lt (Blk.new w 46 _)⟩
theorem after_any (n : Int) (w : World) (h0 : 0 ≤ n) (h : n ≤ 18446744073709551615) : Calls Try.prog 17 #[.int .u64 n] w fun e w' => ∃ b, e = .returned (.pointer (some ⟨b, 0, none⟩)) ∧ Flt w' b 0 0 ((if n ≤ 9223372036854775807 then n else 9223372036854775807) + 1) ∧ w.heap.size ≤ b ∧ Below w.heap.size w w' ∧ b < w'.heap.size := by
  by_cases hn : n ≤ 9223372036854775807
  · rw [if_pos hn]
    go_enter Try.func17, Try.ntmps17
    go_wp2
    go_ret
    exact ⟨_, rfl, Blk.new _ _ _, Nat.le_refl _, by go_grown, Blk.lt (Blk.new w 46 _)⟩
  · rw [if_neg hn]
    go_enter Try.func17, Try.ntmps17
    go_wp2
    go_ret
    exact ⟨_, rfl, Blk.new _ _ _, Nat.le_refl _, by go_grown, Blk.lt (Blk.new w 46 _)⟩
theorem fresh_nil (s : Int) (w : World) : Calls Try.prog 11 #[.pointer none, .int .u64 s] w fun e w' => e = .returned (.bool false) ∧ w = w' := by
  go_enter Try.func11, Try.ntmps11
  go_wp2
  go_ret
  exact ⟨rfl, rfl⟩
theorem fresh_yes (b : Nat) (a r l s : Int) (w : World) (h : Flt w b a r l) (h1 : l ≤ s) (h2 : s ≤ 9223372036854775807) : Calls Try.prog 11 #[.pointer (some ⟨b, 0, none⟩), .int .u64 s] w fun e w' => e = .returned (.bool true) ∧ w = w' := by
  have c2 := h.c2
  go_enter Try.func11, Try.ntmps11
  go_wp2
  go_ret
  exact ⟨rfl, rfl⟩
theorem fresh_no (b : Nat) (a r l s : Int) (w : World) (h : Flt w b a r l) (h1 : s < l ∨ 9223372036854775807 < s) : Calls Try.prog 11 #[.pointer (some ⟨b, 0, none⟩), .int .u64 s] w fun e w' => e = .returned (.bool false) ∧ w = w' := by
  have c2 := h.c2
  by_cases h2 : l ≤ s
  · have h3 : 9223372036854775807 < s := by omega
    clear h1
    go_enter Try.func11, Try.ntmps11
    go_wp2
    go_ret
    exact ⟨ret_bool (by simp; omega), rfl⟩
  · clear h1
    go_enter Try.func11, Try.ntmps11
    go_wp2
    go_ret
    exact ⟨rfl, rfl⟩
theorem refuse_nil (w : World) : Calls Try.prog 18 #[.pointer none] w fun e w' => e = .returned (.tuple #[]) ∧ w = w' := by
  go_enter Try.func18, Try.ntmps18
  go_wp2
  go_returns
  exact ⟨rfl, rfl⟩
theorem refuse_any (b : Nat) (a r l : Int) (w : World) (h : Flt w b a r l) (hr0 : 0 ≤ r) (hr : r < 9223372036854775807) : Calls Try.prog 18 #[.pointer (some ⟨b, 0, none⟩)] w fun e w' => e = .returned (.tuple #[]) ∧ Flt w' b a (r + 1) l ∧ w.grownBy w' (some b) := by
  have c1 := h.c1
  have f1 := Blk.frozen h 1
  have H := Lib.hid h
  clear h
  go_enter Try.func18, Try.ntmps18
  go_wp2
  go_returns
  exact ⟨rfl, Blk.set_ H.out 1 _, only_setCell (only_refl w b) (.inl rfl) _⟩
theorem accept_nil (s : Int) (w : World) : Calls Try.prog 14 #[.pointer none, .int .u64 s] w fun e w' => e = .returned (.iface 42 (.int .i64 7)) ∧ w = w' := by
  go_enter Try.func14, Try.ntmps14
  go_wp2
  go_ret
  exact ⟨rfl, rfl⟩
theorem accept_yes (b : Nat) (a r l s : Int) (w : World) (h : Flt w b a r l) (ha0 : 0 ≤ a) (ha : a < 9223372036854775807) (h0 : 0 ≤ l) (h1 : l ≤ s) (h2 : s ≤ 9223372036854775807) : Calls Try.prog 14 #[.pointer (some ⟨b, 0, none⟩), .int .u64 s] w fun e w' => e = .returned .nilIface ∧ Flt w' b (a + 1) r (s + 1) ∧ w.grownBy w' (some b) := by
  have c0 := h.c0
  have c2 := h.c2
  have f0 := Blk.frozen h 0
  have f2 := Blk.frozen h 2
  have H := Lib.hid h
  clear h
  go_enter Try.func14, Try.ntmps14
  go_wp2_with (go_at_call 11; refine (fresh_yes _ _ _ _ _ _ H.out h1 h2).mono ?_; rintro e w1 ⟨rfl, rfl⟩)
  go_ret
  exact ⟨rfl, Blk.set_ (Blk.set_ H.out 2 _) 0 _, only_setCell (only_setCell (only_refl w b) (.inl rfl) _) (.inl rfl) _⟩
theorem accept_range (b : Nat) (a r l s : Int) (w : World) (h : Flt w b a r l) (hr0 : 0 ≤ r) (hr : r < 9223372036854775807) (h2 : 9223372036854775807 < s) : Calls Try.prog 14 #[.pointer (some ⟨b, 0, none⟩), .int .u64 s] w fun e w' => e = .returned (.iface 42 (.int .i64 10)) ∧ Flt w' b a (r + 1) l ∧ w.grownBy w' (some b) := by
  have H := Lib.hid h
  clear h
  go_enter Try.func14, Try.ntmps14
  go_wp2_with (first | (go_at_call 11; refine (fresh_no _ _ _ _ _ _ H.out (.inr h2)).mono ?_; rintro e w1 ⟨rfl, rfl⟩) | (go_at_call 18; refine (refuse_any _ _ _ _ _ H.out hr0 hr).mono ?_; rintro e w1 ⟨rfl, h1, hg1⟩))
  go_ret
  exact ⟨rfl, h1, hg1⟩
theorem accept_replay (b : Nat) (a r l s : Int) (w : World) (h : Flt w b a r l) (hr0 : 0 ≤ r) (hr : r < 9223372036854775807) (h1 : s < l) (h2 : s ≤ 9223372036854775807) : Calls Try.prog 14 #[.pointer (some ⟨b, 0, none⟩), .int .u64 s] w fun e w' => e = .returned (.iface 42 (.int .i64 9)) ∧ Flt w' b a (r + 1) l ∧ w.grownBy w' (some b) := by
  have H := Lib.hid h
  clear h
  go_enter Try.func14, Try.ntmps14
  go_wp2_with (first | (go_at_call 11; refine (fresh_no _ _ _ _ _ _ H.out (.inl h1)).mono ?_; rintro e w1 ⟨rfl, rfl⟩) | (go_at_call 18; refine (refuse_any _ _ _ _ _ H.out hr0 hr).mono ?_; rintro e w1 ⟨rfl, h3, hg1⟩))
  go_ret
  exact ⟨rfl, h3, hg1⟩
theorem last_none (b : Nat) (a r : Int) (w : World) (h : Flt w b a r 0) : Calls Try.prog 15 #[.pointer (some ⟨b, 0, none⟩)] w fun e w' => e = .returned (.tuple #[.int .u64 0, .bool false]) ∧ w = w' := by
  have c2 := h.c2
  go_enter Try.func15, Try.ntmps15
  go_wp2
  go_ret2
  exact ⟨rfl, rfl⟩
theorem last_some (b : Nat) (a r l : Int) (w : World) (h : Flt w b a r l) (h1 : 1 ≤ l) (h2 : l ≤ 9223372036854775808) : Calls Try.prog 15 #[.pointer (some ⟨b, 0, none⟩)] w fun e w' => e = .returned (.tuple #[.int .u64 (l - 1), .bool true]) ∧ w = w' := by
  have c2 := h.c2
  have hne : (l == 0) = false := by simp; omega
  go_enter Try.func15, Try.ntmps15
  go_wp2
  go_ret2
  exact ⟨rfl, rfl⟩
theorem counts_nil (w : World) : Calls Try.prog 16 #[.pointer none] w fun e w' => e = .returned (.tuple #[.int .i64 0, .int .i64 0]) ∧ w = w' := by
  go_enter Try.func16, Try.ntmps16
  go_wp2
  go_ret2
  exact ⟨rfl, rfl⟩
theorem counts_any (b : Nat) (a r l : Int) (w : World) (h : Flt w b a r l) : Calls Try.prog 16 #[.pointer (some ⟨b, 0, none⟩)] w fun e w' => e = .returned (.tuple #[.int .i64 a, .int .i64 r]) ∧ ∃ n, w' = w.drewN n := by
  have c0 := h.c0
  have c1 := h.c1
  go_enter Try.func16, Try.ntmps16
  go_wp2
  go_quiet (fail)
  go_wp2
  go_ret2
  exact ⟨rfl, _, rfl⟩
theorem told_ok (w : World) : Calls Try.prog 13 #[.nilIface, .int .i64 0] w fun e w' => e = .returned (.bool true) ∧ w = w' := by
  go_enter Try.func13, Try.ntmps13
  go_wp2
  go_ret
  exact ⟨rfl, rfl⟩
theorem told_err (c : Int) (w : World) (h : c ≠ 0) : Calls Try.prog 13 #[.iface 42 (.int .i64 c), .int .i64 c] w fun e w' => e = .returned (.bool true) ∧ w = w' := by
  have h1 : (c == 0) = false := by simpa using h
  have h2 : (c != 0) = true := by simpa using h
  go_enter Try.func13, Try.ntmps13
  go_wp2
  go_ret
  exact ⟨ret_true (by simp), rfl⟩

/-- A slice of uint64 that is read: its numbers. -/
def Nums (w : World) (A : Option Addr) (n : Nat) (zs : List Int) : Prop := Reads w w.heap.size 1 A n (zs.map (Value.int .u64))
set_option maxHeartbeats 1000000 in
theorem rfresh_yes (A : Option Addr) (n c : Nat) (zs : List Int) (s : Int) (w : World) (hr : Nums w A n zs) (hn : n ≤ 1000) (hall : ∀ z ∈ zs, z < s) (hs0 : 0 ≤ s) (hs : s ≤ 9223372036854775807) :
    Calls Try.prog 12 #[.slice A n c, .int .u64 s] w fun e w' => e = .returned (.bool true) ∧ w = w' := by
  have HR := Lib.hid hr
  have HA := Lib.hid hall
  clear hr hall
  go_enter Try.func12, Try.ntmps12
  go_wp2
  go_loop [5] (fun i => ∃ j : Nat, j ≤ n ∧ i = .int .i64 j) (fun i => n - (intOf i).toNat)
  case atStart => exact ⟨0, by omega, rfl⟩
  case round =>
    obtain ⟨j, hj, rfl⟩ := hrel
    by_cases hlt : j < n
    · obtain ⟨ab, ao, u, rfl, hb, hu, hc⟩ := HR.out.cell hlt
      simp only [List.getElem?_map, Option.map_eq_some_iff] at hu
      obtain ⟨z, hz, rfl⟩ := hu
      have hzs : z < s := HA.out z (List.mem_of_getElem? hz)
      have HZ := Lib.hid hz
      clear hz
      go_wp2
      go_round
      case rel => exact ⟨j + 1, by omega, by go_num⟩
      case measure => simp [intOf]; omega
    · go_wp2
      go_ret
      exact ⟨ret_bool (by simp; omega), rfl⟩
theorem rfresh_big (A : Option Addr) (n c : Nat) (zs : List Int) (s : Int) (w : World) (hr : Nums w A n zs) (hn : n ≤ 1000) (hs : 9223372036854775807 < s) :
    Calls Try.prog 12 #[.slice A n c, .int .u64 s] w fun e w' => e = .returned (.bool false) ∧ w = w' := by
  have HR := Lib.hid hr
  clear hr
  go_enter Try.func12, Try.ntmps12
  go_wp2
  go_loop [5] (fun i => ∃ j : Nat, j ≤ n ∧ i = .int .i64 j) (fun i => n - (intOf i).toNat)
  case atStart => exact ⟨0, by omega, rfl⟩
  case round =>
    obtain ⟨j, hj, rfl⟩ := hrel
    by_cases hlt : j < n
    · obtain ⟨ab, ao, u, rfl, hb, hu, hc⟩ := HR.out.cell hlt
      simp only [List.getElem?_map, Option.map_eq_some_iff] at hu
      obtain ⟨z, hz, rfl⟩ := hu
      have HZ := Lib.hid hz
      clear hz
      by_cases hzs : s ≤ z
      · go_wp2
        go_ret
        exact ⟨rfl, rfl⟩
      · go_wp2
        go_round
        case rel => exact ⟨j + 1, by omega, by go_num⟩
        case measure => simp [intOf]; omega
    · go_wp2
      go_ret
      exact ⟨ret_bool (by simp; omega), rfl⟩
theorem rfresh_no (A : Option Addr) (n c : Nat) (zs : List Int) (s : Int) (w : World) (hr : Nums w A n zs) (hn : n ≤ 1000) (m : Nat) (y : Int) (hm : zs[m]? = some y) (hy : s ≤ y) :
    Calls Try.prog 12 #[.slice A n c, .int .u64 s] w fun e w' => e = .returned (.bool false) ∧ w = w' := by
  have hmn : m < n := by
    have h1 := hr.1
    have h2 := (List.getElem?_eq_some_iff.1 hm).1
    simp at h1
    omega
  have HR := Lib.hid hr
  have HM := Lib.hid hm
  clear hr hm
  go_enter Try.func12, Try.ntmps12
  go_wp2
  go_loop [5] (fun i => ∃ j : Nat, j ≤ m ∧ i = .int .i64 j) (fun i => n - (intOf i).toNat)
  case atStart => exact ⟨0, by omega, rfl⟩
  case round =>
    obtain ⟨j, hj, rfl⟩ := hrel
    have hlt : j < n := by omega
    obtain ⟨ab, ao, u, rfl, hb, hu, hc⟩ := HR.out.cell hlt
    simp only [List.getElem?_map, Option.map_eq_some_iff] at hu
    obtain ⟨z, hz, rfl⟩ := hu
    have HZ := Lib.hid hz
    clear hz
    by_cases hzs : s ≤ z
    · go_wp2
      go_ret
      exact ⟨rfl, rfl⟩
    · have hjm : j < m := by
        rcases Nat.lt_or_ge j m with h | h
        · exact h
        · exfalso
          have : j = m := by omega
          have h3 := HZ.out
          rw [this, HM.out] at h3
          injection h3 with h3
          omega
      go_wp2
      go_round
      case rel => exact ⟨j + 1, by omega, by go_num⟩
      case measure => simp [intOf]; omega

theorem rcode_ok (A : Option Addr) (n c : Nat) (zs : List Int) (s : Int) (w : World) (hr : Nums w A n zs) (hn : n ≤ 1000) (hall : ∀ z ∈ zs, z < s) (hs0 : 0 ≤ s) (hs : s ≤ 9223372036854775807) :
    Calls Try.prog 10 #[.slice A n c, .int .u64 s] w fun e w' => e = .returned (.int .i64 0) ∧ w = w' := by
  have HR := Lib.hid hr
  have HA := Lib.hid hall
  clear hr hall
  go_enter Try.func10, Try.ntmps10
  go_wp2_with (go_at_call 12; refine (rfresh_yes _ _ _ _ _ _ HR.out hn HA.out hs0 hs).mono ?_; rintro e w1 ⟨rfl, rfl⟩)
  go_ret
  exact ⟨rfl, rfl⟩
theorem rcode_big (A : Option Addr) (n c : Nat) (zs : List Int) (s : Int) (w : World) (hr : Nums w A n zs) (hn : n ≤ 1000) (hs : 9223372036854775807 < s) :
    Calls Try.prog 10 #[.slice A n c, .int .u64 s] w fun e w' => e = .returned (.int .i64 10) ∧ w = w' := by
  have HR := Lib.hid hr
  clear hr
  go_enter Try.func10, Try.ntmps10
  go_wp2_with (go_at_call 12; refine (rfresh_big _ _ _ _ _ _ HR.out hn hs).mono ?_; rintro e w1 ⟨rfl, rfl⟩)
  go_ret
  exact ⟨rfl, rfl⟩
theorem rcode_no (A : Option Addr) (n c : Nat) (zs : List Int) (s : Int) (w : World) (hr : Nums w A n zs) (hn : n ≤ 1000) (m : Nat) (y : Int) (hm : zs[m]? = some y) (hy : s ≤ y) (hs : s ≤ 9223372036854775807) :
    Calls Try.prog 10 #[.slice A n c, .int .u64 s] w fun e w' => e = .returned (.int .i64 9) ∧ w = w' := by
  have HR := Lib.hid hr
  have HM := Lib.hid hm
  clear hr hm
  go_enter Try.func10, Try.ntmps10
  go_wp2_with (go_at_call 12; refine (rfresh_no _ _ _ _ _ _ HR.out hn _ _ HM.out hy).mono ?_; rintro e w1 ⟨rfl, rfl⟩)
  go_ret
  exact ⟨rfl, rfl⟩
set_option maxHeartbeats 4000000 in
set_option maxRecDepth 100000 in
theorem awake_any (w : World) :
    Calls Try.prog 8 #[] w fun e w' => e = .returned (.bool true) ∧ Below w.heap.size w w' := by
  go_enter Try.func8, Try.ntmps8
  go_wp2
  go_quiet (fail)
  go_wp2
  go_returns
  exact ⟨rfl, by repeat' (first | (with_reducible exact Below.refl _ _) | (with_reducible refine below_drewN ?_ _) | (with_reducible refine Below.alloc ?_ ?_ _) | (with_reducible refine Below.setCell ?_ ?_ _) | go_size)⟩
end Go.Proofs.Ytjnnobdkidkagaa
