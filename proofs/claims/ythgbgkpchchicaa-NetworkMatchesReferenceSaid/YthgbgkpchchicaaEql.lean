import Derived.Test.YthgbgkpchchicaaRows
import Derived.Test.YthgbgkpchchicaaBase
import Derived.Laws.BytesArg
import Derived.Laws.IdiomStrings
namespace Go.Proofs.Ythgbgkpchchicaa
open Go.ChangeShapes Go.WideShapes Go.ChangeAt Go.RowKit
set_option linter.unusedVariables false
set_option linter.unusedSimpArgs false
def bys (s : ByteArray) : List Nat := s.data.toList.map UInt8.toNat
def str (l : List Nat) : ByteArray := ⟨(l.map UInt8.ofNat).toArray⟩
theorem bys_lt (s : ByteArray) : ∀ x ∈ bys s, x < 256 := by
  intro x hx
  simp only [bys, List.mem_map] at hx
  obtain ⟨y, _, rfl⟩ := hx
  exact y.toNat_lt
theorem bys_str (l : List Nat) (h : ∀ x ∈ l, x < 256) : bys (str l) = l := by
  unfold bys str
  simp only [List.map_map]
  conv => rhs; rw [← List.map_id l]
  apply List.map_congr_left
  intro x hx
  have := h x hx
  simp
  omega
theorem bys_inj {a b : ByteArray} (h : bys a = bys b) : a = b := by
  unfold bys at h
  have := (List.map_inj_right (fun x y e => UInt8.toNat_inj.1 e)).1 h
  cases a; cases b
  simp at this
  rw [this]
theorem str_bys (s : ByteArray) : str (bys s) = s := bys_inj (bys_str _ (bys_lt s))
theorem str_inj {a b : List Nat} (ha : ∀ x ∈ a, x < 256) (hb : ∀ x ∈ b, x < 256) (h : str a = str b) : a = b := by rw [← bys_str a ha, ← bys_str b hb, h]
theorem str_size (l : List Nat) : (str l).size = l.length := by
  show (l.map UInt8.ofNat).toArray.size = _
  simp
theorem toList_inj {a b : ByteArray} (h : a.toList = b.toList) : a = b := by
  have h2 : a.data.toList = b.data.toList := by rw [← ByteArray.toList_eq a, ← ByteArray.toList_eq b]; exact h
  cases a; cases b; simp at h2; rw [h2]
theorem toList_ne {a b : ByteArray} (h : a ≠ b) : (a.toList == b.toList) = false := by
  rw [beq_eq_false_iff_ne]; exact fun e => h (toList_inj e)
theorem conv_bys {w : World} {n c : Nat} {Ad : Option Addr} {bs : List Nat} (h : Bys w Ad n bs) : (convert 26 9 (.slice Ad n c)).run Try.prog w = .ok (.string (str bs)) w := by
  have hl := h.len
  cases Ad with
  | none =>
    have h0 : n = 0 := by
      rcases Nat.eq_zero_or_pos n with h0 | h0
      · exact h0
      · obtain ⟨_, _, _, e, _⟩ := h.cell h0; cases e
    subst h0
    obtain rfl := List.length_eq_zero_iff.1 hl
    exact run_convert_bytes_nil w 26 5 Try.underlying26 Try.underlying5 0 c 9 Try.underlying9
  | some a =>
    have := run_convert_bytes_back (P := Try.prog) w 26 9 5 a c (bs.map UInt8.ofNat) Try.underlying26 Try.underlying5 Try.underlying9 (fun j hj => by
      have hj' : j < bs.length := by simpa using hj
      obtain ⟨b, o, x, e, _, hx, hx9, hc⟩ := h.cell (k := j) (by omega)
      injection e with e
      subst e
      rw [add_none, hc]
      have hxe : bs[j] = x := by rw [List.getElem?_eq_getElem hj'] at hx; exact Option.some.inj hx
      simp [hxe]
      omega)
    rw [show (bs.map UInt8.ofNat).length = n by simp [hl]] at this
    exact this
theorem take_eq_next {xs ys : List Nat} {j x y : Nat} (hx : xs[j]? = some x) (hy : ys[j]? = some y) (h : xs.take j = ys.take j) (he : x = y) : xs.take (j + 1) = ys.take (j + 1) := by
  rw [List.take_add_one, List.take_add_one, hx, hy, h, he]
set_option maxRecDepth 100000 in
theorem samek_any (A B : Option Addr) (n c m d : Nat) (xs ys : List Nat) (w : World) (hx : Bys w A n xs) (hy : Bys w B m ys) (hn : n ≤ maxLen) (hm : m ≤ maxLen) :
    Calls Try.prog 12 #[.slice A n c, .slice B m d] w fun e w' => e = .returned (.bool (decide (xs = ys))) ∧ ∃ k, w' = w.drewN k := by
  unfold maxLen at hn hm
  have lx := hx.len
  have ly := hy.len
  have HX := Lib.hid hx
  have HY := Lib.hid hy
  clear hx hy
  by_cases hnm : n = m
  · subst hnm
    have LX := Lib.hid lx
    have LY := Lib.hid ly
    clear lx ly
    go_enter Try.func12, Try.ntmps12
    go_wp2_with fail
    go_loopw [5] (fun i wr => ∃ (j k : Nat), j ≤ n ∧ i = .int .i64 j ∧ xs.take j = ys.take j ∧ wr = w.drewN k) (fun i _ => n - (intOf i).toNat)
    case atStart => exact ⟨0, 0, by omega, rfl, by simp, rfl⟩
    case round =>
      obtain ⟨j, k, hj, rfl, ht, rfl⟩ := hrel
      have HT := Lib.hid ht
      clear ht
      by_cases hlt : j < n
      · obtain ⟨b1, o1, x, rfl, _, hx1, hx9, hcx⟩ := HX.out.cell hlt
        obtain ⟨b2, o2, y, rfl, _, hy1, hy9, hcy⟩ := HY.out.cell hlt
        have cx : (w.drewN k).cell? ⟨b1, o1 + j, none⟩ = some (.int .u8 (x : Nat)) := hcx
        have cy : (w.drewN k).cell? ⟨b2, o2 + j, none⟩ = some (.int .u8 (y : Nat)) := hcy
        have HX1 := Lib.hid hx1
        have HY1 := Lib.hid hy1
        have hji : (j : Int) < (n : Int) := by omega
        clear hx1 hy1
        by_cases he : x = y
        · have HN := Lib.hid (take_eq_next HX1.out HY1.out HT.out he)
          subst he
          clear HT HX1 HY1
          go_wp2_with fail
          go_quiet (fail)
          go_wp2_with fail
          go_roundw
          case rel => exact ⟨j + 1, _, by omega, by go_num, HN.out, rfl⟩
          case measure => simp [intOf]; omega
        · have hne : xs ≠ ys := by
            rintro rfl
            have e1 := HX1.out
            rw [HY1.out] at e1
            injection e1 with e1
            exact he e1.symm
          have hb : ((x : Int) == (y : Int)) = false := by simp; omega
          have hb2 : ((x : Int) != (y : Int)) = true := by simp; omega
          have HNE := Lib.hid hne
          clear hne HT HX1 HY1
          go_wp2_with fail
          go_quiet (fail)
          go_wp2_with fail
          go_ret
          exact ⟨ret_bool (by simp [HNE.out]), _, World.drewN_drewN _ _ _⟩
      · obtain rfl : j = n := by omega
        have he : xs = ys := by
          have := HT.out
          rwa [List.take_of_length_le (by rw [LX.out]; omega), List.take_of_length_le (by rw [LY.out]; omega)] at this
        subst he
        go_wp2_with fail
        go_ret
        exact ⟨ret_bool (by simp), _, rfl⟩
  · have hne : xs ≠ ys := by rintro rfl; omega
    clear lx ly
    have hb : ((n : Int) == (m : Int)) = false := by simp; omega
    have hb2 : ((n : Int) != (m : Int)) = true := by simp; omega
    have HNE := Lib.hid hne
    clear hne
    go_enter Try.func12, Try.ntmps12
    go_wp2_with fail
    go_ret
    exact ⟨ret_bool (by simp [HNE.out]), 0, rfl⟩
theorem same_below (A B : Option Addr) (n c m d : Nat) (xs ys : List Nat) (w : World) (hx : Bys w A n xs) (hy : Bys w B m ys) (hn : n ≤ maxLen) (hm : m ≤ maxLen) :
    Calls Try.prog 12 #[.slice A n c, .slice B m d] w fun e w' => e = .returned (.bool (decide (xs = ys))) ∧ Below w.heap.size w w' :=
  (samek_any A B n c m d xs ys w hx hy hn hm).mono fun e w' ⟨he, k, hk⟩ => ⟨he, by rw [hk]; exact below_drewN (Below.refl _ _) k⟩
theorem equal_same (A B : Option Addr) (n c m d : Nat) (xs ys : List Nat) (w : World) (hx : Bys w A n xs) (hy : Bys w B m ys) :
    Calls Try.prog 30 #[.slice A n c, .slice B m d] w fun e w' => e = .returned (.bool (decide (xs = ys))) ∧ w = w' := by
  have c1 := conv_bys (c := c) hx
  have c2 := conv_bys (c := d) hy
  have hd : decide (xs = ys) = ((str xs).toList == (str ys).toList) := by
    by_cases h : xs = ys
    · subst h; simp
    · rw [toList_ne (fun e => h (str_inj hx.2 hy.2 e))]; simp [h]
  rw [hd]
  clear hd hx hy
  go_enter Try.func30, Try.ntmps30
  go_wp2_with fail
  go_ret
  exact ⟨rfl, rfl⟩
theorem equal_below (A B : Option Addr) (n c m d : Nat) (xs ys : List Nat) (w : World) (hx : Bys w A n xs) (hy : Bys w B m ys) (hn : n ≤ maxLen) (hm : m ≤ maxLen) :
    Calls Try.prog 30 #[.slice A n c, .slice B m d] w fun e w' => e = .returned (.bool (decide (xs = ys))) ∧ Below w.heap.size w w' :=
  (equal_same A B n c m d xs ys w hx hy).mono fun e w' ⟨he, hw⟩ => ⟨he, hw ▸ Below.refl _ _⟩
end Go.Proofs.Ythgbgkpchchicaa
