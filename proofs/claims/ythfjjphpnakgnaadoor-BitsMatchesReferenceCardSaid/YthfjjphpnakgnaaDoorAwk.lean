import Derived.Test.YthfjjphpnakgnaaDoorEqu
import Derived.Test.YthfjjphpnakgnaaDoorZer
import Derived.Test.YthfjjphpnakgnaaDoorRot
import Derived.Lib.QuietBelow
import Derived.Deep.Cut
namespace Go.Proofs.YthfjjphpnakgnaaDoor
open Go.ChangeShapes Go.WideShapes Go.ChangeAt Go.RowKit Go.Sort
set_option linter.unusedVariables false
set_option linter.unusedSimpArgs false
def vc (l : List Nat) : Array Value := (l.map fun x => Value.int .u8 (x : Nat)).toArray
theorem Bys.of_blk {w : World} {g : Nat} {t : TypeId} {l : List Nat} {n : Nat} (h : Blk w g t (vc l)) (hn : l.length = n) (h2 : ∀ x ∈ l, x < 256) : Bys w (some ⟨g, 0, none⟩) n l := by
  refine ⟨⟨by simp [hn], fun _ => ⟨_, rfl, h.lt, fun j u hu => ?_⟩⟩, h2⟩
  rw [add_none, Nat.zero_add, Blk.cell h]
  simpa [vc] using hu
theorem Bys.alloc {w : World} {A : Option Addr} {n : Nat} {bs : List Nat} (h : Bys w A n bs) (o : Obj) : Bys (w.alloc o) A n bs := h.below ((Below.refl _ _).alloc (Nat.le_refl _) _)
theorem lit (w : World) (l : List Nat) (n : Nat) (hn : l.length = n) (h2 : ∀ x ∈ l, x < 256) : Bys (w.alloc (.cells (vc l) 5)) (some ⟨w.heap.size, 0, none⟩) n l := Bys.of_blk (Blk.new w 5 (vc l)) hn h2
theorem lit2 (w : World) (o : Obj) (l : List Nat) (n : Nat) (hn : l.length = n) (h2 : ∀ x ∈ l, x < 256) : Bys ((w.alloc o).alloc (.cells (vc l) 5)) (some ⟨w.heap.size + 1, 0, none⟩) n l := by
  have := lit (w.alloc o) l n hn h2
  simpa using this
section
variable {P : Program} {f : FuncId} {args : Array Value} {w : World} {v : Value}
theorem pureB (h : Calls P f args w fun e w' => e = .returned v ∧ w = w') : Calls P f args w fun e w' => e = .returned v ∧ Below w.heap.size w w' := h.mono fun e w' ⟨he, hw⟩ => ⟨he, by rw [← hw]; exact Below.refl _ _⟩
end
theorem same_below (A B : Option Addr) (n c m d : Nat) (xs ys : List Nat) (w : World) (hx : Bys w A n xs) (hy : Bys w B m ys) (hn : n ≤ maxLen) (hm : m ≤ maxLen) :
    Calls Tryd.prog 11 #[.slice A n c, .slice B m d] w fun e w' => e = .returned (.bool (decide (xs = ys))) ∧ Below w.heap.size w w' :=
  (same_any A B n c m d xs ys w hx hy hn hm).mono fun e w' ⟨he, k, hk⟩ => ⟨he, by rw [hk]; exact below_drewN (Below.refl _ _) k⟩
theorem k1 (A : Option Addr) (w : World) (h : Bys w A 2 [1, 2]) : Calls Tryd.prog 9 #[.slice A 2 2] w fun e w' => e = .returned (.int .u64 258) ∧ Below w.heap.size w w' :=
  pureB (num_any A 2 2 [1, 2] w h (by decide) (by decide) (by decide))
theorem k2 (w : World) : Calls Tryd.prog 14 #[.int .u32 1, .int .i64 (-1)] w fun e w' => e = .returned (.int .u32 2147483648) ∧ Below w.heap.size w w' :=
  pureB (by have := rot_any 1 (-1) w (by decide); rwa [show rotN 1 (kOf (-1)) = 2147483648 by decide] at this)
theorem k3 (w : World) : Calls Tryd.prog 12 #[.int .u64 258, .int .i64 3] w fun e w' => (∃ A, e = .returned (.slice A 3 3) ∧ Bys w' A 3 [0, 1, 2]) ∧ Below w.heap.size w w' := by
  have := bytes_any 258 3 w (by decide)
  rwa [show mOf 3 = 3 by decide, show byL 258 3 = [0, 1, 2] by decide] at this
theorem k4 (A B : Option Addr) (w : World) (h : Bys w A 3 [0, 1, 2]) (h' : Bys w B 3 [0, 1, 2]) : Calls Tryd.prog 11 #[.slice A 3 3, .slice B 3 3] w fun e w' => e = .returned (.bool true) ∧ Below w.heap.size w w' := by
  have := same_below A B 3 3 3 3 _ _ w h h' (by decide) (by decide)
  simpa using this
theorem k5 (A B : Option Addr) (w : World) (h : Bys w A 2 [5, 1]) (h' : Bys w B 1 [6]) : Calls Tryd.prog 16 #[.slice A 2 2, .slice B 1 1] w fun e w' => (∃ A, e = .returned (.slice A 1 1) ∧ Bys w' A 1 [3]) ∧ Below w.heap.size w w' :=
  (xor_any A B 2 2 1 1 _ _ w h h' (by decide) (by decide)).mono fun e w' ⟨he, hf, hb⟩ => ⟨⟨_, he, hf.bys (by decide) (by decide)⟩, hb⟩
theorem k6 (A B : Option Addr) (w : World) (h : Bys w A 1 [3]) (h' : Bys w B 1 [3]) : Calls Tryd.prog 11 #[.slice A 1 1, .slice B 1 1] w fun e w' => e = .returned (.bool true) ∧ Below w.heap.size w w' := by
  have := same_below A B 1 1 1 1 _ _ w h h' (by decide) (by decide)
  simpa using this
theorem k7 (A B : Option Addr) (w : World) (h : Bys w A 1 [1]) (h' : Bys w B 1 [1]) : Calls Tryd.prog 18 #[.slice A 1 1, .slice B 1 1] w fun e w' => e = .returned (.bool true) ∧ Below w.heap.size w w' := by
  have := equal_any A B 1 1 1 1 _ _ w h h' (by decide) (by decide)
  simpa using this
theorem k8 (A B : Option Addr) (w : World) (h : Bys w A 1 [1]) (h' : Bys w B 2 [1, 0]) : Calls Tryd.prog 18 #[.slice A 1 1, .slice B 2 2] w fun e w' => e = .returned (.bool false) ∧ Below w.heap.size w w' := by
  have := equal_any A B 1 1 2 2 _ _ w h h' (by decide) (by decide)
  simpa using this
theorem k9 (w : World) (h : Tab w) : Calls Tryd.prog 19 #[.int .u64 8] w fun e w' => e = .returned (.int .i64 3) ∧ Below w.heap.size w w' :=
  pureB (by have := zeros_any 8 (by decide) w h; rwa [show Lib.ctz 64 8 = 3 by decide] at this)
theorem k10 (A : Option Addr) (w : World) (h : Bys w A 1 [1]) : Calls Tryd.prog 21 #[.slice A 1 1, .int .i64 7] w fun e w' => e = .returned (.int .i64 1) ∧ Below w.heap.size w w' :=
  pureB (by have := bit_any A 1 1 [1] 7 w h (by decide) (by decide); rwa [show bitAt [1] 7 = 1 by decide] at this)
set_option maxRecDepth 100000 in
set_option maxHeartbeats 2000000 in
theorem awake_any (w : World) (hT : Tab w) : Calls Tryd.prog 8 #[] w fun e w' => e = .returned (.bool true) ∧ Below w.heap.size w w' := by
  have HT := Lib.hid hT
  clear hT
  go_enter Tryd.func8, Tryd.ntmps8
  go_wp2_with fail
  refine (k1 (some ⟨w.heap.size, 0, none⟩) _ (lit w [1, 2] 2 rfl (by simp))).mono ?_
  rintro e w1 ⟨rfl, hb⟩
  have HB1 := Lib.hid (((Below.refl w.heap.size w).alloc (Nat.le_refl _) _).trans (hb.mono (by simp)))
  clear hb
  go_wp2_with fail
  refine (k2 _).mono ?_
  rintro e w2 ⟨rfl, hb⟩
  have HB2 := Lib.hid (HB1.out.trans (hb.mono HB1.out.size))
  clear hb HB1
  go_wp2_with fail
  refine (k3 _).mono ?_
  rintro e w3 ⟨⟨A3, rfl, hB3⟩, hb⟩
  have HB3 := Lib.hid (HB2.out.trans (hb.mono HB2.out.size))
  have HY3 := Lib.hid hB3
  clear hb HB2 hB3
  go_wp2_with fail
  refine (k4 A3 (some ⟨w3.heap.size, 0, none⟩) _ (HY3.out.alloc _) (lit w3 [0, 1, 2] 3 rfl (by simp))).mono ?_
  rintro e w4 ⟨rfl, hb⟩
  have HB4 := Lib.hid ((HB3.out.alloc HB3.out.size _).trans (hb.mono (by simp; have := HB3.out.size; omega)))
  clear hb HB3 HY3
  go_wp2_with fail
  refine (k5 (some ⟨w4.heap.size, 0, none⟩) (some ⟨w4.heap.size + 1, 0, none⟩) _ ((lit w4 [5, 1] 2 rfl (by simp)).alloc _) (lit2 w4 _ [6] 1 rfl (by simp))).mono ?_
  rintro e w5 ⟨⟨A5, rfl, hB5⟩, hb⟩
  have HB5 := Lib.hid (((HB4.out.alloc HB4.out.size _).alloc (by simp; have := HB4.out.size; omega) _).trans (hb.mono (by simp; have := HB4.out.size; omega)))
  have HY5 := Lib.hid hB5
  clear hb HB4 hB5
  go_wp2_with fail
  refine (k6 A5 (some ⟨w5.heap.size, 0, none⟩) _ (HY5.out.alloc _) (lit w5 [3] 1 rfl (by simp))).mono ?_
  rintro e w6 ⟨rfl, hb⟩
  have HB6 := Lib.hid ((HB5.out.alloc HB5.out.size _).trans (hb.mono (by simp; have := HB5.out.size; omega)))
  clear hb HB5 HY5
  go_wp2_with fail
  refine (k7 (some ⟨w6.heap.size, 0, none⟩) (some ⟨w6.heap.size + 1, 0, none⟩) _ ((lit w6 [1] 1 rfl (by simp)).alloc _) (lit2 w6 _ [1] 1 rfl (by simp))).mono ?_
  rintro e w7 ⟨rfl, hb⟩
  have HB7 := Lib.hid (((HB6.out.alloc HB6.out.size _).alloc (by simp; have := HB6.out.size; omega) _).trans (hb.mono (by simp; have := HB6.out.size; omega)))
  clear hb HB6
  go_wp2_with fail
  refine (k8 (some ⟨w7.heap.size, 0, none⟩) (some ⟨w7.heap.size + 1, 0, none⟩) _ ((lit w7 [1] 1 rfl (by simp)).alloc _) (lit2 w7 _ [1, 0] 2 rfl (by simp))).mono ?_
  rintro e w8 ⟨rfl, hb⟩
  have HB8 := Lib.hid (((HB7.out.alloc HB7.out.size _).alloc (by simp; have := HB7.out.size; omega) _).trans (hb.mono (by simp; have := HB7.out.size; omega)))
  clear hb HB7
  go_wp2_with fail
  refine (k9 _ (HT.out.below HB8.out)).mono ?_
  rintro e w9 ⟨rfl, hb⟩
  have HB9 := Lib.hid (HB8.out.trans (hb.mono HB8.out.size))
  clear hb HB8
  go_wp2_with fail
  refine (k10 (some ⟨w9.heap.size, 0, none⟩) _ (lit w9 [1] 1 rfl (by simp))).mono ?_
  rintro e w10 ⟨rfl, hb⟩
  have HB10 := Lib.hid ((HB9.out.alloc HB9.out.size _).trans (hb.mono (by simp; have := HB9.out.size; omega)))
  clear hb HB9
  go_wp2_with fail
  go_ret
  exact ⟨rfl, HB10.out⟩
end Go.Proofs.YthfjjphpnakgnaaDoor
