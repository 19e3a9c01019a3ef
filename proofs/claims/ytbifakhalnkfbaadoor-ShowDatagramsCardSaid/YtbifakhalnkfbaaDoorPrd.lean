import Derived.Test.YtbifakhalnkfbaaDoorNmw
import Derived.Test.YtbifakhalnkfbaaDoorTxt
import Derived.Laws.EntriesVeiled
import Derived.Deep.MidRow
import Derived.Deep.Cut
import Derived.Deep.DeepCutAuto
namespace Go.Proofs.YtbifakhalnkfbaaDoor
open Go.ChangeShapes Go.WideShapes Go.ChangeAt Go.RowKit Go.Sort Go.Deep
set_option linter.unusedVariables false
set_option linter.unusedSimpArgs false
def nxN : ByteArray := ⟨#[110, 101, 120, 116]⟩
def lsN : ByteArray := ⟨#[108, 97, 115, 116]⟩
def acN : ByteArray := ⟨#[97, 99, 99, 101, 112, 116, 101, 100]⟩
def rfN : ByteArray := ⟨#[114, 101, 102, 117, 115, 101, 100]⟩
def mvN : ByteArray := ⟨#[109, 111, 118, 101, 115]⟩
def smN : ByteArray := ⟨#[115, 97, 109, 112, 108, 101, 115]⟩
def spN : ByteArray := ⟨#[115, 97, 109, 112, 108, 101]⟩
def atN : ByteArray := ⟨#[97, 116]⟩
def sml (s : ByteArray) : Nat := min (decN s) 2147483647
def x1 (xs : List ByteArray) := (tk nxN xs).2
def x2 (xs : List ByteArray) := (tk lsN (x1 xs)).2
def x3 (xs : List ByteArray) := (tk acN (x2 xs)).2
def x4 (xs : List ByteArray) := (tk rfN (x3 xs)).2
def x5 (xs : List ByteArray) := (tk mvN (x4 xs)).2
def x6 (xs : List ByteArray) := (tk smN (x5 xs)).2
def x7 (xs : List ByteArray) := (tk spN (x6 xs)).2
def x8 (xs : List ByteArray) := (tk atN (x7 xs)).2
def clB (ys : List ByteArray) : Bool := match ys with
  | [] => false
  | a :: _ => decide (a = closedS)
def adP (a : ByteArray) : ByteArray := if a = starS then ByteArray.empty else a
/-- The status that the words make. -/
def cand (xs : List ByteArray) : St :=
  ⟨decN (tk nxN xs).1, decN (tk lsN (x1 xs)).1, decB (tk lsN (x1 xs)).1, (sml (tk acN (x2 xs)).1 : Nat), (sml (tk rfN (x3 xs)).1 : Nat), adP (tk atN (x7 xs)).1, (sml (tk mvN (x4 xs)).1 : Nat), (sml (tk smN (x5 xs)).1 : Nat), min (decN (tk spN (x6 xs)).1) 65535, clB (x8 xs)⟩
def zSt : St := ⟨0, 0, false, 0, 0, ByteArray.empty, 0, 0, 0, false⟩
def okP (c : St) (text : ByteArray) : Bool := rgtS c && decide (textS c = text)
theorem sml_le (s : ByteArray) : sml s ≤ 2147483647 := Nat.min_le_right _ _
theorem tk_all {t : ByteArray} {xs : List ByteArray} (h : ∀ x ∈ xs, x.size ≤ 300000) : ∀ x ∈ (tk t xs).2, x.size ≤ 300000 := (tk_sz h).2
theorem cand_ok {xs : List ByteArray} (h : ∀ x ∈ xs, x.size ≤ 300000) : StOk (cand xs) := by
  have h7 : (tk atN (x7 xs)).1.size ≤ 300000 := (tk_sz (tk_all (tk_all (tk_all (tk_all (tk_all (tk_all (tk_all h)))))))).1
  have ha : (adP (tk atN (x7 xs)).1).size ≤ 300000 := by unfold adP; split; simp; exact h7
  have z1 := sml_le (tk acN (x2 xs)).1
  have z2 := sml_le (tk rfN (x3 xs)).1
  have z3 := sml_le (tk mvN (x4 xs)).1
  have z4 := sml_le (tk smN (x5 xs)).1
  unfold cand
  exact ⟨decN_lt _, decN_lt _, Nat.lt_of_le_of_lt (Nat.min_le_right _ _) (by decide), by simp only; omega, by simp only; omega, by simp only; omega, by simp only; omega, by simp only; omega, by simp only; omega, by simp only; omega, by simp only; omega, by unfold maxLen; simp only; omega⟩
/-- What stands while ParseStatus runs. -/
structure PI (w0 : World) (g : Nat) (xs : List ByteArray) (W : World) : Prop where
  bel : Below g w0 W
  tab : Tab W
  wd : WD W (g + 1 + 1) xs
  k0 : Blk W g 27 zSt.arr
  k3 : Blk W (g + 1 + 1 + 1) 61 #[.func (.func 29) #[] #[.pointer (some ⟨g + 1 + 1, 0, none⟩)]]
  k4 : Blk W (g + 1 + 1 + 1 + 1) 62 #[.func (.func 30) #[] #[.pointer (some ⟨g + 1 + 1 + 1, 0, none⟩)]]
  g4 : 4 ≤ g
theorem PI.only {w0 W W' : World} {g : Nat} {xs ys : List ByteArray} (h : PI w0 g xs W) (hw : WD W' (g + 1 + 1) ys) (hg : W.grownBy W' (some (g + 1 + 1))) : PI w0 g ys W' :=
  have hlt := h.k0.lt
  ⟨below_only h.bel hg (by omega) (by omega), h.tab.only hg (by have := h.g4; omega), hw, h.k0.only hg (by omega), h.k3.only hg (by omega), h.k4.only hg (by omega), h.g4⟩
theorem PI.below {w0 W W' : World} {g : Nat} {xs : List ByteArray} (h : PI w0 g xs W) (hb : Below W.heap.size W W') : PI w0 g xs W' :=
  have hlt := h.k0.lt
  ⟨h.bel.trans (hb.mono (by omega)), h.tab.below hb, h.wd.below hb, h.k0.below hb h.k0.lt, h.k3.below hb h.k3.lt, h.k4.below hb h.k4.lt, h.g4⟩
theorem PI.set {w0 W : World} {g q i : Nat} {xs : List ByteArray} (h : PI w0 g xs W) (hq : g + 1 + 1 + 1 + 1 < q) (v : Value) : PI w0 g xs (W.setCell ⟨q, i, none⟩ v) :=
  have hlt := h.k0.lt
  have hg : W.grownBy (W.setCell ⟨q, i, none⟩ v) (some q) := only_setCell (World.grownBy.refl _ _) (.inl rfl) _
  ⟨below_only h.bel hg (by omega) (by omega), h.tab.only hg (by have := h.g4; omega), h.wd.only hg (by omega), h.k0.only hg (by omega), h.k3.only hg (by omega), h.k4.only hg (by omega), h.g4⟩
theorem PI.start {w : World} {xs : List ByteArray} (hT : Tab w) (hz : ∀ x ∈ xs, x.size ≤ 300000) (hl : xs.length ≤ maxLen) : PI w w.heap.size xs (((((w.alloc (.cells zSt.arr 27)).alloc (.cells (xs.map Value.string).toArray 9)).alloc (.cells #[.slice (some ⟨w.heap.size + 1, 0, none⟩) xs.length xs.length] 59)).alloc
    (.cells #[.func (.func 29) #[] #[.pointer (some ⟨w.heap.size + 1 + 1, 0, none⟩)]] 61)).alloc (.cells #[.func (.func 30) #[] #[.pointer (some ⟨w.heap.size + 1 + 1 + 1, 0, none⟩)]] 62)) := by
  have al : ∀ (W : World) (o : Obj), Below W.heap.size W (W.alloc o) := fun W o => (Below.refl _ W).alloc (Nat.le_refl _) o
  obtain ⟨w1, h1⟩ : ∃ W, w.alloc (.cells zSt.arr 27) = W := ⟨_, rfl⟩
  have s1 : w1.heap.size = w.heap.size + 1 := by rw [← h1]; simp
  have b1 : Below w.heap.size w w1 := h1 ▸ al _ _
  have k1 : Blk w1 w.heap.size 27 zSt.arr := h1 ▸ Blk.new w 27 zSt.arr
  rw [h1]
  obtain ⟨w2, h2⟩ : ∃ W, w1.alloc (.cells (xs.map Value.string).toArray 9) = W := ⟨_, rfl⟩
  have s2 : w2.heap.size = w.heap.size + 1 + 1 := by rw [← h2]; simp [s1]
  have b2 : Below w1.heap.size w1 w2 := h2 ▸ al _ _
  have k2 : Blk w2 (w.heap.size + 1) 9 (xs.map Value.string).toArray := by have := Blk.new w1 9 (xs.map Value.string).toArray; rwa [h2, s1] at this
  rw [h2]
  obtain ⟨w3, h3⟩ : ∃ W, w2.alloc (.cells #[.slice (some ⟨w.heap.size + 1, 0, none⟩) xs.length xs.length] 59) = W := ⟨_, rfl⟩
  have s3 : w3.heap.size = w.heap.size + 1 + 1 + 1 := by rw [← h3]; simp [s2]
  have b3 : Below w2.heap.size w2 w3 := h3 ▸ al _ _
  have k3 : Blk w3 (w.heap.size + 1 + 1) 59 #[.slice (some ⟨w.heap.size + 1, 0, none⟩) xs.length xs.length] := by have := Blk.new w2 59 #[.slice (some ⟨w.heap.size + 1, 0, none⟩) xs.length xs.length]; rwa [h3, s2] at this
  rw [h3]
  obtain ⟨w4, h4⟩ : ∃ W, w3.alloc (.cells #[.func (.func 29) #[] #[.pointer (some ⟨w.heap.size + 1 + 1, 0, none⟩)]] 61) = W := ⟨_, rfl⟩
  have s4 : w4.heap.size = w.heap.size + 1 + 1 + 1 + 1 := by rw [← h4]; simp [s3]
  have b4 : Below w3.heap.size w3 w4 := h4 ▸ al _ _
  have k4 : Blk w4 (w.heap.size + 1 + 1 + 1) 61 #[.func (.func 29) #[] #[.pointer (some ⟨w.heap.size + 1 + 1, 0, none⟩)]] := by have := Blk.new w3 61 #[.func (.func 29) #[] #[.pointer (some ⟨w.heap.size + 1 + 1, 0, none⟩)]]; rwa [h4, s3] at this
  rw [h4]
  obtain ⟨w5, h5⟩ : ∃ W, w4.alloc (.cells #[.func (.func 30) #[] #[.pointer (some ⟨w.heap.size + 1 + 1 + 1, 0, none⟩)]] 62) = W := ⟨_, rfl⟩
  have b5 : Below w4.heap.size w4 w5 := h5 ▸ al _ _
  have k5 : Blk w5 (w.heap.size + 1 + 1 + 1 + 1) 62 #[.func (.func 30) #[] #[.pointer (some ⟨w.heap.size + 1 + 1 + 1, 0, none⟩)]] := by have := Blk.new w4 62 #[.func (.func 30) #[] #[.pointer (some ⟨w.heap.size + 1 + 1 + 1, 0, none⟩)]]; rwa [h5, s4] at this
  rw [h5]
  have u4 : Below w4.heap.size w4 w5 := b5
  have u3 : Below w3.heap.size w3 w5 := b4.trans (u4.mono b4.size)
  have u2 : Below w2.heap.size w2 w5 := b3.trans (u3.mono b3.size)
  have u1 : Below w1.heap.size w1 w5 := b2.trans (u2.mono b2.size)
  have u0 : Below w.heap.size w w5 := b1.trans (u1.mono b1.size)
  have k2' := k2.below u2 k2.lt
  refine ⟨u0, hT.below u0, ⟨_, xs.length, xs.length, k3.below u3 k3.lt, ⟨by simp, fun _ => ⟨_, rfl, by simp, fun j u hu => ?_⟩⟩, rfl, Nat.le_refl _, hl, hz⟩, k1.below u1 k1.lt, k4.below u4 k4.lt, k5, hT.sz⟩
  rw [add_none, Nat.zero_add, k2'.cell]
  simpa using hu
end Go.Proofs.YtbifakhalnkfbaaDoor
