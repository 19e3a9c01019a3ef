import Derived.Test.YtbkgmeopdcealaaDoorRes
import Derived.Test.YtbkgmeopdcealaaDoorPrt
import Derived.Test.YtbkgmeopdcealaaDoorRuh
import Derived.Maps.Keyed
import Derived.Laws.EntriesVeiled
import Derived.Carry
namespace Go.Proofs.YtbkgmeopdcealaaDoor
open Go.ChangeShapes Go.WideShapes Go.ChangeAt Go.RowKit Go.Sort Go.Deep
set_option linter.unusedVariables false
set_option linter.unusedSimpArgs false
theorem gSyn : Tryd.prog.globalNamed "strconv.ErrSyntax" = some 5 := by kernel_rfl
theorem gRng : Tryd.prog.globalNamed "strconv.ErrRange" = some 6 := by kernel_rfl
theorem var_of_block {w w' : World} {n : String} {g : Nat} (hg : Tryd.prog.globalNamed n = some g) (h : w'.heap[g]? = w.heap[g]?) : w'.var? Tryd.prog n = w.var? Tryd.prog n := by
  unfold World.var?
  rw [hg]
  simp only [Option.bind_some]
  rw [h]
def rwS (k : Nat) : ByteArray := ruleW k
def rfS (k : Nat) : ByteArray := str (ruleF k)
def rulesL : List Value := [.string ⟨#[]⟩, .string ⟨#[]⟩, .string ⟨#[115, 101, 110, 100]⟩, .string ⟨#[119, 98]⟩, .string ⟨#[116, 105, 99, 107]⟩, .string ⟨#[116]⟩, .string ⟨#[100, 101, 108, 105, 118, 101, 114]⟩, .string ⟨#[110]⟩, .string ⟨#[100, 114, 111, 112]⟩, .string ⟨#[110]⟩,
  .string ⟨#[99, 111, 112, 121]⟩, .string ⟨#[110]⟩, .string ⟨#[115, 119, 97, 112]⟩, .string ⟨#[110, 109]⟩, .string ⟨#[105, 110, 106, 101, 99, 116]⟩, .string ⟨#[119, 97, 98]⟩, .string ⟨#[109, 111, 118, 101]⟩, .string ⟨#[97]⟩, .string ⟨#[99, 108, 111, 115, 101]⟩, .string ⟨#[119]⟩]
def namesL : List Value := [.string clS, .string svS]
/-- The tables, the errors and the limit that the calls read. -/
structure Tab (w : World) : Prop where
  pow : Pow w
  sz : 10 ≤ w.heap.size
  mx : ∃ m, w.cell? ⟨2, 0, none⟩ = some (.int .i64 m)
  syn : ∃ tp p, w.var? Tryd.prog "strconv.ErrSyntax" = some #[.iface tp p]
  rng : ∃ tp p, w.var? Tryd.prog "strconv.ErrRange" = some #[.iface tp p]
  rul : w.rangeAt 0 0 rulesL
  nam : w.rangeAt 1 0 namesL
theorem Tab.keep {w w' : World} (h : Tab w) (hs : w.heap.size ≤ w'.heap.size) (hk : ∀ k, k < 10 → w'.heap[k]? = w.heap[k]?) : Tab w' := by
  have cell : ∀ k j, k < 10 → w'.cell? ⟨k, j, none⟩ = w.cell? ⟨k, j, none⟩ := fun k j h => World.cell?_of_block (a := ⟨k, j, none⟩) (hk k h)
  refine ⟨h.pow.of_heap hs (hk 7 (by omega)), Nat.le_trans h.sz hs, ?_, ?_, ?_, fun j v hv => (cell 0 _ (by omega)).trans (h.rul j v hv), fun j v hv => (cell 1 _ (by omega)).trans (h.nam j v hv)⟩
  · obtain ⟨m, hm⟩ := h.mx
    exact ⟨m, (cell 2 0 (by omega)).trans hm⟩
  · obtain ⟨a, b, e⟩ := h.syn
    exact ⟨a, b, (var_of_block gSyn (hk 5 (by omega))).trans e⟩
  · obtain ⟨a, b, e⟩ := h.rng
    exact ⟨a, b, (var_of_block gRng (hk 6 (by omega))).trans e⟩
theorem Tab.below {w w' : World} (h : Tab w) (hb : Below w.heap.size w w') : Tab w' := h.keep hb.size fun k hk => hb.block k (by have := h.sz; omega)
theorem Tab.only {w w' : World} {g : Nat} (h : Tab w) (hg : w.grownBy w' (some g)) (h4 : 10 ≤ g) : Tab w' := h.keep hg.size fun k hk => hg.block k (by have := h.sz; omega) (by intro e; injection e with e; omega)
theorem Tab.drewN {w : World} (h : Tab w) (k : Nat) : Tab (w.drewN k) := h.keep (Nat.le_refl _) fun _ _ => rfl
/-- A body whose block is another one than B. -/
def Off (o : Op) (B : Nat) : Prop := ∀ ad, o.A = some ad → ad.block ≠ B
/-- What a reader answers at the operation in block B. -/
structure Got (f : Nat) (x : ByteArray) (B : Nat) (o : Op) (w : World) (b : Bool) (w' : World) : Prop where
  gr : w.grownBy w' (some B)
  yes : b = true → ∃ o', readF f x o.p = some o'.p ∧ Blk w' B 29 o'.arr ∧ OpOk w' o' ∧ Off o' B
  no : b = false → readF f x o.p = none
theorem OpOk.only {w w' : World} {o : Op} {B : Nat} (h : OpOk w o) (hg : w.grownBy w' (some B)) (hne : ∀ ad, o.A = some ad → ad.block ≠ B) : OpOk w' o := by
  refine ⟨⟨⟨h.y.1.1, fun hn => ?_⟩, h.y.2⟩, h.c0, h.c1, h.k0, h.k1, h.w0, h.w1, h.n0, h.n1, h.m0, h.m1, h.a1⟩
  obtain ⟨ad, e, hb, hc⟩ := h.y.1.2 hn
  refine ⟨ad, e, Nat.lt_of_lt_of_le hb hg.size, fun j u hu => ?_⟩
  rw [← hc j u hu]
  exact World.cell?_of_block (hg.block _ (by rw [block_of_add]; exact hb) (by rw [block_of_add]; intro h2; injection h2 with h2; exact hne ad e h2))
end Go.Proofs.YtbkgmeopdcealaaDoor
