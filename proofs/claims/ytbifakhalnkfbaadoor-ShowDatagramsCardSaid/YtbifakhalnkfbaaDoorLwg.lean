import Derived.Test.YtbifakhalnkfbaaDoorRw
import Derived.Test.YtbifakhalnkfbaaDoorAwk
namespace Go.Proofs.YtbifakhalnkfbaaDoor
open Go.ChangeShapes Go.WideShapes Go.ChangeAt Go.RowKit Go.Sort Go.Deep
set_option linter.unusedVariables false
set_option linter.unusedSimpArgs false
def mn (x : Nat) : Nat := min x 10000
def Dg.q (d : Dg) : Nat := mn d.n + mn d.fr.size + mn d.tw.size
def cnt (ds : List Dg) : Nat := (ds.map Dg.q).sum
theorem cnt_next {ds : List Dg} {k : Nat} {d : Dg} (h : ds[k]? = some d) : cnt (ds.take (k + 1)) = cnt (ds.take k) + d.q := by
  unfold cnt
  rw [take_map_next Dg.q h]; simp
theorem cnt_le (ds : List Dg) : cnt ds ≤ 30000 * ds.length := by
  unfold cnt
  induction ds with
  | nil => simp
  | cons d ds ih =>
    have : d.q ≤ 30000 := by unfold Dg.q mn; omega
    rw [List.map_cons, List.sum_cons, List.length_cons]
    omega
theorem cnt_mem {ds : List Dg} {d : Dg} (h : d ∈ ds) : d.q ≤ cnt ds := by
  unfold cnt
  induction ds with
  | nil => simp at h
  | cons e ds ih =>
    rw [List.map_cons, List.sum_cons]
    rcases List.mem_cons.1 h with rfl | h
    · omega
    · have := ih h; omega
theorem cnt_ok {ds : List Dg} (h : cnt ds ≤ 4000) : ∀ d ∈ ds, d.k ≤ 4000 := fun d hd => by
  have := cnt_mem hd
  unfold Dg.q mn at this
  unfold Dg.k
  omega
def wantT (ds : List Dg) (k : Nat) : ByteArray := if k = 0 then ⟨#[]⟩ else joinT ((ds.take k).map Dg.t)
theorem wantT_one {ds : List Dg} {d : Dg} (h : ds[0]? = some d) : wantT ds 1 = (⟨#[]⟩ : ByteArray) ++ d.t := by
  unfold wantT
  rw [if_neg (by omega), take_map_next Dg.t h, List.take_zero, List.map_nil, List.nil_append, joinT_one]
  apply ba_ext
  simp [ByteArray.data_append]
theorem wantT_next {ds : List Dg} {k : Nat} {d : Dg} (h : ds[k]? = some d) (h0 : 0 < k) : wantT ds (k + 1) = wantT ds k ++ (⟨#[59, 32]⟩ : ByteArray) ++ d.t := by
  unfold wantT
  rw [if_neg (by omega), if_neg (by omega), take_map_next Dg.t h]
  have hl : k < ds.length := (List.getElem?_eq_some_iff.1 h).1
  cases hx : (ds.take k).map Dg.t with
  | nil =>
    have := congrArg List.length hx
    rw [List.length_map, List.length_take, List.length_nil] at this
    omega
  | cons x xs => rw [joinT_snoc]
theorem info43 : (Tryd.prog.info? 43).map (fun i => (i.zero, i.size, i.bytes)) = some (some (.agg #[.int .i64 0, .string ByteArray.empty, .string ByteArray.empty, .slice none 0 0]), 4, 64) := by kernel_rfl
theorem dgs_app (ds : List Dg) (k : Nat) (d : Dg) (h : ds[k]? = some d) : dgCells (ds.take k) ++ d.cells = dgCells (ds.take (k + 1)) := by
  unfold dgCells
  rw [List.take_add_one, h]
  simp
theorem four_facts {W : World} {g : Nat} {t : TypeId} {v0 v1 v2 v3 : Value} (h : Blk W g t #[v0, v1, v2, v3]) : W.cell? ⟨g, 0, none⟩ = some v0 ∧ W.cell? ⟨g, 1, none⟩ = some v1 ∧ W.cell? ⟨g, 2, none⟩ = some v2 ∧ W.cell? ⟨g, 3, none⟩ = some v3 :=
  ⟨(h.cell 0).trans rfl, (h.cell 1).trans rfl, (h.cell 2).trans rfl, (h.cell 3).trans rfl⟩
set_option maxRecDepth 100000 in
set_option maxHeartbeats 4000000 in
/-- ShowDatagrams. -/
theorem dgrams_law (w : World) (A : Option Addr) (n cap : Nat) (ds : List Dg) (hD : Dgs w A n ds) (hn : n ≤ maxLen) (hT : Tab w) :
    Calls Tryd.prog 5 #[.slice A n cap] w fun e w' => e = .returned (.bool true) ∧ Below w.heap.size w w' := by
  have hl := hD.2.1
  have HD := Lib.hid hD
  have HT := Lib.hid hT
  have HL := Lib.hid hl
  have HW := Lib.hid (fun W (h : Tab W) => awake_any W h)
  have hnm : n ≤ 9223372036854775807 := by unfold maxLen at hn; omega
  clear hD hT hl hn
  go_enter Tryd.func5, Tryd.ntmps5
  go_wp2_with fail
  go_loopw [3, 4] (fun s i wr => ∃ k : Nat, s = .int .i64 ((cnt (ds.take k) : Nat) : Int) ∧ i = .int .i64 k ∧ k ≤ n ∧ k ≤ 100 ∧ Below w.heap.size w wr) (fun _ i _ => 100 - (intOf i).toNat)
  case atStart => exact ⟨0, rfl, rfl, by omega, by omega, Below.refl _ _⟩
  case round =>
    obtain ⟨k, rfl, rfl, hkn, hk1, hb⟩ := hrel
    have HB := Lib.hid hb
    have hcb : cnt (ds.take k) ≤ 3000000 := Nat.le_trans (cnt_le _) (by rw [List.length_take]; omega)
    have hki : (k : Int) ≤ 100 := by omega
    have hsz := hb.size
    clear hb
    by_cases hlt : k < n ∧ k < 100
    · obtain ⟨b, of, d, rfl, hbw, hdk, hok, h4⟩ := HD.out.at_ hlt.1
      have h4r := h4.below HB.out hbw
      have HNX := Lib.hid (cnt_next hdk)
      have hf1 := hok.f1
      have ht1 := hok.t1
      have hdn : d.n ≤ maxLen := Nat.le_trans hok.c0 hok.c1
      obtain ⟨id, fr, tw, dA, dn, dc, dbs⟩ := d
      obtain ⟨c0, c1, c2, c3⟩ := h4r
      simp only at c0 c1 c2 c3 hf1 ht1 hdn
      unfold maxLen at hf1 ht1 hdn
      obtain ⟨p1, hp1⟩ : ∃ p, mn dn = p := ⟨_, rfl⟩
      obtain ⟨p2, hp2⟩ : ∃ p, mn fr.size = p := ⟨_, rfl⟩
      obtain ⟨p3, hp3⟩ : ∃ p, mn tw.size = p := ⟨_, rfl⟩
      have HNQ := Lib.hid (show (⟨id, fr, tw, dA, dn, dc, dbs⟩ : Dg).q = p1 + p2 + p3 by unfold Dg.q; rw [hp1, hp2, hp3])
      have m1 : min (dn : Int) 10000 = (p1 : Int) := by unfold mn at hp1; omega
      have m2 : min (fr.size : Int) 10000 = (p2 : Int) := by unfold mn at hp2; omega
      have m3 : min (tw.size : Int) 10000 = (p3 : Int) := by unfold mn at hp3; omega
      have q1 : p1 ≤ 10000 := by unfold mn at hp1; omega
      have q2 : p2 ≤ 10000 := by unfold mn at hp2; omega
      have q3 : p3 ≤ 10000 := by unfold mn at hp3; omega
      obtain ⟨S, hS⟩ : ∃ S, cnt (ds.take k) = S := ⟨_, rfl⟩
      rw [hS] at hcb ⊢
      have HS := Lib.hid hS
      have hw1 : IntKind.i64.wrap ((S : Int) + p1) = ((S + p1 : Nat) : Int) := by rw [IntWalk.i64_in _ (by omega)]; omega
      have hw2 : IntKind.i64.wrap ((S : Int) + p1 + p2) = (S : Int) + p1 + p2 := IntWalk.i64_in _ (by omega)
      have hw3 : IntKind.i64.wrap ((S : Int) + p1 + p2 + p3) = (S : Int) + p1 + p2 + p3 := IntWalk.i64_in _ (by omega)
      have hk2 : (k : Int) < (n : Int) := by omega
      have hk3 : (k : Int) < 100 := by omega
      have hbr : b < wr.heap.size := by omega
      clear h4 hok hdk hp1 hp2 hp3 hS
      go_upto_region 5 with (fail)
      have hR := later_below
      refine wp_region_later (X := []) hR (by kernel_rfl) ?_
      refine WK.pure hR (i := 0) (v := Value.int IntKind.i64 S) rfl (by kernel_rfl) (by kernel_rfl) (by kernel_rfl) (fun _ _ _ h => h) (by kernel_rfl) (fun wz => by go_simp) ?_
      refine WK.frame (a' := { tmps := #[Value.slice (some { block := b, off := of }) n cap, undef, Value.bool false, Value.int IntKind.i64 S, Value.int IntKind.i64 k, undef, undef, undef, undef, Value.int IntKind.i64 k, Value.slice (some { block := b, off := of }) n cap, Value.int IntKind.i64 n, Value.bool true, Value.bool true, Value.int IntKind.i64 k, Value.bool true, Value.bool true, u17, u18, Value.int IntKind.i64 S, u20, u21, u22, u23, u24, u25, u26, u27, u28, u29, u30, u31, u32, u33, u34, u35, u36, u37, u38, u39, u40, u41, u42, u43, undef, undef, undef, undef, undef, undef, undef, undef, undef, undef, undef, undef, undef, undef, undef, undef, undef, undef, undef, undef, undef, undef, undef, undef, undef, undef, undef, undef, undef, undef, undef, undef, undef, undef, undef, undef, undef, undef, undef, undef, undef, undef, undef, undef, undef, undef, undef, undef, undef, undef, undef, undef], defers := [] }) (by kernel_rfl) ?_
      refine WK.pure hR (i := 1) (v := Value.slice (some { block := b, off := of }) n cap) rfl (by kernel_rfl) (by kernel_rfl) (by kernel_rfl) (fun _ _ _ h => h) (by kernel_rfl) (fun wz => by go_simp) ?_
      refine WK.frame (a' := { tmps := #[Value.slice (some { block := b, off := of }) n cap, undef, Value.bool false, Value.int IntKind.i64 S, Value.int IntKind.i64 k, undef, undef, undef, undef, Value.int IntKind.i64 k, Value.slice (some { block := b, off := of }) n cap, Value.int IntKind.i64 n, Value.bool true, Value.bool true, Value.int IntKind.i64 k, Value.bool true, Value.bool true, u17, u18, Value.int IntKind.i64 S, Value.slice (some { block := b, off := of }) n cap, u21, u22, u23, u24, u25, u26, u27, u28, u29, u30, u31, u32, u33, u34, u35, u36, u37, u38, u39, u40, u41, u42, u43, undef, undef, undef, undef, undef, undef, undef, undef, undef, undef, undef, undef, undef, undef, undef, undef, undef, undef, undef, undef, undef, undef, undef, undef, undef, undef, undef, undef, undef, undef, undef, undef, undef, undef, undef, undef, undef, undef, undef, undef, undef, undef, undef, undef, undef, undef, undef, undef, undef, undef, undef, undef], defers := [] }) (by kernel_rfl) ?_
      refine WK.pure hR (i := 2) (v := Value.int IntKind.i64 k) rfl (by kernel_rfl) (by kernel_rfl) (by kernel_rfl) (fun _ _ _ h => h) (by kernel_rfl) (fun wz => by go_simp) ?_
      refine WK.frame (a' := { tmps := #[Value.slice (some { block := b, off := of }) n cap, undef, Value.bool false, Value.int IntKind.i64 S, Value.int IntKind.i64 k, undef, undef, undef, undef, Value.int IntKind.i64 k, Value.slice (some { block := b, off := of }) n cap, Value.int IntKind.i64 n, Value.bool true, Value.bool true, Value.int IntKind.i64 k, Value.bool true, Value.bool true, u17, u18, Value.int IntKind.i64 S, Value.slice (some { block := b, off := of }) n cap, Value.int IntKind.i64 k, u22, u23, u24, u25, u26, u27, u28, u29, u30, u31, u32, u33, u34, u35, u36, u37, u38, u39, u40, u41, u42, u43, undef, undef, undef, undef, undef, undef, undef, undef, undef, undef, undef, undef, undef, undef, undef, undef, undef, undef, undef, undef, undef, undef, undef, undef, undef, undef, undef, undef, undef, undef, undef, undef, undef, undef, undef, undef, undef, undef, undef, undef, undef, undef, undef, undef, undef, undef, undef, undef, undef, undef, undef, undef], defers := [] }) (by kernel_rfl) ?_
      refine WK.pure hR (i := 3) (v := Value.pointer (some { block := b, off := of + k * 4 })) rfl (by kernel_rfl) (by kernel_rfl) (by kernel_rfl) (fun _ _ _ h => h) (by kernel_rfl) (fun wz => by go_simp; first | done | rfl) ?_
      refine WK.frame (a' := { tmps := #[Value.slice (some { block := b, off := of }) n cap, undef, Value.bool false, Value.int IntKind.i64 S, Value.int IntKind.i64 k, undef, undef, undef, undef, Value.int IntKind.i64 k, Value.slice (some { block := b, off := of }) n cap, Value.int IntKind.i64 n, Value.bool true, Value.bool true, Value.int IntKind.i64 k, Value.bool true, Value.bool true, u17, u18, Value.int IntKind.i64 S, Value.slice (some { block := b, off := of }) n cap, Value.int IntKind.i64 k, Value.pointer (some { block := b, off := of + k * 4 }), u23, u24, u25, u26, u27, u28, u29, u30, u31, u32, u33, u34, u35, u36, u37, u38, u39, u40, u41, u42, u43, undef, undef, undef, undef, undef, undef, undef, undef, undef, undef, undef, undef, undef, undef, undef, undef, undef, undef, undef, undef, undef, undef, undef, undef, undef, undef, undef, undef, undef, undef, undef, undef, undef, undef, undef, undef, undef, undef, undef, undef, undef, undef, undef, undef, undef, undef, undef, undef, undef, undef, undef, undef], defers := [] }) (by kernel_rfl) ?_
      refine WK.pure hR (i := 4) (v := Value.pointer (some { block := b, off := of + k * 4 + 3 })) rfl (by kernel_rfl) (by kernel_rfl) (by kernel_rfl) (fun _ _ _ h => h) (by kernel_rfl) (fun wz => by go_simp; first | done | rfl) ?_
      refine WK.frame (a' := { tmps := #[Value.slice (some { block := b, off := of }) n cap, undef, Value.bool false, Value.int IntKind.i64 S, Value.int IntKind.i64 k, undef, undef, undef, undef, Value.int IntKind.i64 k, Value.slice (some { block := b, off := of }) n cap, Value.int IntKind.i64 n, Value.bool true, Value.bool true, Value.int IntKind.i64 k, Value.bool true, Value.bool true, u17, u18, Value.int IntKind.i64 S, Value.slice (some { block := b, off := of }) n cap, Value.int IntKind.i64 k, Value.pointer (some { block := b, off := of + k * 4 }), Value.pointer (some { block := b, off := of + k * 4 + 3 }), u24, u25, u26, u27, u28, u29, u30, u31, u32, u33, u34, u35, u36, u37, u38, u39, u40, u41, u42, u43, undef, undef, undef, undef, undef, undef, undef, undef, undef, undef, undef, undef, undef, undef, undef, undef, undef, undef, undef, undef, undef, undef, undef, undef, undef, undef, undef, undef, undef, undef, undef, undef, undef, undef, undef, undef, undef, undef, undef, undef, undef, undef, undef, undef, undef, undef, undef, undef, undef, undef, undef, undef], defers := [] }) (by kernel_rfl) ?_
      refine WK.take hR (i := 5) (v := Value.slice dA dn dc) rfl (by kernel_rfl) (by kernel_rfl) (by kernel_rfl) (by kernel_rfl) (fun _ _ _ h => h) (YK.run (by kernel_rfl) (fun wz hz => by have hcell := (hz.cell (p := ⟨b, _, none⟩) hbr).trans c3; go_simp)) ?_
      refine WK.frame (a' := { tmps := #[Value.slice (some { block := b, off := of }) n cap, undef, Value.bool false, Value.int IntKind.i64 S, Value.int IntKind.i64 k, undef, undef, undef, undef, Value.int IntKind.i64 k, Value.slice (some { block := b, off := of }) n cap, Value.int IntKind.i64 n, Value.bool true, Value.bool true, Value.int IntKind.i64 k, Value.bool true, Value.bool true, u17, u18, Value.int IntKind.i64 S, Value.slice (some { block := b, off := of }) n cap, Value.int IntKind.i64 k, Value.pointer (some { block := b, off := of + k * 4 }), Value.pointer (some { block := b, off := of + k * 4 + 3 }), Value.slice dA dn dc, u25, u26, u27, u28, u29, u30, u31, u32, u33, u34, u35, u36, u37, u38, u39, u40, u41, u42, u43, undef, undef, undef, undef, undef, undef, undef, undef, undef, undef, undef, undef, undef, undef, undef, undef, undef, undef, undef, undef, undef, undef, undef, undef, undef, undef, undef, undef, undef, undef, undef, undef, undef, undef, undef, undef, undef, undef, undef, undef, undef, undef, undef, undef, undef, undef, undef, undef, undef, undef, undef, undef], defers := [] }) (by kernel_rfl) ?_
      refine WK.pure hR (i := 6) (v := Value.int IntKind.i64 dn) rfl (by kernel_rfl) (by kernel_rfl) (by kernel_rfl) (fun _ _ _ h => h) (by kernel_rfl) (fun wz => by go_simp; first | done | rfl) ?_
      refine WK.frame (a' := { tmps := #[Value.slice (some { block := b, off := of }) n cap, undef, Value.bool false, Value.int IntKind.i64 S, Value.int IntKind.i64 k, undef, undef, undef, undef, Value.int IntKind.i64 k, Value.slice (some { block := b, off := of }) n cap, Value.int IntKind.i64 n, Value.bool true, Value.bool true, Value.int IntKind.i64 k, Value.bool true, Value.bool true, u17, u18, Value.int IntKind.i64 S, Value.slice (some { block := b, off := of }) n cap, Value.int IntKind.i64 k, Value.pointer (some { block := b, off := of + k * 4 }), Value.pointer (some { block := b, off := of + k * 4 + 3 }), Value.slice dA dn dc, Value.int IntKind.i64 dn, u26, u27, u28, u29, u30, u31, u32, u33, u34, u35, u36, u37, u38, u39, u40, u41, u42, u43, undef, undef, undef, undef, undef, undef, undef, undef, undef, undef, undef, undef, undef, undef, undef, undef, undef, undef, undef, undef, undef, undef, undef, undef, undef, undef, undef, undef, undef, undef, undef, undef, undef, undef, undef, undef, undef, undef, undef, undef, undef, undef, undef, undef, undef, undef, undef, undef, undef, undef, undef, undef], defers := [] }) (by kernel_rfl) ?_
      refine WK.pure hR (i := 7) (v := Value.int IntKind.i64 p1) rfl (by kernel_rfl) (by kernel_rfl) (by kernel_rfl) (fun _ _ _ h => h) (by kernel_rfl) (fun wz => by go_simp; first | done | rfl) ?_
      refine WK.frame (a' := { tmps := #[Value.slice (some { block := b, off := of }) n cap, undef, Value.bool false, Value.int IntKind.i64 S, Value.int IntKind.i64 k, undef, undef, undef, undef, Value.int IntKind.i64 k, Value.slice (some { block := b, off := of }) n cap, Value.int IntKind.i64 n, Value.bool true, Value.bool true, Value.int IntKind.i64 k, Value.bool true, Value.bool true, u17, u18, Value.int IntKind.i64 S, Value.slice (some { block := b, off := of }) n cap, Value.int IntKind.i64 k, Value.pointer (some { block := b, off := of + k * 4 }), Value.pointer (some { block := b, off := of + k * 4 + 3 }), Value.slice dA dn dc, Value.int IntKind.i64 dn, Value.int IntKind.i64 p1, u27, u28, u29, u30, u31, u32, u33, u34, u35, u36, u37, u38, u39, u40, u41, u42, u43, undef, undef, undef, undef, undef, undef, undef, undef, undef, undef, undef, undef, undef, undef, undef, undef, undef, undef, undef, undef, undef, undef, undef, undef, undef, undef, undef, undef, undef, undef, undef, undef, undef, undef, undef, undef, undef, undef, undef, undef, undef, undef, undef, undef, undef, undef, undef, undef, undef, undef, undef, undef], defers := [] }) (by kernel_rfl) ?_
      refine WK.pure hR (i := 8) (v := Value.int IntKind.i64 (S + p1 : Nat)) rfl (by kernel_rfl) (by kernel_rfl) (by kernel_rfl) (fun _ _ _ h => h) (by kernel_rfl) (fun wz => by go_simp; first | done | rfl) ?_
      refine WK.frame (a' := { tmps := #[Value.slice (some { block := b, off := of }) n cap, undef, Value.bool false, Value.int IntKind.i64 S, Value.int IntKind.i64 k, undef, undef, undef, undef, Value.int IntKind.i64 k, Value.slice (some { block := b, off := of }) n cap, Value.int IntKind.i64 n, Value.bool true, Value.bool true, Value.int IntKind.i64 k, Value.bool true, Value.bool true, u17, u18, Value.int IntKind.i64 S, Value.slice (some { block := b, off := of }) n cap, Value.int IntKind.i64 k, Value.pointer (some { block := b, off := of + k * 4 }), Value.pointer (some { block := b, off := of + k * 4 + 3 }), Value.slice dA dn dc, Value.int IntKind.i64 dn, Value.int IntKind.i64 p1, Value.int IntKind.i64 (S + p1 : Nat), u28, u29, u30, u31, u32, u33, u34, u35, u36, u37, u38, u39, u40, u41, u42, u43, undef, undef, undef, undef, undef, undef, undef, undef, undef, undef, undef, undef, undef, undef, undef, undef, undef, undef, undef, undef, undef, undef, undef, undef, undef, undef, undef, undef, undef, undef, undef, undef, undef, undef, undef, undef, undef, undef, undef, undef, undef, undef, undef, undef, undef, undef, undef, undef, undef, undef, undef, undef], defers := [] }) (by kernel_rfl) ?_
      refine WK.pure hR (i := 9) (v := Value.slice (some { block := b, off := of }) n cap) rfl (by kernel_rfl) (by kernel_rfl) (by kernel_rfl) (fun _ _ _ h => h) (by kernel_rfl) (fun wz => by go_simp) ?_
      refine WK.frame (a' := { tmps := #[Value.slice (some { block := b, off := of }) n cap, undef, Value.bool false, Value.int IntKind.i64 S, Value.int IntKind.i64 k, undef, undef, undef, undef, Value.int IntKind.i64 k, Value.slice (some { block := b, off := of }) n cap, Value.int IntKind.i64 n, Value.bool true, Value.bool true, Value.int IntKind.i64 k, Value.bool true, Value.bool true, u17, u18, Value.int IntKind.i64 S, Value.slice (some { block := b, off := of }) n cap, Value.int IntKind.i64 k, Value.pointer (some { block := b, off := of + k * 4 }), Value.pointer (some { block := b, off := of + k * 4 + 3 }), Value.slice dA dn dc, Value.int IntKind.i64 dn, Value.int IntKind.i64 p1, Value.int IntKind.i64 (S + p1 : Nat), Value.slice (some { block := b, off := of }) n cap, u29, u30, u31, u32, u33, u34, u35, u36, u37, u38, u39, u40, u41, u42, u43, undef, undef, undef, undef, undef, undef, undef, undef, undef, undef, undef, undef, undef, undef, undef, undef, undef, undef, undef, undef, undef, undef, undef, undef, undef, undef, undef, undef, undef, undef, undef, undef, undef, undef, undef, undef, undef, undef, undef, undef, undef, undef, undef, undef, undef, undef, undef, undef, undef, undef, undef, undef], defers := [] }) (by kernel_rfl) ?_
      refine WK.pure hR (i := 10) (v := Value.int IntKind.i64 k) rfl (by kernel_rfl) (by kernel_rfl) (by kernel_rfl) (fun _ _ _ h => h) (by kernel_rfl) (fun wz => by go_simp) ?_
      refine WK.frame (a' := { tmps := #[Value.slice (some { block := b, off := of }) n cap, undef, Value.bool false, Value.int IntKind.i64 S, Value.int IntKind.i64 k, undef, undef, undef, undef, Value.int IntKind.i64 k, Value.slice (some { block := b, off := of }) n cap, Value.int IntKind.i64 n, Value.bool true, Value.bool true, Value.int IntKind.i64 k, Value.bool true, Value.bool true, u17, u18, Value.int IntKind.i64 S, Value.slice (some { block := b, off := of }) n cap, Value.int IntKind.i64 k, Value.pointer (some { block := b, off := of + k * 4 }), Value.pointer (some { block := b, off := of + k * 4 + 3 }), Value.slice dA dn dc, Value.int IntKind.i64 dn, Value.int IntKind.i64 p1, Value.int IntKind.i64 (S + p1 : Nat), Value.slice (some { block := b, off := of }) n cap, Value.int IntKind.i64 k, u30, u31, u32, u33, u34, u35, u36, u37, u38, u39, u40, u41, u42, u43, undef, undef, undef, undef, undef, undef, undef, undef, undef, undef, undef, undef, undef, undef, undef, undef, undef, undef, undef, undef, undef, undef, undef, undef, undef, undef, undef, undef, undef, undef, undef, undef, undef, undef, undef, undef, undef, undef, undef, undef, undef, undef, undef, undef, undef, undef, undef, undef, undef, undef, undef, undef], defers := [] }) (by kernel_rfl) ?_
      refine WK.pure hR (i := 11) (v := Value.pointer (some { block := b, off := of + k * 4 })) rfl (by kernel_rfl) (by kernel_rfl) (by kernel_rfl) (fun _ _ _ h => h) (by kernel_rfl) (fun wz => by go_simp; first | done | rfl) ?_
      refine WK.frame (a' := { tmps := #[Value.slice (some { block := b, off := of }) n cap, undef, Value.bool false, Value.int IntKind.i64 S, Value.int IntKind.i64 k, undef, undef, undef, undef, Value.int IntKind.i64 k, Value.slice (some { block := b, off := of }) n cap, Value.int IntKind.i64 n, Value.bool true, Value.bool true, Value.int IntKind.i64 k, Value.bool true, Value.bool true, u17, u18, Value.int IntKind.i64 S, Value.slice (some { block := b, off := of }) n cap, Value.int IntKind.i64 k, Value.pointer (some { block := b, off := of + k * 4 }), Value.pointer (some { block := b, off := of + k * 4 + 3 }), Value.slice dA dn dc, Value.int IntKind.i64 dn, Value.int IntKind.i64 p1, Value.int IntKind.i64 (S + p1 : Nat), Value.slice (some { block := b, off := of }) n cap, Value.int IntKind.i64 k, Value.pointer (some { block := b, off := of + k * 4 }), u31, u32, u33, u34, u35, u36, u37, u38, u39, u40, u41, u42, u43, undef, undef, undef, undef, undef, undef, undef, undef, undef, undef, undef, undef, undef, undef, undef, undef, undef, undef, undef, undef, undef, undef, undef, undef, undef, undef, undef, undef, undef, undef, undef, undef, undef, undef, undef, undef, undef, undef, undef, undef, undef, undef, undef, undef, undef, undef, undef, undef, undef, undef, undef, undef], defers := [] }) (by kernel_rfl) ?_
      refine WK.pure hR (i := 12) (v := Value.pointer (some { block := b, off := of + k * 4 + 1 })) rfl (by kernel_rfl) (by kernel_rfl) (by kernel_rfl) (fun _ _ _ h => h) (by kernel_rfl) (fun wz => by go_simp; first | done | rfl) ?_
      refine WK.frame (a' := { tmps := #[Value.slice (some { block := b, off := of }) n cap, undef, Value.bool false, Value.int IntKind.i64 S, Value.int IntKind.i64 k, undef, undef, undef, undef, Value.int IntKind.i64 k, Value.slice (some { block := b, off := of }) n cap, Value.int IntKind.i64 n, Value.bool true, Value.bool true, Value.int IntKind.i64 k, Value.bool true, Value.bool true, u17, u18, Value.int IntKind.i64 S, Value.slice (some { block := b, off := of }) n cap, Value.int IntKind.i64 k, Value.pointer (some { block := b, off := of + k * 4 }), Value.pointer (some { block := b, off := of + k * 4 + 3 }), Value.slice dA dn dc, Value.int IntKind.i64 dn, Value.int IntKind.i64 p1, Value.int IntKind.i64 (S + p1 : Nat), Value.slice (some { block := b, off := of }) n cap, Value.int IntKind.i64 k, Value.pointer (some { block := b, off := of + k * 4 }), Value.pointer (some { block := b, off := of + k * 4 + 1 }), u32, u33, u34, u35, u36, u37, u38, u39, u40, u41, u42, u43, undef, undef, undef, undef, undef, undef, undef, undef, undef, undef, undef, undef, undef, undef, undef, undef, undef, undef, undef, undef, undef, undef, undef, undef, undef, undef, undef, undef, undef, undef, undef, undef, undef, undef, undef, undef, undef, undef, undef, undef, undef, undef, undef, undef, undef, undef, undef, undef, undef, undef, undef, undef], defers := [] }) (by kernel_rfl) ?_
      refine WK.take hR (i := 13) (v := Value.string fr) rfl (by kernel_rfl) (by kernel_rfl) (by kernel_rfl) (by kernel_rfl) (fun _ _ _ h => h) (YK.run (by kernel_rfl) (fun wz hz => by have hcell := (hz.cell (p := ⟨b, _, none⟩) hbr).trans c1; go_simp)) ?_
      refine WK.frame (a' := { tmps := #[Value.slice (some { block := b, off := of }) n cap, undef, Value.bool false, Value.int IntKind.i64 S, Value.int IntKind.i64 k, undef, undef, undef, undef, Value.int IntKind.i64 k, Value.slice (some { block := b, off := of }) n cap, Value.int IntKind.i64 n, Value.bool true, Value.bool true, Value.int IntKind.i64 k, Value.bool true, Value.bool true, u17, u18, Value.int IntKind.i64 S, Value.slice (some { block := b, off := of }) n cap, Value.int IntKind.i64 k, Value.pointer (some { block := b, off := of + k * 4 }), Value.pointer (some { block := b, off := of + k * 4 + 3 }), Value.slice dA dn dc, Value.int IntKind.i64 dn, Value.int IntKind.i64 p1, Value.int IntKind.i64 (S + p1 : Nat), Value.slice (some { block := b, off := of }) n cap, Value.int IntKind.i64 k, Value.pointer (some { block := b, off := of + k * 4 }), Value.pointer (some { block := b, off := of + k * 4 + 1 }), Value.string fr, u33, u34, u35, u36, u37, u38, u39, u40, u41, u42, u43, undef, undef, undef, undef, undef, undef, undef, undef, undef, undef, undef, undef, undef, undef, undef, undef, undef, undef, undef, undef, undef, undef, undef, undef, undef, undef, undef, undef, undef, undef, undef, undef, undef, undef, undef, undef, undef, undef, undef, undef, undef, undef, undef, undef, undef, undef, undef, undef, undef, undef, undef, undef], defers := [] }) (by kernel_rfl) ?_
      refine WK.pure hR (i := 14) (v := Value.int IntKind.i64 fr.size) rfl (by kernel_rfl) (by kernel_rfl) (by kernel_rfl) (fun _ _ _ h => h) (by kernel_rfl) (fun wz => by go_simp; first | done | rfl) ?_
      refine WK.frame (a' := { tmps := #[Value.slice (some { block := b, off := of }) n cap, undef, Value.bool false, Value.int IntKind.i64 S, Value.int IntKind.i64 k, undef, undef, undef, undef, Value.int IntKind.i64 k, Value.slice (some { block := b, off := of }) n cap, Value.int IntKind.i64 n, Value.bool true, Value.bool true, Value.int IntKind.i64 k, Value.bool true, Value.bool true, u17, u18, Value.int IntKind.i64 S, Value.slice (some { block := b, off := of }) n cap, Value.int IntKind.i64 k, Value.pointer (some { block := b, off := of + k * 4 }), Value.pointer (some { block := b, off := of + k * 4 + 3 }), Value.slice dA dn dc, Value.int IntKind.i64 dn, Value.int IntKind.i64 p1, Value.int IntKind.i64 (S + p1 : Nat), Value.slice (some { block := b, off := of }) n cap, Value.int IntKind.i64 k, Value.pointer (some { block := b, off := of + k * 4 }), Value.pointer (some { block := b, off := of + k * 4 + 1 }), Value.string fr, Value.int IntKind.i64 fr.size, u34, u35, u36, u37, u38, u39, u40, u41, u42, u43, undef, undef, undef, undef, undef, undef, undef, undef, undef, undef, undef, undef, undef, undef, undef, undef, undef, undef, undef, undef, undef, undef, undef, undef, undef, undef, undef, undef, undef, undef, undef, undef, undef, undef, undef, undef, undef, undef, undef, undef, undef, undef, undef, undef, undef, undef, undef, undef, undef, undef, undef, undef], defers := [] }) (by kernel_rfl) ?_
      refine WK.pure hR (i := 15) (v := Value.int IntKind.i64 p2) rfl (by kernel_rfl) (by kernel_rfl) (by kernel_rfl) (fun _ _ _ h => h) (by kernel_rfl) (fun wz => by go_simp; first | done | rfl) ?_
      refine WK.frame (a' := { tmps := #[Value.slice (some { block := b, off := of }) n cap, undef, Value.bool false, Value.int IntKind.i64 S, Value.int IntKind.i64 k, undef, undef, undef, undef, Value.int IntKind.i64 k, Value.slice (some { block := b, off := of }) n cap, Value.int IntKind.i64 n, Value.bool true, Value.bool true, Value.int IntKind.i64 k, Value.bool true, Value.bool true, u17, u18, Value.int IntKind.i64 S, Value.slice (some { block := b, off := of }) n cap, Value.int IntKind.i64 k, Value.pointer (some { block := b, off := of + k * 4 }), Value.pointer (some { block := b, off := of + k * 4 + 3 }), Value.slice dA dn dc, Value.int IntKind.i64 dn, Value.int IntKind.i64 p1, Value.int IntKind.i64 (S + p1 : Nat), Value.slice (some { block := b, off := of }) n cap, Value.int IntKind.i64 k, Value.pointer (some { block := b, off := of + k * 4 }), Value.pointer (some { block := b, off := of + k * 4 + 1 }), Value.string fr, Value.int IntKind.i64 fr.size, Value.int IntKind.i64 p2, u35, u36, u37, u38, u39, u40, u41, u42, u43, undef, undef, undef, undef, undef, undef, undef, undef, undef, undef, undef, undef, undef, undef, undef, undef, undef, undef, undef, undef, undef, undef, undef, undef, undef, undef, undef, undef, undef, undef, undef, undef, undef, undef, undef, undef, undef, undef, undef, undef, undef, undef, undef, undef, undef, undef, undef, undef, undef, undef, undef, undef], defers := [] }) (by kernel_rfl) ?_
      refine WK.pure hR (i := 16) (v := Value.int IntKind.i64 (S + p1 + p2 : Nat)) rfl (by kernel_rfl) (by kernel_rfl) (by kernel_rfl) (fun _ _ _ h => h) (by kernel_rfl) (fun wz => by go_simp; first | done | rfl) ?_
      refine WK.frame (a' := { tmps := #[Value.slice (some { block := b, off := of }) n cap, undef, Value.bool false, Value.int IntKind.i64 S, Value.int IntKind.i64 k, undef, undef, undef, undef, Value.int IntKind.i64 k, Value.slice (some { block := b, off := of }) n cap, Value.int IntKind.i64 n, Value.bool true, Value.bool true, Value.int IntKind.i64 k, Value.bool true, Value.bool true, u17, u18, Value.int IntKind.i64 S, Value.slice (some { block := b, off := of }) n cap, Value.int IntKind.i64 k, Value.pointer (some { block := b, off := of + k * 4 }), Value.pointer (some { block := b, off := of + k * 4 + 3 }), Value.slice dA dn dc, Value.int IntKind.i64 dn, Value.int IntKind.i64 p1, Value.int IntKind.i64 (S + p1 : Nat), Value.slice (some { block := b, off := of }) n cap, Value.int IntKind.i64 k, Value.pointer (some { block := b, off := of + k * 4 }), Value.pointer (some { block := b, off := of + k * 4 + 1 }), Value.string fr, Value.int IntKind.i64 fr.size, Value.int IntKind.i64 p2, Value.int IntKind.i64 (S + p1 + p2 : Nat), u36, u37, u38, u39, u40, u41, u42, u43, undef, undef, undef, undef, undef, undef, undef, undef, undef, undef, undef, undef, undef, undef, undef, undef, undef, undef, undef, undef, undef, undef, undef, undef, undef, undef, undef, undef, undef, undef, undef, undef, undef, undef, undef, undef, undef, undef, undef, undef, undef, undef, undef, undef, undef, undef, undef, undef, undef, undef, undef, undef], defers := [] }) (by kernel_rfl) ?_
      refine WK.pure hR (i := 17) (v := Value.slice (some { block := b, off := of }) n cap) rfl (by kernel_rfl) (by kernel_rfl) (by kernel_rfl) (fun _ _ _ h => h) (by kernel_rfl) (fun wz => by go_simp) ?_
      refine WK.frame (a' := { tmps := #[Value.slice (some { block := b, off := of }) n cap, undef, Value.bool false, Value.int IntKind.i64 S, Value.int IntKind.i64 k, undef, undef, undef, undef, Value.int IntKind.i64 k, Value.slice (some { block := b, off := of }) n cap, Value.int IntKind.i64 n, Value.bool true, Value.bool true, Value.int IntKind.i64 k, Value.bool true, Value.bool true, u17, u18, Value.int IntKind.i64 S, Value.slice (some { block := b, off := of }) n cap, Value.int IntKind.i64 k, Value.pointer (some { block := b, off := of + k * 4 }), Value.pointer (some { block := b, off := of + k * 4 + 3 }), Value.slice dA dn dc, Value.int IntKind.i64 dn, Value.int IntKind.i64 p1, Value.int IntKind.i64 (S + p1 : Nat), Value.slice (some { block := b, off := of }) n cap, Value.int IntKind.i64 k, Value.pointer (some { block := b, off := of + k * 4 }), Value.pointer (some { block := b, off := of + k * 4 + 1 }), Value.string fr, Value.int IntKind.i64 fr.size, Value.int IntKind.i64 p2, Value.int IntKind.i64 (S + p1 + p2 : Nat), Value.slice (some { block := b, off := of }) n cap, u37, u38, u39, u40, u41, u42, u43, undef, undef, undef, undef, undef, undef, undef, undef, undef, undef, undef, undef, undef, undef, undef, undef, undef, undef, undef, undef, undef, undef, undef, undef, undef, undef, undef, undef, undef, undef, undef, undef, undef, undef, undef, undef, undef, undef, undef, undef, undef, undef, undef, undef, undef, undef, undef, undef, undef, undef, undef, undef], defers := [] }) (by kernel_rfl) ?_
      refine WK.pure hR (i := 18) (v := Value.int IntKind.i64 k) rfl (by kernel_rfl) (by kernel_rfl) (by kernel_rfl) (fun _ _ _ h => h) (by kernel_rfl) (fun wz => by go_simp) ?_
      refine WK.frame (a' := { tmps := #[Value.slice (some { block := b, off := of }) n cap, undef, Value.bool false, Value.int IntKind.i64 S, Value.int IntKind.i64 k, undef, undef, undef, undef, Value.int IntKind.i64 k, Value.slice (some { block := b, off := of }) n cap, Value.int IntKind.i64 n, Value.bool true, Value.bool true, Value.int IntKind.i64 k, Value.bool true, Value.bool true, u17, u18, Value.int IntKind.i64 S, Value.slice (some { block := b, off := of }) n cap, Value.int IntKind.i64 k, Value.pointer (some { block := b, off := of + k * 4 }), Value.pointer (some { block := b, off := of + k * 4 + 3 }), Value.slice dA dn dc, Value.int IntKind.i64 dn, Value.int IntKind.i64 p1, Value.int IntKind.i64 (S + p1 : Nat), Value.slice (some { block := b, off := of }) n cap, Value.int IntKind.i64 k, Value.pointer (some { block := b, off := of + k * 4 }), Value.pointer (some { block := b, off := of + k * 4 + 1 }), Value.string fr, Value.int IntKind.i64 fr.size, Value.int IntKind.i64 p2, Value.int IntKind.i64 (S + p1 + p2 : Nat), Value.slice (some { block := b, off := of }) n cap, Value.int IntKind.i64 k, u38, u39, u40, u41, u42, u43, undef, undef, undef, undef, undef, undef, undef, undef, undef, undef, undef, undef, undef, undef, undef, undef, undef, undef, undef, undef, undef, undef, undef, undef, undef, undef, undef, undef, undef, undef, undef, undef, undef, undef, undef, undef, undef, undef, undef, undef, undef, undef, undef, undef, undef, undef, undef, undef, undef, undef, undef, undef], defers := [] }) (by kernel_rfl) ?_
      refine WK.pure hR (i := 19) (v := Value.pointer (some { block := b, off := of + k * 4 })) rfl (by kernel_rfl) (by kernel_rfl) (by kernel_rfl) (fun _ _ _ h => h) (by kernel_rfl) (fun wz => by go_simp; first | done | rfl) ?_
      refine WK.frame (a' := { tmps := #[Value.slice (some { block := b, off := of }) n cap, undef, Value.bool false, Value.int IntKind.i64 S, Value.int IntKind.i64 k, undef, undef, undef, undef, Value.int IntKind.i64 k, Value.slice (some { block := b, off := of }) n cap, Value.int IntKind.i64 n, Value.bool true, Value.bool true, Value.int IntKind.i64 k, Value.bool true, Value.bool true, u17, u18, Value.int IntKind.i64 S, Value.slice (some { block := b, off := of }) n cap, Value.int IntKind.i64 k, Value.pointer (some { block := b, off := of + k * 4 }), Value.pointer (some { block := b, off := of + k * 4 + 3 }), Value.slice dA dn dc, Value.int IntKind.i64 dn, Value.int IntKind.i64 p1, Value.int IntKind.i64 (S + p1 : Nat), Value.slice (some { block := b, off := of }) n cap, Value.int IntKind.i64 k, Value.pointer (some { block := b, off := of + k * 4 }), Value.pointer (some { block := b, off := of + k * 4 + 1 }), Value.string fr, Value.int IntKind.i64 fr.size, Value.int IntKind.i64 p2, Value.int IntKind.i64 (S + p1 + p2 : Nat), Value.slice (some { block := b, off := of }) n cap, Value.int IntKind.i64 k, Value.pointer (some { block := b, off := of + k * 4 }), u39, u40, u41, u42, u43, undef, undef, undef, undef, undef, undef, undef, undef, undef, undef, undef, undef, undef, undef, undef, undef, undef, undef, undef, undef, undef, undef, undef, undef, undef, undef, undef, undef, undef, undef, undef, undef, undef, undef, undef, undef, undef, undef, undef, undef, undef, undef, undef, undef, undef, undef, undef, undef, undef, undef, undef, undef], defers := [] }) (by kernel_rfl) ?_
      refine WK.pure hR (i := 20) (v := Value.pointer (some { block := b, off := of + k * 4 + 2 })) rfl (by kernel_rfl) (by kernel_rfl) (by kernel_rfl) (fun _ _ _ h => h) (by kernel_rfl) (fun wz => by go_simp; first | done | rfl) ?_
      refine WK.frame (a' := { tmps := #[Value.slice (some { block := b, off := of }) n cap, undef, Value.bool false, Value.int IntKind.i64 S, Value.int IntKind.i64 k, undef, undef, undef, undef, Value.int IntKind.i64 k, Value.slice (some { block := b, off := of }) n cap, Value.int IntKind.i64 n, Value.bool true, Value.bool true, Value.int IntKind.i64 k, Value.bool true, Value.bool true, u17, u18, Value.int IntKind.i64 S, Value.slice (some { block := b, off := of }) n cap, Value.int IntKind.i64 k, Value.pointer (some { block := b, off := of + k * 4 }), Value.pointer (some { block := b, off := of + k * 4 + 3 }), Value.slice dA dn dc, Value.int IntKind.i64 dn, Value.int IntKind.i64 p1, Value.int IntKind.i64 (S + p1 : Nat), Value.slice (some { block := b, off := of }) n cap, Value.int IntKind.i64 k, Value.pointer (some { block := b, off := of + k * 4 }), Value.pointer (some { block := b, off := of + k * 4 + 1 }), Value.string fr, Value.int IntKind.i64 fr.size, Value.int IntKind.i64 p2, Value.int IntKind.i64 (S + p1 + p2 : Nat), Value.slice (some { block := b, off := of }) n cap, Value.int IntKind.i64 k, Value.pointer (some { block := b, off := of + k * 4 }), Value.pointer (some { block := b, off := of + k * 4 + 2 }), u40, u41, u42, u43, undef, undef, undef, undef, undef, undef, undef, undef, undef, undef, undef, undef, undef, undef, undef, undef, undef, undef, undef, undef, undef, undef, undef, undef, undef, undef, undef, undef, undef, undef, undef, undef, undef, undef, undef, undef, undef, undef, undef, undef, undef, undef, undef, undef, undef, undef, undef, undef, undef, undef, undef, undef], defers := [] }) (by kernel_rfl) ?_
      refine WK.take hR (i := 21) (v := Value.string tw) rfl (by kernel_rfl) (by kernel_rfl) (by kernel_rfl) (by kernel_rfl) (fun _ _ _ h => h) (YK.run (by kernel_rfl) (fun wz hz => by have hcell := (hz.cell (p := ⟨b, _, none⟩) hbr).trans c2; go_simp)) ?_
      refine WK.frame (a' := { tmps := #[Value.slice (some { block := b, off := of }) n cap, undef, Value.bool false, Value.int IntKind.i64 S, Value.int IntKind.i64 k, undef, undef, undef, undef, Value.int IntKind.i64 k, Value.slice (some { block := b, off := of }) n cap, Value.int IntKind.i64 n, Value.bool true, Value.bool true, Value.int IntKind.i64 k, Value.bool true, Value.bool true, u17, u18, Value.int IntKind.i64 S, Value.slice (some { block := b, off := of }) n cap, Value.int IntKind.i64 k, Value.pointer (some { block := b, off := of + k * 4 }), Value.pointer (some { block := b, off := of + k * 4 + 3 }), Value.slice dA dn dc, Value.int IntKind.i64 dn, Value.int IntKind.i64 p1, Value.int IntKind.i64 (S + p1 : Nat), Value.slice (some { block := b, off := of }) n cap, Value.int IntKind.i64 k, Value.pointer (some { block := b, off := of + k * 4 }), Value.pointer (some { block := b, off := of + k * 4 + 1 }), Value.string fr, Value.int IntKind.i64 fr.size, Value.int IntKind.i64 p2, Value.int IntKind.i64 (S + p1 + p2 : Nat), Value.slice (some { block := b, off := of }) n cap, Value.int IntKind.i64 k, Value.pointer (some { block := b, off := of + k * 4 }), Value.pointer (some { block := b, off := of + k * 4 + 2 }), Value.string tw, u41, u42, u43, undef, undef, undef, undef, undef, undef, undef, undef, undef, undef, undef, undef, undef, undef, undef, undef, undef, undef, undef, undef, undef, undef, undef, undef, undef, undef, undef, undef, undef, undef, undef, undef, undef, undef, undef, undef, undef, undef, undef, undef, undef, undef, undef, undef, undef, undef, undef, undef, undef, undef, undef, undef], defers := [] }) (by kernel_rfl) ?_
      refine WK.pure hR (i := 22) (v := Value.int IntKind.i64 tw.size) rfl (by kernel_rfl) (by kernel_rfl) (by kernel_rfl) (fun _ _ _ h => h) (by kernel_rfl) (fun wz => by go_simp; first | done | rfl) ?_
      refine WK.frame (a' := { tmps := #[Value.slice (some { block := b, off := of }) n cap, undef, Value.bool false, Value.int IntKind.i64 S, Value.int IntKind.i64 k, undef, undef, undef, undef, Value.int IntKind.i64 k, Value.slice (some { block := b, off := of }) n cap, Value.int IntKind.i64 n, Value.bool true, Value.bool true, Value.int IntKind.i64 k, Value.bool true, Value.bool true, u17, u18, Value.int IntKind.i64 S, Value.slice (some { block := b, off := of }) n cap, Value.int IntKind.i64 k, Value.pointer (some { block := b, off := of + k * 4 }), Value.pointer (some { block := b, off := of + k * 4 + 3 }), Value.slice dA dn dc, Value.int IntKind.i64 dn, Value.int IntKind.i64 p1, Value.int IntKind.i64 (S + p1 : Nat), Value.slice (some { block := b, off := of }) n cap, Value.int IntKind.i64 k, Value.pointer (some { block := b, off := of + k * 4 }), Value.pointer (some { block := b, off := of + k * 4 + 1 }), Value.string fr, Value.int IntKind.i64 fr.size, Value.int IntKind.i64 p2, Value.int IntKind.i64 (S + p1 + p2 : Nat), Value.slice (some { block := b, off := of }) n cap, Value.int IntKind.i64 k, Value.pointer (some { block := b, off := of + k * 4 }), Value.pointer (some { block := b, off := of + k * 4 + 2 }), Value.string tw, Value.int IntKind.i64 tw.size, u42, u43, undef, undef, undef, undef, undef, undef, undef, undef, undef, undef, undef, undef, undef, undef, undef, undef, undef, undef, undef, undef, undef, undef, undef, undef, undef, undef, undef, undef, undef, undef, undef, undef, undef, undef, undef, undef, undef, undef, undef, undef, undef, undef, undef, undef, undef, undef, undef, undef, undef, undef, undef, undef], defers := [] }) (by kernel_rfl) ?_
      refine WK.pure hR (i := 23) (v := Value.int IntKind.i64 p3) rfl (by kernel_rfl) (by kernel_rfl) (by kernel_rfl) (fun _ _ _ h => h) (by kernel_rfl) (fun wz => by go_simp; first | done | rfl) ?_
      refine WK.frame (a' := { tmps := #[Value.slice (some { block := b, off := of }) n cap, undef, Value.bool false, Value.int IntKind.i64 S, Value.int IntKind.i64 k, undef, undef, undef, undef, Value.int IntKind.i64 k, Value.slice (some { block := b, off := of }) n cap, Value.int IntKind.i64 n, Value.bool true, Value.bool true, Value.int IntKind.i64 k, Value.bool true, Value.bool true, u17, u18, Value.int IntKind.i64 S, Value.slice (some { block := b, off := of }) n cap, Value.int IntKind.i64 k, Value.pointer (some { block := b, off := of + k * 4 }), Value.pointer (some { block := b, off := of + k * 4 + 3 }), Value.slice dA dn dc, Value.int IntKind.i64 dn, Value.int IntKind.i64 p1, Value.int IntKind.i64 (S + p1 : Nat), Value.slice (some { block := b, off := of }) n cap, Value.int IntKind.i64 k, Value.pointer (some { block := b, off := of + k * 4 }), Value.pointer (some { block := b, off := of + k * 4 + 1 }), Value.string fr, Value.int IntKind.i64 fr.size, Value.int IntKind.i64 p2, Value.int IntKind.i64 (S + p1 + p2 : Nat), Value.slice (some { block := b, off := of }) n cap, Value.int IntKind.i64 k, Value.pointer (some { block := b, off := of + k * 4 }), Value.pointer (some { block := b, off := of + k * 4 + 2 }), Value.string tw, Value.int IntKind.i64 tw.size, Value.int IntKind.i64 p3, u43, undef, undef, undef, undef, undef, undef, undef, undef, undef, undef, undef, undef, undef, undef, undef, undef, undef, undef, undef, undef, undef, undef, undef, undef, undef, undef, undef, undef, undef, undef, undef, undef, undef, undef, undef, undef, undef, undef, undef, undef, undef, undef, undef, undef, undef, undef, undef, undef, undef, undef, undef, undef], defers := [] }) (by kernel_rfl) ?_
      refine WK.pure hR (i := 24) (v := Value.int IntKind.i64 (S + p1 + p2 + p3 : Nat)) rfl (by kernel_rfl) (by kernel_rfl) (by kernel_rfl) (fun _ _ _ h => h) (by kernel_rfl) (fun wz => by go_simp; first | done | rfl) ?_
      refine WK.frame (a' := { tmps := #[Value.slice (some { block := b, off := of }) n cap, undef, Value.bool false, Value.int IntKind.i64 S, Value.int IntKind.i64 k, undef, undef, undef, undef, Value.int IntKind.i64 k, Value.slice (some { block := b, off := of }) n cap, Value.int IntKind.i64 n, Value.bool true, Value.bool true, Value.int IntKind.i64 k, Value.bool true, Value.bool true, u17, u18, Value.int IntKind.i64 S, Value.slice (some { block := b, off := of }) n cap, Value.int IntKind.i64 k, Value.pointer (some { block := b, off := of + k * 4 }), Value.pointer (some { block := b, off := of + k * 4 + 3 }), Value.slice dA dn dc, Value.int IntKind.i64 dn, Value.int IntKind.i64 p1, Value.int IntKind.i64 (S + p1 : Nat), Value.slice (some { block := b, off := of }) n cap, Value.int IntKind.i64 k, Value.pointer (some { block := b, off := of + k * 4 }), Value.pointer (some { block := b, off := of + k * 4 + 1 }), Value.string fr, Value.int IntKind.i64 fr.size, Value.int IntKind.i64 p2, Value.int IntKind.i64 (S + p1 + p2 : Nat), Value.slice (some { block := b, off := of }) n cap, Value.int IntKind.i64 k, Value.pointer (some { block := b, off := of + k * 4 }), Value.pointer (some { block := b, off := of + k * 4 + 2 }), Value.string tw, Value.int IntKind.i64 tw.size, Value.int IntKind.i64 p3, Value.int IntKind.i64 (S + p1 + p2 + p3 : Nat), undef, undef, undef, undef, undef, undef, undef, undef, undef, undef, undef, undef, undef, undef, undef, undef, undef, undef, undef, undef, undef, undef, undef, undef, undef, undef, undef, undef, undef, undef, undef, undef, undef, undef, undef, undef, undef, undef, undef, undef, undef, undef, undef, undef, undef, undef, undef, undef, undef, undef, undef, undef], defers := [] }) (by kernel_rfl) ?_
      refine WK.pure hR (i := 25) (v := Value.int IntKind.i64 (S + p1 + p2 + p3 : Nat)) rfl (by kernel_rfl) (by kernel_rfl) (by kernel_rfl) (fun _ _ _ h => h) (by kernel_rfl) (fun wz => by go_simp) ?_
      refine WK.frame (a' := { tmps := #[Value.slice (some { block := b, off := of }) n cap, undef, Value.bool false, Value.int IntKind.i64 (S + p1 + p2 + p3 : Nat), Value.int IntKind.i64 k, undef, undef, undef, undef, Value.int IntKind.i64 k, Value.slice (some { block := b, off := of }) n cap, Value.int IntKind.i64 n, Value.bool true, Value.bool true, Value.int IntKind.i64 k, Value.bool true, Value.bool true, u17, u18, Value.int IntKind.i64 S, Value.slice (some { block := b, off := of }) n cap, Value.int IntKind.i64 k, Value.pointer (some { block := b, off := of + k * 4 }), Value.pointer (some { block := b, off := of + k * 4 + 3 }), Value.slice dA dn dc, Value.int IntKind.i64 dn, Value.int IntKind.i64 p1, Value.int IntKind.i64 (S + p1 : Nat), Value.slice (some { block := b, off := of }) n cap, Value.int IntKind.i64 k, Value.pointer (some { block := b, off := of + k * 4 }), Value.pointer (some { block := b, off := of + k * 4 + 1 }), Value.string fr, Value.int IntKind.i64 fr.size, Value.int IntKind.i64 p2, Value.int IntKind.i64 (S + p1 + p2 : Nat), Value.slice (some { block := b, off := of }) n cap, Value.int IntKind.i64 k, Value.pointer (some { block := b, off := of + k * 4 }), Value.pointer (some { block := b, off := of + k * 4 + 2 }), Value.string tw, Value.int IntKind.i64 tw.size, Value.int IntKind.i64 p3, Value.int IntKind.i64 (S + p1 + p2 + p3 : Nat), undef, undef, undef, undef, undef, undef, undef, undef, undef, undef, undef, undef, undef, undef, undef, undef, undef, undef, undef, undef, undef, undef, undef, undef, undef, undef, undef, undef, undef, undef, undef, undef, undef, undef, undef, undef, undef, undef, undef, undef, undef, undef, undef, undef, undef, undef, undef, undef, undef, undef, undef, undef], defers := [] }) (by kernel_rfl) ?_
      refine WK.done (by kernel_rfl) (fun wz hz => ?_)
      have HZ := Lib.hid (through HB.out hz)
      have HE := Lib.hid (show S + p1 + p2 + p3 = cnt (ds.take (k + 1)) by rw [HNX.out, HNQ.out, HS.out]; omega)
      clear hz c0 c1 c2 c3 hw1 hw2 hw3 m1 m2 m3
      go_wp2_with fail
      go_roundw
      case rel => exact ⟨k + 1, by rw [HE.out], by first | rfl | go_num, by omega, by omega, HZ.out⟩
      case measure => simp [intOf]; omega
    · have ha := HW.out wr (HT.out.below HB.out)
      by_cases hbig : 20 < n
      · have hb20 : decide (20 < (n : Int)) = true := decide_eq_true (by omega)
        have hex : k = n ∨ (k = 100 ∧ 100 < n) := by omega
        rcases hex with rfl | ⟨rfl, hn1⟩
        · have hx : decide ((k : Int) < (k : Int)) = false := decide_eq_false (by omega)
          go_wp2_with (go_at_call 8; refine ha.mono ?_; rintro _ w2 ⟨rfl, hb⟩; refine Hid.out ?_)
          refine Lib.hid ?_
          have HB2 := Lib.hid (through HB.out hb)
          clear hb ha
          have ha2 := HW.out w2 (HT.out.below HB2.out)
          go_wp2_with (go_at_call 8; refine ha2.mono ?_; rintro _ w3 ⟨rfl, hb⟩; refine Hid.out ?_)
          refine Lib.hid ?_
          clear ha2
          go_wp2_with fail
          all_goals go_ret
          exact ⟨rfl, through HB2.out hb⟩
        · have hx : decide ((100 : Int) < (n : Int)) = true := decide_eq_true (by omega)
          go_wp2_with (go_at_call 8; refine ha.mono ?_; rintro _ w2 ⟨rfl, hb⟩; refine Hid.out ?_)
          refine Lib.hid ?_
          have HB2 := Lib.hid (through HB.out hb)
          clear hb ha
          have ha2 := HW.out w2 (HT.out.below HB2.out)
          go_wp2_with (go_at_call 8; refine ha2.mono ?_; rintro _ w3 ⟨rfl, hb⟩; refine Hid.out ?_)
          refine Lib.hid ?_
          clear ha2
          go_wp2_with fail
          all_goals go_ret
          exact ⟨rfl, through HB2.out hb⟩
      · obtain rfl : k = n := by omega
        have hb20 : decide (20 < (k : Int)) = false := decide_eq_false (by omega)
        have hx : decide ((k : Int) < (k : Int)) = false := decide_eq_false (by omega)
        have htk : ds.take k = ds := List.take_of_length_le (by rw [HL.out]; exact Nat.le_refl _)
        rw [htk] at hcb ⊢
        obtain ⟨S, hS⟩ : ∃ S, cnt ds = S := ⟨_, rfl⟩
        rw [hS] at hcb ⊢
        by_cases hc4 : 4000 < S
        · have hb4 : decide (4000 < (S : Int)) = true := decide_eq_true (by omega)
          clear hS htk
          go_wp2_with (go_at_call 8; refine ha.mono ?_; rintro _ w2 ⟨rfl, hb⟩; refine Hid.out ?_)
          refine Lib.hid ?_
          have HB2 := Lib.hid (through HB.out hb)
          clear hb ha
          have ha2 := HW.out w2 (HT.out.below HB2.out)
          go_wp2_with (go_at_call 8; refine ha2.mono ?_; rintro _ w3 ⟨rfl, hb⟩; refine Hid.out ?_)
          refine Lib.hid ?_
          clear ha2
          go_wp2_with fail
          all_goals go_ret
          exact ⟨rfl, through HB2.out hb⟩
        · have hb4 : decide (4000 < (S : Int)) = false := decide_eq_false (by omega)
          have HC := Lib.hid (cnt_ok (ds := ds) (by omega))
          have hk20 : k ≤ 20 := by omega
          clear hS htk hbig hlt
          go_wp2_with (go_at_call 8; refine ha.mono ?_; rintro _ w2 ⟨rfl, hb⟩; refine Hid.out ?_)
          refine Lib.hid ?_
          have HB2 := Lib.hid (through HB.out hb)
          clear hb ha
          have hs2 := HB2.out.size
          go_wp2_with fail
          go_loopw [5, 6, 7] (fun v s i wx => ∃ j : Nat, i = .int .i64 j ∧ s = .string (wantT ds j) ∧ j ≤ k ∧ wx.ownsRow w.heap.size 43 4 v j (dgCells (ds.take j)) ∧ Below w.heap.size w wx) (fun _ _ i _ => k - (intOf i).toNat)
          case atStart => exact ⟨0, rfl, rfl, by omega, by rw [List.take_zero]; exact World.ownsRow_nil _ _ _ _, HB2.out⟩
          case round =>
            obtain ⟨j, rfl, rfl, hjk, ho, hb⟩ := hrel
            obtain ⟨A1, c1, rfl⟩ := own_form ho
            have HO := Lib.hid ho
            have HBx := Lib.hid hb
            have hsx := hb.size
            clear ho hb
            by_cases hjl : j < k
            · obtain ⟨b, of, d, rfl, hbw, hdj, hok, h4⟩ := HD.out.at_ hjl
              have h4r := h4.below HBx.out hbw
              have H4 := Lib.hid h4r
              have HOK := Lib.hid (hok.below HBx.out)
              have HKD := Lib.hid (HC.out d (List.mem_of_getElem? hdj))
              have HTS := Lib.hid (Dg.t_size hok HKD.out)
              have HDJ := Lib.hid hdj
              have hji : (j : Int) < (k : Int) := by omega
              have hbx : b < wr.heap.size := by omega
              obtain ⟨c0, c1', c2, c3⟩ := h4r
              clear hok h4 hdj
              obtain ⟨id, fr, tw, dA, dn, dc, dbs⟩ := d
              simp only at c0 c1' c2 c3
              go_upto_region 14 with (fail)
              have B4 : Below wr.heap.size wr (wr.alloc (.cells #[.int .i64 id, .string fr, .string tw, .slice dA dn dc] 43)) := (Below.refl _ wr).alloc (Nat.le_refl _) _
              have K4 := Blk.new wr 43 #[.int .i64 id, .string fr, .string tw, .slice dA dn dc]
              have O4 := own_below HO.out B4
              have F4 := H4.out.below B4 hbx
              have D4 := HOK.out.below B4
              have X4 := through HBx.out B4
              obtain ⟨w4, hw4⟩ : ∃ W, wr.alloc (.cells #[.int .i64 id, .string fr, .string tw, .slice dA dn dc] 43) = W := ⟨_, rfl⟩
              rw [hw4] at B4 K4 O4 F4 D4 X4 ⊢
              have hb4 : b < w4.heap.size := Nat.lt_of_lt_of_le hbx B4.size
              clear hw4 B4 c0 c1' c2 c3 HO H4 HOK HBx
              generalize wr.heap.size = q at *
              obtain ⟨TX, hTX⟩ : ∃ x, textD id fr tw dn dbs = x := ⟨_, rfl⟩
              have hS : ∀ W, Below w4.heap.size w4 W → Calls Tryd.prog 15 #[.agg #[.int .i64 id, .string fr, .string tw, .slice dA dn dc]] W fun e w' => e = .returned (.string TX) ∧ Below W.heap.size W w' := fun W h => by
                have := sdg_any id fr tw dA dn dc dbs W (D4.below h).y D4.i0 D4.i1 HKD.out D4.c0 D4.c1 ((HT.out.below X4).below h).pow
                rwa [hTX] at this
              have hR6 : ∀ W, Below w4.heap.size w4 W → Calls Tryd.prog 16 #[.agg #[.int .i64 id, .string fr, .string tw, .slice dA dn dc]] W fun e w' => e = .returned (.string TX) ∧ Below W.heap.size W w' := fun W h => by
                have := rdg_any id fr tw dA dn dc dbs W (D4.below h).y D4.i0 D4.i1 HKD.out D4.c0 D4.c1
                rwa [hTX] at this
              have HTX := Lib.hid hTX
              have HR6 := Lib.hid hR6
              have hltq := K4.lt
              obtain ⟨WJ, hWJ⟩ : ∃ x, wantT ds j = x := ⟨_, rfl⟩
              have HWJ := Lib.hid hWJ
              rw [hWJ]
              have hwz : WJ.size ≤ 100000000 := by
                rw [← hWJ]
                unfold wantT
                split
                · decide
                · exact joinT_size _ (fun x hx => by obtain ⟨d, hd, rfl⟩ := List.mem_map.1 hx; exact Dg.t_size (HD.out.2.2 d (List.mem_of_mem_take hd)) (HC.out d (List.mem_of_mem_take hd))) (by rw [List.length_map, List.length_take]; omega)
              have htz : TX.size ≤ 6000 := by have := HTS.out; unfold Dg.t at this; rw [hTX] at this; exact this
              clear hTX hWJ
              have hR := later_below
              refine wp_region_later (X := []) hR (by kernel_rfl) ?_
              refine WK.take hR (i := 0) (v := Value.agg #[Value.int IntKind.i64 id, Value.string fr, Value.string tw, Value.slice dA dn dc]) rfl (by kernel_rfl) (by kernel_rfl) (by kernel_rfl) (by kernel_rfl) (fun _ _ _ h => h) (YK.run (by kernel_rfl) (fun wz hz => by obtain ⟨a0, a1, a2, a3⟩ := four_facts (K4.below hz hltq); go_simp)) ?_
              refine WK.frame (a' := { tmps := #[Value.slice (some { block := b, off := of }) k cap, undef, u2, Value.int IntKind.i64 S, Value.int IntKind.i64 k, Value.slice A1 j c1, Value.string WJ, Value.int IntKind.i64 j, Value.pointer (some { block := q, off := 0 }), Value.int IntKind.i64 k, Value.slice (some { block := b, off := of }) k cap, Value.int IntKind.i64 k, Value.bool false, Value.bool false, undef, undef, Value.bool false, u17, u18, u19, u20, u21, u22, u23, u24, u25, u26, u27, u28, u29, u30, u31, u32, u33, u34, u35, u36, u37, u38, u39, u40, u41, u42, u43, Value.bool true, Value.bool false, Value.bool false, Value.slice (some { block := b, off := of }) k cap, Value.int IntKind.i64 k, Value.bool false, Value.bool false, Value.bool false, Value.int IntKind.i64 S, Value.bool false, Value.bool false, undef, Value.int IntKind.i64 j, Value.slice (some { block := b, off := of }) k cap, Value.int IntKind.i64 k, Value.bool true, u60, u61, Value.slice (some { block := b, off := of }) k cap, Value.int IntKind.i64 j, Value.pointer (some { block := b, off := of + j * 4 }), Value.agg #[Value.int IntKind.i64 id, Value.string fr, Value.string tw, Value.slice dA dn dc], Value.agg #[Value.int IntKind.i64 id, Value.string fr, Value.string tw, Value.slice dA dn dc], u67, u68, u69, u70, u71, u72, u73, u74, u75, u76, u77, u78, u79, u80, u81, u82, u83, u84, u85, u86, u87, u88, undef, undef, undef, undef, undef, undef, undef], defers := [] }) (by kernel_rfl) ?_
              refine WK.take hR (i := 1) (v := Value.string TX) rfl (by kernel_rfl) (by kernel_rfl) (by kernel_rfl) (by kernel_rfl) (fun _ _ _ h => h) (YK.call hR (by kernel_rfl) (fun wz => by go_simp; first | done | rfl) (fun wz hz => hS wz hz)) ?_
              refine WK.frame (a' := { tmps := #[Value.slice (some { block := b, off := of }) k cap, undef, u2, Value.int IntKind.i64 S, Value.int IntKind.i64 k, Value.slice A1 j c1, Value.string WJ, Value.int IntKind.i64 j, Value.pointer (some { block := q, off := 0 }), Value.int IntKind.i64 k, Value.slice (some { block := b, off := of }) k cap, Value.int IntKind.i64 k, Value.bool false, Value.bool false, undef, undef, Value.bool false, u17, u18, u19, u20, u21, u22, u23, u24, u25, u26, u27, u28, u29, u30, u31, u32, u33, u34, u35, u36, u37, u38, u39, u40, u41, u42, u43, Value.bool true, Value.bool false, Value.bool false, Value.slice (some { block := b, off := of }) k cap, Value.int IntKind.i64 k, Value.bool false, Value.bool false, Value.bool false, Value.int IntKind.i64 S, Value.bool false, Value.bool false, undef, Value.int IntKind.i64 j, Value.slice (some { block := b, off := of }) k cap, Value.int IntKind.i64 k, Value.bool true, u60, u61, Value.slice (some { block := b, off := of }) k cap, Value.int IntKind.i64 j, Value.pointer (some { block := b, off := of + j * 4 }), Value.agg #[Value.int IntKind.i64 id, Value.string fr, Value.string tw, Value.slice dA dn dc], Value.agg #[Value.int IntKind.i64 id, Value.string fr, Value.string tw, Value.slice dA dn dc], Value.string TX, u68, u69, u70, u71, u72, u73, u74, u75, u76, u77, u78, u79, u80, u81, u82, u83, u84, u85, u86, u87, u88, undef, undef, undef, undef, undef, undef, undef], defers := [] }) (by kernel_rfl) ?_
              refine WK.pure hR (i := 2) (v := Value.slice (some { block := b, off := of }) k cap) rfl (by kernel_rfl) (by kernel_rfl) (by kernel_rfl) (fun _ _ _ h => h) (by kernel_rfl) (fun wz => by go_simp) ?_
              refine WK.frame (a' := { tmps := #[Value.slice (some { block := b, off := of }) k cap, undef, u2, Value.int IntKind.i64 S, Value.int IntKind.i64 k, Value.slice A1 j c1, Value.string WJ, Value.int IntKind.i64 j, Value.pointer (some { block := q, off := 0 }), Value.int IntKind.i64 k, Value.slice (some { block := b, off := of }) k cap, Value.int IntKind.i64 k, Value.bool false, Value.bool false, undef, undef, Value.bool false, u17, u18, u19, u20, u21, u22, u23, u24, u25, u26, u27, u28, u29, u30, u31, u32, u33, u34, u35, u36, u37, u38, u39, u40, u41, u42, u43, Value.bool true, Value.bool false, Value.bool false, Value.slice (some { block := b, off := of }) k cap, Value.int IntKind.i64 k, Value.bool false, Value.bool false, Value.bool false, Value.int IntKind.i64 S, Value.bool false, Value.bool false, undef, Value.int IntKind.i64 j, Value.slice (some { block := b, off := of }) k cap, Value.int IntKind.i64 k, Value.bool true, u60, u61, Value.slice (some { block := b, off := of }) k cap, Value.int IntKind.i64 j, Value.pointer (some { block := b, off := of + j * 4 }), Value.agg #[Value.int IntKind.i64 id, Value.string fr, Value.string tw, Value.slice dA dn dc], Value.agg #[Value.int IntKind.i64 id, Value.string fr, Value.string tw, Value.slice dA dn dc], Value.string TX, Value.slice (some { block := b, off := of }) k cap, u69, u70, u71, u72, u73, u74, u75, u76, u77, u78, u79, u80, u81, u82, u83, u84, u85, u86, u87, u88, undef, undef, undef, undef, undef, undef, undef], defers := [] }) (by kernel_rfl) ?_
              refine WK.pure hR (i := 3) (v := Value.int IntKind.i64 j) rfl (by kernel_rfl) (by kernel_rfl) (by kernel_rfl) (fun _ _ _ h => h) (by kernel_rfl) (fun wz => by go_simp) ?_
              refine WK.frame (a' := { tmps := #[Value.slice (some { block := b, off := of }) k cap, undef, u2, Value.int IntKind.i64 S, Value.int IntKind.i64 k, Value.slice A1 j c1, Value.string WJ, Value.int IntKind.i64 j, Value.pointer (some { block := q, off := 0 }), Value.int IntKind.i64 k, Value.slice (some { block := b, off := of }) k cap, Value.int IntKind.i64 k, Value.bool false, Value.bool false, undef, undef, Value.bool false, u17, u18, u19, u20, u21, u22, u23, u24, u25, u26, u27, u28, u29, u30, u31, u32, u33, u34, u35, u36, u37, u38, u39, u40, u41, u42, u43, Value.bool true, Value.bool false, Value.bool false, Value.slice (some { block := b, off := of }) k cap, Value.int IntKind.i64 k, Value.bool false, Value.bool false, Value.bool false, Value.int IntKind.i64 S, Value.bool false, Value.bool false, undef, Value.int IntKind.i64 j, Value.slice (some { block := b, off := of }) k cap, Value.int IntKind.i64 k, Value.bool true, u60, u61, Value.slice (some { block := b, off := of }) k cap, Value.int IntKind.i64 j, Value.pointer (some { block := b, off := of + j * 4 }), Value.agg #[Value.int IntKind.i64 id, Value.string fr, Value.string tw, Value.slice dA dn dc], Value.agg #[Value.int IntKind.i64 id, Value.string fr, Value.string tw, Value.slice dA dn dc], Value.string TX, Value.slice (some { block := b, off := of }) k cap, Value.int IntKind.i64 j, u70, u71, u72, u73, u74, u75, u76, u77, u78, u79, u80, u81, u82, u83, u84, u85, u86, u87, u88, undef, undef, undef, undef, undef, undef, undef], defers := [] }) (by kernel_rfl) ?_
              refine WK.pure hR (i := 4) (v := Value.pointer (some { block := b, off := of + j * 4 })) rfl (by kernel_rfl) (by kernel_rfl) (by kernel_rfl) (fun _ _ _ h => h) (by kernel_rfl) (fun wz => by go_simp; first | done | rfl) ?_
              refine WK.frame (a' := { tmps := #[Value.slice (some { block := b, off := of }) k cap, undef, u2, Value.int IntKind.i64 S, Value.int IntKind.i64 k, Value.slice A1 j c1, Value.string WJ, Value.int IntKind.i64 j, Value.pointer (some { block := q, off := 0 }), Value.int IntKind.i64 k, Value.slice (some { block := b, off := of }) k cap, Value.int IntKind.i64 k, Value.bool false, Value.bool false, undef, undef, Value.bool false, u17, u18, u19, u20, u21, u22, u23, u24, u25, u26, u27, u28, u29, u30, u31, u32, u33, u34, u35, u36, u37, u38, u39, u40, u41, u42, u43, Value.bool true, Value.bool false, Value.bool false, Value.slice (some { block := b, off := of }) k cap, Value.int IntKind.i64 k, Value.bool false, Value.bool false, Value.bool false, Value.int IntKind.i64 S, Value.bool false, Value.bool false, undef, Value.int IntKind.i64 j, Value.slice (some { block := b, off := of }) k cap, Value.int IntKind.i64 k, Value.bool true, u60, u61, Value.slice (some { block := b, off := of }) k cap, Value.int IntKind.i64 j, Value.pointer (some { block := b, off := of + j * 4 }), Value.agg #[Value.int IntKind.i64 id, Value.string fr, Value.string tw, Value.slice dA dn dc], Value.agg #[Value.int IntKind.i64 id, Value.string fr, Value.string tw, Value.slice dA dn dc], Value.string TX, Value.slice (some { block := b, off := of }) k cap, Value.int IntKind.i64 j, Value.pointer (some { block := b, off := of + j * 4 }), u71, u72, u73, u74, u75, u76, u77, u78, u79, u80, u81, u82, u83, u84, u85, u86, u87, u88, undef, undef, undef, undef, undef, undef, undef], defers := [] }) (by kernel_rfl) ?_
              refine WK.take hR (i := 5) (v := Value.agg #[Value.int IntKind.i64 id, Value.string fr, Value.string tw, Value.slice dA dn dc]) rfl (by kernel_rfl) (by kernel_rfl) (by kernel_rfl) (by kernel_rfl) (fun _ _ _ h => h) (YK.run (by kernel_rfl) (fun wz hz => by obtain ⟨a0, a1, a2, a3⟩ := F4.below hz hb4; go_simp)) ?_
              refine WK.frame (a' := { tmps := #[Value.slice (some { block := b, off := of }) k cap, undef, u2, Value.int IntKind.i64 S, Value.int IntKind.i64 k, Value.slice A1 j c1, Value.string WJ, Value.int IntKind.i64 j, Value.pointer (some { block := q, off := 0 }), Value.int IntKind.i64 k, Value.slice (some { block := b, off := of }) k cap, Value.int IntKind.i64 k, Value.bool false, Value.bool false, undef, undef, Value.bool false, u17, u18, u19, u20, u21, u22, u23, u24, u25, u26, u27, u28, u29, u30, u31, u32, u33, u34, u35, u36, u37, u38, u39, u40, u41, u42, u43, Value.bool true, Value.bool false, Value.bool false, Value.slice (some { block := b, off := of }) k cap, Value.int IntKind.i64 k, Value.bool false, Value.bool false, Value.bool false, Value.int IntKind.i64 S, Value.bool false, Value.bool false, undef, Value.int IntKind.i64 j, Value.slice (some { block := b, off := of }) k cap, Value.int IntKind.i64 k, Value.bool true, u60, u61, Value.slice (some { block := b, off := of }) k cap, Value.int IntKind.i64 j, Value.pointer (some { block := b, off := of + j * 4 }), Value.agg #[Value.int IntKind.i64 id, Value.string fr, Value.string tw, Value.slice dA dn dc], Value.agg #[Value.int IntKind.i64 id, Value.string fr, Value.string tw, Value.slice dA dn dc], Value.string TX, Value.slice (some { block := b, off := of }) k cap, Value.int IntKind.i64 j, Value.pointer (some { block := b, off := of + j * 4 }), Value.agg #[Value.int IntKind.i64 id, Value.string fr, Value.string tw, Value.slice dA dn dc], u72, u73, u74, u75, u76, u77, u78, u79, u80, u81, u82, u83, u84, u85, u86, u87, u88, undef, undef, undef, undef, undef, undef, undef], defers := [] }) (by kernel_rfl) ?_
              refine WK.take hR (i := 6) (v := Value.string TX) rfl (by kernel_rfl) (by kernel_rfl) (by kernel_rfl) (by kernel_rfl) (fun _ _ _ h => h) (YK.call hR (by kernel_rfl) (fun wz => by go_simp; first | done | rfl) (fun wz hz => hR6 wz hz)) ?_
              refine WK.frame (a' := { tmps := #[Value.slice (some { block := b, off := of }) k cap, undef, u2, Value.int IntKind.i64 S, Value.int IntKind.i64 k, Value.slice A1 j c1, Value.string WJ, Value.int IntKind.i64 j, Value.pointer (some { block := q, off := 0 }), Value.int IntKind.i64 k, Value.slice (some { block := b, off := of }) k cap, Value.int IntKind.i64 k, Value.bool false, Value.bool false, undef, undef, Value.bool false, u17, u18, u19, u20, u21, u22, u23, u24, u25, u26, u27, u28, u29, u30, u31, u32, u33, u34, u35, u36, u37, u38, u39, u40, u41, u42, u43, Value.bool true, Value.bool false, Value.bool false, Value.slice (some { block := b, off := of }) k cap, Value.int IntKind.i64 k, Value.bool false, Value.bool false, Value.bool false, Value.int IntKind.i64 S, Value.bool false, Value.bool false, undef, Value.int IntKind.i64 j, Value.slice (some { block := b, off := of }) k cap, Value.int IntKind.i64 k, Value.bool true, u60, u61, Value.slice (some { block := b, off := of }) k cap, Value.int IntKind.i64 j, Value.pointer (some { block := b, off := of + j * 4 }), Value.agg #[Value.int IntKind.i64 id, Value.string fr, Value.string tw, Value.slice dA dn dc], Value.agg #[Value.int IntKind.i64 id, Value.string fr, Value.string tw, Value.slice dA dn dc], Value.string TX, Value.slice (some { block := b, off := of }) k cap, Value.int IntKind.i64 j, Value.pointer (some { block := b, off := of + j * 4 }), Value.agg #[Value.int IntKind.i64 id, Value.string fr, Value.string tw, Value.slice dA dn dc], Value.string TX, u73, u74, u75, u76, u77, u78, u79, u80, u81, u82, u83, u84, u85, u86, u87, u88, undef, undef, undef, undef, undef, undef, undef], defers := [] }) (by kernel_rfl) ?_
              refine WK.pure hR (i := 7) (v := Value.bool false) rfl (by kernel_rfl) (by kernel_rfl) (by kernel_rfl) (fun _ _ _ h => h) (by kernel_rfl) (fun wz => by go_simp; first | done | rfl) ?_
              refine WK.frame (a' := { tmps := #[Value.slice (some { block := b, off := of }) k cap, undef, u2, Value.int IntKind.i64 S, Value.int IntKind.i64 k, Value.slice A1 j c1, Value.string WJ, Value.int IntKind.i64 j, Value.pointer (some { block := q, off := 0 }), Value.int IntKind.i64 k, Value.slice (some { block := b, off := of }) k cap, Value.int IntKind.i64 k, Value.bool false, Value.bool false, undef, undef, Value.bool false, u17, u18, u19, u20, u21, u22, u23, u24, u25, u26, u27, u28, u29, u30, u31, u32, u33, u34, u35, u36, u37, u38, u39, u40, u41, u42, u43, Value.bool true, Value.bool false, Value.bool false, Value.slice (some { block := b, off := of }) k cap, Value.int IntKind.i64 k, Value.bool false, Value.bool false, Value.bool false, Value.int IntKind.i64 S, Value.bool false, Value.bool false, undef, Value.int IntKind.i64 j, Value.slice (some { block := b, off := of }) k cap, Value.int IntKind.i64 k, Value.bool true, u60, u61, Value.slice (some { block := b, off := of }) k cap, Value.int IntKind.i64 j, Value.pointer (some { block := b, off := of + j * 4 }), Value.agg #[Value.int IntKind.i64 id, Value.string fr, Value.string tw, Value.slice dA dn dc], Value.agg #[Value.int IntKind.i64 id, Value.string fr, Value.string tw, Value.slice dA dn dc], Value.string TX, Value.slice (some { block := b, off := of }) k cap, Value.int IntKind.i64 j, Value.pointer (some { block := b, off := of + j * 4 }), Value.agg #[Value.int IntKind.i64 id, Value.string fr, Value.string tw, Value.slice dA dn dc], Value.string TX, Value.bool false, u74, u75, u76, u77, u78, u79, u80, u81, u82, u83, u84, u85, u86, u87, u88, undef, undef, undef, undef, undef, undef, undef], defers := [] }) (by kernel_rfl) ?_
              refine WK.done (by kernel_rfl) (fun w5 hz => ?_)
              have K5 := Lib.hid (K4.below hz K4.lt)
              have O5 := Lib.hid (own_below O4 hz)
              have F5 := F4.below hz hb4
              have X5 := Lib.hid (through X4 hz)
              have HZ5 := Lib.hid hz
              have hq5 : q < w5.heap.size := K5.out.lt
              have hs5 := X5.out.size
              have hr6 := HR6.out w5 hz
              have hxs : Below w4.heap.size w4 w5 := hz
              obtain ⟨c0, c1', c2, c3⟩ := F5
              clear hz K4 O4 F4 X4 hS hR6 HR6 hR hltq
              obtain ⟨i0, hi, hz0, hz1, hz2⟩ := info_parts info43
              by_cases hj0 : j = 0
              · have hj1 : decide (0 < (j : Int)) = false := decide_eq_false (by omega)
                have HN2 := Lib.hid (show WJ ++ TX = wantT ds (j + 1) by
                  have h1 := HDJ.out
                  have h2 := HWJ.out
                  rw [hj0] at h1 h2 ⊢
                  rw [wantT_one h1, ← h2, ← HTX.out]; rfl)
                have hj2 : (j : Int) ≤ 0 := by omega
                clear hj0
                have hsum : WJ.size + TX.size ≤ 9223372036854775807 := by omega
                go_wp2_with (go_at_call 16; refine hr6.mono ?_; rintro _ w6 ⟨rfl, hb⟩; refine Hid.out ?_)
                refine Lib.hid ?_
                have K6 := K5.out.below hb K5.out.lt
                have O6 := Lib.hid (own_below O5.out hb)
                have X6 := Lib.hid (through X5.out hb)
                have hs6 := X6.out.size
                have hg6 : w.heap.size ≤ w6.heap.size := hs6
                obtain ⟨k0, k1, k2, k3⟩ := four_facts K6
                clear hb hr6 c0 c1' c2 c3 K6
                go_wp2_with (at_builtin; refine wpList_append_own _ rfl _ _ 42 rfl w.heap.size 43 i0 (.agg #[.int .i64 0, .string ByteArray.empty, .string ByteArray.empty, .slice none 0 0]) 4 64 Tryd.underlying42 hi hz0 hz1 hz2 rfl (by decide) _ _ _ rfl (O6.out.alloc _) ⟨w6.heap.size, 0, none⟩ 1 1 [.int .i64 id, .string fr, .string tw, .slice dA dn dc] rfl rfl (news_blk w6 #[.int .i64 id, .string fr, .string tw, .slice dA dn dc] 43) (by intro u hu; simp at hu; rcases hu with rfl | rfl | rfl | rfl <;> rfl) (by unfold maxLen; omega) (by omega) (by simp; omega) ?_; intro v7 w7 hown7 hg7 hx7; clear hx7; refine Hid.out ?_)
                refine Lib.hid ?_
                have H7 := Lib.hid (below_own (X6.out.alloc hs6 _) (O6.out.alloc _) hg7 (Nat.le_refl _) (by simp; omega))
                have O7 := Lib.hid hown7
                have HAP := Lib.hid (dgs_app ds j _ HDJ.out)
                clear hown7 hg7 k0 k1 k2 k3
                go_wp2_with fail
                go_roundw
                case rel => exact ⟨j + 1, by first | rfl | go_num, congrArg Value.string HN2.out, by omega, by rw [← HAP.out]; exact O7.out, H7.out⟩
                case measure => simp [intOf]; omega
              · have hj1 : decide (0 < (j : Int)) = true := decide_eq_true (by omega)
                have hj2 : (0 : Int) < (j : Int) := by omega
                obtain ⟨W1, hW1⟩ : ∃ x, WJ ++ (⟨#[59, 32]⟩ : ByteArray) = x := ⟨_, rfl⟩
                have hsum0 : WJ.size ≤ 9223372036854775805 := by omega
                have hw1z : W1.size ≤ 100000002 := by rw [← hW1, ByteArray.size_append]; have h : (⟨#[59, 32]⟩ : ByteArray).size = 2 := rfl; omega
                have hsum : (WJ ++ (⟨#[59, 32]⟩ : ByteArray)).size + TX.size ≤ 9223372036854775807 := by rw [hW1]; omega
                have hsum2 : WJ.size + 2 + TX.size ≤ 9223372036854775807 := by omega
                have HN2 := Lib.hid (show WJ ++ (⟨#[59, 32]⟩ : ByteArray) ++ TX = wantT ds (j + 1) by rw [wantT_next HDJ.out (by omega), ← HWJ.out, ← HTX.out]; rfl)
                clear hW1 hw1z
                go_wp2_with (go_at_call 16; refine hr6.mono ?_; rintro _ w6 ⟨rfl, hb⟩; refine Hid.out ?_)
                refine Lib.hid ?_
                have K6 := K5.out.below hb K5.out.lt
                have O6 := Lib.hid (own_below O5.out hb)
                have X6 := Lib.hid (through X5.out hb)
                have hs6 := X6.out.size
                have hg6 : w.heap.size ≤ w6.heap.size := hs6
                obtain ⟨k0, k1, k2, k3⟩ := four_facts K6
                clear hb hr6 c0 c1' c2 c3 K6
                go_wp2_with (at_builtin; refine wpList_append_own _ rfl _ _ 42 rfl w.heap.size 43 i0 (.agg #[.int .i64 0, .string ByteArray.empty, .string ByteArray.empty, .slice none 0 0]) 4 64 Tryd.underlying42 hi hz0 hz1 hz2 rfl (by decide) _ _ _ rfl (O6.out.alloc _) ⟨w6.heap.size, 0, none⟩ 1 1 [.int .i64 id, .string fr, .string tw, .slice dA dn dc] rfl rfl (news_blk w6 #[.int .i64 id, .string fr, .string tw, .slice dA dn dc] 43) (by intro u hu; simp at hu; rcases hu with rfl | rfl | rfl | rfl <;> rfl) (by unfold maxLen; omega) (by omega) (by simp; omega) ?_; intro v7 w7 hown7 hg7 hx7; clear hx7; refine Hid.out ?_)
                refine Lib.hid ?_
                have H7 := Lib.hid (below_own (X6.out.alloc hs6 _) (O6.out.alloc _) hg7 (Nat.le_refl _) (by simp; omega))
                have O7 := Lib.hid hown7
                have HAP := Lib.hid (dgs_app ds j _ HDJ.out)
                clear hown7 hg7 k0 k1 k2 k3
                go_wp2_with fail
                go_roundw
                case rel => exact ⟨j + 1, by first | rfl | go_num, congrArg Value.string HN2.out, by omega, by rw [← HAP.out]; exact O7.out, H7.out⟩
                case measure => simp [intOf]; omega
            · obtain rfl : j = k := by omega
              have htk2 : ds.take j = ds := List.take_of_length_le (by rw [HL.out]; exact Nat.le_refl _)
              have ho2 := HO.out
              rw [htk2] at ho2
              have hDg := Dgs.of_own ho2 (fun d hd => ((HD.out.2.2 d hd).below HBx.out))
              have hrow := row_any wr A1 j c1 ds hDg (by omega) HC.out (HT.out.below HBx.out).pow
              by_cases hz : j = 0
              · have he : ds = [] := List.length_eq_zero_iff.1 (by rw [HL.out, hz])
                have hrt : rowT ds = ⟨#[110, 111, 110, 101]⟩ := by unfold rowT; rw [if_pos he]
                rw [hrt] at hrow
                subst hz
                clear he hrt ho2 htk2 hDg
                generalize wantT ds 0 = WT at *
                go_wp2_with (go_at_call 17; refine hrow.mono ?_; rintro _ w5 ⟨rfl, hb⟩; refine Hid.out ?_)
                refine Lib.hid ?_
                clear hrow
                go_wp2_with fail
                all_goals go_ret
                exact ⟨rfl, through HBx.out hb⟩
              · have he : ¬ ds = [] := fun e => hz (by rw [← HL.out, e]; rfl)
                have hrt : wantT ds j = rowT ds := by unfold rowT wantT; rw [if_neg he, if_neg hz, htk2]
                rw [hrt]
                have hzi : ¬ (j : Int) = 0 := by omega
                have hzb : ((j : Int) == 0) = false := beq_false_of_ne hzi
                clear he hrt ho2 htk2 hDg
                generalize rowT ds = RT at *
                go_wp2_with (go_at_call 17; refine hrow.mono ?_; rintro _ w5 ⟨rfl, hb⟩; refine Hid.out ?_)
                refine Lib.hid ?_
                clear hrow
                go_wp2_with fail
                all_goals go_ret
                exact ⟨rfl, through HBx.out hb⟩
end Go.Proofs.YtbifakhalnkfbaaDoor
