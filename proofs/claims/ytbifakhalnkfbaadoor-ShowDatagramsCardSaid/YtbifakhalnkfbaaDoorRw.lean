import Derived.Test.YtbifakhalnkfbaaDoorDgs
import Derived.Test.YtbifakhalnkfbaaDoorWds
namespace Go.Proofs.YtbifakhalnkfbaaDoor
open Go.ChangeShapes Go.WideShapes Go.ChangeAt Go.RowKit Go.Sort
set_option linter.unusedVariables false
set_option linter.unusedSimpArgs false
theorem take_map_next {α β : Type} (f : α → β) {l : List α} {k : Nat} {x : α} (h : l[k]? = some x) : (l.take (k + 1)).map f = (l.take k).map f ++ [f x] := by
  rw [List.take_add_one, h]; simp
theorem Dg.t_size {w : World} {d : Dg} (h : DgOk w d) (hk : d.k ≤ 4000) : d.t.size ≤ 6000 := by
  have := textD_size d.id d.fr d.tw d.n d.bs h.i0 h.i1 hk (hd_lt h.y)
  unfold Dg.t; omega
set_option maxRecDepth 100000 in
set_option maxHeartbeats 4000000 in
/-- Row of datagrams. -/
theorem row_any (w : World) (A : Option Addr) (n cap : Nat) (ds : List Dg) (hD : Dgs w A n ds) (hn : n ≤ 1000) (hk : ∀ d ∈ ds, d.k ≤ 4000) (hp : Pow w) :
    Calls Tryd.prog 17 #[.slice A n cap] w fun e w' => e = .returned (.string (rowT ds)) ∧ Below w.heap.size w w' := by
  by_cases h0 : n = 0
  · subst h0
    have : ds = [] := List.length_eq_zero_iff.1 hD.2.1
    subst this
    clear hD hk hp
    go_enter Tryd.func17, Tryd.ntmps17
    go_wp2_with fail
    go_ret
    exact ⟨by unfold rowT; rw [if_pos rfl]; rfl, Below.refl _ _⟩
  obtain ⟨i0, hi, hz0, hz1, hz2⟩ := info_parts info9
  have hl := hD.2.1
  have HRW := Lib.hid (show rowT ds = joinT (ds.map Dg.t) by unfold rowT; rw [if_neg (by intro e; rw [e] at hl; exact h0 hl.symm)])
  have HSZ := Lib.hid (show ∀ x ∈ ds.map Dg.t, x.size ≤ 6000 from fun x hx => by
    obtain ⟨d, hd, rfl⟩ := List.mem_map.1 hx
    exact Dg.t_size (hD.2.2 d hd) (hk d hd))
  have HD := Lib.hid hD
  have HK := Lib.hid hk
  have HP := Lib.hid hp
  have HL := Lib.hid hl
  generalize rowT ds = RT at *
  have hn0 : ¬ (n : Int) = 0 := by omega
  have hnb : ((n : Int) == 0) = false := beq_false_of_ne hn0
  clear hD hk hp hl
  go_enter Tryd.func17, Tryd.ntmps17
  go_wp2_with fail
  go_loopw [3, 11] (fun v i wr => ∃ k : Nat, i = .int .i64 k ∧ k ≤ n ∧ wr.ownsRow w.heap.size 9 1 v k (((ds.take k).map Dg.t).map Value.string) ∧ Below w.heap.size w wr) (fun _ i _ => n - (intOf i).toNat)
  case atStart => exact ⟨0, rfl, by omega, by rw [List.take_zero]; exact World.ownsRow_nil _ _ _ _, Below.refl _ _⟩
  case round =>
    obtain ⟨k, rfl, hkn, ho, hb⟩ := hrel
    obtain ⟨A1, c1, rfl⟩ := own_form ho
    have HO := Lib.hid ho
    have HB := Lib.hid hb
    have hsz := hb.size
    clear ho hb
    by_cases hlt : k < n
    · obtain ⟨b, o, d, rfl, hbw, hdk, hok, h4⟩ := HD.out.at_ hlt
      have h4r := h4.below (HB.out.mono (Nat.le_refl _)) hbw
      obtain ⟨c0, c1', c2, c3⟩ := h4r
      have hokr := hok.below HB.out
      have B1 : Below wr.heap.size wr (wr.alloc (.cells #[.int .i64 d.id, .string d.fr, .string d.tw, .slice d.A d.n d.c] 43)) := (Below.refl _ wr).alloc (Nat.le_refl _) _
      have hok1 := hokr.below B1
      have hc := sdg_any d.id d.fr d.tw d.A d.n d.c d.bs _ hok1.y hok1.i0 hok1.i1 (HK.out d (List.mem_of_getElem? hdk)) hok1.c0 hok1.c1 ((HP.out.below HB.out).below B1)
      have HT := Lib.hid (show textD d.id d.fr d.tw d.n d.bs = d.t from rfl)
      have HNX := Lib.hid (take_map_next Dg.t hdk)
      have HB1 := Lib.hid B1
      obtain ⟨id, fr, tw, dA, dn, dc, dbs⟩ := d
      simp only at c0 c1' c2 c3 hc HT B1 HB1
      rw [HT.out] at hc
      generalize (⟨id, fr, tw, dA, dn, dc, dbs⟩ : Dg).t = TX at *
      have hkk : (k : Int) < (n : Int) := by omega
      clear hok hokr hok1 h4 hdk HT B1
      go_wp2_with (go_at_call 15; refine hc.mono ?_; rintro _ w2 ⟨rfl, hb⟩; refine Hid.out ?_)
      refine Lib.hid ?_
      have B2 := HB1.out.trans (hb.mono HB1.out.size)
      have HO2 := Lib.hid (own_below HO.out B2)
      have HB2 := Lib.hid (through HB.out B2)
      have hsz2 := (through HB.out B2).size
      clear hb hc B2 c0 c1' c2 c3 HB1 HB HO
      go_wp2_with (at_builtin; refine wpList_append_own _ rfl _ _ 59 rfl w.heap.size 9 i0 (.string ByteArray.empty) 1 16 Tryd.underlying59 hi hz0 hz1 hz2 rfl (by decide) _ _ _ rfl (HO2.out.alloc _) ⟨w2.heap.size, 0, none⟩ 1 1 [.string TX] rfl rfl (news_blk w2 #[.string TX] 9) (by intro u hu; simp at hu; subst hu; rfl) (by unfold maxLen; omega) (by omega) (by simp; omega) ?_; intro v7 w7 hown7 hg7 hx7; clear hx7; refine Hid.out ?_)
      refine Lib.hid ?_
      have H7 := Lib.hid (below_own (HB2.out.alloc hsz2 _) (HO2.out.alloc _) hg7 (Nat.le_refl _) (by simp; omega))
      have O7 := Lib.hid hown7
      clear hown7 hg7
      go_wp2_with fail
      go_roundw
      case rel => exact ⟨k + 1, by first | rfl | go_num, by omega, by rw [HNX.out]; simpa using O7.out, H7.out⟩
      case measure => simp [intOf]; omega
    · obtain rfl : k = n := by omega
      have ht : ds.take k = ds := List.take_of_length_le (by rw [HL.out]; exact Nat.le_refl _)
      have ho2 := HO.out
      rw [ht] at ho2
      have hlen : (ds.map Dg.t).length = k := by rw [List.length_map, HL.out]
      have hj := join2_own (base := w.heap.size) (c := c1) (A := A1) (ds.map Dg.t) (w := wr) (by rw [hlen]; exact ho2) (by omega) HSZ.out (by omega)
      rw [hlen, ← HRW.out] at hj
      clear ht ho2 hlen
      go_wp2_with (go_at_call 36; refine hj.mono ?_; rintro _ w2 ⟨rfl, hb⟩; refine Hid.out ?_)
      refine Lib.hid ?_
      clear hj
      go_wp2_with fail
      go_ret
      exact ⟨rfl, through HB.out hb⟩
end Go.Proofs.YtbifakhalnkfbaaDoor
