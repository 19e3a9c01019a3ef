import Derived.Test.YtjnnobdkidkagaaFilter
namespace Go.Proofs.Ytjnnobdkidkagaa
open Go.ChangeShapes Go.WideShapes Go.ChangeAt Go.RowKit
set_option linter.unusedVariables false
set_option linter.unusedSimpArgs false
attribute [local go_sem] eqlErr
theorem info23 : (Try.prog.info? 23).map (fun i => (i.zero, i.size, i.bytes)) = some (some (.int .u64 0), 1, 8) := by kernel_rfl
theorem Nums.below {w w' : World} {A : Option Addr} {n : Nat} {zs : List Int} (h : Nums w A n zs) (hb : Below w.heap.size w w') : Nums w' A n zs := (Reads.below h hb).more hb.size
theorem Nums.of_own {w : World} {base : Nat} {A : Option Addr} {n c : Nat} {zs : List Int} (h : w.ownsRow base 23 1 (.slice A n c) n (zs.map (Value.int .u64))) : Nums w A n zs := Reads.of_own h
theorem Nums.of_ints {w : World} {A : Option Addr} {n c : Nat} {zs : List Int} (h : Ints .u64 w A n c zs) : Nums w A n zs := by
  obtain ⟨h1, h2, h3, h4⟩ := h
  refine ⟨by simp [h1], fun hn => ?_⟩
  obtain ⟨b, off, ha, hlt, hc⟩ := h4 hn
  refine ⟨⟨b, off, none⟩, ha, hlt, fun j u hu => ?_⟩
  simp only [List.getElem?_map, Option.map_eq_some_iff] at hu
  obtain ⟨z, hz, rfl⟩ := hu
  have hj : j < zs.length := (List.getElem?_eq_some_iff.1 hz).1
  rw [add_none, hc j (by omega)]
  simp [List.getD, hz]

/-- What the accepted numbers are to the least fresh one. -/
def AllRel (L : List Int) (l : Int) : Prop := (∀ z ∈ L, z < l) ∧ (L = [] → l = 0) ∧ (L ≠ [] → L[L.length - 1]? = some (l - 1) ∧ 1 ≤ l) ∧ 0 ≤ l ∧ l ≤ 9223372036854775808
theorem AllRel.nil : AllRel [] 0 := ⟨by simp, fun _ => rfl, fun h => absurd rfl h, by omega, by omega⟩
theorem AllRel.push {L : List Int} {l s : Int} (h : AllRel L l) (h1 : l ≤ s) (h2 : s ≤ 9223372036854775807) : AllRel (L ++ [s]) (s + 1) := by
  obtain ⟨a, b, c, d, e⟩ := h
  refine ⟨?_, by simp, fun _ => ⟨by simp, by omega⟩, by omega, by omega⟩
  intro z hz
  simp only [List.mem_append, List.mem_singleton] at hz
  rcases hz with hz | rfl
  · have := a z hz; omega
  · omega
theorem AllRel.low {L : List Int} {l s : Int} (h : AllRel L l) (h0 : 0 ≤ s) (h1 : s < l) : L[L.length - 1]? = some (l - 1) := by
  refine (h.2.2.1 ?_).1
  intro e
  have := h.2.1 e
  omega
/-- Whether a number is fresh. -/
def fr (l s : Int) : Bool := decide (l ≤ s ∧ s ≤ 9223372036854775807)
theorem fresh_any (b : Nat) (a r l s : Int) (w : World) (h : Flt w b a r l) : Calls Try.prog 11 #[.pointer (some ⟨b, 0, none⟩), .int .u64 s] w fun e w' => e = .returned (.bool (fr l s)) ∧ w = w' := by
  by_cases h1 : l ≤ s ∧ s ≤ 9223372036854775807
  · rw [show fr l s = true from decide_eq_true h1]
    exact fresh_yes b a r l s w h h1.1 h1.2
  · rw [show fr l s = false from decide_eq_false h1]
    exact fresh_no b a r l s w h (by omega)
theorem rfresh_any (A : Option Addr) (n c : Nat) (zs : List Int) (l s : Int) (w : World) (hr : Nums w A n zs) (hn : n ≤ 1000) (ha : AllRel zs l) (hs0 : 0 ≤ s) :
    Calls Try.prog 12 #[.slice A n c, .int .u64 s] w fun e w' => e = .returned (.bool (fr l s)) ∧ w = w' := by
  by_cases h1 : l ≤ s ∧ s ≤ 9223372036854775807
  · rw [show fr l s = true from decide_eq_true h1]
    exact rfresh_yes A n c zs s w hr hn (fun z hz => by have := ha.1 z hz; omega) hs0 h1.2
  · rw [show fr l s = false from decide_eq_false h1]
    by_cases h2 : s < l
    · exact rfresh_no A n c zs s w hr hn _ _ (ha.low hs0 h2) (by omega)
    · exact rfresh_big A n c zs s w hr hn (by omega)

set_option maxHeartbeats 4000000 in
set_option maxRecDepth 100000 in
theorem fmatches_any (a : Option Addr) (len cap : Nat) (zs : List Int) (p : Int) (w : World) (hp0 : 0 ≤ p) (hz : Ints .u64 w a len cap zs) (hcap : cap ≤ maxLen) :
    Calls Try.prog 3 #[.slice a len cap, .int .u64 p] w fun e w' => e = .returned (.bool true) ∧ Below w.heap.size w w' := by
  unfold maxLen at hcap
  have hlc := hz.2.1
  by_cases hl : 100 < len
  · go_enter Try.func3, Try.ntmps3
    go_wp2_with fail
    refine (awake_any _).mono ?_
    rintro e w1 ⟨rfl, hb1⟩
    go_wp2_with fail
    refine (awake_any _).mono ?_
    rintro e w2 ⟨rfl, hb2⟩
    go_wp2_with fail
    go_ret
    exact ⟨rfl, hb1.trans (hb2.mono hb1.size)⟩
  · have HZ := Lib.hid hz
    clear hz
    go_enter Try.func3, Try.ntmps3
    go_wp2_with fail
    refine (awake_any _).mono ?_
    rintro e w1 ⟨rfl, hb1⟩
    go_wp2_with fail
    refine (new_any _).mono ?_
    rintro e w2 ⟨b, rfl, hf0, hlb, hb2, hlt2⟩
    go_wp2_with fail
    have s1 := hb1.size
    have s2 := hb2.size
    have hbb : Below w.heap.size w w2 := hb1.trans (hb2.mono (by omega))
    have hown0 := World.ownsRow_nil w2 w2.heap.size 23 1
    clear hb1 hb2
    go_loopw [6, 7] (fun v i wr => ∃ (j : Nat) (L : List Int) (l : Int), j ≤ len ∧ i = .int .i64 j ∧ L.length ≤ j ∧ wr.ownsRow w2.heap.size 23 1 v L.length (L.map (Value.int .u64)) ∧ Flt wr b L.length ((j : Int) - L.length) l ∧ AllRel L l ∧ Below w.heap.size w wr ∧ w2.heap.size ≤ wr.heap.size) (fun _ i _ => len - (intOf i).toNat)
    case atStart => exact ⟨0, [], 0, by omega, rfl, by simp, hown0, hf0.eq (by simp) (by simp) rfl, AllRel.nil, hbb, Nat.le_refl _⟩
    case round =>
      clear hf0 hbb hown0
      obtain ⟨j, L, l, hj, rfl, hLj, hown, hf, hall, hb, hws⟩ := hrel
      by_cases hlt : j < len
      · obtain ⟨ba, off, rfl, hlba, hcell⟩ := HZ.out.2.2.2 (by omega)
        have hcj := hcell j hlt
        have hsb : 0 ≤ zs.getD j 0 ∧ zs.getD j 0 ≤ 18446744073709551615 := by
          have hl' := HZ.out.1
          have : zs.getD j 0 ∈ zs := by rw [List.getD, List.getElem?_eq_getElem (by omega)]; simp
          exact bounds_u64 (HZ.out.2.2.1 _ this)
        clear hcell
        generalize zs.getD j 0 = s at *
        have hcw : wr.cell? ⟨ba, off + j, none⟩ = some (.int .u64 s) := (hb.cell (p := ⟨ba, off + j, none⟩) hlba).trans hcj
        obtain ⟨A, c, rfl⟩ := own_form hown
        have HN := Lib.hid (Nums.of_own hown)
        have HF := Lib.hid hf
        have HA := Lib.hid hall
        have HB := Lib.hid hb
        have HO := Lib.hid hown
        clear hf hall hb hown hcj
        by_cases hA : l ≤ s ∧ s ≤ 9223372036854775807
        · obtain ⟨hA1, hA2⟩ := hA
          have hl0 := HA.out.2.2.2.1
          obtain ⟨i0, hi, hz0, hz1, hz2⟩ := info_parts info23
          go_wp2_with (first | (go_at_call 10; refine (rcode_ok _ _ _ _ _ _ HN.out (by omega) (fun z hz => by have := HA.out.1 z hz; omega) (by omega) hA2).mono ?_; rintro e w8 ⟨rfl, rfl⟩) | (go_at_call 11; ((with_reducible refine (fresh_yes b _ _ l s _ HF.out hA1 hA2).mono ?_); rintro e w8 ⟨rfl, rfl⟩)) | (go_at_call 11; refine (fresh_any _ _ _ _ _ _ HF.out).mono ?_; rintro e w8 ⟨rfl, rfl⟩) | (go_at_call 12; refine (rfresh_any _ _ _ _ _ _ _ HN.out (by omega) HA.out hp0).mono ?_; rintro e w8 ⟨rfl, rfl⟩))
          refine (accept_yes b _ _ l s _ HF.out (by omega) (by omega) hl0 hA1 hA2).mono ?_
          rintro e w6 ⟨rfl, hf6, hg6⟩
          have hown6 := own_only HO.out hg6 hlt2
          have hb6 := below_only HB.out hg6 HB.out.size (by omega)
          have hs6 := hg6.size
          have hcw6 : w6.cell? ⟨ba, off + j, none⟩ = some (.int .u64 s) := (hb6.cell (p := ⟨ba, off + j, none⟩) hlba).trans ((HB.out.cell (p := ⟨ba, off + j, none⟩) hlba).symm.trans hcw)
          have HF6 := Lib.hid hf6
          have HO6 := Lib.hid hown6
          clear hf6 hown6 hcw
          go_wp2_with (first | (go_at_call 13; refine (told_ok _).mono ?_; rintro e w8 ⟨rfl, rfl⟩) | (at_builtin; refine wpList_append_own _ rfl _ _ 22 rfl w2.heap.size 23 i0 (.int .u64 0) 1 8 Try.underlying22 hi hz0 hz1 hz2 rfl (by decide) _ _ _ rfl (HO6.out.alloc _) ⟨w6.heap.size, 0, none⟩ 1 1 [.int .u64 s] rfl rfl (new_one _ _ _) (by simp [Value.oneCell']) (by unfold maxLen; omega) (by omega) (by simp; omega) ?_; intro v7 w7 hown7 hg7 hx7; clear hx7))
          obtain ⟨g, cap7, rfl, hbg, hgl⟩ := hown7.form (by omega)
          have hg7' : (w6.alloc (.cells #[.int .u64 s] 23)).grownBy w7 (Value.slice A L.length c).ownBlock := hg7
          have hf7 : Flt w7 b (L.length + 1) (j - L.length) (s + 1) := Blk.grown (Blk.alloc HF6.out _) hg7' (own_ne HO6.out hlt2)
          have hb7 : Below w.heap.size w w7 := below_own (hb6.alloc (by omega) _) (HO6.out.alloc _) hg7' (by omega) (by simp; omega)
          have hc7 : w7.cell? ⟨g, L.length, none⟩ = some (.int .u64 s) := own_at hown7 (by simp)
          have hs7 := hg7.size
          simp at hs7
          have HO7 := Lib.hid hown7
          have HF7 := Lib.hid hf7
          clear hown7 hf7 hcw6
          go_wp2_with (go_at_call 15; refine (last_some b _ _ _ _ HF7.out (by omega) (by omega)).mono ?_; rintro e w8 ⟨rfl, rfl⟩)
          refine (counts_any b _ _ _ _ HF7.out).mono ?_
          rintro e w8 ⟨rfl, nd, rfl⟩
          go_wp2_with fail
          go_roundw
          case rel => exact ⟨j + 1, L ++ [s], s + 1, by omega, by go_num, by simp; omega, own_drewN (by simpa using HO7.out) _, (HF7.out.eq (by simp) (by simp; omega) rfl).drewN _, HA.out.push hA1 hA2, below_drewN hb7 _, by simp; omega⟩
          case measure => simp [intOf]; omega
        · by_cases hs2 : s ≤ 9223372036854775807
          · have hB : s < l := by omega
            have hlow := HA.out.low hsb.1 hB
            have hL : 0 < L.length := by have := (List.getElem?_eq_some_iff.1 hlow).1; omega
            obtain ⟨g, cap', hv, hbg, hgl⟩ := HO.out.form hL
            simp only [Value.slice.injEq] at hv
            obtain ⟨rfl, _, rfl⟩ := hv
            have hl1 : 1 ≤ l := by have := HA.out.1 _ (List.mem_of_getElem? hlow); omega
            have hl9 := HA.out.2.2.2.2
            have HL := Lib.hid hlow
            clear hlow
            go_wp2_with (first | (go_at_call 10; refine (rcode_no _ _ _ _ _ _ HN.out (by omega) (L.length - 1) (l - 1) HL.out (by omega) hs2).mono ?_; rintro e w8 ⟨rfl, rfl⟩) | (go_at_call 11; ((with_reducible refine (fresh_no b _ _ l s _ HF.out (.inl hB)).mono ?_); rintro e w8 ⟨rfl, rfl⟩)) | (go_at_call 11; refine (fresh_any _ _ _ _ _ _ HF.out).mono ?_; rintro e w8 ⟨rfl, rfl⟩) | (go_at_call 12; refine (rfresh_any _ _ _ _ _ _ _ HN.out (by omega) HA.out hp0).mono ?_; rintro e w8 ⟨rfl, rfl⟩))
            refine (accept_replay b _ _ l s _ HF.out (by omega) (by omega) hB hs2).mono ?_
            rintro e w6 ⟨rfl, hf6, hg6⟩
            have hown6 := own_only HO.out hg6 hlt2
            have hb6 := below_only HB.out hg6 HB.out.size (by omega)
            have hs6 := hg6.size
            have hcw6 : w6.cell? ⟨ba, off + j, none⟩ = some (.int .u64 s) := (hb6.cell (p := ⟨ba, off + j, none⟩) hlba).trans ((HB.out.cell (p := ⟨ba, off + j, none⟩) hlba).symm.trans hcw)
            have hc7 : w6.cell? ⟨g, L.length - 1, none⟩ = some (.int .u64 (l - 1)) := own_at hown6 (by simp [HL.out])
            have HF6 := Lib.hid hf6
            have HO6 := Lib.hid hown6
            clear hf6 hown6 hcw
            go_wp2_with (first | (go_at_call 13; refine (told_err _ _ (by omega)).mono ?_; rintro e w8 ⟨rfl, rfl⟩) | (go_at_call 15; refine (last_some b _ _ _ _ HF6.out hl1 hl9).mono ?_; rintro e w8 ⟨rfl, rfl⟩))
            refine (counts_any b _ _ _ _ HF6.out).mono ?_
            rintro e w8 ⟨rfl, nd, rfl⟩
            go_wp2_with fail
            go_roundw
            case rel => exact ⟨j + 1, L, l, by omega, by go_num, by omega, own_drewN HO6.out _, (HF6.out.eq rfl (by omega) rfl).drewN _, HA.out, below_drewN hb6 _, by simp; omega⟩
            case measure => simp [intOf]; omega
          · have hs3 : 9223372036854775807 < s := by omega
            by_cases hL : 0 < L.length
            · obtain ⟨hlow, hl00⟩ := HA.out.2.2.1 (fun e => by subst e; simp at hL)
              obtain ⟨g, cap', hv, hbg, hgl⟩ := HO.out.form hL
              simp only [Value.slice.injEq] at hv
              obtain ⟨rfl, _, rfl⟩ := hv
              have hl1 : 1 ≤ l := hl00
              have hl9 := HA.out.2.2.2.2
              have HL := Lib.hid hlow
              clear hlow
              go_wp2_with (first | (go_at_call 10; refine (rcode_big _ _ _ _ _ _ HN.out (by omega) hs3).mono ?_; rintro e w8 ⟨rfl, rfl⟩) | (go_at_call 11; ((with_reducible refine (fresh_no b _ _ l s _ HF.out (.inr hs3)).mono ?_); rintro e w8 ⟨rfl, rfl⟩)) | (go_at_call 11; refine (fresh_any _ _ _ _ _ _ HF.out).mono ?_; rintro e w8 ⟨rfl, rfl⟩) | (go_at_call 12; refine (rfresh_any _ _ _ _ _ _ _ HN.out (by omega) HA.out hp0).mono ?_; rintro e w8 ⟨rfl, rfl⟩))
              refine (accept_range b _ _ l s _ HF.out (by omega) (by omega) hs3).mono ?_
              rintro e w6 ⟨rfl, hf6, hg6⟩
              have hown6 := own_only HO.out hg6 hlt2
              have hb6 := below_only HB.out hg6 HB.out.size (by omega)
              have hs6 := hg6.size
              have hcw6 : w6.cell? ⟨ba, off + j, none⟩ = some (.int .u64 s) := (hb6.cell (p := ⟨ba, off + j, none⟩) hlba).trans ((HB.out.cell (p := ⟨ba, off + j, none⟩) hlba).symm.trans hcw)
              have hc7 : w6.cell? ⟨g, L.length - 1, none⟩ = some (.int .u64 (l - 1)) := own_at hown6 (by simp [HL.out])
              have HF6 := Lib.hid hf6
              have HO6 := Lib.hid hown6
              clear hf6 hown6 hcw
              go_wp2_with (first | (go_at_call 13; refine (told_err _ _ (by omega)).mono ?_; rintro e w8 ⟨rfl, rfl⟩) | (go_at_call 15; refine (last_some b _ _ _ _ HF6.out hl1 hl9).mono ?_; rintro e w8 ⟨rfl, rfl⟩))
              refine (counts_any b _ _ _ _ HF6.out).mono ?_
              rintro e w8 ⟨rfl, nd, rfl⟩
              go_wp2_with fail
              go_roundw
              case rel => exact ⟨j + 1, L, l, by omega, by go_num, by omega, own_drewN HO6.out _, (HF6.out.eq rfl (by omega) rfl).drewN _, HA.out, below_drewN hb6 _, by simp; omega⟩
              case measure => simp [intOf]; omega
            · obtain rfl : L = [] := List.eq_nil_of_length_eq_zero (by omega)
              obtain rfl : l = 0 := HA.out.2.1 rfl
              go_wp2_with (first | (go_at_call 10; refine (rcode_big _ _ _ _ _ _ HN.out (by simp) hs3).mono ?_; rintro e w8 ⟨rfl, rfl⟩) | (go_at_call 11; ((with_reducible refine (fresh_no b _ _ 0 s _ HF.out (.inr hs3)).mono ?_); rintro e w8 ⟨rfl, rfl⟩)) | (go_at_call 11; refine (fresh_any _ _ _ _ _ _ HF.out).mono ?_; rintro e w8 ⟨rfl, rfl⟩) | (go_at_call 12; refine (rfresh_any _ _ _ _ _ _ _ HN.out (by simp) HA.out hp0).mono ?_; rintro e w8 ⟨rfl, rfl⟩))
              refine (accept_range b _ _ 0 s _ HF.out (by simp) (by simp; omega) hs3).mono ?_
              rintro e w6 ⟨rfl, hf6, hg6⟩
              have hown6 := own_only HO.out hg6 hlt2
              have hb6 := below_only HB.out hg6 HB.out.size (by omega)
              have hs6 := hg6.size
              have hcw6 : w6.cell? ⟨ba, off + j, none⟩ = some (.int .u64 s) := (hb6.cell (p := ⟨ba, off + j, none⟩) hlba).trans ((HB.out.cell (p := ⟨ba, off + j, none⟩) hlba).symm.trans hcw)
              have HF6 := Lib.hid (hf6.eq rfl (show _ = (j : Int) + 1 by simp) rfl)
              have HO6 := Lib.hid hown6
              clear hf6 hown6 hcw
              go_wp2_with (first | (go_at_call 13; refine (told_err _ _ (by omega)).mono ?_; rintro e w8 ⟨rfl, rfl⟩) | (go_at_call 15; refine (last_none b _ _ _ HF6.out).mono ?_; rintro e w8 ⟨rfl, rfl⟩))
              refine (counts_any b _ _ _ _ HF6.out).mono ?_
              rintro e w8 ⟨rfl, nd, rfl⟩
              go_wp2_with fail
              go_roundw
              case rel => exact ⟨j + 1, [], 0, by omega, by go_num, by simp, own_drewN HO6.out _, (HF6.out.eq (by simp) (by simp) rfl).drewN _, HA.out, below_drewN hb6 _, by simp; omega⟩
              case measure => simp [intOf]; omega
      · have HB := Lib.hid hb
        clear hf hall hb hown
        go_wp2_with fail
        go_ret
        exact ⟨rfl, HB.out⟩
end Go.Proofs.Ytjnnobdkidkagaa
