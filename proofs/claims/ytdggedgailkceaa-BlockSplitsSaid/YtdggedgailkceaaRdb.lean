import Derived.Test.YtdggedgailkceaaOf
import Derived.Laws.IdiomCopy
import Derived.ArgAppend
namespace Go.Proofs.Ytdggedgailkceaa
open Go.ChangeShapes Go.WideShapes Go.ChangeAt Go.RowKit
set_option linter.unusedVariables false
set_option linter.unusedSimpArgs false
theorem Bys.of_blk {w : World} {g : Nat} {t : TypeId} {l : List Nat} {n : Nat} (h : Blk w g t (vc l)) (hn : l.length = n) (h2 : ∀ x ∈ l, x < 256) : Bys w (some ⟨g, 0, none⟩) n l := by
  refine ⟨⟨by simp [hn], fun _ => ⟨_, rfl, h.lt, fun j u hu => ?_⟩⟩, h2⟩
  rw [add_none, Nat.zero_add, Blk.cell h]
  simpa [vc] using hu
theorem own_blk {w : World} {base g cap n : Nat} {e : TypeId} {xs : List Value} (h : w.ownsRow base e 1 (.slice (some ⟨g, 0, none⟩) n cap) n xs) : ∃ cur : Array Value, Blk w g e cur ∧ cur.size = cap ∧ cur.toList.take n = xs ∧ n ≤ cap ∧ base ≤ g ∧ cap ≤ maxLen := by
  rcases h.2 with ⟨h0, _⟩ | ⟨g', cap', cur, hv, hb, hh, hn, hm, hs, ht⟩
  · cases h0
  · simp only [Value.slice.injEq, Option.some.injEq, Addr.mk.injEq] at hv
    obtain ⟨⟨rfl, _⟩, _, rfl⟩ := hv
    exact ⟨cur, hh, by simpa using hs, by simpa using ht, hn, hb, hm⟩
theorem only_setCells {a w : World} {g : Nat} (h : a.grownBy w (some g)) (o : Nat) (vs : List Value) : a.grownBy (w.setCells g o vs) (some g) := by
  induction vs generalizing o w with
  | nil => exact h
  | cons v r ih => rw [World.setCells]; exact ih (only_setCell h (.inl rfl) v) _
theorem wpList_append_off {P : Program} (w : World) {ops : Array Oper} {rest : List Oper} {o : Oper} {a : Act} {Q : Exit → Act → World → Prop}
    (hg : o.guard = none) (s x : Operand) (t : TypeId) (hop : o.op = Op.call { callee := Callee.builtin Builtin.append, args := #[s, x], argTypes := #[t, t] })
    (e : TypeId) (i : TypeInfo) (z : Value) (bytes : Nat) (h1 : P.underlying t = some (.slice e)) (h2 : P.info? e = some i) (h3 : i.zero = some z) (h4 : i.size = 1) (h5 : i.bytes = bytes) (h6 : z.cells.size = 1)
    (base g n k cap : Nat) (xs : List Value) (hown : w.ownsRow base e 1 (.slice (some ⟨g, 0, none⟩) n cap) n xs) (hk : k ≤ n) (hs : a.eval s = .slice (some ⟨g, k, none⟩) (n - k) (cap - k))
    (ad : Addr) (m c : Nat) (news : List Value) (hx : a.eval x = .slice (some ad) m c) (hn : news.length = m * 1) (hc : ∀ j u, news[j]? = some u → w.cell? (ad.add j) = some u) (h1c : ∀ u ∈ news, u.oneCell' = true)
    (b1 : n + m ≤ maxLen) (b2 : (n + m) * bytes ≤ 140737488355328)
    (hK : ∀ A' c' w', Reads w' w'.heap.size 1 A' (n - k + m) (xs.drop k ++ news) → w.grownBy w' (some g) → (∀ i, i < n → w'.cell? ⟨g, i, none⟩ = w.cell? ⟨g, i, none⟩) → wpList P ops Q rest (a.put o.dst (.slice A' (n - k + m) c')) w') :
    wpList P ops Q (o :: rest) a w := by
  obtain ⟨cur, hcur, hsz, htk, hnc, _, hmx⟩ := own_blk hown
  have hxs : ∀ j, j < n → xs[j]? = cur[j]? := fun j hj => by rw [← htk, List.getElem?_take_of_lt hj]; simp
  have hxl : xs.length = n := by simpa using hown.1
  refine wpList_append_arg w hg s x t hop e i z 1 bytes h1 h2 h3 h4 h5 h6 (by omega) g k (n - k) (cap - k) (xs.drop k) hs (by simp [hxl]) ?_ ad m c news hx hn hc h1c ?_ (by omega) (by have : (n - k + m) * bytes ≤ (n + m) * bytes := Nat.mul_le_mul_right _ (by omega); omega) ?_ ?_
  · intro j u hu
    rw [List.getElem?_drop] at hu
    have := (List.getElem?_eq_some_iff.1 hu).1
    rw [Blk.cell hcur, ← hxs _ (by omega)]; exact hu
  · intro hr j hj
    rw [Blk.cell hcur, Array.getElem?_eq_getElem (by omega)]
    exact ⟨rfl, Blk.frozen hcur _⟩
  · intro hr
    rw [show k + (n - k) * 1 = n by omega]
    have hin : ∀ j, j < news.length → (w.cell? ⟨g, n + j, none⟩).isSome = true := fun j hj => by rw [Blk.cell hcur, Array.getElem?_eq_getElem (by omega)]; rfl
    refine hK _ _ _ ?_ (only_setCells (only_refl w g) n news) fun i hi => World.cell?_setCells_out g news n w ⟨g, i, none⟩ fun _ _ => .inl hi
    refine ⟨by simp [hxl, hn], fun _ => ⟨_, rfl, ?_, fun j u hu => ?_⟩⟩
    · have : ∀ (vs : List Value) (o : Nat) (w : World), (w.setCells g o vs).heap.size = w.heap.size := by
        intro vs
        induction vs with
        | nil => intro o w; rfl
        | cons v r ih => intro o w; rw [World.setCells, ih, World.size_setCell]
      rw [this]; exact hcur.lt
    · rw [add_none]
      by_cases hj : j < n - k
      · rw [World.cell?_setCells_out g news n w ⟨g, k + j, none⟩ fun _ _ => .inl (by simp; omega)]
        rw [List.getElem?_append_left (by simp [hxl]; omega), List.getElem?_drop] at hu
        rw [Blk.cell hcur, ← hxs _ (by omega)]; exact hu
      · rw [List.getElem?_append_right (by simp [hxl]; omega)] at hu
        simp only [List.length_drop, hxl] at hu
        obtain ⟨hj2, hu2⟩ := List.getElem?_eq_some_iff.1 hu
        have := World.cell?_setCells_in g news n w hin (j - (n - k)) hj2
        rw [show n + (j - (n - k)) = k + j by omega] at this
        rw [this, hu2]
  · intro hlt v' w' hown' hgr
    obtain ⟨A', c', rfl⟩ := own_form hown'
    refine hK A' c' w' (Reads.of_own hown') ⟨hgr.os, hgr.tape, hgr.output, hgr.size, fun q hq _ => hgr.block q hq (by simp)⟩ fun i hi => World.cell?_of_block (hgr.block g hcur.lt (by simp))
theorem bitsTo_le (bs : List Nat) (m : Nat) : ∀ x ∈ bitsTo bs m, x ≤ 1 := by
  intro x hx
  simp only [bitsTo, List.mem_map] at hx
  obtain ⟨i, _, rfl⟩ := hx
  unfold bit; omega
def rq (l : List Nat) : List Nat := ofL ((bitsTo l 128).drop 1 ++ [0])
def rdbl (l : List Nat) : List Nat := if bit l 0 = 1 then (rq l).set 15 ((rq l).getD 15 0 ^^^ 135) else rq l
theorem rq_len (l : List Nat) : (rq l).length = 16 := by simp [rq, ofL]
theorem ofL_lt (L : List Nat) (h : ∀ x ∈ L, x ≤ 1) : ∀ x ∈ ofL L, x < 256 := by
  intro x hx
  simp only [ofL, List.mem_map] at hx
  obtain ⟨j, _, rfl⟩ := hx
  exact pv_lt L h j 8
theorem rq_lt (l : List Nat) : ∀ x ∈ rq l, x < 256 := ofL_lt _ (by
  intro x hx
  rcases List.mem_append.1 hx with h | h
  · exact bitsTo_le l 128 x (List.mem_of_mem_drop h)
  · simp at h; omega)
theorem iv_off (l : List Nat) : (iv (bitsTo l 128)).drop 1 ++ [.int .i64 0] = iv ((bitsTo l 128).drop 1 ++ [0]) := by simp [iv, List.map_drop]
set_option maxRecDepth 100000 in
theorem rdouble_any (l : List Nat) (w : World) (ha : l.length = 16) (ha2 : ∀ x ∈ l, x < 256) :
    Calls Try.prog 20 #[.agg (vc l)] w fun e w' => e = .returned (.agg (vc (rdbl l))) ∧ Below w.heap.size w w' := by
  have H2 := Lib.hid ha2
  have H1 := Lib.hid ha
  clear ha ha2
  go_enter Try.func20, Try.ntmps20
  go_upto_region 1 with (fail)
  rw [zeros_vc]
  have hA : Blk ((w.alloc (.cells (vc l) 24)).alloc (.cells (vc zeros) 24)) w.heap.size 24 (vc l) := (Blk.new w 24 (vc l)).alloc _
  have hB : Blk ((w.alloc (.cells (vc l) 24)).alloc (.cells (vc zeros) 24)) (w.heap.size + 1) 24 (vc zeros) := by have := Blk.new (w.alloc (.cells (vc l) 24)) 24 (vc zeros); simpa using this
  have hs1 : ((w.alloc (.cells (vc l) 24)).alloc (.cells (vc zeros) 24)).heap.size = w.heap.size + 1 + 1 := by simp
  have hb : Below w.heap.size w ((w.alloc (.cells (vc l) 24)).alloc (.cells (vc zeros) 24)) := by go_grown
  obtain ⟨w1, hw1⟩ : ∃ w1, (w.alloc (.cells (vc l) 24)).alloc (.cells (vc zeros) 24) = w1 := ⟨_, rfl⟩
  rw [hw1] at hA hB hs1 hb ⊢
  clear hw1
  have HA := Lib.hid hA
  have HB := Lib.hid hB
  have HBE := Lib.hid hb
  clear hA hB hb
  go_wp2_with fail
  refine (bits_any _ 16 16 l _ (Bys.of_blk HA.out H1.out H2.out) (by omega)).mono ?_
  rintro e w2 ⟨⟨v, rfl, ho⟩, hb2⟩
  have ho : w2.ownsRow w1.heap.size 3 1 v 128 (iv (bitsTo l 128)) := ho
  obtain ⟨g, cap, rfl, hbg, hgl⟩ := ho.form (by omega)
  obtain ⟨cur, hcur, hcs, htk, hnc, hbg, hmx⟩ := own_blk ho
  have hc0 : w2.cell? ⟨g, 0, none⟩ = some (.int .i64 (bit l 0 : Nat)) := by
    refine own_at ho ?_
    simp [iv, bitsTo]
  have hs2 := hb2.size
  have HO := Lib.hid ho
  have HB2 := Lib.hid (HB.out.below hb2 HB.out.lt)
  have HBE2 := Lib.hid (HBE.out.trans (hb2.mono (by omega)))
  have hcap : 128 ≤ cap := hnc
  have hbge : w.heap.size + 1 < g := by omega
  clear ho hcur hcs htk hnc hbg hmx HB HBE HA
  rw [hs1] at hs2
  clear hs1
  obtain ⟨i0, hi, hz0, hz1, hz2⟩ := info_parts info3
  go_wp2_with (at_builtin; refine wpList_append_off _ rfl _ _ 48 rfl 3 i0 (.int .i64 0) 8 Try.underlying48 hi hz0 hz1 hz2 rfl w1.heap.size g 128 1 cap _ (HO.out.alloc _) (by omega) rfl ⟨w2.heap.size, 0, none⟩ 1 1 [.int .i64 0] rfl rfl (new_one _ _ _) (by simp [Value.oneCell']) (by unfold maxLen; omega) (by omega) ?_; intro A' c' w3 hr3 hg3 hc3)
  rw [iv_off] at hr3
  have hs3 := hg3.size
  simp only [World.size_alloc] at hs3
  have hc3' := (hc3 0 (by omega)).trans ((World.cell?_alloc_lt w2 _ ⟨g, 0, none⟩ hgl).trans hc0)
  have HC3 := Lib.hid hc3'
  have HB3 := Lib.hid (Blk.only (HB2.out.alloc (.cells #[.int .i64 0] 3)) hg3 (by omega))
  have HBE3 := Lib.hid (below_only (HBE2.out.alloc (by omega) (.cells #[.int .i64 0] 3)) hg3 (by simp; omega) (by omega))
  have HR3 := Lib.hid hr3
  clear hr3 hg3 hc3 hc3' HB2 HBE2 HO hc0
  refine (of_any A' 128 c' w3.heap.size _ _ HR3.out (Nat.le_refl _) (by omega) (by
    intro x hx
    rcases List.mem_append.1 hx with h | h
    · exact bitsTo_le l 128 x (List.mem_of_mem_drop h)
    · simp at h; omega)).mono ?_
  rintro e w4 ⟨rfl, hb4⟩
  have hq16 := rq_len l
  have hq9 := rq_lt l
  have hrd : rdbl l = if bit l 0 = 1 then (rq l).set 15 ((rq l).getD 15 0 ^^^ 135) else rq l := rfl
  rw [show ofL ((bitsTo l 128).drop 1 ++ [0]) = rq l from rfl]
  obtain ⟨q, hq⟩ : ∃ q, rq l = q := ⟨_, rfl⟩
  rw [hq] at hq16 hq9 hrd ⊢
  have HQ := Lib.hid hq
  have HQ16 := Lib.hid hq16
  have HRD := Lib.hid hrd
  have hq15 := hq9 
  have hs4 := hb4.size
  have hc4 := (hb4.cell (p := ⟨g, 0, none⟩) (show g < w3.heap.size by omega)).trans HC3.out
  have hB4 := HB3.out.below hb4 (by omega)
  have hBE4 := HBE3.out.trans (hb4.mono (by omega))
  have hg4 : g < w4.heap.size := by omega
  clear hq hq16 hrd hb4 HC3 HB3 HBE3
  have HB4 := Lib.hid hB4
  have HBE4 := Lib.hid hBE4
  have HC4 := Lib.hid hc4
  clear hB4 hBE4 hc4
  go_upto_region 3 with (refine wpList_store_mid rfl 24 (.tmp 4) (.tmp 11) rfl w4.heap.size 0 (vc q) rfl rfl (Blk.there (Blk.new w4 24 _) (by rw [vc_size, HQ16.out]; rfl)) (info16' HQ16.out) (vc_one _) ?_)
  rw [zeros_vc]
  have hC5 : Blk ((w4.alloc (.cells (vc zeros) 24)).setCells w4.heap.size 0 (vc q).toList) w4.heap.size 24 (vc q) := Blk.setAll (Blk.new w4 24 (vc zeros)) (by rw [vc_size, vc_size, HQ16.out]; rfl)
  have hB5 : Blk ((w4.alloc (.cells (vc zeros) 24)).setCells w4.heap.size 0 (vc q).toList) (w.heap.size + 1) 24 (vc zeros) := Blk.setFar (HB4.out.alloc _) (by omega) _ _
  have hBE5 : Below w.heap.size w ((w4.alloc (.cells (vc zeros) 24)).setCells w4.heap.size 0 (vc q).toList) := below_setCells _ _ _ (HBE4.out.alloc (by omega) _) (by omega)
  have hc5 : ((w4.alloc (.cells (vc zeros) 24)).setCells w4.heap.size 0 (vc q).toList).cell? ⟨g, 0, none⟩ = some (.int .i64 (bit l 0 : Nat)) :=
    (World.cell?_of_block (a := ⟨g, 0, none⟩) ((setCells_heap w4.heap.size (vc q).toList 0 _ g (by omega)).trans (Below.heap_alloc w4 _ g hg4))).trans HC4.out
  generalize (w4.alloc (.cells (vc zeros) 24)).setCells w4.heap.size 0 (vc q).toList = w5 at *
  generalize w4.heap.size = k at *
  have c15 := (Blk.cell hC5 15).trans (vc_get q 15 (by rw [HQ16.out]; omega))
  have f15 := Blk.frozen hC5 15
  have hx9 := getD_lt hq9 15
  have HC5 := Lib.hid hC5
  have HB5 := Lib.hid hB5
  have HBE5 := Lib.hid hBE5
  obtain ⟨x, hx⟩ : ∃ x, q.getD 15 0 = x := ⟨_, rfl⟩
  rw [hx] at c15 hx9
  have HX := Lib.hid hx
  clear hx hC5 hB5 hBE5
  have hxo : bits .xor .u8 (x : Int) 135 = ((x ^^^ 135 : Nat) : Int) := u8_xor_nat x 135 hx9 (by omega)
  have hxl : x ^^^ 135 < 256 := xor_lt hx9 (by omega)
  obtain ⟨b0, hb0⟩ : ∃ b0, bit l 0 = b0 := ⟨_, rfl⟩
  rw [hb0] at hc5
  have HRD2 := Lib.hid (by have := HRD.out; rw [hb0, HX.out] at this; exact this)
  clear hb0 HRD HC4
  by_cases h1 : b0 = 1
  · subst h1
    have hw : rdbl l = q.set 15 (x ^^^ 135) := by rw [HRD2.out, if_pos rfl]
    have hq2 : (vc q).setIfInBounds 15 (.int .u8 ((x ^^^ 135 : Nat) : Int)) = vc (rdbl l) := by rw [hw, vc_set]
    have hl2 : (rdbl l).length = 16 := by rw [hw]; simpa using HQ16.out
    obtain ⟨v, hv⟩ : ∃ v, rdbl l = v := ⟨_, rfl⟩
    rw [hv] at hq2 hl2
    have HV := Lib.hid hv
    have HQ2 := Lib.hid hq2
    have HL := Lib.hid hl2
    clear hv hq2 hl2 hw
    have hC6 : Blk (w5.setCell ⟨k, 15, none⟩ (.int .u8 ((x ^^^ 135 : Nat) : Int))) k 24 (vc v) := by rw [← HQ2.out]; exact Blk.set_ HC5.out 15 _
    have hB6 : Blk (w5.setCell ⟨k, 15, none⟩ (.int .u8 ((x ^^^ 135 : Nat) : Int))) (w.heap.size + 1) 24 (vc zeros) := Blk.far HB5.out (by simp; omega) _
    have HC6 := Lib.hid hC6
    have HB6 := Lib.hid hB6
    clear hC6 hB6
    go_upto_region 5 with (fail)
    go_wp2_with (first | (refine wpList_load_mid rfl 24 (.tmp 4) rfl k 0 rfl (vc v).toList (.array 16 5) (Blk.rangeAt HC6.out) Try.underlying24 rfl (info16 HL.out) ?_) | (refine wpList_store_mid rfl 24 (.tmp 2) (.tmp 20) rfl (w.heap.size + 1) 0 (vc v) rfl rfl (Blk.there HB6.out (by rw [vc_size, HL.out]; rfl)) (info16' HL.out) (vc_one _) ?_))
    have hB2 := Blk.setAll HB6.out (cs' := vc v) (by rw [vc_size, vc_size, HL.out]; rfl)
    refine bodyPost_ret (results_cell_row rfl _ _ (w.heap.size + 1) 24 _ (0, 0) (.array 16 5) rfl hB2 Try.underlying24 rfl (info16' HL.out)) rfl ⟨by rw [HV.out], below_setCells _ _ _ (HBE5.out.setCell (by simp; omega) _) (by omega)⟩
  · have hw : rdbl l = q := by rw [HRD2.out, if_neg h1]
    have HW := Lib.hid hw
    clear hw
    have h1' : ((b0 : Int) == 1) = false := by simp; omega
    go_upto_region 5 with (fail)
    go_wp2_with (first | (refine wpList_load_mid rfl 24 (.tmp 4) rfl k 0 rfl (vc q).toList (.array 16 5) (Blk.rangeAt HC5.out) Try.underlying24 rfl (info16 HQ16.out) ?_) | (refine wpList_store_mid rfl 24 (.tmp 2) (.tmp 20) rfl (w.heap.size + 1) 0 (vc q) rfl rfl (Blk.there HB5.out (by rw [vc_size, HQ16.out]; rfl)) (info16' HQ16.out) (vc_one _) ?_))
    have hB2 := Blk.setAll HB5.out (cs' := vc q) (by rw [vc_size, vc_size, HQ16.out]; rfl)
    refine bodyPost_ret (results_cell_row rfl _ _ (w.heap.size + 1) 24 _ (0, 0) (.array 16 5) rfl hB2 Try.underlying24 rfl (info16' HQ16.out)) rfl ⟨by rw [HW.out], below_setCells _ _ _ HBE5.out (by omega)⟩
end Go.Proofs.Ytdggedgailkceaa
