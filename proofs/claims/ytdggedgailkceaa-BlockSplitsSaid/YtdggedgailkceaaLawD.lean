import Derived.Test.YtdggedgailkceaaRound
namespace Go.Proofs.Ytdggedgailkceaa
open Go.ChangeShapes Go.WideShapes Go.ChangeAt Go.RowKit Go.Shelf Go.Sort
set_option linter.unusedVariables false
set_option linter.unusedSimpArgs false
attribute [local go_sem] Oper.semAt_some
/-- What the law's own boxes hold. -/
def Sb (w : World) (A : Option Addr) (m c stop : Nat) (bs : List Nat) (W : World) : Prop :=
  Blk W w.heap.size 27 #[.slice A m c] ∧ Blk W (w.heap.size + 1) 5 #[.int .u8 (stop : Nat)] ∧ Blk W (w.heap.size + 1 + 1) 4 #[.bool false] ∧ Reads W w.heap.size 1 A m (bv bs) ∧ Below w.heap.size w W
section
variable {w W W' : World} {A : Option Addr} {m c stop : Nat} {bs : List Nat}
theorem Sb.keep (h : Sb w A m c stop bs W) (hb : Below (w.heap.size + 3) W W') : Sb w A m c stop bs W' :=
  ⟨h.1.below hb (by omega), h.2.1.below hb (by omega), h.2.2.1.below hb (by omega), h.2.2.2.1.below (hb.mono (by omega)), h.2.2.2.2.trans (hb.mono (by omega))⟩
theorem Sb.size (h : Sb w A m c stop bs W) : w.heap.size + 3 ≤ W.heap.size := h.2.2.1.lt
theorem Sb.below (h : Sb w A m c stop bs W) (hb : Below W.heap.size W W') : Sb w A m c stop bs W' := h.keep (hb.mono h.size)
theorem Sb.c0 (h : Sb w A m c stop bs W) : W.cell? ⟨w.heap.size, 0, none⟩ = some (.slice A m c) := Blk.cell h.1 0
theorem Sb.c1 (h : Sb w A m c stop bs W) : W.cell? ⟨w.heap.size + 1, 0, none⟩ = some (.int .u8 (stop : Nat)) := Blk.cell h.2.1 0
theorem Sb.c2 (h : Sb w A m c stop bs W) : W.cell? ⟨w.heap.size + 1 + 1, 0, none⟩ = some (.bool false) := Blk.cell h.2.2.1 0
theorem Sb.f2 (h : Sb w A m c stop bs W) : W.frozen? ⟨w.heap.size + 1 + 1, 0, none⟩ = false := Blk.frozen h.2.2.1 0
theorem Sb.bys (h : Sb w A m c stop bs W) (h2 : ∀ x ∈ bs, x < 256) : Bys W A m bs := ⟨h.2.2.2.1.more (by have := h.2.2.2.2.size; omega), h2⟩
end
theorem flat_len (bs : List Nat) (n : Nat) : (flat bs (List.range n)).length = n * 16 := by
  induction n with
  | zero => rfl
  | succ n ih => rw [List.range_succ, flat_snoc, List.length_append, ih, bv_len, pt_len]; omega
theorem flat_get (bs : List Nat) (n j i : Nat) (hj : j < n) (hi : i < 16) : (flat bs (List.range n))[j * 16 + i]? = (bv (pt bs j))[i]? := by
  induction n with
  | zero => omega
  | succ n ih =>
    rw [List.range_succ, flat_snoc]
    by_cases h : j < n
    · rw [List.getElem?_append_left (by rw [flat_len]; omega)]; exact ih h
    · obtain rfl : j = n := by omega
      rw [List.getElem?_append_right (by rw [flat_len]; omega), flat_len, show j * 16 + i - j * 16 = i by omega]
theorem flat_range {W : World} {base n c : Nat} {g : Nat} {bs : List Nat} (h : W.ownsRow base 24 16 (.slice (some ⟨g, 0, none⟩) n c) n (flat bs (List.range n))) (j : Nat) (hj : j < n) : W.rangeAt g (j * 16) (vc (pt bs j)).toList := by
  intro i v hv
  have hi := (List.getElem?_eq_some_iff.1 hv).1
  simp [vc, pt_len] at hi
  have := h.cells (g := g) rfl (j * 16 + i) v (by rw [flat_get bs n j i hj hi]; simpa [vc, bv] using hv)
  rw [add_none, Nat.zero_add] at this
  exact this
theorem part_to (A : Option Addr) (n c k : Nat) (bs : List Nat) (w : World) (hb : Bys w A n bs) (hk : 16 * k + 16 ≤ n) (hnc : n ≤ c) (hn : n ≤ 100000) :
    Calls Try.prog 13 #[.slice A n c, .int .i64 (k : Nat)] w fun e w' => e = .returned (.agg (vc (pt bs k))) ∧ Below w.heap.size w w' := by
  rw [pt_eq bs k (by rw [hb.len]; exact hk)]
  exact part_any A n c k bs w hb hk hnc hn
theorem func_eql_nil (b : Nat) (w : World) : (binOp .eql 34 (.func (.func 25) #[] #[.pointer (some ⟨b, 0, none⟩)]) .nilFunc).run Try.prog w = .ok (.bool false) w := by kernel_rfl
/-- What is held behind the split. -/
def Sc (w : World) (A : Option Addr) (m c stop : Nat) (bs : List Nat) (gn n base c1 c2 : Nat) (A1 A2 : Option Addr) (d : List Nat) (W : World) : Prop :=
  Sb w A m c stop bs W ∧ Blk W gn 3 #[.int .i64 (n : Int)] ∧ W.ownsRow base 24 16 (.slice A1 n c1) n (flat bs (List.range n)) ∧ W.ownsRow base 5 1 (.slice A2 (m - n * 16) c2) (m - n * 16) (bv d)
theorem Sc.below {w W W' : World} {A : Option Addr} {m c stop : Nat} {bs : List Nat} {gn n base c1 c2 : Nat} {A1 A2 : Option Addr} {d : List Nat} (h : Sc w A m c stop bs gn n base c1 c2 A1 A2 d W) (hb : Below W.heap.size W W') : Sc w A m c stop bs gn n base c1 c2 A1 A2 d W' :=
  ⟨h.1.below hb, h.2.1.below hb h.2.1.lt, own_below h.2.2.1 hb, own_below h.2.2.2 hb⟩
/-- What is held in a round of the law's own loop. -/
def Sr (w : World) (A : Option Addr) (m c stop : Nat) (bs : List Nat) (gn n ga gr r gk : Nat) (Ds : List Nat) (k : Nat) (W : World) : Prop :=
  Sb w A m c stop bs W ∧ Blk W gn 3 #[.int .i64 (n : Int)] ∧ Blk W ga 27 #[.slice A m c] ∧ Blk W gr 3 #[.int .i64 (r : Int)] ∧ Blk W gk 3 #[.int .i64 (k : Int)] ∧ ∀ D ∈ Ds, W.heap[D]? = some (.deferred (some []))
theorem range_snoc {k : Nat} {ini : List Nat} {x : Nat} (h : List.range k = ini ++ [x]) : x = ini.length := by
  cases k with
  | zero => simp at h
  | succ k =>
    rw [List.range_succ] at h
    obtain ⟨h1, h2⟩ := List.append_inj' h rfl
    have h3 : k = x := by simpa using h2
    rw [← h1, List.length_range]; exact h3.symm
/-- The frame in a round. -/
def fr4 (fr : Array Value) (x : Nat) (q : List Nat) (Bx : Nat) : Array Value := (((fr.setIfInBounds 78 (.int .i64 ((x : Int) + 1))).setIfInBounds 79 (.agg (vc q))).setIfInBounds 13 (.int .i64 ((x : Int) + 1))).setIfInBounds 14 (.pointer (some ⟨Bx, 0, none⟩))
theorem keeps_below {W W' : World} (h : Below W.heap.size W W') : KeepsOthers W W' := ⟨h.size, fun k o hk _ => (h.block k (Array.getElem?_eq_some_iff.1 hk).1).trans hk⟩
section
variable {w W W' : World} {A : Option Addr} {m c stop gn n ga gr r gk k : Nat} {bs : List Nat} {Ds : List Nat}
theorem Sr.grown {row : Option Nat} (h : Sr w A m c stop bs gn n ga gr r gk Ds k W) (hg : W.grownBy W' row) (hr : ∀ q, row = some q → w.heap.size ≤ q ∧ (∀ D ∈ Ds, q ≠ D) ∧ ∃ o : Obj, W.heap[q]? = some o ∧ o.isCells = false) : Sr w A m c stop bs gn n ga gr r gk Ds k W' := by
  have hne : ∀ {g : Nat} {t : TypeId} {cs : Array Value}, Blk W g t cs → some g ≠ row := fun hb e => by
    obtain ⟨_, _, o, ho, hc⟩ := hr _ e.symm
    unfold Blk at hb; rw [hb] at ho; cases ho; cases hc
  obtain ⟨h1, h2, h3, h4, h5, h6⟩ := h
  have hbe : Below w.heap.size W W' := ⟨hg.os, hg.tape, hg.output, hg.size, fun q hq => hg.block q (by have := h1.size; omega) (fun e => by have := (hr q e.symm).1; omega)⟩
  refine ⟨⟨h1.1.grown hg (hne h1.1), h1.2.1.grown hg (hne h1.2.1), h1.2.2.1.grown hg (hne h1.2.2.1), h1.2.2.2.1.below hbe, h1.2.2.2.2.trans hbe⟩, h2.grown hg (hne h2), h3.grown hg (hne h3), h4.grown hg (hne h4), h5.grown hg (hne h5), fun D hD => ?_⟩
  exact (hg.block D (Array.getElem?_eq_some_iff.1 (h6 D hD)).1 (fun e => (hr D e.symm).2.1 D hD rfl)).trans (h6 D hD)
theorem Sr.below (h : Sr w A m c stop bs gn n ga gr r gk Ds k W) (hb : Below W.heap.size W W') : Sr w A m c stop bs gn n ga gr r gk Ds k W' :=
  ⟨h.1.below hb, h.2.1.below hb h.2.1.lt, h.2.2.1.below hb h.2.2.1.lt, h.2.2.2.1.below hb h.2.2.2.1.lt, h.2.2.2.2.1.below hb h.2.2.2.2.1.lt, fun D hD => (hb.block D (Array.getElem?_eq_some_iff.1 (h.2.2.2.2.2 D hD)).1).trans (h.2.2.2.2.2 D hD)⟩
theorem Sr.setK (h : Sr w A m c stop bs gn n ga gr r gk Ds k W) (hs : w.heap.size + 3 ≤ gk) (h1 : gn ≠ gk) (h2 : gr ≠ gk) (k' : Nat) : Sr w A m c stop bs gn n ga gr r gk Ds k' (W.setCell ⟨gk, 0, none⟩ (.int .i64 (k' : Int))) := by
  obtain ⟨a, b, c, d, e, f⟩ := h
  refine ⟨a.keep ((Below.refl _ W).setCell (by simpa using hs) _), b.far h1 _, c.far (Blk.ne_ c e (by decide)) _, d.far h2 _, Blk.set_ e 0 _, fun D hD => ?_⟩
  rw [Below.heap_setCell W _ _ D (by rintro rfl; have := f _ hD; unfold Blk at e; rw [e] at this; cases this)]; exact f D hD
end
set_option maxRecDepth 100000 in
set_option maxHeartbeats 8000000 in
theorem splits_any (A : Option Addr) (m c : Nat) (stop : Nat) (bs : List Nat) (w : World) (hb : Bys w A m bs) (hmc : m ≤ c) (hcm : c ≤ maxLen) (hst : stop < 256) :
    Calls Try.prog 4 #[.slice A m c, .int .u8 (stop : Nat)] w fun e w' => e = .returned (.bool true) ∧ Below w.heap.size w w' := by
  have hm9 : m ≤ 9223372036854775807 := by unfold maxLen at hcm; omega
  have HBS := Lib.hid hb
  have HL := Lib.hid hb.len
  clear hb
  refine callsIn_wide.1 (callsIn_of_wp_marks (F := Fence.wide) (n := 6) Try.func4 rfl trivial ?_ rfl)
  simp only [Try.ntmps4, List.size_toArray, List.length_cons, List.length_nil, Nat.reduceAdd, Nat.reduceSub, Array.replicate_succ, Array.replicate_zero, List.push_toArray, List.append_toArray, List.nil_append, List.cons_append]
  refine wpIn_wide.2 ?_
  go_upto_region 1 with (fail)
  have hS : Sb w A m c stop bs (((w.alloc (.cells #[.slice A m c] 27)).alloc (.cells #[.int .u8 (stop : Nat)] 5)).alloc (.cells #[.bool false] 4)) := by
    refine ⟨((Blk.new w 27 #[.slice A m c]).alloc _).alloc _, ?_, ?_, ?_, by go_grown⟩
    · have := (Blk.new (w.alloc (.cells #[.slice A m c] 27)) 5 #[.int .u8 (stop : Nat)]).alloc (.cells #[.bool false] 4); simpa using this
    · have := Blk.new ((w.alloc (.cells #[.slice A m c] 27)).alloc (.cells #[.int .u8 (stop : Nat)] 5)) 4 #[.bool false]; simpa using this
    · exact Reads.below HBS.out.1 (by go_grown)
  generalize ((w.alloc (.cells #[.slice A m c] 27)).alloc (.cells #[.int .u8 (stop : Nat)] 5)).alloc (.cells #[.bool false] 4) = w1 at *
  have HS1 := Lib.hid hS
  have hs1 := hS.size
  clear hS
  go_wp2_with fail
  refine (awake_any _).mono ?_
  rintro e w2 ⟨rfl, hb2⟩
  have HS2 := Lib.hid (HS1.out.below hb2)
  have hs2 := HS2.out.size
  have c0 := HS2.out.c0
  clear HS1 hb2
  by_cases h1000 : 1000 < m
  · go_wp2_with fail
    refine (awake_any _).mono ?_
    rintro e w3 ⟨rfl, hb3⟩
    have HS3 := Lib.hid (HS2.out.below hb3)
    have c2 := HS3.out.c2
    have f2 := HS3.out.f2
    clear c0 HS2 hb3
    go_wp2_with fail
    have hc2 := Blk.cell (Blk.set_ HS3.out.2.2.1 0 (.bool true)) 0
    simp at hc2
    refine ⟨.bool true, ?_, rfl, HS3.out.2.2.2.2.setCell (by simp; omega) _⟩
    simp [results, Try.f4, go_sem, hc2]
  · have hm1 : m ≤ 1000 := by omega
    go_wp2_with fail
    refine (split_any A m c bs _ (HS2.out.bys HBS.out.2) (by omega) hmc).mono ?_
    rintro e w3 ⟨⟨A1, c1, A2, c2, rfl, ho1, ho2⟩, hb3⟩
    have HS3 := Lib.hid (HS2.out.below hb3)
    have hs3 := HS3.out.size
    have HO1 := Lib.hid ho1
    have HO2 := Lib.hid ho2
    have c0 := HS3.out.c0
    obtain ⟨n, hn⟩ : ∃ n, m / 16 = n := ⟨_, rfl⟩
    rw [hn] at HO1 HO2 ⊢
    have hn16 : n * 16 ≤ m := by omega
    have hn17 : m < n * 16 + 16 := by omega
    have hmn : (m : Int) / 16 = (n : Int) := by omega
    have HNN := Lib.hid hn
    clear hn ho1 ho2 HS2 hb3
    go_upto_region 5 with (fail)
    have hN4 : Blk (w3.alloc (.cells #[.int .i64 (n : Int)] 3)) w3.heap.size 3 #[.int .i64 (n : Int)] := Blk.new _ _ _
    have hb4 : Below w3.heap.size w3 (w3.alloc (.cells #[.int .i64 (n : Int)] 3)) := (Below.refl _ _).alloc (Nat.le_refl _) _
    generalize w3.alloc (.cells #[.int .i64 (n : Int)] 3) = w4 at *
    have HS4 := Lib.hid (HS3.out.below hb4)
    have HN4 := Lib.hid hN4
    have HO14 := Lib.hid (own_below HO1.out hb4)
    have HO24 := Lib.hid (own_below HO2.out hb4)
    have c0 := HS4.out.c0
    have cn := Blk.cell hN4 0
    simp at cn
    have hgn := hN4.lt
    clear hN4 hb4 HS3 HO1 HO2
    generalize w3.heap.size = gn at *
    obtain ⟨A', hA'⟩ : ∃ A', (if c = n * 16 then A else Option.map (fun x => x.add (n * 16)) A) = A' := ⟨_, rfl⟩
    have hcut : Reads w4 w.heap.size 1 A' (m - n * 16) (bv (bs.drop (n * 16))) := by
      have := HS4.out.2.2.2.1.cut (k := n * 16) (cap := c) hn16 hmc
      rw [Nat.mul_one, hA'] at this
      simpa [bv, List.map_drop] using this
    have hby1 : Bys w4 A' (m - n * 16) (bs.drop (n * 16)) := ⟨hcut.more (by have := HS4.out.2.2.2.2.size; omega), fun x hx => HBS.out.2 x (List.mem_of_mem_drop hx)⟩
    have hby2 : Bys w4 A2 (m - n * 16) (bs.drop (n * 16)) := Bys.of_own HO24.out fun x hx => HBS.out.2 x (List.mem_of_mem_drop hx)
    have HBY1 := Lib.hid hby1
    have HBY2 := Lib.hid hby2
    clear hcut hby1 hby2
    obtain ⟨d, hd⟩ : ∃ d, bs.drop (n * 16) = d := ⟨_, rfl⟩
    rw [hd] at HBY1 HBY2
    have HD := Lib.hid hd
    clear hd
    have hdt : decide (d = d) = true := by simp
    have hcomm : (16 : Int) * (n : Int) = (n : Int) * 16 := Int.mul_comm _ _
    have ht16 : ((n : Int) * 16).toNat = n * 16 := by omega
    have h016 : (0 : Int) ≤ (n : Int) * 16 := by omega
    have hm16 : (n : Int) * 16 ≤ (m : Int) := by omega
    go_wp2_with fail
    refine (same_any A2 A' (m - n * 16) c2 (m - n * 16) (c - n * 16) d d w4 HBY2.out HBY1.out (by unfold maxLen; omega) (by unfold maxLen; omega)).mono ?_
    rintro e w5 ⟨rfl, k5, rfl⟩
    have hsc : Sc w A m c stop bs gn n w2.heap.size c1 c2 A1 A2 d (w4.drewN k5) := by
      refine Sc.below (W := w4) ⟨HS4.out, HN4.out, HO14.out, ?_⟩ (below_drewN (Below.refl _ _) k5)
      have := HO24.out; rwa [HD.out] at this
    have HSC := Lib.hid hsc
    generalize w4.drewN k5 = w5 at *
    clear hsc HS4 HN4 HO14 HO24 HBY1 HBY2 c0 cn hA' hcomm ht16 h016 hm16 hdt
    go_wp2_with fail
    go_loopw [8] (fun i wr => ∃ (j : Nat), j ≤ n ∧ i = .int .i64 j ∧ Sc w A m c stop bs gn n w2.heap.size c1 c2 A1 A2 d wr) (fun i _ => n - (intOf i).toNat)
    case atStart => exact ⟨0, by omega, rfl, HSC.out⟩
    case round =>
      clear HSC
      obtain ⟨j, hj, rfl, hsc⟩ := hrel
      have HSC := Lib.hid hsc
      have cn := Blk.cell hsc.2.1 0
      simp at cn
      by_cases hlt : j < n
      · obtain ⟨g, cap, hv, hbg, hgl⟩ := hsc.2.2.1.form (by omega)
        simp only [Value.slice.injEq] at hv
        obtain ⟨rfl, -, rfl⟩ := hv
        have HRG := Lib.hid (flat_range hsc.2.2.1 j hlt)
        have HRQ : Hid (∀ w', (∃ p : Regrown, w' = grow (redrawn wr p.d) p.os) → w'.rangeAt g (j * 16) (vc (pt bs j)).toList) := Lib.hid (by
          rintro _ ⟨p, rfl⟩
          have := HSC.out.below (below_regrown wr p.d p.os)
          exact flat_range this.2.2.1 j hlt)
        have c0q := fun d os => cell_regrown HSC.out.1.c0 d os
        have HBB := Lib.hid (HSC.out.1.bys HBS.out.2)
        have hpl := pt_len bs j
        obtain ⟨q, hq⟩ : ∃ q, pt bs j = q := ⟨_, rfl⟩
        rw [hq] at HRQ hpl
        have HPL := Lib.hid hpl
        have E1 : ∀ W, (binOp .neq 24 (.agg (vc q)) (.agg (vc q))).run Try.prog W = .ok (.bool false) W := fun W => by rw [run_arr_neq W q q hpl hpl]; simp
        have HQ := Lib.hid hq
        have hk16 : 16 * j + 16 ≤ m := by omega
        clear hpl hq hsc HRG
        go_wp2_with fail
        have hpa : ∀ W, Bys W A m bs → Calls Try.prog 13 #[.slice A m c, .int .i64 (j : Nat)] W fun e w' => e = .returned (.agg (vc q)) ∧ Below W.heap.size W w' := fun W hW => by
          have := part_to A m c j bs W hW hk16 hmc (by omega)
          rw [HQ.out] at this; exact this
        have HPA := Lib.hid hpa
        clear hpa
        refine wp_region_quiet_below (by kernel_rfl) (by kernel_rfl) ?_
        repeat (first
          | (refine wpQuiet_load_mid rfl 24 (.tmp 51) rfl g (j * 16) rfl (vc q).toList (.array 16 5) HRQ.out Try.underlying24 rfl (info16 HPL.out) ?_)
          | quiet_step ((go_at_call 13; with_reducible exact Calls.regrown_of (HPA.out _ (Bys.regrown HBB.out _ _)))))
        refine wpQuiet_nil ?_
        rintro _ ⟨⟨dq, osq⟩, rfl⟩
        have HSC2 := Lib.hid (HSC.out.below (below_regrown wr dq osq))
        clear c0q cn
        go_wp2_with fail
        go_roundw
        case rel => exact ⟨j + 1, by omega, by go_num, HSC2.out⟩
        case measure => simp [intOf]; omega
      · obtain rfl : j = n := by omega
        clear hsc
        go_wp2_with fail
        have hro1 : m - j * 16 ≤ 1000 := by omega
        have hHO := HSC.out.2.2.2
        have hd9 : ∀ x ∈ d, x < 256 := fun x hx => HBS.out.2 x (by rw [← HD.out] at hx; exact List.mem_of_mem_drop hx)
        have hsb1 := HSC.out.1
        have hgn1 := HSC.out.2.1
        clear HSC cn
        generalize m - j * 16 = ro at *
        have HT := Lib.hid (show Sb w A m c stop bs wr ∧ Blk wr gn 3 #[.int .i64 (j : Int)] ∧ ∃ d' : List Nat, (∀ x ∈ d', x < 256) ∧ wr.ownsRow w2.heap.size 5 1 (.slice A2 ro c2) ro (bv d') from ⟨hsb1, hgn1, d, hd9, hHO⟩)
        clear hHO hd9 hsb1 hgn1
        obtain ⟨wo, rfl⟩ : ∃ wo : World, wo = wr := ⟨_, rfl⟩
        go_loopw [9] (fun i wr => ∃ (t : Nat), t ≤ ro ∧ i = .int .i64 t ∧ Sb w A m c stop bs wr ∧ Blk wr gn 3 #[.int .i64 (j : Int)] ∧ ∃ d' : List Nat, (∀ x ∈ d', x < 256) ∧ wr.ownsRow w2.heap.size 5 1 (.slice A2 ro c2) ro (bv d')) (fun i _ => ro - (intOf i).toNat)
        case atStart => exact ⟨0, by omega, rfl, HT.out⟩
        case round =>
          clear HT
          obtain ⟨t, ht, rfl, hsb, hgn2, d', hd9, hown⟩ := hrel
          by_cases hlt2 : t < ro
          · obtain ⟨g, cap, hv, hbg, hgl⟩ := hown.form (by omega)
            simp only [Value.slice.injEq] at hv
            obtain ⟨rfl, -, rfl⟩ := hv
            obtain ⟨cur, hcur, hcs, htk, hnc, -, -⟩ := own_blk hown
            have hdl : d'.length = ro := by have := hown.1; simpa [bv] using this
            obtain ⟨x, hx⟩ : ∃ x, d'[t]? = some x := ⟨_, List.getElem?_eq_getElem (by omega)⟩
            have hx9 := hd9 x (List.mem_of_getElem? hx)
            have cg : wr.cell? ⟨g, t, none⟩ = some (.int .u8 (x : Nat)) := own_at hown (by simp [bv, hx])
            have fg := Blk.frozen hcur t
            have hne : gn ≠ g := fun e => by subst e; exact own_blk_ne hown hgn2 (by decide) rfl
            obtain ⟨hst9, -⟩ := hown.stored t (.int .u8 ((x + 1) % 256 : Nat))
            have hset : (bv d').set t (.int .u8 ((x + 1) % 256 : Nat)) = bv (d'.set t ((x + 1) % 256)) := by simp [bv, List.map_set]
            rw [hset] at hst9
            have HST := Lib.hid hst9
            have HSB := Lib.hid hsb
            have HGN := Lib.hid hgn2
            have HD9 := Lib.hid hd9
            clear hcur hcs htk hnc hown hset hst9 hsb hgn2 hd9 hx
            go_wp2_with fail
            go_roundw
            case rel =>
              push_cast at HST
              refine ⟨t + 1, by omega, by go_num, HSB.out.keep ((Below.refl _ wr).setCell (by simp; omega) _), Blk.far HGN.out hne _, d'.set t ((x + 1) % 256), ?_, HST.out⟩
              intro y hy
              rcases List.mem_or_eq_of_mem_set hy with h | rfl
              · exact HD9.out y h
              · omega
            case measure => simp [intOf]; omega
          · obtain rfl : t = ro := by omega
            have c0 := hsb.c0
            have HSB := Lib.hid hsb
            have HGN := Lib.hid hgn2
            clear hsb hgn2 hown hd9
            have hfn := func_eql_nil
            go_wp2_with (go_at_call 14; refine (all_any _ _ _ _).mono ?_; rintro e w11 ⟨rfl, rfl⟩)
            have hgnl := HGN.out.lt
            have hS20 : Sr w A m c stop bs gn j wr.heap.size (wr.heap.size + 1) 0 (wr.heap.size + 1) [] 0 ((wr.alloc (.cells #[.slice A m c] 27)).alloc (.cells #[.int .i64 0] 3)) := by
              have h1 : Below wr.heap.size wr ((wr.alloc (.cells #[.slice A m c] 27)).alloc (.cells #[.int .i64 0] 3)) := by go_grown
              have h2 := Blk.new (wr.alloc (.cells #[.slice A m c] 27)) 3 #[.int .i64 0]
              rw [World.size_alloc] at h2
              exact ⟨HSB.out.below h1, HGN.out.below h1 hgnl, (Blk.new wr 27 #[.slice A m c]).alloc _, h2, h2, by simp⟩
            generalize (wr.alloc (.cells #[.slice A m c] 27)).alloc (.cells #[.int .i64 0] 3) = w20 at *
            have hga : gn < wr.heap.size := hgnl
            generalize wr.heap.size = ga at *
            have HS20 := Lib.hid hS20
            clear HSB HGN hfn c0 hS20
            refine (wpIn_wide (n := 6)).1 ?_
            refine wpIn_loop_rounds 3 ?_
            rw [roundsIn_succ]
            have cr := Blk.cell HS20.out.2.2.2.1 0
            simp at cr
            gi_wp2
            obtain ⟨W1, hW1⟩ : ∃ X, (w20.alloc (.cells #[.int .i64 0] 3)) = X := ⟨_, rfl⟩
            have HS1 : Hid (Sr w A m c stop bs gn j ga (ga + 1) 0 w20.heap.size [] 0 W1) := Lib.hid (by
              rw [← hW1]
              have h := HS20.out.below ((Below.refl _ _).alloc (Nat.le_refl _) (.cells #[.int .i64 0] 3))
              exact ⟨h.1, h.2.1, h.2.2.1, h.2.2.2.1, Blk.new _ _ _, by simp⟩)
            have hgk : ga + 1 < w20.heap.size := HS20.out.2.2.2.1.lt
            rw [hW1]
            clear hW1 cr
            generalize w20.heap.size = gk at *
            have hgs := HS1.out.2.2.2.2.1.lt
            have hwg : w.heap.size + 3 ≤ gk := by omega
            show Code.wpIn Fence.wide 6 Try.prog (Code.rangeFunc _ _ _ _) ?Q0 { tmps := ?fr0, defers := [] } _
            have hnext : ∀ (D kk : Nat) (W : World), W1.heap.size ≤ D → Sr w A m c stop bs gn j ga (ga + 1) 0 gk [] kk W → W.heap[D]? = some (.deferred (some [])) → ?Q0 .normal { tmps := ?fr0, defers := [{ target := .collected D, args := #[] }] } W := by
              intro D kk W hD hsr hK
              have cr := Blk.cell hsr.2.2.2.1 0
              have ck := Blk.cell hsr.2.2.2.2.1 0
              have cn := Blk.cell hsr.2.1 0
              simp at cr ck cn
              have HSR := Lib.hid hsr
              have HKD := Lib.hid hK
              clear hsr hK
              gi_wp2
              have hS40 : Sr w A m c stop bs gn j ga W.heap.size 1 W.heap.size [D] 1 (W.alloc (.cells #[.int .i64 1] 3)) := by
                have h := HSR.out.below ((Below.refl W.heap.size W).alloc (Nat.le_refl _) (.cells #[.int .i64 1] 3))
                refine ⟨h.1, h.2.1, h.2.2.1, Blk.new _ _ _, Blk.new _ _ _, fun D' hD' => ?_⟩
                simp at hD'
                subst hD'
                exact (Below.heap_alloc W _ D' (Array.getElem?_eq_some_iff.1 HKD.out).1).trans HKD.out
              have hgaw := HSR.out.2.2.1.lt
              have hgnw := HSR.out.2.1.lt
              have hswz := HSR.out.1.size
              have hDD := (Array.getElem?_eq_some_iff.1 HKD.out).1
              generalize W.alloc (.cells #[.int .i64 1] 3) = w40 at *
              have hDw : D < W.heap.size := hDD
              generalize W.heap.size = gr at *
              have HS40 := Lib.hid hS40
              clear hS40 HSR cr ck cn HKD hDD
              rw [roundsIn_succ]
              have cr := Blk.cell HS40.out.2.2.2.1 0
              simp at cr
              gi_wp2
              obtain ⟨V1, hV1⟩ : ∃ X, (w40.alloc (.cells #[.int .i64 0] 3)) = X := ⟨_, rfl⟩
              have HT1 : Hid (Sr w A m c stop bs gn j ga gr 1 w40.heap.size [D] 0 V1) := Lib.hid (by
                rw [← hV1]
                have h := HS40.out.below ((Below.refl _ _).alloc (Nat.le_refl _) (.cells #[.int .i64 0] 3))
                exact ⟨h.1, h.2.1, h.2.2.1, h.2.2.2.1, Blk.new _ _ _, h.2.2.2.2.2⟩)
              have hgl : gr < w40.heap.size := HS40.out.2.2.2.1.lt
              rw [hV1]
              clear hV1 cr
              generalize w40.heap.size = gl at *
              have hgt := HT1.out.2.2.2.2.1.lt
              have hwh : w.heap.size + 3 ≤ gl := by omega
              show Code.wpIn Fence.wide 6 Try.prog (Code.rangeFunc _ _ _ _) ?Q1 { tmps := ?fr1, defers := [{ target := .collected D, args := #[] }] } _
              have hnexu : ∀ (D2 : Nat) (W : World), V1.heap.size ≤ D2 → Sr w A m c stop bs gn j ga gr 1 gl [D] j W → W.heap[D2]? = some (.deferred (some [])) → ?Q1 .normal { tmps := ?fr1, defers := [{ target := .collected D2, args := #[] }, { target := .collected D, args := #[] }] } W := by
                intro D2 W hD2 hsr hK2
                have cr := Blk.cell hsr.2.2.2.1 0
                have ck := Blk.cell hsr.2.2.2.2.1 0
                have cn := Blk.cell hsr.2.1 0
                simp at cr ck cn
                have HSR := Lib.hid hsr
                have HKD2 := Lib.hid hK2
                clear hsr hK2
                gi_wp2
                rw [roundsIn_succ]
                gi_wp2
                have hSf := HSR.out.below ((Below.refl W.heap.size W).alloc (Nat.le_refl _) (.cells #[.int .i64 2] 3))
                have hKf := (Below.heap_alloc W (.cells #[.int .i64 2] 3) D2 (Array.getElem?_eq_some_iff.1 HKD2.out).1).trans HKD2.out
                generalize W.alloc (.cells #[.int .i64 2] 3) = Wf at *
                have hb2 := hSf.1.2.2.1
                have c2f := hSf.1.c2
                have f2f := hSf.1.f2
                clear cr ck cn
                go_wp2_with fail
                have hcf := Blk.cell (Blk.set_ hb2 0 (.bool true)) 0
                simp at hcf
                have hnD : ∀ D' : Nat, Wf.heap[D']? = some (.deferred (some [])) → (Wf.setCell ⟨w.heap.size + 1 + 1, 0, none⟩ (.bool true)).heap[D']? = some (.deferred (some [])) := fun D' h => by
                  rw [Below.heap_setCell Wf _ _ D' (by rintro rfl; unfold Blk at hb2; rw [hb2] at h; cases h)]; exact h
                have k1 := hnD D2 hKf
                have k0 := hnD D (hSf.2.2.2.2.2 D (by simp))
                have hbf := hSf.1.2.2.2.2.setCell (p := ⟨w.heap.size + 1 + 1, 0, none⟩) (by simp; omega) (.bool true)
                have hswf := hSf.1.size
                generalize Wf.setCell ⟨w.heap.size + 1 + 1, 0, none⟩ (.bool true) = Wg at *
                have k0' : (Wg.putObj D2 (.deferred none)).heap[D]? = some (.deferred (some [])) := (World.putObj_heap_other (by omega)).trans k0
                have hcf2 := cell_kept hcf (grownBy_putObj' _ D2 (.deferred none)) (fun r e => by cases e; exact ⟨_, k1, rfl⟩)
                have hcf3 := cell_kept hcf2 (grownBy_putObj' _ D (.deferred none)) (fun r e => by cases e; exact ⟨_, k0', rfl⟩)
                refine ⟨by simp, .inl ⟨_, _, rfl, run_takeDeferred k1, ⟨by simp, .inl ⟨_, _, rfl, run_takeDeferred k0', ?_⟩⟩⟩⟩
                refine ⟨.bool true, ?_, rfl, (hbf.trans (belowK_b (w := w) (Nat.le_refl _) Wg D2 _ _ (by omega) k1 rfl rfl)).trans (belowK_b (w := w) (Nat.le_refl _) _ D _ _ (by omega) k0' rfl rfl)⟩
                simp [results, Try.f4, go_sem, hcf3]
              have HNY := Lib.hid hnexu
              clear hnexu
              have hrd := HT1.out.1.2.2.2.1
              have hbA := HT1.out.2.2.1
              refine wpIn_rangeFunc_ownH rfl (by omega) (gf := 25) (lb := #[.pointer (some ⟨ga, 0, none⟩)]) rfl trivial (enters_of Try.func25 (by kernel_rfl) rfl)
                (all_stops Fence.wide 5 trivial rfl (by omega) ga w.heap.size m c A bs (by omega) hmc HL.out V1 (by omega) (by omega) (Blk.cell hbA 0) hrd) Keep.trans (keep_b (by omega) (by omega)) (Below.refl _ _) (fun _ => rfl)
                (fun pre W => Sr w A m c stop bs gn j ga gr 1 gl [D] pre.length W)
                (fun cd pre W => (cd = .ret ∧ ∃ (ini : List Nat) (x : Nat), pre = ini ++ [x] ∧ x ≠ ini.length))
                (fun pre X Y row hs hg hr => hs.grown hg (fun q e => ⟨by have := (hr q e).1; omega, fun D' hD' => by simp at hD'; subst hD'; have := (hr q e).1; omega, (hr q e).2⟩))
                (fun cd pre X Y row hs hg hr => ⟨hs.1, hs.2⟩)
                HT1.out
                (fun x a' W => ∃ Bx, gl < Bx ∧ Blk W Bx 24 (vc (pt bs x)) ∧ a' = { tmps := fr4 ?fr1 x (pt bs x) Bx, defers := [] })
                (fun x a' _ X Y row hs hg hr => by obtain ⟨Bx, h1, h2, h3⟩ := hs; exact ⟨Bx, h1, blk_own Bx 24 (fun (_ : Unit) => vc (pt bs x)) () X Y row h2 hg (fun r e => (hr r e).2), h3⟩)
                ?assignb ?bodyb ?doneb ?stopb
              case assignb =>
                rintro l pre x W K hsr hK
                have hp := pt_len bs x
                obtain ⟨q, hq⟩ : ∃ q, pt bs x = q := ⟨_, rfl⟩
                rw [hq] at hp hK
                dsimp only [encP]
                rw [hq]
                have HP := Lib.hid hp
                have HSR := Lib.hid hsr
                have hgl2 := hsr.2.2.2.2.1.lt
                clear hq hp hsr
                gi_wp2_with (refine wpListIn_store_mid rfl 24 (.tmp 14) (.tmp 79) rfl W.heap.size 0 (vc q) rfl rfl (Blk.there (Blk.new W 24 _) (by rw [vc_size, HP.out]; rfl)) (info16' HP.out) (vc_one _) ?_)
                rw [zeros_vc]
                have hbw : Below W.heap.size W ((W.alloc (.cells (vc zeros) 24)).setCells W.heap.size 0 (vc q).toList) := below_setCells _ _ _ ((Below.refl _ W).alloc (Nat.le_refl _) _) (Nat.le_refl _)
                have hsz2 := HSR.out.1.size
                exact hK _ _ ((keeps_setCells (KeepsOthers.alloc _ _) _ _).from _) ⟨hbw.mono (by omega), hbw.block ga HSR.out.2.2.1.lt⟩ (HSR.out.below hbw) ⟨W.heap.size, hgl2, Blk.setAll (Blk.new W 24 (vc zeros)) (by rw [vc_size, vc_size, HP.out]; rfl), rfl⟩
              case bodyb =>
                rintro l pre x a' W hl - hsr ⟨Bx, hBx, bX, rfl⟩ hlt
                simp only [fr4, List.setIfInBounds_toArray, List.set_cons_succ, List.set_cons_zero]
                have c0 := hsr.1.c0
                have c1' := hsr.1.c1
                have c2' := hsr.1.c2
                have f2' := hsr.1.f2
                have cn := Blk.cell hsr.2.1 0
                have cr := Blk.cell hsr.2.2.2.1 0
                have ck := Blk.cell hsr.2.2.2.2.1 0
                have fk := Blk.frozen hsr.2.2.2.2.1 0
                simp at cn cr ck
                have hBl := bX.lt
                have HSR := Lib.hid hsr
                have HBX := Lib.hid bX
                have hkj : pre.length < j := by omega
                obtain ⟨k, hk⟩ : ∃ k, pre.length = k := ⟨_, rfl⟩
                rw [hk] at ck hkj HSR
                have HK := Lib.hid hk
                have hp := pt_len bs x
                have HP := Lib.hid hp
                clear hsr bX hk hp hlt
                by_cases hx : x = k
                · subst hx
                  have HBB := Lib.hid (HSR.out.1.bys HBS.out.2)
                  have hk16 : 16 * x + 16 ≤ m := by omega
                  have hpa : ∀ W, Bys W A m bs → Calls Try.prog 13 #[.slice A m c, .int .i64 (x : Nat)] W fun e w' => e = .returned (.agg (vc (pt bs x))) ∧ Below W.heap.size W w' := fun W hW => part_to A m c x bs W hW hk16 hmc (by omega)
                  have E1 : ∀ W, (binOp .neq 24 (.agg (vc (pt bs x))) (.agg (vc (pt bs x)))).run Try.prog W = .ok (.bool false) W := fun W => by rw [run_arr_neq W _ _ HP.out HP.out]; simp
                  obtain ⟨q, hq⟩ : ∃ q, pt bs x = q := ⟨_, rfl⟩
                  rw [hq] at HP HBX E1
                  simp only [hq] at hpa
                  have HPA := Lib.hid hpa
                  have hb0 : (((x : Int) + 1) != ((x : Int) + 1)) = false := by simp
                  have c0q := fun d os => cell_regrown c0 d os
                  have cnq := fun d os => cell_regrown cn d os
                  have ckq := fun d os => cell_regrown ck d os
                  have hki : decide (j ≤ x) = false := by simp; omega
                  clear hpa
                  simp only [hq]
                  gi_wp2
                  have hwk : IntKind.i64.wrap ((x : Int) + 1) = (x : Int) + 1 := IntWalk.i64_in _ (by omega)
                  refine region_round (by kernel_rfl) (by kernel_rfl) (by kernel_rfl) ?_
                  repeat (first
                    | (refine wpQuiet_load_mid rfl 24 (.tmp 14) rfl Bx 0 rfl (vc q).toList (.array 16 5) (blk_regrown HBX.out) Try.underlying24 rfl (info16 HP.out) ?_)
                    | quiet_step ((go_at_call 13; with_reducible exact Calls.regrown_of (HPA.out _ (Bys.regrown HBB.out _ _)))))
                  refine wpQuiet_nil ?_
                  rintro _ ⟨⟨dq, osq⟩, rfl⟩
                  have hbq := below_regrown W dq osq
                  have HSR2 := Lib.hid (HSR.out.below hbq)
                  have HBQ := Lib.hid hbq
                  have c1' := HSR2.out.1.c1
                  have cr := Blk.cell HSR2.out.2.2.2.1 0
                  have ck := Blk.cell HSR2.out.2.2.2.2.1 0
                  have fk := Blk.frozen HSR2.out.2.2.2.2.1 0
                  simp at cr ck
                  have hgl2 := hbq.size
                  generalize grow (redrawn W dq) osq = W2 at *
                  have HSR3 := Lib.hid (show Sr w A m c stop bs gn j ga gr 1 gl [D] (x + 1) (W2.setCell ⟨gl, 0, none⟩ (.int .i64 ((x : Int) + 1))) by have := HSR2.out.setK hwh (by omega) (by omega) (x + 1); push_cast at this; exact this)
                  have HK3 := Lib.hid (show KeepsFrom V1.heap.size W (W2.setCell ⟨gl, 0, none⟩ (.int .i64 ((x : Int) + 1))) from ((keeps_below HBQ.out).trans (KeepsOthers.setCell _ _ _)).from _)
                  have HKP3 := Lib.hid (show Keep w.heap.size ga W (W2.setCell ⟨gl, 0, none⟩ (.int .i64 ((x : Int) + 1))) from ⟨(HBQ.out.mono (by have := HSR.out.1.size; omega)).setCell (by simp; omega) _, by
                    rw [Below.heap_setCell W2 _ _ ga (by simp; omega)]; exact HBQ.out.block ga HSR.out.2.2.1.lt⟩)
                  have cr3 := Blk.cell HSR3.out.2.2.2.1 0
                  have ck3 := Blk.cell HSR3.out.2.2.2.2.1 0
                  have c13 := HSR3.out.1.c1
                  simp at cr3 ck3
                  have hlen : (pre ++ [x]).length = x + 1 := by rw [List.length_append, HK.out]; rfl
                  have HLEN := Lib.hid hlen
                  clear hbq hlen c0 c0q cnq ckq cn hwk hb0 E1
                  gi_wp2
                  exact ⟨HK3.out, HKP3.out, by have h := HSR3.out; rw [← HLEN.out] at h; exact h⟩
                · have HBB := Lib.hid (HSR.out.1.bys HBS.out.2)
                  have hb0 : (((x : Int) + 1) != ((k : Int) + 1)) = true := by rw [bne_iff_ne]; omega
                  have c0q := fun d os => cell_regrown c0 d os
                  have cnq := fun d os => cell_regrown cn d os
                  have ckq := fun d os => cell_regrown ck d os
                  have hki : decide (j ≤ k) = false := by simp; omega
                  gi_wp2
                  have hwk : IntKind.i64.wrap ((k : Int) + 1) = (k : Int) + 1 := IntWalk.i64_in _ (by omega)
                  refine region_round (by kernel_rfl) (by kernel_rfl) (by kernel_rfl) ?_
                  repeat (quiet_step (fail))
                  refine wpQuiet_nil ?_
                  rintro _ ⟨⟨dq, osq⟩, rfl⟩
                  have hbq := below_regrown W dq osq
                  have HSR2 := Lib.hid (HSR.out.below hbq)
                  have HBQ := Lib.hid hbq
                  have c2' := HSR2.out.1.c2
                  have f2' := HSR2.out.1.f2
                  generalize grow (redrawn W dq) osq = W2 at *
                  clear hbq c0 c0q cnq ckq cn hwk hb0
                  gi_wp2
                  exact ⟨((keeps_below HBQ.out).trans (KeepsOthers.setCell _ _ _)).from _, And.intro rfl ⟨pre, x, rfl, by rw [HK.out]; exact hx⟩⟩
              case doneb =>
                rintro D2 ys W hD2 rfl hsr hK
                rw [List.length_range, HNN.out] at hsr
                exact HNY.out D2 W hD2 hsr hK
              case stopb =>
                rintro D2 cd pre W hD2 ⟨k, hk, rfl⟩ ⟨rfl, ini, x, e1, e2⟩ hK
                exact absurd (range_snoc e1) e2
            have HNX := Lib.hid hnext
            clear hnext
            have hrd := HS1.out.1.2.2.2.1
            have hbA := HS1.out.2.2.1
            refine wpIn_rangeFunc_ownH rfl (by omega) (gf := 25) (lb := #[.pointer (some ⟨ga, 0, none⟩)]) rfl trivial (enters_of Try.func25 (by kernel_rfl) rfl)
              (all_stops Fence.wide 5 trivial rfl (by omega) ga w.heap.size m c A bs (by omega) hmc HL.out W1 (by omega) (by omega) (Blk.cell hbA 0) hrd) Keep.trans (keep_b (by omega) (by omega)) (Below.refl _ _) (fun _ => rfl)
              (fun pre W => Sr w A m c stop bs gn j ga (ga + 1) 0 gk [] pre.length W)
              (fun cd pre W => (cd = .exit 6 ∧ Sr w A m c stop bs gn j ga (ga + 1) 0 gk [] pre.length W) ∨ (cd = .ret ∧ ∃ (ini : List Nat) (x : Nat), pre = ini ++ [x] ∧ x ≠ ini.length))
              (fun pre X Y row hs hg hr => hs.grown hg (fun q e => ⟨by have := (hr q e).1; omega, by simp, (hr q e).2⟩))
              (fun cd pre X Y row hs hg hr => by
                rcases hs with ⟨h1, hs⟩ | h2
                · exact .inl ⟨h1, hs.grown hg (fun q e => ⟨by have := (hr q e).1; omega, by simp, (hr q e).2⟩)⟩
                · exact .inr h2)
              HS1.out
              (fun x a' W => ∃ Bx, gk < Bx ∧ Blk W Bx 24 (vc (pt bs x)) ∧ a' = { tmps := fr4 ?fr0 x (pt bs x) Bx, defers := [] })
              (fun x a' _ X Y row hs hg hr => by obtain ⟨Bx, h1, h2, h3⟩ := hs; exact ⟨Bx, h1, blk_own Bx 24 (fun (_ : Unit) => vc (pt bs x)) () X Y row h2 hg (fun r e => (hr r e).2), h3⟩)
              ?assign ?body ?done ?stop
            case assign =>
              rintro l pre x W K hsr hK
              have hp := pt_len bs x
              obtain ⟨q, hq⟩ : ∃ q, pt bs x = q := ⟨_, rfl⟩
              rw [hq] at hp hK
              dsimp only [encP]
              rw [hq]
              have HP := Lib.hid hp
              have HSR := Lib.hid hsr
              have hgl2 := hsr.2.2.2.2.1.lt
              clear hq hp hsr
              gi_wp2_with (refine wpListIn_store_mid rfl 24 (.tmp 14) (.tmp 79) rfl W.heap.size 0 (vc q) rfl rfl (Blk.there (Blk.new W 24 _) (by rw [vc_size, HP.out]; rfl)) (info16' HP.out) (vc_one _) ?_)
              rw [zeros_vc]
              have hbw : Below W.heap.size W ((W.alloc (.cells (vc zeros) 24)).setCells W.heap.size 0 (vc q).toList) := below_setCells _ _ _ ((Below.refl _ W).alloc (Nat.le_refl _) _) (Nat.le_refl _)
              have hsz2 := HSR.out.1.size
              exact hK _ _ ((keeps_setCells (KeepsOthers.alloc _ _) _ _).from _) ⟨hbw.mono (by omega), hbw.block ga HSR.out.2.2.1.lt⟩ (HSR.out.below hbw) ⟨W.heap.size, hgl2, Blk.setAll (Blk.new W 24 (vc zeros)) (by rw [vc_size, vc_size, HP.out]; rfl), rfl⟩
            case body =>
              rintro l pre x a' W hl - hsr ⟨Bx, hBx, bX, rfl⟩ hlt
              simp only [fr4, List.setIfInBounds_toArray, List.set_cons_succ, List.set_cons_zero]
              have c0 := hsr.1.c0
              have c1' := hsr.1.c1
              have c2' := hsr.1.c2
              have f2' := hsr.1.f2
              have cn := Blk.cell hsr.2.1 0
              have cr := Blk.cell hsr.2.2.2.1 0
              have ck := Blk.cell hsr.2.2.2.2.1 0
              have fk := Blk.frozen hsr.2.2.2.2.1 0
              simp at cn cr ck
              have hBl := bX.lt
              have HSR := Lib.hid hsr
              have HBX := Lib.hid bX
              have hkj : pre.length < j := by omega
              obtain ⟨k, hk⟩ : ∃ k, pre.length = k := ⟨_, rfl⟩
              rw [hk] at ck hkj HSR
              have HK := Lib.hid hk
              have hp := pt_len bs x
              have HP := Lib.hid hp
              clear hsr bX hk hp hlt
              by_cases hx : x = k
              · subst hx
                have HBB := Lib.hid (HSR.out.1.bys HBS.out.2)
                have hk16 : 16 * x + 16 ≤ m := by omega
                have hpa : ∀ W, Bys W A m bs → Calls Try.prog 13 #[.slice A m c, .int .i64 (x : Nat)] W fun e w' => e = .returned (.agg (vc (pt bs x))) ∧ Below W.heap.size W w' := fun W hW => part_to A m c x bs W hW hk16 hmc (by omega)
                have E1 : ∀ W, (binOp .neq 24 (.agg (vc (pt bs x))) (.agg (vc (pt bs x)))).run Try.prog W = .ok (.bool false) W := fun W => by rw [run_arr_neq W _ _ HP.out HP.out]; simp
                obtain ⟨q, hq⟩ : ∃ q, pt bs x = q := ⟨_, rfl⟩
                rw [hq] at HP HBX E1
                simp only [hq] at hpa
                have HPA := Lib.hid hpa
                have hb0 : (((x : Int) + 1) != ((x : Int) + 1)) = false := by simp
                have c0q := fun d os => cell_regrown c0 d os
                have cnq := fun d os => cell_regrown cn d os
                have ckq := fun d os => cell_regrown ck d os
                have hki : decide (j ≤ x) = false := by simp; omega
                clear hpa
                simp only [hq]
                gi_wp2
                have hwk : IntKind.i64.wrap ((x : Int) + 1) = (x : Int) + 1 := IntWalk.i64_in _ (by omega)
                refine region_round (by kernel_rfl) (by kernel_rfl) (by kernel_rfl) ?_
                repeat (first
                  | (refine wpQuiet_load_mid rfl 24 (.tmp 14) rfl Bx 0 rfl (vc q).toList (.array 16 5) (blk_regrown HBX.out) Try.underlying24 rfl (info16 HP.out) ?_)
                  | quiet_step ((go_at_call 13; with_reducible exact Calls.regrown_of (HPA.out _ (Bys.regrown HBB.out _ _)))))
                refine wpQuiet_nil ?_
                rintro _ ⟨⟨dq, osq⟩, rfl⟩
                have hbq := below_regrown W dq osq
                have HSR2 := Lib.hid (HSR.out.below hbq)
                have HBQ := Lib.hid hbq
                have c1' := HSR2.out.1.c1
                have cr := Blk.cell HSR2.out.2.2.2.1 0
                have ck := Blk.cell HSR2.out.2.2.2.2.1 0
                have fk := Blk.frozen HSR2.out.2.2.2.2.1 0
                simp at cr ck
                have hgl2 := hbq.size
                generalize grow (redrawn W dq) osq = W2 at *
                have HSR3 := Lib.hid (show Sr w A m c stop bs gn j ga (ga + 1) 0 gk [] (x + 1) (W2.setCell ⟨gk, 0, none⟩ (.int .i64 ((x : Int) + 1))) by have := HSR2.out.setK hwg (by omega) (by omega) (x + 1); push_cast at this; exact this)
                have HK3 := Lib.hid (show KeepsFrom W1.heap.size W (W2.setCell ⟨gk, 0, none⟩ (.int .i64 ((x : Int) + 1))) from ((keeps_below HBQ.out).trans (KeepsOthers.setCell _ _ _)).from _)
                have HKP3 := Lib.hid (show Keep w.heap.size ga W (W2.setCell ⟨gk, 0, none⟩ (.int .i64 ((x : Int) + 1))) from ⟨(HBQ.out.mono (by have := HSR.out.1.size; omega)).setCell (by simp; omega) _, by
                  rw [Below.heap_setCell W2 _ _ ga (by simp; omega)]; exact HBQ.out.block ga HSR.out.2.2.1.lt⟩)
                have cr3 := Blk.cell HSR3.out.2.2.2.1 0
                have ck3 := Blk.cell HSR3.out.2.2.2.2.1 0
                have c13 := HSR3.out.1.c1
                simp at cr3 ck3
                have hlen : (pre ++ [x]).length = x + 1 := by rw [List.length_append, HK.out]; rfl
                have HLEN := Lib.hid hlen
                clear hbq hlen c0 c0q cnq ckq cn hwk hb0 E1
                by_cases hstop : stop < x + 1
                · have hsi : (stop : Int) < (x : Int) + 1 := by omega
                  gi_wp2
                  exact ⟨HK3.out, .inl ⟨rfl, by have h := HSR3.out; rw [← HLEN.out] at h; exact h⟩⟩
                · have hsi : (x : Int) + 1 ≤ (stop : Int) := by omega
                  gi_wp2
                  exact ⟨HK3.out, HKP3.out, by have h := HSR3.out; rw [← HLEN.out] at h; exact h⟩
              · have HBB := Lib.hid (HSR.out.1.bys HBS.out.2)
                have hb0 : (((x : Int) + 1) != ((k : Int) + 1)) = true := by rw [bne_iff_ne]; omega
                have c0q := fun d os => cell_regrown c0 d os
                have cnq := fun d os => cell_regrown cn d os
                have ckq := fun d os => cell_regrown ck d os
                have hki : decide (j ≤ k) = false := by simp; omega
                gi_wp2
                have hwk : IntKind.i64.wrap ((k : Int) + 1) = (k : Int) + 1 := IntWalk.i64_in _ (by omega)
                refine region_round (by kernel_rfl) (by kernel_rfl) (by kernel_rfl) ?_
                repeat (quiet_step (fail))
                refine wpQuiet_nil ?_
                rintro _ ⟨⟨dq, osq⟩, rfl⟩
                have hbq := below_regrown W dq osq
                have HSR2 := Lib.hid (HSR.out.below hbq)
                have HBQ := Lib.hid hbq
                have c2' := HSR2.out.1.c2
                have f2' := HSR2.out.1.f2
                generalize grow (redrawn W dq) osq = W2 at *
                clear hbq c0 c0q cnq ckq cn hwk hb0
                gi_wp2
                exact ⟨((keeps_below HBQ.out).trans (KeepsOthers.setCell _ _ _)).from _, .inr ⟨rfl, pre, x, rfl, by rw [HK.out]; exact hx⟩⟩
            case done =>
              rintro D ys W hD rfl hsr hK
              exact HNX.out D _ W hD hsr hK
            case stop =>
              rintro D cd pre W hD ⟨k, hk, rfl⟩ hix hK
              rcases hix with ⟨rfl, hsr⟩ | ⟨rfl, ini, x, e1, e2⟩
              · refine wpIn_exit ?_
                exact HNX.out D _ W hD hsr hK
              · exact absurd (range_snoc e1) e2
end Go.Proofs.Ytdggedgailkceaa
