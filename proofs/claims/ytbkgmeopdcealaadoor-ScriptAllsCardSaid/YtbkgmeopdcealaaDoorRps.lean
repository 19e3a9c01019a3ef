import Derived.Test.YtbkgmeopdcealaaDoorRpp
import Derived.Test.YtbkgmeopdcealaaDoorRtx
namespace Go.Proofs.YtbkgmeopdcealaaDoor
open Go.ChangeShapes Go.WideShapes Go.ChangeAt Go.RowKit Go.Sort Go.Deep
set_option linter.unusedVariables false
set_option linter.unusedSimpArgs false
theorem allW_cells : ∀ i : Nat, i < 9 → (#[(.string ⟨#[115, 101, 110, 100]⟩ : Value), .string ⟨#[116, 105, 99, 107]⟩, .string ⟨#[100, 101, 108, 105, 118, 101, 114]⟩, .string ⟨#[100, 114, 111, 112]⟩, .string ⟨#[99, 111, 112, 121]⟩, .string ⟨#[115, 119, 97, 112]⟩, .string ⟨#[105, 110, 106, 101, 99, 116]⟩, .string ⟨#[109, 111, 118, 101]⟩, .string ⟨#[99, 108, 111, 115, 101]⟩] : Array Value)[i]? = some (.string (ruleW (i + 1))) := by
  intro i hi
  rcases (show i = 0 ∨ i = 1 ∨ i = 2 ∨ i = 3 ∨ i = 4 ∨ i = 5 ∨ i = 6 ∨ i = 7 ∨ i = 8 by omega) with rfl | rfl | rfl | rfl | rfl | rfl | rfl | rfl | rfl <;> rfl
def lenV : Value → Nat
  | .slice _ n _ => n
  | _ => 0
/-- The words, and empty ones up to four. -/
def Padded (ws xs : List ByteArray) : Prop := ∃ j, xs = ws ++ List.replicate j em ∧ (j = 0 ∨ xs.length ≤ 4)
theorem Padded.next {ws xs : List ByteArray} (h : Padded ws xs) (hl : xs.length < 4) : Padded ws (xs ++ [em]) := by
  obtain ⟨j, e, _⟩ := h
  refine ⟨j + 1, ?_, .inr (by simp; omega)⟩
  rw [e, List.append_assoc, List.replicate_succ']
theorem Padded.get {ws xs : List ByteArray} (h : Padded ws xs) (hl : 4 ≤ xs.length) (i : Nat) (hi : i < 4) : xs[i]? = some (gw ws i) := by
  obtain ⟨j, e, _⟩ := h
  unfold gw
  rw [List.getD_eq_getElem?_getD, e]
  by_cases hw : i < ws.length
  · rw [List.getElem?_append_left hw, List.getElem?_eq_getElem hw]; rfl
  · rw [e] at hl
    simp only [List.length_append, List.length_replicate] at hl
    rw [List.getElem?_append_right (by omega), List.getElem?_replicate, if_pos (by omega), List.getElem?_eq_none (by omega)]; rfl
/-- Under way in the reference's Parse. -/
structure RI (w : World) (ws : List ByteArray) (g B : Nat) (W : World) : Prop where
  bel : Below w.heap.size w W
  res : Blk W w.heap.size 24 zO.arr
  wd : ∀ i, i < 4 → W.cell? ⟨g, i, none⟩ = some (.string (gw ws i))
  g0 : w.heap.size < g
  gB : g < B
  bz : B < W.heap.size
theorem RI.below {w W W' : World} {ws : List ByteArray} {g B : Nat} (h : RI w ws g B W) (hb : Below W.heap.size W W') : RI w ws g B W' :=
  ⟨h.bel.trans (hb.mono h.bel.size), h.res.below hb h.res.lt, fun i hi => (hb.cell (p := ⟨g, i, none⟩) (by have := h.gB; have := h.bz; show g < _; omega)).trans (h.wd i hi), h.g0, h.gB, Nat.lt_of_lt_of_le h.bz hb.size⟩
theorem RI.set {w W : World} {ws : List ByteArray} {g B : Nat} (h : RI w ws g B W) (i : Nat) (v : Value) : RI w ws g B (W.setCell ⟨B, i, none⟩ v) :=
  have hg0 := h.g0
  have hgB := h.gB
  ⟨h.bel.setCell (by show _ ≤ B; omega) v, h.res.far (by show _ ≠ B; omega) v, fun j hj => (World.cell?_setCell_other W ⟨B, i, none⟩ ⟨g, j, none⟩ v (fun e => by injection e with e; omega)).trans (h.wd j hj), h.g0, h.gB, by rw [World.size_setCell]; exact h.bz⟩
theorem Bys.apart {W : World} {A : Option Addr} {n B i : Nat} {bs : List Nat} {t : TypeId} {cs : Array Value} (h : Bys W A n bs) (hK : Blk W B t cs) (hc : ∀ (j : Nat) (x : Int), cs[j]? ≠ some (.int .u8 x)) (v : Value) : Bys (W.setCell ⟨B, i, none⟩ v) A n bs := by
  refine ⟨⟨h.1.1, fun hn => ?_⟩, h.2⟩
  obtain ⟨ad, e, hb, hcc⟩ := h.1.2 hn
  have hne : ad.block ≠ B := by
    rintro rfl
    obtain ⟨b, bo, x, hA, _, _, _, hcx⟩ := h.cell (k := 0) hn
    rw [e] at hA
    injection hA with hA
    subst hA
    have hz := hK.cell (bo + 0)
    rw [hcx] at hz
    exact hc _ _ hz.symm
  refine ⟨ad, e, by rw [World.size_setCell]; exact hb, fun j u hu => ?_⟩
  rw [← hcc j u hu]
  exact World.cell?_of_block (Below.heap_setCell W _ v _ (by rw [block_of_add]; exact hne))
theorem arr_no8 (o : Op) : ∀ (j : Nat) (x : Int), o.arr[j]? ≠ some (.int .u8 x) := by
  intro i x hi
  have hi6 : i < 6 := (Array.getElem?_eq_some_iff.1 hi).1
  rcases (show i = 0 ∨ i = 1 ∨ i = 2 ∨ i = 3 ∨ i = 4 ∨ i = 5 by omega) with rfl | rfl | rfl | rfl | rfl | rfl <;> simp [Op.arr] at hi
theorem info24 : (Tryd.prog.info? 24).map (·.size) = some 6 := by kernel_rfl
theorem setRes24 {W : World} {g : Nat} {o : Op} (h : OpOk W o) (hK : Blk W g 24 zO.arr) (cs : List Value) : OpOk (W.setCells g 0 cs) o := by
  refine ⟨?_, h.c0, h.c1, h.k0, h.k1, h.w0, h.w1, h.n0, h.n1, h.m0, h.m1, h.a1⟩
  refine ⟨⟨h.y.1.1, fun hn => ?_⟩, h.y.2⟩
  obtain ⟨ad, e, hb, hcc⟩ := h.y.1.2 hn
  have hsz : ∀ (vs : List Value) (o : Nat) (w : World), (w.setCells g o vs).heap.size = w.heap.size := by
    intro vs
    induction vs with
    | nil => intro o w; rfl
    | cons v r ih => intro o w; rw [World.setCells, ih]; exact World.size_setCell _ _ _
  have hne : ad.block ≠ g := by
    rintro rfl
    obtain ⟨b, bo, x, hA, _, _, _, hcx⟩ := h.y.cell (k := 0) hn
    rw [e] at hA
    injection hA with hA
    subst hA
    have hz := hK.cell (bo + 0)
    rw [hcx] at hz
    exact arr_no8 zO _ _ hz.symm
  refine ⟨ad, e, by rw [hsz]; exact hb, fun j u hu => ?_⟩
  rw [← hcc j u hu]
  exact World.cell?_of_block (setCells_heap g cs 0 W _ (by rw [block_of_add]; exact hne))
set_option maxRecDepth 100000 in
set_option maxHeartbeats 8000000 in
/-- The reference's Parse. -/
theorem rparse_any (line : ByteArray) (w : World) (hs : line.size ≤ 300000) :
    Calls Tryd.prog 18 #[.string line] w fun e w' => PaR line w' e ∧ Below w.heap.size w w' := by
  obtain ⟨i0, hi, hz0, hz1, hz2⟩ := info_parts info9
  have hw := words_any line (w.alloc (.cells #[.int .i64 0, .int .i64 0, .int .i64 0, .int .i64 0, .slice none 0 0, .string ⟨#[]⟩] 24)) hs
  have b1 : Below w.heap.size w (w.alloc (.cells #[.int .i64 0, .int .i64 0, .int .i64 0, .int .i64 0, .slice none 0 0, .string ⟨#[]⟩] 24)) := (Below.refl _ w).alloc (Nat.le_refl _) _
  have k1 := Blk.new w 24 #[.int .i64 0, .int .i64 0, .int .i64 0, .int .i64 0, .slice none 0 0, .string ⟨#[]⟩]
  rw [World.size_alloc] at hw
  have HC := Lib.hid (fun (p : PO) (h : RP p) (e : lineP p = line) => cand_line h e)
  have HZ := Lib.hid (And.intro (cut_size line) (And.intro (cut_len line) hs))
  have H1 := Lib.hid (And.intro b1 k1)
  have hwz : 1 ≤ (cutS line).length ∧ (cutS line).length ≤ 300001 := ⟨by rw [cut_count]; omega, by have := cut_len line; omega⟩
  obtain ⟨ws, hws⟩ : ∃ ws, cutS line = ws := ⟨_, rfl⟩
  rw [hws] at hw HC HZ hwz
  clear hs b1 k1 hws
  go_enter Tryd.func18, Tryd.ntmps18
  go_wp2_with (go_at_call 32; refine hw.mono ?_; rintro _ w2 ⟨⟨v, rfl, ho⟩, hb⟩; refine Hid.out ?_)
  refine Lib.hid ?_
  have hb' : Below (w.heap.size + 1) (w.alloc (.cells #[.int .i64 0, .int .i64 0, .int .i64 0, .int .i64 0, .slice none 0 0, .string ⟨#[]⟩] 24)) w2 := by first | exact hb | (rw [World.size_alloc] at hb; exact hb)
  have HB2 := Lib.hid (show Below w.heap.size w w2 ∧ Blk w2 w.heap.size 24 zO.arr from ⟨H1.out.1.trans (hb'.mono (by omega)), H1.out.2.below hb' (by omega)⟩)
  have HO2 := Lib.hid ho
  clear hb hb' ho hw H1
  obtain ⟨A0, c0, rfl⟩ := own_form HO2.out
  go_wp2_with fail
  go_loopw [4] (fun v wr => ∃ (xs : List ByteArray), Padded ws xs ∧ ws.length ≤ xs.length ∧ wr.ownsRow (w.heap.size + 1) 9 1 v xs.length (xs.map Value.string) ∧ Below w.heap.size w wr ∧ Blk wr w.heap.size 24 zO.arr) (fun v _ => 4 - lenV v)
  case atStart => exact ⟨ws, ⟨0, by simp, .inl rfl⟩, Nat.le_refl _, HO2.out, HB2.out.1, HB2.out.2⟩
  case round =>
    clear HB2 HO2
    obtain ⟨xs, hpad, hxl, hown, hbel, hres⟩ := hrel
    obtain ⟨A1, c1, rfl⟩ := own_form hown
    have hxl2 : xs.length ≤ 300004 := by
      obtain ⟨j, e, hj⟩ := hpad
      rcases hj with rfl | hj
      · rw [e]; simp; omega
      · omega
    by_cases h4 : xs.length < 4
    · have HI := Lib.hid (And.intro (hpad.next h4) (And.intro hown (And.intro hbel hres)))
      have hsz := hbel.size
      have hlt := hres.lt
      have h4i : (xs.length : Int) < 4 := by omega
      clear hpad hown hbel hres
      go_wp2_with (at_builtin; refine wpList_append_own _ rfl _ _ 44 rfl (w.heap.size + 1) 9 i0 (.string ByteArray.empty) 1 16 Tryd.underlying44 hi hz0 hz1 hz2 rfl (by decide) _ _ _ rfl (HI.out.2.1.alloc _) ⟨wr.heap.size, 0, none⟩ 1 1 [.string ⟨#[]⟩] rfl rfl (news_blk wr #[.string ⟨#[]⟩] 9) (by intro u hu; simp at hu; subst hu; rfl) (by unfold maxLen; omega) (by omega) (by simp; omega) ?_; intro v7 w7 hown7 hg7 hx7; clear hx7; refine Hid.out ?_)
      refine Lib.hid ?_
      have H7 := Lib.hid (And.intro hown7 (And.intro (below_own (HI.out.2.2.1.alloc hsz (.cells #[.string ⟨#[]⟩] 9)) (HI.out.2.1.alloc _) hg7 (by omega) (by simp; omega)) ((HI.out.2.2.2.alloc (.cells #[.string ⟨#[]⟩] 9)).grown hg7 (own_ne (HI.out.2.1.alloc (.cells #[.string ⟨#[]⟩] 9)) (by omega)))))
      have hl7 : lenV v7 = xs.length + 1 := by
        obtain ⟨A7, c7, rfl⟩ := own_form hown7
        rfl
      clear hown7 hg7
      go_wp2_with fail
      go_roundw
      case rel => exact ⟨xs ++ [em], HI.out.1, by simp; omega, by have h := H7.out.1; rw [List.length_append, List.map_append]; exact h, H7.out.2.1, H7.out.2.2⟩
      case measure => rw [hl7]; show 4 - (xs.length + 1) < 4 - xs.length; omega
    · obtain ⟨g1, c1', hv1, hg1⟩ : ∃ g1 c1', A1 = some ⟨g1, 0, none⟩ ∧ w.heap.size + 1 ≤ g1 := by
        obtain ⟨g, cap, hv, hg, hlt⟩ := hown.form (by omega)
        injection hv with hv
        exact ⟨g, cap, hv, hg⟩
      subst hv1
      have hwd : ∀ i, i < 4 → wr.cell? ⟨g1, i, none⟩ = some (.string (gw ws i)) := fun i hi => own_at hown (by rw [List.getElem?_map, hpad.get (by omega) i hi]; rfl)
      have hgl : g1 < wr.heap.size := lt_of_cell (hwd 0 (by omega))
      have hsz := hbel.size
      have HS := Lib.hid (show ∀ arr, arr = zO.arr → RI w ws g1 wr.heap.size ((wr.alloc (.cells arr 24)).alloc (.cells #[.string ⟨#[115, 101, 110, 100]⟩, .string ⟨#[116, 105, 99, 107]⟩, .string ⟨#[100, 101, 108, 105, 118, 101, 114]⟩, .string ⟨#[100, 114, 111, 112]⟩, .string ⟨#[99, 111, 112, 121]⟩, .string ⟨#[115, 119, 97, 112]⟩, .string ⟨#[105, 110, 106, 101, 99, 116]⟩, .string ⟨#[109, 111, 118, 101]⟩, .string ⟨#[99, 108, 111, 115, 101]⟩] 9)) ∧ Blk ((wr.alloc (.cells arr 24)).alloc (.cells #[.string ⟨#[115, 101, 110, 100]⟩, .string ⟨#[116, 105, 99, 107]⟩, .string ⟨#[100, 101, 108, 105, 118, 101, 114]⟩, .string ⟨#[100, 114, 111, 112]⟩, .string ⟨#[99, 111, 112, 121]⟩, .string ⟨#[115, 119, 97, 112]⟩, .string ⟨#[105, 110, 106, 101, 99, 116]⟩, .string ⟨#[109, 111, 118, 101]⟩, .string ⟨#[99, 108, 111, 115, 101]⟩] 9)) wr.heap.size 24 arr ∧ Blk ((wr.alloc (.cells arr 24)).alloc (.cells #[.string ⟨#[115, 101, 110, 100]⟩, .string ⟨#[116, 105, 99, 107]⟩, .string ⟨#[100, 101, 108, 105, 118, 101, 114]⟩, .string ⟨#[100, 114, 111, 112]⟩, .string ⟨#[99, 111, 112, 121]⟩, .string ⟨#[115, 119, 97, 112]⟩, .string ⟨#[105, 110, 106, 101, 99, 116]⟩, .string ⟨#[109, 111, 118, 101]⟩, .string ⟨#[99, 108, 111, 115, 101]⟩] 9)) (wr.heap.size + 1) 9 #[.string ⟨#[115, 101, 110, 100]⟩, .string ⟨#[116, 105, 99, 107]⟩, .string ⟨#[100, 101, 108, 105, 118, 101, 114]⟩, .string ⟨#[100, 114, 111, 112]⟩, .string ⟨#[99, 111, 112, 121]⟩, .string ⟨#[115, 119, 97, 112]⟩, .string ⟨#[105, 110, 106, 101, 99, 116]⟩, .string ⟨#[109, 111, 118, 101]⟩, .string ⟨#[99, 108, 111, 115, 101]⟩] from fun arr e => by
        have b : Below wr.heap.size wr ((wr.alloc (.cells arr 24)).alloc (.cells #[.string ⟨#[115, 101, 110, 100]⟩, .string ⟨#[116, 105, 99, 107]⟩, .string ⟨#[100, 101, 108, 105, 118, 101, 114]⟩, .string ⟨#[100, 114, 111, 112]⟩, .string ⟨#[99, 111, 112, 121]⟩, .string ⟨#[115, 119, 97, 112]⟩, .string ⟨#[105, 110, 106, 101, 99, 116]⟩, .string ⟨#[109, 111, 118, 101]⟩, .string ⟨#[99, 108, 111, 115, 101]⟩] 9)) := ((Below.refl _ wr).alloc (Nat.le_refl _) _).alloc (by simp) _
        refine ⟨⟨hbel.trans (b.mono hsz), hres.below b hres.lt, fun i hi => (b.cell (p := ⟨g1, i, none⟩) hgl).trans (hwd i hi), by omega, hgl, by simp; omega⟩, (Blk.new wr 24 arr).alloc _, ?_⟩
        have := Blk.new (wr.alloc (.cells arr 24)) 9 #[.string ⟨#[115, 101, 110, 100]⟩, .string ⟨#[116, 105, 99, 107]⟩, .string ⟨#[100, 101, 108, 105, 118, 101, 114]⟩, .string ⟨#[100, 114, 111, 112]⟩, .string ⟨#[99, 111, 112, 121]⟩, .string ⟨#[115, 119, 97, 112]⟩, .string ⟨#[105, 110, 106, 101, 99, 116]⟩, .string ⟨#[109, 111, 118, 101]⟩, .string ⟨#[99, 108, 111, 115, 101]⟩]
        rwa [World.size_alloc] at this)
      have hL4 : (4 : Int) ≤ (xs.length : Int) := by omega
      have hn4 : ¬ (xs.length : Int) < 4 := by omega
      have hl63 : (xs.length : Int) ≤ 9223372036854775807 := by omega
      obtain ⟨L, hL⟩ : ∃ l, xs.length = l := ⟨_, rfl⟩
      rw [hL] at hL4 hn4 hl63 ⊢
      obtain ⟨x0, hx0⟩ : ∃ x, gw ws 0 = x := ⟨_, rfl⟩
      have HX0 := Lib.hid hx0
      clear hpad hown hbel hres hwd hL hxl hxl2 h4 hx0
      go_wp2_with fail
      obtain ⟨B, hB⟩ : ∃ b, wr.heap.size = b := ⟨_, rfl⟩
      have HS0 := Lib.hid (HS.out _ (show #[.int .i64 0, .int .i64 0, .int .i64 0, .int .i64 0, .slice none 0 0, .string ⟨#[]⟩] = zO.arr from rfl))
      rw [hB] at HS0
      clear HS hgl hsz
      simp only [hB]
      go_loopw [7] (fun i wz => ∃ j : Nat, i = .int .i64 j ∧ j ≤ 9 ∧ RI w ws g1 B wz ∧ Blk wz B 24 (Op.arr ⟨(kdN x0 j : Nat), 0, 0, 0, none, 0, 0, [], em⟩) ∧ Blk wz (B + 1) 9 #[.string ⟨#[115, 101, 110, 100]⟩, .string ⟨#[116, 105, 99, 107]⟩, .string ⟨#[100, 101, 108, 105, 118, 101, 114]⟩, .string ⟨#[100, 114, 111, 112]⟩, .string ⟨#[99, 111, 112, 121]⟩, .string ⟨#[115, 119, 97, 112]⟩, .string ⟨#[105, 110, 106, 101, 99, 116]⟩, .string ⟨#[109, 111, 118, 101]⟩, .string ⟨#[99, 108, 111, 115, 101]⟩]) (fun i _ => 9 - (intOf i).toNat)
      case atStart => exact ⟨0, rfl, by omega, HS0.out.1, HS0.out.2.1, HS0.out.2.2⟩
      case round =>
        clear HS0
        obtain ⟨j, rfl, hj9, hri, hbk, hal⟩ := hrel
        by_cases hj : j < 9
        · have ca : wr.cell? ⟨B + 1, j, none⟩ = some (.string (ruleW (j + 1))) := (hal.cell j).trans (allW_cells j hj)
          have cw : wr.cell? ⟨g1, 0, none⟩ = some (.string x0) := by have := hri.wd 0 (by omega); rwa [HX0.out] at this
          have c0 : wr.cell? ⟨B, 0, none⟩ = some (.int .i64 (kdN x0 j : Nat)) := (hbk.cell 0).trans rfl
          have f0 := hbk.frozen 0
          have hbz := hri.bz
          have hji : (j : Int) < 9 := by omega
          have hjw : IntKind.i64.wrap ((j : Int) + 1) = (j : Int) + 1 := IntWalk.i64_in _ (by omega)
          have HI := Lib.hid (And.intro hri (And.intro hbk hal))
          obtain ⟨rw_, hrw⟩ : ∃ x, ruleW (j + 1) = x := ⟨_, rfl⟩
          rw [hrw] at ca
          have HRW := Lib.hid hrw
          clear hri hbk hal hrw
          by_cases he : rw_ = x0
          · have h1 : (rw_.toList == x0.toList) = true := by rw [he]; simp
            have HK := Lib.hid (show kdN x0 (j + 1) = j + 1 by unfold kdN; rw [if_pos (by rw [HRW.out, he])])
            clear he
            go_wp2_with fail
            go_quiet (fail)
            go_wp2_with fail
            go_roundw
            case rel =>
              have hd : Below wr.heap.size wr (wr.drewN nq) := below_drewN (Below.refl _ _) nq
              refine ⟨j + 1, by first | rfl | go_num, by omega, (HI.out.1.below hd).set 0 _, ?_, (HI.out.2.2.below hd HI.out.2.2.lt).far (by simp) _⟩
              rw [HK.out]
              exact (HI.out.2.1.below hd HI.out.2.1.lt).set_ 0 _
            case measure => simp [intOf]; omega
          · have h1 : (rw_.toList == x0.toList) = false := toList_ne he
            have HK := Lib.hid (show kdN x0 (j + 1) = kdN x0 j by rw [kdN, if_neg (by rw [HRW.out]; exact he)])
            clear he
            go_wp2_with fail
            go_quiet (fail)
            go_wp2_with fail
            go_roundw
            case rel =>
              have hd : Below wr.heap.size wr (wr.drewN nq) := below_drewN (Below.refl _ _) nq
              refine ⟨j + 1, by first | rfl | go_num, by omega, HI.out.1.below hd, ?_, HI.out.2.2.below hd HI.out.2.2.lt⟩
              rw [HK.out]
              exact HI.out.2.1.below hd HI.out.2.1.lt
            case measure => simp [intOf]; omega
        · obtain rfl : j = 9 := by omega
          have HKL := Lib.hid (And.intro (kdN_le x0 9) HX0.out)
          have HCD := Lib.hid (show ∀ p, RP p → lineP p = line → p = cand (kdN x0 9) ws from fun p h e => by have := HC.out p h e; rwa [HX0.out] at this)
          have HWS := Lib.hid (show ∀ i, (gw ws i).size ≤ 300000 from fun i => by
            unfold gw
            rw [List.getD_eq_getElem?_getD]
            cases he : ws[i]? with
            | none => show em.size ≤ _; decide
            | some x => exact Nat.le_trans (HZ.out.1 x (List.mem_of_getElem? he)) HZ.out.2.2)
          have HRI := Lib.hid hri
          have HBK := Lib.hid hbk
          obtain ⟨K, hK⟩ : ∃ k, kdN x0 9 = k := ⟨_, rfl⟩
          rw [hK] at HKL HCD HBK
          have hK9 : K ≤ 9 := HKL.out.1
          obtain ⟨w1, hw1⟩ : ∃ x, gw ws 1 = x := ⟨_, rfl⟩
          obtain ⟨w2', hw2⟩ : ∃ x, gw ws 2 = x := ⟨_, rfl⟩
          obtain ⟨w3', hw3⟩ : ∃ x, gw ws 3 = x := ⟨_, rfl⟩
          have HW := Lib.hid (And.intro hw1 (And.intro hw2 hw3))
          have e1 : wr.cell? ⟨g1, 1, none⟩ = some (.string w1) := by rw [← hw1]; exact hri.wd 1 (by omega)
          have e2 : wr.cell? ⟨g1, 2, none⟩ = some (.string w2') := by rw [← hw2]; exact hri.wd 2 (by omega)
          have e3 : wr.cell? ⟨g1, 3, none⟩ = some (.string w3') := by rw [← hw3]; exact hri.wd 3 (by omega)
          have z1 : w1.size ≤ 300000 := by rw [← hw1]; exact HWS.out 1
          have z2 : w2'.size ≤ 300000 := by rw [← hw2]; exact HWS.out 2
          have z3 : w3'.size ≤ 300000 := by rw [← hw3]; exact HWS.out 3
          have hbz := hri.bz
          have hL1 : (1 : Int) < (L : Int) := by omega
          have hL2 : (2 : Int) < (L : Int) := by omega
          have hL3 : (3 : Int) < (L : Int) := by omega
          have hL0 : (0 : Int) < (L : Int) := by omega
          clear hri hbk hal hK hw1 hw2 hw3 hj hj9
          rcases (show K = 0 ∨ K = 1 ∨ K = 2 ∨ K = 3 ∨ K = 4 ∨ K = 5 ∨ K = 6 ∨ K = 7 ∨ K = 8 ∨ K = 9 by omega) with rfl | rfl | rfl | rfl | rfl | rfl | rfl | rfl | rfl | rfl
          · have d0 : wr.cell? ⟨B, 0, none⟩ = some (.int .i64 0) := (HBK.out.cell 0).trans rfl
            have d1 : wr.cell? ⟨B, 1, none⟩ = some (.int .i64 0) := (HBK.out.cell 1).trans rfl
            have d2 : wr.cell? ⟨B, 2, none⟩ = some (.int .i64 0) := (HBK.out.cell 2).trans rfl
            have d3 : wr.cell? ⟨B, 3, none⟩ = some (.int .i64 0) := (HBK.out.cell 3).trans rfl
            have d4 : wr.cell? ⟨B, 4, none⟩ = some (.slice none 0 0) := (HBK.out.cell 4).trans rfl
            have d5 : wr.cell? ⟨B, 5, none⟩ = some (.string ⟨#[]⟩) := (HBK.out.cell 5).trans rfl
            have f1 := HBK.out.frozen 1
            have f2 := HBK.out.frozen 2
            have f3 := HBK.out.frozen 3
            have f4 := HBK.out.frozen 4
            have f5 := HBK.out.frozen 5
            have HT := Lib.hid (show RI w ws g1 B wr ∧ Blk wr B 24 (Op.arr ⟨0, 0, 0, 0, none, 0, 0, [], em⟩) ∧ OpOk wr ⟨0, 0, 0, 0, none, 0, 0, [], em⟩ from ⟨HRI.out, HBK.out, ⟨Bys.none_ _, Nat.le_refl _, by show 0 ≤ maxLen; decide, by simp only; omega, by simp only; omega, by simp only; omega, by simp only; omega, by simp only; omega, by simp only; omega, by simp only; omega, by simp only; omega, by show em.size ≤ maxLen; decide⟩⟩)
            have HP := Lib.hid (show ∀ p, RP p → lineP p = line → p = Op.p ⟨0, 0, 0, 0, none, 0, 0, [], em⟩ from fun p h e => (HCD.out p h e).trans (rfl))
            have hrr := refright_any ⟨0, 0, 0, 0, none, 0, 0, [], em⟩ _ HT.out.2.2
            unfold Op.v at hrr
            simp only at hrr
            go_wp2_with (first | (go_at_call 11; refine hrr.mono ?_; rintro _ w8 ⟨hri, hb⟩; refine Hid.out ?_))
            refine Lib.hid ?_
            have HU := Lib.hid (And.intro (HT.out.1.below hb) (And.intro (HT.out.2.1.below hb HT.out.2.1.lt) (HT.out.2.2.below hb)))
            clear hb hrr HT HBK HRI HW d0 d1 d2 d3 d4 d5 f1 f2 f3 f4 f5 e1 e2 e3
            cases hri with
            | no hno =>
              have HN := Lib.hid (show ∀ p, RP p → lineP p ≠ line from fun p h e => hno (by rw [← HP.out p h e]; exact h))
              clear hno HP
              go_wp2_with ((with_reducible (show wpList _ _ _ ({ dst := _, op := Op.store 24 _ _, type := _, pos := _, after := _, guard := _ } :: _) _ _)); refine wpList_store_mid rfl 24 (.tmp 2) (.tmp 116) rfl w.heap.size 0 zO.arr rfl rfl (Blk.there HU.out.1.res rfl) info24 (arr_oneO _) ?_; refine Hid.out ?_)
              refine Lib.hid ?_
              obtain ⟨wq, hwq⟩ : ∃ W, w8.setCells w.heap.size 0 (zO.arr).toList = W := ⟨_, rfl⟩
              have HQ := Lib.hid (And.intro (Blk.setAll HU.out.1.res (cs' := zO.arr) (by rfl)) (below_setCells (zO.arr).toList 0 w8 HU.out.1.bel (Nat.le_refl _)))
              rw [hwq] at HQ ⊢
              clear hwq
              repeat go_step
              (try simp only [Exit.then])
              refine ret_ct (by rfl) (by rfl) (by rfl) (Blk.rangeAt HQ.out.1) Tryd.underlying24 (by rfl) (by kernel_rfl) ?_
              exact ⟨PaR.no HN.out, HQ.out.2⟩
            | yes hyes =>
              have hrt := rtext_any ⟨0, 0, 0, 0, none, 0, 0, [], em⟩ w8 HU.out.2.2 hyes
              unfold Op.v at hrt
              simp only at hrt
              obtain ⟨T, hT⟩ : ∃ t, lineP (Op.p ⟨0, 0, 0, 0, none, 0, 0, [], em⟩) = t := ⟨_, rfl⟩
              rw [hT] at hrt
              have HY := Lib.hid (And.intro hyes hT)
              have d0 : w8.cell? ⟨B, 0, none⟩ = some (.int .i64 0) := (HU.out.2.1.cell 0).trans rfl
              have d1 : w8.cell? ⟨B, 1, none⟩ = some (.int .i64 0) := (HU.out.2.1.cell 1).trans rfl
              have d2 : w8.cell? ⟨B, 2, none⟩ = some (.int .i64 0) := (HU.out.2.1.cell 2).trans rfl
              have d3 : w8.cell? ⟨B, 3, none⟩ = some (.int .i64 0) := (HU.out.2.1.cell 3).trans rfl
              have d4 : w8.cell? ⟨B, 4, none⟩ = some (.slice none 0 0) := (HU.out.2.1.cell 4).trans rfl
              have d5 : w8.cell? ⟨B, 5, none⟩ = some (.string ⟨#[]⟩) := (HU.out.2.1.cell 5).trans rfl
              have hbz8 := HU.out.1.bz
              clear hyes hT
              go_wp2_with (go_at_call 17; refine hrt.mono ?_; rintro _ w9 ⟨rfl, hb⟩; refine Hid.out ?_)
              refine Lib.hid ?_
              have HV := Lib.hid (And.intro (HU.out.1.below hb) (And.intro (HU.out.2.1.below hb HU.out.2.1.lt) (HU.out.2.2.below hb)))
              clear hb hrt HU d0 d1 d2 d3 d4 d5
              by_cases hte : T = line
              · have h1 : (T.toList == line.toList) = true := by rw [hte]; simp
                have HTE := Lib.hid hte
                clear hte
                go_wp2_with (first
                  | ((with_reducible (show wpList _ _ _ ({ dst := _, op := Op.load 24 _, type := _, pos := _, after := _, guard := _ } :: _) _ _)); refine wpList_load_mid rfl 24 (.tmp 5) rfl B 0 rfl _ _ (Blk.rangeAt HV.out.2.1) Tryd.underlying24 rfl (by kernel_rfl) ?_)
                  | ((with_reducible (show wpList _ _ _ ({ dst := _, op := Op.store 24 _ _, type := _, pos := _, after := _, guard := _ } :: _) _ _)); refine wpList_store_mid rfl 24 (.tmp 2) (.tmp 117) rfl w.heap.size 0 (Op.arr ⟨0, 0, 0, 0, none, 0, 0, [], em⟩) rfl rfl (Blk.there HV.out.1.res rfl) info24 (arr_oneO _) ?_; refine Hid.out ?_))
                refine Lib.hid ?_
                have HOK := Lib.hid (setRes24 HV.out.2.2 HV.out.1.res ((Op.arr ⟨0, 0, 0, 0, none, 0, 0, [], em⟩)).toList)
                obtain ⟨wq, hwq⟩ : ∃ W, w9.setCells w.heap.size 0 ((Op.arr ⟨0, 0, 0, 0, none, 0, 0, [], em⟩)).toList = W := ⟨_, rfl⟩
                have HQ := Lib.hid (And.intro (Blk.setAll HV.out.1.res (cs' := (Op.arr ⟨0, 0, 0, 0, none, 0, 0, [], em⟩)) (by rfl)) (below_setCells ((Op.arr ⟨0, 0, 0, 0, none, 0, 0, [], em⟩)).toList 0 w9 HV.out.1.bel (Nat.le_refl _)))
                rw [hwq] at HQ HOK ⊢
                clear hwq
                repeat go_step
                (try simp only [Exit.then])
                refine ret_ct (by rfl) (by rfl) (by rfl) (Blk.rangeAt HQ.out.1) Tryd.underlying24 (by rfl) (by kernel_rfl) ?_
                exact ⟨PaR.yes ⟨0, 0, 0, 0, none, 0, 0, [], em⟩ HY.out.1 (HY.out.2.trans HTE.out) HOK.out, HQ.out.2⟩
              · have h1 : (T.toList == line.toList) = false := toList_ne hte
                have HN := Lib.hid (show ∀ p, RP p → lineP p ≠ line from fun p h e => hte (by rw [← HY.out.2, ← HP.out p h e]; exact e))
                clear hte
                go_wp2_with ((with_reducible (show wpList _ _ _ ({ dst := _, op := Op.store 24 _ _, type := _, pos := _, after := _, guard := _ } :: _) _ _)); refine wpList_store_mid rfl 24 (.tmp 2) (.tmp 116) rfl w.heap.size 0 zO.arr rfl rfl (Blk.there HV.out.1.res rfl) info24 (arr_oneO _) ?_; refine Hid.out ?_)
                refine Lib.hid ?_
                obtain ⟨wq, hwq⟩ : ∃ W, w9.setCells w.heap.size 0 (zO.arr).toList = W := ⟨_, rfl⟩
                have HQ := Lib.hid (And.intro (Blk.setAll HV.out.1.res (cs' := zO.arr) (by rfl)) (below_setCells (zO.arr).toList 0 w9 HV.out.1.bel (Nat.le_refl _)))
                rw [hwq] at HQ ⊢
                clear hwq
                repeat go_step
                (try simp only [Exit.then])
                refine ret_ct (by rfl) (by rfl) (by rfl) (Blk.rangeAt HQ.out.1) Tryd.underlying24 (by rfl) (by kernel_rfl) ?_
                exact ⟨PaR.no HN.out, HQ.out.2⟩
          · by_cases hsv : w1 = svS
            · have hq : (w1.toList == [115, 101, 114, 118, 101, 114]) = true := by
                rw [hsv]; first | rfl | decide | simp [svS]
              have HWC := Lib.hid (show whc (gw ws 1) = 1 by rw [HW.out.1]; unfold whc; rw [if_pos hsv])
              clear hsv
              have d0 : wr.cell? ⟨B, 0, none⟩ = some (.int .i64 1) := (HBK.out.cell 0).trans rfl
              have d1 : wr.cell? ⟨B, 1, none⟩ = some (.int .i64 0) := (HBK.out.cell 1).trans rfl
              have d2 : wr.cell? ⟨B, 2, none⟩ = some (.int .i64 0) := (HBK.out.cell 2).trans rfl
              have d3 : wr.cell? ⟨B, 3, none⟩ = some (.int .i64 0) := (HBK.out.cell 3).trans rfl
              have d4 : wr.cell? ⟨B, 4, none⟩ = some (.slice none 0 0) := (HBK.out.cell 4).trans rfl
              have d5 : wr.cell? ⟨B, 5, none⟩ = some (.string ⟨#[]⟩) := (HBK.out.cell 5).trans rfl
              have f1 := HBK.out.frozen 1
              have f2 := HBK.out.frozen 2
              have f3 := HBK.out.frozen 3
              have f4 := HBK.out.frozen 4
              have f5 := HBK.out.frozen 5
              have hux := runhex_any w2' (wr.setCell ⟨B, 1, none⟩ (.int .i64 1)) (by omega)
              have HS1 := Lib.hid (show RI w ws g1 B (wr.setCell ⟨B, 1, none⟩ (.int .i64 1)) ∧ Blk (wr.setCell ⟨B, 1, none⟩ (.int .i64 1)) B 24 #[.int .i64 1, .int .i64 1, .int .i64 0, .int .i64 0, .slice none 0 0, .string ⟨#[]⟩] from ⟨(HRI.out.set 1 _), (HBK.out.set_ 1 _)⟩)
              go_wp2_with (go_at_call 23; refine hux.mono ?_; rintro _ w5 ⟨hun, hb⟩; obtain ⟨A5, n5, c5, r5, rfl, hy5, hn5, hc5⟩ := ub_unhex hun; refine Hid.out ?_)
              refine Lib.hid ?_
              have HS5 := Lib.hid (And.intro (HS1.out.1.below hb) (And.intro (HS1.out.2.below hb HS1.out.2.lt) hy5))
              have HN5 := Lib.hid (And.intro hn5 hc5)
              have HW' := Lib.hid HW.out.2
              clear hun hb hux hy5 hn5 hc5 HS1 d0 d1 d2 d3 d4 d5 f1 f2 f3 f4 f5 e1 e2 e3
              have d0 : w5.cell? ⟨B, 0, none⟩ = some (.int .i64 1) := (HS5.out.2.1.cell 0).trans rfl
              have d1 : w5.cell? ⟨B, 1, none⟩ = some (.int .i64 1) := (HS5.out.2.1.cell 1).trans rfl
              have d2 : w5.cell? ⟨B, 2, none⟩ = some (.int .i64 0) := (HS5.out.2.1.cell 2).trans rfl
              have d3 : w5.cell? ⟨B, 3, none⟩ = some (.int .i64 0) := (HS5.out.2.1.cell 3).trans rfl
              have d4 : w5.cell? ⟨B, 4, none⟩ = some (.slice none 0 0) := (HS5.out.2.1.cell 4).trans rfl
              have d5 : w5.cell? ⟨B, 5, none⟩ = some (.string ⟨#[]⟩) := (HS5.out.2.1.cell 5).trans rfl
              have f1 := HS5.out.2.1.frozen 1
              have f2 := HS5.out.2.1.frozen 2
              have f3 := HS5.out.2.1.frozen 3
              have f4 := HS5.out.2.1.frozen 4
              have f5 := HS5.out.2.1.frozen 5
              have hbz5 := HS5.out.1.bz
              have e1 : wr.heap.size = wr.heap.size := rfl
              have e2 : wr.heap.size = wr.heap.size := rfl
              have e3 : wr.heap.size = wr.heap.size := rfl
              have HT := Lib.hid (show RI w ws g1 B (w5.setCell ⟨B, 4, none⟩ (.slice A5 n5 c5)) ∧ Blk (w5.setCell ⟨B, 4, none⟩ (.slice A5 n5 c5)) B 24 (Op.arr ⟨1, 1, 0, 0, A5, n5, c5, ubS w2', em⟩) ∧ OpOk (w5.setCell ⟨B, 4, none⟩ (.slice A5 n5 c5)) ⟨1, 1, 0, 0, A5, n5, c5, ubS w2', em⟩ from ⟨HS5.out.1.set 4 _, HS5.out.2.1.set_ 4 _, ⟨Bys.apart HS5.out.2.2 HS5.out.2.1 (arr_no8 ⟨1, 1, 0, 0, none, 0, 0, [], em⟩) _, HN5.out.1, HN5.out.2, by simp only; omega, by simp only; omega, by simp only; omega, by simp only; omega, by simp only; omega, by simp only; omega, by simp only; omega, by simp only; omega, by show em.size ≤ maxLen; decide⟩⟩)
              have HP := Lib.hid (show ∀ p, RP p → lineP p = line → p = Op.p ⟨1, 1, 0, 0, A5, n5, c5, ubS w2', em⟩ from fun p h e => (HCD.out p h e).trans (by show (⟨1, whc (gw ws 1), 0, 0, ubS (gw ws 2), em⟩ : PO) = _; rw [HWC.out, HW'.out.1]; rfl))
              have hrr := refright_any ⟨1, 1, 0, 0, A5, n5, c5, ubS w2', em⟩ _ HT.out.2.2
              unfold Op.v at hrr
              simp only at hrr
              go_wp2_with (first | (go_at_call 11; refine hrr.mono ?_; rintro _ w8 ⟨hri, hb⟩; refine Hid.out ?_))
              refine Lib.hid ?_
              have HU := Lib.hid (And.intro (HT.out.1.below hb) (And.intro (HT.out.2.1.below hb HT.out.2.1.lt) (HT.out.2.2.below hb)))
              clear hb hrr HT HBK HRI HW d0 d1 d2 d3 d4 d5 f1 f2 f3 f4 f5 e1 e2 e3
              cases hri with
              | no hno =>
                have HN := Lib.hid (show ∀ p, RP p → lineP p ≠ line from fun p h e => hno (by rw [← HP.out p h e]; exact h))
                clear hno HP
                go_wp2_with ((with_reducible (show wpList _ _ _ ({ dst := _, op := Op.store 24 _ _, type := _, pos := _, after := _, guard := _ } :: _) _ _)); refine wpList_store_mid rfl 24 (.tmp 2) (.tmp 116) rfl w.heap.size 0 zO.arr rfl rfl (Blk.there HU.out.1.res rfl) info24 (arr_oneO _) ?_; refine Hid.out ?_)
                refine Lib.hid ?_
                obtain ⟨wq, hwq⟩ : ∃ W, w8.setCells w.heap.size 0 (zO.arr).toList = W := ⟨_, rfl⟩
                have HQ := Lib.hid (And.intro (Blk.setAll HU.out.1.res (cs' := zO.arr) (by rfl)) (below_setCells (zO.arr).toList 0 w8 HU.out.1.bel (Nat.le_refl _)))
                rw [hwq] at HQ ⊢
                clear hwq
                repeat go_step
                (try simp only [Exit.then])
                refine ret_ct (by rfl) (by rfl) (by rfl) (Blk.rangeAt HQ.out.1) Tryd.underlying24 (by rfl) (by kernel_rfl) ?_
                exact ⟨PaR.no HN.out, HQ.out.2⟩
              | yes hyes =>
                have hrt := rtext_any ⟨1, 1, 0, 0, A5, n5, c5, ubS w2', em⟩ w8 HU.out.2.2 hyes
                unfold Op.v at hrt
                simp only at hrt
                obtain ⟨T, hT⟩ : ∃ t, lineP (Op.p ⟨1, 1, 0, 0, A5, n5, c5, ubS w2', em⟩) = t := ⟨_, rfl⟩
                rw [hT] at hrt
                have HY := Lib.hid (And.intro hyes hT)
                have d0 : w8.cell? ⟨B, 0, none⟩ = some (.int .i64 1) := (HU.out.2.1.cell 0).trans rfl
                have d1 : w8.cell? ⟨B, 1, none⟩ = some (.int .i64 1) := (HU.out.2.1.cell 1).trans rfl
                have d2 : w8.cell? ⟨B, 2, none⟩ = some (.int .i64 0) := (HU.out.2.1.cell 2).trans rfl
                have d3 : w8.cell? ⟨B, 3, none⟩ = some (.int .i64 0) := (HU.out.2.1.cell 3).trans rfl
                have d4 : w8.cell? ⟨B, 4, none⟩ = some (.slice A5 n5 c5) := (HU.out.2.1.cell 4).trans rfl
                have d5 : w8.cell? ⟨B, 5, none⟩ = some (.string ⟨#[]⟩) := (HU.out.2.1.cell 5).trans rfl
                have hbz8 := HU.out.1.bz
                clear hyes hT
                go_wp2_with (go_at_call 17; refine hrt.mono ?_; rintro _ w9 ⟨rfl, hb⟩; refine Hid.out ?_)
                refine Lib.hid ?_
                have HV := Lib.hid (And.intro (HU.out.1.below hb) (And.intro (HU.out.2.1.below hb HU.out.2.1.lt) (HU.out.2.2.below hb)))
                clear hb hrt HU d0 d1 d2 d3 d4 d5
                by_cases hte : T = line
                · have h1 : (T.toList == line.toList) = true := by rw [hte]; simp
                  have HTE := Lib.hid hte
                  clear hte
                  go_wp2_with (first
                    | ((with_reducible (show wpList _ _ _ ({ dst := _, op := Op.load 24 _, type := _, pos := _, after := _, guard := _ } :: _) _ _)); refine wpList_load_mid rfl 24 (.tmp 5) rfl B 0 rfl _ _ (Blk.rangeAt HV.out.2.1) Tryd.underlying24 rfl (by kernel_rfl) ?_)
                    | ((with_reducible (show wpList _ _ _ ({ dst := _, op := Op.store 24 _ _, type := _, pos := _, after := _, guard := _ } :: _) _ _)); refine wpList_store_mid rfl 24 (.tmp 2) (.tmp 117) rfl w.heap.size 0 (Op.arr ⟨1, 1, 0, 0, A5, n5, c5, ubS w2', em⟩) rfl rfl (Blk.there HV.out.1.res rfl) info24 (arr_oneO _) ?_; refine Hid.out ?_))
                  refine Lib.hid ?_
                  have HOK := Lib.hid (setRes24 HV.out.2.2 HV.out.1.res ((Op.arr ⟨1, 1, 0, 0, A5, n5, c5, ubS w2', em⟩)).toList)
                  obtain ⟨wq, hwq⟩ : ∃ W, w9.setCells w.heap.size 0 ((Op.arr ⟨1, 1, 0, 0, A5, n5, c5, ubS w2', em⟩)).toList = W := ⟨_, rfl⟩
                  have HQ := Lib.hid (And.intro (Blk.setAll HV.out.1.res (cs' := (Op.arr ⟨1, 1, 0, 0, A5, n5, c5, ubS w2', em⟩)) (by rfl)) (below_setCells ((Op.arr ⟨1, 1, 0, 0, A5, n5, c5, ubS w2', em⟩)).toList 0 w9 HV.out.1.bel (Nat.le_refl _)))
                  rw [hwq] at HQ HOK ⊢
                  clear hwq
                  repeat go_step
                  (try simp only [Exit.then])
                  refine ret_ct (by rfl) (by rfl) (by rfl) (Blk.rangeAt HQ.out.1) Tryd.underlying24 (by rfl) (by kernel_rfl) ?_
                  exact ⟨PaR.yes ⟨1, 1, 0, 0, A5, n5, c5, ubS w2', em⟩ HY.out.1 (HY.out.2.trans HTE.out) HOK.out, HQ.out.2⟩
                · have h1 : (T.toList == line.toList) = false := toList_ne hte
                  have HN := Lib.hid (show ∀ p, RP p → lineP p ≠ line from fun p h e => hte (by rw [← HY.out.2, ← HP.out p h e]; exact e))
                  clear hte
                  go_wp2_with ((with_reducible (show wpList _ _ _ ({ dst := _, op := Op.store 24 _ _, type := _, pos := _, after := _, guard := _ } :: _) _ _)); refine wpList_store_mid rfl 24 (.tmp 2) (.tmp 116) rfl w.heap.size 0 zO.arr rfl rfl (Blk.there HV.out.1.res rfl) info24 (arr_oneO _) ?_; refine Hid.out ?_)
                  refine Lib.hid ?_
                  obtain ⟨wq, hwq⟩ : ∃ W, w9.setCells w.heap.size 0 (zO.arr).toList = W := ⟨_, rfl⟩
                  have HQ := Lib.hid (And.intro (Blk.setAll HV.out.1.res (cs' := zO.arr) (by rfl)) (below_setCells (zO.arr).toList 0 w9 HV.out.1.bel (Nat.le_refl _)))
                  rw [hwq] at HQ ⊢
                  clear hwq
                  repeat go_step
                  (try simp only [Exit.then])
                  refine ret_ct (by rfl) (by rfl) (by rfl) (Blk.rangeAt HQ.out.1) Tryd.underlying24 (by rfl) (by kernel_rfl) ?_
                  exact ⟨PaR.no HN.out, HQ.out.2⟩
            have hq : (w1.toList == [115, 101, 114, 118, 101, 114]) = false := by
              have := toList_ne hsv; rwa [show svS.toList = [115, 101, 114, 118, 101, 114] by first | rfl | decide | simp [svS]] at this
            have HWC := Lib.hid (show whc (gw ws 1) = 0 by rw [HW.out.1]; unfold whc; rw [if_neg hsv])
            clear hsv
            have d0 : wr.cell? ⟨B, 0, none⟩ = some (.int .i64 1) := (HBK.out.cell 0).trans rfl
            have d1 : wr.cell? ⟨B, 1, none⟩ = some (.int .i64 0) := (HBK.out.cell 1).trans rfl
            have d2 : wr.cell? ⟨B, 2, none⟩ = some (.int .i64 0) := (HBK.out.cell 2).trans rfl
            have d3 : wr.cell? ⟨B, 3, none⟩ = some (.int .i64 0) := (HBK.out.cell 3).trans rfl
            have d4 : wr.cell? ⟨B, 4, none⟩ = some (.slice none 0 0) := (HBK.out.cell 4).trans rfl
            have d5 : wr.cell? ⟨B, 5, none⟩ = some (.string ⟨#[]⟩) := (HBK.out.cell 5).trans rfl
            have f1 := HBK.out.frozen 1
            have f2 := HBK.out.frozen 2
            have f3 := HBK.out.frozen 3
            have f4 := HBK.out.frozen 4
            have f5 := HBK.out.frozen 5
            have hux := runhex_any w2' wr (by omega)
            have HS1 := Lib.hid (show RI w ws g1 B wr ∧ Blk wr B 24 #[.int .i64 1, .int .i64 0, .int .i64 0, .int .i64 0, .slice none 0 0, .string ⟨#[]⟩] from ⟨HRI.out, HBK.out⟩)
            go_wp2_with (go_at_call 23; refine hux.mono ?_; rintro _ w5 ⟨hun, hb⟩; obtain ⟨A5, n5, c5, r5, rfl, hy5, hn5, hc5⟩ := ub_unhex hun; refine Hid.out ?_)
            refine Lib.hid ?_
            have HS5 := Lib.hid (And.intro (HS1.out.1.below hb) (And.intro (HS1.out.2.below hb HS1.out.2.lt) hy5))
            have HN5 := Lib.hid (And.intro hn5 hc5)
            have HW' := Lib.hid HW.out.2
            clear hun hb hux hy5 hn5 hc5 HS1 d0 d1 d2 d3 d4 d5 f1 f2 f3 f4 f5 e1 e2 e3
            have d0 : w5.cell? ⟨B, 0, none⟩ = some (.int .i64 1) := (HS5.out.2.1.cell 0).trans rfl
            have d1 : w5.cell? ⟨B, 1, none⟩ = some (.int .i64 0) := (HS5.out.2.1.cell 1).trans rfl
            have d2 : w5.cell? ⟨B, 2, none⟩ = some (.int .i64 0) := (HS5.out.2.1.cell 2).trans rfl
            have d3 : w5.cell? ⟨B, 3, none⟩ = some (.int .i64 0) := (HS5.out.2.1.cell 3).trans rfl
            have d4 : w5.cell? ⟨B, 4, none⟩ = some (.slice none 0 0) := (HS5.out.2.1.cell 4).trans rfl
            have d5 : w5.cell? ⟨B, 5, none⟩ = some (.string ⟨#[]⟩) := (HS5.out.2.1.cell 5).trans rfl
            have f1 := HS5.out.2.1.frozen 1
            have f2 := HS5.out.2.1.frozen 2
            have f3 := HS5.out.2.1.frozen 3
            have f4 := HS5.out.2.1.frozen 4
            have f5 := HS5.out.2.1.frozen 5
            have hbz5 := HS5.out.1.bz
            have e1 : wr.heap.size = wr.heap.size := rfl
            have e2 : wr.heap.size = wr.heap.size := rfl
            have e3 : wr.heap.size = wr.heap.size := rfl
            have HT := Lib.hid (show RI w ws g1 B (w5.setCell ⟨B, 4, none⟩ (.slice A5 n5 c5)) ∧ Blk (w5.setCell ⟨B, 4, none⟩ (.slice A5 n5 c5)) B 24 (Op.arr ⟨1, 0, 0, 0, A5, n5, c5, ubS w2', em⟩) ∧ OpOk (w5.setCell ⟨B, 4, none⟩ (.slice A5 n5 c5)) ⟨1, 0, 0, 0, A5, n5, c5, ubS w2', em⟩ from ⟨HS5.out.1.set 4 _, HS5.out.2.1.set_ 4 _, ⟨Bys.apart HS5.out.2.2 HS5.out.2.1 (arr_no8 ⟨1, 0, 0, 0, none, 0, 0, [], em⟩) _, HN5.out.1, HN5.out.2, by simp only; omega, by simp only; omega, by simp only; omega, by simp only; omega, by simp only; omega, by simp only; omega, by simp only; omega, by simp only; omega, by show em.size ≤ maxLen; decide⟩⟩)
            have HP := Lib.hid (show ∀ p, RP p → lineP p = line → p = Op.p ⟨1, 0, 0, 0, A5, n5, c5, ubS w2', em⟩ from fun p h e => (HCD.out p h e).trans (by show (⟨1, whc (gw ws 1), 0, 0, ubS (gw ws 2), em⟩ : PO) = _; rw [HWC.out, HW'.out.1]; rfl))
            have hrr := refright_any ⟨1, 0, 0, 0, A5, n5, c5, ubS w2', em⟩ _ HT.out.2.2
            unfold Op.v at hrr
            simp only at hrr
            go_wp2_with (first | (go_at_call 11; refine hrr.mono ?_; rintro _ w8 ⟨hri, hb⟩; refine Hid.out ?_))
            refine Lib.hid ?_
            have HU := Lib.hid (And.intro (HT.out.1.below hb) (And.intro (HT.out.2.1.below hb HT.out.2.1.lt) (HT.out.2.2.below hb)))
            clear hb hrr HT HBK HRI HW d0 d1 d2 d3 d4 d5 f1 f2 f3 f4 f5 e1 e2 e3
            cases hri with
            | no hno =>
              have HN := Lib.hid (show ∀ p, RP p → lineP p ≠ line from fun p h e => hno (by rw [← HP.out p h e]; exact h))
              clear hno HP
              go_wp2_with ((with_reducible (show wpList _ _ _ ({ dst := _, op := Op.store 24 _ _, type := _, pos := _, after := _, guard := _ } :: _) _ _)); refine wpList_store_mid rfl 24 (.tmp 2) (.tmp 116) rfl w.heap.size 0 zO.arr rfl rfl (Blk.there HU.out.1.res rfl) info24 (arr_oneO _) ?_; refine Hid.out ?_)
              refine Lib.hid ?_
              obtain ⟨wq, hwq⟩ : ∃ W, w8.setCells w.heap.size 0 (zO.arr).toList = W := ⟨_, rfl⟩
              have HQ := Lib.hid (And.intro (Blk.setAll HU.out.1.res (cs' := zO.arr) (by rfl)) (below_setCells (zO.arr).toList 0 w8 HU.out.1.bel (Nat.le_refl _)))
              rw [hwq] at HQ ⊢
              clear hwq
              repeat go_step
              (try simp only [Exit.then])
              refine ret_ct (by rfl) (by rfl) (by rfl) (Blk.rangeAt HQ.out.1) Tryd.underlying24 (by rfl) (by kernel_rfl) ?_
              exact ⟨PaR.no HN.out, HQ.out.2⟩
            | yes hyes =>
              have hrt := rtext_any ⟨1, 0, 0, 0, A5, n5, c5, ubS w2', em⟩ w8 HU.out.2.2 hyes
              unfold Op.v at hrt
              simp only at hrt
              obtain ⟨T, hT⟩ : ∃ t, lineP (Op.p ⟨1, 0, 0, 0, A5, n5, c5, ubS w2', em⟩) = t := ⟨_, rfl⟩
              rw [hT] at hrt
              have HY := Lib.hid (And.intro hyes hT)
              have d0 : w8.cell? ⟨B, 0, none⟩ = some (.int .i64 1) := (HU.out.2.1.cell 0).trans rfl
              have d1 : w8.cell? ⟨B, 1, none⟩ = some (.int .i64 0) := (HU.out.2.1.cell 1).trans rfl
              have d2 : w8.cell? ⟨B, 2, none⟩ = some (.int .i64 0) := (HU.out.2.1.cell 2).trans rfl
              have d3 : w8.cell? ⟨B, 3, none⟩ = some (.int .i64 0) := (HU.out.2.1.cell 3).trans rfl
              have d4 : w8.cell? ⟨B, 4, none⟩ = some (.slice A5 n5 c5) := (HU.out.2.1.cell 4).trans rfl
              have d5 : w8.cell? ⟨B, 5, none⟩ = some (.string ⟨#[]⟩) := (HU.out.2.1.cell 5).trans rfl
              have hbz8 := HU.out.1.bz
              clear hyes hT
              go_wp2_with (go_at_call 17; refine hrt.mono ?_; rintro _ w9 ⟨rfl, hb⟩; refine Hid.out ?_)
              refine Lib.hid ?_
              have HV := Lib.hid (And.intro (HU.out.1.below hb) (And.intro (HU.out.2.1.below hb HU.out.2.1.lt) (HU.out.2.2.below hb)))
              clear hb hrt HU d0 d1 d2 d3 d4 d5
              by_cases hte : T = line
              · have h1 : (T.toList == line.toList) = true := by rw [hte]; simp
                have HTE := Lib.hid hte
                clear hte
                go_wp2_with (first
                  | ((with_reducible (show wpList _ _ _ ({ dst := _, op := Op.load 24 _, type := _, pos := _, after := _, guard := _ } :: _) _ _)); refine wpList_load_mid rfl 24 (.tmp 5) rfl B 0 rfl _ _ (Blk.rangeAt HV.out.2.1) Tryd.underlying24 rfl (by kernel_rfl) ?_)
                  | ((with_reducible (show wpList _ _ _ ({ dst := _, op := Op.store 24 _ _, type := _, pos := _, after := _, guard := _ } :: _) _ _)); refine wpList_store_mid rfl 24 (.tmp 2) (.tmp 117) rfl w.heap.size 0 (Op.arr ⟨1, 0, 0, 0, A5, n5, c5, ubS w2', em⟩) rfl rfl (Blk.there HV.out.1.res rfl) info24 (arr_oneO _) ?_; refine Hid.out ?_))
                refine Lib.hid ?_
                have HOK := Lib.hid (setRes24 HV.out.2.2 HV.out.1.res ((Op.arr ⟨1, 0, 0, 0, A5, n5, c5, ubS w2', em⟩)).toList)
                obtain ⟨wq, hwq⟩ : ∃ W, w9.setCells w.heap.size 0 ((Op.arr ⟨1, 0, 0, 0, A5, n5, c5, ubS w2', em⟩)).toList = W := ⟨_, rfl⟩
                have HQ := Lib.hid (And.intro (Blk.setAll HV.out.1.res (cs' := (Op.arr ⟨1, 0, 0, 0, A5, n5, c5, ubS w2', em⟩)) (by rfl)) (below_setCells ((Op.arr ⟨1, 0, 0, 0, A5, n5, c5, ubS w2', em⟩)).toList 0 w9 HV.out.1.bel (Nat.le_refl _)))
                rw [hwq] at HQ HOK ⊢
                clear hwq
                repeat go_step
                (try simp only [Exit.then])
                refine ret_ct (by rfl) (by rfl) (by rfl) (Blk.rangeAt HQ.out.1) Tryd.underlying24 (by rfl) (by kernel_rfl) ?_
                exact ⟨PaR.yes ⟨1, 0, 0, 0, A5, n5, c5, ubS w2', em⟩ HY.out.1 (HY.out.2.trans HTE.out) HOK.out, HQ.out.2⟩
              · have h1 : (T.toList == line.toList) = false := toList_ne hte
                have HN := Lib.hid (show ∀ p, RP p → lineP p ≠ line from fun p h e => hte (by rw [← HY.out.2, ← HP.out p h e]; exact e))
                clear hte
                go_wp2_with ((with_reducible (show wpList _ _ _ ({ dst := _, op := Op.store 24 _ _, type := _, pos := _, after := _, guard := _ } :: _) _ _)); refine wpList_store_mid rfl 24 (.tmp 2) (.tmp 116) rfl w.heap.size 0 zO.arr rfl rfl (Blk.there HV.out.1.res rfl) info24 (arr_oneO _) ?_; refine Hid.out ?_)
                refine Lib.hid ?_
                obtain ⟨wq, hwq⟩ : ∃ W, w9.setCells w.heap.size 0 (zO.arr).toList = W := ⟨_, rfl⟩
                have HQ := Lib.hid (And.intro (Blk.setAll HV.out.1.res (cs' := zO.arr) (by rfl)) (below_setCells (zO.arr).toList 0 w9 HV.out.1.bel (Nat.le_refl _)))
                rw [hwq] at HQ ⊢
                clear hwq
                repeat go_step
                (try simp only [Exit.then])
                refine ret_ct (by rfl) (by rfl) (by rfl) (Blk.rangeAt HQ.out.1) Tryd.underlying24 (by rfl) (by kernel_rfl) ?_
                exact ⟨PaR.no HN.out, HQ.out.2⟩
          · have d0 : wr.cell? ⟨B, 0, none⟩ = some (.int .i64 2) := (HBK.out.cell 0).trans rfl
            have d1 : wr.cell? ⟨B, 1, none⟩ = some (.int .i64 0) := (HBK.out.cell 1).trans rfl
            have d2 : wr.cell? ⟨B, 2, none⟩ = some (.int .i64 0) := (HBK.out.cell 2).trans rfl
            have d3 : wr.cell? ⟨B, 3, none⟩ = some (.int .i64 0) := (HBK.out.cell 3).trans rfl
            have d4 : wr.cell? ⟨B, 4, none⟩ = some (.slice none 0 0) := (HBK.out.cell 4).trans rfl
            have d5 : wr.cell? ⟨B, 5, none⟩ = some (.string ⟨#[]⟩) := (HBK.out.cell 5).trans rfl
            have f1 := HBK.out.frozen 1
            have f2 := HBK.out.frozen 2
            have f3 := HBK.out.frozen 3
            have f4 := HBK.out.frozen 4
            have f5 := HBK.out.frozen 5
            have hnm := fun W => rnumber_any w1 W (by omega)
            obtain ⟨N1, hN1⟩ : ∃ x, numR w1 = x := ⟨_, rfl⟩
            have hnb := numR_in w1
            rw [hN1] at hnm hnb
            have HT := Lib.hid (show RI w ws g1 B (wr.setCell ⟨B, 2, none⟩ (.int .i64 N1)) ∧ Blk (wr.setCell ⟨B, 2, none⟩ (.int .i64 N1)) B 24 (Op.arr ⟨2, 0, N1, 0, none, 0, 0, [], em⟩) ∧ OpOk (wr.setCell ⟨B, 2, none⟩ (.int .i64 N1)) ⟨2, 0, N1, 0, none, 0, 0, [], em⟩ from ⟨HRI.out.set 2 _, HBK.out.set_ 2 _, ⟨Bys.none_ _, Nat.le_refl _, by show 0 ≤ maxLen; decide, by simp only; omega, by simp only; omega, by simp only; omega, by simp only; omega, by simp only; omega, by simp only; omega, by simp only; omega, by simp only; omega, by show em.size ≤ maxLen; decide⟩⟩)
            have HW' := Lib.hid HW.out.1
            have HN12 := Lib.hid hN1
            clear hN1
            have HP := Lib.hid (show ∀ p, RP p → lineP p = line → p = Op.p ⟨2, 0, N1, 0, none, 0, 0, [], em⟩ from fun p h e => (HCD.out p h e).trans (by show (⟨_, 0, numR (gw ws 1), 0, [], em⟩ : PO) = _; rw [HW'.out, HN12.out]; rfl))
            have hrr := refright_any ⟨2, 0, N1, 0, none, 0, 0, [], em⟩ _ HT.out.2.2
            unfold Op.v at hrr
            simp only at hrr
            go_wp2_with (first | (go_at_call 33; refine (hnm _).mono ?_; rintro _ _ ⟨rfl, rfl⟩) | (go_at_call 11; refine hrr.mono ?_; rintro _ w8 ⟨hri, hb⟩; refine Hid.out ?_))
            refine Lib.hid ?_
            have HU := Lib.hid (And.intro (HT.out.1.below hb) (And.intro (HT.out.2.1.below hb HT.out.2.1.lt) (HT.out.2.2.below hb)))
            clear hb hrr HT HBK HRI HW d0 d1 d2 d3 d4 d5 f1 f2 f3 f4 f5 e1 e2 e3
            cases hri with
            | no hno =>
              have HN := Lib.hid (show ∀ p, RP p → lineP p ≠ line from fun p h e => hno (by rw [← HP.out p h e]; exact h))
              clear hno HP
              go_wp2_with ((with_reducible (show wpList _ _ _ ({ dst := _, op := Op.store 24 _ _, type := _, pos := _, after := _, guard := _ } :: _) _ _)); refine wpList_store_mid rfl 24 (.tmp 2) (.tmp 116) rfl w.heap.size 0 zO.arr rfl rfl (Blk.there HU.out.1.res rfl) info24 (arr_oneO _) ?_; refine Hid.out ?_)
              refine Lib.hid ?_
              obtain ⟨wq, hwq⟩ : ∃ W, w8.setCells w.heap.size 0 (zO.arr).toList = W := ⟨_, rfl⟩
              have HQ := Lib.hid (And.intro (Blk.setAll HU.out.1.res (cs' := zO.arr) (by rfl)) (below_setCells (zO.arr).toList 0 w8 HU.out.1.bel (Nat.le_refl _)))
              rw [hwq] at HQ ⊢
              clear hwq
              repeat go_step
              (try simp only [Exit.then])
              refine ret_ct (by rfl) (by rfl) (by rfl) (Blk.rangeAt HQ.out.1) Tryd.underlying24 (by rfl) (by kernel_rfl) ?_
              exact ⟨PaR.no HN.out, HQ.out.2⟩
            | yes hyes =>
              have hrt := rtext_any ⟨2, 0, N1, 0, none, 0, 0, [], em⟩ w8 HU.out.2.2 hyes
              unfold Op.v at hrt
              simp only at hrt
              obtain ⟨T, hT⟩ : ∃ t, lineP (Op.p ⟨2, 0, N1, 0, none, 0, 0, [], em⟩) = t := ⟨_, rfl⟩
              rw [hT] at hrt
              have HY := Lib.hid (And.intro hyes hT)
              have d0 : w8.cell? ⟨B, 0, none⟩ = some (.int .i64 2) := (HU.out.2.1.cell 0).trans rfl
              have d1 : w8.cell? ⟨B, 1, none⟩ = some (.int .i64 0) := (HU.out.2.1.cell 1).trans rfl
              have d2 : w8.cell? ⟨B, 2, none⟩ = some (.int .i64 N1) := (HU.out.2.1.cell 2).trans rfl
              have d3 : w8.cell? ⟨B, 3, none⟩ = some (.int .i64 0) := (HU.out.2.1.cell 3).trans rfl
              have d4 : w8.cell? ⟨B, 4, none⟩ = some (.slice none 0 0) := (HU.out.2.1.cell 4).trans rfl
              have d5 : w8.cell? ⟨B, 5, none⟩ = some (.string ⟨#[]⟩) := (HU.out.2.1.cell 5).trans rfl
              have hbz8 := HU.out.1.bz
              clear hyes hT
              go_wp2_with (go_at_call 17; refine hrt.mono ?_; rintro _ w9 ⟨rfl, hb⟩; refine Hid.out ?_)
              refine Lib.hid ?_
              have HV := Lib.hid (And.intro (HU.out.1.below hb) (And.intro (HU.out.2.1.below hb HU.out.2.1.lt) (HU.out.2.2.below hb)))
              clear hb hrt HU d0 d1 d2 d3 d4 d5
              by_cases hte : T = line
              · have h1 : (T.toList == line.toList) = true := by rw [hte]; simp
                have HTE := Lib.hid hte
                clear hte
                go_wp2_with (first
                  | ((with_reducible (show wpList _ _ _ ({ dst := _, op := Op.load 24 _, type := _, pos := _, after := _, guard := _ } :: _) _ _)); refine wpList_load_mid rfl 24 (.tmp 5) rfl B 0 rfl _ _ (Blk.rangeAt HV.out.2.1) Tryd.underlying24 rfl (by kernel_rfl) ?_)
                  | ((with_reducible (show wpList _ _ _ ({ dst := _, op := Op.store 24 _ _, type := _, pos := _, after := _, guard := _ } :: _) _ _)); refine wpList_store_mid rfl 24 (.tmp 2) (.tmp 117) rfl w.heap.size 0 (Op.arr ⟨2, 0, N1, 0, none, 0, 0, [], em⟩) rfl rfl (Blk.there HV.out.1.res rfl) info24 (arr_oneO _) ?_; refine Hid.out ?_))
                refine Lib.hid ?_
                have HOK := Lib.hid (setRes24 HV.out.2.2 HV.out.1.res ((Op.arr ⟨2, 0, N1, 0, none, 0, 0, [], em⟩)).toList)
                obtain ⟨wq, hwq⟩ : ∃ W, w9.setCells w.heap.size 0 ((Op.arr ⟨2, 0, N1, 0, none, 0, 0, [], em⟩)).toList = W := ⟨_, rfl⟩
                have HQ := Lib.hid (And.intro (Blk.setAll HV.out.1.res (cs' := (Op.arr ⟨2, 0, N1, 0, none, 0, 0, [], em⟩)) (by rfl)) (below_setCells ((Op.arr ⟨2, 0, N1, 0, none, 0, 0, [], em⟩)).toList 0 w9 HV.out.1.bel (Nat.le_refl _)))
                rw [hwq] at HQ HOK ⊢
                clear hwq
                repeat go_step
                (try simp only [Exit.then])
                refine ret_ct (by rfl) (by rfl) (by rfl) (Blk.rangeAt HQ.out.1) Tryd.underlying24 (by rfl) (by kernel_rfl) ?_
                exact ⟨PaR.yes ⟨2, 0, N1, 0, none, 0, 0, [], em⟩ HY.out.1 (HY.out.2.trans HTE.out) HOK.out, HQ.out.2⟩
              · have h1 : (T.toList == line.toList) = false := toList_ne hte
                have HN := Lib.hid (show ∀ p, RP p → lineP p ≠ line from fun p h e => hte (by rw [← HY.out.2, ← HP.out p h e]; exact e))
                clear hte
                go_wp2_with ((with_reducible (show wpList _ _ _ ({ dst := _, op := Op.store 24 _ _, type := _, pos := _, after := _, guard := _ } :: _) _ _)); refine wpList_store_mid rfl 24 (.tmp 2) (.tmp 116) rfl w.heap.size 0 zO.arr rfl rfl (Blk.there HV.out.1.res rfl) info24 (arr_oneO _) ?_; refine Hid.out ?_)
                refine Lib.hid ?_
                obtain ⟨wq, hwq⟩ : ∃ W, w9.setCells w.heap.size 0 (zO.arr).toList = W := ⟨_, rfl⟩
                have HQ := Lib.hid (And.intro (Blk.setAll HV.out.1.res (cs' := zO.arr) (by rfl)) (below_setCells (zO.arr).toList 0 w9 HV.out.1.bel (Nat.le_refl _)))
                rw [hwq] at HQ ⊢
                clear hwq
                repeat go_step
                (try simp only [Exit.then])
                refine ret_ct (by rfl) (by rfl) (by rfl) (Blk.rangeAt HQ.out.1) Tryd.underlying24 (by rfl) (by kernel_rfl) ?_
                exact ⟨PaR.no HN.out, HQ.out.2⟩
          · have d0 : wr.cell? ⟨B, 0, none⟩ = some (.int .i64 3) := (HBK.out.cell 0).trans rfl
            have d1 : wr.cell? ⟨B, 1, none⟩ = some (.int .i64 0) := (HBK.out.cell 1).trans rfl
            have d2 : wr.cell? ⟨B, 2, none⟩ = some (.int .i64 0) := (HBK.out.cell 2).trans rfl
            have d3 : wr.cell? ⟨B, 3, none⟩ = some (.int .i64 0) := (HBK.out.cell 3).trans rfl
            have d4 : wr.cell? ⟨B, 4, none⟩ = some (.slice none 0 0) := (HBK.out.cell 4).trans rfl
            have d5 : wr.cell? ⟨B, 5, none⟩ = some (.string ⟨#[]⟩) := (HBK.out.cell 5).trans rfl
            have f1 := HBK.out.frozen 1
            have f2 := HBK.out.frozen 2
            have f3 := HBK.out.frozen 3
            have f4 := HBK.out.frozen 4
            have f5 := HBK.out.frozen 5
            have hnm := fun W => rnumber_any w1 W (by omega)
            obtain ⟨N1, hN1⟩ : ∃ x, numR w1 = x := ⟨_, rfl⟩
            have hnb := numR_in w1
            rw [hN1] at hnm hnb
            have HT := Lib.hid (show RI w ws g1 B (wr.setCell ⟨B, 2, none⟩ (.int .i64 N1)) ∧ Blk (wr.setCell ⟨B, 2, none⟩ (.int .i64 N1)) B 24 (Op.arr ⟨3, 0, N1, 0, none, 0, 0, [], em⟩) ∧ OpOk (wr.setCell ⟨B, 2, none⟩ (.int .i64 N1)) ⟨3, 0, N1, 0, none, 0, 0, [], em⟩ from ⟨HRI.out.set 2 _, HBK.out.set_ 2 _, ⟨Bys.none_ _, Nat.le_refl _, by show 0 ≤ maxLen; decide, by simp only; omega, by simp only; omega, by simp only; omega, by simp only; omega, by simp only; omega, by simp only; omega, by simp only; omega, by simp only; omega, by show em.size ≤ maxLen; decide⟩⟩)
            have HW' := Lib.hid HW.out.1
            have HN12 := Lib.hid hN1
            clear hN1
            have HP := Lib.hid (show ∀ p, RP p → lineP p = line → p = Op.p ⟨3, 0, N1, 0, none, 0, 0, [], em⟩ from fun p h e => (HCD.out p h e).trans (by show (⟨_, 0, numR (gw ws 1), 0, [], em⟩ : PO) = _; rw [HW'.out, HN12.out]; rfl))
            have hrr := refright_any ⟨3, 0, N1, 0, none, 0, 0, [], em⟩ _ HT.out.2.2
            unfold Op.v at hrr
            simp only at hrr
            go_wp2_with (first | (go_at_call 33; refine (hnm _).mono ?_; rintro _ _ ⟨rfl, rfl⟩) | (go_at_call 11; refine hrr.mono ?_; rintro _ w8 ⟨hri, hb⟩; refine Hid.out ?_))
            refine Lib.hid ?_
            have HU := Lib.hid (And.intro (HT.out.1.below hb) (And.intro (HT.out.2.1.below hb HT.out.2.1.lt) (HT.out.2.2.below hb)))
            clear hb hrr HT HBK HRI HW d0 d1 d2 d3 d4 d5 f1 f2 f3 f4 f5 e1 e2 e3
            cases hri with
            | no hno =>
              have HN := Lib.hid (show ∀ p, RP p → lineP p ≠ line from fun p h e => hno (by rw [← HP.out p h e]; exact h))
              clear hno HP
              go_wp2_with ((with_reducible (show wpList _ _ _ ({ dst := _, op := Op.store 24 _ _, type := _, pos := _, after := _, guard := _ } :: _) _ _)); refine wpList_store_mid rfl 24 (.tmp 2) (.tmp 116) rfl w.heap.size 0 zO.arr rfl rfl (Blk.there HU.out.1.res rfl) info24 (arr_oneO _) ?_; refine Hid.out ?_)
              refine Lib.hid ?_
              obtain ⟨wq, hwq⟩ : ∃ W, w8.setCells w.heap.size 0 (zO.arr).toList = W := ⟨_, rfl⟩
              have HQ := Lib.hid (And.intro (Blk.setAll HU.out.1.res (cs' := zO.arr) (by rfl)) (below_setCells (zO.arr).toList 0 w8 HU.out.1.bel (Nat.le_refl _)))
              rw [hwq] at HQ ⊢
              clear hwq
              repeat go_step
              (try simp only [Exit.then])
              refine ret_ct (by rfl) (by rfl) (by rfl) (Blk.rangeAt HQ.out.1) Tryd.underlying24 (by rfl) (by kernel_rfl) ?_
              exact ⟨PaR.no HN.out, HQ.out.2⟩
            | yes hyes =>
              have hrt := rtext_any ⟨3, 0, N1, 0, none, 0, 0, [], em⟩ w8 HU.out.2.2 hyes
              unfold Op.v at hrt
              simp only at hrt
              obtain ⟨T, hT⟩ : ∃ t, lineP (Op.p ⟨3, 0, N1, 0, none, 0, 0, [], em⟩) = t := ⟨_, rfl⟩
              rw [hT] at hrt
              have HY := Lib.hid (And.intro hyes hT)
              have d0 : w8.cell? ⟨B, 0, none⟩ = some (.int .i64 3) := (HU.out.2.1.cell 0).trans rfl
              have d1 : w8.cell? ⟨B, 1, none⟩ = some (.int .i64 0) := (HU.out.2.1.cell 1).trans rfl
              have d2 : w8.cell? ⟨B, 2, none⟩ = some (.int .i64 N1) := (HU.out.2.1.cell 2).trans rfl
              have d3 : w8.cell? ⟨B, 3, none⟩ = some (.int .i64 0) := (HU.out.2.1.cell 3).trans rfl
              have d4 : w8.cell? ⟨B, 4, none⟩ = some (.slice none 0 0) := (HU.out.2.1.cell 4).trans rfl
              have d5 : w8.cell? ⟨B, 5, none⟩ = some (.string ⟨#[]⟩) := (HU.out.2.1.cell 5).trans rfl
              have hbz8 := HU.out.1.bz
              clear hyes hT
              go_wp2_with (go_at_call 17; refine hrt.mono ?_; rintro _ w9 ⟨rfl, hb⟩; refine Hid.out ?_)
              refine Lib.hid ?_
              have HV := Lib.hid (And.intro (HU.out.1.below hb) (And.intro (HU.out.2.1.below hb HU.out.2.1.lt) (HU.out.2.2.below hb)))
              clear hb hrt HU d0 d1 d2 d3 d4 d5
              by_cases hte : T = line
              · have h1 : (T.toList == line.toList) = true := by rw [hte]; simp
                have HTE := Lib.hid hte
                clear hte
                go_wp2_with (first
                  | ((with_reducible (show wpList _ _ _ ({ dst := _, op := Op.load 24 _, type := _, pos := _, after := _, guard := _ } :: _) _ _)); refine wpList_load_mid rfl 24 (.tmp 5) rfl B 0 rfl _ _ (Blk.rangeAt HV.out.2.1) Tryd.underlying24 rfl (by kernel_rfl) ?_)
                  | ((with_reducible (show wpList _ _ _ ({ dst := _, op := Op.store 24 _ _, type := _, pos := _, after := _, guard := _ } :: _) _ _)); refine wpList_store_mid rfl 24 (.tmp 2) (.tmp 117) rfl w.heap.size 0 (Op.arr ⟨3, 0, N1, 0, none, 0, 0, [], em⟩) rfl rfl (Blk.there HV.out.1.res rfl) info24 (arr_oneO _) ?_; refine Hid.out ?_))
                refine Lib.hid ?_
                have HOK := Lib.hid (setRes24 HV.out.2.2 HV.out.1.res ((Op.arr ⟨3, 0, N1, 0, none, 0, 0, [], em⟩)).toList)
                obtain ⟨wq, hwq⟩ : ∃ W, w9.setCells w.heap.size 0 ((Op.arr ⟨3, 0, N1, 0, none, 0, 0, [], em⟩)).toList = W := ⟨_, rfl⟩
                have HQ := Lib.hid (And.intro (Blk.setAll HV.out.1.res (cs' := (Op.arr ⟨3, 0, N1, 0, none, 0, 0, [], em⟩)) (by rfl)) (below_setCells ((Op.arr ⟨3, 0, N1, 0, none, 0, 0, [], em⟩)).toList 0 w9 HV.out.1.bel (Nat.le_refl _)))
                rw [hwq] at HQ HOK ⊢
                clear hwq
                repeat go_step
                (try simp only [Exit.then])
                refine ret_ct (by rfl) (by rfl) (by rfl) (Blk.rangeAt HQ.out.1) Tryd.underlying24 (by rfl) (by kernel_rfl) ?_
                exact ⟨PaR.yes ⟨3, 0, N1, 0, none, 0, 0, [], em⟩ HY.out.1 (HY.out.2.trans HTE.out) HOK.out, HQ.out.2⟩
              · have h1 : (T.toList == line.toList) = false := toList_ne hte
                have HN := Lib.hid (show ∀ p, RP p → lineP p ≠ line from fun p h e => hte (by rw [← HY.out.2, ← HP.out p h e]; exact e))
                clear hte
                go_wp2_with ((with_reducible (show wpList _ _ _ ({ dst := _, op := Op.store 24 _ _, type := _, pos := _, after := _, guard := _ } :: _) _ _)); refine wpList_store_mid rfl 24 (.tmp 2) (.tmp 116) rfl w.heap.size 0 zO.arr rfl rfl (Blk.there HV.out.1.res rfl) info24 (arr_oneO _) ?_; refine Hid.out ?_)
                refine Lib.hid ?_
                obtain ⟨wq, hwq⟩ : ∃ W, w9.setCells w.heap.size 0 (zO.arr).toList = W := ⟨_, rfl⟩
                have HQ := Lib.hid (And.intro (Blk.setAll HV.out.1.res (cs' := zO.arr) (by rfl)) (below_setCells (zO.arr).toList 0 w9 HV.out.1.bel (Nat.le_refl _)))
                rw [hwq] at HQ ⊢
                clear hwq
                repeat go_step
                (try simp only [Exit.then])
                refine ret_ct (by rfl) (by rfl) (by rfl) (Blk.rangeAt HQ.out.1) Tryd.underlying24 (by rfl) (by kernel_rfl) ?_
                exact ⟨PaR.no HN.out, HQ.out.2⟩
          · have d0 : wr.cell? ⟨B, 0, none⟩ = some (.int .i64 4) := (HBK.out.cell 0).trans rfl
            have d1 : wr.cell? ⟨B, 1, none⟩ = some (.int .i64 0) := (HBK.out.cell 1).trans rfl
            have d2 : wr.cell? ⟨B, 2, none⟩ = some (.int .i64 0) := (HBK.out.cell 2).trans rfl
            have d3 : wr.cell? ⟨B, 3, none⟩ = some (.int .i64 0) := (HBK.out.cell 3).trans rfl
            have d4 : wr.cell? ⟨B, 4, none⟩ = some (.slice none 0 0) := (HBK.out.cell 4).trans rfl
            have d5 : wr.cell? ⟨B, 5, none⟩ = some (.string ⟨#[]⟩) := (HBK.out.cell 5).trans rfl
            have f1 := HBK.out.frozen 1
            have f2 := HBK.out.frozen 2
            have f3 := HBK.out.frozen 3
            have f4 := HBK.out.frozen 4
            have f5 := HBK.out.frozen 5
            have hnm := fun W => rnumber_any w1 W (by omega)
            obtain ⟨N1, hN1⟩ : ∃ x, numR w1 = x := ⟨_, rfl⟩
            have hnb := numR_in w1
            rw [hN1] at hnm hnb
            have HT := Lib.hid (show RI w ws g1 B (wr.setCell ⟨B, 2, none⟩ (.int .i64 N1)) ∧ Blk (wr.setCell ⟨B, 2, none⟩ (.int .i64 N1)) B 24 (Op.arr ⟨4, 0, N1, 0, none, 0, 0, [], em⟩) ∧ OpOk (wr.setCell ⟨B, 2, none⟩ (.int .i64 N1)) ⟨4, 0, N1, 0, none, 0, 0, [], em⟩ from ⟨HRI.out.set 2 _, HBK.out.set_ 2 _, ⟨Bys.none_ _, Nat.le_refl _, by show 0 ≤ maxLen; decide, by simp only; omega, by simp only; omega, by simp only; omega, by simp only; omega, by simp only; omega, by simp only; omega, by simp only; omega, by simp only; omega, by show em.size ≤ maxLen; decide⟩⟩)
            have HW' := Lib.hid HW.out.1
            have HN12 := Lib.hid hN1
            clear hN1
            have HP := Lib.hid (show ∀ p, RP p → lineP p = line → p = Op.p ⟨4, 0, N1, 0, none, 0, 0, [], em⟩ from fun p h e => (HCD.out p h e).trans (by show (⟨_, 0, numR (gw ws 1), 0, [], em⟩ : PO) = _; rw [HW'.out, HN12.out]; rfl))
            have hrr := refright_any ⟨4, 0, N1, 0, none, 0, 0, [], em⟩ _ HT.out.2.2
            unfold Op.v at hrr
            simp only at hrr
            go_wp2_with (first | (go_at_call 33; refine (hnm _).mono ?_; rintro _ _ ⟨rfl, rfl⟩) | (go_at_call 11; refine hrr.mono ?_; rintro _ w8 ⟨hri, hb⟩; refine Hid.out ?_))
            refine Lib.hid ?_
            have HU := Lib.hid (And.intro (HT.out.1.below hb) (And.intro (HT.out.2.1.below hb HT.out.2.1.lt) (HT.out.2.2.below hb)))
            clear hb hrr HT HBK HRI HW d0 d1 d2 d3 d4 d5 f1 f2 f3 f4 f5 e1 e2 e3
            cases hri with
            | no hno =>
              have HN := Lib.hid (show ∀ p, RP p → lineP p ≠ line from fun p h e => hno (by rw [← HP.out p h e]; exact h))
              clear hno HP
              go_wp2_with ((with_reducible (show wpList _ _ _ ({ dst := _, op := Op.store 24 _ _, type := _, pos := _, after := _, guard := _ } :: _) _ _)); refine wpList_store_mid rfl 24 (.tmp 2) (.tmp 116) rfl w.heap.size 0 zO.arr rfl rfl (Blk.there HU.out.1.res rfl) info24 (arr_oneO _) ?_; refine Hid.out ?_)
              refine Lib.hid ?_
              obtain ⟨wq, hwq⟩ : ∃ W, w8.setCells w.heap.size 0 (zO.arr).toList = W := ⟨_, rfl⟩
              have HQ := Lib.hid (And.intro (Blk.setAll HU.out.1.res (cs' := zO.arr) (by rfl)) (below_setCells (zO.arr).toList 0 w8 HU.out.1.bel (Nat.le_refl _)))
              rw [hwq] at HQ ⊢
              clear hwq
              repeat go_step
              (try simp only [Exit.then])
              refine ret_ct (by rfl) (by rfl) (by rfl) (Blk.rangeAt HQ.out.1) Tryd.underlying24 (by rfl) (by kernel_rfl) ?_
              exact ⟨PaR.no HN.out, HQ.out.2⟩
            | yes hyes =>
              have hrt := rtext_any ⟨4, 0, N1, 0, none, 0, 0, [], em⟩ w8 HU.out.2.2 hyes
              unfold Op.v at hrt
              simp only at hrt
              obtain ⟨T, hT⟩ : ∃ t, lineP (Op.p ⟨4, 0, N1, 0, none, 0, 0, [], em⟩) = t := ⟨_, rfl⟩
              rw [hT] at hrt
              have HY := Lib.hid (And.intro hyes hT)
              have d0 : w8.cell? ⟨B, 0, none⟩ = some (.int .i64 4) := (HU.out.2.1.cell 0).trans rfl
              have d1 : w8.cell? ⟨B, 1, none⟩ = some (.int .i64 0) := (HU.out.2.1.cell 1).trans rfl
              have d2 : w8.cell? ⟨B, 2, none⟩ = some (.int .i64 N1) := (HU.out.2.1.cell 2).trans rfl
              have d3 : w8.cell? ⟨B, 3, none⟩ = some (.int .i64 0) := (HU.out.2.1.cell 3).trans rfl
              have d4 : w8.cell? ⟨B, 4, none⟩ = some (.slice none 0 0) := (HU.out.2.1.cell 4).trans rfl
              have d5 : w8.cell? ⟨B, 5, none⟩ = some (.string ⟨#[]⟩) := (HU.out.2.1.cell 5).trans rfl
              have hbz8 := HU.out.1.bz
              clear hyes hT
              go_wp2_with (go_at_call 17; refine hrt.mono ?_; rintro _ w9 ⟨rfl, hb⟩; refine Hid.out ?_)
              refine Lib.hid ?_
              have HV := Lib.hid (And.intro (HU.out.1.below hb) (And.intro (HU.out.2.1.below hb HU.out.2.1.lt) (HU.out.2.2.below hb)))
              clear hb hrt HU d0 d1 d2 d3 d4 d5
              by_cases hte : T = line
              · have h1 : (T.toList == line.toList) = true := by rw [hte]; simp
                have HTE := Lib.hid hte
                clear hte
                go_wp2_with (first
                  | ((with_reducible (show wpList _ _ _ ({ dst := _, op := Op.load 24 _, type := _, pos := _, after := _, guard := _ } :: _) _ _)); refine wpList_load_mid rfl 24 (.tmp 5) rfl B 0 rfl _ _ (Blk.rangeAt HV.out.2.1) Tryd.underlying24 rfl (by kernel_rfl) ?_)
                  | ((with_reducible (show wpList _ _ _ ({ dst := _, op := Op.store 24 _ _, type := _, pos := _, after := _, guard := _ } :: _) _ _)); refine wpList_store_mid rfl 24 (.tmp 2) (.tmp 117) rfl w.heap.size 0 (Op.arr ⟨4, 0, N1, 0, none, 0, 0, [], em⟩) rfl rfl (Blk.there HV.out.1.res rfl) info24 (arr_oneO _) ?_; refine Hid.out ?_))
                refine Lib.hid ?_
                have HOK := Lib.hid (setRes24 HV.out.2.2 HV.out.1.res ((Op.arr ⟨4, 0, N1, 0, none, 0, 0, [], em⟩)).toList)
                obtain ⟨wq, hwq⟩ : ∃ W, w9.setCells w.heap.size 0 ((Op.arr ⟨4, 0, N1, 0, none, 0, 0, [], em⟩)).toList = W := ⟨_, rfl⟩
                have HQ := Lib.hid (And.intro (Blk.setAll HV.out.1.res (cs' := (Op.arr ⟨4, 0, N1, 0, none, 0, 0, [], em⟩)) (by rfl)) (below_setCells ((Op.arr ⟨4, 0, N1, 0, none, 0, 0, [], em⟩)).toList 0 w9 HV.out.1.bel (Nat.le_refl _)))
                rw [hwq] at HQ HOK ⊢
                clear hwq
                repeat go_step
                (try simp only [Exit.then])
                refine ret_ct (by rfl) (by rfl) (by rfl) (Blk.rangeAt HQ.out.1) Tryd.underlying24 (by rfl) (by kernel_rfl) ?_
                exact ⟨PaR.yes ⟨4, 0, N1, 0, none, 0, 0, [], em⟩ HY.out.1 (HY.out.2.trans HTE.out) HOK.out, HQ.out.2⟩
              · have h1 : (T.toList == line.toList) = false := toList_ne hte
                have HN := Lib.hid (show ∀ p, RP p → lineP p ≠ line from fun p h e => hte (by rw [← HY.out.2, ← HP.out p h e]; exact e))
                clear hte
                go_wp2_with ((with_reducible (show wpList _ _ _ ({ dst := _, op := Op.store 24 _ _, type := _, pos := _, after := _, guard := _ } :: _) _ _)); refine wpList_store_mid rfl 24 (.tmp 2) (.tmp 116) rfl w.heap.size 0 zO.arr rfl rfl (Blk.there HV.out.1.res rfl) info24 (arr_oneO _) ?_; refine Hid.out ?_)
                refine Lib.hid ?_
                obtain ⟨wq, hwq⟩ : ∃ W, w9.setCells w.heap.size 0 (zO.arr).toList = W := ⟨_, rfl⟩
                have HQ := Lib.hid (And.intro (Blk.setAll HV.out.1.res (cs' := zO.arr) (by rfl)) (below_setCells (zO.arr).toList 0 w9 HV.out.1.bel (Nat.le_refl _)))
                rw [hwq] at HQ ⊢
                clear hwq
                repeat go_step
                (try simp only [Exit.then])
                refine ret_ct (by rfl) (by rfl) (by rfl) (Blk.rangeAt HQ.out.1) Tryd.underlying24 (by rfl) (by kernel_rfl) ?_
                exact ⟨PaR.no HN.out, HQ.out.2⟩
          · have d0 : wr.cell? ⟨B, 0, none⟩ = some (.int .i64 5) := (HBK.out.cell 0).trans rfl
            have d1 : wr.cell? ⟨B, 1, none⟩ = some (.int .i64 0) := (HBK.out.cell 1).trans rfl
            have d2 : wr.cell? ⟨B, 2, none⟩ = some (.int .i64 0) := (HBK.out.cell 2).trans rfl
            have d3 : wr.cell? ⟨B, 3, none⟩ = some (.int .i64 0) := (HBK.out.cell 3).trans rfl
            have d4 : wr.cell? ⟨B, 4, none⟩ = some (.slice none 0 0) := (HBK.out.cell 4).trans rfl
            have d5 : wr.cell? ⟨B, 5, none⟩ = some (.string ⟨#[]⟩) := (HBK.out.cell 5).trans rfl
            have f1 := HBK.out.frozen 1
            have f2 := HBK.out.frozen 2
            have f3 := HBK.out.frozen 3
            have f4 := HBK.out.frozen 4
            have f5 := HBK.out.frozen 5
            have hnm := fun W => rnumber_any w1 W (by omega)
            obtain ⟨N1, hN1⟩ : ∃ x, numR w1 = x := ⟨_, rfl⟩
            have hnb := numR_in w1
            rw [hN1] at hnm hnb
            have HT := Lib.hid (show RI w ws g1 B (wr.setCell ⟨B, 2, none⟩ (.int .i64 N1)) ∧ Blk (wr.setCell ⟨B, 2, none⟩ (.int .i64 N1)) B 24 (Op.arr ⟨5, 0, N1, 0, none, 0, 0, [], em⟩) ∧ OpOk (wr.setCell ⟨B, 2, none⟩ (.int .i64 N1)) ⟨5, 0, N1, 0, none, 0, 0, [], em⟩ from ⟨HRI.out.set 2 _, HBK.out.set_ 2 _, ⟨Bys.none_ _, Nat.le_refl _, by show 0 ≤ maxLen; decide, by simp only; omega, by simp only; omega, by simp only; omega, by simp only; omega, by simp only; omega, by simp only; omega, by simp only; omega, by simp only; omega, by show em.size ≤ maxLen; decide⟩⟩)
            have HW' := Lib.hid HW.out.1
            have HN12 := Lib.hid hN1
            clear hN1
            have HP := Lib.hid (show ∀ p, RP p → lineP p = line → p = Op.p ⟨5, 0, N1, 0, none, 0, 0, [], em⟩ from fun p h e => (HCD.out p h e).trans (by show (⟨_, 0, numR (gw ws 1), 0, [], em⟩ : PO) = _; rw [HW'.out, HN12.out]; rfl))
            have hrr := refright_any ⟨5, 0, N1, 0, none, 0, 0, [], em⟩ _ HT.out.2.2
            unfold Op.v at hrr
            simp only at hrr
            go_wp2_with (first | (go_at_call 33; refine (hnm _).mono ?_; rintro _ _ ⟨rfl, rfl⟩) | (go_at_call 11; refine hrr.mono ?_; rintro _ w8 ⟨hri, hb⟩; refine Hid.out ?_))
            refine Lib.hid ?_
            have HU := Lib.hid (And.intro (HT.out.1.below hb) (And.intro (HT.out.2.1.below hb HT.out.2.1.lt) (HT.out.2.2.below hb)))
            clear hb hrr HT HBK HRI HW d0 d1 d2 d3 d4 d5 f1 f2 f3 f4 f5 e1 e2 e3
            cases hri with
            | no hno =>
              have HN := Lib.hid (show ∀ p, RP p → lineP p ≠ line from fun p h e => hno (by rw [← HP.out p h e]; exact h))
              clear hno HP
              go_wp2_with ((with_reducible (show wpList _ _ _ ({ dst := _, op := Op.store 24 _ _, type := _, pos := _, after := _, guard := _ } :: _) _ _)); refine wpList_store_mid rfl 24 (.tmp 2) (.tmp 116) rfl w.heap.size 0 zO.arr rfl rfl (Blk.there HU.out.1.res rfl) info24 (arr_oneO _) ?_; refine Hid.out ?_)
              refine Lib.hid ?_
              obtain ⟨wq, hwq⟩ : ∃ W, w8.setCells w.heap.size 0 (zO.arr).toList = W := ⟨_, rfl⟩
              have HQ := Lib.hid (And.intro (Blk.setAll HU.out.1.res (cs' := zO.arr) (by rfl)) (below_setCells (zO.arr).toList 0 w8 HU.out.1.bel (Nat.le_refl _)))
              rw [hwq] at HQ ⊢
              clear hwq
              repeat go_step
              (try simp only [Exit.then])
              refine ret_ct (by rfl) (by rfl) (by rfl) (Blk.rangeAt HQ.out.1) Tryd.underlying24 (by rfl) (by kernel_rfl) ?_
              exact ⟨PaR.no HN.out, HQ.out.2⟩
            | yes hyes =>
              have hrt := rtext_any ⟨5, 0, N1, 0, none, 0, 0, [], em⟩ w8 HU.out.2.2 hyes
              unfold Op.v at hrt
              simp only at hrt
              obtain ⟨T, hT⟩ : ∃ t, lineP (Op.p ⟨5, 0, N1, 0, none, 0, 0, [], em⟩) = t := ⟨_, rfl⟩
              rw [hT] at hrt
              have HY := Lib.hid (And.intro hyes hT)
              have d0 : w8.cell? ⟨B, 0, none⟩ = some (.int .i64 5) := (HU.out.2.1.cell 0).trans rfl
              have d1 : w8.cell? ⟨B, 1, none⟩ = some (.int .i64 0) := (HU.out.2.1.cell 1).trans rfl
              have d2 : w8.cell? ⟨B, 2, none⟩ = some (.int .i64 N1) := (HU.out.2.1.cell 2).trans rfl
              have d3 : w8.cell? ⟨B, 3, none⟩ = some (.int .i64 0) := (HU.out.2.1.cell 3).trans rfl
              have d4 : w8.cell? ⟨B, 4, none⟩ = some (.slice none 0 0) := (HU.out.2.1.cell 4).trans rfl
              have d5 : w8.cell? ⟨B, 5, none⟩ = some (.string ⟨#[]⟩) := (HU.out.2.1.cell 5).trans rfl
              have hbz8 := HU.out.1.bz
              clear hyes hT
              go_wp2_with (go_at_call 17; refine hrt.mono ?_; rintro _ w9 ⟨rfl, hb⟩; refine Hid.out ?_)
              refine Lib.hid ?_
              have HV := Lib.hid (And.intro (HU.out.1.below hb) (And.intro (HU.out.2.1.below hb HU.out.2.1.lt) (HU.out.2.2.below hb)))
              clear hb hrt HU d0 d1 d2 d3 d4 d5
              by_cases hte : T = line
              · have h1 : (T.toList == line.toList) = true := by rw [hte]; simp
                have HTE := Lib.hid hte
                clear hte
                go_wp2_with (first
                  | ((with_reducible (show wpList _ _ _ ({ dst := _, op := Op.load 24 _, type := _, pos := _, after := _, guard := _ } :: _) _ _)); refine wpList_load_mid rfl 24 (.tmp 5) rfl B 0 rfl _ _ (Blk.rangeAt HV.out.2.1) Tryd.underlying24 rfl (by kernel_rfl) ?_)
                  | ((with_reducible (show wpList _ _ _ ({ dst := _, op := Op.store 24 _ _, type := _, pos := _, after := _, guard := _ } :: _) _ _)); refine wpList_store_mid rfl 24 (.tmp 2) (.tmp 117) rfl w.heap.size 0 (Op.arr ⟨5, 0, N1, 0, none, 0, 0, [], em⟩) rfl rfl (Blk.there HV.out.1.res rfl) info24 (arr_oneO _) ?_; refine Hid.out ?_))
                refine Lib.hid ?_
                have HOK := Lib.hid (setRes24 HV.out.2.2 HV.out.1.res ((Op.arr ⟨5, 0, N1, 0, none, 0, 0, [], em⟩)).toList)
                obtain ⟨wq, hwq⟩ : ∃ W, w9.setCells w.heap.size 0 ((Op.arr ⟨5, 0, N1, 0, none, 0, 0, [], em⟩)).toList = W := ⟨_, rfl⟩
                have HQ := Lib.hid (And.intro (Blk.setAll HV.out.1.res (cs' := (Op.arr ⟨5, 0, N1, 0, none, 0, 0, [], em⟩)) (by rfl)) (below_setCells ((Op.arr ⟨5, 0, N1, 0, none, 0, 0, [], em⟩)).toList 0 w9 HV.out.1.bel (Nat.le_refl _)))
                rw [hwq] at HQ HOK ⊢
                clear hwq
                repeat go_step
                (try simp only [Exit.then])
                refine ret_ct (by rfl) (by rfl) (by rfl) (Blk.rangeAt HQ.out.1) Tryd.underlying24 (by rfl) (by kernel_rfl) ?_
                exact ⟨PaR.yes ⟨5, 0, N1, 0, none, 0, 0, [], em⟩ HY.out.1 (HY.out.2.trans HTE.out) HOK.out, HQ.out.2⟩
              · have h1 : (T.toList == line.toList) = false := toList_ne hte
                have HN := Lib.hid (show ∀ p, RP p → lineP p ≠ line from fun p h e => hte (by rw [← HY.out.2, ← HP.out p h e]; exact e))
                clear hte
                go_wp2_with ((with_reducible (show wpList _ _ _ ({ dst := _, op := Op.store 24 _ _, type := _, pos := _, after := _, guard := _ } :: _) _ _)); refine wpList_store_mid rfl 24 (.tmp 2) (.tmp 116) rfl w.heap.size 0 zO.arr rfl rfl (Blk.there HV.out.1.res rfl) info24 (arr_oneO _) ?_; refine Hid.out ?_)
                refine Lib.hid ?_
                obtain ⟨wq, hwq⟩ : ∃ W, w9.setCells w.heap.size 0 (zO.arr).toList = W := ⟨_, rfl⟩
                have HQ := Lib.hid (And.intro (Blk.setAll HV.out.1.res (cs' := zO.arr) (by rfl)) (below_setCells (zO.arr).toList 0 w9 HV.out.1.bel (Nat.le_refl _)))
                rw [hwq] at HQ ⊢
                clear hwq
                repeat go_step
                (try simp only [Exit.then])
                refine ret_ct (by rfl) (by rfl) (by rfl) (Blk.rangeAt HQ.out.1) Tryd.underlying24 (by rfl) (by kernel_rfl) ?_
                exact ⟨PaR.no HN.out, HQ.out.2⟩
          · have d0 : wr.cell? ⟨B, 0, none⟩ = some (.int .i64 6) := (HBK.out.cell 0).trans rfl
            have d1 : wr.cell? ⟨B, 1, none⟩ = some (.int .i64 0) := (HBK.out.cell 1).trans rfl
            have d2 : wr.cell? ⟨B, 2, none⟩ = some (.int .i64 0) := (HBK.out.cell 2).trans rfl
            have d3 : wr.cell? ⟨B, 3, none⟩ = some (.int .i64 0) := (HBK.out.cell 3).trans rfl
            have d4 : wr.cell? ⟨B, 4, none⟩ = some (.slice none 0 0) := (HBK.out.cell 4).trans rfl
            have d5 : wr.cell? ⟨B, 5, none⟩ = some (.string ⟨#[]⟩) := (HBK.out.cell 5).trans rfl
            have f1 := HBK.out.frozen 1
            have f2 := HBK.out.frozen 2
            have f3 := HBK.out.frozen 3
            have f4 := HBK.out.frozen 4
            have f5 := HBK.out.frozen 5
            have hnm := fun W => rnumber_any w1 W (by omega)
            obtain ⟨N1, hN1⟩ : ∃ x, numR w1 = x := ⟨_, rfl⟩
            have hnb := numR_in w1
            rw [hN1] at hnm hnb
            have e6 : (wr.setCell ⟨B, 2, none⟩ (.int .i64 N1)).cell? ⟨g1, 2, none⟩ = some (.string w2') := (World.cell?_setCell_other wr ⟨B, 2, none⟩ ⟨g1, 2, none⟩ _ (fun e => by injection e with e; have := HRI.out.gB; omega)).trans e2
            have hne6 : ¬ g1 = B := by have := HRI.out.gB; omega
            have hnm2 := fun W => rnumber_any w2' W (by omega)
            obtain ⟨N2, hN2⟩ : ∃ x, numR w2' = x := ⟨_, rfl⟩
            have hnb2 := numR_in w2'
            rw [hN2] at hnm2 hnb2
            have HN12 := Lib.hid (And.intro hN1 hN2)
            clear hN2
            have HT := Lib.hid (show RI w ws g1 B ((wr.setCell ⟨B, 2, none⟩ (.int .i64 N1)).setCell ⟨B, 3, none⟩ (.int .i64 N2)) ∧ Blk ((wr.setCell ⟨B, 2, none⟩ (.int .i64 N1)).setCell ⟨B, 3, none⟩ (.int .i64 N2)) B 24 (Op.arr ⟨6, 0, N1, N2, none, 0, 0, [], em⟩) ∧ OpOk ((wr.setCell ⟨B, 2, none⟩ (.int .i64 N1)).setCell ⟨B, 3, none⟩ (.int .i64 N2)) ⟨6, 0, N1, N2, none, 0, 0, [], em⟩ from ⟨(HRI.out.set 2 _).set 3 _, (HBK.out.set_ 2 _).set_ 3 _, ⟨Bys.none_ _, Nat.le_refl _, by show 0 ≤ maxLen; decide, by simp only; omega, by simp only; omega, by simp only; omega, by simp only; omega, by simp only; omega, by simp only; omega, by simp only; omega, by simp only; omega, by show em.size ≤ maxLen; decide⟩⟩)
            have HW' := Lib.hid (And.intro HW.out.1 HW.out.2.1)
            clear hN1
            go_wp2_with (go_at_call 33; refine (hnm _).mono ?_; rintro _ _ ⟨rfl, rfl⟩; refine Hid.out ?_)
            refine Lib.hid ?_
            clear hnm
            have HP := Lib.hid (show ∀ p, RP p → lineP p = line → p = Op.p ⟨6, 0, N1, N2, none, 0, 0, [], em⟩ from fun p h e => (HCD.out p h e).trans (by show (⟨6, 0, numR (gw ws 1), numR (gw ws 2), [], em⟩ : PO) = _; rw [HW'.out.1, HW'.out.2, HN12.out.1, HN12.out.2]; rfl))
            have hrr := refright_any ⟨6, 0, N1, N2, none, 0, 0, [], em⟩ _ HT.out.2.2
            unfold Op.v at hrr
            simp only at hrr
            go_wp2_with (first | (go_at_call 33; refine (hnm2 _).mono ?_; rintro _ _ ⟨rfl, rfl⟩) | (go_at_call 11; refine hrr.mono ?_; rintro _ w8 ⟨hri, hb⟩; refine Hid.out ?_))
            refine Lib.hid ?_
            have HU := Lib.hid (And.intro (HT.out.1.below hb) (And.intro (HT.out.2.1.below hb HT.out.2.1.lt) (HT.out.2.2.below hb)))
            clear hb hrr HT HBK HRI HW d0 d1 d2 d3 d4 d5 f1 f2 f3 f4 f5 e1 e2 e3 e6 hne6
            cases hri with
            | no hno =>
              have HN := Lib.hid (show ∀ p, RP p → lineP p ≠ line from fun p h e => hno (by rw [← HP.out p h e]; exact h))
              clear hno HP
              go_wp2_with ((with_reducible (show wpList _ _ _ ({ dst := _, op := Op.store 24 _ _, type := _, pos := _, after := _, guard := _ } :: _) _ _)); refine wpList_store_mid rfl 24 (.tmp 2) (.tmp 116) rfl w.heap.size 0 zO.arr rfl rfl (Blk.there HU.out.1.res rfl) info24 (arr_oneO _) ?_; refine Hid.out ?_)
              refine Lib.hid ?_
              obtain ⟨wq, hwq⟩ : ∃ W, w8.setCells w.heap.size 0 (zO.arr).toList = W := ⟨_, rfl⟩
              have HQ := Lib.hid (And.intro (Blk.setAll HU.out.1.res (cs' := zO.arr) (by rfl)) (below_setCells (zO.arr).toList 0 w8 HU.out.1.bel (Nat.le_refl _)))
              rw [hwq] at HQ ⊢
              clear hwq
              repeat go_step
              (try simp only [Exit.then])
              refine ret_ct (by rfl) (by rfl) (by rfl) (Blk.rangeAt HQ.out.1) Tryd.underlying24 (by rfl) (by kernel_rfl) ?_
              exact ⟨PaR.no HN.out, HQ.out.2⟩
            | yes hyes =>
              have hrt := rtext_any ⟨6, 0, N1, N2, none, 0, 0, [], em⟩ w8 HU.out.2.2 hyes
              unfold Op.v at hrt
              simp only at hrt
              obtain ⟨T, hT⟩ : ∃ t, lineP (Op.p ⟨6, 0, N1, N2, none, 0, 0, [], em⟩) = t := ⟨_, rfl⟩
              rw [hT] at hrt
              have HY := Lib.hid (And.intro hyes hT)
              have d0 : w8.cell? ⟨B, 0, none⟩ = some (.int .i64 6) := (HU.out.2.1.cell 0).trans rfl
              have d1 : w8.cell? ⟨B, 1, none⟩ = some (.int .i64 0) := (HU.out.2.1.cell 1).trans rfl
              have d2 : w8.cell? ⟨B, 2, none⟩ = some (.int .i64 N1) := (HU.out.2.1.cell 2).trans rfl
              have d3 : w8.cell? ⟨B, 3, none⟩ = some (.int .i64 N2) := (HU.out.2.1.cell 3).trans rfl
              have d4 : w8.cell? ⟨B, 4, none⟩ = some (.slice none 0 0) := (HU.out.2.1.cell 4).trans rfl
              have d5 : w8.cell? ⟨B, 5, none⟩ = some (.string ⟨#[]⟩) := (HU.out.2.1.cell 5).trans rfl
              have hbz8 := HU.out.1.bz
              clear hyes hT
              go_wp2_with (go_at_call 17; refine hrt.mono ?_; rintro _ w9 ⟨rfl, hb⟩; refine Hid.out ?_)
              refine Lib.hid ?_
              have HV := Lib.hid (And.intro (HU.out.1.below hb) (And.intro (HU.out.2.1.below hb HU.out.2.1.lt) (HU.out.2.2.below hb)))
              clear hb hrt HU d0 d1 d2 d3 d4 d5
              by_cases hte : T = line
              · have h1 : (T.toList == line.toList) = true := by rw [hte]; simp
                have HTE := Lib.hid hte
                clear hte
                go_wp2_with (first
                  | ((with_reducible (show wpList _ _ _ ({ dst := _, op := Op.load 24 _, type := _, pos := _, after := _, guard := _ } :: _) _ _)); refine wpList_load_mid rfl 24 (.tmp 5) rfl B 0 rfl _ _ (Blk.rangeAt HV.out.2.1) Tryd.underlying24 rfl (by kernel_rfl) ?_)
                  | ((with_reducible (show wpList _ _ _ ({ dst := _, op := Op.store 24 _ _, type := _, pos := _, after := _, guard := _ } :: _) _ _)); refine wpList_store_mid rfl 24 (.tmp 2) (.tmp 117) rfl w.heap.size 0 (Op.arr ⟨6, 0, N1, N2, none, 0, 0, [], em⟩) rfl rfl (Blk.there HV.out.1.res rfl) info24 (arr_oneO _) ?_; refine Hid.out ?_))
                refine Lib.hid ?_
                have HOK := Lib.hid (setRes24 HV.out.2.2 HV.out.1.res ((Op.arr ⟨6, 0, N1, N2, none, 0, 0, [], em⟩)).toList)
                obtain ⟨wq, hwq⟩ : ∃ W, w9.setCells w.heap.size 0 ((Op.arr ⟨6, 0, N1, N2, none, 0, 0, [], em⟩)).toList = W := ⟨_, rfl⟩
                have HQ := Lib.hid (And.intro (Blk.setAll HV.out.1.res (cs' := (Op.arr ⟨6, 0, N1, N2, none, 0, 0, [], em⟩)) (by rfl)) (below_setCells ((Op.arr ⟨6, 0, N1, N2, none, 0, 0, [], em⟩)).toList 0 w9 HV.out.1.bel (Nat.le_refl _)))
                rw [hwq] at HQ HOK ⊢
                clear hwq
                repeat go_step
                (try simp only [Exit.then])
                refine ret_ct (by rfl) (by rfl) (by rfl) (Blk.rangeAt HQ.out.1) Tryd.underlying24 (by rfl) (by kernel_rfl) ?_
                exact ⟨PaR.yes ⟨6, 0, N1, N2, none, 0, 0, [], em⟩ HY.out.1 (HY.out.2.trans HTE.out) HOK.out, HQ.out.2⟩
              · have h1 : (T.toList == line.toList) = false := toList_ne hte
                have HN := Lib.hid (show ∀ p, RP p → lineP p ≠ line from fun p h e => hte (by rw [← HY.out.2, ← HP.out p h e]; exact e))
                clear hte
                go_wp2_with ((with_reducible (show wpList _ _ _ ({ dst := _, op := Op.store 24 _ _, type := _, pos := _, after := _, guard := _ } :: _) _ _)); refine wpList_store_mid rfl 24 (.tmp 2) (.tmp 116) rfl w.heap.size 0 zO.arr rfl rfl (Blk.there HV.out.1.res rfl) info24 (arr_oneO _) ?_; refine Hid.out ?_)
                refine Lib.hid ?_
                obtain ⟨wq, hwq⟩ : ∃ W, w9.setCells w.heap.size 0 (zO.arr).toList = W := ⟨_, rfl⟩
                have HQ := Lib.hid (And.intro (Blk.setAll HV.out.1.res (cs' := zO.arr) (by rfl)) (below_setCells (zO.arr).toList 0 w9 HV.out.1.bel (Nat.le_refl _)))
                rw [hwq] at HQ ⊢
                clear hwq
                repeat go_step
                (try simp only [Exit.then])
                refine ret_ct (by rfl) (by rfl) (by rfl) (Blk.rangeAt HQ.out.1) Tryd.underlying24 (by rfl) (by kernel_rfl) ?_
                exact ⟨PaR.no HN.out, HQ.out.2⟩
          · by_cases hsv : w1 = svS
            · have hq : (w1.toList == [115, 101, 114, 118, 101, 114]) = true := by
                rw [hsv]; first | rfl | decide | simp [svS]
              have HWC := Lib.hid (show whc (gw ws 1) = 1 by rw [HW.out.1]; unfold whc; rw [if_pos hsv])
              clear hsv
              have d0 : wr.cell? ⟨B, 0, none⟩ = some (.int .i64 7) := (HBK.out.cell 0).trans rfl
              have d1 : wr.cell? ⟨B, 1, none⟩ = some (.int .i64 0) := (HBK.out.cell 1).trans rfl
              have d2 : wr.cell? ⟨B, 2, none⟩ = some (.int .i64 0) := (HBK.out.cell 2).trans rfl
              have d3 : wr.cell? ⟨B, 3, none⟩ = some (.int .i64 0) := (HBK.out.cell 3).trans rfl
              have d4 : wr.cell? ⟨B, 4, none⟩ = some (.slice none 0 0) := (HBK.out.cell 4).trans rfl
              have d5 : wr.cell? ⟨B, 5, none⟩ = some (.string ⟨#[]⟩) := (HBK.out.cell 5).trans rfl
              have f1 := HBK.out.frozen 1
              have f2 := HBK.out.frozen 2
              have f3 := HBK.out.frozen 3
              have f4 := HBK.out.frozen 4
              have f5 := HBK.out.frozen 5
              have hux := runhex_any w3' ((wr.setCell ⟨B, 1, none⟩ (.int .i64 1)).setCell ⟨B, 5, none⟩ (.string w2')) (by omega)
              have HS1 := Lib.hid (show RI w ws g1 B ((wr.setCell ⟨B, 1, none⟩ (.int .i64 1)).setCell ⟨B, 5, none⟩ (.string w2')) ∧ Blk ((wr.setCell ⟨B, 1, none⟩ (.int .i64 1)).setCell ⟨B, 5, none⟩ (.string w2')) B 24 #[.int .i64 7, .int .i64 1, .int .i64 0, .int .i64 0, .slice none 0 0, .string w2'] from ⟨((HRI.out.set 1 _).set 5 _), ((HBK.out.set_ 1 _).set_ 5 _)⟩)
              go_wp2_with (go_at_call 23; refine hux.mono ?_; rintro _ w5 ⟨hun, hb⟩; obtain ⟨A5, n5, c5, r5, rfl, hy5, hn5, hc5⟩ := ub_unhex hun; refine Hid.out ?_)
              refine Lib.hid ?_
              have HS5 := Lib.hid (And.intro (HS1.out.1.below hb) (And.intro (HS1.out.2.below hb HS1.out.2.lt) hy5))
              have HN5 := Lib.hid (And.intro hn5 hc5)
              have HW' := Lib.hid HW.out.2
              clear hun hb hux hy5 hn5 hc5 HS1 d0 d1 d2 d3 d4 d5 f1 f2 f3 f4 f5 e1 e2 e3
              have d0 : w5.cell? ⟨B, 0, none⟩ = some (.int .i64 7) := (HS5.out.2.1.cell 0).trans rfl
              have d1 : w5.cell? ⟨B, 1, none⟩ = some (.int .i64 1) := (HS5.out.2.1.cell 1).trans rfl
              have d2 : w5.cell? ⟨B, 2, none⟩ = some (.int .i64 0) := (HS5.out.2.1.cell 2).trans rfl
              have d3 : w5.cell? ⟨B, 3, none⟩ = some (.int .i64 0) := (HS5.out.2.1.cell 3).trans rfl
              have d4 : w5.cell? ⟨B, 4, none⟩ = some (.slice none 0 0) := (HS5.out.2.1.cell 4).trans rfl
              have d5 : w5.cell? ⟨B, 5, none⟩ = some (.string w2') := (HS5.out.2.1.cell 5).trans rfl
              have f1 := HS5.out.2.1.frozen 1
              have f2 := HS5.out.2.1.frozen 2
              have f3 := HS5.out.2.1.frozen 3
              have f4 := HS5.out.2.1.frozen 4
              have f5 := HS5.out.2.1.frozen 5
              have hbz5 := HS5.out.1.bz
              have e1 : wr.heap.size = wr.heap.size := rfl
              have e2 : wr.heap.size = wr.heap.size := rfl
              have e3 : wr.heap.size = wr.heap.size := rfl
              have HT := Lib.hid (show RI w ws g1 B (w5.setCell ⟨B, 4, none⟩ (.slice A5 n5 c5)) ∧ Blk (w5.setCell ⟨B, 4, none⟩ (.slice A5 n5 c5)) B 24 (Op.arr ⟨7, 1, 0, 0, A5, n5, c5, ubS w3', w2'⟩) ∧ OpOk (w5.setCell ⟨B, 4, none⟩ (.slice A5 n5 c5)) ⟨7, 1, 0, 0, A5, n5, c5, ubS w3', w2'⟩ from ⟨HS5.out.1.set 4 _, HS5.out.2.1.set_ 4 _, ⟨Bys.apart HS5.out.2.2 HS5.out.2.1 (arr_no8 ⟨7, 1, 0, 0, none, 0, 0, [], w2'⟩) _, HN5.out.1, HN5.out.2, by simp only; omega, by simp only; omega, by simp only; omega, by simp only; omega, by simp only; omega, by simp only; omega, by simp only; omega, by simp only; omega, by simp only; unfold maxLen; omega⟩⟩)
              have HP := Lib.hid (show ∀ p, RP p → lineP p = line → p = Op.p ⟨7, 1, 0, 0, A5, n5, c5, ubS w3', w2'⟩ from fun p h e => (HCD.out p h e).trans (by show (⟨7, whc (gw ws 1), 0, 0, ubS (gw ws 3), gw ws 2⟩ : PO) = _; rw [HWC.out, HW'.out.1, HW'.out.2]; rfl))
              have hrr := refright_any ⟨7, 1, 0, 0, A5, n5, c5, ubS w3', w2'⟩ _ HT.out.2.2
              unfold Op.v at hrr
              simp only at hrr
              go_wp2_with (first | (go_at_call 11; refine hrr.mono ?_; rintro _ w8 ⟨hri, hb⟩; refine Hid.out ?_))
              refine Lib.hid ?_
              have HU := Lib.hid (And.intro (HT.out.1.below hb) (And.intro (HT.out.2.1.below hb HT.out.2.1.lt) (HT.out.2.2.below hb)))
              clear hb hrr HT HBK HRI HW d0 d1 d2 d3 d4 d5 f1 f2 f3 f4 f5 e1 e2 e3
              cases hri with
              | no hno =>
                have HN := Lib.hid (show ∀ p, RP p → lineP p ≠ line from fun p h e => hno (by rw [← HP.out p h e]; exact h))
                clear hno HP
                go_wp2_with ((with_reducible (show wpList _ _ _ ({ dst := _, op := Op.store 24 _ _, type := _, pos := _, after := _, guard := _ } :: _) _ _)); refine wpList_store_mid rfl 24 (.tmp 2) (.tmp 116) rfl w.heap.size 0 zO.arr rfl rfl (Blk.there HU.out.1.res rfl) info24 (arr_oneO _) ?_; refine Hid.out ?_)
                refine Lib.hid ?_
                obtain ⟨wq, hwq⟩ : ∃ W, w8.setCells w.heap.size 0 (zO.arr).toList = W := ⟨_, rfl⟩
                have HQ := Lib.hid (And.intro (Blk.setAll HU.out.1.res (cs' := zO.arr) (by rfl)) (below_setCells (zO.arr).toList 0 w8 HU.out.1.bel (Nat.le_refl _)))
                rw [hwq] at HQ ⊢
                clear hwq
                repeat go_step
                (try simp only [Exit.then])
                refine ret_ct (by rfl) (by rfl) (by rfl) (Blk.rangeAt HQ.out.1) Tryd.underlying24 (by rfl) (by kernel_rfl) ?_
                exact ⟨PaR.no HN.out, HQ.out.2⟩
              | yes hyes =>
                have hrt := rtext_any ⟨7, 1, 0, 0, A5, n5, c5, ubS w3', w2'⟩ w8 HU.out.2.2 hyes
                unfold Op.v at hrt
                simp only at hrt
                obtain ⟨T, hT⟩ : ∃ t, lineP (Op.p ⟨7, 1, 0, 0, A5, n5, c5, ubS w3', w2'⟩) = t := ⟨_, rfl⟩
                rw [hT] at hrt
                have HY := Lib.hid (And.intro hyes hT)
                have d0 : w8.cell? ⟨B, 0, none⟩ = some (.int .i64 7) := (HU.out.2.1.cell 0).trans rfl
                have d1 : w8.cell? ⟨B, 1, none⟩ = some (.int .i64 1) := (HU.out.2.1.cell 1).trans rfl
                have d2 : w8.cell? ⟨B, 2, none⟩ = some (.int .i64 0) := (HU.out.2.1.cell 2).trans rfl
                have d3 : w8.cell? ⟨B, 3, none⟩ = some (.int .i64 0) := (HU.out.2.1.cell 3).trans rfl
                have d4 : w8.cell? ⟨B, 4, none⟩ = some (.slice A5 n5 c5) := (HU.out.2.1.cell 4).trans rfl
                have d5 : w8.cell? ⟨B, 5, none⟩ = some (.string w2') := (HU.out.2.1.cell 5).trans rfl
                have hbz8 := HU.out.1.bz
                clear hyes hT
                go_wp2_with (go_at_call 17; refine hrt.mono ?_; rintro _ w9 ⟨rfl, hb⟩; refine Hid.out ?_)
                refine Lib.hid ?_
                have HV := Lib.hid (And.intro (HU.out.1.below hb) (And.intro (HU.out.2.1.below hb HU.out.2.1.lt) (HU.out.2.2.below hb)))
                clear hb hrt HU d0 d1 d2 d3 d4 d5
                by_cases hte : T = line
                · have h1 : (T.toList == line.toList) = true := by rw [hte]; simp
                  have HTE := Lib.hid hte
                  clear hte
                  go_wp2_with (first
                    | ((with_reducible (show wpList _ _ _ ({ dst := _, op := Op.load 24 _, type := _, pos := _, after := _, guard := _ } :: _) _ _)); refine wpList_load_mid rfl 24 (.tmp 5) rfl B 0 rfl _ _ (Blk.rangeAt HV.out.2.1) Tryd.underlying24 rfl (by kernel_rfl) ?_)
                    | ((with_reducible (show wpList _ _ _ ({ dst := _, op := Op.store 24 _ _, type := _, pos := _, after := _, guard := _ } :: _) _ _)); refine wpList_store_mid rfl 24 (.tmp 2) (.tmp 117) rfl w.heap.size 0 (Op.arr ⟨7, 1, 0, 0, A5, n5, c5, ubS w3', w2'⟩) rfl rfl (Blk.there HV.out.1.res rfl) info24 (arr_oneO _) ?_; refine Hid.out ?_))
                  refine Lib.hid ?_
                  have HOK := Lib.hid (setRes24 HV.out.2.2 HV.out.1.res ((Op.arr ⟨7, 1, 0, 0, A5, n5, c5, ubS w3', w2'⟩)).toList)
                  obtain ⟨wq, hwq⟩ : ∃ W, w9.setCells w.heap.size 0 ((Op.arr ⟨7, 1, 0, 0, A5, n5, c5, ubS w3', w2'⟩)).toList = W := ⟨_, rfl⟩
                  have HQ := Lib.hid (And.intro (Blk.setAll HV.out.1.res (cs' := (Op.arr ⟨7, 1, 0, 0, A5, n5, c5, ubS w3', w2'⟩)) (by rfl)) (below_setCells ((Op.arr ⟨7, 1, 0, 0, A5, n5, c5, ubS w3', w2'⟩)).toList 0 w9 HV.out.1.bel (Nat.le_refl _)))
                  rw [hwq] at HQ HOK ⊢
                  clear hwq
                  repeat go_step
                  (try simp only [Exit.then])
                  refine ret_ct (by rfl) (by rfl) (by rfl) (Blk.rangeAt HQ.out.1) Tryd.underlying24 (by rfl) (by kernel_rfl) ?_
                  exact ⟨PaR.yes ⟨7, 1, 0, 0, A5, n5, c5, ubS w3', w2'⟩ HY.out.1 (HY.out.2.trans HTE.out) HOK.out, HQ.out.2⟩
                · have h1 : (T.toList == line.toList) = false := toList_ne hte
                  have HN := Lib.hid (show ∀ p, RP p → lineP p ≠ line from fun p h e => hte (by rw [← HY.out.2, ← HP.out p h e]; exact e))
                  clear hte
                  go_wp2_with ((with_reducible (show wpList _ _ _ ({ dst := _, op := Op.store 24 _ _, type := _, pos := _, after := _, guard := _ } :: _) _ _)); refine wpList_store_mid rfl 24 (.tmp 2) (.tmp 116) rfl w.heap.size 0 zO.arr rfl rfl (Blk.there HV.out.1.res rfl) info24 (arr_oneO _) ?_; refine Hid.out ?_)
                  refine Lib.hid ?_
                  obtain ⟨wq, hwq⟩ : ∃ W, w9.setCells w.heap.size 0 (zO.arr).toList = W := ⟨_, rfl⟩
                  have HQ := Lib.hid (And.intro (Blk.setAll HV.out.1.res (cs' := zO.arr) (by rfl)) (below_setCells (zO.arr).toList 0 w9 HV.out.1.bel (Nat.le_refl _)))
                  rw [hwq] at HQ ⊢
                  clear hwq
                  repeat go_step
                  (try simp only [Exit.then])
                  refine ret_ct (by rfl) (by rfl) (by rfl) (Blk.rangeAt HQ.out.1) Tryd.underlying24 (by rfl) (by kernel_rfl) ?_
                  exact ⟨PaR.no HN.out, HQ.out.2⟩
            have hq : (w1.toList == [115, 101, 114, 118, 101, 114]) = false := by
              have := toList_ne hsv; rwa [show svS.toList = [115, 101, 114, 118, 101, 114] by first | rfl | decide | simp [svS]] at this
            have HWC := Lib.hid (show whc (gw ws 1) = 0 by rw [HW.out.1]; unfold whc; rw [if_neg hsv])
            clear hsv
            have d0 : wr.cell? ⟨B, 0, none⟩ = some (.int .i64 7) := (HBK.out.cell 0).trans rfl
            have d1 : wr.cell? ⟨B, 1, none⟩ = some (.int .i64 0) := (HBK.out.cell 1).trans rfl
            have d2 : wr.cell? ⟨B, 2, none⟩ = some (.int .i64 0) := (HBK.out.cell 2).trans rfl
            have d3 : wr.cell? ⟨B, 3, none⟩ = some (.int .i64 0) := (HBK.out.cell 3).trans rfl
            have d4 : wr.cell? ⟨B, 4, none⟩ = some (.slice none 0 0) := (HBK.out.cell 4).trans rfl
            have d5 : wr.cell? ⟨B, 5, none⟩ = some (.string ⟨#[]⟩) := (HBK.out.cell 5).trans rfl
            have f1 := HBK.out.frozen 1
            have f2 := HBK.out.frozen 2
            have f3 := HBK.out.frozen 3
            have f4 := HBK.out.frozen 4
            have f5 := HBK.out.frozen 5
            have hux := runhex_any w3' (wr.setCell ⟨B, 5, none⟩ (.string w2')) (by omega)
            have HS1 := Lib.hid (show RI w ws g1 B (wr.setCell ⟨B, 5, none⟩ (.string w2')) ∧ Blk (wr.setCell ⟨B, 5, none⟩ (.string w2')) B 24 #[.int .i64 7, .int .i64 0, .int .i64 0, .int .i64 0, .slice none 0 0, .string w2'] from ⟨(HRI.out.set 5 _), (HBK.out.set_ 5 _)⟩)
            go_wp2_with (go_at_call 23; refine hux.mono ?_; rintro _ w5 ⟨hun, hb⟩; obtain ⟨A5, n5, c5, r5, rfl, hy5, hn5, hc5⟩ := ub_unhex hun; refine Hid.out ?_)
            refine Lib.hid ?_
            have HS5 := Lib.hid (And.intro (HS1.out.1.below hb) (And.intro (HS1.out.2.below hb HS1.out.2.lt) hy5))
            have HN5 := Lib.hid (And.intro hn5 hc5)
            have HW' := Lib.hid HW.out.2
            clear hun hb hux hy5 hn5 hc5 HS1 d0 d1 d2 d3 d4 d5 f1 f2 f3 f4 f5 e1 e2 e3
            have d0 : w5.cell? ⟨B, 0, none⟩ = some (.int .i64 7) := (HS5.out.2.1.cell 0).trans rfl
            have d1 : w5.cell? ⟨B, 1, none⟩ = some (.int .i64 0) := (HS5.out.2.1.cell 1).trans rfl
            have d2 : w5.cell? ⟨B, 2, none⟩ = some (.int .i64 0) := (HS5.out.2.1.cell 2).trans rfl
            have d3 : w5.cell? ⟨B, 3, none⟩ = some (.int .i64 0) := (HS5.out.2.1.cell 3).trans rfl
            have d4 : w5.cell? ⟨B, 4, none⟩ = some (.slice none 0 0) := (HS5.out.2.1.cell 4).trans rfl
            have d5 : w5.cell? ⟨B, 5, none⟩ = some (.string w2') := (HS5.out.2.1.cell 5).trans rfl
            have f1 := HS5.out.2.1.frozen 1
            have f2 := HS5.out.2.1.frozen 2
            have f3 := HS5.out.2.1.frozen 3
            have f4 := HS5.out.2.1.frozen 4
            have f5 := HS5.out.2.1.frozen 5
            have hbz5 := HS5.out.1.bz
            have e1 : wr.heap.size = wr.heap.size := rfl
            have e2 : wr.heap.size = wr.heap.size := rfl
            have e3 : wr.heap.size = wr.heap.size := rfl
            have HT := Lib.hid (show RI w ws g1 B (w5.setCell ⟨B, 4, none⟩ (.slice A5 n5 c5)) ∧ Blk (w5.setCell ⟨B, 4, none⟩ (.slice A5 n5 c5)) B 24 (Op.arr ⟨7, 0, 0, 0, A5, n5, c5, ubS w3', w2'⟩) ∧ OpOk (w5.setCell ⟨B, 4, none⟩ (.slice A5 n5 c5)) ⟨7, 0, 0, 0, A5, n5, c5, ubS w3', w2'⟩ from ⟨HS5.out.1.set 4 _, HS5.out.2.1.set_ 4 _, ⟨Bys.apart HS5.out.2.2 HS5.out.2.1 (arr_no8 ⟨7, 0, 0, 0, none, 0, 0, [], w2'⟩) _, HN5.out.1, HN5.out.2, by simp only; omega, by simp only; omega, by simp only; omega, by simp only; omega, by simp only; omega, by simp only; omega, by simp only; omega, by simp only; omega, by simp only; unfold maxLen; omega⟩⟩)
            have HP := Lib.hid (show ∀ p, RP p → lineP p = line → p = Op.p ⟨7, 0, 0, 0, A5, n5, c5, ubS w3', w2'⟩ from fun p h e => (HCD.out p h e).trans (by show (⟨7, whc (gw ws 1), 0, 0, ubS (gw ws 3), gw ws 2⟩ : PO) = _; rw [HWC.out, HW'.out.1, HW'.out.2]; rfl))
            have hrr := refright_any ⟨7, 0, 0, 0, A5, n5, c5, ubS w3', w2'⟩ _ HT.out.2.2
            unfold Op.v at hrr
            simp only at hrr
            go_wp2_with (first | (go_at_call 11; refine hrr.mono ?_; rintro _ w8 ⟨hri, hb⟩; refine Hid.out ?_))
            refine Lib.hid ?_
            have HU := Lib.hid (And.intro (HT.out.1.below hb) (And.intro (HT.out.2.1.below hb HT.out.2.1.lt) (HT.out.2.2.below hb)))
            clear hb hrr HT HBK HRI HW d0 d1 d2 d3 d4 d5 f1 f2 f3 f4 f5 e1 e2 e3
            cases hri with
            | no hno =>
              have HN := Lib.hid (show ∀ p, RP p → lineP p ≠ line from fun p h e => hno (by rw [← HP.out p h e]; exact h))
              clear hno HP
              go_wp2_with ((with_reducible (show wpList _ _ _ ({ dst := _, op := Op.store 24 _ _, type := _, pos := _, after := _, guard := _ } :: _) _ _)); refine wpList_store_mid rfl 24 (.tmp 2) (.tmp 116) rfl w.heap.size 0 zO.arr rfl rfl (Blk.there HU.out.1.res rfl) info24 (arr_oneO _) ?_; refine Hid.out ?_)
              refine Lib.hid ?_
              obtain ⟨wq, hwq⟩ : ∃ W, w8.setCells w.heap.size 0 (zO.arr).toList = W := ⟨_, rfl⟩
              have HQ := Lib.hid (And.intro (Blk.setAll HU.out.1.res (cs' := zO.arr) (by rfl)) (below_setCells (zO.arr).toList 0 w8 HU.out.1.bel (Nat.le_refl _)))
              rw [hwq] at HQ ⊢
              clear hwq
              repeat go_step
              (try simp only [Exit.then])
              refine ret_ct (by rfl) (by rfl) (by rfl) (Blk.rangeAt HQ.out.1) Tryd.underlying24 (by rfl) (by kernel_rfl) ?_
              exact ⟨PaR.no HN.out, HQ.out.2⟩
            | yes hyes =>
              have hrt := rtext_any ⟨7, 0, 0, 0, A5, n5, c5, ubS w3', w2'⟩ w8 HU.out.2.2 hyes
              unfold Op.v at hrt
              simp only at hrt
              obtain ⟨T, hT⟩ : ∃ t, lineP (Op.p ⟨7, 0, 0, 0, A5, n5, c5, ubS w3', w2'⟩) = t := ⟨_, rfl⟩
              rw [hT] at hrt
              have HY := Lib.hid (And.intro hyes hT)
              have d0 : w8.cell? ⟨B, 0, none⟩ = some (.int .i64 7) := (HU.out.2.1.cell 0).trans rfl
              have d1 : w8.cell? ⟨B, 1, none⟩ = some (.int .i64 0) := (HU.out.2.1.cell 1).trans rfl
              have d2 : w8.cell? ⟨B, 2, none⟩ = some (.int .i64 0) := (HU.out.2.1.cell 2).trans rfl
              have d3 : w8.cell? ⟨B, 3, none⟩ = some (.int .i64 0) := (HU.out.2.1.cell 3).trans rfl
              have d4 : w8.cell? ⟨B, 4, none⟩ = some (.slice A5 n5 c5) := (HU.out.2.1.cell 4).trans rfl
              have d5 : w8.cell? ⟨B, 5, none⟩ = some (.string w2') := (HU.out.2.1.cell 5).trans rfl
              have hbz8 := HU.out.1.bz
              clear hyes hT
              go_wp2_with (go_at_call 17; refine hrt.mono ?_; rintro _ w9 ⟨rfl, hb⟩; refine Hid.out ?_)
              refine Lib.hid ?_
              have HV := Lib.hid (And.intro (HU.out.1.below hb) (And.intro (HU.out.2.1.below hb HU.out.2.1.lt) (HU.out.2.2.below hb)))
              clear hb hrt HU d0 d1 d2 d3 d4 d5
              by_cases hte : T = line
              · have h1 : (T.toList == line.toList) = true := by rw [hte]; simp
                have HTE := Lib.hid hte
                clear hte
                go_wp2_with (first
                  | ((with_reducible (show wpList _ _ _ ({ dst := _, op := Op.load 24 _, type := _, pos := _, after := _, guard := _ } :: _) _ _)); refine wpList_load_mid rfl 24 (.tmp 5) rfl B 0 rfl _ _ (Blk.rangeAt HV.out.2.1) Tryd.underlying24 rfl (by kernel_rfl) ?_)
                  | ((with_reducible (show wpList _ _ _ ({ dst := _, op := Op.store 24 _ _, type := _, pos := _, after := _, guard := _ } :: _) _ _)); refine wpList_store_mid rfl 24 (.tmp 2) (.tmp 117) rfl w.heap.size 0 (Op.arr ⟨7, 0, 0, 0, A5, n5, c5, ubS w3', w2'⟩) rfl rfl (Blk.there HV.out.1.res rfl) info24 (arr_oneO _) ?_; refine Hid.out ?_))
                refine Lib.hid ?_
                have HOK := Lib.hid (setRes24 HV.out.2.2 HV.out.1.res ((Op.arr ⟨7, 0, 0, 0, A5, n5, c5, ubS w3', w2'⟩)).toList)
                obtain ⟨wq, hwq⟩ : ∃ W, w9.setCells w.heap.size 0 ((Op.arr ⟨7, 0, 0, 0, A5, n5, c5, ubS w3', w2'⟩)).toList = W := ⟨_, rfl⟩
                have HQ := Lib.hid (And.intro (Blk.setAll HV.out.1.res (cs' := (Op.arr ⟨7, 0, 0, 0, A5, n5, c5, ubS w3', w2'⟩)) (by rfl)) (below_setCells ((Op.arr ⟨7, 0, 0, 0, A5, n5, c5, ubS w3', w2'⟩)).toList 0 w9 HV.out.1.bel (Nat.le_refl _)))
                rw [hwq] at HQ HOK ⊢
                clear hwq
                repeat go_step
                (try simp only [Exit.then])
                refine ret_ct (by rfl) (by rfl) (by rfl) (Blk.rangeAt HQ.out.1) Tryd.underlying24 (by rfl) (by kernel_rfl) ?_
                exact ⟨PaR.yes ⟨7, 0, 0, 0, A5, n5, c5, ubS w3', w2'⟩ HY.out.1 (HY.out.2.trans HTE.out) HOK.out, HQ.out.2⟩
              · have h1 : (T.toList == line.toList) = false := toList_ne hte
                have HN := Lib.hid (show ∀ p, RP p → lineP p ≠ line from fun p h e => hte (by rw [← HY.out.2, ← HP.out p h e]; exact e))
                clear hte
                go_wp2_with ((with_reducible (show wpList _ _ _ ({ dst := _, op := Op.store 24 _ _, type := _, pos := _, after := _, guard := _ } :: _) _ _)); refine wpList_store_mid rfl 24 (.tmp 2) (.tmp 116) rfl w.heap.size 0 zO.arr rfl rfl (Blk.there HV.out.1.res rfl) info24 (arr_oneO _) ?_; refine Hid.out ?_)
                refine Lib.hid ?_
                obtain ⟨wq, hwq⟩ : ∃ W, w9.setCells w.heap.size 0 (zO.arr).toList = W := ⟨_, rfl⟩
                have HQ := Lib.hid (And.intro (Blk.setAll HV.out.1.res (cs' := zO.arr) (by rfl)) (below_setCells (zO.arr).toList 0 w9 HV.out.1.bel (Nat.le_refl _)))
                rw [hwq] at HQ ⊢
                clear hwq
                repeat go_step
                (try simp only [Exit.then])
                refine ret_ct (by rfl) (by rfl) (by rfl) (Blk.rangeAt HQ.out.1) Tryd.underlying24 (by rfl) (by kernel_rfl) ?_
                exact ⟨PaR.no HN.out, HQ.out.2⟩
          · have d0 : wr.cell? ⟨B, 0, none⟩ = some (.int .i64 8) := (HBK.out.cell 0).trans rfl
            have d1 : wr.cell? ⟨B, 1, none⟩ = some (.int .i64 0) := (HBK.out.cell 1).trans rfl
            have d2 : wr.cell? ⟨B, 2, none⟩ = some (.int .i64 0) := (HBK.out.cell 2).trans rfl
            have d3 : wr.cell? ⟨B, 3, none⟩ = some (.int .i64 0) := (HBK.out.cell 3).trans rfl
            have d4 : wr.cell? ⟨B, 4, none⟩ = some (.slice none 0 0) := (HBK.out.cell 4).trans rfl
            have d5 : wr.cell? ⟨B, 5, none⟩ = some (.string ⟨#[]⟩) := (HBK.out.cell 5).trans rfl
            have f1 := HBK.out.frozen 1
            have f2 := HBK.out.frozen 2
            have f3 := HBK.out.frozen 3
            have f4 := HBK.out.frozen 4
            have f5 := HBK.out.frozen 5
            have HT := Lib.hid (show RI w ws g1 B (wr.setCell ⟨B, 5, none⟩ (.string w1)) ∧ Blk (wr.setCell ⟨B, 5, none⟩ (.string w1)) B 24 (Op.arr ⟨8, 0, 0, 0, none, 0, 0, [], w1⟩) ∧ OpOk (wr.setCell ⟨B, 5, none⟩ (.string w1)) ⟨8, 0, 0, 0, none, 0, 0, [], w1⟩ from ⟨HRI.out.set 5 _, HBK.out.set_ 5 _, ⟨Bys.none_ _, Nat.le_refl _, by show 0 ≤ maxLen; decide, by simp only; omega, by simp only; omega, by simp only; omega, by simp only; omega, by simp only; omega, by simp only; omega, by simp only; omega, by simp only; omega, by simp only; unfold maxLen; omega⟩⟩)
            have HW' := Lib.hid HW.out.1
            have HP := Lib.hid (show ∀ p, RP p → lineP p = line → p = Op.p ⟨8, 0, 0, 0, none, 0, 0, [], w1⟩ from fun p h e => (HCD.out p h e).trans (by show (⟨8, 0, 0, 0, [], gw ws 1⟩ : PO) = _; rw [HW'.out]; rfl))
            have hrr := refright_any ⟨8, 0, 0, 0, none, 0, 0, [], w1⟩ _ HT.out.2.2
            unfold Op.v at hrr
            simp only at hrr
            go_wp2_with (first | (go_at_call 11; refine hrr.mono ?_; rintro _ w8 ⟨hri, hb⟩; refine Hid.out ?_))
            refine Lib.hid ?_
            have HU := Lib.hid (And.intro (HT.out.1.below hb) (And.intro (HT.out.2.1.below hb HT.out.2.1.lt) (HT.out.2.2.below hb)))
            clear hb hrr HT HBK HRI HW d0 d1 d2 d3 d4 d5 f1 f2 f3 f4 f5 e1 e2 e3
            cases hri with
            | no hno =>
              have HN := Lib.hid (show ∀ p, RP p → lineP p ≠ line from fun p h e => hno (by rw [← HP.out p h e]; exact h))
              clear hno HP
              go_wp2_with ((with_reducible (show wpList _ _ _ ({ dst := _, op := Op.store 24 _ _, type := _, pos := _, after := _, guard := _ } :: _) _ _)); refine wpList_store_mid rfl 24 (.tmp 2) (.tmp 116) rfl w.heap.size 0 zO.arr rfl rfl (Blk.there HU.out.1.res rfl) info24 (arr_oneO _) ?_; refine Hid.out ?_)
              refine Lib.hid ?_
              obtain ⟨wq, hwq⟩ : ∃ W, w8.setCells w.heap.size 0 (zO.arr).toList = W := ⟨_, rfl⟩
              have HQ := Lib.hid (And.intro (Blk.setAll HU.out.1.res (cs' := zO.arr) (by rfl)) (below_setCells (zO.arr).toList 0 w8 HU.out.1.bel (Nat.le_refl _)))
              rw [hwq] at HQ ⊢
              clear hwq
              repeat go_step
              (try simp only [Exit.then])
              refine ret_ct (by rfl) (by rfl) (by rfl) (Blk.rangeAt HQ.out.1) Tryd.underlying24 (by rfl) (by kernel_rfl) ?_
              exact ⟨PaR.no HN.out, HQ.out.2⟩
            | yes hyes =>
              have hrt := rtext_any ⟨8, 0, 0, 0, none, 0, 0, [], w1⟩ w8 HU.out.2.2 hyes
              unfold Op.v at hrt
              simp only at hrt
              obtain ⟨T, hT⟩ : ∃ t, lineP (Op.p ⟨8, 0, 0, 0, none, 0, 0, [], w1⟩) = t := ⟨_, rfl⟩
              rw [hT] at hrt
              have HY := Lib.hid (And.intro hyes hT)
              have d0 : w8.cell? ⟨B, 0, none⟩ = some (.int .i64 8) := (HU.out.2.1.cell 0).trans rfl
              have d1 : w8.cell? ⟨B, 1, none⟩ = some (.int .i64 0) := (HU.out.2.1.cell 1).trans rfl
              have d2 : w8.cell? ⟨B, 2, none⟩ = some (.int .i64 0) := (HU.out.2.1.cell 2).trans rfl
              have d3 : w8.cell? ⟨B, 3, none⟩ = some (.int .i64 0) := (HU.out.2.1.cell 3).trans rfl
              have d4 : w8.cell? ⟨B, 4, none⟩ = some (.slice none 0 0) := (HU.out.2.1.cell 4).trans rfl
              have d5 : w8.cell? ⟨B, 5, none⟩ = some (.string w1) := (HU.out.2.1.cell 5).trans rfl
              have hbz8 := HU.out.1.bz
              clear hyes hT
              go_wp2_with (go_at_call 17; refine hrt.mono ?_; rintro _ w9 ⟨rfl, hb⟩; refine Hid.out ?_)
              refine Lib.hid ?_
              have HV := Lib.hid (And.intro (HU.out.1.below hb) (And.intro (HU.out.2.1.below hb HU.out.2.1.lt) (HU.out.2.2.below hb)))
              clear hb hrt HU d0 d1 d2 d3 d4 d5
              by_cases hte : T = line
              · have h1 : (T.toList == line.toList) = true := by rw [hte]; simp
                have HTE := Lib.hid hte
                clear hte
                go_wp2_with (first
                  | ((with_reducible (show wpList _ _ _ ({ dst := _, op := Op.load 24 _, type := _, pos := _, after := _, guard := _ } :: _) _ _)); refine wpList_load_mid rfl 24 (.tmp 5) rfl B 0 rfl _ _ (Blk.rangeAt HV.out.2.1) Tryd.underlying24 rfl (by kernel_rfl) ?_)
                  | ((with_reducible (show wpList _ _ _ ({ dst := _, op := Op.store 24 _ _, type := _, pos := _, after := _, guard := _ } :: _) _ _)); refine wpList_store_mid rfl 24 (.tmp 2) (.tmp 117) rfl w.heap.size 0 (Op.arr ⟨8, 0, 0, 0, none, 0, 0, [], w1⟩) rfl rfl (Blk.there HV.out.1.res rfl) info24 (arr_oneO _) ?_; refine Hid.out ?_))
                refine Lib.hid ?_
                have HOK := Lib.hid (setRes24 HV.out.2.2 HV.out.1.res ((Op.arr ⟨8, 0, 0, 0, none, 0, 0, [], w1⟩)).toList)
                obtain ⟨wq, hwq⟩ : ∃ W, w9.setCells w.heap.size 0 ((Op.arr ⟨8, 0, 0, 0, none, 0, 0, [], w1⟩)).toList = W := ⟨_, rfl⟩
                have HQ := Lib.hid (And.intro (Blk.setAll HV.out.1.res (cs' := (Op.arr ⟨8, 0, 0, 0, none, 0, 0, [], w1⟩)) (by rfl)) (below_setCells ((Op.arr ⟨8, 0, 0, 0, none, 0, 0, [], w1⟩)).toList 0 w9 HV.out.1.bel (Nat.le_refl _)))
                rw [hwq] at HQ HOK ⊢
                clear hwq
                repeat go_step
                (try simp only [Exit.then])
                refine ret_ct (by rfl) (by rfl) (by rfl) (Blk.rangeAt HQ.out.1) Tryd.underlying24 (by rfl) (by kernel_rfl) ?_
                exact ⟨PaR.yes ⟨8, 0, 0, 0, none, 0, 0, [], w1⟩ HY.out.1 (HY.out.2.trans HTE.out) HOK.out, HQ.out.2⟩
              · have h1 : (T.toList == line.toList) = false := toList_ne hte
                have HN := Lib.hid (show ∀ p, RP p → lineP p ≠ line from fun p h e => hte (by rw [← HY.out.2, ← HP.out p h e]; exact e))
                clear hte
                go_wp2_with ((with_reducible (show wpList _ _ _ ({ dst := _, op := Op.store 24 _ _, type := _, pos := _, after := _, guard := _ } :: _) _ _)); refine wpList_store_mid rfl 24 (.tmp 2) (.tmp 116) rfl w.heap.size 0 zO.arr rfl rfl (Blk.there HV.out.1.res rfl) info24 (arr_oneO _) ?_; refine Hid.out ?_)
                refine Lib.hid ?_
                obtain ⟨wq, hwq⟩ : ∃ W, w9.setCells w.heap.size 0 (zO.arr).toList = W := ⟨_, rfl⟩
                have HQ := Lib.hid (And.intro (Blk.setAll HV.out.1.res (cs' := zO.arr) (by rfl)) (below_setCells (zO.arr).toList 0 w9 HV.out.1.bel (Nat.le_refl _)))
                rw [hwq] at HQ ⊢
                clear hwq
                repeat go_step
                (try simp only [Exit.then])
                refine ret_ct (by rfl) (by rfl) (by rfl) (Blk.rangeAt HQ.out.1) Tryd.underlying24 (by rfl) (by kernel_rfl) ?_
                exact ⟨PaR.no HN.out, HQ.out.2⟩
          · by_cases hsv : w1 = svS
            · have hq : (w1.toList == [115, 101, 114, 118, 101, 114]) = true := by
                rw [hsv]; first | rfl | decide | simp [svS]
              have HWC := Lib.hid (show whc (gw ws 1) = 1 by rw [HW.out.1]; unfold whc; rw [if_pos hsv])
              clear hsv
              have d0 : wr.cell? ⟨B, 0, none⟩ = some (.int .i64 9) := (HBK.out.cell 0).trans rfl
              have d1 : wr.cell? ⟨B, 1, none⟩ = some (.int .i64 0) := (HBK.out.cell 1).trans rfl
              have d2 : wr.cell? ⟨B, 2, none⟩ = some (.int .i64 0) := (HBK.out.cell 2).trans rfl
              have d3 : wr.cell? ⟨B, 3, none⟩ = some (.int .i64 0) := (HBK.out.cell 3).trans rfl
              have d4 : wr.cell? ⟨B, 4, none⟩ = some (.slice none 0 0) := (HBK.out.cell 4).trans rfl
              have d5 : wr.cell? ⟨B, 5, none⟩ = some (.string ⟨#[]⟩) := (HBK.out.cell 5).trans rfl
              have f1 := HBK.out.frozen 1
              have f2 := HBK.out.frozen 2
              have f3 := HBK.out.frozen 3
              have f4 := HBK.out.frozen 4
              have f5 := HBK.out.frozen 5
              have HT := Lib.hid (show RI w ws g1 B (wr.setCell ⟨B, 1, none⟩ (.int .i64 1)) ∧ Blk (wr.setCell ⟨B, 1, none⟩ (.int .i64 1)) B 24 (Op.arr ⟨9, 1, 0, 0, none, 0, 0, [], em⟩) ∧ OpOk (wr.setCell ⟨B, 1, none⟩ (.int .i64 1)) ⟨9, 1, 0, 0, none, 0, 0, [], em⟩ from ⟨(HRI.out.set 1 _), (HBK.out.set_ 1 _), ⟨Bys.none_ _, Nat.le_refl _, by show 0 ≤ maxLen; decide, by simp only; omega, by simp only; omega, by simp only; omega, by simp only; omega, by simp only; omega, by simp only; omega, by simp only; omega, by simp only; omega, by show em.size ≤ maxLen; decide⟩⟩)
              have HP := Lib.hid (show ∀ p, RP p → lineP p = line → p = Op.p ⟨9, 1, 0, 0, none, 0, 0, [], em⟩ from fun p h e => (HCD.out p h e).trans (by show (⟨9, whc (gw ws 1), 0, 0, [], em⟩ : PO) = _; rw [HWC.out]; rfl))
              have hrr := refright_any ⟨9, 1, 0, 0, none, 0, 0, [], em⟩ _ HT.out.2.2
              unfold Op.v at hrr
              simp only at hrr
              go_wp2_with (first | (go_at_call 11; refine hrr.mono ?_; rintro _ w8 ⟨hri, hb⟩; refine Hid.out ?_))
              refine Lib.hid ?_
              have HU := Lib.hid (And.intro (HT.out.1.below hb) (And.intro (HT.out.2.1.below hb HT.out.2.1.lt) (HT.out.2.2.below hb)))
              clear hb hrr HT HBK HRI HW d0 d1 d2 d3 d4 d5 f1 f2 f3 f4 f5 e1 e2 e3
              cases hri with
              | no hno =>
                have HN := Lib.hid (show ∀ p, RP p → lineP p ≠ line from fun p h e => hno (by rw [← HP.out p h e]; exact h))
                clear hno HP
                go_wp2_with ((with_reducible (show wpList _ _ _ ({ dst := _, op := Op.store 24 _ _, type := _, pos := _, after := _, guard := _ } :: _) _ _)); refine wpList_store_mid rfl 24 (.tmp 2) (.tmp 116) rfl w.heap.size 0 zO.arr rfl rfl (Blk.there HU.out.1.res rfl) info24 (arr_oneO _) ?_; refine Hid.out ?_)
                refine Lib.hid ?_
                obtain ⟨wq, hwq⟩ : ∃ W, w8.setCells w.heap.size 0 (zO.arr).toList = W := ⟨_, rfl⟩
                have HQ := Lib.hid (And.intro (Blk.setAll HU.out.1.res (cs' := zO.arr) (by rfl)) (below_setCells (zO.arr).toList 0 w8 HU.out.1.bel (Nat.le_refl _)))
                rw [hwq] at HQ ⊢
                clear hwq
                repeat go_step
                (try simp only [Exit.then])
                refine ret_ct (by rfl) (by rfl) (by rfl) (Blk.rangeAt HQ.out.1) Tryd.underlying24 (by rfl) (by kernel_rfl) ?_
                exact ⟨PaR.no HN.out, HQ.out.2⟩
              | yes hyes =>
                have hrt := rtext_any ⟨9, 1, 0, 0, none, 0, 0, [], em⟩ w8 HU.out.2.2 hyes
                unfold Op.v at hrt
                simp only at hrt
                obtain ⟨T, hT⟩ : ∃ t, lineP (Op.p ⟨9, 1, 0, 0, none, 0, 0, [], em⟩) = t := ⟨_, rfl⟩
                rw [hT] at hrt
                have HY := Lib.hid (And.intro hyes hT)
                have d0 : w8.cell? ⟨B, 0, none⟩ = some (.int .i64 9) := (HU.out.2.1.cell 0).trans rfl
                have d1 : w8.cell? ⟨B, 1, none⟩ = some (.int .i64 1) := (HU.out.2.1.cell 1).trans rfl
                have d2 : w8.cell? ⟨B, 2, none⟩ = some (.int .i64 0) := (HU.out.2.1.cell 2).trans rfl
                have d3 : w8.cell? ⟨B, 3, none⟩ = some (.int .i64 0) := (HU.out.2.1.cell 3).trans rfl
                have d4 : w8.cell? ⟨B, 4, none⟩ = some (.slice none 0 0) := (HU.out.2.1.cell 4).trans rfl
                have d5 : w8.cell? ⟨B, 5, none⟩ = some (.string ⟨#[]⟩) := (HU.out.2.1.cell 5).trans rfl
                have hbz8 := HU.out.1.bz
                clear hyes hT
                go_wp2_with (go_at_call 17; refine hrt.mono ?_; rintro _ w9 ⟨rfl, hb⟩; refine Hid.out ?_)
                refine Lib.hid ?_
                have HV := Lib.hid (And.intro (HU.out.1.below hb) (And.intro (HU.out.2.1.below hb HU.out.2.1.lt) (HU.out.2.2.below hb)))
                clear hb hrt HU d0 d1 d2 d3 d4 d5
                by_cases hte : T = line
                · have h1 : (T.toList == line.toList) = true := by rw [hte]; simp
                  have HTE := Lib.hid hte
                  clear hte
                  go_wp2_with (first
                    | ((with_reducible (show wpList _ _ _ ({ dst := _, op := Op.load 24 _, type := _, pos := _, after := _, guard := _ } :: _) _ _)); refine wpList_load_mid rfl 24 (.tmp 5) rfl B 0 rfl _ _ (Blk.rangeAt HV.out.2.1) Tryd.underlying24 rfl (by kernel_rfl) ?_)
                    | ((with_reducible (show wpList _ _ _ ({ dst := _, op := Op.store 24 _ _, type := _, pos := _, after := _, guard := _ } :: _) _ _)); refine wpList_store_mid rfl 24 (.tmp 2) (.tmp 117) rfl w.heap.size 0 (Op.arr ⟨9, 1, 0, 0, none, 0, 0, [], em⟩) rfl rfl (Blk.there HV.out.1.res rfl) info24 (arr_oneO _) ?_; refine Hid.out ?_))
                  refine Lib.hid ?_
                  have HOK := Lib.hid (setRes24 HV.out.2.2 HV.out.1.res ((Op.arr ⟨9, 1, 0, 0, none, 0, 0, [], em⟩)).toList)
                  obtain ⟨wq, hwq⟩ : ∃ W, w9.setCells w.heap.size 0 ((Op.arr ⟨9, 1, 0, 0, none, 0, 0, [], em⟩)).toList = W := ⟨_, rfl⟩
                  have HQ := Lib.hid (And.intro (Blk.setAll HV.out.1.res (cs' := (Op.arr ⟨9, 1, 0, 0, none, 0, 0, [], em⟩)) (by rfl)) (below_setCells ((Op.arr ⟨9, 1, 0, 0, none, 0, 0, [], em⟩)).toList 0 w9 HV.out.1.bel (Nat.le_refl _)))
                  rw [hwq] at HQ HOK ⊢
                  clear hwq
                  repeat go_step
                  (try simp only [Exit.then])
                  refine ret_ct (by rfl) (by rfl) (by rfl) (Blk.rangeAt HQ.out.1) Tryd.underlying24 (by rfl) (by kernel_rfl) ?_
                  exact ⟨PaR.yes ⟨9, 1, 0, 0, none, 0, 0, [], em⟩ HY.out.1 (HY.out.2.trans HTE.out) HOK.out, HQ.out.2⟩
                · have h1 : (T.toList == line.toList) = false := toList_ne hte
                  have HN := Lib.hid (show ∀ p, RP p → lineP p ≠ line from fun p h e => hte (by rw [← HY.out.2, ← HP.out p h e]; exact e))
                  clear hte
                  go_wp2_with ((with_reducible (show wpList _ _ _ ({ dst := _, op := Op.store 24 _ _, type := _, pos := _, after := _, guard := _ } :: _) _ _)); refine wpList_store_mid rfl 24 (.tmp 2) (.tmp 116) rfl w.heap.size 0 zO.arr rfl rfl (Blk.there HV.out.1.res rfl) info24 (arr_oneO _) ?_; refine Hid.out ?_)
                  refine Lib.hid ?_
                  obtain ⟨wq, hwq⟩ : ∃ W, w9.setCells w.heap.size 0 (zO.arr).toList = W := ⟨_, rfl⟩
                  have HQ := Lib.hid (And.intro (Blk.setAll HV.out.1.res (cs' := zO.arr) (by rfl)) (below_setCells (zO.arr).toList 0 w9 HV.out.1.bel (Nat.le_refl _)))
                  rw [hwq] at HQ ⊢
                  clear hwq
                  repeat go_step
                  (try simp only [Exit.then])
                  refine ret_ct (by rfl) (by rfl) (by rfl) (Blk.rangeAt HQ.out.1) Tryd.underlying24 (by rfl) (by kernel_rfl) ?_
                  exact ⟨PaR.no HN.out, HQ.out.2⟩
            have hq : (w1.toList == [115, 101, 114, 118, 101, 114]) = false := by
              have := toList_ne hsv; rwa [show svS.toList = [115, 101, 114, 118, 101, 114] by first | rfl | decide | simp [svS]] at this
            have HWC := Lib.hid (show whc (gw ws 1) = 0 by rw [HW.out.1]; unfold whc; rw [if_neg hsv])
            clear hsv
            have d0 : wr.cell? ⟨B, 0, none⟩ = some (.int .i64 9) := (HBK.out.cell 0).trans rfl
            have d1 : wr.cell? ⟨B, 1, none⟩ = some (.int .i64 0) := (HBK.out.cell 1).trans rfl
            have d2 : wr.cell? ⟨B, 2, none⟩ = some (.int .i64 0) := (HBK.out.cell 2).trans rfl
            have d3 : wr.cell? ⟨B, 3, none⟩ = some (.int .i64 0) := (HBK.out.cell 3).trans rfl
            have d4 : wr.cell? ⟨B, 4, none⟩ = some (.slice none 0 0) := (HBK.out.cell 4).trans rfl
            have d5 : wr.cell? ⟨B, 5, none⟩ = some (.string ⟨#[]⟩) := (HBK.out.cell 5).trans rfl
            have f1 := HBK.out.frozen 1
            have f2 := HBK.out.frozen 2
            have f3 := HBK.out.frozen 3
            have f4 := HBK.out.frozen 4
            have f5 := HBK.out.frozen 5
            have HT := Lib.hid (show RI w ws g1 B wr ∧ Blk wr B 24 (Op.arr ⟨9, 0, 0, 0, none, 0, 0, [], em⟩) ∧ OpOk wr ⟨9, 0, 0, 0, none, 0, 0, [], em⟩ from ⟨HRI.out, HBK.out, ⟨Bys.none_ _, Nat.le_refl _, by show 0 ≤ maxLen; decide, by simp only; omega, by simp only; omega, by simp only; omega, by simp only; omega, by simp only; omega, by simp only; omega, by simp only; omega, by simp only; omega, by show em.size ≤ maxLen; decide⟩⟩)
            have HP := Lib.hid (show ∀ p, RP p → lineP p = line → p = Op.p ⟨9, 0, 0, 0, none, 0, 0, [], em⟩ from fun p h e => (HCD.out p h e).trans (by show (⟨9, whc (gw ws 1), 0, 0, [], em⟩ : PO) = _; rw [HWC.out]; rfl))
            have hrr := refright_any ⟨9, 0, 0, 0, none, 0, 0, [], em⟩ _ HT.out.2.2
            unfold Op.v at hrr
            simp only at hrr
            go_wp2_with (first | (go_at_call 11; refine hrr.mono ?_; rintro _ w8 ⟨hri, hb⟩; refine Hid.out ?_))
            refine Lib.hid ?_
            have HU := Lib.hid (And.intro (HT.out.1.below hb) (And.intro (HT.out.2.1.below hb HT.out.2.1.lt) (HT.out.2.2.below hb)))
            clear hb hrr HT HBK HRI HW d0 d1 d2 d3 d4 d5 f1 f2 f3 f4 f5 e1 e2 e3
            cases hri with
            | no hno =>
              have HN := Lib.hid (show ∀ p, RP p → lineP p ≠ line from fun p h e => hno (by rw [← HP.out p h e]; exact h))
              clear hno HP
              go_wp2_with ((with_reducible (show wpList _ _ _ ({ dst := _, op := Op.store 24 _ _, type := _, pos := _, after := _, guard := _ } :: _) _ _)); refine wpList_store_mid rfl 24 (.tmp 2) (.tmp 116) rfl w.heap.size 0 zO.arr rfl rfl (Blk.there HU.out.1.res rfl) info24 (arr_oneO _) ?_; refine Hid.out ?_)
              refine Lib.hid ?_
              obtain ⟨wq, hwq⟩ : ∃ W, w8.setCells w.heap.size 0 (zO.arr).toList = W := ⟨_, rfl⟩
              have HQ := Lib.hid (And.intro (Blk.setAll HU.out.1.res (cs' := zO.arr) (by rfl)) (below_setCells (zO.arr).toList 0 w8 HU.out.1.bel (Nat.le_refl _)))
              rw [hwq] at HQ ⊢
              clear hwq
              repeat go_step
              (try simp only [Exit.then])
              refine ret_ct (by rfl) (by rfl) (by rfl) (Blk.rangeAt HQ.out.1) Tryd.underlying24 (by rfl) (by kernel_rfl) ?_
              exact ⟨PaR.no HN.out, HQ.out.2⟩
            | yes hyes =>
              have hrt := rtext_any ⟨9, 0, 0, 0, none, 0, 0, [], em⟩ w8 HU.out.2.2 hyes
              unfold Op.v at hrt
              simp only at hrt
              obtain ⟨T, hT⟩ : ∃ t, lineP (Op.p ⟨9, 0, 0, 0, none, 0, 0, [], em⟩) = t := ⟨_, rfl⟩
              rw [hT] at hrt
              have HY := Lib.hid (And.intro hyes hT)
              have d0 : w8.cell? ⟨B, 0, none⟩ = some (.int .i64 9) := (HU.out.2.1.cell 0).trans rfl
              have d1 : w8.cell? ⟨B, 1, none⟩ = some (.int .i64 0) := (HU.out.2.1.cell 1).trans rfl
              have d2 : w8.cell? ⟨B, 2, none⟩ = some (.int .i64 0) := (HU.out.2.1.cell 2).trans rfl
              have d3 : w8.cell? ⟨B, 3, none⟩ = some (.int .i64 0) := (HU.out.2.1.cell 3).trans rfl
              have d4 : w8.cell? ⟨B, 4, none⟩ = some (.slice none 0 0) := (HU.out.2.1.cell 4).trans rfl
              have d5 : w8.cell? ⟨B, 5, none⟩ = some (.string ⟨#[]⟩) := (HU.out.2.1.cell 5).trans rfl
              have hbz8 := HU.out.1.bz
              clear hyes hT
              go_wp2_with (go_at_call 17; refine hrt.mono ?_; rintro _ w9 ⟨rfl, hb⟩; refine Hid.out ?_)
              refine Lib.hid ?_
              have HV := Lib.hid (And.intro (HU.out.1.below hb) (And.intro (HU.out.2.1.below hb HU.out.2.1.lt) (HU.out.2.2.below hb)))
              clear hb hrt HU d0 d1 d2 d3 d4 d5
              by_cases hte : T = line
              · have h1 : (T.toList == line.toList) = true := by rw [hte]; simp
                have HTE := Lib.hid hte
                clear hte
                go_wp2_with (first
                  | ((with_reducible (show wpList _ _ _ ({ dst := _, op := Op.load 24 _, type := _, pos := _, after := _, guard := _ } :: _) _ _)); refine wpList_load_mid rfl 24 (.tmp 5) rfl B 0 rfl _ _ (Blk.rangeAt HV.out.2.1) Tryd.underlying24 rfl (by kernel_rfl) ?_)
                  | ((with_reducible (show wpList _ _ _ ({ dst := _, op := Op.store 24 _ _, type := _, pos := _, after := _, guard := _ } :: _) _ _)); refine wpList_store_mid rfl 24 (.tmp 2) (.tmp 117) rfl w.heap.size 0 (Op.arr ⟨9, 0, 0, 0, none, 0, 0, [], em⟩) rfl rfl (Blk.there HV.out.1.res rfl) info24 (arr_oneO _) ?_; refine Hid.out ?_))
                refine Lib.hid ?_
                have HOK := Lib.hid (setRes24 HV.out.2.2 HV.out.1.res ((Op.arr ⟨9, 0, 0, 0, none, 0, 0, [], em⟩)).toList)
                obtain ⟨wq, hwq⟩ : ∃ W, w9.setCells w.heap.size 0 ((Op.arr ⟨9, 0, 0, 0, none, 0, 0, [], em⟩)).toList = W := ⟨_, rfl⟩
                have HQ := Lib.hid (And.intro (Blk.setAll HV.out.1.res (cs' := (Op.arr ⟨9, 0, 0, 0, none, 0, 0, [], em⟩)) (by rfl)) (below_setCells ((Op.arr ⟨9, 0, 0, 0, none, 0, 0, [], em⟩)).toList 0 w9 HV.out.1.bel (Nat.le_refl _)))
                rw [hwq] at HQ HOK ⊢
                clear hwq
                repeat go_step
                (try simp only [Exit.then])
                refine ret_ct (by rfl) (by rfl) (by rfl) (Blk.rangeAt HQ.out.1) Tryd.underlying24 (by rfl) (by kernel_rfl) ?_
                exact ⟨PaR.yes ⟨9, 0, 0, 0, none, 0, 0, [], em⟩ HY.out.1 (HY.out.2.trans HTE.out) HOK.out, HQ.out.2⟩
              · have h1 : (T.toList == line.toList) = false := toList_ne hte
                have HN := Lib.hid (show ∀ p, RP p → lineP p ≠ line from fun p h e => hte (by rw [← HY.out.2, ← HP.out p h e]; exact e))
                clear hte
                go_wp2_with ((with_reducible (show wpList _ _ _ ({ dst := _, op := Op.store 24 _ _, type := _, pos := _, after := _, guard := _ } :: _) _ _)); refine wpList_store_mid rfl 24 (.tmp 2) (.tmp 116) rfl w.heap.size 0 zO.arr rfl rfl (Blk.there HV.out.1.res rfl) info24 (arr_oneO _) ?_; refine Hid.out ?_)
                refine Lib.hid ?_
                obtain ⟨wq, hwq⟩ : ∃ W, w9.setCells w.heap.size 0 (zO.arr).toList = W := ⟨_, rfl⟩
                have HQ := Lib.hid (And.intro (Blk.setAll HV.out.1.res (cs' := zO.arr) (by rfl)) (below_setCells (zO.arr).toList 0 w9 HV.out.1.bel (Nat.le_refl _)))
                rw [hwq] at HQ ⊢
                clear hwq
                repeat go_step
                (try simp only [Exit.then])
                refine ret_ct (by rfl) (by rfl) (by rfl) (Blk.rangeAt HQ.out.1) Tryd.underlying24 (by rfl) (by kernel_rfl) ?_
                exact ⟨PaR.no HN.out, HQ.out.2⟩
end Go.Proofs.YtbkgmeopdcealaaDoor
