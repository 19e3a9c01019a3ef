import Derived.Test.YtbkgmeopdcealaaDoorAll
import Derived.Test.YtbkgmeopdcealaaDoorFew
namespace Go.Proofs.YtbkgmeopdcealaaDoor
open Go.ChangeShapes Go.WideShapes Go.ChangeAt Go.RowKit Go.Sort Go.Deep
set_option linter.unusedVariables false
set_option linter.unusedSimpArgs false
def hiS : ByteArray := ⟨#[115, 101, 110, 100, 32, 99, 108, 105, 101, 110, 116, 32, 54, 56, 54, 57]⟩
def tickS : ByteArray := ⟨#[116, 105, 99, 107, 32, 51]⟩
def txtS : ByteArray := ⟨#[116, 105, 99, 107, 32, 51, 10, 10, 120]⟩
def xS : ByteArray := ⟨#[120]⟩
theorem hi_rp : RP ⟨1, 0, 0, 0, [104, 105], em⟩ := .send 0 [104, 105] (.inl rfl) ⟨by decide, by decide⟩
theorem hi_line : lineP ⟨1, 0, 0, 0, [104, 105], em⟩ = hiS := by decide +kernel
theorem tick_rp : RP ⟨2, 0, 3, 0, [], em⟩ := .num 2 3 (by decide) (by decide) (by decide)
theorem tick_line : lineP ⟨2, 0, 3, 0, [], em⟩ = tickS := by
  show joinS [ruleW 2, itS ((3 : Nat) : Int)] = tickS
  rw [itS_nat, ← decS_one 3 (by omega)]
  decide +kernel
theorem txt_cut : cutSL txtS = [tickS, em, xS] := by decide +kernel
theorem x_none : parseL xS = none := by
  have h : kdN (gw (cutS xS) 0) 9 = 0 := by decide +kernel
  unfold parseL
  rw [if_pos h]
theorem all_txt {w : World} {base : Nat} {e : Ending} {G : World → Op → Prop} (h : AlR G base (cutSL txtS) w e) : e = .returned (.tuple #[.slice none 0 0, .int .i64 2]) := by
  rw [txt_cut] at h
  have ht : parseL tickS ≠ none := by rw [(parseL_iff _ _).2 ⟨tick_rp, tick_line⟩]; simp
  cases h with
  | ok v os _ _ hm =>
    exfalso
    have hmem : xS ∈ full [tickS, em, xS] := by unfold full; rw [List.mem_filter]; exact ⟨by simp, by decide⟩
    have h1 : parseL xS ∈ (full [tickS, em, xS]).map parseL := List.mem_map_of_mem hmem
    rw [hm, x_none] at h1
    obtain ⟨o, _, h2⟩ := List.mem_map.1 h1
    cases h2
  | bad i x os hx he hp _ =>
    have hi : i < 3 := (List.getElem?_eq_some_iff.1 hx).1
    rcases (show i = 0 ∨ i = 1 ∨ i = 2 by omega) with rfl | rfl | rfl
    · exfalso
      simp only [List.getElem?_cons_zero, Option.some.injEq] at hx
      rw [← hx] at hp
      exact ht hp
    · exfalso
      simp only [List.getElem?_cons_succ, List.getElem?_cons_zero, Option.some.injEq] at hx
      exact he hx.symm
    · rfl
theorem zero_no : ¬ RP (Op.p ⟨0, 0, 0, 0, none, 0, 0, [], em⟩) := fun h => by have := (rp_kd h).1; exact absurd this (by decide)
theorem two_bys (w : World) (a b : Nat) (fr : Nat × Nat) (ha : a < 256) (hb : b < 256) : Bys (w.alloc (.cells #[.int .u8 (a : Int), .int .u8 (b : Int)] 5 fr)) (some ⟨w.heap.size, 0, none⟩) 2 [a, b] := by
  refine ⟨⟨rfl, fun _ => ⟨⟨w.heap.size, 0, none⟩, rfl, by rw [World.size_alloc]; exact Nat.lt_succ_self _, fun j u hu => ?_⟩⟩, ?_⟩
  · have hk := World.cell?_alloc_mark w #[.int .u8 (a : Int), .int .u8 (b : Int)] 5 fr j
    rw [add_none, Nat.zero_add, hk]
    have hj : j < 2 := by have := (List.getElem?_eq_some_iff.1 hu).1; simpa using this
    rcases (show j = 0 ∨ j = 1 by omega) with rfl | rfl <;> simpa using hu
  · intro x hx
    simp at hx
    rcases hx with rfl | rfl <;> assumption
set_option maxRecDepth 100000 in
set_option maxHeartbeats 2000000 in
theorem awake_any (w : World) (hT : Tab w) : Calls Tryd.prog 9 #[] w fun e w' => e = .returned (.bool true) ∧ Below w.heap.size w w' := by
  have hz := hT.sz
  have b1 : Below w.heap.size w (w.alloc (.cells #[.int .u8 104, .int .u8 105] 5 (2, 3))) := (Below.refl _ w).alloc (Nat.le_refl _) _
  have y1 := two_bys w 104 105 (2, 3) (by decide) (by decide)
  have b2 : Below (w.alloc (.cells #[.int .u8 104, .int .u8 105] 5 (2, 3))).heap.size (w.alloc (.cells #[.int .u8 104, .int .u8 105] 5 (2, 3))) ((w.alloc (.cells #[.int .u8 104, .int .u8 105] 5 (2, 3))).alloc (.cells #[.int .i64 1, .int .i64 0, .int .i64 0, .int .i64 0, .slice (some ⟨w.heap.size, 0, none⟩) 2 2, .string ⟨#[]⟩] 29)) := (Below.refl _ _).alloc (Nat.le_refl _) _
  have k2 := Blk.new (w.alloc (.cells #[.int .u8 104, .int .u8 105] 5 (2, 3))) 29 #[.int .i64 1, .int .i64 0, .int .i64 0, .int .i64 0, .slice (some ⟨w.heap.size, 0, none⟩) 2 2, .string ⟨#[]⟩]
  have bb : Below w.heap.size w ((w.alloc (.cells #[.int .u8 104, .int .u8 105] 5 (2, 3))).alloc (.cells #[.int .i64 1, .int .i64 0, .int .i64 0, .int .i64 0, .slice (some ⟨w.heap.size, 0, none⟩) 2 2, .string ⟨#[]⟩] 29)) := b1.trans (b2.mono b1.size)
  have ho : OpOk ((w.alloc (.cells #[.int .u8 104, .int .u8 105] 5 (2, 3))).alloc (.cells #[.int .i64 1, .int .i64 0, .int .i64 0, .int .i64 0, .slice (some ⟨w.heap.size, 0, none⟩) 2 2, .string ⟨#[]⟩] 29)) ⟨1, 0, 0, 0, some ⟨w.heap.size, 0, none⟩, 2, 2, [104, 105], em⟩ :=
    ⟨y1.below b2, Nat.le_refl _, by show 2 ≤ maxLen; unfold maxLen; omega, by simp only; omega, by simp only; omega, by simp only; omega, by simp only; omega, by simp only; omega, by simp only; omega, by simp only; omega, by simp only; omega, by show em.size ≤ maxLen; decide⟩
  have ht := text_any _ _ (hT.below bb) ho (by show 2 ≤ 2500; omega) (by show em.size ≤ 5000; decide)
  rw [World.size_alloc] at k2
  have ht2 := ht.mono (R' := fun e w' => e = .returned (.tuple #[.string hiS, .bool true]) ∧ Below ((w.alloc (.cells #[.int .u8 104, .int .u8 105] 5 (2, 3))).alloc (.cells #[.int .i64 1, .int .i64 0, .int .i64 0, .int .i64 0, .slice (some ⟨w.heap.size, 0, none⟩) 2 2, .string ⟨#[]⟩] 29)).heap.size ((w.alloc (.cells #[.int .u8 104, .int .u8 105] 5 (2, 3))).alloc (.cells #[.int .i64 1, .int .i64 0, .int .i64 0, .int .i64 0, .slice (some ⟨w.heap.size, 0, none⟩) 2 2, .string ⟨#[]⟩] 29)) w') (fun e w' ⟨h1, h2⟩ => ⟨by
    have hl : lineP (Op.p ⟨1, 0, 0, 0, some ⟨w.heap.size, 0, none⟩, 2, 2, [104, 105], em⟩) = hiS := hi_line
    cases h1 with
    | yes _ => rw [hl]
    | no h => exact absurd hi_rp h, h2⟩)
  have H2 := Lib.hid (And.intro bb (And.intro k2 (And.intro ho (hT.below bb))))
  unfold Op.v at ht2
  simp only at ht2
  rw [show em = (⟨#[]⟩ : ByteArray) from rfl] at ht2
  clear b1 y1 b2 bb ho ht k2 hT
  unfold hiS at ht2
  have kc := fun (w : World) (C : Array Value) (n c : Nat) => Lib.run_convert_bytes_const (P := Tryd.prog) w 22 5 C n c Tryd.underlying22 Tryd.underlying5
  go_enter Tryd.func9, Tryd.ntmps9
  go_wp2_with (go_at_call 12; refine ht2.mono ?_; rintro _ w3 ⟨rfl, hb⟩; refine Hid.out ?_)
  refine Lib.hid ?_
  have H3 := Lib.hid (show Below w.heap.size w w3 ∧ Blk w3 (w.heap.size + 1) 29 #[.int .i64 1, .int .i64 0, .int .i64 0, .int .i64 0, .slice (some ⟨w.heap.size, 0, none⟩) 2 2, .string ⟨#[]⟩] ∧ OpOk w3 ⟨1, 0, 0, 0, some ⟨w.heap.size, 0, none⟩, 2, 2, [104, 105], em⟩ ∧ Tab w3 from ⟨H2.out.1.trans (hb.mono H2.out.1.size), H2.out.2.1.below hb H2.out.2.1.lt, H2.out.2.2.1.below hb, H2.out.2.2.2.below hb⟩)
  clear hb ht2 H2 kc
  have hp := parse_any hiS w3 H3.out.2.2.2 (by decide)
  unfold hiS at hp
  go_wp2_with (go_at_call 16; refine hp.mono ?_; rintro _ w4 ⟨hpr, hb⟩; refine Hid.out ?_)
  refine Lib.hid ?_
  have H4 := Lib.hid (show Below w.heap.size w w4 ∧ Blk w4 (w.heap.size + 1) 29 #[.int .i64 1, .int .i64 0, .int .i64 0, .int .i64 0, .slice (some ⟨w.heap.size, 0, none⟩) 2 2, .string ⟨#[]⟩] ∧ OpOk w4 ⟨1, 0, 0, 0, some ⟨w.heap.size, 0, none⟩, 2, 2, [104, 105], em⟩ ∧ Tab w4 from ⟨H3.out.1.trans (hb.mono H3.out.1.size), H3.out.2.1.below hb H3.out.2.1.lt, H3.out.2.2.1.below hb, H3.out.2.2.2.below hb⟩)
  clear hb hp H3
  cases hpr with
  | no hno => exact absurd hi_line (hno _ hi_rp)
  | yes o' hr hl hok =>
    have hpe : o'.p = ⟨1, 0, 0, 0, [104, 105], em⟩ := line_inj hr hi_rp (hl.trans hi_line.symm)
    have HOP := Lib.hid (And.intro hpe hok)
    clear hr hl hpe hok
    obtain ⟨Y, hY⟩ : ∃ y, o' = y := ⟨_, rfl⟩
    have HY := Lib.hid hY
    rw [hY] at HOP
    have hYa : Y.arr = #[.int .i64 o'.kd, .int .i64 o'.wh, .int .i64 o'.nn, .int .i64 o'.mm, .slice o'.A o'.n o'.c, .string o'.ad] := by rw [← hY]; rfl
    have HYA := Lib.hid hYa
    clear hY hYa
    have b5 : Below w4.heap.size w4 (w4.alloc (.cells Y.arr 29)) := (Below.refl _ w4).alloc (Nat.le_refl _) _
    have k5 := Blk.new w4 29 Y.arr
    rw [HYA.out] at b5 k5
    obtain ⟨k', wh', nn', mm', A', n', c', bs', ad'⟩ := o'
    unfold Op.v
    simp only at HYA b5 k5 ⊢
    have H5 := Lib.hid (And.intro (H4.out.1.trans (b5.mono H4.out.1.size)) (And.intro (H4.out.2.1.below b5 H4.out.2.1.lt) (And.intro (H4.out.2.2.1.below b5) (And.intro (H4.out.2.2.2.below b5) (And.intro (HOP.out.2.below b5) k5)))))
    have ha := all_weak txtS _ (H4.out.2.2.2.below b5) (by decide)
    have ha2 := ha.mono (fun e w' h => And.intro (all_txt h.1) h.2)
    clear b5 k5 ha H4
    unfold txtS at ha2
    go_wp2_with (go_at_call 19; refine ha2.mono ?_; rintro _ w6 ⟨rfl, hb⟩; refine Hid.out ?_)
    refine Lib.hid ?_
    have H6 := Lib.hid (And.intro (H5.out.1.trans (hb.mono H5.out.1.size)) (And.intro (H5.out.2.1.below hb H5.out.2.1.lt) (And.intro (H5.out.2.2.1.below hb) (And.intro (H5.out.2.2.2.1.below hb) (And.intro (H5.out.2.2.2.2.1.below hb) (H5.out.2.2.2.2.2.below hb H5.out.2.2.2.2.2.lt))))))
    clear hb ha2 H5
    have hu := unhex_any ⟨#[48, 97, 102, 102]⟩ w6 (by decide)
    have hue : unhexS ⟨#[48, 97, 102, 102]⟩ = some [10, 255] := by decide +kernel
    rw [hue] at hu
    go_wp2_with (go_at_call 22; refine hu.mono ?_; rintro _ w7 ⟨⟨v, rfl, hown⟩, hb⟩; refine Hid.out ?_)
    refine Lib.hid ?_
    obtain ⟨A7, c7, rfl⟩ := own_form hown
    have HY7 := Lib.hid (Bys.of_own hown (by decide))
    have hc7 : c7 ≤ maxLen := by
      rcases hown.2 with ⟨e, e2⟩ | ⟨g, cap, cur, e, _, _, h1, h2, _⟩
      · injection e with _ _ e3; rw [e3]; unfold maxLen; omega
      · injection e with _ _ e3; rw [e3]; exact h2
    have H7 := Lib.hid (And.intro (H6.out.1.trans (hb.mono H6.out.1.size)) (And.intro (H6.out.2.1.below hb H6.out.2.1.lt) (And.intro (H6.out.2.2.1.below hb) (And.intro (H6.out.2.2.2.1.below hb) (And.intro (H6.out.2.2.2.2.1.below hb) (H6.out.2.2.2.2.2.below hb H6.out.2.2.2.2.2.lt))))))
    clear hb hu hown H6 hue
    have d0 : w7.cell? ⟨w.heap.size + 1, 0, none⟩ = some (.int .i64 1) := (H7.out.2.1.cell 0).trans rfl
    have d1 : w7.cell? ⟨w.heap.size + 1, 1, none⟩ = some (.int .i64 0) := (H7.out.2.1.cell 1).trans rfl
    have d2 : w7.cell? ⟨w.heap.size + 1, 2, none⟩ = some (.int .i64 0) := (H7.out.2.1.cell 2).trans rfl
    have d3 : w7.cell? ⟨w.heap.size + 1, 3, none⟩ = some (.int .i64 0) := (H7.out.2.1.cell 3).trans rfl
    have d4 : w7.cell? ⟨w.heap.size + 1, 4, none⟩ = some (.slice (some ⟨w.heap.size, 0, none⟩) 2 2) := (H7.out.2.1.cell 4).trans rfl
    have d5 : w7.cell? ⟨w.heap.size + 1, 5, none⟩ = some (.string ⟨#[]⟩) := (H7.out.2.1.cell 5).trans rfl
    have e0 : w7.cell? ⟨w4.heap.size, 0, none⟩ = some (.int .i64 k') := (H7.out.2.2.2.2.2.cell 0).trans rfl
    have e1 : w7.cell? ⟨w4.heap.size, 1, none⟩ = some (.int .i64 wh') := (H7.out.2.2.2.2.2.cell 1).trans rfl
    have e2 : w7.cell? ⟨w4.heap.size, 2, none⟩ = some (.int .i64 nn') := (H7.out.2.2.2.2.2.cell 2).trans rfl
    have e3 : w7.cell? ⟨w4.heap.size, 3, none⟩ = some (.int .i64 mm') := (H7.out.2.2.2.2.2.cell 3).trans rfl
    have e4 : w7.cell? ⟨w4.heap.size, 4, none⟩ = some (.slice A' n' c') := (H7.out.2.2.2.2.2.cell 4).trans rfl
    have e5 : w7.cell? ⟨w4.heap.size, 5, none⟩ = some (.string ad') := (H7.out.2.2.2.2.2.cell 5).trans rfl
    have hs := sameo_any Y ⟨1, 0, 0, 0, some ⟨w.heap.size, 0, none⟩, 2, 2, [104, 105], em⟩ w7 H7.out.2.2.2.2.1 H7.out.2.2.1
    have hq : opEq Y ⟨1, 0, 0, 0, some ⟨w.heap.size, 0, none⟩, 2, 2, [104, 105], em⟩ = true := (opEq_iff _ _).2 (HOP.out.1.trans rfl)
    have hYv : Y.v = .agg #[.int .i64 k', .int .i64 wh', .int .i64 nn', .int .i64 mm', .slice A' n' c', .string ad'] := by rw [← HY.out]; rfl
    rw [hq, hYv] at hs
    unfold Op.v at hs
    simp only at hs
    rw [show em = (⟨#[]⟩ : ByteArray) from rfl] at hs
    have hlt1 := H7.out.2.1.lt
    have hlt4 := H7.out.2.2.2.2.2.lt
    clear hq hYv
    go_wp2_with (go_at_call 14; refine hs.mono ?_; rintro _ w8 ⟨rfl, hb⟩; refine Hid.out ?_)
    refine Lib.hid ?_
    have H8 := Lib.hid (And.intro (H7.out.1.trans (hb.mono H7.out.1.size)) (And.intro (H7.out.2.1.below hb H7.out.2.1.lt) (And.intro (H7.out.2.2.1.below hb) (And.intro (H7.out.2.2.2.1.below hb) (HY7.out.below hb)))))
    clear hb hs H7 HY7 d0 d1 d2 d3 d4 d5 e0 e1 e2 e3 e4 e5 hlt1 hlt4
    have hx := hex_any none 0 0 [] w8 (Bys.none_ _) (by omega)
    rw [show hexS [] = (⟨#[45]⟩ : ByteArray) from rfl] at hx
    go_wp2_with (go_at_call 21; refine hx.mono ?_; rintro _ w9 ⟨rfl, hb⟩; refine Hid.out ?_)
    refine Lib.hid ?_
    have b9 : Below w9.heap.size w9 (w9.alloc (.cells #[.int .u8 10, .int .u8 255] 5)) := (Below.refl _ w9).alloc (Nat.le_refl _) _
    have y9 := two_bys w9 10 255 (0, 0) (by decide) (by decide)
    have H9 := Lib.hid (show Below w.heap.size w (w9.alloc (.cells #[.int .u8 10, .int .u8 255] 5)) ∧ Blk (w9.alloc (.cells #[.int .u8 10, .int .u8 255] 5)) (w.heap.size + 1) 29 #[.int .i64 1, .int .i64 0, .int .i64 0, .int .i64 0, .slice (some ⟨w.heap.size, 0, none⟩) 2 2, .string ⟨#[]⟩] ∧ OpOk (w9.alloc (.cells #[.int .u8 10, .int .u8 255] 5)) ⟨1, 0, 0, 0, some ⟨w.heap.size, 0, none⟩, 2, 2, [104, 105], em⟩ ∧ Tab (w9.alloc (.cells #[.int .u8 10, .int .u8 255] 5)) from
      ⟨(H8.out.1.trans (hb.mono H8.out.1.size)).trans (b9.mono (H8.out.1.trans (hb.mono H8.out.1.size)).size), (H8.out.2.1.below hb H8.out.2.1.lt).alloc _, (H8.out.2.2.1.below hb).below b9, (H8.out.2.2.2.1.below hb).below b9⟩)
    have hs := same_any A7 (some ⟨w9.heap.size, 0, none⟩) 2 c7 2 2 [10, 255] [10, 255] _ ((H8.out.2.2.2.2.below hb).below b9) y9 (by unfold maxLen; omega) (by unfold maxLen; omega)
    rw [decide_eq_true rfl] at hs
    clear b9 y9 hb hx H8
    go_wp2_with (go_at_call 25; refine hs.mono ?_; rintro _ w10 ⟨rfl, k10, rfl⟩; refine Hid.out ?_)
    refine Lib.hid ?_
    have hb : Below (w9.alloc (.cells #[.int .u8 10, .int .u8 255] 5)).heap.size (w9.alloc (.cells #[.int .u8 10, .int .u8 255] 5)) ((w9.alloc (.cells #[.int .u8 10, .int .u8 255] 5)).drewN k10) := below_drewN (Below.refl _ _) k10
    have H10 := Lib.hid (And.intro (H9.out.1.trans (hb.mono H9.out.1.size)) (And.intro (H9.out.2.1.below hb H9.out.2.1.lt) (And.intro (H9.out.2.2.1.below hb) (H9.out.2.2.2.below hb))))
    obtain ⟨W10, hW10⟩ : ∃ W, (w9.alloc (.cells #[.int .u8 10, .int .u8 255] 5)).drewN k10 = W := ⟨_, rfl⟩
    rw [hW10] at H10 ⊢
    clear hb hs H9 hW10
    have d0 : W10.cell? ⟨w.heap.size + 1, 0, none⟩ = some (.int .i64 1) := (H10.out.2.1.cell 0).trans rfl
    have d1 : W10.cell? ⟨w.heap.size + 1, 1, none⟩ = some (.int .i64 0) := (H10.out.2.1.cell 1).trans rfl
    have d2 : W10.cell? ⟨w.heap.size + 1, 2, none⟩ = some (.int .i64 0) := (H10.out.2.1.cell 2).trans rfl
    have d3 : W10.cell? ⟨w.heap.size + 1, 3, none⟩ = some (.int .i64 0) := (H10.out.2.1.cell 3).trans rfl
    have d4 : W10.cell? ⟨w.heap.size + 1, 4, none⟩ = some (.slice (some ⟨w.heap.size, 0, none⟩) 2 2) := (H10.out.2.1.cell 4).trans rfl
    have d5 : W10.cell? ⟨w.heap.size + 1, 5, none⟩ = some (.string ⟨#[]⟩) := (H10.out.2.1.cell 5).trans rfl
    have hr := right_op ⟨1, 0, 0, 0, some ⟨w.heap.size, 0, none⟩, 2, 2, [104, 105], em⟩ W10 H10.out.2.2.2 H10.out.2.2.1 (by show 2 ≤ 2500; omega) (by show em.size ≤ 5000; decide)
    have hr2 := hr.mono (R' := fun e w' => e = .returned (.bool true) ∧ Below W10.heap.size W10 w') (fun e w' ⟨h1, h2⟩ => ⟨by
      cases h1 with
      | yes _ => rfl
      | no h => exact absurd hi_rp h, h2⟩)
    unfold Op.v at hr2
    simp only at hr2
    rw [show em = (⟨#[]⟩ : ByteArray) from rfl] at hr2
    have hlt1 := H10.out.2.1.lt
    clear hr
    go_wp2_with (go_at_call 15; refine hr2.mono ?_; rintro _ w11 ⟨rfl, hb⟩; refine Hid.out ?_)
    refine Lib.hid ?_
    have H11 := Lib.hid (And.intro (H10.out.1.trans (hb.mono H10.out.1.size)) (H10.out.2.2.2.below hb))
    clear hb hr2 H10 d0 d1 d2 d3 d4 d5 hlt1
    have hr := right_op zO w11 H11.out.2 (o0_ok w11 0 (by omega)) (by show 0 ≤ 2500; omega) (by show em.size ≤ 5000; decide)
    have hr2 := hr.mono (R' := fun e w' => e = .returned (.bool false) ∧ Below w11.heap.size w11 w') (fun e w' ⟨h1, h2⟩ => ⟨by
      cases h1 with
      | yes h => exact absurd h zero_no
      | no h => rfl, h2⟩)
    rw [show zO.v = .agg #[.int .i64 0, .int .i64 0, .int .i64 0, .int .i64 0, .slice none 0 0, .string ⟨#[]⟩] from rfl] at hr2
    clear hr
    go_wp2_with (go_at_call 15; refine hr2.mono ?_; rintro _ w12 ⟨rfl, hb⟩; refine Hid.out ?_)
    refine Lib.hid ?_
    have HB := Lib.hid (H11.out.1.trans (hb.mono H11.out.1.size))
    clear hb hr2
    go_wp2_with fail
    all_goals go_ret
    exact ⟨by first | rfl | simp, HB.out⟩
end Go.Proofs.YtbkgmeopdcealaaDoor
