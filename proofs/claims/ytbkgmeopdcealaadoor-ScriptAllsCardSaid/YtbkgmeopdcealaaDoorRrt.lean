import Derived.Test.YtbkgmeopdcealaaDoorTxt
namespace Go.Proofs.YtbkgmeopdcealaaDoor
open Go.ChangeShapes Go.WideShapes Go.ChangeAt Go.RowKit Go.Sort Go.Deep
set_option linter.unusedVariables false
set_option linter.unusedSimpArgs false
/-- What a test for rightness answers. -/
inductive RiR (p : PO) : Ending → Prop
  | yes : RP p → RiR p (.returned (.bool true))
  | no : ¬ RP p → RiR p (.returned (.bool false))
def zP (p : PO) : PO :=
  if p.kd = 1 then ⟨p.kd, p.wh, 0, 0, p.bs, em⟩ else if p.kd = 6 then ⟨p.kd, 0, p.nn, p.mm, [], em⟩ else if p.kd = 7 then ⟨p.kd, p.wh, 0, 0, p.bs, p.ad⟩ else
  if p.kd = 8 then ⟨p.kd, 0, 0, 0, [], p.ad⟩ else if p.kd = 9 then ⟨p.kd, p.wh, 0, 0, [], em⟩ else ⟨p.kd, 0, p.nn, 0, [], em⟩
structure RPs (p : PO) : Prop where
  k1 : 1 ≤ p.kd
  k9 : p.kd ≤ 9
  z : p = zP p
  w : p.wh = 0 ∨ p.wh = 1
  n0 : 0 ≤ p.nn
  n1 : p.nn ≤ 999 ∨ (p.kd = 2 ∧ p.nn ≤ 1048576)
  m0 : 0 ≤ p.mm
  m1 : p.mm ≤ 999
  b : BodyOk p.bs
  a : p.kd = 7 ∨ p.kd = 8 → rightS p.ad = true
theorem body_nil : BodyOk [] := ⟨by simp, by simp⟩
theorem rp_s {p : PO} (h : RP p) : RPs p := by
  cases h with
  | send x bs hx hb => exact ⟨by first | (simp only; omega) | simp, by first | (simp only; omega) | simp, rfl, hx, by first | (simp only; omega) | simp, .inl (by first | (simp only; omega) | simp), by first | (simp only; omega) | simp, by first | (simp only; omega) | simp, hb, by rintro (h | h) <;> cases h⟩
  | num k n h2 h5 hn =>
    refine ⟨by simp only; omega, by simp only; omega, ?_, .inl rfl, by simp only; omega, ?_, by first | (simp only; omega) | simp, by first | (simp only; omega) | simp, body_nil, by rintro (h | h) <;> (simp only at h; omega)⟩
    · rcases (show k = 2 ∨ k = 3 ∨ k = 4 ∨ k = 5 by omega) with rfl | rfl | rfl | rfl <;> rfl
    · unfold most at hn
      split at hn
      · right; simp only; omega
      · left; simp only; omega
  | swap n m hn hm => exact ⟨by first | (simp only; omega) | simp, by first | (simp only; omega) | simp, rfl, .inl rfl, by simp only; omega, .inl (by simp only; omega), by simp only; omega, by simp only; omega, body_nil, by rintro (h | h) <;> cases h⟩
  | inject x bs ad hx hb ha => exact ⟨by first | (simp only; omega) | simp, by first | (simp only; omega) | simp, rfl, hx, by first | (simp only; omega) | simp, .inl (by first | (simp only; omega) | simp), by first | (simp only; omega) | simp, by first | (simp only; omega) | simp, hb, fun _ => ha⟩
  | move ad ha => exact ⟨by first | (simp only; omega) | simp, by first | (simp only; omega) | simp, rfl, .inl rfl, by first | (simp only; omega) | simp, .inl (by first | (simp only; omega) | simp), by first | (simp only; omega) | simp, by first | (simp only; omega) | simp, body_nil, fun _ => ha⟩
  | close x hx => exact ⟨by first | (simp only; omega) | simp, by first | (simp only; omega) | simp, rfl, hx, by first | (simp only; omega) | simp, .inl (by first | (simp only; omega) | simp), by first | (simp only; omega) | simp, by first | (simp only; omega) | simp, body_nil, by rintro (h | h) <;> cases h⟩
theorem rp_num {k : Nat} {x : Int} (h2 : 2 ≤ k) (h5 : k ≤ 5) (h0 : 0 ≤ x) (h1 : x ≤ (most k : Nat)) : RP ⟨(k : Int), 0, x, 0, [], em⟩ := by
  obtain ⟨n, rfl⟩ : ∃ n : Nat, x = (n : Int) := ⟨x.toNat, by omega⟩
  exact .num k n h2 h5 (by omega)
theorem rp_swap {x y : Int} (h0 : 0 ≤ x) (h1 : x ≤ 999) (g0 : 0 ≤ y) (g1 : y ≤ 999) : RP ⟨6, 0, x, y, [], em⟩ := by
  obtain ⟨n, rfl⟩ : ∃ n : Nat, x = (n : Int) := ⟨x.toNat, by omega⟩
  obtain ⟨m, rfl⟩ : ∃ n : Nat, y = (n : Int) := ⟨y.toNat, by omega⟩
  exact .swap n m (by omega) (by omega)
set_option maxRecDepth 100000 in
set_option maxHeartbeats 2000000 in
theorem rright_1 (wh nn mm : Int) (A : Option Addr) (n c : Nat) (bs : List Nat) (ad : ByteArray) (w : World) (hO : OpOk w ⟨1, wh, nn, mm, A, n, c, bs, ad⟩) :
    Calls Tryd.prog 11 #[.agg #[.int .i64 1, .int .i64 wh, .int .i64 nn, .int .i64 mm, .slice A n c, .string ad]] w fun e w' => RiR ⟨1, wh, nn, mm, bs, ad⟩ e ∧ Below w.heap.size w w' := by
  have b2 : Below w.heap.size w ((w.alloc (.cells #[.int .i64 1, .int .i64 wh, .int .i64 nn, .int .i64 mm, .slice A n c, .string ad] 24)).alloc (.cells (Op.arr ⟨1, wh, 0, 0, A, n, c, bs, em⟩) 24)) := ((Below.refl _ w).alloc (Nat.le_refl _) _).alloc (by simp) _
  have kx := (Blk.new w 24 #[.int .i64 1, .int .i64 wh, .int .i64 nn, .int .i64 mm, .slice A n c, .string ad]).alloc (.cells (Op.arr ⟨1, wh, 0, 0, A, n, c, bs, em⟩) 24)
  have hO2 := hO.below b2
  have hbl := hO.y.len
  have hb256 := hO.y.2
  have hok : OpOk ((w.alloc (.cells #[.int .i64 1, .int .i64 wh, .int .i64 nn, .int .i64 mm, .slice A n c, .string ad] 24)).alloc (.cells (Op.arr ⟨1, wh, 0, 0, A, n, c, bs, em⟩) 24)) ⟨1, wh, 0, 0, A, n, c, bs, em⟩ :=
    ⟨hO2.y, hO2.c0, hO2.c1, hO2.k0, hO2.k1, hO2.w0, hO2.w1, by simp only; omega, by simp only; omega, by simp only; omega, by simp only; omega, by show em.size ≤ maxLen; decide⟩
  have he := rsameo_any ⟨1, wh, nn, mm, A, n, c, bs, ad⟩ ⟨1, wh, 0, 0, A, n, c, bs, em⟩ _ hO2 hok
  have HE := Lib.hid (opEq_iff ⟨1, wh, nn, mm, A, n, c, bs, ad⟩ ⟨1, wh, 0, 0, A, n, c, bs, em⟩)
  obtain ⟨q, hq⟩ : ∃ q, opEq ⟨1, wh, nn, mm, A, n, c, bs, ad⟩ ⟨1, wh, 0, 0, A, n, c, bs, em⟩ = q := ⟨_, rfl⟩
  rw [hq] at he HE
  have hsz : ad.size ≤ maxLen := hO.a1
  have HBK := Lib.hid (And.intro b2 kx)
  unfold Op.v at he
  unfold Op.arr at he HBK
  try rw [show em = (⟨#[]⟩ : ByteArray) from rfl] at he
  try rw [show em = (⟨#[]⟩ : ByteArray) from rfl] at HBK
  simp only at he HBK
  unfold Op.p at HE
  simp only at HE
  have hnn : n ≤ c ∧ c ≤ maxLen := ⟨hO.c0, hO.c1⟩
  have HB256 := Lib.hid (And.intro hbl hb256)
  have hn63 : (n : Int) ≤ 9223372036854775807 := by unfold maxLen at hnn; omega
  clear b2 kx hO2 hok hO hq hb256 hnn hbl
  go_enter Tryd.func11, Tryd.ntmps11
  go_wp2_with (go_at_call 13; refine he.mono ?_; rintro _ w2 ⟨rfl, hb⟩; refine Hid.out ?_)
  refine Lib.hid ?_
  have HB := Lib.hid (HBK.out.1.trans (hb.mono HBK.out.1.size))
  have K2 := HBK.out.2.below hb HBK.out.2.lt
  have d1 : w2.cell? ⟨w.heap.size, 1, none⟩ = some (.int .i64 wh) := (K2.cell 1).trans rfl
  have d2 : w2.cell? ⟨w.heap.size, 2, none⟩ = some (.int .i64 nn) := (K2.cell 2).trans rfl
  have d3 : w2.cell? ⟨w.heap.size, 3, none⟩ = some (.int .i64 mm) := (K2.cell 3).trans rfl
  have d4 : w2.cell? ⟨w.heap.size, 4, none⟩ = some (.slice A n c) := (K2.cell 4).trans rfl
  have hlt2 := K2.lt
  clear hb he K2 HBK
  cases q with
  | false =>
    have HN := Lib.hid (show ¬ RP ⟨1, wh, nn, mm, bs, ad⟩ from fun h => by have := HE.out.2 (rp_s h).z; cases this)
    go_wp2_with fail
    all_goals go_ret
    exact ⟨RiR.no HN.out, HB.out⟩
  | true =>
    have hzz := HE.out.1 rfl
    injection hzz with _ g1 g2 g3 g4 g5
    subst g2
    subst g3
    subst g5
    clear HE g1 g4
    by_cases hw0 : wh = 0
    · subst hw0
      by_cases tb : (n : Int) ≤ 1300
      · have HL := Lib.hid (show RP ⟨1, 0, 0, 0, bs, em⟩ from RP.send _ _ (by simp) ⟨by have := HB256.out.1; omega, HB256.out.2⟩)
        clear HB256
        go_wp2_with fail
        all_goals go_ret
        exact ⟨RiR.yes HL.out, HB.out⟩
      have HL := Lib.hid (show ¬ RP ⟨1, 0, 0, 0, bs, em⟩ from fun h => by have h1 := (rp_s h).b.1; have h2 := HB256.out.1; simp only at h1; omega)
      clear HB256
      go_wp2_with fail
      all_goals go_ret
      exact ⟨RiR.no HL.out, HB.out⟩
    by_cases hw1 : wh = 1
    · subst hw1
      by_cases tb : (n : Int) ≤ 1300
      · have HL := Lib.hid (show RP ⟨1, 1, 0, 0, bs, em⟩ from RP.send _ _ (by simp) ⟨by have := HB256.out.1; omega, HB256.out.2⟩)
        clear HB256
        go_wp2_with fail
        all_goals go_ret
        exact ⟨RiR.yes HL.out, HB.out⟩
      have HL := Lib.hid (show ¬ RP ⟨1, 1, 0, 0, bs, em⟩ from fun h => by have h1 := (rp_s h).b.1; have h2 := HB256.out.1; simp only at h1; omega)
      clear HB256
      go_wp2_with fail
      all_goals go_ret
      exact ⟨RiR.no HL.out, HB.out⟩
    have hq0 : (wh == 0) = false := by simp [hw0]
    have hq1 : (wh == 1) = false := by simp [hw1]
    have HL := Lib.hid (show ¬ RP ⟨1, wh, 0, 0, bs, em⟩ from fun h => by have := (rp_s h).w; simp only at this; omega)
    clear HB256
    go_wp2_with fail
    all_goals go_ret
    exact ⟨RiR.no HL.out, HB.out⟩
set_option maxRecDepth 100000 in
set_option maxHeartbeats 2000000 in
theorem rright_2 (wh nn mm : Int) (A : Option Addr) (n c : Nat) (bs : List Nat) (ad : ByteArray) (w : World) (hO : OpOk w ⟨2, wh, nn, mm, A, n, c, bs, ad⟩) :
    Calls Tryd.prog 11 #[.agg #[.int .i64 2, .int .i64 wh, .int .i64 nn, .int .i64 mm, .slice A n c, .string ad]] w fun e w' => RiR ⟨2, wh, nn, mm, bs, ad⟩ e ∧ Below w.heap.size w w' := by
  have b2 : Below w.heap.size w ((w.alloc (.cells #[.int .i64 2, .int .i64 wh, .int .i64 nn, .int .i64 mm, .slice A n c, .string ad] 24)).alloc (.cells (Op.arr ⟨2, 0, nn, 0, none, 0, 0, [], em⟩) 24)) := ((Below.refl _ w).alloc (Nat.le_refl _) _).alloc (by simp) _
  have kx := (Blk.new w 24 #[.int .i64 2, .int .i64 wh, .int .i64 nn, .int .i64 mm, .slice A n c, .string ad]).alloc (.cells (Op.arr ⟨2, 0, nn, 0, none, 0, 0, [], em⟩) 24)
  have hO2 := hO.below b2
  have hbl := hO.y.len
  have hb256 := hO.y.2
  have hok : OpOk ((w.alloc (.cells #[.int .i64 2, .int .i64 wh, .int .i64 nn, .int .i64 mm, .slice A n c, .string ad] 24)).alloc (.cells (Op.arr ⟨2, 0, nn, 0, none, 0, 0, [], em⟩) 24)) ⟨2, 0, nn, 0, none, 0, 0, [], em⟩ :=
    ⟨Bys.none_ _, Nat.le_refl _, by show 0 ≤ maxLen; decide, hO2.k0, hO2.k1, by simp only; omega, by simp only; omega, hO2.n0, hO2.n1, by simp only; omega, by simp only; omega, by show em.size ≤ maxLen; decide⟩
  have he := rsameo_any ⟨2, wh, nn, mm, A, n, c, bs, ad⟩ ⟨2, 0, nn, 0, none, 0, 0, [], em⟩ _ hO2 hok
  have HE := Lib.hid (opEq_iff ⟨2, wh, nn, mm, A, n, c, bs, ad⟩ ⟨2, 0, nn, 0, none, 0, 0, [], em⟩)
  obtain ⟨q, hq⟩ : ∃ q, opEq ⟨2, wh, nn, mm, A, n, c, bs, ad⟩ ⟨2, 0, nn, 0, none, 0, 0, [], em⟩ = q := ⟨_, rfl⟩
  rw [hq] at he HE
  have hsz : ad.size ≤ maxLen := hO.a1
  have HBK := Lib.hid (And.intro b2 kx)
  unfold Op.v at he
  unfold Op.arr at he HBK
  try rw [show em = (⟨#[]⟩ : ByteArray) from rfl] at he
  try rw [show em = (⟨#[]⟩ : ByteArray) from rfl] at HBK
  simp only at he HBK
  unfold Op.p at HE
  simp only at HE
  have hnn : n ≤ c ∧ c ≤ maxLen := ⟨hO.c0, hO.c1⟩
  have HB256 := Lib.hid (And.intro hbl hb256)
  have hn63 : (n : Int) ≤ 9223372036854775807 := by unfold maxLen at hnn; omega
  clear b2 kx hO2 hok hO hq hb256 hnn hbl
  go_enter Tryd.func11, Tryd.ntmps11
  go_wp2_with (go_at_call 13; refine he.mono ?_; rintro _ w2 ⟨rfl, hb⟩; refine Hid.out ?_)
  refine Lib.hid ?_
  have HB := Lib.hid (HBK.out.1.trans (hb.mono HBK.out.1.size))
  have K2 := HBK.out.2.below hb HBK.out.2.lt
  have d1 : w2.cell? ⟨w.heap.size, 1, none⟩ = some (.int .i64 wh) := (K2.cell 1).trans rfl
  have d2 : w2.cell? ⟨w.heap.size, 2, none⟩ = some (.int .i64 nn) := (K2.cell 2).trans rfl
  have d3 : w2.cell? ⟨w.heap.size, 3, none⟩ = some (.int .i64 mm) := (K2.cell 3).trans rfl
  have d4 : w2.cell? ⟨w.heap.size, 4, none⟩ = some (.slice A n c) := (K2.cell 4).trans rfl
  have hlt2 := K2.lt
  clear hb he K2 HBK
  cases q with
  | false =>
    have HN := Lib.hid (show ¬ RP ⟨2, wh, nn, mm, bs, ad⟩ from fun h => by have := HE.out.2 (rp_s h).z; cases this)
    go_wp2_with fail
    all_goals go_ret
    exact ⟨RiR.no HN.out, HB.out⟩
  | true =>
    have hzz := HE.out.1 rfl
    injection hzz with _ g1 g2 g3 g4 g5
    subst g1
    subst g3
    subst g4
    obtain rfl : n = 0 := by have := HB256.out.1; simpa using this.symm
    subst g5
    clear HE g2
    by_cases tn0 : 0 ≤ nn
    · by_cases tn1 : nn ≤ 1048576
      · have HL := Lib.hid (show RP ⟨2, 0, nn, 0, [], em⟩ from rp_num (k := 2) (by omega) (by omega) (by omega) (by show _ ≤ ((most 2 : Nat) : Int); unfold most; simp; omega))
        clear HB256
        go_wp2_with fail
        all_goals go_ret
        exact ⟨RiR.yes HL.out, HB.out⟩
      have HL := Lib.hid (show ¬ RP ⟨2, 0, nn, 0, [], em⟩ from fun h => by have := (rp_s h).n1; simp only at this; omega)
      clear HB256
      go_wp2_with fail
      all_goals go_ret
      exact ⟨RiR.no HL.out, HB.out⟩
    have HL := Lib.hid (show ¬ RP ⟨2, 0, nn, 0, [], em⟩ from fun h => by have := (rp_s h).n0; simp only at this; omega)
    clear HB256
    go_wp2_with fail
    all_goals go_ret
    exact ⟨RiR.no HL.out, HB.out⟩
set_option maxRecDepth 100000 in
set_option maxHeartbeats 2000000 in
theorem rright_3 (wh nn mm : Int) (A : Option Addr) (n c : Nat) (bs : List Nat) (ad : ByteArray) (w : World) (hO : OpOk w ⟨3, wh, nn, mm, A, n, c, bs, ad⟩) :
    Calls Tryd.prog 11 #[.agg #[.int .i64 3, .int .i64 wh, .int .i64 nn, .int .i64 mm, .slice A n c, .string ad]] w fun e w' => RiR ⟨3, wh, nn, mm, bs, ad⟩ e ∧ Below w.heap.size w w' := by
  have b2 : Below w.heap.size w ((w.alloc (.cells #[.int .i64 3, .int .i64 wh, .int .i64 nn, .int .i64 mm, .slice A n c, .string ad] 24)).alloc (.cells (Op.arr ⟨3, 0, nn, 0, none, 0, 0, [], em⟩) 24)) := ((Below.refl _ w).alloc (Nat.le_refl _) _).alloc (by simp) _
  have kx := (Blk.new w 24 #[.int .i64 3, .int .i64 wh, .int .i64 nn, .int .i64 mm, .slice A n c, .string ad]).alloc (.cells (Op.arr ⟨3, 0, nn, 0, none, 0, 0, [], em⟩) 24)
  have hO2 := hO.below b2
  have hbl := hO.y.len
  have hb256 := hO.y.2
  have hok : OpOk ((w.alloc (.cells #[.int .i64 3, .int .i64 wh, .int .i64 nn, .int .i64 mm, .slice A n c, .string ad] 24)).alloc (.cells (Op.arr ⟨3, 0, nn, 0, none, 0, 0, [], em⟩) 24)) ⟨3, 0, nn, 0, none, 0, 0, [], em⟩ :=
    ⟨Bys.none_ _, Nat.le_refl _, by show 0 ≤ maxLen; decide, hO2.k0, hO2.k1, by simp only; omega, by simp only; omega, hO2.n0, hO2.n1, by simp only; omega, by simp only; omega, by show em.size ≤ maxLen; decide⟩
  have he := rsameo_any ⟨3, wh, nn, mm, A, n, c, bs, ad⟩ ⟨3, 0, nn, 0, none, 0, 0, [], em⟩ _ hO2 hok
  have HE := Lib.hid (opEq_iff ⟨3, wh, nn, mm, A, n, c, bs, ad⟩ ⟨3, 0, nn, 0, none, 0, 0, [], em⟩)
  obtain ⟨q, hq⟩ : ∃ q, opEq ⟨3, wh, nn, mm, A, n, c, bs, ad⟩ ⟨3, 0, nn, 0, none, 0, 0, [], em⟩ = q := ⟨_, rfl⟩
  rw [hq] at he HE
  have hsz : ad.size ≤ maxLen := hO.a1
  have HBK := Lib.hid (And.intro b2 kx)
  unfold Op.v at he
  unfold Op.arr at he HBK
  try rw [show em = (⟨#[]⟩ : ByteArray) from rfl] at he
  try rw [show em = (⟨#[]⟩ : ByteArray) from rfl] at HBK
  simp only at he HBK
  unfold Op.p at HE
  simp only at HE
  have hnn : n ≤ c ∧ c ≤ maxLen := ⟨hO.c0, hO.c1⟩
  have HB256 := Lib.hid (And.intro hbl hb256)
  have hn63 : (n : Int) ≤ 9223372036854775807 := by unfold maxLen at hnn; omega
  clear b2 kx hO2 hok hO hq hb256 hnn hbl
  go_enter Tryd.func11, Tryd.ntmps11
  go_wp2_with (go_at_call 13; refine he.mono ?_; rintro _ w2 ⟨rfl, hb⟩; refine Hid.out ?_)
  refine Lib.hid ?_
  have HB := Lib.hid (HBK.out.1.trans (hb.mono HBK.out.1.size))
  have K2 := HBK.out.2.below hb HBK.out.2.lt
  have d1 : w2.cell? ⟨w.heap.size, 1, none⟩ = some (.int .i64 wh) := (K2.cell 1).trans rfl
  have d2 : w2.cell? ⟨w.heap.size, 2, none⟩ = some (.int .i64 nn) := (K2.cell 2).trans rfl
  have d3 : w2.cell? ⟨w.heap.size, 3, none⟩ = some (.int .i64 mm) := (K2.cell 3).trans rfl
  have d4 : w2.cell? ⟨w.heap.size, 4, none⟩ = some (.slice A n c) := (K2.cell 4).trans rfl
  have hlt2 := K2.lt
  clear hb he K2 HBK
  cases q with
  | false =>
    have HN := Lib.hid (show ¬ RP ⟨3, wh, nn, mm, bs, ad⟩ from fun h => by have := HE.out.2 (rp_s h).z; cases this)
    go_wp2_with fail
    all_goals go_ret
    exact ⟨RiR.no HN.out, HB.out⟩
  | true =>
    have hzz := HE.out.1 rfl
    injection hzz with _ g1 g2 g3 g4 g5
    subst g1
    subst g3
    subst g4
    obtain rfl : n = 0 := by have := HB256.out.1; simpa using this.symm
    subst g5
    clear HE g2
    by_cases tn0 : 0 ≤ nn
    · by_cases tn1 : nn ≤ 999
      · have HL := Lib.hid (show RP ⟨3, 0, nn, 0, [], em⟩ from rp_num (k := 3) (by omega) (by omega) (by omega) (by show _ ≤ ((most 3 : Nat) : Int); unfold most; simp; omega))
        clear HB256
        go_wp2_with fail
        all_goals go_ret
        exact ⟨RiR.yes HL.out, HB.out⟩
      have HL := Lib.hid (show ¬ RP ⟨3, 0, nn, 0, [], em⟩ from fun h => by have := (rp_s h).n1; simp only at this; omega)
      clear HB256
      go_wp2_with fail
      all_goals go_ret
      exact ⟨RiR.no HL.out, HB.out⟩
    have HL := Lib.hid (show ¬ RP ⟨3, 0, nn, 0, [], em⟩ from fun h => by have := (rp_s h).n0; simp only at this; omega)
    clear HB256
    go_wp2_with fail
    all_goals go_ret
    exact ⟨RiR.no HL.out, HB.out⟩
set_option maxRecDepth 100000 in
set_option maxHeartbeats 2000000 in
theorem rright_4 (wh nn mm : Int) (A : Option Addr) (n c : Nat) (bs : List Nat) (ad : ByteArray) (w : World) (hO : OpOk w ⟨4, wh, nn, mm, A, n, c, bs, ad⟩) :
    Calls Tryd.prog 11 #[.agg #[.int .i64 4, .int .i64 wh, .int .i64 nn, .int .i64 mm, .slice A n c, .string ad]] w fun e w' => RiR ⟨4, wh, nn, mm, bs, ad⟩ e ∧ Below w.heap.size w w' := by
  have b2 : Below w.heap.size w ((w.alloc (.cells #[.int .i64 4, .int .i64 wh, .int .i64 nn, .int .i64 mm, .slice A n c, .string ad] 24)).alloc (.cells (Op.arr ⟨4, 0, nn, 0, none, 0, 0, [], em⟩) 24)) := ((Below.refl _ w).alloc (Nat.le_refl _) _).alloc (by simp) _
  have kx := (Blk.new w 24 #[.int .i64 4, .int .i64 wh, .int .i64 nn, .int .i64 mm, .slice A n c, .string ad]).alloc (.cells (Op.arr ⟨4, 0, nn, 0, none, 0, 0, [], em⟩) 24)
  have hO2 := hO.below b2
  have hbl := hO.y.len
  have hb256 := hO.y.2
  have hok : OpOk ((w.alloc (.cells #[.int .i64 4, .int .i64 wh, .int .i64 nn, .int .i64 mm, .slice A n c, .string ad] 24)).alloc (.cells (Op.arr ⟨4, 0, nn, 0, none, 0, 0, [], em⟩) 24)) ⟨4, 0, nn, 0, none, 0, 0, [], em⟩ :=
    ⟨Bys.none_ _, Nat.le_refl _, by show 0 ≤ maxLen; decide, hO2.k0, hO2.k1, by simp only; omega, by simp only; omega, hO2.n0, hO2.n1, by simp only; omega, by simp only; omega, by show em.size ≤ maxLen; decide⟩
  have he := rsameo_any ⟨4, wh, nn, mm, A, n, c, bs, ad⟩ ⟨4, 0, nn, 0, none, 0, 0, [], em⟩ _ hO2 hok
  have HE := Lib.hid (opEq_iff ⟨4, wh, nn, mm, A, n, c, bs, ad⟩ ⟨4, 0, nn, 0, none, 0, 0, [], em⟩)
  obtain ⟨q, hq⟩ : ∃ q, opEq ⟨4, wh, nn, mm, A, n, c, bs, ad⟩ ⟨4, 0, nn, 0, none, 0, 0, [], em⟩ = q := ⟨_, rfl⟩
  rw [hq] at he HE
  have hsz : ad.size ≤ maxLen := hO.a1
  have HBK := Lib.hid (And.intro b2 kx)
  unfold Op.v at he
  unfold Op.arr at he HBK
  try rw [show em = (⟨#[]⟩ : ByteArray) from rfl] at he
  try rw [show em = (⟨#[]⟩ : ByteArray) from rfl] at HBK
  simp only at he HBK
  unfold Op.p at HE
  simp only at HE
  have hnn : n ≤ c ∧ c ≤ maxLen := ⟨hO.c0, hO.c1⟩
  have HB256 := Lib.hid (And.intro hbl hb256)
  have hn63 : (n : Int) ≤ 9223372036854775807 := by unfold maxLen at hnn; omega
  clear b2 kx hO2 hok hO hq hb256 hnn hbl
  go_enter Tryd.func11, Tryd.ntmps11
  go_wp2_with (go_at_call 13; refine he.mono ?_; rintro _ w2 ⟨rfl, hb⟩; refine Hid.out ?_)
  refine Lib.hid ?_
  have HB := Lib.hid (HBK.out.1.trans (hb.mono HBK.out.1.size))
  have K2 := HBK.out.2.below hb HBK.out.2.lt
  have d1 : w2.cell? ⟨w.heap.size, 1, none⟩ = some (.int .i64 wh) := (K2.cell 1).trans rfl
  have d2 : w2.cell? ⟨w.heap.size, 2, none⟩ = some (.int .i64 nn) := (K2.cell 2).trans rfl
  have d3 : w2.cell? ⟨w.heap.size, 3, none⟩ = some (.int .i64 mm) := (K2.cell 3).trans rfl
  have d4 : w2.cell? ⟨w.heap.size, 4, none⟩ = some (.slice A n c) := (K2.cell 4).trans rfl
  have hlt2 := K2.lt
  clear hb he K2 HBK
  cases q with
  | false =>
    have HN := Lib.hid (show ¬ RP ⟨4, wh, nn, mm, bs, ad⟩ from fun h => by have := HE.out.2 (rp_s h).z; cases this)
    go_wp2_with fail
    all_goals go_ret
    exact ⟨RiR.no HN.out, HB.out⟩
  | true =>
    have hzz := HE.out.1 rfl
    injection hzz with _ g1 g2 g3 g4 g5
    subst g1
    subst g3
    subst g4
    obtain rfl : n = 0 := by have := HB256.out.1; simpa using this.symm
    subst g5
    clear HE g2
    by_cases tn0 : 0 ≤ nn
    · by_cases tn1 : nn ≤ 999
      · have HL := Lib.hid (show RP ⟨4, 0, nn, 0, [], em⟩ from rp_num (k := 4) (by omega) (by omega) (by omega) (by show _ ≤ ((most 4 : Nat) : Int); unfold most; simp; omega))
        clear HB256
        go_wp2_with fail
        all_goals go_ret
        exact ⟨RiR.yes HL.out, HB.out⟩
      have HL := Lib.hid (show ¬ RP ⟨4, 0, nn, 0, [], em⟩ from fun h => by have := (rp_s h).n1; simp only at this; omega)
      clear HB256
      go_wp2_with fail
      all_goals go_ret
      exact ⟨RiR.no HL.out, HB.out⟩
    have HL := Lib.hid (show ¬ RP ⟨4, 0, nn, 0, [], em⟩ from fun h => by have := (rp_s h).n0; simp only at this; omega)
    clear HB256
    go_wp2_with fail
    all_goals go_ret
    exact ⟨RiR.no HL.out, HB.out⟩
set_option maxRecDepth 100000 in
set_option maxHeartbeats 2000000 in
theorem rright_5 (wh nn mm : Int) (A : Option Addr) (n c : Nat) (bs : List Nat) (ad : ByteArray) (w : World) (hO : OpOk w ⟨5, wh, nn, mm, A, n, c, bs, ad⟩) :
    Calls Tryd.prog 11 #[.agg #[.int .i64 5, .int .i64 wh, .int .i64 nn, .int .i64 mm, .slice A n c, .string ad]] w fun e w' => RiR ⟨5, wh, nn, mm, bs, ad⟩ e ∧ Below w.heap.size w w' := by
  have b2 : Below w.heap.size w ((w.alloc (.cells #[.int .i64 5, .int .i64 wh, .int .i64 nn, .int .i64 mm, .slice A n c, .string ad] 24)).alloc (.cells (Op.arr ⟨5, 0, nn, 0, none, 0, 0, [], em⟩) 24)) := ((Below.refl _ w).alloc (Nat.le_refl _) _).alloc (by simp) _
  have kx := (Blk.new w 24 #[.int .i64 5, .int .i64 wh, .int .i64 nn, .int .i64 mm, .slice A n c, .string ad]).alloc (.cells (Op.arr ⟨5, 0, nn, 0, none, 0, 0, [], em⟩) 24)
  have hO2 := hO.below b2
  have hbl := hO.y.len
  have hb256 := hO.y.2
  have hok : OpOk ((w.alloc (.cells #[.int .i64 5, .int .i64 wh, .int .i64 nn, .int .i64 mm, .slice A n c, .string ad] 24)).alloc (.cells (Op.arr ⟨5, 0, nn, 0, none, 0, 0, [], em⟩) 24)) ⟨5, 0, nn, 0, none, 0, 0, [], em⟩ :=
    ⟨Bys.none_ _, Nat.le_refl _, by show 0 ≤ maxLen; decide, hO2.k0, hO2.k1, by simp only; omega, by simp only; omega, hO2.n0, hO2.n1, by simp only; omega, by simp only; omega, by show em.size ≤ maxLen; decide⟩
  have he := rsameo_any ⟨5, wh, nn, mm, A, n, c, bs, ad⟩ ⟨5, 0, nn, 0, none, 0, 0, [], em⟩ _ hO2 hok
  have HE := Lib.hid (opEq_iff ⟨5, wh, nn, mm, A, n, c, bs, ad⟩ ⟨5, 0, nn, 0, none, 0, 0, [], em⟩)
  obtain ⟨q, hq⟩ : ∃ q, opEq ⟨5, wh, nn, mm, A, n, c, bs, ad⟩ ⟨5, 0, nn, 0, none, 0, 0, [], em⟩ = q := ⟨_, rfl⟩
  rw [hq] at he HE
  have hsz : ad.size ≤ maxLen := hO.a1
  have HBK := Lib.hid (And.intro b2 kx)
  unfold Op.v at he
  unfold Op.arr at he HBK
  try rw [show em = (⟨#[]⟩ : ByteArray) from rfl] at he
  try rw [show em = (⟨#[]⟩ : ByteArray) from rfl] at HBK
  simp only at he HBK
  unfold Op.p at HE
  simp only at HE
  have hnn : n ≤ c ∧ c ≤ maxLen := ⟨hO.c0, hO.c1⟩
  have HB256 := Lib.hid (And.intro hbl hb256)
  have hn63 : (n : Int) ≤ 9223372036854775807 := by unfold maxLen at hnn; omega
  clear b2 kx hO2 hok hO hq hb256 hnn hbl
  go_enter Tryd.func11, Tryd.ntmps11
  go_wp2_with (go_at_call 13; refine he.mono ?_; rintro _ w2 ⟨rfl, hb⟩; refine Hid.out ?_)
  refine Lib.hid ?_
  have HB := Lib.hid (HBK.out.1.trans (hb.mono HBK.out.1.size))
  have K2 := HBK.out.2.below hb HBK.out.2.lt
  have d1 : w2.cell? ⟨w.heap.size, 1, none⟩ = some (.int .i64 wh) := (K2.cell 1).trans rfl
  have d2 : w2.cell? ⟨w.heap.size, 2, none⟩ = some (.int .i64 nn) := (K2.cell 2).trans rfl
  have d3 : w2.cell? ⟨w.heap.size, 3, none⟩ = some (.int .i64 mm) := (K2.cell 3).trans rfl
  have d4 : w2.cell? ⟨w.heap.size, 4, none⟩ = some (.slice A n c) := (K2.cell 4).trans rfl
  have hlt2 := K2.lt
  clear hb he K2 HBK
  cases q with
  | false =>
    have HN := Lib.hid (show ¬ RP ⟨5, wh, nn, mm, bs, ad⟩ from fun h => by have := HE.out.2 (rp_s h).z; cases this)
    go_wp2_with fail
    all_goals go_ret
    exact ⟨RiR.no HN.out, HB.out⟩
  | true =>
    have hzz := HE.out.1 rfl
    injection hzz with _ g1 g2 g3 g4 g5
    subst g1
    subst g3
    subst g4
    obtain rfl : n = 0 := by have := HB256.out.1; simpa using this.symm
    subst g5
    clear HE g2
    by_cases tn0 : 0 ≤ nn
    · by_cases tn1 : nn ≤ 999
      · have HL := Lib.hid (show RP ⟨5, 0, nn, 0, [], em⟩ from rp_num (k := 5) (by omega) (by omega) (by omega) (by show _ ≤ ((most 5 : Nat) : Int); unfold most; simp; omega))
        clear HB256
        go_wp2_with fail
        all_goals go_ret
        exact ⟨RiR.yes HL.out, HB.out⟩
      have HL := Lib.hid (show ¬ RP ⟨5, 0, nn, 0, [], em⟩ from fun h => by have := (rp_s h).n1; simp only at this; omega)
      clear HB256
      go_wp2_with fail
      all_goals go_ret
      exact ⟨RiR.no HL.out, HB.out⟩
    have HL := Lib.hid (show ¬ RP ⟨5, 0, nn, 0, [], em⟩ from fun h => by have := (rp_s h).n0; simp only at this; omega)
    clear HB256
    go_wp2_with fail
    all_goals go_ret
    exact ⟨RiR.no HL.out, HB.out⟩
set_option maxRecDepth 100000 in
set_option maxHeartbeats 2000000 in
theorem rright_6 (wh nn mm : Int) (A : Option Addr) (n c : Nat) (bs : List Nat) (ad : ByteArray) (w : World) (hO : OpOk w ⟨6, wh, nn, mm, A, n, c, bs, ad⟩) :
    Calls Tryd.prog 11 #[.agg #[.int .i64 6, .int .i64 wh, .int .i64 nn, .int .i64 mm, .slice A n c, .string ad]] w fun e w' => RiR ⟨6, wh, nn, mm, bs, ad⟩ e ∧ Below w.heap.size w w' := by
  have b2 : Below w.heap.size w ((w.alloc (.cells #[.int .i64 6, .int .i64 wh, .int .i64 nn, .int .i64 mm, .slice A n c, .string ad] 24)).alloc (.cells (Op.arr ⟨6, 0, nn, mm, none, 0, 0, [], em⟩) 24)) := ((Below.refl _ w).alloc (Nat.le_refl _) _).alloc (by simp) _
  have kx := (Blk.new w 24 #[.int .i64 6, .int .i64 wh, .int .i64 nn, .int .i64 mm, .slice A n c, .string ad]).alloc (.cells (Op.arr ⟨6, 0, nn, mm, none, 0, 0, [], em⟩) 24)
  have hO2 := hO.below b2
  have hbl := hO.y.len
  have hb256 := hO.y.2
  have hok : OpOk ((w.alloc (.cells #[.int .i64 6, .int .i64 wh, .int .i64 nn, .int .i64 mm, .slice A n c, .string ad] 24)).alloc (.cells (Op.arr ⟨6, 0, nn, mm, none, 0, 0, [], em⟩) 24)) ⟨6, 0, nn, mm, none, 0, 0, [], em⟩ :=
    ⟨Bys.none_ _, Nat.le_refl _, by show 0 ≤ maxLen; decide, hO2.k0, hO2.k1, by simp only; omega, by simp only; omega, hO2.n0, hO2.n1, hO2.m0, hO2.m1, by show em.size ≤ maxLen; decide⟩
  have he := rsameo_any ⟨6, wh, nn, mm, A, n, c, bs, ad⟩ ⟨6, 0, nn, mm, none, 0, 0, [], em⟩ _ hO2 hok
  have HE := Lib.hid (opEq_iff ⟨6, wh, nn, mm, A, n, c, bs, ad⟩ ⟨6, 0, nn, mm, none, 0, 0, [], em⟩)
  obtain ⟨q, hq⟩ : ∃ q, opEq ⟨6, wh, nn, mm, A, n, c, bs, ad⟩ ⟨6, 0, nn, mm, none, 0, 0, [], em⟩ = q := ⟨_, rfl⟩
  rw [hq] at he HE
  have hsz : ad.size ≤ maxLen := hO.a1
  have HBK := Lib.hid (And.intro b2 kx)
  unfold Op.v at he
  unfold Op.arr at he HBK
  try rw [show em = (⟨#[]⟩ : ByteArray) from rfl] at he
  try rw [show em = (⟨#[]⟩ : ByteArray) from rfl] at HBK
  simp only at he HBK
  unfold Op.p at HE
  simp only at HE
  have hnn : n ≤ c ∧ c ≤ maxLen := ⟨hO.c0, hO.c1⟩
  have HB256 := Lib.hid (And.intro hbl hb256)
  have hn63 : (n : Int) ≤ 9223372036854775807 := by unfold maxLen at hnn; omega
  clear b2 kx hO2 hok hO hq hb256 hnn hbl
  go_enter Tryd.func11, Tryd.ntmps11
  go_wp2_with (go_at_call 13; refine he.mono ?_; rintro _ w2 ⟨rfl, hb⟩; refine Hid.out ?_)
  refine Lib.hid ?_
  have HB := Lib.hid (HBK.out.1.trans (hb.mono HBK.out.1.size))
  have K2 := HBK.out.2.below hb HBK.out.2.lt
  have d1 : w2.cell? ⟨w.heap.size, 1, none⟩ = some (.int .i64 wh) := (K2.cell 1).trans rfl
  have d2 : w2.cell? ⟨w.heap.size, 2, none⟩ = some (.int .i64 nn) := (K2.cell 2).trans rfl
  have d3 : w2.cell? ⟨w.heap.size, 3, none⟩ = some (.int .i64 mm) := (K2.cell 3).trans rfl
  have d4 : w2.cell? ⟨w.heap.size, 4, none⟩ = some (.slice A n c) := (K2.cell 4).trans rfl
  have hlt2 := K2.lt
  clear hb he K2 HBK
  cases q with
  | false =>
    have HN := Lib.hid (show ¬ RP ⟨6, wh, nn, mm, bs, ad⟩ from fun h => by have := HE.out.2 (rp_s h).z; cases this)
    go_wp2_with fail
    all_goals go_ret
    exact ⟨RiR.no HN.out, HB.out⟩
  | true =>
    have hzz := HE.out.1 rfl
    injection hzz with _ g1 g2 g3 g4 g5
    subst g1
    subst g4
    obtain rfl : n = 0 := by have := HB256.out.1; simpa using this.symm
    subst g5
    clear HE g2 g3
    by_cases tn0 : 0 ≤ nn
    · by_cases tn1 : nn ≤ 999
      · by_cases tm0 : 0 ≤ mm
        · by_cases tm1 : mm ≤ 999
          · have HL := Lib.hid (show RP ⟨6, 0, nn, mm, [], em⟩ from rp_swap (by omega) (by omega) (by omega) (by omega))
            clear HB256
            go_wp2_with fail
            all_goals go_ret
            exact ⟨RiR.yes HL.out, HB.out⟩
          have HL := Lib.hid (show ¬ RP ⟨6, 0, nn, mm, [], em⟩ from fun h => by have := (rp_s h).m1; simp only at this; omega)
          clear HB256
          go_wp2_with fail
          all_goals go_ret
          exact ⟨RiR.no HL.out, HB.out⟩
        have HL := Lib.hid (show ¬ RP ⟨6, 0, nn, mm, [], em⟩ from fun h => by have := (rp_s h).m0; simp only at this; omega)
        clear HB256
        go_wp2_with fail
        all_goals go_ret
        exact ⟨RiR.no HL.out, HB.out⟩
      have HL := Lib.hid (show ¬ RP ⟨6, 0, nn, mm, [], em⟩ from fun h => by have := (rp_s h).n1; simp only at this; omega)
      clear HB256
      go_wp2_with fail
      all_goals go_ret
      exact ⟨RiR.no HL.out, HB.out⟩
    have HL := Lib.hid (show ¬ RP ⟨6, 0, nn, mm, [], em⟩ from fun h => by have := (rp_s h).n0; simp only at this; omega)
    clear HB256
    go_wp2_with fail
    all_goals go_ret
    exact ⟨RiR.no HL.out, HB.out⟩
set_option maxRecDepth 100000 in
set_option maxHeartbeats 2000000 in
theorem rright_7 (wh nn mm : Int) (A : Option Addr) (n c : Nat) (bs : List Nat) (ad : ByteArray) (w : World) (hO : OpOk w ⟨7, wh, nn, mm, A, n, c, bs, ad⟩) :
    Calls Tryd.prog 11 #[.agg #[.int .i64 7, .int .i64 wh, .int .i64 nn, .int .i64 mm, .slice A n c, .string ad]] w fun e w' => RiR ⟨7, wh, nn, mm, bs, ad⟩ e ∧ Below w.heap.size w w' := by
  have b2 : Below w.heap.size w ((w.alloc (.cells #[.int .i64 7, .int .i64 wh, .int .i64 nn, .int .i64 mm, .slice A n c, .string ad] 24)).alloc (.cells (Op.arr ⟨7, wh, 0, 0, A, n, c, bs, ad⟩) 24)) := ((Below.refl _ w).alloc (Nat.le_refl _) _).alloc (by simp) _
  have kx := (Blk.new w 24 #[.int .i64 7, .int .i64 wh, .int .i64 nn, .int .i64 mm, .slice A n c, .string ad]).alloc (.cells (Op.arr ⟨7, wh, 0, 0, A, n, c, bs, ad⟩) 24)
  have hO2 := hO.below b2
  have hbl := hO.y.len
  have hb256 := hO.y.2
  have hok : OpOk ((w.alloc (.cells #[.int .i64 7, .int .i64 wh, .int .i64 nn, .int .i64 mm, .slice A n c, .string ad] 24)).alloc (.cells (Op.arr ⟨7, wh, 0, 0, A, n, c, bs, ad⟩) 24)) ⟨7, wh, 0, 0, A, n, c, bs, ad⟩ :=
    ⟨hO2.y, hO2.c0, hO2.c1, hO2.k0, hO2.k1, hO2.w0, hO2.w1, by simp only; omega, by simp only; omega, by simp only; omega, by simp only; omega, hO2.a1⟩
  have he := rsameo_any ⟨7, wh, nn, mm, A, n, c, bs, ad⟩ ⟨7, wh, 0, 0, A, n, c, bs, ad⟩ _ hO2 hok
  have HE := Lib.hid (opEq_iff ⟨7, wh, nn, mm, A, n, c, bs, ad⟩ ⟨7, wh, 0, 0, A, n, c, bs, ad⟩)
  obtain ⟨q, hq⟩ : ∃ q, opEq ⟨7, wh, nn, mm, A, n, c, bs, ad⟩ ⟨7, wh, 0, 0, A, n, c, bs, ad⟩ = q := ⟨_, rfl⟩
  rw [hq] at he HE
  have hsz : ad.size ≤ maxLen := hO.a1
  have HBK := Lib.hid (And.intro b2 kx)
  unfold Op.v at he
  unfold Op.arr at he HBK
  try rw [show em = (⟨#[]⟩ : ByteArray) from rfl] at he
  try rw [show em = (⟨#[]⟩ : ByteArray) from rfl] at HBK
  simp only at he HBK
  unfold Op.p at HE
  simp only at HE
  have hnn : n ≤ c ∧ c ≤ maxLen := ⟨hO.c0, hO.c1⟩
  have HB256 := Lib.hid (And.intro hbl hb256)
  have hn63 : (n : Int) ≤ 9223372036854775807 := by unfold maxLen at hnn; omega
  clear b2 kx hO2 hok hO hq hb256 hnn hbl
  have hr := fun W => rright_any ad W hsz
  obtain ⟨r, hrr⟩ : ∃ r, rightS ad = r := ⟨_, rfl⟩
  rw [hrr] at hr
  have HR := Lib.hid hrr
  clear hrr hsz
  cases r with
  | false =>
    have HN := Lib.hid (show ¬ RP ⟨7, wh, nn, mm, bs, ad⟩ from fun h => by have := (rp_s h).a (by simp); simp only at this; rw [HR.out] at this; cases this)
    go_enter Tryd.func11, Tryd.ntmps11
    go_wp2_with (go_at_call 26; refine (hr _).mono ?_; rintro _ _ ⟨rfl, rfl⟩)
    all_goals go_ret
    exact ⟨RiR.no HN.out, HBK.out.1⟩
  | true =>
    go_enter Tryd.func11, Tryd.ntmps11
    go_wp2_with (first | (go_at_call 26; refine (hr _).mono ?_; rintro _ _ ⟨rfl, rfl⟩) | (go_at_call 13; refine he.mono ?_; rintro _ w2 ⟨rfl, hb⟩; refine Hid.out ?_))
    refine Lib.hid ?_
    have HB := Lib.hid (HBK.out.1.trans (hb.mono HBK.out.1.size))
    have K2 := HBK.out.2.below hb HBK.out.2.lt
    have d1 : w2.cell? ⟨w.heap.size, 1, none⟩ = some (.int .i64 wh) := (K2.cell 1).trans rfl
    have d2 : w2.cell? ⟨w.heap.size, 2, none⟩ = some (.int .i64 nn) := (K2.cell 2).trans rfl
    have d3 : w2.cell? ⟨w.heap.size, 3, none⟩ = some (.int .i64 mm) := (K2.cell 3).trans rfl
    have d4 : w2.cell? ⟨w.heap.size, 4, none⟩ = some (.slice A n c) := (K2.cell 4).trans rfl
    have hlt2 := K2.lt
    clear hb he K2 HBK hr
    cases q with
    | false =>
      have HN := Lib.hid (show ¬ RP ⟨7, wh, nn, mm, bs, ad⟩ from fun h => by have := HE.out.2 (rp_s h).z; cases this)
      go_wp2_with fail
      all_goals go_ret
      exact ⟨RiR.no HN.out, HB.out⟩
    | true =>
      have hzz := HE.out.1 rfl
      injection hzz with _ g1 g2 g3 g4 g5
      subst g2
      subst g3
      clear HE g1 g4 g5
      by_cases hw0 : wh = 0
      · subst hw0
        by_cases tb : (n : Int) ≤ 1300
        · have HL := Lib.hid (show RP ⟨7, 0, 0, 0, bs, ad⟩ from RP.inject _ _ _ (by simp) ⟨by have := HB256.out.1; omega, HB256.out.2⟩ HR.out)
          clear HB256
          go_wp2_with fail
          all_goals go_ret
          exact ⟨RiR.yes HL.out, HB.out⟩
        have HL := Lib.hid (show ¬ RP ⟨7, 0, 0, 0, bs, ad⟩ from fun h => by have h1 := (rp_s h).b.1; have h2 := HB256.out.1; simp only at h1; omega)
        clear HB256
        go_wp2_with fail
        all_goals go_ret
        exact ⟨RiR.no HL.out, HB.out⟩
      by_cases hw1 : wh = 1
      · subst hw1
        by_cases tb : (n : Int) ≤ 1300
        · have HL := Lib.hid (show RP ⟨7, 1, 0, 0, bs, ad⟩ from RP.inject _ _ _ (by simp) ⟨by have := HB256.out.1; omega, HB256.out.2⟩ HR.out)
          clear HB256
          go_wp2_with fail
          all_goals go_ret
          exact ⟨RiR.yes HL.out, HB.out⟩
        have HL := Lib.hid (show ¬ RP ⟨7, 1, 0, 0, bs, ad⟩ from fun h => by have h1 := (rp_s h).b.1; have h2 := HB256.out.1; simp only at h1; omega)
        clear HB256
        go_wp2_with fail
        all_goals go_ret
        exact ⟨RiR.no HL.out, HB.out⟩
      have hq0 : (wh == 0) = false := by simp [hw0]
      have hq1 : (wh == 1) = false := by simp [hw1]
      have HL := Lib.hid (show ¬ RP ⟨7, wh, 0, 0, bs, ad⟩ from fun h => by have := (rp_s h).w; simp only at this; omega)
      clear HB256
      go_wp2_with fail
      all_goals go_ret
      exact ⟨RiR.no HL.out, HB.out⟩
set_option maxRecDepth 100000 in
set_option maxHeartbeats 2000000 in
theorem rright_8 (wh nn mm : Int) (A : Option Addr) (n c : Nat) (bs : List Nat) (ad : ByteArray) (w : World) (hO : OpOk w ⟨8, wh, nn, mm, A, n, c, bs, ad⟩) :
    Calls Tryd.prog 11 #[.agg #[.int .i64 8, .int .i64 wh, .int .i64 nn, .int .i64 mm, .slice A n c, .string ad]] w fun e w' => RiR ⟨8, wh, nn, mm, bs, ad⟩ e ∧ Below w.heap.size w w' := by
  have b2 : Below w.heap.size w ((w.alloc (.cells #[.int .i64 8, .int .i64 wh, .int .i64 nn, .int .i64 mm, .slice A n c, .string ad] 24)).alloc (.cells (Op.arr ⟨8, 0, 0, 0, none, 0, 0, [], ad⟩) 24)) := ((Below.refl _ w).alloc (Nat.le_refl _) _).alloc (by simp) _
  have kx := (Blk.new w 24 #[.int .i64 8, .int .i64 wh, .int .i64 nn, .int .i64 mm, .slice A n c, .string ad]).alloc (.cells (Op.arr ⟨8, 0, 0, 0, none, 0, 0, [], ad⟩) 24)
  have hO2 := hO.below b2
  have hbl := hO.y.len
  have hb256 := hO.y.2
  have hok : OpOk ((w.alloc (.cells #[.int .i64 8, .int .i64 wh, .int .i64 nn, .int .i64 mm, .slice A n c, .string ad] 24)).alloc (.cells (Op.arr ⟨8, 0, 0, 0, none, 0, 0, [], ad⟩) 24)) ⟨8, 0, 0, 0, none, 0, 0, [], ad⟩ :=
    ⟨Bys.none_ _, Nat.le_refl _, by show 0 ≤ maxLen; decide, hO2.k0, hO2.k1, by simp only; omega, by simp only; omega, by simp only; omega, by simp only; omega, by simp only; omega, by simp only; omega, hO2.a1⟩
  have he := rsameo_any ⟨8, wh, nn, mm, A, n, c, bs, ad⟩ ⟨8, 0, 0, 0, none, 0, 0, [], ad⟩ _ hO2 hok
  have HE := Lib.hid (opEq_iff ⟨8, wh, nn, mm, A, n, c, bs, ad⟩ ⟨8, 0, 0, 0, none, 0, 0, [], ad⟩)
  obtain ⟨q, hq⟩ : ∃ q, opEq ⟨8, wh, nn, mm, A, n, c, bs, ad⟩ ⟨8, 0, 0, 0, none, 0, 0, [], ad⟩ = q := ⟨_, rfl⟩
  rw [hq] at he HE
  have hsz : ad.size ≤ maxLen := hO.a1
  have HBK := Lib.hid (And.intro b2 kx)
  unfold Op.v at he
  unfold Op.arr at he HBK
  try rw [show em = (⟨#[]⟩ : ByteArray) from rfl] at he
  try rw [show em = (⟨#[]⟩ : ByteArray) from rfl] at HBK
  simp only at he HBK
  unfold Op.p at HE
  simp only at HE
  have hnn : n ≤ c ∧ c ≤ maxLen := ⟨hO.c0, hO.c1⟩
  have HB256 := Lib.hid (And.intro hbl hb256)
  have hn63 : (n : Int) ≤ 9223372036854775807 := by unfold maxLen at hnn; omega
  clear b2 kx hO2 hok hO hq hb256 hnn hbl
  have hr := fun W => rright_any ad W hsz
  obtain ⟨r, hrr⟩ : ∃ r, rightS ad = r := ⟨_, rfl⟩
  rw [hrr] at hr
  have HR := Lib.hid hrr
  clear hrr hsz
  cases r with
  | false =>
    have HN := Lib.hid (show ¬ RP ⟨8, wh, nn, mm, bs, ad⟩ from fun h => by have := (rp_s h).a (by simp); simp only at this; rw [HR.out] at this; cases this)
    go_enter Tryd.func11, Tryd.ntmps11
    go_wp2_with (go_at_call 26; refine (hr _).mono ?_; rintro _ _ ⟨rfl, rfl⟩)
    all_goals go_ret
    exact ⟨RiR.no HN.out, HBK.out.1⟩
  | true =>
    go_enter Tryd.func11, Tryd.ntmps11
    go_wp2_with (first | (go_at_call 26; refine (hr _).mono ?_; rintro _ _ ⟨rfl, rfl⟩) | (go_at_call 13; refine he.mono ?_; rintro _ w2 ⟨rfl, hb⟩; refine Hid.out ?_))
    refine Lib.hid ?_
    have HB := Lib.hid (HBK.out.1.trans (hb.mono HBK.out.1.size))
    have K2 := HBK.out.2.below hb HBK.out.2.lt
    have d1 : w2.cell? ⟨w.heap.size, 1, none⟩ = some (.int .i64 wh) := (K2.cell 1).trans rfl
    have d2 : w2.cell? ⟨w.heap.size, 2, none⟩ = some (.int .i64 nn) := (K2.cell 2).trans rfl
    have d3 : w2.cell? ⟨w.heap.size, 3, none⟩ = some (.int .i64 mm) := (K2.cell 3).trans rfl
    have d4 : w2.cell? ⟨w.heap.size, 4, none⟩ = some (.slice A n c) := (K2.cell 4).trans rfl
    have hlt2 := K2.lt
    clear hb he K2 HBK hr
    cases q with
    | false =>
      have HN := Lib.hid (show ¬ RP ⟨8, wh, nn, mm, bs, ad⟩ from fun h => by have := HE.out.2 (rp_s h).z; cases this)
      go_wp2_with fail
      all_goals go_ret
      exact ⟨RiR.no HN.out, HB.out⟩
    | true =>
      have hzz := HE.out.1 rfl
      injection hzz with _ g1 g2 g3 g4 g5
      subst g1
      subst g2
      subst g3
      subst g4
      obtain rfl : n = 0 := by have := HB256.out.1; simpa using this.symm
      clear HE g5
      have HL := Lib.hid (show RP ⟨8, 0, 0, 0, [], ad⟩ from RP.move _ HR.out)
      clear HB256
      go_wp2_with fail
      all_goals go_ret
      exact ⟨RiR.yes HL.out, HB.out⟩
set_option maxRecDepth 100000 in
set_option maxHeartbeats 2000000 in
theorem rright_9 (wh nn mm : Int) (A : Option Addr) (n c : Nat) (bs : List Nat) (ad : ByteArray) (w : World) (hO : OpOk w ⟨9, wh, nn, mm, A, n, c, bs, ad⟩) :
    Calls Tryd.prog 11 #[.agg #[.int .i64 9, .int .i64 wh, .int .i64 nn, .int .i64 mm, .slice A n c, .string ad]] w fun e w' => RiR ⟨9, wh, nn, mm, bs, ad⟩ e ∧ Below w.heap.size w w' := by
  have b2 : Below w.heap.size w ((w.alloc (.cells #[.int .i64 9, .int .i64 wh, .int .i64 nn, .int .i64 mm, .slice A n c, .string ad] 24)).alloc (.cells (Op.arr ⟨9, wh, 0, 0, none, 0, 0, [], em⟩) 24)) := ((Below.refl _ w).alloc (Nat.le_refl _) _).alloc (by simp) _
  have kx := (Blk.new w 24 #[.int .i64 9, .int .i64 wh, .int .i64 nn, .int .i64 mm, .slice A n c, .string ad]).alloc (.cells (Op.arr ⟨9, wh, 0, 0, none, 0, 0, [], em⟩) 24)
  have hO2 := hO.below b2
  have hbl := hO.y.len
  have hb256 := hO.y.2
  have hok : OpOk ((w.alloc (.cells #[.int .i64 9, .int .i64 wh, .int .i64 nn, .int .i64 mm, .slice A n c, .string ad] 24)).alloc (.cells (Op.arr ⟨9, wh, 0, 0, none, 0, 0, [], em⟩) 24)) ⟨9, wh, 0, 0, none, 0, 0, [], em⟩ :=
    ⟨Bys.none_ _, Nat.le_refl _, by show 0 ≤ maxLen; decide, hO2.k0, hO2.k1, hO2.w0, hO2.w1, by simp only; omega, by simp only; omega, by simp only; omega, by simp only; omega, by show em.size ≤ maxLen; decide⟩
  have he := rsameo_any ⟨9, wh, nn, mm, A, n, c, bs, ad⟩ ⟨9, wh, 0, 0, none, 0, 0, [], em⟩ _ hO2 hok
  have HE := Lib.hid (opEq_iff ⟨9, wh, nn, mm, A, n, c, bs, ad⟩ ⟨9, wh, 0, 0, none, 0, 0, [], em⟩)
  obtain ⟨q, hq⟩ : ∃ q, opEq ⟨9, wh, nn, mm, A, n, c, bs, ad⟩ ⟨9, wh, 0, 0, none, 0, 0, [], em⟩ = q := ⟨_, rfl⟩
  rw [hq] at he HE
  have hsz : ad.size ≤ maxLen := hO.a1
  have HBK := Lib.hid (And.intro b2 kx)
  unfold Op.v at he
  unfold Op.arr at he HBK
  try rw [show em = (⟨#[]⟩ : ByteArray) from rfl] at he
  try rw [show em = (⟨#[]⟩ : ByteArray) from rfl] at HBK
  simp only at he HBK
  unfold Op.p at HE
  simp only at HE
  have hnn : n ≤ c ∧ c ≤ maxLen := ⟨hO.c0, hO.c1⟩
  have HB256 := Lib.hid (And.intro hbl hb256)
  have hn63 : (n : Int) ≤ 9223372036854775807 := by unfold maxLen at hnn; omega
  clear b2 kx hO2 hok hO hq hb256 hnn hbl
  go_enter Tryd.func11, Tryd.ntmps11
  go_wp2_with (go_at_call 13; refine he.mono ?_; rintro _ w2 ⟨rfl, hb⟩; refine Hid.out ?_)
  refine Lib.hid ?_
  have HB := Lib.hid (HBK.out.1.trans (hb.mono HBK.out.1.size))
  have K2 := HBK.out.2.below hb HBK.out.2.lt
  have d1 : w2.cell? ⟨w.heap.size, 1, none⟩ = some (.int .i64 wh) := (K2.cell 1).trans rfl
  have d2 : w2.cell? ⟨w.heap.size, 2, none⟩ = some (.int .i64 nn) := (K2.cell 2).trans rfl
  have d3 : w2.cell? ⟨w.heap.size, 3, none⟩ = some (.int .i64 mm) := (K2.cell 3).trans rfl
  have d4 : w2.cell? ⟨w.heap.size, 4, none⟩ = some (.slice A n c) := (K2.cell 4).trans rfl
  have hlt2 := K2.lt
  clear hb he K2 HBK
  cases q with
  | false =>
    have HN := Lib.hid (show ¬ RP ⟨9, wh, nn, mm, bs, ad⟩ from fun h => by have := HE.out.2 (rp_s h).z; cases this)
    go_wp2_with fail
    all_goals go_ret
    exact ⟨RiR.no HN.out, HB.out⟩
  | true =>
    have hzz := HE.out.1 rfl
    injection hzz with _ g1 g2 g3 g4 g5
    subst g2
    subst g3
    subst g4
    obtain rfl : n = 0 := by have := HB256.out.1; simpa using this.symm
    subst g5
    clear HE g1
    by_cases hw0 : wh = 0
    · subst hw0
      have HL := Lib.hid (show RP ⟨9, 0, 0, 0, [], em⟩ from RP.close _ (by simp))
      clear HB256
      go_wp2_with fail
      all_goals go_ret
      exact ⟨RiR.yes HL.out, HB.out⟩
    by_cases hw1 : wh = 1
    · subst hw1
      have HL := Lib.hid (show RP ⟨9, 1, 0, 0, [], em⟩ from RP.close _ (by simp))
      clear HB256
      go_wp2_with fail
      all_goals go_ret
      exact ⟨RiR.yes HL.out, HB.out⟩
    have hq0 : (wh == 0) = false := by simp [hw0]
    have hq1 : (wh == 1) = false := by simp [hw1]
    have HL := Lib.hid (show ¬ RP ⟨9, wh, 0, 0, [], em⟩ from fun h => by have := (rp_s h).w; simp only at this; omega)
    clear HB256
    go_wp2_with fail
    all_goals go_ret
    exact ⟨RiR.no HL.out, HB.out⟩
set_option maxRecDepth 100000 in
set_option maxHeartbeats 2000000 in
theorem rright_other (kd wh nn mm : Int) (A : Option Addr) (n c : Nat) (bs : List Nat) (ad : ByteArray) (w : World) (hk : kd < 1 ∨ 9 < kd) :
    Calls Tryd.prog 11 #[.agg #[.int .i64 kd, .int .i64 wh, .int .i64 nn, .int .i64 mm, .slice A n c, .string ad]] w fun e w' => RiR ⟨kd, wh, nn, mm, bs, ad⟩ e ∧ Below w.heap.size w w' := by
  have HN := Lib.hid (show ¬ RP ⟨kd, wh, nn, mm, bs, ad⟩ from fun h => by have h1 := (rp_s h).k1; have h2 := (rp_s h).k9; simp only at h1 h2; omega)
  have b2 : Below w.heap.size w ((w.alloc (.cells #[.int .i64 kd, .int .i64 wh, .int .i64 nn, .int .i64 mm, .slice A n c, .string ad] 24)).alloc (.cells #[.int .i64 kd, .int .i64 0, .int .i64 0, .int .i64 0, .slice none 0 0, .string ⟨#[]⟩] 24)) := ((Below.refl _ w).alloc (Nat.le_refl _) _).alloc (by simp) _
  have HB := Lib.hid b2
  have q1 : (kd == 1) = false := by simp; omega
  have q2 : (kd == 2) = false := by simp; omega
  have q3 : (kd == 3) = false := by simp; omega
  have q4 : (kd == 4) = false := by simp; omega
  have q5 : (kd == 5) = false := by simp; omega
  have q6 : (kd == 6) = false := by simp; omega
  have q7 : (kd == 7) = false := by simp; omega
  have q8 : (kd == 8) = false := by simp; omega
  have q9 : (kd == 9) = false := by simp; omega
  clear hk b2
  go_enter Tryd.func11, Tryd.ntmps11
  go_wp2_with fail
  all_goals go_ret
  exact ⟨RiR.no HN.out, HB.out⟩
/-- The reference's Right. -/
theorem refright_any (o : Op) (w : World) (hO : OpOk w o) : Calls Tryd.prog 11 #[o.v] w fun e w' => RiR o.p e ∧ Below w.heap.size w w' := by
  obtain ⟨kd, wh, nn, mm, A, n, c, bs, ad⟩ := o
  unfold Op.v Op.p
  simp only
  by_cases hk : kd < 1 ∨ 9 < kd
  · exact rright_other kd wh nn mm A n c bs ad w hk
  · rcases (show kd = 1 ∨ kd = 2 ∨ kd = 3 ∨ kd = 4 ∨ kd = 5 ∨ kd = 6 ∨ kd = 7 ∨ kd = 8 ∨ kd = 9 by omega) with rfl | rfl | rfl | rfl | rfl | rfl | rfl | rfl | rfl
    · exact rright_1 wh nn mm A n c bs ad w hO
    · exact rright_2 wh nn mm A n c bs ad w hO
    · exact rright_3 wh nn mm A n c bs ad w hO
    · exact rright_4 wh nn mm A n c bs ad w hO
    · exact rright_5 wh nn mm A n c bs ad w hO
    · exact rright_6 wh nn mm A n c bs ad w hO
    · exact rright_7 wh nn mm A n c bs ad w hO
    · exact rright_8 wh nn mm A n c bs ad w hO
    · exact rright_9 wh nn mm A n c bs ad w hO
end Go.Proofs.YtbkgmeopdcealaaDoor
