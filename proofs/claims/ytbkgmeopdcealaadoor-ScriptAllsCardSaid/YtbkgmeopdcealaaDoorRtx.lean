import Derived.Test.YtbkgmeopdcealaaDoorRrt
import Derived.Test.YtbkgmeopdcealaaDoorCdc
namespace Go.Proofs.YtbkgmeopdcealaaDoor
open Go.ChangeShapes Go.WideShapes Go.ChangeAt Go.RowKit Go.Sort Go.Deep
set_option linter.unusedVariables false
set_option linter.unusedSimpArgs false
theorem dec_below (n : Int) (W : World) (h0 : -9223372036854775808 ≤ n) (h1 : n ≤ 9223372036854775807) : Calls Tryd.prog 31 #[.int .i64 n] W fun e w' => e = .returned (.string (itS n)) ∧ Below W.heap.size W w' :=
  (dec_any n W h0 h1).mono fun e w' ⟨he, k, hk⟩ => ⟨he, hk ▸ below_drewN (Below.refl _ _) k⟩
theorem join_1 (a b : ByteArray) : joinS [a, b] = (a ++ ⟨#[32]⟩) ++ b := by
  apply ba_ext
  unfold joinS
  simp [Lib.join, List.intercalate, List.intersperse, ByteArray.data_append]
theorem join_2 (a b c : ByteArray) : joinS [a, b, c] = (((a ++ ⟨#[32]⟩) ++ b) ++ ⟨#[32]⟩) ++ c := by
  apply ba_ext
  unfold joinS
  simp [Lib.join, List.intercalate, List.intersperse, ByteArray.data_append]
theorem join_3 (a b c d : ByteArray) : joinS [a, b, c, d] = (((((a ++ ⟨#[32]⟩) ++ b) ++ ⟨#[32]⟩) ++ c) ++ ⟨#[32]⟩) ++ d := by
  apply ba_ext
  unfold joinS
  simp [Lib.join, List.intercalate, List.intersperse, ByteArray.data_append]
set_option maxRecDepth 100000 in
set_option maxHeartbeats 2000000 in
theorem rtext_1_0 (nn mm : Int) (A : Option Addr) (n c : Nat) (bs : List Nat) (ad : ByteArray) (w : World) (hy : Bys w A n bs) (hn : n ≤ 2500) (hbs : bs.length ≤ 2500) (ha : ad.size ≤ 5000) (n0 : -9223372036854775808 ≤ nn) (n1 : nn ≤ 9223372036854775807) (m0 : -9223372036854775808 ≤ mm) (m1 : mm ≤ 9223372036854775807) :
    Calls Tryd.prog 17 #[.agg #[.int .i64 1, .int .i64 0, .int .i64 0, .int .i64 0, .slice A n c, .string ⟨#[]⟩]] w fun e w' => e = .returned (.string (lineP ⟨1, 0, 0, 0, bs, em⟩)) ∧ Below w.heap.size w w' := by
  have HJ := Lib.hid (show lineP ⟨1, 0, 0, 0, bs, em⟩ = joinS [(⟨#[115, 101, 110, 100]⟩ : ByteArray), ⟨#[99, 108, 105, 101, 110, 116]⟩, hexS bs] from rfl)
  obtain ⟨L, hL⟩ : ∃ l, lineP ⟨1, 0, 0, 0, bs, em⟩ = l := ⟨_, rfl⟩
  rw [hL] at HJ ⊢
  have b2 : Below w.heap.size w ((w.alloc (.cells #[.int .i64 1, .int .i64 0, .int .i64 0, .int .i64 0, .slice A n c, .string ⟨#[]⟩] 24)).alloc (.cells #[.string ⟨#[99, 108, 105, 101, 110, 116]⟩, .string ⟨#[115, 101, 114, 118, 101, 114]⟩] 9)) := ((Below.refl _ w).alloc (Nat.le_refl _) _).alloc (by simp) _
  have kx := (Blk.new w 24 #[.int .i64 1, .int .i64 0, .int .i64 0, .int .i64 0, .slice A n c, .string ⟨#[]⟩]).alloc (.cells #[.string ⟨#[99, 108, 105, 101, 110, 116]⟩, .string ⟨#[115, 101, 114, 118, 101, 114]⟩] 9)
  have hd := dec_below 0 ((w.alloc (.cells #[.int .i64 1, .int .i64 0, .int .i64 0, .int .i64 0, .slice A n c, .string ⟨#[]⟩] 24)).alloc (.cells #[.string ⟨#[99, 108, 105, 101, 110, 116]⟩, .string ⟨#[115, 101, 114, 118, 101, 114]⟩] 9)) (by omega) (by omega)
  have HM := Lib.hid (fun W => dec_below 0 W (by omega) (by omega))
  have HX := Lib.hid (show ∀ W, Below w.heap.size w W → Calls Tryd.prog 24 #[.slice A n c] W fun e w' => e = .returned (.string (hexS bs)) ∧ Below W.heap.size W w' from fun W hW => rhex_any A n c bs W (hy.below hW) (by omega))
  have zn : (itS 0).size ≤ 21 := itS_le _ (by omega) (by omega)
  have zm : (itS 0).size ≤ 21 := itS_le _ (by omega) (by omega)
  have zx : (hexS bs).size ≤ 5000 := by
    unfold hexS
    split
    · decide
    · rw [str_size, hexL_len]; omega
  have H2 := Lib.hid (And.intro b2 kx)
  obtain ⟨NN, hNN⟩ : ∃ s, itS 0 = s := ⟨_, rfl⟩
  rw [hNN] at hd zn
  obtain ⟨HH, hHH⟩ : ∃ s, hexS bs = s := ⟨_, rfl⟩
  rw [hHH] at HX zx
  rw [hHH] at HJ
  
  clear b2 kx hy hL hNN hHH
  go_enter Tryd.func17, Tryd.ntmps17
  go_wp2_with (go_at_call 31; refine hd.mono ?_; rintro _ w3 ⟨rfl, hb⟩; refine Hid.out ?_)
  refine Lib.hid ?_
  have H3 := Lib.hid (And.intro (H2.out.1.trans (hb.mono H2.out.1.size)) (H2.out.2.below hb H2.out.2.lt))
  have d0 : w3.cell? ⟨w.heap.size, 0, none⟩ = some (.int .i64 1) := (H3.out.2.cell 0).trans rfl
  have d3 : w3.cell? ⟨w.heap.size, 3, none⟩ = some (.int .i64 0) := (H3.out.2.cell 3).trans rfl
  have d4 : w3.cell? ⟨w.heap.size, 4, none⟩ = some (.slice A n c) := (H3.out.2.cell 4).trans rfl
  have d5 : w3.cell? ⟨w.heap.size, 5, none⟩ = some (.string ⟨#[]⟩) := (H3.out.2.cell 5).trans rfl
  have hlt3 := H3.out.2.lt
  clear hb hd H2
  have hx := HX.out w3 H3.out.1
  go_wp2_with (go_at_call 24; refine hx.mono ?_; rintro _ w4 ⟨rfl, hb⟩; refine Hid.out ?_)
  refine Lib.hid ?_
  have HB := Lib.hid (H3.out.1.trans (hb.mono H3.out.1.size))
  clear hb hx
  go_wp2_with fail
  all_goals go_ret
  exact ⟨by rw [show L = _ from HJ.out, join_2]; first | rfl | (congr 1; try (apply ba_ext; simp [ByteArray.data_append])), HB.out⟩
set_option maxRecDepth 100000 in
set_option maxHeartbeats 2000000 in
theorem rtext_1_1 (nn mm : Int) (A : Option Addr) (n c : Nat) (bs : List Nat) (ad : ByteArray) (w : World) (hy : Bys w A n bs) (hn : n ≤ 2500) (hbs : bs.length ≤ 2500) (ha : ad.size ≤ 5000) (n0 : -9223372036854775808 ≤ nn) (n1 : nn ≤ 9223372036854775807) (m0 : -9223372036854775808 ≤ mm) (m1 : mm ≤ 9223372036854775807) :
    Calls Tryd.prog 17 #[.agg #[.int .i64 1, .int .i64 1, .int .i64 0, .int .i64 0, .slice A n c, .string ⟨#[]⟩]] w fun e w' => e = .returned (.string (lineP ⟨1, 1, 0, 0, bs, em⟩)) ∧ Below w.heap.size w w' := by
  have HJ := Lib.hid (show lineP ⟨1, 1, 0, 0, bs, em⟩ = joinS [(⟨#[115, 101, 110, 100]⟩ : ByteArray), ⟨#[115, 101, 114, 118, 101, 114]⟩, hexS bs] from rfl)
  obtain ⟨L, hL⟩ : ∃ l, lineP ⟨1, 1, 0, 0, bs, em⟩ = l := ⟨_, rfl⟩
  rw [hL] at HJ ⊢
  have b2 : Below w.heap.size w ((w.alloc (.cells #[.int .i64 1, .int .i64 1, .int .i64 0, .int .i64 0, .slice A n c, .string ⟨#[]⟩] 24)).alloc (.cells #[.string ⟨#[99, 108, 105, 101, 110, 116]⟩, .string ⟨#[115, 101, 114, 118, 101, 114]⟩] 9)) := ((Below.refl _ w).alloc (Nat.le_refl _) _).alloc (by simp) _
  have kx := (Blk.new w 24 #[.int .i64 1, .int .i64 1, .int .i64 0, .int .i64 0, .slice A n c, .string ⟨#[]⟩]).alloc (.cells #[.string ⟨#[99, 108, 105, 101, 110, 116]⟩, .string ⟨#[115, 101, 114, 118, 101, 114]⟩] 9)
  have hd := dec_below 0 ((w.alloc (.cells #[.int .i64 1, .int .i64 1, .int .i64 0, .int .i64 0, .slice A n c, .string ⟨#[]⟩] 24)).alloc (.cells #[.string ⟨#[99, 108, 105, 101, 110, 116]⟩, .string ⟨#[115, 101, 114, 118, 101, 114]⟩] 9)) (by omega) (by omega)
  have HM := Lib.hid (fun W => dec_below 0 W (by omega) (by omega))
  have HX := Lib.hid (show ∀ W, Below w.heap.size w W → Calls Tryd.prog 24 #[.slice A n c] W fun e w' => e = .returned (.string (hexS bs)) ∧ Below W.heap.size W w' from fun W hW => rhex_any A n c bs W (hy.below hW) (by omega))
  have zn : (itS 0).size ≤ 21 := itS_le _ (by omega) (by omega)
  have zm : (itS 0).size ≤ 21 := itS_le _ (by omega) (by omega)
  have zx : (hexS bs).size ≤ 5000 := by
    unfold hexS
    split
    · decide
    · rw [str_size, hexL_len]; omega
  have H2 := Lib.hid (And.intro b2 kx)
  obtain ⟨NN, hNN⟩ : ∃ s, itS 0 = s := ⟨_, rfl⟩
  rw [hNN] at hd zn
  obtain ⟨HH, hHH⟩ : ∃ s, hexS bs = s := ⟨_, rfl⟩
  rw [hHH] at HX zx
  rw [hHH] at HJ
  
  clear b2 kx hy hL hNN hHH
  go_enter Tryd.func17, Tryd.ntmps17
  go_wp2_with (go_at_call 31; refine hd.mono ?_; rintro _ w3 ⟨rfl, hb⟩; refine Hid.out ?_)
  refine Lib.hid ?_
  have H3 := Lib.hid (And.intro (H2.out.1.trans (hb.mono H2.out.1.size)) (H2.out.2.below hb H2.out.2.lt))
  have d0 : w3.cell? ⟨w.heap.size, 0, none⟩ = some (.int .i64 1) := (H3.out.2.cell 0).trans rfl
  have d3 : w3.cell? ⟨w.heap.size, 3, none⟩ = some (.int .i64 0) := (H3.out.2.cell 3).trans rfl
  have d4 : w3.cell? ⟨w.heap.size, 4, none⟩ = some (.slice A n c) := (H3.out.2.cell 4).trans rfl
  have d5 : w3.cell? ⟨w.heap.size, 5, none⟩ = some (.string ⟨#[]⟩) := (H3.out.2.cell 5).trans rfl
  have hlt3 := H3.out.2.lt
  clear hb hd H2
  have hx := HX.out w3 H3.out.1
  go_wp2_with (go_at_call 24; refine hx.mono ?_; rintro _ w4 ⟨rfl, hb⟩; refine Hid.out ?_)
  refine Lib.hid ?_
  have HB := Lib.hid (H3.out.1.trans (hb.mono H3.out.1.size))
  clear hb hx
  go_wp2_with fail
  all_goals go_ret
  exact ⟨by rw [show L = _ from HJ.out, join_2]; first | rfl | (congr 1; try (apply ba_ext; simp [ByteArray.data_append])), HB.out⟩
set_option maxRecDepth 100000 in
set_option maxHeartbeats 2000000 in
theorem rtext_2_0 (nn mm : Int) (A : Option Addr) (n c : Nat) (bs : List Nat) (ad : ByteArray) (w : World) (hy : Bys w A n bs) (hn : n ≤ 2500) (hbs : bs.length ≤ 2500) (ha : ad.size ≤ 5000) (n0 : -9223372036854775808 ≤ nn) (n1 : nn ≤ 9223372036854775807) (m0 : -9223372036854775808 ≤ mm) (m1 : mm ≤ 9223372036854775807) :
    Calls Tryd.prog 17 #[.agg #[.int .i64 2, .int .i64 0, .int .i64 nn, .int .i64 0, .slice A n c, .string ⟨#[]⟩]] w fun e w' => e = .returned (.string (lineP ⟨2, 0, nn, 0, [], em⟩)) ∧ Below w.heap.size w w' := by
  have HJ := Lib.hid (show lineP ⟨2, 0, nn, 0, [], em⟩ = joinS [(⟨#[116, 105, 99, 107]⟩ : ByteArray), itS nn] from rfl)
  obtain ⟨L, hL⟩ : ∃ l, lineP ⟨2, 0, nn, 0, [], em⟩ = l := ⟨_, rfl⟩
  rw [hL] at HJ ⊢
  have b2 : Below w.heap.size w ((w.alloc (.cells #[.int .i64 2, .int .i64 0, .int .i64 nn, .int .i64 0, .slice A n c, .string ⟨#[]⟩] 24)).alloc (.cells #[.string ⟨#[99, 108, 105, 101, 110, 116]⟩, .string ⟨#[115, 101, 114, 118, 101, 114]⟩] 9)) := ((Below.refl _ w).alloc (Nat.le_refl _) _).alloc (by simp) _
  have kx := (Blk.new w 24 #[.int .i64 2, .int .i64 0, .int .i64 nn, .int .i64 0, .slice A n c, .string ⟨#[]⟩]).alloc (.cells #[.string ⟨#[99, 108, 105, 101, 110, 116]⟩, .string ⟨#[115, 101, 114, 118, 101, 114]⟩] 9)
  have hd := dec_below nn ((w.alloc (.cells #[.int .i64 2, .int .i64 0, .int .i64 nn, .int .i64 0, .slice A n c, .string ⟨#[]⟩] 24)).alloc (.cells #[.string ⟨#[99, 108, 105, 101, 110, 116]⟩, .string ⟨#[115, 101, 114, 118, 101, 114]⟩] 9)) (by omega) (by omega)
  have HM := Lib.hid (fun W => dec_below 0 W (by omega) (by omega))
  have HX := Lib.hid (show ∀ W, Below w.heap.size w W → Calls Tryd.prog 24 #[.slice A n c] W fun e w' => e = .returned (.string (hexS bs)) ∧ Below W.heap.size W w' from fun W hW => rhex_any A n c bs W (hy.below hW) (by omega))
  have zn : (itS nn).size ≤ 21 := itS_le _ (by omega) (by omega)
  have zm : (itS 0).size ≤ 21 := itS_le _ (by omega) (by omega)
  have zx : (hexS bs).size ≤ 5000 := by
    unfold hexS
    split
    · decide
    · rw [str_size, hexL_len]; omega
  have H2 := Lib.hid (And.intro b2 kx)
  obtain ⟨NN, hNN⟩ : ∃ s, itS nn = s := ⟨_, rfl⟩
  rw [hNN] at hd zn
  obtain ⟨HH, hHH⟩ : ∃ s, hexS bs = s := ⟨_, rfl⟩
  rw [hHH] at HX zx
  
  rw [hNN] at HJ
  clear b2 kx hy hL hNN hHH
  go_enter Tryd.func17, Tryd.ntmps17
  go_wp2_with (go_at_call 31; refine hd.mono ?_; rintro _ w3 ⟨rfl, hb⟩; refine Hid.out ?_)
  refine Lib.hid ?_
  have H3 := Lib.hid (And.intro (H2.out.1.trans (hb.mono H2.out.1.size)) (H2.out.2.below hb H2.out.2.lt))
  have d0 : w3.cell? ⟨w.heap.size, 0, none⟩ = some (.int .i64 2) := (H3.out.2.cell 0).trans rfl
  have d3 : w3.cell? ⟨w.heap.size, 3, none⟩ = some (.int .i64 0) := (H3.out.2.cell 3).trans rfl
  have d4 : w3.cell? ⟨w.heap.size, 4, none⟩ = some (.slice A n c) := (H3.out.2.cell 4).trans rfl
  have d5 : w3.cell? ⟨w.heap.size, 5, none⟩ = some (.string ⟨#[]⟩) := (H3.out.2.cell 5).trans rfl
  have hlt3 := H3.out.2.lt
  clear hb hd H2
  have HB := Lib.hid H3.out.1
  go_wp2_with fail
  all_goals go_ret
  exact ⟨by rw [show L = _ from HJ.out, join_1]; first | rfl | (congr 1; try (apply ba_ext; simp [ByteArray.data_append])), HB.out⟩
set_option maxRecDepth 100000 in
set_option maxHeartbeats 2000000 in
theorem rtext_3_0 (nn mm : Int) (A : Option Addr) (n c : Nat) (bs : List Nat) (ad : ByteArray) (w : World) (hy : Bys w A n bs) (hn : n ≤ 2500) (hbs : bs.length ≤ 2500) (ha : ad.size ≤ 5000) (n0 : -9223372036854775808 ≤ nn) (n1 : nn ≤ 9223372036854775807) (m0 : -9223372036854775808 ≤ mm) (m1 : mm ≤ 9223372036854775807) :
    Calls Tryd.prog 17 #[.agg #[.int .i64 3, .int .i64 0, .int .i64 nn, .int .i64 0, .slice A n c, .string ⟨#[]⟩]] w fun e w' => e = .returned (.string (lineP ⟨3, 0, nn, 0, [], em⟩)) ∧ Below w.heap.size w w' := by
  have HJ := Lib.hid (show lineP ⟨3, 0, nn, 0, [], em⟩ = joinS [(⟨#[100, 101, 108, 105, 118, 101, 114]⟩ : ByteArray), itS nn] from rfl)
  obtain ⟨L, hL⟩ : ∃ l, lineP ⟨3, 0, nn, 0, [], em⟩ = l := ⟨_, rfl⟩
  rw [hL] at HJ ⊢
  have b2 : Below w.heap.size w ((w.alloc (.cells #[.int .i64 3, .int .i64 0, .int .i64 nn, .int .i64 0, .slice A n c, .string ⟨#[]⟩] 24)).alloc (.cells #[.string ⟨#[99, 108, 105, 101, 110, 116]⟩, .string ⟨#[115, 101, 114, 118, 101, 114]⟩] 9)) := ((Below.refl _ w).alloc (Nat.le_refl _) _).alloc (by simp) _
  have kx := (Blk.new w 24 #[.int .i64 3, .int .i64 0, .int .i64 nn, .int .i64 0, .slice A n c, .string ⟨#[]⟩]).alloc (.cells #[.string ⟨#[99, 108, 105, 101, 110, 116]⟩, .string ⟨#[115, 101, 114, 118, 101, 114]⟩] 9)
  have hd := dec_below nn ((w.alloc (.cells #[.int .i64 3, .int .i64 0, .int .i64 nn, .int .i64 0, .slice A n c, .string ⟨#[]⟩] 24)).alloc (.cells #[.string ⟨#[99, 108, 105, 101, 110, 116]⟩, .string ⟨#[115, 101, 114, 118, 101, 114]⟩] 9)) (by omega) (by omega)
  have HM := Lib.hid (fun W => dec_below 0 W (by omega) (by omega))
  have HX := Lib.hid (show ∀ W, Below w.heap.size w W → Calls Tryd.prog 24 #[.slice A n c] W fun e w' => e = .returned (.string (hexS bs)) ∧ Below W.heap.size W w' from fun W hW => rhex_any A n c bs W (hy.below hW) (by omega))
  have zn : (itS nn).size ≤ 21 := itS_le _ (by omega) (by omega)
  have zm : (itS 0).size ≤ 21 := itS_le _ (by omega) (by omega)
  have zx : (hexS bs).size ≤ 5000 := by
    unfold hexS
    split
    · decide
    · rw [str_size, hexL_len]; omega
  have H2 := Lib.hid (And.intro b2 kx)
  obtain ⟨NN, hNN⟩ : ∃ s, itS nn = s := ⟨_, rfl⟩
  rw [hNN] at hd zn
  obtain ⟨HH, hHH⟩ : ∃ s, hexS bs = s := ⟨_, rfl⟩
  rw [hHH] at HX zx
  
  rw [hNN] at HJ
  clear b2 kx hy hL hNN hHH
  go_enter Tryd.func17, Tryd.ntmps17
  go_wp2_with (go_at_call 31; refine hd.mono ?_; rintro _ w3 ⟨rfl, hb⟩; refine Hid.out ?_)
  refine Lib.hid ?_
  have H3 := Lib.hid (And.intro (H2.out.1.trans (hb.mono H2.out.1.size)) (H2.out.2.below hb H2.out.2.lt))
  have d0 : w3.cell? ⟨w.heap.size, 0, none⟩ = some (.int .i64 3) := (H3.out.2.cell 0).trans rfl
  have d3 : w3.cell? ⟨w.heap.size, 3, none⟩ = some (.int .i64 0) := (H3.out.2.cell 3).trans rfl
  have d4 : w3.cell? ⟨w.heap.size, 4, none⟩ = some (.slice A n c) := (H3.out.2.cell 4).trans rfl
  have d5 : w3.cell? ⟨w.heap.size, 5, none⟩ = some (.string ⟨#[]⟩) := (H3.out.2.cell 5).trans rfl
  have hlt3 := H3.out.2.lt
  clear hb hd H2
  have HB := Lib.hid H3.out.1
  go_wp2_with fail
  all_goals go_ret
  exact ⟨by rw [show L = _ from HJ.out, join_1]; first | rfl | (congr 1; try (apply ba_ext; simp [ByteArray.data_append])), HB.out⟩
set_option maxRecDepth 100000 in
set_option maxHeartbeats 2000000 in
theorem rtext_4_0 (nn mm : Int) (A : Option Addr) (n c : Nat) (bs : List Nat) (ad : ByteArray) (w : World) (hy : Bys w A n bs) (hn : n ≤ 2500) (hbs : bs.length ≤ 2500) (ha : ad.size ≤ 5000) (n0 : -9223372036854775808 ≤ nn) (n1 : nn ≤ 9223372036854775807) (m0 : -9223372036854775808 ≤ mm) (m1 : mm ≤ 9223372036854775807) :
    Calls Tryd.prog 17 #[.agg #[.int .i64 4, .int .i64 0, .int .i64 nn, .int .i64 0, .slice A n c, .string ⟨#[]⟩]] w fun e w' => e = .returned (.string (lineP ⟨4, 0, nn, 0, [], em⟩)) ∧ Below w.heap.size w w' := by
  have HJ := Lib.hid (show lineP ⟨4, 0, nn, 0, [], em⟩ = joinS [(⟨#[100, 114, 111, 112]⟩ : ByteArray), itS nn] from rfl)
  obtain ⟨L, hL⟩ : ∃ l, lineP ⟨4, 0, nn, 0, [], em⟩ = l := ⟨_, rfl⟩
  rw [hL] at HJ ⊢
  have b2 : Below w.heap.size w ((w.alloc (.cells #[.int .i64 4, .int .i64 0, .int .i64 nn, .int .i64 0, .slice A n c, .string ⟨#[]⟩] 24)).alloc (.cells #[.string ⟨#[99, 108, 105, 101, 110, 116]⟩, .string ⟨#[115, 101, 114, 118, 101, 114]⟩] 9)) := ((Below.refl _ w).alloc (Nat.le_refl _) _).alloc (by simp) _
  have kx := (Blk.new w 24 #[.int .i64 4, .int .i64 0, .int .i64 nn, .int .i64 0, .slice A n c, .string ⟨#[]⟩]).alloc (.cells #[.string ⟨#[99, 108, 105, 101, 110, 116]⟩, .string ⟨#[115, 101, 114, 118, 101, 114]⟩] 9)
  have hd := dec_below nn ((w.alloc (.cells #[.int .i64 4, .int .i64 0, .int .i64 nn, .int .i64 0, .slice A n c, .string ⟨#[]⟩] 24)).alloc (.cells #[.string ⟨#[99, 108, 105, 101, 110, 116]⟩, .string ⟨#[115, 101, 114, 118, 101, 114]⟩] 9)) (by omega) (by omega)
  have HM := Lib.hid (fun W => dec_below 0 W (by omega) (by omega))
  have HX := Lib.hid (show ∀ W, Below w.heap.size w W → Calls Tryd.prog 24 #[.slice A n c] W fun e w' => e = .returned (.string (hexS bs)) ∧ Below W.heap.size W w' from fun W hW => rhex_any A n c bs W (hy.below hW) (by omega))
  have zn : (itS nn).size ≤ 21 := itS_le _ (by omega) (by omega)
  have zm : (itS 0).size ≤ 21 := itS_le _ (by omega) (by omega)
  have zx : (hexS bs).size ≤ 5000 := by
    unfold hexS
    split
    · decide
    · rw [str_size, hexL_len]; omega
  have H2 := Lib.hid (And.intro b2 kx)
  obtain ⟨NN, hNN⟩ : ∃ s, itS nn = s := ⟨_, rfl⟩
  rw [hNN] at hd zn
  obtain ⟨HH, hHH⟩ : ∃ s, hexS bs = s := ⟨_, rfl⟩
  rw [hHH] at HX zx
  
  rw [hNN] at HJ
  clear b2 kx hy hL hNN hHH
  go_enter Tryd.func17, Tryd.ntmps17
  go_wp2_with (go_at_call 31; refine hd.mono ?_; rintro _ w3 ⟨rfl, hb⟩; refine Hid.out ?_)
  refine Lib.hid ?_
  have H3 := Lib.hid (And.intro (H2.out.1.trans (hb.mono H2.out.1.size)) (H2.out.2.below hb H2.out.2.lt))
  have d0 : w3.cell? ⟨w.heap.size, 0, none⟩ = some (.int .i64 4) := (H3.out.2.cell 0).trans rfl
  have d3 : w3.cell? ⟨w.heap.size, 3, none⟩ = some (.int .i64 0) := (H3.out.2.cell 3).trans rfl
  have d4 : w3.cell? ⟨w.heap.size, 4, none⟩ = some (.slice A n c) := (H3.out.2.cell 4).trans rfl
  have d5 : w3.cell? ⟨w.heap.size, 5, none⟩ = some (.string ⟨#[]⟩) := (H3.out.2.cell 5).trans rfl
  have hlt3 := H3.out.2.lt
  clear hb hd H2
  have HB := Lib.hid H3.out.1
  go_wp2_with fail
  all_goals go_ret
  exact ⟨by rw [show L = _ from HJ.out, join_1]; first | rfl | (congr 1; try (apply ba_ext; simp [ByteArray.data_append])), HB.out⟩
set_option maxRecDepth 100000 in
set_option maxHeartbeats 2000000 in
theorem rtext_5_0 (nn mm : Int) (A : Option Addr) (n c : Nat) (bs : List Nat) (ad : ByteArray) (w : World) (hy : Bys w A n bs) (hn : n ≤ 2500) (hbs : bs.length ≤ 2500) (ha : ad.size ≤ 5000) (n0 : -9223372036854775808 ≤ nn) (n1 : nn ≤ 9223372036854775807) (m0 : -9223372036854775808 ≤ mm) (m1 : mm ≤ 9223372036854775807) :
    Calls Tryd.prog 17 #[.agg #[.int .i64 5, .int .i64 0, .int .i64 nn, .int .i64 0, .slice A n c, .string ⟨#[]⟩]] w fun e w' => e = .returned (.string (lineP ⟨5, 0, nn, 0, [], em⟩)) ∧ Below w.heap.size w w' := by
  have HJ := Lib.hid (show lineP ⟨5, 0, nn, 0, [], em⟩ = joinS [(⟨#[99, 111, 112, 121]⟩ : ByteArray), itS nn] from rfl)
  obtain ⟨L, hL⟩ : ∃ l, lineP ⟨5, 0, nn, 0, [], em⟩ = l := ⟨_, rfl⟩
  rw [hL] at HJ ⊢
  have b2 : Below w.heap.size w ((w.alloc (.cells #[.int .i64 5, .int .i64 0, .int .i64 nn, .int .i64 0, .slice A n c, .string ⟨#[]⟩] 24)).alloc (.cells #[.string ⟨#[99, 108, 105, 101, 110, 116]⟩, .string ⟨#[115, 101, 114, 118, 101, 114]⟩] 9)) := ((Below.refl _ w).alloc (Nat.le_refl _) _).alloc (by simp) _
  have kx := (Blk.new w 24 #[.int .i64 5, .int .i64 0, .int .i64 nn, .int .i64 0, .slice A n c, .string ⟨#[]⟩]).alloc (.cells #[.string ⟨#[99, 108, 105, 101, 110, 116]⟩, .string ⟨#[115, 101, 114, 118, 101, 114]⟩] 9)
  have hd := dec_below nn ((w.alloc (.cells #[.int .i64 5, .int .i64 0, .int .i64 nn, .int .i64 0, .slice A n c, .string ⟨#[]⟩] 24)).alloc (.cells #[.string ⟨#[99, 108, 105, 101, 110, 116]⟩, .string ⟨#[115, 101, 114, 118, 101, 114]⟩] 9)) (by omega) (by omega)
  have HM := Lib.hid (fun W => dec_below 0 W (by omega) (by omega))
  have HX := Lib.hid (show ∀ W, Below w.heap.size w W → Calls Tryd.prog 24 #[.slice A n c] W fun e w' => e = .returned (.string (hexS bs)) ∧ Below W.heap.size W w' from fun W hW => rhex_any A n c bs W (hy.below hW) (by omega))
  have zn : (itS nn).size ≤ 21 := itS_le _ (by omega) (by omega)
  have zm : (itS 0).size ≤ 21 := itS_le _ (by omega) (by omega)
  have zx : (hexS bs).size ≤ 5000 := by
    unfold hexS
    split
    · decide
    · rw [str_size, hexL_len]; omega
  have H2 := Lib.hid (And.intro b2 kx)
  obtain ⟨NN, hNN⟩ : ∃ s, itS nn = s := ⟨_, rfl⟩
  rw [hNN] at hd zn
  obtain ⟨HH, hHH⟩ : ∃ s, hexS bs = s := ⟨_, rfl⟩
  rw [hHH] at HX zx
  
  rw [hNN] at HJ
  clear b2 kx hy hL hNN hHH
  go_enter Tryd.func17, Tryd.ntmps17
  go_wp2_with (go_at_call 31; refine hd.mono ?_; rintro _ w3 ⟨rfl, hb⟩; refine Hid.out ?_)
  refine Lib.hid ?_
  have H3 := Lib.hid (And.intro (H2.out.1.trans (hb.mono H2.out.1.size)) (H2.out.2.below hb H2.out.2.lt))
  have d0 : w3.cell? ⟨w.heap.size, 0, none⟩ = some (.int .i64 5) := (H3.out.2.cell 0).trans rfl
  have d3 : w3.cell? ⟨w.heap.size, 3, none⟩ = some (.int .i64 0) := (H3.out.2.cell 3).trans rfl
  have d4 : w3.cell? ⟨w.heap.size, 4, none⟩ = some (.slice A n c) := (H3.out.2.cell 4).trans rfl
  have d5 : w3.cell? ⟨w.heap.size, 5, none⟩ = some (.string ⟨#[]⟩) := (H3.out.2.cell 5).trans rfl
  have hlt3 := H3.out.2.lt
  clear hb hd H2
  have HB := Lib.hid H3.out.1
  go_wp2_with fail
  all_goals go_ret
  exact ⟨by rw [show L = _ from HJ.out, join_1]; first | rfl | (congr 1; try (apply ba_ext; simp [ByteArray.data_append])), HB.out⟩
set_option maxRecDepth 100000 in
set_option maxHeartbeats 2000000 in
theorem rtext_6_0 (nn mm : Int) (A : Option Addr) (n c : Nat) (bs : List Nat) (ad : ByteArray) (w : World) (hy : Bys w A n bs) (hn : n ≤ 2500) (hbs : bs.length ≤ 2500) (ha : ad.size ≤ 5000) (n0 : -9223372036854775808 ≤ nn) (n1 : nn ≤ 9223372036854775807) (m0 : -9223372036854775808 ≤ mm) (m1 : mm ≤ 9223372036854775807) :
    Calls Tryd.prog 17 #[.agg #[.int .i64 6, .int .i64 0, .int .i64 nn, .int .i64 mm, .slice A n c, .string ⟨#[]⟩]] w fun e w' => e = .returned (.string (lineP ⟨6, 0, nn, mm, [], em⟩)) ∧ Below w.heap.size w w' := by
  have HJ := Lib.hid (show lineP ⟨6, 0, nn, mm, [], em⟩ = joinS [(⟨#[115, 119, 97, 112]⟩ : ByteArray), itS nn, itS mm] from rfl)
  obtain ⟨L, hL⟩ : ∃ l, lineP ⟨6, 0, nn, mm, [], em⟩ = l := ⟨_, rfl⟩
  rw [hL] at HJ ⊢
  have b2 : Below w.heap.size w ((w.alloc (.cells #[.int .i64 6, .int .i64 0, .int .i64 nn, .int .i64 mm, .slice A n c, .string ⟨#[]⟩] 24)).alloc (.cells #[.string ⟨#[99, 108, 105, 101, 110, 116]⟩, .string ⟨#[115, 101, 114, 118, 101, 114]⟩] 9)) := ((Below.refl _ w).alloc (Nat.le_refl _) _).alloc (by simp) _
  have kx := (Blk.new w 24 #[.int .i64 6, .int .i64 0, .int .i64 nn, .int .i64 mm, .slice A n c, .string ⟨#[]⟩]).alloc (.cells #[.string ⟨#[99, 108, 105, 101, 110, 116]⟩, .string ⟨#[115, 101, 114, 118, 101, 114]⟩] 9)
  have hd := dec_below nn ((w.alloc (.cells #[.int .i64 6, .int .i64 0, .int .i64 nn, .int .i64 mm, .slice A n c, .string ⟨#[]⟩] 24)).alloc (.cells #[.string ⟨#[99, 108, 105, 101, 110, 116]⟩, .string ⟨#[115, 101, 114, 118, 101, 114]⟩] 9)) (by omega) (by omega)
  have HM := Lib.hid (fun W => dec_below mm W (by omega) (by omega))
  have HX := Lib.hid (show ∀ W, Below w.heap.size w W → Calls Tryd.prog 24 #[.slice A n c] W fun e w' => e = .returned (.string (hexS bs)) ∧ Below W.heap.size W w' from fun W hW => rhex_any A n c bs W (hy.below hW) (by omega))
  have zn : (itS nn).size ≤ 21 := itS_le _ (by omega) (by omega)
  have zm : (itS mm).size ≤ 21 := itS_le _ (by omega) (by omega)
  have zx : (hexS bs).size ≤ 5000 := by
    unfold hexS
    split
    · decide
    · rw [str_size, hexL_len]; omega
  have H2 := Lib.hid (And.intro b2 kx)
  obtain ⟨NN, hNN⟩ : ∃ s, itS nn = s := ⟨_, rfl⟩
  rw [hNN] at hd zn
  obtain ⟨HH, hHH⟩ : ∃ s, hexS bs = s := ⟨_, rfl⟩
  rw [hHH] at HX zx
  
  rw [hNN] at HJ
  clear b2 kx hy hL hNN hHH
  go_enter Tryd.func17, Tryd.ntmps17
  go_wp2_with (go_at_call 31; refine hd.mono ?_; rintro _ w3 ⟨rfl, hb⟩; refine Hid.out ?_)
  refine Lib.hid ?_
  have H3 := Lib.hid (And.intro (H2.out.1.trans (hb.mono H2.out.1.size)) (H2.out.2.below hb H2.out.2.lt))
  have d0 : w3.cell? ⟨w.heap.size, 0, none⟩ = some (.int .i64 6) := (H3.out.2.cell 0).trans rfl
  have d3 : w3.cell? ⟨w.heap.size, 3, none⟩ = some (.int .i64 mm) := (H3.out.2.cell 3).trans rfl
  have d4 : w3.cell? ⟨w.heap.size, 4, none⟩ = some (.slice A n c) := (H3.out.2.cell 4).trans rfl
  have d5 : w3.cell? ⟨w.heap.size, 5, none⟩ = some (.string ⟨#[]⟩) := (H3.out.2.cell 5).trans rfl
  have hlt3 := H3.out.2.lt
  clear hb hd H2
  have hx := HM.out w3
  obtain ⟨MM, hMM⟩ : ∃ s, itS mm = s := ⟨_, rfl⟩
  rw [hMM] at hx zm HJ
  clear hMM
  go_wp2_with (go_at_call 31; refine hx.mono ?_; rintro _ w4 ⟨rfl, hb⟩; refine Hid.out ?_)
  refine Lib.hid ?_
  have HB := Lib.hid (H3.out.1.trans (hb.mono H3.out.1.size))
  clear hb hx
  go_wp2_with fail
  all_goals go_ret
  exact ⟨by rw [show L = _ from HJ.out, join_2]; first | rfl | (congr 1; try (apply ba_ext; simp [ByteArray.data_append])), HB.out⟩
set_option maxRecDepth 100000 in
set_option maxHeartbeats 2000000 in
theorem rtext_7_0 (nn mm : Int) (A : Option Addr) (n c : Nat) (bs : List Nat) (ad : ByteArray) (w : World) (hy : Bys w A n bs) (hn : n ≤ 2500) (hbs : bs.length ≤ 2500) (ha : ad.size ≤ 5000) (n0 : -9223372036854775808 ≤ nn) (n1 : nn ≤ 9223372036854775807) (m0 : -9223372036854775808 ≤ mm) (m1 : mm ≤ 9223372036854775807) :
    Calls Tryd.prog 17 #[.agg #[.int .i64 7, .int .i64 0, .int .i64 0, .int .i64 0, .slice A n c, .string ad]] w fun e w' => e = .returned (.string (lineP ⟨7, 0, 0, 0, bs, ad⟩)) ∧ Below w.heap.size w w' := by
  have HJ := Lib.hid (show lineP ⟨7, 0, 0, 0, bs, ad⟩ = joinS [(⟨#[105, 110, 106, 101, 99, 116]⟩ : ByteArray), ⟨#[99, 108, 105, 101, 110, 116]⟩, ad, hexS bs] from rfl)
  obtain ⟨L, hL⟩ : ∃ l, lineP ⟨7, 0, 0, 0, bs, ad⟩ = l := ⟨_, rfl⟩
  rw [hL] at HJ ⊢
  have b2 : Below w.heap.size w ((w.alloc (.cells #[.int .i64 7, .int .i64 0, .int .i64 0, .int .i64 0, .slice A n c, .string ad] 24)).alloc (.cells #[.string ⟨#[99, 108, 105, 101, 110, 116]⟩, .string ⟨#[115, 101, 114, 118, 101, 114]⟩] 9)) := ((Below.refl _ w).alloc (Nat.le_refl _) _).alloc (by simp) _
  have kx := (Blk.new w 24 #[.int .i64 7, .int .i64 0, .int .i64 0, .int .i64 0, .slice A n c, .string ad]).alloc (.cells #[.string ⟨#[99, 108, 105, 101, 110, 116]⟩, .string ⟨#[115, 101, 114, 118, 101, 114]⟩] 9)
  have hd := dec_below 0 ((w.alloc (.cells #[.int .i64 7, .int .i64 0, .int .i64 0, .int .i64 0, .slice A n c, .string ad] 24)).alloc (.cells #[.string ⟨#[99, 108, 105, 101, 110, 116]⟩, .string ⟨#[115, 101, 114, 118, 101, 114]⟩] 9)) (by omega) (by omega)
  have HM := Lib.hid (fun W => dec_below 0 W (by omega) (by omega))
  have HX := Lib.hid (show ∀ W, Below w.heap.size w W → Calls Tryd.prog 24 #[.slice A n c] W fun e w' => e = .returned (.string (hexS bs)) ∧ Below W.heap.size W w' from fun W hW => rhex_any A n c bs W (hy.below hW) (by omega))
  have zn : (itS 0).size ≤ 21 := itS_le _ (by omega) (by omega)
  have zm : (itS 0).size ≤ 21 := itS_le _ (by omega) (by omega)
  have zx : (hexS bs).size ≤ 5000 := by
    unfold hexS
    split
    · decide
    · rw [str_size, hexL_len]; omega
  have H2 := Lib.hid (And.intro b2 kx)
  obtain ⟨NN, hNN⟩ : ∃ s, itS 0 = s := ⟨_, rfl⟩
  rw [hNN] at hd zn
  obtain ⟨HH, hHH⟩ : ∃ s, hexS bs = s := ⟨_, rfl⟩
  rw [hHH] at HX zx
  rw [hHH] at HJ
  
  clear b2 kx hy hL hNN hHH
  go_enter Tryd.func17, Tryd.ntmps17
  go_wp2_with (go_at_call 31; refine hd.mono ?_; rintro _ w3 ⟨rfl, hb⟩; refine Hid.out ?_)
  refine Lib.hid ?_
  have H3 := Lib.hid (And.intro (H2.out.1.trans (hb.mono H2.out.1.size)) (H2.out.2.below hb H2.out.2.lt))
  have d0 : w3.cell? ⟨w.heap.size, 0, none⟩ = some (.int .i64 7) := (H3.out.2.cell 0).trans rfl
  have d3 : w3.cell? ⟨w.heap.size, 3, none⟩ = some (.int .i64 0) := (H3.out.2.cell 3).trans rfl
  have d4 : w3.cell? ⟨w.heap.size, 4, none⟩ = some (.slice A n c) := (H3.out.2.cell 4).trans rfl
  have d5 : w3.cell? ⟨w.heap.size, 5, none⟩ = some (.string ad) := (H3.out.2.cell 5).trans rfl
  have hlt3 := H3.out.2.lt
  clear hb hd H2
  have hreg : ∀ d os, Below w.heap.size w (grow (redrawn w3 d) os) := fun d os => H3.out.1.trans ((below_regrown w3 d os).mono H3.out.1.size)
  have e4 := cell_regrown d4
  have e5 := cell_regrown d5
  have hx := fun d os => HX.out _ (hreg d os)
  have s1 : (9223372036854775807 < 14 + ad.size) = False := eq_false (by omega)
  have s2 : (9223372036854775807 < 14 + ad.size + 1) = False := eq_false (by omega)
  have s3 : (9223372036854775807 < 15 + ad.size) = False := eq_false (by omega)
  go_wp2_with fail
  refine wp_region_tail_below 10 (by kernel_rfl) (by kernel_rfl) ?_
  simp only [List.take_succ_cons, List.take_zero, List.drop_succ_cons, List.drop_zero]
  repeat (first
    | go_big_quiet_skip
    | quiet_step ((go_at_call 24; with_reducible exact Calls.regrown_of (hx _ _))))
  refine wpQuiet_nil ?_
  rintro _ ⟨⟨dq, osq⟩, rfl⟩
  have HB := Lib.hid (hreg dq osq)
  clear hreg e4 e5 d0 d3 d4 d5 hx s1 s2 s3
  generalize grow (redrawn w3 dq) osq = w4 at *
  go_wp2_with fail
  all_goals go_ret
  exact ⟨by rw [show L = _ from HJ.out, join_3]; first | rfl | (congr 1; try (apply ba_ext; simp [ByteArray.data_append])), HB.out⟩
set_option maxRecDepth 100000 in
set_option maxHeartbeats 2000000 in
theorem rtext_7_1 (nn mm : Int) (A : Option Addr) (n c : Nat) (bs : List Nat) (ad : ByteArray) (w : World) (hy : Bys w A n bs) (hn : n ≤ 2500) (hbs : bs.length ≤ 2500) (ha : ad.size ≤ 5000) (n0 : -9223372036854775808 ≤ nn) (n1 : nn ≤ 9223372036854775807) (m0 : -9223372036854775808 ≤ mm) (m1 : mm ≤ 9223372036854775807) :
    Calls Tryd.prog 17 #[.agg #[.int .i64 7, .int .i64 1, .int .i64 0, .int .i64 0, .slice A n c, .string ad]] w fun e w' => e = .returned (.string (lineP ⟨7, 1, 0, 0, bs, ad⟩)) ∧ Below w.heap.size w w' := by
  have HJ := Lib.hid (show lineP ⟨7, 1, 0, 0, bs, ad⟩ = joinS [(⟨#[105, 110, 106, 101, 99, 116]⟩ : ByteArray), ⟨#[115, 101, 114, 118, 101, 114]⟩, ad, hexS bs] from rfl)
  obtain ⟨L, hL⟩ : ∃ l, lineP ⟨7, 1, 0, 0, bs, ad⟩ = l := ⟨_, rfl⟩
  rw [hL] at HJ ⊢
  have b2 : Below w.heap.size w ((w.alloc (.cells #[.int .i64 7, .int .i64 1, .int .i64 0, .int .i64 0, .slice A n c, .string ad] 24)).alloc (.cells #[.string ⟨#[99, 108, 105, 101, 110, 116]⟩, .string ⟨#[115, 101, 114, 118, 101, 114]⟩] 9)) := ((Below.refl _ w).alloc (Nat.le_refl _) _).alloc (by simp) _
  have kx := (Blk.new w 24 #[.int .i64 7, .int .i64 1, .int .i64 0, .int .i64 0, .slice A n c, .string ad]).alloc (.cells #[.string ⟨#[99, 108, 105, 101, 110, 116]⟩, .string ⟨#[115, 101, 114, 118, 101, 114]⟩] 9)
  have hd := dec_below 0 ((w.alloc (.cells #[.int .i64 7, .int .i64 1, .int .i64 0, .int .i64 0, .slice A n c, .string ad] 24)).alloc (.cells #[.string ⟨#[99, 108, 105, 101, 110, 116]⟩, .string ⟨#[115, 101, 114, 118, 101, 114]⟩] 9)) (by omega) (by omega)
  have HM := Lib.hid (fun W => dec_below 0 W (by omega) (by omega))
  have HX := Lib.hid (show ∀ W, Below w.heap.size w W → Calls Tryd.prog 24 #[.slice A n c] W fun e w' => e = .returned (.string (hexS bs)) ∧ Below W.heap.size W w' from fun W hW => rhex_any A n c bs W (hy.below hW) (by omega))
  have zn : (itS 0).size ≤ 21 := itS_le _ (by omega) (by omega)
  have zm : (itS 0).size ≤ 21 := itS_le _ (by omega) (by omega)
  have zx : (hexS bs).size ≤ 5000 := by
    unfold hexS
    split
    · decide
    · rw [str_size, hexL_len]; omega
  have H2 := Lib.hid (And.intro b2 kx)
  obtain ⟨NN, hNN⟩ : ∃ s, itS 0 = s := ⟨_, rfl⟩
  rw [hNN] at hd zn
  obtain ⟨HH, hHH⟩ : ∃ s, hexS bs = s := ⟨_, rfl⟩
  rw [hHH] at HX zx
  rw [hHH] at HJ
  
  clear b2 kx hy hL hNN hHH
  go_enter Tryd.func17, Tryd.ntmps17
  go_wp2_with (go_at_call 31; refine hd.mono ?_; rintro _ w3 ⟨rfl, hb⟩; refine Hid.out ?_)
  refine Lib.hid ?_
  have H3 := Lib.hid (And.intro (H2.out.1.trans (hb.mono H2.out.1.size)) (H2.out.2.below hb H2.out.2.lt))
  have d0 : w3.cell? ⟨w.heap.size, 0, none⟩ = some (.int .i64 7) := (H3.out.2.cell 0).trans rfl
  have d3 : w3.cell? ⟨w.heap.size, 3, none⟩ = some (.int .i64 0) := (H3.out.2.cell 3).trans rfl
  have d4 : w3.cell? ⟨w.heap.size, 4, none⟩ = some (.slice A n c) := (H3.out.2.cell 4).trans rfl
  have d5 : w3.cell? ⟨w.heap.size, 5, none⟩ = some (.string ad) := (H3.out.2.cell 5).trans rfl
  have hlt3 := H3.out.2.lt
  clear hb hd H2
  have hreg : ∀ d os, Below w.heap.size w (grow (redrawn w3 d) os) := fun d os => H3.out.1.trans ((below_regrown w3 d os).mono H3.out.1.size)
  have e4 := cell_regrown d4
  have e5 := cell_regrown d5
  have hx := fun d os => HX.out _ (hreg d os)
  have s1 : (9223372036854775807 < 14 + ad.size) = False := eq_false (by omega)
  have s2 : (9223372036854775807 < 14 + ad.size + 1) = False := eq_false (by omega)
  have s3 : (9223372036854775807 < 15 + ad.size) = False := eq_false (by omega)
  go_wp2_with fail
  refine wp_region_tail_below 10 (by kernel_rfl) (by kernel_rfl) ?_
  simp only [List.take_succ_cons, List.take_zero, List.drop_succ_cons, List.drop_zero]
  repeat (first
    | go_big_quiet_skip
    | quiet_step ((go_at_call 24; with_reducible exact Calls.regrown_of (hx _ _))))
  refine wpQuiet_nil ?_
  rintro _ ⟨⟨dq, osq⟩, rfl⟩
  have HB := Lib.hid (hreg dq osq)
  clear hreg e4 e5 d0 d3 d4 d5 hx s1 s2 s3
  generalize grow (redrawn w3 dq) osq = w4 at *
  go_wp2_with fail
  all_goals go_ret
  exact ⟨by rw [show L = _ from HJ.out, join_3]; first | rfl | (congr 1; try (apply ba_ext; simp [ByteArray.data_append])), HB.out⟩
set_option maxRecDepth 100000 in
set_option maxHeartbeats 2000000 in
theorem rtext_8_0 (nn mm : Int) (A : Option Addr) (n c : Nat) (bs : List Nat) (ad : ByteArray) (w : World) (hy : Bys w A n bs) (hn : n ≤ 2500) (hbs : bs.length ≤ 2500) (ha : ad.size ≤ 5000) (n0 : -9223372036854775808 ≤ nn) (n1 : nn ≤ 9223372036854775807) (m0 : -9223372036854775808 ≤ mm) (m1 : mm ≤ 9223372036854775807) :
    Calls Tryd.prog 17 #[.agg #[.int .i64 8, .int .i64 0, .int .i64 0, .int .i64 0, .slice A n c, .string ad]] w fun e w' => e = .returned (.string (lineP ⟨8, 0, 0, 0, [], ad⟩)) ∧ Below w.heap.size w w' := by
  have HJ := Lib.hid (show lineP ⟨8, 0, 0, 0, [], ad⟩ = joinS [(⟨#[109, 111, 118, 101]⟩ : ByteArray), ad] from rfl)
  obtain ⟨L, hL⟩ : ∃ l, lineP ⟨8, 0, 0, 0, [], ad⟩ = l := ⟨_, rfl⟩
  rw [hL] at HJ ⊢
  have b2 : Below w.heap.size w ((w.alloc (.cells #[.int .i64 8, .int .i64 0, .int .i64 0, .int .i64 0, .slice A n c, .string ad] 24)).alloc (.cells #[.string ⟨#[99, 108, 105, 101, 110, 116]⟩, .string ⟨#[115, 101, 114, 118, 101, 114]⟩] 9)) := ((Below.refl _ w).alloc (Nat.le_refl _) _).alloc (by simp) _
  have kx := (Blk.new w 24 #[.int .i64 8, .int .i64 0, .int .i64 0, .int .i64 0, .slice A n c, .string ad]).alloc (.cells #[.string ⟨#[99, 108, 105, 101, 110, 116]⟩, .string ⟨#[115, 101, 114, 118, 101, 114]⟩] 9)
  have hd := dec_below 0 ((w.alloc (.cells #[.int .i64 8, .int .i64 0, .int .i64 0, .int .i64 0, .slice A n c, .string ad] 24)).alloc (.cells #[.string ⟨#[99, 108, 105, 101, 110, 116]⟩, .string ⟨#[115, 101, 114, 118, 101, 114]⟩] 9)) (by omega) (by omega)
  have HM := Lib.hid (fun W => dec_below 0 W (by omega) (by omega))
  have HX := Lib.hid (show ∀ W, Below w.heap.size w W → Calls Tryd.prog 24 #[.slice A n c] W fun e w' => e = .returned (.string (hexS bs)) ∧ Below W.heap.size W w' from fun W hW => rhex_any A n c bs W (hy.below hW) (by omega))
  have zn : (itS 0).size ≤ 21 := itS_le _ (by omega) (by omega)
  have zm : (itS 0).size ≤ 21 := itS_le _ (by omega) (by omega)
  have zx : (hexS bs).size ≤ 5000 := by
    unfold hexS
    split
    · decide
    · rw [str_size, hexL_len]; omega
  have H2 := Lib.hid (And.intro b2 kx)
  obtain ⟨NN, hNN⟩ : ∃ s, itS 0 = s := ⟨_, rfl⟩
  rw [hNN] at hd zn
  obtain ⟨HH, hHH⟩ : ∃ s, hexS bs = s := ⟨_, rfl⟩
  rw [hHH] at HX zx
  
  
  clear b2 kx hy hL hNN hHH
  go_enter Tryd.func17, Tryd.ntmps17
  go_wp2_with (go_at_call 31; refine hd.mono ?_; rintro _ w3 ⟨rfl, hb⟩; refine Hid.out ?_)
  refine Lib.hid ?_
  have H3 := Lib.hid (And.intro (H2.out.1.trans (hb.mono H2.out.1.size)) (H2.out.2.below hb H2.out.2.lt))
  have d0 : w3.cell? ⟨w.heap.size, 0, none⟩ = some (.int .i64 8) := (H3.out.2.cell 0).trans rfl
  have d3 : w3.cell? ⟨w.heap.size, 3, none⟩ = some (.int .i64 0) := (H3.out.2.cell 3).trans rfl
  have d4 : w3.cell? ⟨w.heap.size, 4, none⟩ = some (.slice A n c) := (H3.out.2.cell 4).trans rfl
  have d5 : w3.cell? ⟨w.heap.size, 5, none⟩ = some (.string ad) := (H3.out.2.cell 5).trans rfl
  have hlt3 := H3.out.2.lt
  clear hb hd H2
  have HB := Lib.hid H3.out.1
  go_wp2_with fail
  all_goals go_ret
  exact ⟨by rw [show L = _ from HJ.out, join_1]; first | rfl | (congr 1; try (apply ba_ext; simp [ByteArray.data_append])), HB.out⟩
set_option maxRecDepth 100000 in
set_option maxHeartbeats 2000000 in
theorem rtext_9_0 (nn mm : Int) (A : Option Addr) (n c : Nat) (bs : List Nat) (ad : ByteArray) (w : World) (hy : Bys w A n bs) (hn : n ≤ 2500) (hbs : bs.length ≤ 2500) (ha : ad.size ≤ 5000) (n0 : -9223372036854775808 ≤ nn) (n1 : nn ≤ 9223372036854775807) (m0 : -9223372036854775808 ≤ mm) (m1 : mm ≤ 9223372036854775807) :
    Calls Tryd.prog 17 #[.agg #[.int .i64 9, .int .i64 0, .int .i64 0, .int .i64 0, .slice A n c, .string ⟨#[]⟩]] w fun e w' => e = .returned (.string (lineP ⟨9, 0, 0, 0, [], em⟩)) ∧ Below w.heap.size w w' := by
  have HJ := Lib.hid (show lineP ⟨9, 0, 0, 0, [], em⟩ = joinS [(⟨#[99, 108, 111, 115, 101]⟩ : ByteArray), ⟨#[99, 108, 105, 101, 110, 116]⟩] from rfl)
  obtain ⟨L, hL⟩ : ∃ l, lineP ⟨9, 0, 0, 0, [], em⟩ = l := ⟨_, rfl⟩
  rw [hL] at HJ ⊢
  have b2 : Below w.heap.size w ((w.alloc (.cells #[.int .i64 9, .int .i64 0, .int .i64 0, .int .i64 0, .slice A n c, .string ⟨#[]⟩] 24)).alloc (.cells #[.string ⟨#[99, 108, 105, 101, 110, 116]⟩, .string ⟨#[115, 101, 114, 118, 101, 114]⟩] 9)) := ((Below.refl _ w).alloc (Nat.le_refl _) _).alloc (by simp) _
  have kx := (Blk.new w 24 #[.int .i64 9, .int .i64 0, .int .i64 0, .int .i64 0, .slice A n c, .string ⟨#[]⟩]).alloc (.cells #[.string ⟨#[99, 108, 105, 101, 110, 116]⟩, .string ⟨#[115, 101, 114, 118, 101, 114]⟩] 9)
  have hd := dec_below 0 ((w.alloc (.cells #[.int .i64 9, .int .i64 0, .int .i64 0, .int .i64 0, .slice A n c, .string ⟨#[]⟩] 24)).alloc (.cells #[.string ⟨#[99, 108, 105, 101, 110, 116]⟩, .string ⟨#[115, 101, 114, 118, 101, 114]⟩] 9)) (by omega) (by omega)
  have HM := Lib.hid (fun W => dec_below 0 W (by omega) (by omega))
  have HX := Lib.hid (show ∀ W, Below w.heap.size w W → Calls Tryd.prog 24 #[.slice A n c] W fun e w' => e = .returned (.string (hexS bs)) ∧ Below W.heap.size W w' from fun W hW => rhex_any A n c bs W (hy.below hW) (by omega))
  have zn : (itS 0).size ≤ 21 := itS_le _ (by omega) (by omega)
  have zm : (itS 0).size ≤ 21 := itS_le _ (by omega) (by omega)
  have zx : (hexS bs).size ≤ 5000 := by
    unfold hexS
    split
    · decide
    · rw [str_size, hexL_len]; omega
  have H2 := Lib.hid (And.intro b2 kx)
  obtain ⟨NN, hNN⟩ : ∃ s, itS 0 = s := ⟨_, rfl⟩
  rw [hNN] at hd zn
  obtain ⟨HH, hHH⟩ : ∃ s, hexS bs = s := ⟨_, rfl⟩
  rw [hHH] at HX zx
  
  
  clear b2 kx hy hL hNN hHH
  go_enter Tryd.func17, Tryd.ntmps17
  go_wp2_with (go_at_call 31; refine hd.mono ?_; rintro _ w3 ⟨rfl, hb⟩; refine Hid.out ?_)
  refine Lib.hid ?_
  have H3 := Lib.hid (And.intro (H2.out.1.trans (hb.mono H2.out.1.size)) (H2.out.2.below hb H2.out.2.lt))
  have d0 : w3.cell? ⟨w.heap.size, 0, none⟩ = some (.int .i64 9) := (H3.out.2.cell 0).trans rfl
  have d3 : w3.cell? ⟨w.heap.size, 3, none⟩ = some (.int .i64 0) := (H3.out.2.cell 3).trans rfl
  have d4 : w3.cell? ⟨w.heap.size, 4, none⟩ = some (.slice A n c) := (H3.out.2.cell 4).trans rfl
  have d5 : w3.cell? ⟨w.heap.size, 5, none⟩ = some (.string ⟨#[]⟩) := (H3.out.2.cell 5).trans rfl
  have hlt3 := H3.out.2.lt
  clear hb hd H2
  have HB := Lib.hid H3.out.1
  go_wp2_with fail
  all_goals go_ret
  exact ⟨by rw [show L = _ from HJ.out, join_1]; first | rfl | (congr 1; try (apply ba_ext; simp [ByteArray.data_append])), HB.out⟩
set_option maxRecDepth 100000 in
set_option maxHeartbeats 2000000 in
theorem rtext_9_1 (nn mm : Int) (A : Option Addr) (n c : Nat) (bs : List Nat) (ad : ByteArray) (w : World) (hy : Bys w A n bs) (hn : n ≤ 2500) (hbs : bs.length ≤ 2500) (ha : ad.size ≤ 5000) (n0 : -9223372036854775808 ≤ nn) (n1 : nn ≤ 9223372036854775807) (m0 : -9223372036854775808 ≤ mm) (m1 : mm ≤ 9223372036854775807) :
    Calls Tryd.prog 17 #[.agg #[.int .i64 9, .int .i64 1, .int .i64 0, .int .i64 0, .slice A n c, .string ⟨#[]⟩]] w fun e w' => e = .returned (.string (lineP ⟨9, 1, 0, 0, [], em⟩)) ∧ Below w.heap.size w w' := by
  have HJ := Lib.hid (show lineP ⟨9, 1, 0, 0, [], em⟩ = joinS [(⟨#[99, 108, 111, 115, 101]⟩ : ByteArray), ⟨#[115, 101, 114, 118, 101, 114]⟩] from rfl)
  obtain ⟨L, hL⟩ : ∃ l, lineP ⟨9, 1, 0, 0, [], em⟩ = l := ⟨_, rfl⟩
  rw [hL] at HJ ⊢
  have b2 : Below w.heap.size w ((w.alloc (.cells #[.int .i64 9, .int .i64 1, .int .i64 0, .int .i64 0, .slice A n c, .string ⟨#[]⟩] 24)).alloc (.cells #[.string ⟨#[99, 108, 105, 101, 110, 116]⟩, .string ⟨#[115, 101, 114, 118, 101, 114]⟩] 9)) := ((Below.refl _ w).alloc (Nat.le_refl _) _).alloc (by simp) _
  have kx := (Blk.new w 24 #[.int .i64 9, .int .i64 1, .int .i64 0, .int .i64 0, .slice A n c, .string ⟨#[]⟩]).alloc (.cells #[.string ⟨#[99, 108, 105, 101, 110, 116]⟩, .string ⟨#[115, 101, 114, 118, 101, 114]⟩] 9)
  have hd := dec_below 0 ((w.alloc (.cells #[.int .i64 9, .int .i64 1, .int .i64 0, .int .i64 0, .slice A n c, .string ⟨#[]⟩] 24)).alloc (.cells #[.string ⟨#[99, 108, 105, 101, 110, 116]⟩, .string ⟨#[115, 101, 114, 118, 101, 114]⟩] 9)) (by omega) (by omega)
  have HM := Lib.hid (fun W => dec_below 0 W (by omega) (by omega))
  have HX := Lib.hid (show ∀ W, Below w.heap.size w W → Calls Tryd.prog 24 #[.slice A n c] W fun e w' => e = .returned (.string (hexS bs)) ∧ Below W.heap.size W w' from fun W hW => rhex_any A n c bs W (hy.below hW) (by omega))
  have zn : (itS 0).size ≤ 21 := itS_le _ (by omega) (by omega)
  have zm : (itS 0).size ≤ 21 := itS_le _ (by omega) (by omega)
  have zx : (hexS bs).size ≤ 5000 := by
    unfold hexS
    split
    · decide
    · rw [str_size, hexL_len]; omega
  have H2 := Lib.hid (And.intro b2 kx)
  obtain ⟨NN, hNN⟩ : ∃ s, itS 0 = s := ⟨_, rfl⟩
  rw [hNN] at hd zn
  obtain ⟨HH, hHH⟩ : ∃ s, hexS bs = s := ⟨_, rfl⟩
  rw [hHH] at HX zx
  
  
  clear b2 kx hy hL hNN hHH
  go_enter Tryd.func17, Tryd.ntmps17
  go_wp2_with (go_at_call 31; refine hd.mono ?_; rintro _ w3 ⟨rfl, hb⟩; refine Hid.out ?_)
  refine Lib.hid ?_
  have H3 := Lib.hid (And.intro (H2.out.1.trans (hb.mono H2.out.1.size)) (H2.out.2.below hb H2.out.2.lt))
  have d0 : w3.cell? ⟨w.heap.size, 0, none⟩ = some (.int .i64 9) := (H3.out.2.cell 0).trans rfl
  have d3 : w3.cell? ⟨w.heap.size, 3, none⟩ = some (.int .i64 0) := (H3.out.2.cell 3).trans rfl
  have d4 : w3.cell? ⟨w.heap.size, 4, none⟩ = some (.slice A n c) := (H3.out.2.cell 4).trans rfl
  have d5 : w3.cell? ⟨w.heap.size, 5, none⟩ = some (.string ⟨#[]⟩) := (H3.out.2.cell 5).trans rfl
  have hlt3 := H3.out.2.lt
  clear hb hd H2
  have HB := Lib.hid H3.out.1
  go_wp2_with fail
  all_goals go_ret
  exact ⟨by rw [show L = _ from HJ.out, join_1]; first | rfl | (congr 1; try (apply ba_ext; simp [ByteArray.data_append])), HB.out⟩
/-- The reference's Text, of a right operation. -/
theorem rtext_any (o : Op) (w : World) (hO : OpOk w o) (hr : RP o.p) : Calls Tryd.prog 17 #[o.v] w fun e w' => e = .returned (.string (lineP o.p)) ∧ Below w.heap.size w w' := by
  have hl := hO.y.len
  have hy := hO.y
  have hn0 := hO.n0
  have hn1 := hO.n1
  have hm0 := hO.m0
  have hm1 := hO.m1
  have hb : o.n ≤ 1300 ∧ o.ad.size ≤ 5000 := by
    refine ⟨?_, ?_⟩
    · have := (rp_s hr).b.1
      change o.bs.length ≤ 1300 at this
      omega
    · have hz : ∀ p, RP p → p.ad.size ≤ 100 := by
        intro p hp
        have hs : ∀ s : ByteArray, rightS s = true → s.size ≤ 100 := fun s h => by unfold rightS at h; simp only [Bool.and_eq_true, decide_eq_true_eq] at h; exact h.2
        cases hp with
        | send => show em.size ≤ 100; decide
        | num => show em.size ≤ 100; decide
        | swap => show em.size ≤ 100; decide
        | inject _ _ ad _ _ h => exact hs ad h
        | move ad h => exact hs ad h
        | close => show em.size ≤ 100; decide
      have := hz _ hr
      change o.ad.size ≤ 100 at this
      omega
  clear hO
  obtain ⟨kd, wh, nn, mm, A, n, c, bs, ad⟩ := o
  obtain ⟨p, hp⟩ : ∃ p, Op.p ⟨kd, wh, nn, mm, A, n, c, bs, ad⟩ = p := ⟨_, rfl⟩
  rw [hp] at hr ⊢
  unfold Op.p at hp
  unfold Op.v
  simp only at hp hl hy hb hn0 hn1 hm0 hm1 ⊢
  cases hr with
  | send x bs' hx _ =>
    injection hp with e1 e2 e3 e4 e5 e6
    subst e1 e2 e3 e4 e5 e6
    rcases hx with rfl | rfl
    · exact rtext_1_0 0 0 A n c bs em w hy (by omega) (by omega) (by decide) (by omega) (by omega) (by omega) (by omega)
    · exact rtext_1_1 0 0 A n c bs em w hy (by omega) (by omega) (by decide) (by omega) (by omega) (by omega) (by omega)
  | num k m h2 h5 _ =>
    injection hp with e1 e2 e3 e4 e5 e6
    subst e1 e2 e3 e4 e5 e6
    rcases (show k = 2 ∨ k = 3 ∨ k = 4 ∨ k = 5 by omega) with rfl | rfl | rfl | rfl
    · exact rtext_2_0 m 0 A n c [] em w hy (by omega) (by simp) (by decide) (by omega) (by omega) (by omega) (by omega)
    · exact rtext_3_0 m 0 A n c [] em w hy (by omega) (by simp) (by decide) (by omega) (by omega) (by omega) (by omega)
    · exact rtext_4_0 m 0 A n c [] em w hy (by omega) (by simp) (by decide) (by omega) (by omega) (by omega) (by omega)
    · exact rtext_5_0 m 0 A n c [] em w hy (by omega) (by simp) (by decide) (by omega) (by omega) (by omega) (by omega)
  | swap m m' _ _ =>
    injection hp with e1 e2 e3 e4 e5 e6
    subst e1 e2 e3 e4 e5 e6
    exact rtext_6_0 m m' A n c [] em w hy (by omega) (by simp) (by decide) (by omega) (by omega) (by omega) (by omega)
  | inject x bs' ad' hx _ _ =>
    injection hp with e1 e2 e3 e4 e5 e6
    subst e1 e2 e3 e4 e5 e6
    rcases hx with rfl | rfl
    · exact rtext_7_0 0 0 A n c bs ad w hy (by omega) (by omega) hb.2 (by omega) (by omega) (by omega) (by omega)
    · exact rtext_7_1 0 0 A n c bs ad w hy (by omega) (by omega) hb.2 (by omega) (by omega) (by omega) (by omega)
  | move ad' _ =>
    injection hp with e1 e2 e3 e4 e5 e6
    subst e1 e2 e3 e4 e5 e6
    exact rtext_8_0 0 0 A n c [] ad w hy (by omega) (by simp) hb.2 (by omega) (by omega) (by omega) (by omega)
  | close x hx =>
    injection hp with e1 e2 e3 e4 e5 e6
    subst e1 e2 e3 e4 e5 e6
    rcases hx with rfl | rfl
    · exact rtext_9_0 0 0 A n c [] em w hy (by omega) (by simp) (by decide) (by omega) (by omega) (by omega) (by omega)
    · exact rtext_9_1 0 0 A n c [] em w hy (by omega) (by simp) (by decide) (by omega) (by omega) (by omega) (by omega)
end Go.Proofs.YtbkgmeopdcealaaDoor
