import Derived.Test.YtbkgmeopdcealaaDoorPsr
namespace Go.Proofs.YtbkgmeopdcealaaDoor
open Go.ChangeShapes Go.WideShapes Go.ChangeAt Go.RowKit Go.Sort Go.Deep
set_option linter.unusedVariables false
set_option linter.unusedSimpArgs false
/-- What Text answers. -/
inductive TxR (o : Op) : Ending → Prop
  | yes : RP o.p → TxR o (.returned (.tuple #[.string (lineP o.p), .bool true]))
  | no : ¬ RP o.p → TxR o (.returned (.tuple #[.string em, .bool false]))
theorem lineP_size {w : World} {o : Op} (hO : OpOk w o) (hn : o.n ≤ 2500) (ha : o.ad.size ≤ 5000) (k : Nat) (h1 : 1 ≤ k) (h9 : k ≤ 9) (hk : o.kd = (k : Int)) : (lineP o.p).size ≤ 100000 := by
  have e : lineP o.p = joinS (rwS k :: (ruleF k).map (fieldS o.p)) := by
    unfold lineP wordsP
    rw [show o.p.kd.toNat = k by show o.kd.toNat = k; rw [hk]; rfl]; rfl
  have h3 : (ruleF k).length ≤ 3 := by rcases nine h1 h9 with rfl | rfl | rfl | rfl | rfl | rfl | rfl | rfl | rfl <;> decide
  have hz : ∀ x ∈ rwS k :: (ruleF k).map (fieldS o.p), x.size ≤ 5000 := by
    intro x hx
    rcases List.mem_cons.1 hx with rfl | hx
    · exact Nat.le_trans (rwS_size k h1 h9) (by decide)
    · obtain ⟨f, _, rfl⟩ := List.mem_map.1 hx
      exact fieldS_size hO hn ha f
  have hl := lens_le 5000 _ hz
  rw [e]
  show (Lib.join ((rwS k :: (ruleF k).map (fieldS o.p)).map (·.data.toList)) [32]).length ≤ _
  rw [List.map_cons] at hl ⊢
  rw [Lib.join_length]
  simp only [List.length_map, List.length_cons, List.length_nil] at hl ⊢
  omega
theorem rp_kd {p : PO} (h : RP p) : 1 ≤ p.kd ∧ p.kd ≤ 9 := by
  obtain ⟨k, h1, h9, e, _⟩ := rp_words h
  omega
set_option maxRecDepth 100000 in
set_option maxHeartbeats 1000000 in
/-- script.Text. -/
theorem text_any (o : Op) (w : World) (hT : Tab w) (hO : OpOk w o) (hn : o.n ≤ 2500) (ha : o.ad.size ≤ 5000) :
    Calls Tryd.prog 12 #[o.v] w fun e w' => TxR o e ∧ Below w.heap.size w w' := by
  have b1 : Below w.heap.size w (w.alloc (.cells o.arr 29)) := (Below.refl _ w).alloc (Nat.le_refl _) _
  have HB1 := Lib.hid b1
  have HT := Lib.hid (hT.below b1)
  have HO := Lib.hid (hO.below b1)
  have HKX := Lib.hid (Blk.new w 29 o.arr)
  have k0 := hO.k0
  have k1 := hO.k1
  by_cases hlo : o.kd < 1
  · have HN := Lib.hid (show ¬ RP o.p from fun h => by have h1 := (rp_kd h).1; change 1 ≤ o.kd at h1; omega)
    clear b1 hT hO
    obtain ⟨kd, wh, nn, mm, A, n, c, bs, ad⟩ := o
    unfold Op.v
    simp only at hlo ⊢
    go_enter Tryd.func12, Tryd.ntmps12
    go_wp2_with fail
    all_goals go_ret2
    exact ⟨TxR.no HN.out, HB1.out⟩
  by_cases hhi : 10 ≤ o.kd
  · have HN := Lib.hid (show ¬ RP o.p from fun h => by have h1 := (rp_kd h).2; change o.kd ≤ 9 at h1; omega)
    clear b1 hT hO
    obtain ⟨kd, wh, nn, mm, A, n, c, bs, ad⟩ := o
    unfold Op.v
    simp only at hlo hhi ⊢
    go_enter Tryd.func12, Tryd.ntmps12
    go_wp2_with fail
    all_goals go_ret2
    exact ⟨TxR.no HN.out, HB1.out⟩
  obtain ⟨k, hk⟩ : ∃ k : Nat, o.kd = (k : Int) := ⟨o.kd.toNat, by omega⟩
  have hk1 : 1 ≤ k := by omega
  have hk9 : k ≤ 9 := by omega
  have hline := line_any o k hk1 hk9 hk _ (hT.below b1) (hO.below b1) hn ha
  have HLZ := Lib.hid (lineP_size hO hn ha k hk1 hk9 hk)
  obtain ⟨L, hL⟩ : ∃ l, lineP o.p = l := ⟨_, rfl⟩
  rw [hL] at hline HLZ
  have HL := Lib.hid hL
  obtain ⟨X, hX⟩ : ∃ x, o = x := ⟨_, rfl⟩
  have HX := Lib.hid hX
  rw [hX] at HO HKX HL HB1
  rw [hX] at ⊢
  have hv : X.v = o.v := by rw [hX]
  rw [hv]
  have harr : (w.alloc (.cells X.arr 29)) = (w.alloc (.cells o.arr 29)) := by rw [hX]
  rw [harr] at HO HKX HB1
  clear b1 hT hO hL hn ha hv harr
  obtain ⟨kd, wh, nn, mm, A, n, c, bs, ad⟩ := o
  unfold Op.v at hline ⊢
  unfold Op.arr at hline HT HO HKX HB1
  simp only at hk hlo hhi hline HT HO HKX HB1 k0 k1 ⊢
  subst hk
  have hkl : ¬ (k : Int) < 1 := by omega
  go_enter Tryd.func12, Tryd.ntmps12
  go_wp2_with (go_at_call 27; refine hline.mono ?_; rintro _ w2 ⟨rfl, hb⟩; refine Hid.out ?_)
  refine Lib.hid ?_
  have hp := parse_any L w2 (HT.out.below hb) (by have := HLZ.out; omega)
  have HB2 := Lib.hid hb
  clear hb hline hX
  go_wp2_with (go_at_call 16; refine hp.mono ?_; rintro _ w3 ⟨hpr, hb⟩; refine Hid.out ?_)
  refine Lib.hid ?_
  have HB3 := Lib.hid hb
  have K3 := (HKX.out.below HB2.out HKX.out.lt).below hb (HKX.out.below HB2.out HKX.out.lt).lt
  have d0 : w3.cell? ⟨w.heap.size, 0, none⟩ = some (.int .i64 (k : Int)) := (K3.cell 0).trans (by rw [← HX.out]; rfl)
  have d1 : w3.cell? ⟨w.heap.size, 1, none⟩ = some (.int .i64 wh) := (K3.cell 1).trans (by rw [← HX.out]; rfl)
  have d2 : w3.cell? ⟨w.heap.size, 2, none⟩ = some (.int .i64 nn) := (K3.cell 2).trans (by rw [← HX.out]; rfl)
  have d3 : w3.cell? ⟨w.heap.size, 3, none⟩ = some (.int .i64 mm) := (K3.cell 3).trans (by rw [← HX.out]; rfl)
  have d4 : w3.cell? ⟨w.heap.size, 4, none⟩ = some (.slice A n c) := (K3.cell 4).trans (by rw [← HX.out]; rfl)
  have d5 : w3.cell? ⟨w.heap.size, 5, none⟩ = some (.string ad) := (K3.cell 5).trans (by rw [← HX.out]; rfl)
  have hlt3 : w.heap.size < w3.heap.size := K3.lt
  have hBW := Lib.hid (show Below w.heap.size w w3 from (HB1.out.trans (HB2.out.mono HB1.out.size)).trans (hb.mono (Nat.le_trans HB1.out.size HB2.out.size)))
  clear hp K3
  cases hpr with
  | no hno =>
    have HN := Lib.hid (show ¬ RP X.p from fun h => hno _ h HL.out)
    have hBA := Lib.hid (hBW.out.alloc hBW.out.size (.cells zO.arr 29))
    clear hb hno
    rw [show zO.v = .agg #[.int .i64 0, .int .i64 0, .int .i64 0, .int .i64 0, .slice none 0 0, .string ⟨#[]⟩] from rfl]
    go_wp2_with fail
    all_goals go_ret2
    exact ⟨TxR.no HN.out, hBA.out⟩
  | yes o' hr hl hok =>
    have hs := sameo_any o' X (w3.alloc (.cells o'.arr 29)) (hok.below ((Below.refl _ _).alloc (Nat.le_refl _) _)) (((HO.out.below HB2.out).below hb).below ((Below.refl _ _).alloc (Nat.le_refl _) _))
    have HE := Lib.hid (opEq_iff o' X)
    obtain ⟨q, hq⟩ : ∃ q, opEq o' X = q := ⟨_, rfl⟩
    rw [hq] at hs HE
    have HR := Lib.hid (And.intro hr hl)
    have hBA := Lib.hid (hBW.out.alloc hBW.out.size (.cells o'.arr 29))
    have hXv : X.v = .agg #[.int .i64 (k : Int), .int .i64 wh, .int .i64 nn, .int .i64 mm, .slice A n c, .string ad] := by rw [← HX.out]; rfl
    rw [hXv] at hs
    clear hb hq hr hl hok hXv
    obtain ⟨Y, hY⟩ : ∃ x, o' = x := ⟨_, rfl⟩
    rw [hY] at HE HR
    clear hY
    obtain ⟨k', wh', nn', mm', A', n', c', bs', ad'⟩ := o'
    unfold Op.v at hs ⊢
    unfold Op.arr at hs hBA
    simp only at hs hBA ⊢
    cases q with
    | false =>
      have HN := Lib.hid (show ¬ RP X.p from fun h => by
        have := HE.out.2 (line_inj HR.out.1 h (HR.out.2.trans HL.out.symm))
        cases this)
      go_wp2_with (go_at_call 14; refine hs.mono ?_; rintro _ w5 ⟨rfl, hb5⟩)
      all_goals go_ret2
      exact ⟨TxR.no HN.out, hBA.out.trans (hb5.mono hBA.out.size)⟩
    | true =>
      have HY := Lib.hid (show RP X.p by rw [← HE.out.1 rfl]; exact HR.out.1)
      go_wp2_with (go_at_call 14; refine hs.mono ?_; rintro _ w5 ⟨rfl, hb5⟩)
      all_goals go_ret2
      exact ⟨by have := TxR.yes HY.out; rw [HL.out] at this; exact this, hBA.out.trans (hb5.mono hBA.out.size)⟩
end Go.Proofs.YtbkgmeopdcealaaDoor
