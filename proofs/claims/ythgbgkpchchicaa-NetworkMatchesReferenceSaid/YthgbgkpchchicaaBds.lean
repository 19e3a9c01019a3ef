import Derived.Test.YthgbgkpchchicaaMsm
import Derived.StringKeys
namespace Go.Proofs.Ythgbgkpchchicaa
open Go.ChangeShapes Go.WideShapes Go.ChangeAt Go.RowKit Go.Maps
set_option linter.unusedVariables false
set_option linter.unusedSimpArgs false
/-- How many bodies are these. -/
def cntB (l : List (List Nat)) (b : List Nat) : Int := ((l.filter fun x => decide (x = b)).length : Nat)
def klit (b : List Nat) : Lit := .string (b.map UInt8.ofNat)
def Octs (l : List (List Nat)) : Prop := ∀ b ∈ l, ∀ x ∈ b, x < 256
/-- What the map of bodies reads as. -/
def CntD (l : List (List Nat)) (D : DataW Unit) : Prop := ∃ es0, D = .map es0 ∧ NonNeg es0 ∧ tot es0 = l.length ∧ ∀ b, (∀ x ∈ b, x < 256) → D.atKey (klit b) (.lit (.int .i64 0)) = .lit (.int .i64 (cntB l b))
theorem cntB_nonneg (l : List (List Nat)) (b : List Nat) : 0 ≤ cntB l b := Int.natCast_nonneg _
theorem cntB_le (l : List (List Nat)) (b : List Nat) : cntB l b ≤ l.length := by
  unfold cntB
  have := List.length_filter_le (fun x => decide (x = b)) l
  omega
theorem klit_inj {a b : List Nat} (ha : ∀ x ∈ a, x < 256) (hb : ∀ x ∈ b, x < 256) (h : klit a = klit b) : a = b := by
  unfold klit at h
  injection h with h
  refine str_inj ha hb ?_
  unfold str
  rw [h]
theorem CntD.none_ : CntD [] (.map []) := ⟨[], rfl, (by intro p hp; cases hp), rfl, fun b _ => rfl⟩
theorem cntB_snoc (l : List (List Nat)) (b c : List Nat) : cntB (l ++ [b]) c = cntB l c + if b = c then 1 else 0 := by
  unfold cntB
  rw [List.filter_append]
  by_cases h : b = c <;> simp [List.filter_cons, h]
theorem CntD.next {l : List (List Nat)} {D : DataW Unit} (h : CntD l D) (ht : Tidy D) (b : List Nat) (hb : ∀ x ∈ b, x < 256) : CntD (l ++ [b]) (D.put (klit b) (.lit (.int .i64 (cntB l b + 1)))) := by
  obtain ⟨es0, rfl, h1, h2, h3⟩ := h
  obtain ⟨es1, he1⟩ : ∃ es1, (DataW.map es0).put (klit b) (.lit (.int .i64 (cntB l b + 1))) = .map es1 := ⟨_, rfl⟩
  have hc0 := cntB_nonneg l b
  have htot := totD_put ht (klit b) (.lit (.int .i64 (cntB l b + 1)))
  rw [he1]
  refine ⟨es1, rfl, nonneg_put h1 _ _ (by show (0 : Int) ≤ cntB l b + 1; omega) he1, ?_, fun c hc => ?_⟩
  · rw [he1] at htot
    have hwf : numD ((DataW.map es0).atKey (klit b) (.lit (.int .i64 0))) = cntB l b := by rw [h3 _ hb]; rfl
    have e1 : totD (.map es1) = tot es1 := rfl
    have e2 : totD (.map es0) = tot es0 := rfl
    have e3 : numD (.lit (.int .i64 (cntB l b + 1))) = cntB l b + 1 := rfl
    rw [e1, e2, hwf, e3] at htot
    simp only [List.length_append, List.length_singleton]
    omega
  · rw [← he1, cntB_snoc]
    by_cases hk : b = c
    · subst hk
      rw [atKey_put_same ⟨es0, rfl⟩ (show WideAt.IsKeyLit (klit b) from trivial), if_pos rfl]
    · rw [atKey_put_other (by intro h; exact hk (klit_inj hc hb h).symm), if_neg hk, h3 c hc]
      simp
theorem law9 : Keyed Try.prog 9 := string_keyed Try.underlying9
theorem zero3 (w : World) : (zeroValue 3).run Try.prog w = .ok (.int .i64 0) w := by kernel_rfl
theorem take_snoc {α : Type} {es : List α} {j : Nat} {e : α} (h : es[j]? = some e) : es.take (j + 1) = es.take j ++ [e] := by
  rw [List.take_add_one, h]; rfl
theorem key_str {b : List Nat} (hn : b.length ≤ maxLen) : keyOf Try.prog 9 (.string (str b)) = some (klit b) := by
  rw [WideMaps.keyOf_string_mk Try.underlying9 (by rw [str_size]; exact hn)]
  unfold klit str
  simp
theorem map_bs {es ds : List Dg} (h : es.map Dg.k = ds.map Dg.k) : es.map Dg.bs = ds.map Dg.bs := by
  have := congrArg (List.map fun x : Int × ByteArray × ByteArray × List Nat => x.2.2.2) h
  rw [List.map_map, List.map_map] at this
  exact this
theorem own_dg_cells {B c n i : Nat} {w : World} {A : Option Addr} {es : List Dg} {d : Dg} (h : w.ownsRow B 32 4 (.slice A n c) n (dgCells es)) (hi : es[i]? = some d) :
    ∃ r, A = some ⟨r, 0, none⟩ ∧ r < w.heap.size ∧ B ≤ r ∧ w.cell? ⟨r, i * 4, none⟩ = some (.int .i64 d.id) ∧ w.cell? ⟨r, i * 4 + 1, none⟩ = some (.string d.fr) ∧ w.cell? ⟨r, i * 4 + 2, none⟩ = some (.string d.to) ∧ w.cell? ⟨r, i * 4 + 3, none⟩ = some (.slice d.A d.n d.c) := by
  have hil := (List.getElem?_eq_some_iff.1 hi).1
  have hlen : es.length * 4 = n * 4 := by rw [← dgCells_len]; exact h.1
  rcases h.2 with ⟨_, h0⟩ | ⟨r, cap, cur, hv, hbg, hh, _⟩
  · omega
  · injection hv with e1 _ _
    subst e1
    have hc := h.cells (g := r) rfl
    have get : ∀ k, k < 4 → ∀ u, d.cells[k]? = some u → w.cell? ⟨r, i * 4 + k, none⟩ = some u := fun k hk u hu => by
      have := hc (i * 4 + k) u ((dgCells_get hi hk).trans hu)
      rwa [add_none, Nat.zero_add] at this
    exact ⟨r, rfl, (Array.getElem?_eq_some_iff.1 hh).1, hbg, get 0 (by omega) _ rfl, get 1 (by omega) _ rfl, get 2 (by omega) _ rfl, get 3 (by omega) _ rfl⟩
set_option maxRecDepth 100000 in
set_option maxHeartbeats 4000000 in
theorem bodies_any (g : Nat) (v : Value) (ds : List Dg) (last : Int) (B : Nat) (w : World) (h : Net B w g v ds last) (hlen : ds.length ≤ 1000) (hn : ∀ d ∈ ds, d.bs.length ≤ 1000000) :
    Calls Try.prog 21 #[P1 g] w fun e w' => (∃ D, e = .returned (.map (some w.heap.size)) ∧ w'.ownsMap Try.prog 9 (plainElem Try.prog 3) w.heap.size ds.length D ∧ CntD (ds.map Dg.bs) D) ∧ Below w.heap.size w w' := by
  have hb0 := (Below.refl _ w).alloc (Nat.le_refl _) (.map #[] 0)
  have hl := list_any g v ds last B _ (h.below hb0) hlen hn
  have HN := Lib.hid hn
  have H0 := Lib.hid hb0
  have hmm := @run_makeMap Try.prog
  clear h hn hb0
  unfold P1 at *
  go_enter Try.func21, Try.ntmps21
  go_wp2_with (go_at_call 19; refine hl.mono ?_; rintro _ w1 ⟨A, c, es, rfl, hro, hke, hbo, hb1⟩; refine Hid.out ?_)
  refine Lib.hid ?_
  have hmo := (World.ownsMap_made (H := Unit) w Try.prog 9 (plainElem Try.prog 3)).kept (grown_of_below (row := none) hb1) (by simp)
  have hb01 := H0.out.trans (hb1.mono H0.out.size)
  have hel : es.length = ds.length := by have := congrArg List.length hke; simpa using this
  have HRO := Lib.hid hro
  have HKE := Lib.hid (map_bs hke)
  have HBO := Lib.hid hbo
  have HMO := Lib.hid hmo
  have HB1 := Lib.hid hb01
  have HEL := Lib.hid hel
  have hms := hmo.lt
  have hm1 : w.heap.size + 1 ≤ w1.heap.size := hms
  clear hro hke hbo hb1 hl hmo hb01 hel
  go_wp2_with fail
  go_loopw [10] (fun i wr => ∃ (j : Nat) (D : DataW Unit), j ≤ ds.length ∧ i = .int .i64 j ∧ wr.ownsMap Try.prog 9 (plainElem Try.prog 3) w.heap.size j D ∧ CntD ((es.take j).map Dg.bs) D ∧ w1.grownBy wr (some w.heap.size)) (fun i _ => ds.length - (intOf i).toNat)
  case atStart => exact ⟨0, .map [], by omega, rfl, HMO.out, by rw [List.take_zero]; exact CntD.none_, World.grownBy.refl _ _⟩
  case round =>
    obtain ⟨j, D, hj, rfl, hown, hD, hgr⟩ := hrel
    have HO := Lib.hid hown
    have HG := Lib.hid hgr
    have HD := Lib.hid hD
    have hbs := hgr.size
    have hlt := hown.lt
    clear hown hgr hD
    by_cases h1 : j < ds.length
    · have h1i : (j : Int) < (ds.length : Int) := by omega
      obtain ⟨d, hd⟩ : ∃ d, es[j]? = some d := ⟨_, List.getElem?_eq_getElem (by rw [HEL.out]; exact h1)⟩
      have R1 := HRO.out.kept HG.out (.inr fun e => by have := (HRO.out.lt _ e).1; simp at this; omega)
      obtain ⟨r, rfl, hrl, hrb, d0, d1, d2, d3⟩ := own_dg_cells R1 hd
      have B1 := HBO.out d (List.mem_of_getElem? hd)
      have B2 : BOwn _ wr d := B1.kept HG.out (.inr fun e => by have := (B1.1.lt _ e).1; simp at this; omega)
      have B3 := B2.below ((Below.refl _ wr).alloc (Nat.le_refl _) (.cells #[.int .i64 d.id, .string d.fr, .string d.to, .slice d.A d.n d.c] 32))
      have hcv := conv_bys (c := d.c) B3.ok.bys
      have hdb : d.bs ∈ ds.map Dg.bs := by rw [← HKE.out]; exact List.mem_map.2 ⟨d, List.mem_of_getElem? hd, rfl⟩
      have hdl : d.bs.length ≤ 1000000 := by
        obtain ⟨d', hd', e⟩ := List.mem_map.1 hdb
        rw [← e]; exact HN.out d' hd'
      have hkey := key_str (b := d.bs) (by unfold maxLen; omega)
      have hoct := B3.2
      have hle := cntB_le ((es.take j).map Dg.bs) d.bs
      have hge := cntB_nonneg ((es.take j).map Dg.bs) d.bs
      have hlen : ((es.take j).map Dg.bs).length ≤ j := by rw [List.length_map]; exact List.length_take_le _ _
      have hat0 : D.atKey (klit d.bs) (.lit (.int .i64 0)) = .lit (.int .i64 (cntB ((es.take j).map Dg.bs) d.bs)) := by obtain ⟨_, rfl, _, _, h3⟩ := HD.out; exact h3 _ hoct
      have HAT := Lib.hid hat0
      have HOC := Lib.hid hoct
      have HX := Lib.hid hd
      obtain ⟨cc, hcc⟩ : ∃ cc, cntB ((es.take j).map Dg.bs) d.bs = cc := ⟨_, rfl⟩
      rw [hcc] at hle hge HAT
      have HC := Lib.hid hcc
      have hcc1 : cc ≤ 1000 := by omega
      generalize str d.bs = S at *
      clear hle hlen R1 B1 B2 B3 hdb hdl hoct hat0 hcc hd
      go_wp2_with (first
        | (at_lookup; refine wpList_lookup_own_int _ rfl _ _ 56 rfl 9 3 .i64 law9 Try.underlying56 Try.underlying3 (zero3 _) w.heap.size j _ rfl (HO.out.alloc _) _ _ rfl hkey ?_; intro q hat hwc; obtain rfl : cc = q := (by simpa using HAT.out.symm.trans hat); clear hat hwc)
        | (at_mapUpdate; refine wpList_mapUpdate_own _ rfl _ _ _ 56 rfl 9 3 law9 Try.underlying56 _ w.heap.size j _ rfl (HO.out.alloc _) (by unfold maxLen; omega) _ _ _ rfl rfl hkey _ [] (plainElem_int Try.underlying3 (WalkArith.wf_i64 (by omega))) ?_; intro w2 hown1 hgrow1))
      have hown2 := Lib.hid hown1
      have hg2 := Lib.hid ((later_grown (some w.heap.size)).trans HG.out ((later_grown (some w.heap.size)).trans (World.grownBy_alloc _ _ _) hgrow1))
      have hd2 := Lib.hid (CntD.next HD.out (HO.out.tidy law9) d.bs HOC.out)
      clear hown1 hgrow1
      go_roundw
      case rel => exact ⟨j + 1, _, by omega, by go_num, hown2.out, by rw [take_snoc HX.out, List.map_append, ← HC.out]; exact hd2.out, hg2.out⟩
      case measure => simp [intOf]; omega
    · obtain rfl : j = ds.length := by omega
      have hD2 : CntD (ds.map Dg.bs) D := by
        have := HD.out
        rwa [List.take_of_length_le (by rw [HEL.out]; exact Nat.le_refl _), HKE.out] at this
      have HD2 := Lib.hid hD2
      have hB2 : Below w.heap.size w wr := HB1.out.grown HG.out (by omega) (fun k hk => by injection hk with hk; omega)
      have HB2 := Lib.hid hB2
      clear hD2 hB2
      go_wp2_with fail
      go_ret
      exact ⟨⟨D, rfl, HO.out, HD2.out⟩, HB2.out⟩
set_option maxRecDepth 100000 in
theorem bodies_nil (w : World) : Calls Try.prog 21 #[.pointer none] w fun e w' => e = .returned (.map (some w.heap.size)) ∧ w'.ownsMap Try.prog 9 (plainElem (H := Unit) Try.prog 3) w.heap.size 0 (.map []) ∧ Below w.heap.size w w' := by
  have hmm := @run_makeMap Try.prog
  have HM := Lib.hid (World.ownsMap_made (H := Unit) w Try.prog 9 (plainElem Try.prog 3))
  have HB := Lib.hid ((Below.refl _ w).alloc (Nat.le_refl _) (.map #[] 0))
  go_enter Try.func21, Try.ntmps21
  go_wp2_with (go_at_call 19; refine (list_nil _).mono ?_; rintro _ _ ⟨rfl, rfl⟩)
  generalize w.alloc (.map #[] 0) = w1 at *
  go_loopw [10] (fun i wr => i = .int .i64 0 ∧ w1 = wr) (fun _ _ => 0)
  case atStart => exact ⟨rfl, rfl⟩
  case round =>
    obtain ⟨rfl, rfl⟩ := hrel
    go_wp2_with fail
    go_ret
    exact ⟨rfl, HM.out, HB.out⟩
end Go.Proofs.Ythgbgkpchchicaa
