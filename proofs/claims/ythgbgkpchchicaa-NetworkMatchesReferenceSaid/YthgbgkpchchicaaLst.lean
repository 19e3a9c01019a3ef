import Derived.Test.YthgbgkpchchicaaDrp
namespace Go.Proofs.Ythgbgkpchchicaa
open Go.ChangeShapes Go.WideShapes Go.ChangeAt Go.RowKit
set_option linter.unusedVariables false
set_option linter.unusedSimpArgs false
theorem BOwn.kept {B : Nat} {w w' : World} {d : Dg} {row : Option Nat} (h : BOwn B w d) (hg : w.grownBy w' row) (hr : d.sl.ownBlock = none ∨ d.sl.ownBlock ≠ row) : BOwn B w' d := ⟨h.1.kept hg hr, h.2⟩
theorem BOwn.more {B B' : Nat} {w : World} {d : Dg} (h : BOwn B w d) (hB : B' ≤ B) : BOwn B' w d := ⟨ownsRow_more h.1 hB, h.2⟩
theorem Net.net_len {B g : Nat} {w : World} {v : Value} {ds : List Dg} {last : Int} (h : Net B w g v ds last) : ∃ A c, v = .slice A ds.length c := own_form h.row
theorem own_only_far {w : World} {B e s n q i : Nat} {v : Value} {xs : List Value} (h : w.ownsRow B e s v n xs) (_ : B ≤ q) (hp : v.ownBlock ≠ some q) (u : Value) : (w.setCell ⟨q, i, none⟩ u).ownsRow B e s v n xs := ownsRow_set h hp u
set_option maxRecDepth 100000 in
set_option maxHeartbeats 4000000 in
theorem list_any (g : Nat) (v : Value) (ds : List Dg) (last : Int) (B : Nat) (w : World) (h : Net B w g v ds last) (hlen : ds.length ≤ 1000) (hn : ∀ d ∈ ds, d.bs.length ≤ 1000000) :
    Calls Try.prog 19 #[P1 g] w fun e w' => ∃ A c es, e = .returned (.slice A ds.length c) ∧ w'.ownsRow w.heap.size 32 4 (.slice A ds.length c) ds.length (dgCells es) ∧ es.map Dg.k = ds.map Dg.k ∧ (∀ d ∈ es, BOwn w.heap.size w' d) ∧ Below w.heap.size w w' := by
  obtain ⟨i0, hi, hz0, hz1, hz2⟩ := info_parts info32
  have hl := len_any g v ds last B w h
  have H := Lib.hid h
  have HN := Lib.hid hn
  clear h hn
  unfold P1 at *
  go_enter Try.func19, Try.ntmps19
  go_wp2_with (go_at_call 13; refine hl.mono ?_; rintro _ _ ⟨rfl, rfl⟩)
  clear hl
  go_loopw [3, 8] (fun u i wr => ∃ (j : Nat) (es : List Dg), j ≤ ds.length ∧ i = .int .i64 j ∧ es.length = j ∧ wr.ownsRow w.heap.size 32 4 u j (dgCells es) ∧ es.map Dg.k = (ds.take j).map Dg.k ∧ (∀ d ∈ es, BOwn w.heap.size wr d) ∧ Below w.heap.size w wr) (fun _ i _ => ds.length - (intOf i).toNat)
  case atStart => exact ⟨0, [], by omega, rfl, rfl, World.ownsRow_nil _ _ _ _, by simp, by simp, Below.refl _ _⟩
  case round =>
    obtain ⟨j, es, hj, rfl, hel, ho, hk, hb, hbel⟩ := hrel
    have HO := Lib.hid ho
    have HK := Lib.hid hk
    have HB := Lib.hid hb
    have HE := Lib.hid hbel
    have HEL := Lib.hid hel
    have hbs := hbel.size
    clear ho hk hb hbel hel
    obtain ⟨A', c', rfl⟩ := own_form HO.out
    by_cases h1 : j < ds.length
    · have h1i : (j : Int) < (ds.length : Int) := by omega
      obtain ⟨d, hd⟩ : ∃ d, ds[j]? = some d := ⟨_, List.getElem?_eq_getElem h1⟩
      obtain ⟨r, c, hv, hc1, hc2⟩ := H.out.form hd
      have N1 := H.out.below HE.out
      rw [hv] at N1
      obtain ⟨d0, d1, d2, d3⟩ := N1.dg_cells hd
      have c0 : wr.cell? ⟨g, 0, none⟩ = some (.slice (some ⟨r, 0, none⟩) ds.length c) := (N1.blk.cell 0).trans rfl
      have hbo := (N1.own d (List.mem_of_getElem? hd)).ok.bys.below ((Below.refl _ wr).alloc (Nat.le_refl _) (.cells #[.int .i64 d.id, .string d.fr, .string d.to, .slice d.A d.n d.c] 32))
      have hcl := clone_any d.A d.n d.c d.bs _ hbo (by rw [← hbo.len]; exact HN.out d (List.mem_of_getElem? hd))
      have HD := Lib.hid hd
      have HQ := Lib.hid (Blk.new wr 32 #[.int .i64 d.id, .string d.fr, .string d.to, .slice d.A d.n d.c])
      have HBY := Lib.hid hbo.2
      have HN1 := Lib.hid N1
      unfold maxLen at hc2
      clear hv N1 hbo hd
      go_wp2_with (go_at_call 25; refine hcl.mono ?_; rintro _ w2 ⟨bA, bc, rfl, hbw, hb2⟩; refine Hid.out ?_)
      refine Lib.hid ?_
      have Q2 := HQ.out.below hb2 HQ.out.lt
      obtain ⟨q0, q1, q2, q3, _, _, _, qf3⟩ := Q2.four_facts
      have hbel2 : Below wr.heap.size wr w2 := ((Below.refl _ wr).alloc (Nat.le_refl _) _).trans (hb2.mono (by simp))
      have hs2 := hbel2.size
      have HO2 := Lib.hid (own_below HO.out hbel2)
      have HBW := Lib.hid hbw
      have HB2 := Lib.hid hbel2
      have K3 := Lib.hid (Q2.set_ 3 (.slice bA d.n bc))
      have hq := Q2.lt
      have Q2B := Lib.hid Q2
      clear Q2 hb2 hbw hbel2 d0 d1 d2 d3 c0 hcl HQ
      have hs3 : (w2.setCell ⟨wr.heap.size, 3, none⟩ (.slice bA d.n bc)).heap.size = w2.heap.size := by simp [World.setCell]
      have hO3 : ((w2.setCell ⟨wr.heap.size, 3, none⟩ (.slice bA d.n bc)).alloc (.cells #[.int .i64 d.id, .string d.fr, .string d.to, .slice bA d.n bc] 32)).ownsRow w.heap.size 32 4 (.slice A' j c') j (dgCells es) := (own_only_far HO2.out hbs (fun e => by have := (HO.out.lt _ e).2; omega) _).alloc _
      have HO3 := Lib.hid hO3
      have K4 := Blk.new (w2.setCell ⟨wr.heap.size, 3, none⟩ (.slice bA d.n bc)) 32 #[.int .i64 d.id, .string d.fr, .string d.to, .slice bA d.n bc]
      rw [hs3] at K4
      have HN4 := Lib.hid (blk_cells K4)
      clear hO3 K4
      go_wp2_with (at_builtin; refine wpList_append_own _ rfl _ _ 52 rfl w.heap.size 32 i0 _ 4 64 Try.underlying52 hi hz0 hz1 hz2 rfl (by decide) _ _ _ rfl HO3.out ⟨w2.heap.size, 0, none⟩ 1 1 [.int .i64 d.id, .string d.fr, .string d.to, .slice bA d.n bc] rfl rfl HN4.out (by simp [Value.oneCell']) (by unfold maxLen; omega) (by omega) (by simp [World.setCell]; omega) ?_; intro v7 w7 ho7 hg7 hx7; clear hx7)
      have hchain : ∀ e, BOwn w.heap.size w2 e → BOwn w.heap.size w7 e := fun e he =>
        (((he.set_ (p := ⟨wr.heap.size, 3, none⟩) (own_blk_ne he.1 Q2B.out (by decide)) _).below ((Below.refl _ _).alloc (Nat.le_refl _) _)).kept hg7 (own_own_ne ((he.set_ (p := ⟨wr.heap.size, 3, none⟩) (own_blk_ne he.1 Q2B.out (by decide)) (.slice bA d.n bc)).below ((Below.refl _ _).alloc (Nat.le_refl _) (.cells #[.int .i64 d.id, .string d.fr, .string d.to, .slice bA d.n bc] 32))).1 HO3.out (by decide)))
      have hown : ∀ e ∈ es ++ [(⟨d.id, d.fr, d.to, bA, d.n, bc, d.bs⟩ : Dg)], BOwn w.heap.size w7 e := fun e he => by
        rcases List.mem_append.1 he with he | he
        · exact hchain e ((HB.out e he).below HB2.out)
        · obtain rfl := List.mem_singleton.1 he
          exact hchain _ ⟨ownsRow_more HBW.out (by simp; omega), HBY.out⟩
      have hro : w7.ownsRow w.heap.size 32 4 v7 (j + 1) (dgCells (es ++ [(⟨d.id, d.fr, d.to, bA, d.n, bc, d.bs⟩ : Dg)])) := by rw [dgCells_append]; exact ho7
      have hbe7 : Below w.heap.size w w7 := below_own (((HE.out.trans (HB2.out.mono hbs)).setCell (p := ⟨wr.heap.size, 3, none⟩) hbs _).alloc (by rw [hs3]; omega) _) HO3.out hg7 (Nat.le_refl _) (by simp [World.setCell]; omega)
      have hk7 : (es ++ [(⟨d.id, d.fr, d.to, bA, d.n, bc, d.bs⟩ : Dg)]).map Dg.k = (ds.take (j + 1)).map Dg.k := by
        rw [List.take_add_one, HD.out, List.map_append, List.map_append, HK.out]
        rfl
      have HRO := Lib.hid hro
      have HOW := Lib.hid hown
      have HBE := Lib.hid hbe7
      have HK7 := Lib.hid hk7
      clear hchain hown hro hbe7 hk7 ho7 hg7 q0 q1 q2 q3 qf3
      go_wp2_with fail
      go_roundw
      case rel => exact ⟨j + 1, _, by omega, by go_num, by simp [HEL.out], HRO.out, HK7.out, HOW.out, HBE.out⟩
      case measure => simp [intOf]; omega
    · obtain rfl : j = ds.length := by omega
      have hk2 : es.map Dg.k = ds.map Dg.k := by have := HK.out; rwa [List.take_length] at this
      have HK2 := Lib.hid hk2
      clear hk2 HK
      go_wp2_with fail
      go_ret
      exact ⟨A', c', es, rfl, HO.out, HK2.out, HB.out, HE.out⟩
theorem list_nil (w : World) : Calls Try.prog 19 #[.pointer none] w fun e w' => e = .returned (.slice none 0 0) ∧ w = w' := by
  go_enter Try.func19, Try.ntmps19
  go_wp2_with (go_at_call 13; refine (len_nil w).mono ?_; rintro _ _ ⟨rfl, rfl⟩)
  go_loopw [3, 8] (fun u i wr => u = .slice none 0 0 ∧ i = .int .i64 0 ∧ w = wr) (fun _ _ _ => 0)
  case atStart => exact ⟨rfl, rfl, rfl⟩
  case round =>
    obtain ⟨rfl, rfl, rfl⟩ := hrel
    go_wp2_with fail
    go_ret
    exact ⟨rfl, rfl⟩
end Go.Proofs.Ythgbgkpchchicaa
