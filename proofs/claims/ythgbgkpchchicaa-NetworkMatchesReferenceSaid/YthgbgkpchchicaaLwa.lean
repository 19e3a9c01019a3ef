import Derived.Test.YthgbgkpchchicaaAwk
import Derived.Test.YthgbgkpchchicaaArg
namespace Go.Proofs.Ythgbgkpchchicaa
open Go.ChangeShapes Go.WideShapes Go.ChangeAt Go.RowKit Go.Maps Go.Sort
set_option linter.unusedVariables false
set_option linter.unusedSimpArgs false
/-- The row holds the bodies from place i on, numbered. -/
def Rowed (l : List Bd) (i : Nat) (ds : List Dg) : Prop := ds.length + i = l.length ∧ ∀ j d, ds[j]? = some d → d.id = ((i + j + 1 : Nat) : Int) ∧ ∃ b, l[i + j]? = some b ∧ d.bs = b.bs
theorem Rowed.step {l : List Bd} {i : Nat} {d : Dg} {ds : List Dg} (h : Rowed l i (d :: ds)) : Rowed l (i + 1) ds :=
  ⟨by have := h.1; simp at this; omega, fun j x hx => by
    have := h.2 (j + 1) x (by simpa using hx)
    rw [show i + (j + 1) = i + 1 + j by omega] at this
    exact this⟩
/-- The first bodies have been posted. -/
def Pst (l : List Bd) (i : Nat) (ds : List Dg) : Prop := ds.length = i ∧ ∀ j d, ds[j]? = some d → d.id = ((j + 1 : Nat) : Int) ∧ ∃ b, l[j]? = some b ∧ d.bs = b.bs
theorem Pst.next {l : List Bd} {i : Nat} {ds : List Dg} {d : Dg} {b : Bd} {f t : ByteArray} (h : Pst l i ds) (hb : l[i]? = some b) (hk : d.k = ((i : Int) + 1, f, t, b.bs)) : Pst l (i + 1) (ds ++ [d]) := by
  obtain ⟨h1, h2⟩ := h
  refine ⟨by simp [h1], fun j x hx => ?_⟩
  by_cases hj : j < ds.length
  · exact h2 j x (by rwa [List.getElem?_append_left hj] at hx)
  · have hlt := (List.getElem?_eq_some_iff.1 hx).1
    simp at hlt
    obtain rfl : j = ds.length := by omega
    simp at hx
    subst hx
    simp only [Dg.k, Prod.mk.injEq] at hk
    exact ⟨by rw [hk.1, ← h1]; simp, b, by rw [h1]; exact hb, hk.2.2.2⟩
theorem Pst.rowed {l : List Bd} {i : Nat} {ds : List Dg} (h : Pst l i ds) (hl : l.length = i) : Rowed l 0 ds :=
  ⟨by rw [h.1, hl]; rfl, fun j d hd => by rw [Nat.zero_add]; exact h.2 j d hd⟩
set_option maxRecDepth 100000 in
set_option maxHeartbeats 8000000 in
theorem first_any (w : World) (A : Option Addr) (n c : Nat) (l : List Bd) (h : Bds w A n l) (hm : n ≤ maxLen) : Calls Try.prog 3 #[.slice A n c] w fun e w' => e = .returned (.bool true) ∧ Below w.heap.size w w' := by
  have hl := h.2.1
  unfold maxLen at hm
  by_cases hn : 50 < n
  · have hni : (50 : Int) < (n : Int) := by omega
    clear h hl
    go_enter Try.func3, Try.ntmps3
    go_wp2_with (go_at_call 8; refine (awake_any _).mono ?_; rintro _ w1 ⟨rfl, hb1⟩; refine Hid.out ?_)
    refine Lib.hid ?_
    have H1 := Lib.hid hb1
    clear hb1
    go_wp2_with (go_at_call 8; refine (awake_any _).mono ?_; rintro _ w2 ⟨rfl, hb2⟩)
    go_ret
    exact ⟨rfl, H1.out.trans (hb2.mono H1.out.size)⟩
  have hn50 : n ≤ 50 := by omega
  clear hn
  have H := Lib.hid h
  clear h
  have hni : ¬ (50 : Int) < (n : Int) := by omega
  go_enter Try.func3, Try.ntmps3
  go_wp2_with (go_at_call 8; refine (awake_any _).mono ?_; rintro _ w1 ⟨rfl, hb1⟩; refine Hid.out ?_)
  refine Lib.hid ?_
  have hnew := new_any w1
  have H1 := Lib.hid hb1
  have hs1 := hb1.size
  unfold P1 at hnew
  clear hb1
  go_wp2_with (go_at_call 9; refine hnew.mono ?_; rintro _ w2 ⟨rfl, hN, hB⟩; refine Hid.out ?_)
  refine Lib.hid ?_
  have HN := Lib.hid hN
  have HB := Lib.hid (H1.out.trans (hB.mono hs1))
  clear hN hB hnew
  obtain ⟨g, hg⟩ : ∃ g, w1.heap.size = g := ⟨_, rfl⟩
  rw [hg] at HN hs1 ⊢
  go_wp2_with fail
  go_loopw [4] (fun i wr => ∃ (j : Nat) (v : Value) (ds : List Dg), j ≤ n ∧ i = .int .i64 j ∧ Net g wr g v ds j ∧ Below w.heap.size w wr ∧ Pst l j ds) (fun i _ => n - (intOf i).toNat)
  case atStart => exact ⟨0, _, [], by omega, rfl, HN.out, HB.out, rfl, by simp⟩
  case round =>
    clear HN HB H1
    obtain ⟨j, v, ds, hj, rfl, hN, hB, hP⟩ := hrel
    have HN := Lib.hid hN
    have HB := Lib.hid hB
    have HP := Lib.hid hP
    clear hN hB hP
    by_cases h1 : j < n
    · have h1i : (j : Int) < (n : Int) := by omega
      obtain ⟨b, o, e, rfl, hbl, hs, hok, hc⟩ := H.out.at_ h1
      have c0 := (HB.out.cell (p := ⟨b, o + j, none⟩) hbl).trans hc
      have HS := Lib.hid hs
      have HK := Lib.hid (hok.below HB.out)
      clear hs hok hc
      by_cases h2 : 200 < e.n
      · have h2i : (200 : Int) < (e.n : Int) := by omega
        go_wp2_with fail
        go_ret
        exact ⟨rfl, HB.out⟩
      · have h2i : ¬ (200 : Int) < (e.n : Int) := by omega
        have hp := post_any g v ds j g wr ⟨#[97]⟩ ⟨#[98]⟩ e.A e.n e.c e.bs HN.out (by rw [HP.out.1]; omega) (by omega) (by omega) HK.out.bys (by omega)
        unfold P1 at hp
        go_wp2_with (go_at_call 10; refine hp.mono ?_; rintro _ w3 ⟨v3, d, rfl, hN, hk, _, hT, _⟩; refine Hid.out ?_)
        refine Lib.hid ?_
        have HB3 := Lib.hid (HB.out.trans ((HN.out.base hT).mono (by omega)))
        have HN3 := Lib.hid hN
        have HK3 := Lib.hid hk
        clear hp hN hk hT c0 h2 h2i
        go_wp2_with fail
        go_roundw
        case rel => exact ⟨j + 1, v3, ds ++ [d], by omega, by go_num, by simpa using HN3.out, HB3.out, HP.out.next HS.out HK3.out⟩
        case measure => simp [intOf]; omega
    · obtain rfl : j = n := by omega
      have hR := HP.out.rowed hl
      have HR := Lib.hid hR
      clear HP hR h1
      go_wp2_with fail
      go_loopw [7] (fun i ws => ∃ (k : Nat) (u : Value) (es : List Dg), k ≤ j ∧ i = .int .i64 k ∧ Net g ws g u es j ∧ Below w.heap.size w ws ∧ Rowed l k es) (fun i _ => j - (intOf i).toNat)
      case atStart => exact ⟨0, v, ds, by omega, rfl, HN.out, HB.out, HR.out⟩
      case round =>
        clear HN HB HR
        obtain ⟨k, u, es, hk, rfl, hN, hB, hP⟩ := hrel
        have hel : es.length + k = l.length := hP.1
        have HN := Lib.hid hN
        have HB := Lib.hid hB
        have HP := Lib.hid hP
        clear hN hB hP
        by_cases h1 : k < j
        · have h1i : (k : Int) < (j : Int) := by omega
          obtain ⟨d, es, rfl⟩ : ∃ d es', es = d :: es' := by
            cases es with
            | nil => simp at hel; omega
            | cons d es => exact ⟨d, es, rfl⟩
          have hd : (d :: es)[0]? = some d := rfl
          obtain ⟨hid, b', hb', hbs⟩ := HP.out.2 0 d hd
          obtain ⟨b, o, e, rfl, hbl, hs, hok, hc⟩ := H.out.at_ h1
          obtain rfl : e = b' := by
            rw [Nat.add_zero, hs] at hb'
            injection hb'
          have hp := take_in g 0 u (d :: es) j d g wr HN.out hd (by omega)
          have HO := Lib.hid (HN.out.own d (List.mem_of_getElem? hd))
          have HK := Lib.hid hok
          have HC := Lib.hid hc
          have HID := Lib.hid (show d.id = (k : Int) + 1 by rw [hid]; push_cast; omega)
          have HBS := Lib.hid hbs
          have HBL := Lib.hid hbl
          unfold P1 Dg.v at hp
          clear hb' hs hok hc hd hid hbs hbl
          go_wp2_with (go_at_call 11; refine hp.mono ?_; rintro _ w5 ⟨v5, rfl, hN, hT, _, _⟩; refine Hid.out ?_)
          refine Lib.hid ?_
          have hB5 := HB.out.trans ((HN.out.base hT).mono (by omega))
          have hb6 : Below w5.heap.size w5 (w5.alloc (.cells #[.int .i64 d.id, .string d.fr, .string d.to, .slice d.A d.n d.c] 32)) := (Below.refl _ _).alloc (Nat.le_refl _) _
          have Q6 := Blk.new w5 32 #[.int .i64 d.id, .string d.fr, .string d.to, .slice d.A d.n d.c]
          have O6 := (HN.out.otherB hT HO.out).below hb6
          have N6 := hN.below hb6
          have B6 := hB5.trans (hb6.mono hB5.size)
          obtain ⟨q0, q1, q2, q3, _, _, _, _⟩ := Q6.four_facts
          have c0 := (B6.cell (p := ⟨b, o + k, none⟩) HBL.out).trans HC.out
          have q0' := q0.trans (congrArg (fun z => some (Value.int .i64 z)) HID.out)
          clear q0
          have E6 := HK.out.below B6
          have hsm : ∀ q os, Calls Try.prog 12 #[.slice d.A d.n d.c, .slice e.A e.n e.c] (grow (redrawn (w5.alloc (.cells #[.int .i64 d.id, .string d.fr, .string d.to, .slice d.A d.n d.c] 32)) q) os) fun r w' => r = .returned (.bool true) ∧ Below (grow (redrawn (w5.alloc (.cells #[.int .i64 d.id, .string d.fr, .string d.to, .slice d.A d.n d.c] 32)) q) os).heap.size (grow (redrawn (w5.alloc (.cells #[.int .i64 d.id, .string d.fr, .string d.to, .slice d.A d.n d.c] 32)) q) os) w' := fun q os => by
            have h9 := same_below d.A e.A d.n d.c e.n e.c d.bs e.bs _ (O6.below (below_regrown _ q os)).ok.bys (E6.below (below_regrown _ q os)).bys O6.ok.len E6.len
            rw [show decide (d.bs = e.bs) = true by simp [HBS.out]] at h9
            exact h9
          have HSM := Lib.hid hsm
          have r0 := cell_regrown q0'
          have r3 := cell_regrown q3
          have rc := cell_regrown c0
          have HB6 := Lib.hid B6
          have HN6 := Lib.hid N6
          have HP6 := Lib.hid (HP.out.step)
          clear hsm hp hN hT hB5 hb6 Q6 O6 N6 B6 q0' q1 q2 q3 c0 E6
          go_wp2_with fail
          have c8 := HSM
          clear c8
          generalize w5.alloc (.cells #[.int .i64 d.id, .string d.fr, .string d.to, .slice d.A d.n d.c] 32) = w6 at *
          generalize w5.heap.size = p5 at *
          have hwr : IntKind.i64.wrap ((k : Int) + 1) = (k : Int) + 1 := by rw [IntKind.wrap_i64]; omega
          refine wp_region_quiet_below (by kernel_rfl) (by kernel_rfl) ?_
          repeat (first
            | go_big_quiet_skip
            | quiet_step ((go_at_call 12; with_reducible exact Calls.regrown_of (HSM.out _ _))))
          refine wpQuiet_nil ?_
          rintro _ ⟨⟨dq, osq⟩, rfl⟩
          have HBq := Lib.hid (below_regrown w6 dq osq)
          clear hwr r0 r3 rc
          generalize grow (redrawn w6 dq) osq = w7 at *
          go_wp2_with fail
          go_roundw
          case rel => exact ⟨k + 1, v5, _, by omega, by go_num, HN6.out.below HBq.out, HB6.out.trans (HBq.out.mono HB6.out.size), HP6.out⟩
          case measure => simp [intOf]; omega
        · obtain rfl : k = j := by omega
          have he0 : es = [] := List.eq_nil_of_length_eq_zero (by omega)
          subst he0
          have hln := len_any g u [] k g wr HN.out
          have hdr := drop_out g u [] k 0 g wr HN.out rfl
          rw [show errV 10 = .iface 62 (.int .i64 10) from rfl] at hdr
          have htl := fun W => told_any 10 10 W
          rw [show errV 10 = .iface 62 (.int .i64 10) from rfl] at htl
          unfold P1 at hln hdr
          simp only [List.length_nil] at hln
          go_wp2_with (first
            | (go_at_call 13; refine hln.mono ?_; rintro _ _ ⟨rfl, rfl⟩)
            | (go_at_call 15; refine hdr.mono ?_; rintro _ w8 ⟨rfl, hb8⟩)
            | (go_at_call 14; refine (htl _).mono ?_; rintro _ w9 ⟨rfl, hb9⟩))
          go_ret
          exact ⟨rfl, HB.out.trans ((hb8.trans (hb9.mono hb8.size)).mono HB.out.size)⟩
end Go.Proofs.Ythgbgkpchchicaa
