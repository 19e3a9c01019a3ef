import Derived.Test.YtbcmiembahhgeaaTwo
namespace Go.Proofs.Ytbcmiembahhgeaa
open Go.ChangeShapes Go.WideShapes Go.ChangeAt Go.RowKit
set_option linter.unusedVariables false
set_option linter.unusedSimpArgs false
theorem info9 : (Try.prog.info? 9).map (fun i => (i.zero, i.size, i.bytes)) = some (some (.string ⟨#[]⟩), 1, 16) := by kernel_rfl
theorem own_none9 (w : World) : (w.alloc (.cells #[] 9)).ownsRow w.heap.size 9 1 (.slice (some ⟨w.heap.size, 0, none⟩) 0 0) 0 [] := World.ownsRow_made w #[] 0 (Nat.le_refl _) (by unfold maxLen; omega) rfl
theorem str_one (ss : List ByteArray) : ∀ u ∈ ss.map Value.string, u.oneCell' = true := by
  intro u hu
  simp only [List.mem_map] at hu
  obtain ⟨x, _, rfl⟩ := hu
  rfl
theorem grown_none {w w' : World} (hg : w.grownBy w' none) : Below w.heap.size w w' := ⟨hg.os, hg.tape, hg.output, hg.size, fun i hi => hg.block i hi (by simp)⟩
theorem Strs.of_own {w : World} {base c n : Nat} {e : TypeId} {A : Option Addr} {ss : List ByteArray} (h : w.ownsRow base e 1 (.slice A n c) n (ss.map Value.string)) (hb : ∀ s ∈ ss, s.size ≤ maxLen) : Strs w A n ss := ⟨Reads.of_own h, hb⟩
theorem wpList_append_g {P : Program} (w : World) {ops : Array Oper} {rest : List Oper} {o : Oper} {a : Act} {Q : Exit → Act → World → Prop} (hgd : Region.wanted o (yielded ops a.tmps) = true) (s x : Operand) (t : TypeId)
    (ho : o.op = .call { callee := .builtin .append, args := #[s, x], argTypes := #[t, t] })
    (base : Nat) (e : TypeId) (i : TypeInfo) (z : Value) (size bytes : Nat) (ht : P.underlying t = some (.slice e)) (hi : P.info? e = some i) (hz : i.zero = some z)
    (hsize : i.size = size) (hby : i.bytes = bytes) (hzs : z.cells.size = size) (hsz : 0 < size)
    (v : Value) (n : Nat) (xs : List Value) (hs : a.eval s = v) (hown : w.ownsRow base e size v n xs)
    (B : Nat) (A : Option Addr) (m c : Nat) (news : List Value) (hx : a.eval x = .slice A m c) (hr : Reads w B size A m news) (h1 : ∀ u ∈ news, u.oneCell' = true)
    (h63 : n + m ≤ maxLen) (hbytes : (n + m) * bytes ≤ 140737488355328) (hbase : base ≤ w.heap.size)
    (h : ∀ v' w', w'.ownsRow base e size v' (n + m) (xs ++ news) → w.grownBy w' v.ownBlock → (v'.ownBlock = v.ownBlock ∨ v'.ownBlock = some w.heap.size) → wpList P ops Q rest (a.put o.dst v') w') : wpList P ops Q (o :: rest) a w :=
  wpList_step fun K hK => by
    rw [if_pos hgd]
    exact wp_append_any w s x t ho base e i z size bytes ht hi hz hsize hby hzs hsz v n xs hs hown B A m c news hx hr h1 h63 hbytes hbase fun v' w' h2 h3 h4 => hK _ _ (h v' w' h2 h3 h4)
theorem two_reads (w : World) (s t : ByteArray) : Reads (w.alloc (.cells #[.string s, .string t] 9)) (w.heap.size + 1) 1 (some ⟨w.heap.size, 0, none⟩) 2 ([s, t].map Value.string) := by
  refine ⟨rfl, fun _ => ⟨_, rfl, by simp, fun j u hu => ?_⟩⟩
  have hb := Blk.new w 9 #[.string s, .string t]
  rw [add_none, Nat.zero_add, Blk.cell hb j]
  match j with
  | 0 => simpa using hu
  | 1 => simpa using hu
  | j + 2 => simp at hu
/-- The loop's state. -/
def Loop (w0 wr : World) (g g' N : Nat) (first probe : ByteArray) (s9 s10 s11 s12 : Value) : Prop :=
  ∃ (j n m : Nat) (a : ByteArray) (cnt : ByteArray → Nat), j ≤ N ∧ n ≤ j ∧ m ≤ j ∧ (∀ t, cnt t ≤ j) ∧ s9 = .string a ∧ s10 = .int .i64 m ∧ s11 = .int .i64 (cnt probe) ∧ s12 = .int .i64 j ∧ Two w0 wr g g' n a m cnt (firstS first)
set_option maxRecDepth 100000 in
set_option maxHeartbeats 4000000 in
theorem matches_law (first probe : ByteArray) (A : Option Addr) (N c : Nat) (ss : List ByteArray) (w : World) (hf : first.size ≤ maxLen) (hp : probe.size ≤ maxLen) (hS : Strs w A N ss) (hN : N * 16 ≤ 140737488351232) :
    Calls Try.prog 3 #[.string first, .slice A N c, .string probe] w fun e w' => e = .returned (.bool true) ∧ Below w.heap.size w w' := by
  have hA := awake_any
  obtain ⟨i0, hi, hz0, hz1, hz2⟩ := info_parts info9
  have HS := Lib.hid hS
  have HF := Lib.hid (And.intro hf hp)
  clear hf hp hS
  go_enter Try.func3, Try.ntmps3
  go_wp2_with (first
    | (go_at_call 7; refine (hA _).mono ?_; rintro _ w1 ⟨rfl, hb⟩; refine Hid.out ?_))
  refine Lib.hid ?_
  have HB := Lib.hid hb
  have HS1 := Lib.hid (HS.out.below hb)
  clear hb
  go_wp2_with (at_builtin; refine wpList_append_g _ rfl (.tmp 21) (.tmp 22) 22 rfl w1.heap.size 9 i0 (.string ⟨#[]⟩) 1 16 Try.underlying22 hi hz0 hz1 hz2 rfl (by decide) (.slice (some ⟨w1.heap.size, 0, none⟩) 0 0) 0 [] rfl (own_none9 w1) w1.heap.size A N c _ rfl (Reads.alloc HS1.out.1 (Nat.le_refl _) _) (str_one _) (by unfold maxLen; omega) (by omega) (by simp) ?_; refine Hid.out ?_)
  refine Lib.hid ?_
  intro v2 w2 ho2 hg2 hor
  have ho2 : w2.ownsRow w1.heap.size 9 1 v2 N (ss.map Value.string) := by simpa using ho2
  have hg3 : w1.grownBy w2 none := ⟨hg2.os, hg2.tape, hg2.output, Nat.le_trans (by simp) hg2.size, fun i hi _ => by
    have h1 := hg2.block i (by simp; omega) (by simp [Value.ownBlock]; omega)
    rw [h1]; exact Below.heap_alloc w1 _ i hi⟩
  have HB2 := Lib.hid (HB.out.trans ((grown_none hg3).mono HB.out.size))
  have hs2 : w1.heap.size ≤ w2.heap.size := hg3.size
  have HO := Lib.hid ho2
  clear ho2 hg2 hor hg3 HS1
  obtain ⟨A2, c2, rfl⟩ := own_form HO.out
  go_wp2_with (at_builtin; refine wpList_append_g _ rfl (.tmp 23) (.tmp 26) 22 rfl w1.heap.size 9 i0 (.string ⟨#[]⟩) 1 16 Try.underlying22 hi hz0 hz1 hz2 rfl (by decide) (.slice A2 N c2) N (ss.map Value.string) rfl (HO.out.alloc _) (w2.heap.size + 1) (some ⟨w2.heap.size, 0, none⟩) 2 2 ([first, probe].map Value.string) rfl (two_reads w2 first probe) (str_one _) (by unfold maxLen; omega) (by omega) (by simp; omega) ?_; refine Hid.out ?_)
  refine Lib.hid ?_
  intro v3 w3 ho3 hg3 hor
  have hB0 := HB.out.size
  have HB3 := Lib.hid (below_own (HB2.out.alloc HB2.out.size _) (HO.out.alloc _) hg3 hB0 (Nat.le_trans HB2.out.size (by simp)))
  obtain ⟨A3, c3, rfl⟩ := own_form ho3
  have hS3 : Strs w3 A3 (N + 2) (ss ++ [first, probe]) := Strs.of_own (by simpa using ho3) (by
    intro s hs
    rcases List.mem_append.1 hs with h | h
    · exact HS.out.2 s h
    · simp at h
      rcases h with rfl | rfl
      · exact HF.out.1
      · exact HF.out.2)
  have hfew := few_any w3 A3 (N + 2) c3 _ hS3 (by unfold maxLen; omega)
  clear ho3 hg3 hor hS3 HO HB2 hs2 HB
  go_wp2_with (first
    | (go_at_call 8; refine hfew.mono ?_; rintro _ _ ⟨⟨b, rfl, hbt⟩, rfl⟩; refine Hid.out ?_))
  refine Lib.hid ?_
  clear hfew
  cases b
  · go_wp2_with (first
      | (go_at_call 7; refine (hA _).mono ?_; rintro _ w4 ⟨rfl, hb⟩; refine Hid.out ?_))
    refine Lib.hid ?_
    have HB4 := Lib.hid (HB3.out.trans (hb.mono HB3.out.size))
    clear hb
    go_wp2_with fail
    go_ret
    exact ⟨rfl, HB4.out⟩
  · have hN100 : N + 2 ≤ 100 := hbt rfl
    clear hbt hA hN hi hz0 hz1 hz2
    have hN := new_any first w3 HF.out.1
    go_wp2_with (first
      | (go_at_call 9; refine hN.mono ?_; rintro _ w4 ⟨g, rfl, hP⟩; refine Hid.out ?_))
    refine Lib.hid ?_
    clear hN
    have hN := fixed_any first w4 HF.out.1
    have HP := Lib.hid hP
    clear hP
    go_wp2_with (first
      | (go_at_call 10; refine hN.mono ?_; rintro _ w5 ⟨g', rfl, hQ⟩; refine Hid.out ?_))
    refine Lib.hid ?_
    clear hN
    have H0 := Lib.hid (Two.of_new HB3.out HP.out hQ)
    clear hQ HP HB3
    go_wp2_with (first
      | (go_at_call 11; refine (rfirst_any first _ HF.out.1).mono ?_; rintro _ _ ⟨rfl, rfl⟩; refine Hid.out ?_))
    refine Lib.hid ?_
    go_wp2_with fail
    go_loopw [9, 10, 11, 12] (fun s9 s10 s11 s12 wr => Loop w wr g g' N first probe s9 s10 s11 s12) (fun _ _ _ i _ => N - (intOf i).toNat)
    case atStart => exact ⟨0, 0, 0, firstS first, fun _ => 0, by omega, by omega, by omega, by simp, rfl, rfl, rfl, rfl, H0.out⟩
    case round =>
      obtain ⟨j, n, m, a, cnt, hj, hn, hm, hc, rfl, rfl, rfl, rfl, hT⟩ := hrel
      have HT := Lib.hid hT
      have HC := Lib.hid hc
      have hc1 := hc probe
      clear hT hc H0
      by_cases hlt : j < N
      · obtain ⟨b, o, s, rfl, hb, hs, hsl, hcell0⟩ := HS.out.cell hlt
        have hcell : wr.cell? ⟨b, o + j, none⟩ = some (.string s) := (HT.out.frame.cell (p := ⟨b, o + j, none⟩) hb).trans hcell0
        have HSL := Lib.hid (And.intro hsl (And.intro hb hcell0))
        clear hsl hb hcell0 hs
        obtain ⟨r, hr⟩ : ∃ r, rightS s = r := ⟨_, rfl⟩
        have hR := fun W => rright_any s W HSL.out.1
        rw [hr] at hR
        have HR := Lib.hid hr
        clear hr
        cases r
        · skip
          go_wp2_with (first
            | (go_at_call 12; refine (hR _).mono ?_; rintro _ _ ⟨rfl, rfl⟩)
            | (go_at_call 13; refine (HT.out.wrong s HSL.out.1 HR.out).mono ?_; rintro _ w2 ⟨rfl, hT2⟩; refine Hid.out ?_))
          refine Lib.hid ?_
          have hcell2 : w2.cell? ⟨b, o + j, none⟩ = some (.string s) := (hT2.frame.cell (p := ⟨b, o + j, none⟩) HSL.out.2.1).trans HSL.out.2.2
          have HT2 := Lib.hid hT2
          clear hT2 hcell
          go_wp2_with (first
            | (go_at_call 12; refine (hR _).mono ?_; rintro _ _ ⟨rfl, rfl⟩)
            | (go_at_call 13; refine (HT2.out.fixed s).mono ?_; rintro _ _ ⟨rfl, rfl⟩)
            | (go_at_call 14; refine (addr_q HT2.out.one).mono ?_; rintro _ _ ⟨rfl, k, rfl⟩; refine Hid.out ?_))
          refine Lib.hid ?_
          have HT3 := Lib.hid (HT2.out.drewN k)
          have hmv := moves_p HT3.out.one
          have hmt := met_p HT3.out.one probe HF.out.2
          clear hR hcell2
          go_wp2_with (first
            | (go_at_call 15; refine hmv.mono ?_; rintro _ _ ⟨rfl, rfl⟩)
            | (go_at_call 16; refine hmt.mono ?_; rintro _ _ ⟨rfl, rfl⟩))
          go_roundw
          case rel => exact ⟨j + 1, n, m, a, cnt, by omega, by omega, by omega, fun t => by have := HC.out t; omega, rfl, by simp, by simp, by go_num, by simpa using HT3.out⟩
          case measure => simp [intOf]; omega
        · by_cases he : s = a
          · obtain rfl := he
            have e1 : (s.toList == s.toList) = true := by simp
            have eA : movA s s = s := by unfold movA; rw [if_pos e1]
            have eM : movM s s m = m := by unfold movM; rw [if_pos e1]
            have HE := Lib.hid (And.intro eA eM)
            clear eA eM
            by_cases hq : probe = s
            · obtain rfl := hq
              go_wp2_with (first
                | (go_at_call 12; refine (hR _).mono ?_; rintro _ _ ⟨rfl, rfl⟩)
                | (go_at_call 13; refine (HT.out.move probe HSL.out.1 HR.out (by omega) (by omega) (by have := HC.out probe; omega)).mono ?_; rintro _ w2 ⟨rfl, hT2⟩; refine Hid.out ?_))
              refine Lib.hid ?_
              rw [HE.out.1, HE.out.2] at hT2
              have hcell2 : w2.cell? ⟨b, o + j, none⟩ = some (.string probe) := (hT2.frame.cell (p := ⟨b, o + j, none⟩) HSL.out.2.1).trans HSL.out.2.2
              have HT2 := Lib.hid hT2
              clear hT2 hcell
              go_wp2_with (first
                | (go_at_call 12; refine (hR _).mono ?_; rintro _ _ ⟨rfl, rfl⟩)
                | (go_at_call 13; refine (HT2.out.fixed probe).mono ?_; rintro _ _ ⟨rfl, rfl⟩)
                | (go_at_call 14; refine (addr_q HT2.out.one).mono ?_; rintro _ _ ⟨rfl, k, rfl⟩; refine Hid.out ?_))
              refine Lib.hid ?_
              have HT3 := Lib.hid (HT2.out.drewN k)
              have hmv := moves_p HT3.out.one
              have hmt := met_p HT3.out.one probe HF.out.2
              clear hR hcell2
              have eB : bump cnt probe probe = cnt probe + 1 := by simp [bump]
              rw [eB] at hmt
              have HEB := Lib.hid eB
              clear eB
              go_wp2_with (first
                | (go_at_call 15; refine hmv.mono ?_; rintro _ _ ⟨rfl, rfl⟩)
                | (go_at_call 16; refine hmt.mono ?_; rintro _ _ ⟨rfl, rfl⟩))
              go_roundw
              case rel => exact ⟨j + 1, n + 1, m, probe, bump cnt probe, by omega, by omega, by omega, fun t => by have h1 := HC.out t; have h2 := HC.out probe; unfold bump; split <;> omega, rfl, by go_num, by rw [HEB.out]; try go_num, by go_num, by simpa using HT3.out⟩
              case measure => simp [intOf]; omega
            · have hq2 : (s.toList == probe.toList) = false := by simp; exact fun h => hq (toList_inj h).symm
              go_wp2_with (first
                | (go_at_call 12; refine (hR _).mono ?_; rintro _ _ ⟨rfl, rfl⟩)
                | (go_at_call 13; refine (HT.out.move s HSL.out.1 HR.out (by omega) (by omega) (by have := HC.out s; omega)).mono ?_; rintro _ w2 ⟨rfl, hT2⟩; refine Hid.out ?_))
              refine Lib.hid ?_
              rw [HE.out.1, HE.out.2] at hT2
              have hcell2 : w2.cell? ⟨b, o + j, none⟩ = some (.string s) := (hT2.frame.cell (p := ⟨b, o + j, none⟩) HSL.out.2.1).trans HSL.out.2.2
              have HT2 := Lib.hid hT2
              clear hT2 hcell
              go_wp2_with (first
                | (go_at_call 12; refine (hR _).mono ?_; rintro _ _ ⟨rfl, rfl⟩)
                | (go_at_call 13; refine (HT2.out.fixed s).mono ?_; rintro _ _ ⟨rfl, rfl⟩)
                | (go_at_call 14; refine (addr_q HT2.out.one).mono ?_; rintro _ _ ⟨rfl, k, rfl⟩; refine Hid.out ?_))
              refine Lib.hid ?_
              have HT3 := Lib.hid (HT2.out.drewN k)
              have hmv := moves_p HT3.out.one
              have hmt := met_p HT3.out.one probe HF.out.2
              clear hR hcell2
              have eB : bump cnt s probe = cnt probe := by simp [bump, hq]
              rw [eB] at hmt
              have HEB := Lib.hid eB
              clear eB
              go_wp2_with (first
                | (go_at_call 15; refine hmv.mono ?_; rintro _ _ ⟨rfl, rfl⟩)
                | (go_at_call 16; refine hmt.mono ?_; rintro _ _ ⟨rfl, rfl⟩))
              go_roundw
              case rel => exact ⟨j + 1, n + 1, m, s, bump cnt s, by omega, by omega, by omega, fun t => by have h1 := HC.out t; have h2 := HC.out s; unfold bump; split <;> omega, rfl, by go_num, by rw [HEB.out]; try go_num, by go_num, by simpa using HT3.out⟩
              case measure => simp [intOf]; omega
          · have e1 : (a.toList == s.toList) = false := by simp; exact fun h => he (toList_inj h).symm
            have e2 : (s.toList == a.toList) = false := by simp; exact fun h => he (toList_inj h)
            have eA : movA a s = s := by unfold movA; rw [e1]; rfl
            have eM : movM a s m = m + 1 := by unfold movM; rw [e1]; rfl
            have HE := Lib.hid (And.intro eA eM)
            clear eA eM
            by_cases hq : probe = s
            · obtain rfl := hq
              go_wp2_with (first
                | (go_at_call 12; refine (hR _).mono ?_; rintro _ _ ⟨rfl, rfl⟩)
                | (go_at_call 13; refine (HT.out.move probe HSL.out.1 HR.out (by omega) (by omega) (by have := HC.out probe; omega)).mono ?_; rintro _ w2 ⟨rfl, hT2⟩; refine Hid.out ?_))
              refine Lib.hid ?_
              rw [HE.out.1, HE.out.2] at hT2
              have hcell2 : w2.cell? ⟨b, o + j, none⟩ = some (.string probe) := (hT2.frame.cell (p := ⟨b, o + j, none⟩) HSL.out.2.1).trans HSL.out.2.2
              have HT2 := Lib.hid hT2
              clear hT2 hcell
              go_wp2_with (first
                | (go_at_call 12; refine (hR _).mono ?_; rintro _ _ ⟨rfl, rfl⟩)
                | (go_at_call 13; refine (HT2.out.fixed probe).mono ?_; rintro _ _ ⟨rfl, rfl⟩)
                | (go_at_call 14; refine (addr_q HT2.out.one).mono ?_; rintro _ _ ⟨rfl, k, rfl⟩; refine Hid.out ?_))
              refine Lib.hid ?_
              have HT3 := Lib.hid (HT2.out.drewN k)
              have hmv := moves_p HT3.out.one
              have hmt := met_p HT3.out.one probe HF.out.2
              clear hR hcell2
              have eB : bump cnt probe probe = cnt probe + 1 := by simp [bump]
              rw [eB] at hmt
              have HEB := Lib.hid eB
              clear eB
              go_wp2_with (first
                | (go_at_call 15; refine hmv.mono ?_; rintro _ _ ⟨rfl, rfl⟩)
                | (go_at_call 16; refine hmt.mono ?_; rintro _ _ ⟨rfl, rfl⟩))
              go_roundw
              case rel => exact ⟨j + 1, n + 1, m + 1, probe, bump cnt probe, by omega, by omega, by omega, fun t => by have h1 := HC.out t; have h2 := HC.out probe; unfold bump; split <;> omega, rfl, by go_num, by rw [HEB.out]; try go_num, by go_num, by simpa using HT3.out⟩
              case measure => simp [intOf]; omega
            · have hq2 : (s.toList == probe.toList) = false := by simp; exact fun h => hq (toList_inj h).symm
              go_wp2_with (first
                | (go_at_call 12; refine (hR _).mono ?_; rintro _ _ ⟨rfl, rfl⟩)
                | (go_at_call 13; refine (HT.out.move s HSL.out.1 HR.out (by omega) (by omega) (by have := HC.out s; omega)).mono ?_; rintro _ w2 ⟨rfl, hT2⟩; refine Hid.out ?_))
              refine Lib.hid ?_
              rw [HE.out.1, HE.out.2] at hT2
              have hcell2 : w2.cell? ⟨b, o + j, none⟩ = some (.string s) := (hT2.frame.cell (p := ⟨b, o + j, none⟩) HSL.out.2.1).trans HSL.out.2.2
              have HT2 := Lib.hid hT2
              clear hT2 hcell
              go_wp2_with (first
                | (go_at_call 12; refine (hR _).mono ?_; rintro _ _ ⟨rfl, rfl⟩)
                | (go_at_call 13; refine (HT2.out.fixed s).mono ?_; rintro _ _ ⟨rfl, rfl⟩)
                | (go_at_call 14; refine (addr_q HT2.out.one).mono ?_; rintro _ _ ⟨rfl, k, rfl⟩; refine Hid.out ?_))
              refine Lib.hid ?_
              have HT3 := Lib.hid (HT2.out.drewN k)
              have hmv := moves_p HT3.out.one
              have hmt := met_p HT3.out.one probe HF.out.2
              clear hR hcell2
              have eB : bump cnt s probe = cnt probe := by simp [bump, hq]
              rw [eB] at hmt
              have HEB := Lib.hid eB
              clear eB
              go_wp2_with (first
                | (go_at_call 15; refine hmv.mono ?_; rintro _ _ ⟨rfl, rfl⟩)
                | (go_at_call 16; refine hmt.mono ?_; rintro _ _ ⟨rfl, rfl⟩))
              go_roundw
              case rel => exact ⟨j + 1, n + 1, m + 1, s, bump cnt s, by omega, by omega, by omega, fun t => by have h1 := HC.out t; have h2 := HC.out s; unfold bump; split <;> omega, rfl, by go_num, by rw [HEB.out]; try go_num, by go_num, by simpa using HT3.out⟩
              case measure => simp [intOf]; omega
      · skip
        go_wp2_with (first
          | (go_at_call 14; refine (addr_q HT.out.two).mono ?_; rintro _ _ ⟨rfl, k, rfl⟩; refine Hid.out ?_))
        refine Lib.hid ?_
        have HT3 := Lib.hid (HT.out.drewN k)
        have hmv := moves_p HT3.out.two
        have hmt := met_p HT3.out.two probe HF.out.2
        go_wp2_with (first
          | (go_at_call 11; refine (rfirst_any first _ HF.out.1).mono ?_; rintro _ _ ⟨rfl, rfl⟩)
          | (go_at_call 15; refine hmv.mono ?_; rintro _ _ ⟨rfl, rfl⟩)
          | (go_at_call 16; refine hmt.mono ?_; rintro _ _ ⟨rfl, rfl⟩))
        go_ret
        exact ⟨ret_true (by simp), HT3.out.frame⟩
end Go.Proofs.Ytbcmiembahhgeaa
