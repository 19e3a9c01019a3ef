import Derived.Test.YtbkgmeopdcealaaDoorTab
namespace Go.Proofs.YtbkgmeopdcealaaDoor
open Go.ChangeShapes Go.WideShapes Go.ChangeAt Go.RowKit Go.Sort Go.Deep
set_option linter.unusedVariables false
set_option linter.unusedSimpArgs false
theorem grown_set {w : World} {B i : Nat} (v : Value) : w.grownBy (w.setCell ⟨B, i, none⟩ v) (some B) := only_setCell (only_refl w B) (.inl rfl) v
theorem Got.bad {f : Nat} {x : ByteArray} {B : Nat} {o : Op} {w w' : World} (hg : w.grownBy w' (some B)) (h : readF f x o.p = none) : Got f x B o w false w' := ⟨hg, fun h => (nomatch h), fun _ => h⟩
theorem Got.good {f : Nat} {x : ByteArray} {B : Nat} {o o' : Op} {w w' : World} (hg : w.grownBy w' (some B)) (h : readF f x o.p = some o'.p) (hk : Blk w' B 29 o'.arr) (ho : OpOk w' o') (hf : Off o' B) : Got f x B o w true w' :=
  ⟨hg, fun _ => ⟨o', h, hk, ho, hf⟩, fun h => (nomatch h)⟩
set_option maxRecDepth 100000 in
theorem at_first (B : Nat) (w : World) (hB : B < w.heap.size) : Calls Tryd.prog 42 #[.pointer (some ⟨B, 0, none⟩)] w fun e w' => e = .returned (.pointer (some ⟨B, 2, none⟩)) ∧ w = w' := by
  go_enter Tryd.func42, Tryd.ntmps42
  go_wp2_with fail
  go_ret
  exact ⟨rfl, rfl⟩
set_option maxRecDepth 100000 in
theorem at_second (B : Nat) (w : World) (hB : B < w.heap.size) : Calls Tryd.prog 43 #[.pointer (some ⟨B, 0, none⟩)] w fun e w' => e = .returned (.pointer (some ⟨B, 3, none⟩)) ∧ w = w' := by
  go_enter Tryd.func43, Tryd.ntmps43
  go_wp2_with fail
  go_ret
  exact ⟨rfl, rfl⟩
set_option maxRecDepth 100000 in
set_option maxHeartbeats 1000000 in
/-- The reader of WHO. -/
theorem read_who (x : ByteArray) (B : Nat) (o : Op) (w : World) (hT : Tab w) (hK : Blk w B 29 o.arr) (hO : OpOk w o) (hF : Off o B) :
    Calls Tryd.prog 44 #[.pointer (some ⟨B, 0, none⟩), .string x] w fun e w' => ∃ b, e = .returned (.bool b) ∧ Got 119 x B o w b w' := by
  have c1 : w.cell? ⟨B, 1, none⟩ = some (.int .i64 o.wh) := (hK.cell 1).trans rfl
  have f1 := hK.frozen 1
  have n0 : w.cell? ⟨1, 0, none⟩ = some (.string ⟨#[99, 108, 105, 101, 110, 116]⟩) := hT.nam 0 _ rfl
  have n1 : w.cell? ⟨1, 1, none⟩ = some (.string ⟨#[115, 101, 114, 118, 101, 114]⟩) := hT.nam 1 _ rfl
  have hlt := hK.lt
  have ix0 : ∀ W : World, (Instr.index 73 (.agg #[.string ⟨#[99, 108, 105, 101, 110, 116]⟩, .string ⟨#[115, 101, 114, 118, 101, 114]⟩]) (.int .i64 0)).run Tryd.prog W = .ok (.string ⟨#[99, 108, 105, 101, 110, 116]⟩) W := fun W => by kernel_rfl
  have ix1 : ∀ W : World, (Instr.index 73 (.agg #[.string ⟨#[99, 108, 105, 101, 110, 116]⟩, .string ⟨#[115, 101, 114, 118, 101, 114]⟩]) (.int .i64 1)).run Tryd.prog W = .ok (.string ⟨#[115, 101, 114, 118, 101, 114]⟩) W := fun W => by kernel_rfl
  have HX := Lib.hid (And.intro hK (And.intro hO hF))
  clear hT hK hO hF
  by_cases hc : x = clS
  · have HR := Lib.hid (show readF 119 x o.p = some ⟨o.p.kd, 0, o.p.nn, o.p.mm, o.p.bs, o.p.ad⟩ by rw [readF_w, if_pos hc])
    have e0 : ([99, 108, 105, 101, 110, 116] == x.toList) = true := by rw [hc]; first | rfl | decide | simp [clS]
    clear hc
    go_enter Tryd.func44, Tryd.ntmps44
    go_wp2_with fail
    go_loopw [8] (fun i wr => i = .int .i64 0 ∧ wr = w) (fun _ _ => 0)
    case atStart => exact ⟨rfl, rfl⟩
    case round =>
      obtain ⟨rfl, rfl⟩ := hrel
      go_wp2_with fail
      go_ret
      exact ⟨true, rfl, Got.good (o' := ⟨o.kd, 0, o.nn, o.mm, o.A, o.n, o.c, o.bs, o.ad⟩) (grown_set _) HR.out (HX.out.1.set_ 1 _) (by
        have h := HX.out.2.1.only (grown_set (i := 1) (.int .i64 0)) HX.out.2.2
        exact ⟨h.y, h.c0, h.c1, h.k0, h.k1, by simp only; omega, by simp only; omega, h.n0, h.n1, h.m0, h.m1, h.a1⟩) HX.out.2.2⟩
  · have e0 : ([99, 108, 105, 101, 110, 116] == x.toList) = false := by have := toList_ne (fun e => hc (Eq.symm e)); rwa [show clS.toList = [99, 108, 105, 101, 110, 116] by first | rfl | decide | simp [clS]] at this
    by_cases hs : x = svS
    · have HR := Lib.hid (show readF 119 x o.p = some ⟨o.p.kd, 1, o.p.nn, o.p.mm, o.p.bs, o.p.ad⟩ by rw [readF_w, if_neg hc, if_pos hs])
      have e1 : ([115, 101, 114, 118, 101, 114] == x.toList) = true := by rw [hs]; first | rfl | decide | simp [svS]
      clear hc hs
      go_enter Tryd.func44, Tryd.ntmps44
      go_wp2_with fail
      go_loopw [8] (fun i wr => (i = .int .i64 0 ∨ i = .int .i64 1) ∧ wr = w) (fun i _ => 2 - (intOf i).toNat)
      case atStart => exact ⟨.inl rfl, rfl⟩
      case round =>
        obtain ⟨rfl | rfl, rfl⟩ := hrel
        · go_wp2_with fail
          go_roundw
          case rel => exact ⟨.inr rfl, by first | rfl | trivial⟩
          case measure => simp [intOf]
        · go_wp2_with fail
          go_ret
          exact ⟨true, rfl, Got.good (o' := ⟨o.kd, 1, o.nn, o.mm, o.A, o.n, o.c, o.bs, o.ad⟩) (grown_set _) HR.out (HX.out.1.set_ 1 _) (by
            have h := HX.out.2.1.only (grown_set (i := 1) (.int .i64 1)) HX.out.2.2
            exact ⟨h.y, h.c0, h.c1, h.k0, h.k1, by simp only; omega, by simp only; omega, h.n0, h.n1, h.m0, h.m1, h.a1⟩) HX.out.2.2⟩
    · have HR := Lib.hid (show readF 119 x o.p = none by rw [readF_w, if_neg hc, if_neg hs])
      have e1 : ([115, 101, 114, 118, 101, 114] == x.toList) = false := by have := toList_ne (fun e => hs (Eq.symm e)); rwa [show svS.toList = [115, 101, 114, 118, 101, 114] by first | rfl | decide | simp [svS]] at this
      clear hc hs
      go_enter Tryd.func44, Tryd.ntmps44
      go_wp2_with fail
      go_loopw [8] (fun i wr => (i = .int .i64 0 ∨ i = .int .i64 1 ∨ i = .int .i64 2) ∧ wr = w) (fun i _ => 2 - (intOf i).toNat)
      case atStart => exact ⟨.inl rfl, rfl⟩
      case round =>
        obtain ⟨rfl | rfl | rfl, rfl⟩ := hrel
        · go_wp2_with fail
          go_roundw
          case rel => exact ⟨.inr (.inl rfl), by first | rfl | trivial⟩
          case measure => simp [intOf]
        · go_wp2_with fail
          go_roundw
          case rel => exact ⟨.inr (.inr rfl), by first | rfl | trivial⟩
          case measure => simp [intOf]
        · go_wp2_with fail
          go_ret
          exact ⟨false, rfl, Got.bad (only_refl _ _) HR.out⟩
set_option maxRecDepth 100000 in
set_option maxHeartbeats 1000000 in
/-- The reader of ADDRESS. -/
theorem read_addr (x : ByteArray) (B : Nat) (o : Op) (w : World) (hx : x.size ≤ maxLen) (hK : Blk w B 29 o.arr) (hO : OpOk w o) (hF : Off o B) :
    Calls Tryd.prog 45 #[.pointer (some ⟨B, 0, none⟩), .string x] w fun e w' => ∃ b, e = .returned (.bool b) ∧ Got 97 x B o w b w' := by
  have c5 : w.cell? ⟨B, 5, none⟩ = some (.string o.ad) := (hK.cell 5).trans rfl
  have f5 := hK.frozen 5
  have hlt := hK.lt
  have hr := Right_any x (w.setCell ⟨B, 5, none⟩ (.string x)) hx
  have HZ := Lib.hid hx
  have HX := Lib.hid (And.intro hK (And.intro hO hF))
  clear hK hO hF hx
  obtain ⟨r, hrr⟩ : ∃ r, rightS x = r := ⟨_, rfl⟩
  rw [hrr] at hr
  have HR := Lib.hid hrr
  clear hrr
  go_enter Tryd.func45, Tryd.ntmps45
  go_wp2_with (go_at_call 46; refine hr.mono ?_; rintro _ w2 ⟨rfl, hb⟩; refine Hid.out ?_)
  refine Lib.hid ?_
  have HB := Lib.hid hb
  clear hb hr c5 f5
  go_wp2_with fail
  go_ret
  have hs : (w.setCell ⟨B, 5, none⟩ (.string x)).heap.size = w.heap.size := World.size_setCell _ _ _
  have hg : w.grownBy w2 (some B) := (grown_set (i := 5) (.string x)).trans (only_of_below HB.out _)
  refine ⟨r, rfl, ?_⟩
  cases r with
  | false => exact Got.bad hg (by rw [readF_a, if_neg (by rw [HR.out]; decide)])
  | true =>
    refine Got.good (o' := ⟨o.kd, o.wh, o.nn, o.mm, o.A, o.n, o.c, o.bs, x⟩) hg (by rw [readF_a, if_pos HR.out]; rfl) ?_ ?_ HX.out.2.2
    · exact (HX.out.1.set_ 5 (.string x)).below HB.out (by rw [hs]; exact HX.out.1.lt)
    · have h := HX.out.2.1.only hg HX.out.2.2
      exact ⟨h.y, h.c0, h.c1, h.k0, h.k1, h.w0, h.w1, h.n0, h.n1, h.m0, h.m1, HZ.out⟩
set_option maxRecDepth 100000 in
set_option maxHeartbeats 1000000 in
/-- The reader of BODY. -/
theorem read_body (x : ByteArray) (B : Nat) (o : Op) (w : World) (hx : x.size ≤ 1000000) (hK : Blk w B 29 o.arr) (hO : OpOk w o) (hF : Off o B) :
    Calls Tryd.prog 47 #[.pointer (some ⟨B, 0, none⟩), .string x] w fun e w' => ∃ b, e = .returned (.bool b) ∧ Got 98 x B o w b w' := by
  have hu := unhex_any x w hx
  have hlt := hK.lt
  have HX := Lib.hid (And.intro hK (And.intro hO hF))
  clear hK hO hF hx
  cases hr : unhexS x with
  | none =>
    have HR := Lib.hid (show readF 98 x o.p = none by rw [readF_b, hr])
    rw [hr] at hu
    clear hr
    go_enter Tryd.func47, Tryd.ntmps47
    go_wp2_with (go_at_call 22; refine hu.mono ?_; rintro _ w2 ⟨rfl, hb⟩; refine Hid.out ?_)
    refine Lib.hid ?_
    have HB := Lib.hid hb
    have c4 : w2.cell? ⟨B, 4, none⟩ = some (.slice o.A o.n o.c) := ((HX.out.1.below hb HX.out.1.lt).cell 4).trans rfl
    have f4 := (HX.out.1.below hb HX.out.1.lt).frozen 4
    have hlt2 := (HX.out.1.below hb HX.out.1.lt).lt
    clear hb hu
    go_wp2_with fail
    go_ret
    exact ⟨false, rfl, Got.bad ((only_of_below HB.out _).trans (grown_set _)) HR.out⟩
  | some bs =>
    rw [hr] at hu
    have HR := Lib.hid hr
    clear hr
    go_enter Tryd.func47, Tryd.ntmps47
    go_wp2_with (go_at_call 22; refine hu.mono ?_; rintro _ w2 ⟨⟨v, rfl, ho⟩, hb⟩; refine Hid.out ?_)
    refine Lib.hid ?_
    obtain ⟨A, c, rfl⟩ := own_form ho
    have HB := Lib.hid hb
    have HO := Lib.hid ho
    have K2 := HX.out.1.below hb HX.out.1.lt
    have HK2 := Lib.hid K2
    have c4 : w2.cell? ⟨B, 4, none⟩ = some (.slice o.A o.n o.c) := (K2.cell 4).trans rfl
    have f4 := K2.frozen 4
    have hlt2 := K2.lt
    have hg : w.grownBy (w2.setCell ⟨B, 4, none⟩ (.slice A bs.length c)) (some B) := (only_of_below hb _).trans (grown_set _)
    have HG := Lib.hid hg
    obtain ⟨hcap0, hcap1⟩ : bs.length ≤ c ∧ c ≤ maxLen := by
      rcases ho.2 with ⟨e, e2⟩ | ⟨g, cap, cur, e, _, _, h1, h2, _⟩
      · injection e with _ _ e3; rw [e2, e3]; exact ⟨Nat.le_refl _, by unfold maxLen; omega⟩
      · injection e with _ _ e3; rw [e3]; exact ⟨h1, h2⟩
    have HC := Lib.hid (And.intro hcap0 hcap1)
    have HL := Lib.hid (show readF 98 x o.p = if bs.length ≤ 1300 then some ⟨o.p.kd, o.p.wh, o.p.nn, o.p.mm, bs, o.p.ad⟩ else none by rw [readF_b, HR.out])
    obtain ⟨L, hL⟩ : ∃ L, bs.length = L := ⟨_, rfl⟩
    have HLL := Lib.hid hL
    have hl63 : L ≤ 9223372036854775807 := by unfold maxLen at hcap1; omega
    rw [hL] at HG ⊢
    clear hb hu ho K2 hg hcap0 hcap1 hL
    by_cases h1 : L ≤ 1300
    · have hi : (L : Int) ≤ 1300 := by omega
      clear h1
      go_wp2_with fail
      go_ret
      refine ⟨true, rfl, Got.good (o' := ⟨o.kd, o.wh, o.nn, o.mm, A, L, c, bs, o.ad⟩) HG.out (by rw [HL.out, if_pos (by rw [HLL.out]; omega)]; rfl) ?_ ?_ ?_⟩
      · exact HK2.out.set_ 4 _
      · have h := HX.out.2.1.only HG.out HX.out.2.2
        have hy : Bys (w2.setCell ⟨B, 4, none⟩ (.slice A L c)) A L bs := by
          have ho2 := HO.out.kept (grown_set (B := B) (i := 4) (.slice A L c)) (by
            have := own_ne HO.out HX.out.1.lt
            exact .inr (fun e => this e.symm))
          have hb256 : ∀ y ∈ bs, y < 256 := (hex_unhex HR.out).2.1
          have := Bys.of_own (bs := bs) (n := bs.length) (by rw [HLL.out]; rw [HLL.out] at ho2; exact ho2) hb256
          rwa [HLL.out] at this
        exact ⟨hy, by have := HC.out.1; simp only; rw [← HLL.out]; exact this, HC.out.2, h.k0, h.k1, h.w0, h.w1, h.n0, h.n1, h.m0, h.m1, h.a1⟩
      · rintro ad e
        rcases HO.out.2 with ⟨e1, _⟩ | ⟨g, cap, cur, e1, hbg, _⟩
        · injection e1 with e1; simp only at e; rw [e1] at e; cases e
        · injection e1 with e1
          simp only at e
          rw [e1] at e
          injection e with e
          subst e
          have := HX.out.1.lt
          simp only
          omega
    · have hi : ¬ (L : Int) ≤ 1300 := by omega
      clear h1
      go_wp2_with fail
      go_ret
      exact Or.inl ⟨by first | rfl | simp [hi], Got.bad HG.out (by rw [HL.out, if_neg (by rw [HLL.out]; omega)])⟩
set_option maxRecDepth 100000 in
set_option maxHeartbeats 1000000 in
/-- The reader of N. -/
theorem read_nn (x : ByteArray) (B m p q : Nat) (o : Op) (w : World) (hm : m ≤ 2000000) (hx : x.size ≤ 1000000) (hT : Tab w) (hK : Blk w B 29 o.arr) (Kp : Blk w p 3 #[.int .i64 (m : Int)]) (Kq : Blk w q 68 #[.func (.func 42) #[] #[]]) (hB : 10 ≤ B) :
    Calls Tryd.prog 40 #[.pointer (some ⟨B, 0, none⟩), .string x, .pointer (some ⟨p, 0, none⟩), .pointer (some ⟨q, 0, none⟩)] w fun e w' => e = .returned (.bool (numB x m)) ∧ w.grownBy w' (some B) ∧ (numB x m = true → Blk w' B 29 (o.arr.setIfInBounds 2 (.int .i64 (dvS x : Nat)))) := by
  have hu := number_any x m w hx hm hT.pow hT.syn hT.rng
  have hlt := hK.lt
  have HX := Lib.hid (And.intro hK (And.intro Kp Kq))
  have cp : w.cell? ⟨p, 0, none⟩ = some (.int .i64 (m : Int)) := (Kp.cell 0).trans rfl
  have ltp := Kp.lt
  clear hT hK Kp Kq hx
  obtain ⟨r, hr⟩ : ∃ r, numB x m = r := ⟨_, rfl⟩
  rw [hr] at hu ⊢
  clear hr
  go_enter Tryd.func40, Tryd.ntmps40
  go_wp2_with (go_at_call 41; refine hu.mono ?_; rintro _ w2 ⟨⟨n, rfl, hn⟩, hb⟩; refine Hid.out ?_)
  refine Lib.hid ?_
  have HB := Lib.hid hb
  have HN := Lib.hid hn
  have K2 := HX.out.1.below hb HX.out.1.lt
  have HK2 := Lib.hid K2
  have c2 : w2.cell? ⟨B, 2, none⟩ = some (.int .i64 o.nn) := (K2.cell 2).trans rfl
  have f2 := K2.frozen 2
  have hlt2 := K2.lt
  have cq : w2.cell? ⟨q, 0, none⟩ = some (.func (.func 42) #[] #[]) := ((HX.out.2.2.below hb HX.out.2.2.lt).cell 0).trans rfl
  have ltq := (HX.out.2.2.below hb HX.out.2.2.lt).lt
  have hf := at_first B w2 hlt2
  clear hb hu hn K2 cp
  go_wp2_with (go_at_call 42; refine hf.mono ?_; rintro _ _ ⟨rfl, rfl⟩)
  go_ret
  exact ⟨rfl, (only_of_below HB.out _).trans (grown_set _), fun h => by rw [HN.out h]; exact HK2.out.set_ 2 _⟩
set_option maxRecDepth 100000 in
set_option maxHeartbeats 1000000 in
/-- The reader of M. -/
theorem read_mm (x : ByteArray) (B m p q : Nat) (o : Op) (w : World) (hm : m ≤ 2000000) (hx : x.size ≤ 1000000) (hT : Tab w) (hK : Blk w B 29 o.arr) (Kp : Blk w p 3 #[.int .i64 (m : Int)]) (Kq : Blk w q 68 #[.func (.func 43) #[] #[]]) (hB : 10 ≤ B) :
    Calls Tryd.prog 40 #[.pointer (some ⟨B, 0, none⟩), .string x, .pointer (some ⟨p, 0, none⟩), .pointer (some ⟨q, 0, none⟩)] w fun e w' => e = .returned (.bool (numB x m)) ∧ w.grownBy w' (some B) ∧ (numB x m = true → Blk w' B 29 (o.arr.setIfInBounds 3 (.int .i64 (dvS x : Nat)))) := by
  have hu := number_any x m w hx hm hT.pow hT.syn hT.rng
  have hlt := hK.lt
  have HX := Lib.hid (And.intro hK (And.intro Kp Kq))
  have cp : w.cell? ⟨p, 0, none⟩ = some (.int .i64 (m : Int)) := (Kp.cell 0).trans rfl
  have ltp := Kp.lt
  clear hT hK Kp Kq hx
  obtain ⟨r, hr⟩ : ∃ r, numB x m = r := ⟨_, rfl⟩
  rw [hr] at hu ⊢
  clear hr
  go_enter Tryd.func40, Tryd.ntmps40
  go_wp2_with (go_at_call 41; refine hu.mono ?_; rintro _ w2 ⟨⟨n, rfl, hn⟩, hb⟩; refine Hid.out ?_)
  refine Lib.hid ?_
  have HB := Lib.hid hb
  have HN := Lib.hid hn
  have K2 := HX.out.1.below hb HX.out.1.lt
  have HK2 := Lib.hid K2
  have c2 : w2.cell? ⟨B, 3, none⟩ = some (.int .i64 o.mm) := (K2.cell 3).trans rfl
  have f2 := K2.frozen 3
  have hlt2 := K2.lt
  have cq : w2.cell? ⟨q, 0, none⟩ = some (.func (.func 43) #[] #[]) := ((HX.out.2.2.below hb HX.out.2.2.lt).cell 0).trans rfl
  have ltq := (HX.out.2.2.below hb HX.out.2.2.lt).lt
  have hf := at_second B w2 hlt2
  clear hb hu hn K2 cp
  go_wp2_with (go_at_call 43; refine hf.mono ?_; rintro _ _ ⟨rfl, rfl⟩)
  go_ret
  exact ⟨rfl, (only_of_below HB.out _).trans (grown_set _), fun h => by rw [HN.out h]; exact HK2.out.set_ 3 _⟩
end Go.Proofs.YtbkgmeopdcealaaDoor
