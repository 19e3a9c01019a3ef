import Derived.Test.YtgnegllehcpdpaaDoorTxb
namespace Go.Proofs.YtgnegllehcpdpaaDoor
open Go.ChangeShapes Go.WideShapes Go.ChangeAt Go.RowKit Go.Sort
set_option linter.unusedVariables false
set_option linter.unusedSimpArgs false
theorem rtext_no (e : Ev) (w : World) (he : EvOk w e) (hr : rightB e = false) : Calls Tryd.prog 13 #[e.v] w fun r w' => r = .returned (.string ByteArray.empty) ∧ Below w.heap.size w w' := by
  have hb0 : Below w.heap.size w (w.alloc (.cells #[.int .i64 e.kind, .int .i64 e.who, .int .u64 e.seq, .int .u64 e.tick, .int .i64 e.code, .slice e.A e.n e.c, .string e.ad] 25)) := (Below.refl _ w).alloc (Nat.le_refl _) _
  have hrt := rright_any e _ (he.below hb0)
  have H0 := Lib.hid hb0
  rw [hr] at hrt
  unfold Ev.v at *
  clear he hr hb0
  go_enter Tryd.func13, Tryd.ntmps13
  go_wp2_with (go_at_call 11; refine hrt.mono ?_; rintro _ w1 ⟨rfl, hb⟩; refine Hid.out ?_)
  refine Lib.hid ?_
  have H1 := Lib.hid (H0.out.trans (hb.mono H0.out.size))
  clear hb
  go_wp2_with fail
  go_ret
  exact ⟨rfl, H1.out⟩
theorem joinS_snoc' (xs : List ByteArray) (y : ByteArray) (h : xs ≠ []) : joinS (xs ++ [y]) = joinS xs ++ (⟨#[32]⟩ : ByteArray) ++ y := by
  cases xs with
  | nil => exact absurd rfl h
  | cons x xs => exact joinS_snoc x xs y
theorem rtF_eq (q h sq tk n : Nat) (cd : Int) (ad : ByteArray) (A : Option Addr) (c : Nat) (bs : List Nat) (hq : q < 5) (hh : h < 2) :
    rtF q (wd (q + 1) ++ wh2 h ++ decS tk) (decS sq) (decS n) (nameS cd) ad = joinS (partsE ⟨(q : Nat) + 1, (h : Nat), (sq : Nat), (tk : Nat), cd, A, n, c, bs, ad⟩) := by
  have h3 := join3 (wd (q + 1)) h (decS tk) hh
  have e1 : ((q : Int) + 1).toNat = q + 1 := by omega
  unfold partsE
  simp only [e1, Int.toNat_natCast, itS_nat]
  have : q = 0 ∨ q = 1 ∨ q = 2 ∨ q = 3 ∨ q = 4 := by omega
  rw [← h3]
  rcases this with rfl | rfl | rfl | rfl | rfl
  · rw [if_pos (by simp)]
    rw [show ∀ (a b c d e f : ByteArray), [a, b, c] ++ [d, e, f] = (([a, b, c] ++ [d]) ++ [e]) ++ [f] from fun _ _ _ _ _ _ => rfl, joinS_snoc' _ _ (by simp), joinS_snoc' _ _ (by simp), joinS_snoc' _ _ (by simp)]
    rfl
  · rw [if_pos (by simp)]
    rw [show ∀ (a b c d e f : ByteArray), [a, b, c] ++ [d, e, f] = (([a, b, c] ++ [d]) ++ [e]) ++ [f] from fun _ _ _ _ _ _ => rfl, joinS_snoc' _ _ (by simp), joinS_snoc' _ _ (by simp), joinS_snoc' _ _ (by simp)]
    rfl
  · rw [if_neg (by simp), if_pos (by simp)]
    rw [show ∀ (a b c d e : ByteArray), [a, b, c] ++ [d, e] = ([a, b, c] ++ [d]) ++ [e] from fun _ _ _ _ _ => rfl, joinS_snoc' _ _ (by simp), joinS_snoc' _ _ (by simp)]
    rfl
  · rw [if_neg (by simp), if_neg (by simp), if_pos (by simp)]
    rw [joinS_snoc' _ _ (by simp)]
    rfl
  · rw [if_neg (by simp), if_neg (by simp), if_neg (by simp), List.append_nil]
    rfl
theorem rtext_any (e : Ev) (w : World) (he : EvOk w e) (hn : e.n ≤ 5000) (had : e.ad.size ≤ 5000) : Calls Tryd.prog 13 #[e.v] w fun r w' => r = .returned (.string (textS e)) ∧ Below w.heap.size w w' := by
  cases hr : rightB e with
  | false =>
    have := rtext_no e w he hr
    unfold textS
    rw [hr]
    exact this
  | true =>
    have hp : rightP e := by simpa [rightB] using hr
    have hrt := fun W (hb : Below w.heap.size w W) => rright_any e W (he.below hb)
    unfold textS
    rw [hr, if_pos rfl]
    rw [hr] at hrt
    have s0 := he.s0
    have s1 := he.s1
    have t0 := he.t0
    have t1 := he.t1
    clear he
    obtain ⟨k, wh, sq, tk, cd, A, n, c, bs, ad⟩ := e
    simp only [Ev.v] at *
    obtain ⟨sq, rfl⟩ : ∃ m : Nat, sq = m := ⟨sq.toNat, by omega⟩
    obtain ⟨tk, rfl⟩ : ∃ m : Nat, tk = m := ⟨tk.toNat, by omega⟩
    obtain ⟨h, rfl⟩ : ∃ m : Nat, wh = m := ⟨wh.toNat, by have := hp.1; simp only at this; omega⟩
    have hh : h < 2 := by have := hp.1; simp only at this; omega
    have hk : 1 ≤ k ∧ k ≤ 5 := by have := hp.2; simp only at this; omega
    obtain ⟨q, rfl⟩ : ∃ m : Nat, k = (m : Int) + 1 := ⟨(k - 1).toNat, by omega⟩
    exact rtext_yes q h sq tk cd A n c ad _ w (rtF_eq q h sq tk n cd ad A c bs (by omega) hh) (by omega) hh (by omega) (by omega) hn had hrt
end Go.Proofs.YtgnegllehcpdpaaDoor
