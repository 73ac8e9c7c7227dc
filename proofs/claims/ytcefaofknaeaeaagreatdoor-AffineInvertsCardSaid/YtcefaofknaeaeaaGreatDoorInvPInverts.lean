/- What the law AffineInverts computes, as told by the print: it returns true; plain Lean. -/
import Derived.Test.YtcefaofknaeaeaaGreatDoorInvPInv
import Derived.Test.YtcefaofknaeaeaaGreatDoorInvXq
set_option linter.unusedVariables false
set_option linter.unusedSimpArgs false
set_option linter.unusedSectionVars false
namespace Go.Proofs.YtcefaofknaeaeaaGreatDoor.X
open Go.RowKit Go.Proofs.YtcefaofknaeaeaaGreatDoorW.PrintWords Go.Proofs.YtcefaofknaeaeaaGreatDoorW.PrintLast Go.Proofs.YtcefaofknaeaeaaGreatDoorW.PrintMore AffMath
theorem is_bad_ev (d : Int) (l : List (List Int)) (e : Int) (he : e ≠ 0) : Ev (fun k => demoticlaw19_is.f k 0 [] e d l e) true := by
 refine ⟨0, fun k _ => ?_⟩
 show demoticlaw19_is.f k 0 [] e d l e = some true
 unfold demoticlaw19_is.f
 rw [if_neg he, if_pos rfl, if_pos rfl]; rfl
theorem is_not_ev (d' : Int) (l' : List (List Int)) (e' : Int) (d : Int) (l : List (List Int)) (e : Int) (he : e ≠ 0) (h : e' ≠ e) : Ev (fun k => demoticlaw19_is.f k d' l' e' d l e) false := by
 refine ⟨0, fun k _ => ?_⟩
 show demoticlaw19_is.f k d' l' e' d l e = some false
 unfold demoticlaw19_is.f
 rw [if_neg he, if_neg h]
theorem is_right_ev {d : Int} {l : List (List Int)} (h : rightB d l = true) : Ev (fun k => demoticlaw19_is.f k d l 0 d l 0) true := by
 obtain ⟨d0, d6, l6⟩ := rightB_dims h
 obtain ⟨k, h⟩ := is_ok d l (by omega) (fun i hi => by have := (rightB_row h i hi).1; omega)
 exact Ev.of (fun k => demoticlaw19_is.mono _ _ _ _ _ _ k) h
section
variable {n : Nat} {l : List (List Int)} (hl : l.length = n) (hr : rightB (n : Int) l = true)
include hl hr
theorem inverts_tail (d' : Int) (C : List (List Int)) (e : Int) (hi : invertS (n : Int) l = (d', C, e)) (b : Bool) (hb : b = true → n ≤ 3 ∧ SmallM n l) : Ev (fun k => demoticlaw19_AffineInverts.l0 k e b (n : Int) (n : Int) l d' C) true := by
 by_cases hg : ∃ C, Good n l C
 ·obtain ⟨C0, hC⟩ := hg
  rw [invertS_good hr hl hC] at hi
  simp only [Prod.mk.injEq] at hi
  obtain ⟨rfl, rfl, rfl⟩ := hi
  obtain ⟨K1, h1⟩ := undoes_ev hr hl hC
  cases b with
  | true =>
   obtain ⟨hn, hs⟩ := hb rfl
   obtain ⟨K2, h2⟩ := rinv_ev hn hl hr hs
   rw [rinvS_good hn hl hr hC] at h2
   obtain ⟨K3, h3⟩ := is_right_ev hC.right
   refine ⟨K1 + K2 + K3 + 1, fun k hk => ?_⟩
   obtain ⟨m, rfl⟩ : ∃ m, k = m + 1 := ⟨k - 1, by omega⟩
   have e1 := h1 m (by omega)
   have e2 := h2 m (by omega)
   have e3 := h3 m (by omega)
   simp only at e1 e2 e3
   simp only [demoticlaw19_AffineInverts.l0]
   rw [if_neg (by omega), if_pos trivial]
   simp only [demoticlaw19_their.f, Option.bind_some, e2]
   rw [if_pos trivial, e3]
   simp only [Option.bind_some]
   rw [if_pos trivial, e1]
   rfl
  | false =>
   obtain ⟨K3, h3⟩ := is_not_ev (n : Int) C0 0 0 [] 4 (by decide) (by decide)
   refine ⟨K1 + K3 + 1, fun k hk => ?_⟩
   obtain ⟨m, rfl⟩ : ∃ m, k = m + 1 := ⟨k - 1, by omega⟩
   have e1 := h1 m (by omega)
   have e3 := h3 m (by omega)
   simp only at e1 e3
   simp only [demoticlaw19_AffineInverts.l0]
   rw [if_neg (by omega), if_neg (by simp), e3]
   simp only [demoticlaw19_their.f, Option.bind_some]
   rw [if_neg (by simp), if_pos trivial, e1]
   rfl
 ·rw [invertS_none hr hl hg] at hi
  simp only [Prod.mk.injEq] at hi
  obtain ⟨rfl, rfl, rfl⟩ := hi
  obtain ⟨K3, h3⟩ := is_bad_ev 0 [] 4 (by decide)
  cases b with
  | true =>
   obtain ⟨hn, hs⟩ := hb rfl
   obtain ⟨K2, h2⟩ := rinv_ev hn hl hr hs
   have hq := rinvS_none hn hl hr hg
   refine ⟨K2 + K3 + 1, fun k hk => ?_⟩
   obtain ⟨m, rfl⟩ : ∃ m, k = m + 1 := ⟨k - 1, by omega⟩
   have e2 := h2 m (by omega)
   have e3 := h3 m (by omega)
   simp only at e2 e3
   simp only [demoticlaw19_AffineInverts.l0]
   rw [if_neg (by omega), if_pos trivial]
   simp only [demoticlaw19_their.f, Option.bind_some, e2]
   rw [if_neg (by rw [hq]; simp), e3]
   rfl
  | false =>
   refine ⟨K3 + 1, fun k hk => ?_⟩
   obtain ⟨m, rfl⟩ : ∃ m, k = m + 1 := ⟨k - 1, by omega⟩
   have e3 := h3 m (by omega)
   simp only at e3
   simp only [demoticlaw19_AffineInverts.l0]
   rw [if_neg (by omega), if_neg (by simp), e3]
   rfl
theorem inverts_l1 (d' : Int) (C : List (List Int)) (e : Int) (i : Nat) (hi : i < n)
  (H : ∀ b : Bool, (b = true → n ≤ 3 ∧ ∀ t, t < i + 1 → ∀ j, j < n + 1 → -1000 ≤ mE l t j ∧ mE l t j ≤ 1000) → Ev (fun k => demoticlaw19_AffineInverts.l0 k e b ((i + 1 : Nat) : Int) (n : Int) l d' C) true) :
  ∀ (q j : Nat) (b : Bool), j + q = n + 1 → (b = true → n ≤ 3 ∧ (∀ t, t < i → ∀ j, j < n + 1 → -1000 ≤ mE l t j ∧ mE l t j ≤ 1000) ∧ ∀ u, u < j → -1000 ≤ mE l i u ∧ mE l i u ≤ 1000) →
   Ev (fun k => demoticlaw19_AffineInverts.l1 k e b (i : Int) (j : Int) (n : Int) l d' C) true
 | 0, j, b, hj, hb => by
  have hn6 := rightB_dims hr
  have hrl := right_len hr i (by omega)
  refine Ev.step (f := fun k => demoticlaw19_AffineInverts.l0 k e b ((i + 1 : Nat) : Int) (n : Int) l d' C) (fun k => ?_) (H b (fun hbt => by
   obtain ⟨h1, h2, h3⟩ := hb hbt
   refine ⟨h1, fun t ht u hu => ?_⟩
   by_cases c : t = i
   ·subst c; exact h3 u (by omega)
   ·exact h2 t (by omega) u hu))
  simp only [demoticlaw19_AffineInverts.l1]
  rw [if_pos (by omega), if_pos (by omega), if_neg (by omega), wrap_id (by omega) (by omega)]
  rfl
 | q + 1, j, b, hj, hb => by
  have hn6 := rightB_dims hr
  have hrl := right_len hr i (by omega)
  have hent : rd (rd_L1 l (i : Int)) (j : Int) = mE l i j := by rw [rd_nat]; rfl
  have go : ∀ b' : Bool, (b' = true → n ≤ 3 ∧ (∀ t, t < i → ∀ j, j < n + 1 → -1000 ≤ mE l t j ∧ mE l t j ≤ 1000) ∧ ∀ u, u < j + 1 → -1000 ≤ mE l i u ∧ mE l i u ≤ 1000) → Ev (fun k => demoticlaw19_AffineInverts.l1 k e b' (i : Int) ((j + 1 : Nat) : Int) (n : Int) l d' C) true := fun b' hb' => inverts_l1 d' C e i hi H q (j + 1) b' (by omega) hb'
  cases b with
  | false =>
   refine Ev.step (f := fun k => demoticlaw19_AffineInverts.l1 k e false (i : Int) ((j + 1 : Nat) : Int) (n : Int) l d' C) (fun k => ?_) (go false (fun h => by cases h))
   simp only [demoticlaw19_AffineInverts.l1]
   rw [if_pos (by omega), if_pos (by omega), if_pos (by omega), if_neg (by simp), wrap_id (by omega) (by omega)]
   rfl
  | true =>
   obtain ⟨h1, h2, h3⟩ := hb rfl
   by_cases c : -1000 ≤ mE l i j
   ·refine Ev.step (f := fun k => demoticlaw19_AffineInverts.l1 k e (decide (mE l i j ≤ 1000)) (i : Int) ((j + 1 : Nat) : Int) (n : Int) l d' C) (fun k => ?_) (go _ (fun h => ⟨h1, h2, fun u hu => by
     by_cases cu : u = j
     ·subst cu; exact ⟨c, of_decide_eq_true h⟩
     ·exact h3 u (by omega)⟩))
    simp only [demoticlaw19_AffineInverts.l1]
    rw [if_pos (by omega), if_pos (by omega), if_pos (by omega), if_pos trivial, if_pos (by omega), hent, if_pos c, wrap_id (by omega) (by omega)]
    rfl
   ·refine Ev.step (f := fun k => demoticlaw19_AffineInverts.l1 k e false (i : Int) ((j + 1 : Nat) : Int) (n : Int) l d' C) (fun k => ?_) (go false (fun h => by cases h))
    simp only [demoticlaw19_AffineInverts.l1]
    rw [if_pos (by omega), if_pos (by omega), if_pos (by omega), if_pos trivial, if_pos (by omega), hent, if_neg c, wrap_id (by omega) (by omega)]
    rfl
theorem inverts_l0 (d' : Int) (C : List (List Int)) (e : Int) (hiv : invertS (n : Int) l = (d', C, e)) : ∀ (q i : Nat) (b : Bool), i + q = n → (b = true → n ≤ 3 ∧ ∀ t, t < i → ∀ j, j < n + 1 → -1000 ≤ mE l t j ∧ mE l t j ≤ 1000) →
  Ev (fun k => demoticlaw19_AffineInverts.l0 k e b (i : Int) (n : Int) l d' C) true
 | 0, i, b, hi, hb => by
  obtain rfl : i = n := by omega
  exact inverts_tail hl hr d' C e hiv b (fun h => hb h)
 | q + 1, i, b, hi, hb => by
  refine Ev.step (f := fun k => demoticlaw19_AffineInverts.l1 k e b (i : Int) 0 (n : Int) l d' C) (fun k => ?_) (inverts_l1 hl hr d' C e i (by omega) (fun b' hb' => inverts_l0 d' C e hiv q (i + 1) b' (by omega) hb') (n + 1) 0 b (by omega) (fun h => ⟨(hb h).1, (hb h).2, fun u hu => by omega⟩))
  simp only [demoticlaw19_AffineInverts.l0]
  rw [if_pos (by omega)]
end
theorem inverts_ev (d : Int) (l : List (List Int)) : Ev (fun k => demoticlaw19_AffineInverts.f k d l) true := by
 obtain ⟨k0, b, h0⟩ := short_eval d l
 obtain ⟨K0, E0⟩ := Ev.of (fun k => demoticlaw19_short.mono _ _ k) h0
 cases b with
 | false =>
  refine ⟨K0, fun k hk => ?_⟩
  have e0 := E0 k hk
  simp only at e0
  simp only [demoticlaw19_AffineInverts.f, e0, Option.bind_some]
  rfl
 | true =>
  obtain ⟨k1, h1⟩ := right_eval d l
  obtain ⟨K1, E1⟩ := Ev.of (fun k => demoticref19_Right.mono _ _ k) h1
  cases hR : rightB d l with
  | false =>
   have hS : invertS d l = (0, [], 190) := by unfold invertS; rw [if_neg (by rw [hR]; simp)]
   obtain ⟨K2, E2⟩ := is_bad_ev 0 [] 190 (by decide)
   refine ⟨K0 + K1 + K2, fun k hk => ?_⟩
   have e0 := E0 k (by omega)
   have e1 := E1 k (by omega)
   have e2 := E2 k (by omega)
   simp only at e0 e1 e2
   rw [hR] at e1
   simp only [demoticlaw19_AffineInverts.f, e0, Option.bind_some, affine_Invert.f, hS, demoticlaw19_their.f, e1]
   rw [if_pos trivial, if_neg (by simp), e2]
   rfl
  | true =>
   by_cases hd : (l.length : Int) = d
   ·subst hd
    obtain ⟨K2, E2⟩ := inverts_l0 (n := l.length) rfl hR (invertS (l.length : Int) l).1 (invertS (l.length : Int) l).2.1 (invertS (l.length : Int) l).2.2 rfl l.length 0 (decide ((l.length : Int) ≤ 3)) (by omega) (fun h => ⟨by have := of_decide_eq_true h; omega, fun t ht => by omega⟩)
    refine ⟨K0 + K1 + K2, fun k hk => ?_⟩
    have e0 := E0 k (by omega)
    have e1 := E1 k (by omega)
    have e2 := E2 k (by omega)
    simp only at e0 e1 e2
    rw [hR] at e1
    simp only [demoticlaw19_AffineInverts.f, e0, Option.bind_some, affine_Invert.f, demoticlaw19_their.f, e1]
    rw [if_pos trivial, if_pos trivial, if_pos trivial]
    exact e2
   ·have hS : invertS d l = (0, [], 1) := by unfold invertS; rw [if_pos hR, if_neg hd]
    obtain ⟨K2, E2⟩ := is_bad_ev 0 [] 1 (by decide)
    refine ⟨K0 + K1 + K2, fun k hk => ?_⟩
    have e0 := E0 k (by omega)
    have e1 := E1 k (by omega)
    have e2 := E2 k (by omega)
    simp only at e0 e1 e2
    rw [hR] at e1
    simp only [demoticlaw19_AffineInverts.f, e0, Option.bind_some, affine_Invert.f, hS, demoticlaw19_their.f, e1]
    rw [if_pos trivial, if_pos trivial, if_neg hd, e2]
    rfl
end Go.Proofs.YtcefaofknaeaeaaGreatDoor.X
