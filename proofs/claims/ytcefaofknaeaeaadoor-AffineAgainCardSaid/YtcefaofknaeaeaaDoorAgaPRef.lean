/- What the reference's and the law's small functions compute, as told by the print: plain Lean. -/
import Derived.Test.YtcefaofknaeaeaaDoorAgaPInvert
import Derived.Test.YtcefaofknaeaeaaDoorAgaXa
import Derived.Test.YtcefaofknaeaeaaDoorAgaXb
import Derived.Test.YtcefaofknaeaeaaDoorAgaXc
set_option linter.unusedVariables false
set_option linter.unusedSimpArgs false
namespace Go.Proofs.YtcefaofknaeaeaaDoor.X
open Go.RowKit Go.Proofs.YtcefaofknaeaeaaDoorW.PrintWords Go.Proofs.YtcefaofknaeaeaaDoorW.PrintLast Go.Proofs.YtcefaofknaeaeaaDoorW.PrintMore AffMath
theorem short_eval (d : Int) (l : List (List Int)) : ∃ k b, demoticlaw19_short.f k d l = some b := by
 have H : ∀ e i : Nat, i + e = 20 → ∃ k b, demoticlaw19_short.l0 k (i : Int) d l = some b := by
  intro e
  induction e with
  | zero =>
   intro i hi
   obtain rfl : i = 20 := by omega
   refine ⟨2, decide ((l.length : Int) ≤ 20), ?_⟩
   simp only [demoticlaw19_short.l0, demoticlaw19_short.j1]
   simp
  | succ e ih =>
   intro i hi
   by_cases h : i < l.length
   ·by_cases h2 : ((rd_L1 l (i : Int)).length : Int) > 20
    ·refine ⟨2, false, ?_⟩
     simp only [demoticlaw19_short.l0, demoticlaw19_short.j1]
     rw [if_pos (by omega), decide_eq_true (by omega), if_pos rfl, if_pos (by omega), if_pos (by omega), if_pos h2]
    ·obtain ⟨k, b, hk⟩ := ih (i + 1) (by omega)
     refine ⟨k + 2, b, ?_⟩
     simp only [demoticlaw19_short.l0, demoticlaw19_short.j1]
     rw [if_pos (by omega), decide_eq_true (by omega), if_pos rfl, if_pos (by omega), if_pos (by omega), if_neg h2, wrap_id (by omega) (by omega)]
     exact hk
   ·refine ⟨2, decide ((l.length : Int) ≤ 20), ?_⟩
    simp only [demoticlaw19_short.l0, demoticlaw19_short.j1]
    rw [if_neg (by omega)]
    simp
 exact H 20 0 rfl
theorem same_l1 (d d' : Int) (l : List (List Int)) (hl : l.length < 9223372036854775807) (i : Nat) (hi : i < l.length) (hr : (rd_L1 l (i : Int)).length < 9223372036854775807) (H : ∃ k, demoticref19_Same.l0 k ((i : Int) + 1) d l d' l = some true) :
  ∀ e j : Nat, j + e = (rd_L1 l (i : Int)).length → ∃ k, demoticref19_Same.l1 k (i : Int) (j : Int) d l d' l = some true := by
 intro e
 induction e with
 | zero =>
  intro j hj
  obtain ⟨k, hk⟩ := H
  refine ⟨k + 1, ?_⟩
  simp only [demoticref19_Same.l1]
  rw [if_pos (by omega), if_pos (by omega), if_neg (by omega), wrap_id (by omega) (by omega)]
  exact hk
 | succ e ih =>
  intro j hj
  obtain ⟨k, hk⟩ := ih (j + 1) (by omega)
  refine ⟨k + 1, ?_⟩
  simp only [demoticref19_Same.l1]
  rw [if_pos (by omega), if_pos (by omega), if_pos (by omega), if_pos (by omega), if_pos (by omega), if_pos (by omega), if_pos trivial, wrap_id (by omega) (by omega)]
  exact hk
theorem same_l0 (d d' : Int) (l : List (List Int)) (hl : l.length < 9223372036854775807) (hr : ∀ i : Nat, i < l.length → (rd_L1 l (i : Int)).length < 9223372036854775807) : ∀ e i : Nat, i + e = l.length → ∃ k, demoticref19_Same.l0 k (i : Int) d l d' l = some true := by
 intro e
 induction e with
 | zero =>
  intro i hi
  refine ⟨1, ?_⟩
  simp only [demoticref19_Same.l0]
  rw [if_neg (by omega)]
 | succ e ih =>
  intro i hi
  obtain ⟨k, hk⟩ := same_l1 d d' l hl i (by omega) (hr i (by omega)) (ih (i + 1) (by omega)) (rd_L1 l (i : Int)).length 0 (by omega)
  refine ⟨k + 1, ?_⟩
  simp only [demoticref19_Same.l0]
  rw [if_pos (by omega), if_pos (by omega), if_pos (by omega), if_pos trivial]
  exact hk
theorem same_eval (d : Int) (l : List (List Int)) (hl : l.length < 9223372036854775807) (hr : ∀ i : Nat, i < l.length → (rd_L1 l (i : Int)).length < 9223372036854775807) : ∃ k, demoticref19_Same.f k d l d l = some true := by
 obtain ⟨k, hk⟩ := same_l0 d d l hl hr l.length 0 (by omega)
 refine ⟨k + 1, ?_⟩
 unfold demoticref19_Same.f
 rw [if_pos rfl]
 simp only [demoticref19_Same.j0]
 rw [if_neg (by simp)]
 exact hk
theorem is_ok (d : Int) (l : List (List Int)) (hl : l.length < 9223372036854775807) (hr : ∀ i : Nat, i < l.length → (rd_L1 l (i : Int)).length < 9223372036854775807) : ∃ k, demoticlaw19_is.f k d l 0 d l 0 = some true := by
 obtain ⟨k, hk⟩ := same_eval d l hl hr
 refine ⟨k, ?_⟩
 unfold demoticlaw19_is.f demoticlaw19_their.f
 rw [if_pos rfl, if_pos rfl]
 simp only [Option.bind_some, hk]
end Go.Proofs.YtcefaofknaeaeaaDoor.X
