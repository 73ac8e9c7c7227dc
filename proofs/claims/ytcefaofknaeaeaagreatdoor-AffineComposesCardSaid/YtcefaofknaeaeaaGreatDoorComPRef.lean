/- What the reference's and the law's small functions compute, as told by the print: plain Lean. -/
import Derived.Test.YtcefaofknaeaeaaGreatDoorComPInvert
import Derived.Test.YtcefaofknaeaeaaGreatDoorComXa
import Derived.Test.YtcefaofknaeaeaaGreatDoorComXb
import Derived.Test.YtcefaofknaeaeaaGreatDoorComXc
set_option linter.unusedVariables false
set_option linter.unusedSimpArgs false
namespace Go.Proofs.YtcefaofknaeaeaaGreatDoor.X
open Go.RowKit Go.Proofs.YtcefaofknaeaeaaGreatDoorW.PrintWords Go.Proofs.YtcefaofknaeaeaaGreatDoorW.PrintLast Go.Proofs.YtcefaofknaeaeaaGreatDoorW.PrintMore AffMath
theorem short_eval (d : Int) (l : List (List Int)) : ∃ k b, demoticlaw19_short.f k d l = some b := by
 have H : ∀ e i : Nat, i + e = 20 → ∃ k b, demoticlaw19_short.l0 k (i : Int) d l = some b := by
  intro e
  induction e with
  | zero =>
   intro i hi
   obtain rfl : i = 20 := by omega
   refine ⟨2, decide ((l.length : Int) ≤ 20), ?_⟩
   simp only [demoticlaw19_short.l0, demoticlaw19_short.j1]
   simp
  | succ e ih =>
   intro i hi
   by_cases h : i < l.length
   ·by_cases h2 : ((rd_L1 l (i : Int)).length : Int) > 20
    ·refine ⟨2, false, ?_⟩
     simp only [demoticlaw19_short.l0, demoticlaw19_short.j1]
     rw [if_pos (by omega), decide_eq_true (by omega), if_pos rfl, if_pos (by omega), if_pos (by omega), if_pos h2]
    ·obtain ⟨k, b, hk⟩ := ih (i + 1) (by omega)
     refine ⟨k + 2, b, ?_⟩
     simp only [demoticlaw19_short.l0, demoticlaw19_short.j1]
     rw [if_pos (by omega), decide_eq_true (by omega), if_pos rfl, if_pos (by omega), if_pos (by omega), if_neg h2, wrap_id (by omega) (by omega)]
     exact hk
   ·refine ⟨2, decide ((l.length : Int) ≤ 20), ?_⟩
    simp only [demoticlaw19_short.l0, demoticlaw19_short.j1]
    rw [if_neg (by omega)]
    simp
 exact H 20 0 rfl
theorem in_eval (x : Int) : demoticref19_in.f x = some (smallB x) := by
 unfold demoticref19_in.f smallB
 by_cases h : x ≥ -1000000
 ·rw [if_pos h, decide_eq_true (show -1000000 ≤ x from h)]; rfl
 ·rw [if_neg h, decide_eq_false (show ¬ -1000000 ≤ x from h)]; rfl
theorem drop_cons {α : Type} {l : List α} {i : Nat} (h : i < l.length) : l.drop i = l[i] :: l.drop (i + 1) := List.drop_eq_getElem_cons h
theorem right_l1 (d : Int) (l : List (List Int)) (hl : l.length ≤ 6) (i : Nat) (hi : i < l.length) (hr : (rd_L1 l (i : Int)).length ≤ 7) (R : Bool) (H : ∃ k, demoticref19_Right.l0 k ((i : Int) + 1) d l = some R) :
  ∀ e j : Nat, j + e = (rd_L1 l (i : Int)).length → ∃ k, demoticref19_Right.l1 k (i : Int) (j : Int) d l = some (((rd_L1 l (i : Int)).drop j).all smallB && R) := by
 intro e
 induction e with
 | zero =>
  intro j hj
  obtain ⟨k, hk⟩ := H
  refine ⟨k + 1, ?_⟩
  simp only [demoticref19_Right.l1]
  rw [if_pos (by omega), if_pos (by omega), if_neg (by omega), wrap_id (by omega) (by omega), List.drop_eq_nil_of_le (by omega)]
  simpa using hk
 | succ e ih =>
  intro j hj
  have hjl : j < (rd_L1 l (i : Int)).length := by omega
  obtain ⟨k, hk⟩ := ih (j + 1) (by omega)
  refine ⟨k + 1, ?_⟩
  simp only [demoticref19_Right.l1]
  rw [if_pos (by omega), if_pos (by omega), if_pos (by omega), if_pos (by omega), in_eval, rd_nat, getD_lt hjl, drop_cons hjl, List.all_cons]
  simp only [Option.bind_some]
  cases h : smallB (rd_L1 l (i : Int))[j] with
  | false => simp
  | true =>
   rw [if_pos rfl, wrap_id (by omega) (by omega)]
   simpa using hk
theorem right_l0 (d : Int) (l : List (List Int)) (hd : 0 ≤ d ∧ d ≤ 6) (hl : l.length ≤ 6) : ∀ e i : Nat, i + e = l.length → ∃ k, demoticref19_Right.l0 k (i : Int) d l = some ((l.drop i).all (rowB d)) := by
 intro e
 induction e with
 | zero =>
  intro i hi
  refine ⟨1, ?_⟩
  simp only [demoticref19_Right.l0]
  rw [if_neg (by omega), List.drop_eq_nil_of_le (by omega)]; rfl
 | succ e ih =>
  intro i hi
  have hil : i < l.length := by omega
  have hrow : rd_L1 l (i : Int) = l[i] := rd_L1_at hil
  rw [drop_cons hil, List.all_cons, ← hrow]
  by_cases h : ((rd_L1 l (i : Int)).length : Int) = d + 1
  ·obtain ⟨k, hk⟩ := right_l1 d l hl i hil (by omega) _ (ih (i + 1) (by omega)) (rd_L1 l (i : Int)).length 0 (by omega)
   refine ⟨k + 1, ?_⟩
   simp only [demoticref19_Right.l0]
   rw [if_pos (by omega), if_pos (by omega), wrap_id (by omega) (by omega), if_pos h]
   rw [show rowB d (rd_L1 l (i : Int)) = (rd_L1 l (i : Int)).all smallB by unfold rowB; rw [decide_eq_true h]; rfl]
   exact hk
  ·refine ⟨1, ?_⟩
   simp only [demoticref19_Right.l0]
   rw [if_pos (by omega), if_pos (by omega), wrap_id (by omega) (by omega), if_neg h]
   rw [show rowB d (rd_L1 l (i : Int)) = false by unfold rowB; rw [decide_eq_false h]; rfl]
   rfl
theorem right_eval (d : Int) (l : List (List Int)) : ∃ k, demoticref19_Right.f k d l = some (rightB d l) := by
 unfold demoticref19_Right.f
 by_cases h1 : d < 0
 ·exact ⟨1, by rw [if_pos h1]; simp only [demoticref19_Right.j0]; rw [if_pos trivial]; unfold rightB; rw [decide_eq_false (by omega)]; simp⟩
 ·by_cases h2 : d > 6
  ·exact ⟨1, by rw [if_neg h1, if_pos h2]; simp only [demoticref19_Right.j0]; rw [if_pos trivial]; unfold rightB; rw [decide_eq_false (p := d ≤ 6) (by omega)]; simp⟩
  ·by_cases h3 : (l.length : Int) > 6
   ·exact ⟨1, by rw [if_neg h1, if_neg h2, decide_eq_true h3]; simp only [demoticref19_Right.j0]; rw [if_pos trivial]; unfold rightB; rw [decide_eq_false (p := l.length ≤ 6) (by omega)]; simp⟩
   ·obtain ⟨k, hk⟩ := right_l0 d l (by omega) (by omega) l.length 0 (by omega)
    refine ⟨k + 1, ?_⟩
    rw [if_neg h1, if_neg h2, decide_eq_false h3]
    simp only [demoticref19_Right.j0]
    rw [if_neg (by simp), rightB_rows (by omega) (by omega) (by omega)]
    simpa using hk
theorem same_l1 (d d' : Int) (l : List (List Int)) (hl : l.length < 9223372036854775807) (i : Nat) (hi : i < l.length) (hr : (rd_L1 l (i : Int)).length < 9223372036854775807) (H : ∃ k, demoticref19_Same.l0 k ((i : Int) + 1) d l d' l = some true) :
  ∀ e j : Nat, j + e = (rd_L1 l (i : Int)).length → ∃ k, demoticref19_Same.l1 k (i : Int) (j : Int) d l d' l = some true := by
 intro e
 induction e with
 | zero =>
  intro j hj
  obtain ⟨k, hk⟩ := H
  refine ⟨k + 1, ?_⟩
  simp only [demoticref19_Same.l1]
  rw [if_pos (by omega), if_pos (by omega), if_neg (by omega), wrap_id (by omega) (by omega)]
  exact hk
 | succ e ih =>
  intro j hj
  obtain ⟨k, hk⟩ := ih (j + 1) (by omega)
  refine ⟨k + 1, ?_⟩
  simp only [demoticref19_Same.l1]
  rw [if_pos (by omega), if_pos (by omega), if_pos (by omega), if_pos (by omega), if_pos (by omega), if_pos (by omega), if_pos trivial, wrap_id (by omega) (by omega)]
  exact hk
theorem same_l0 (d d' : Int) (l : List (List Int)) (hl : l.length < 9223372036854775807) (hr : ∀ i : Nat, i < l.length → (rd_L1 l (i : Int)).length < 9223372036854775807) : ∀ e i : Nat, i + e = l.length → ∃ k, demoticref19_Same.l0 k (i : Int) d l d' l = some true := by
 intro e
 induction e with
 | zero =>
  intro i hi
  refine ⟨1, ?_⟩
  simp only [demoticref19_Same.l0]
  rw [if_neg (by omega)]
 | succ e ih =>
  intro i hi
  obtain ⟨k, hk⟩ := same_l1 d d' l hl i (by omega) (hr i (by omega)) (ih (i + 1) (by omega)) (rd_L1 l (i : Int)).length 0 (by omega)
  refine ⟨k + 1, ?_⟩
  simp only [demoticref19_Same.l0]
  rw [if_pos (by omega), if_pos (by omega), if_pos (by omega), if_pos trivial]
  exact hk
theorem same_eval (d : Int) (l : List (List Int)) (hl : l.length < 9223372036854775807) (hr : ∀ i : Nat, i < l.length → (rd_L1 l (i : Int)).length < 9223372036854775807) : ∃ k, demoticref19_Same.f k d l d l = some true := by
 obtain ⟨k, hk⟩ := same_l0 d d l hl hr l.length 0 (by omega)
 refine ⟨k + 1, ?_⟩
 unfold demoticref19_Same.f
 rw [if_pos rfl]
 simp only [demoticref19_Same.j0]
 rw [if_neg (by simp)]
 exact hk
theorem is_ok (d : Int) (l : List (List Int)) (hl : l.length < 9223372036854775807) (hr : ∀ i : Nat, i < l.length → (rd_L1 l (i : Int)).length < 9223372036854775807) : ∃ k, demoticlaw19_is.f k d l 0 d l 0 = some true := by
 obtain ⟨k, hk⟩ := same_eval d l hl hr
 refine ⟨k, ?_⟩
 unfold demoticlaw19_is.f demoticlaw19_their.f
 rw [if_pos rfl, if_pos rfl]
 simp only [Option.bind_some, hk]
theorem is_bad (d : Int) (l : List (List Int)) (e : Int) (he : e ≠ 0) : demoticlaw19_is.f 0 0 [] e d l e = some true := by
 unfold demoticlaw19_is.f
 rw [if_neg he, if_pos rfl, if_pos rfl]; rfl
end Go.Proofs.YtcefaofknaeaeaaGreatDoor.X
