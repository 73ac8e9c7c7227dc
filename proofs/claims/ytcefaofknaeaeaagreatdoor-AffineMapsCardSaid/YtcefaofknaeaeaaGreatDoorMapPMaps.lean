/- What the law AffineMaps computes, as told by the print: it returns true; plain Lean. -/
import Derived.Test.YtcefaofknaeaeaaGreatDoorMapPRPrint
import Derived.Test.YtcefaofknaeaeaaGreatDoorMapPRef
import Derived.Test.YtcefaofknaeaeaaGreatDoorMapXm
import Derived.Test.YtcefaofknaeaeaaGreatDoorMapXn
set_option linter.unusedVariables false
set_option linter.unusedSimpArgs false
namespace Go.Proofs.YtcefaofknaeaeaaGreatDoor.X
open Go.RowKit Go.Proofs.YtcefaofknaeaeaaGreatDoorW.PrintWords Go.Proofs.YtcefaofknaeaeaaGreatDoorW.PrintLast Go.Proofs.YtcefaofknaeaeaaGreatDoorW.PrintMore AffMath
theorem is_right_ev' {d : Int} {l : List (List Int)} (h : rightB d l = true) : Ev (fun k => demoticlaw19_is.f k d l 0 d l 0) true := by
 obtain ⟨d0, d6, l6⟩ := rightB_dims h
 obtain ⟨k, h⟩ := is_ok d l (by omega) (fun i hi => by have := (rightB_row h i hi).1; omega)
 exact Ev.of (fun k => demoticlaw19_is.mono _ _ _ _ _ _ k) h
theorem check_f (d : Int) (l : List (List Int)) : affine_Check.f d l = some (if rightB d l = true then 0 else 190) := by
 unfold affine_Check.f affine_Map_right.f
 simp only [Option.bind_some]
 split <;> rfl
theorem maps_ev (d : Int) (l : List (List Int)) : Ev (fun k => demoticlaw19_AffineMaps.f k d l) true := by
 obtain ⟨k0, b, h0⟩ := short_eval d l
 obtain ⟨K0, E0⟩ := Ev.of (fun k => demoticlaw19_short.mono _ _ k) h0
 cases b with
 | false =>
  refine ⟨K0, fun k hk => ?_⟩
  have e0 := E0 k hk
  simp only at e0
  simp only [demoticlaw19_AffineMaps.f, e0, Option.bind_some]
  rfl
 | true =>
  obtain ⟨k1, h1⟩ := right_eval d l
  obtain ⟨K1, E1⟩ := Ev.of (fun k => demoticref19_Right.mono _ _ k) h1
  cases hR : rightB d l with
  | false =>
   refine ⟨K0 + K1, fun k hk => ?_⟩
   have e0 := E0 k (by omega)
   have e1 := E1 k (by omega)
   simp only at e0 e1
   rw [hR] at e1
   have hp : affine_Print.f d l = some (bs [], 190) := by unfold affine_Print.f; rw [if_neg (by rw [hR]; simp)]
   simp only [demoticlaw19_AffineMaps.f, e0, Option.bind_some, check_f, hp, demoticlaw19_their.f, e1, hR]
   simp [bs_toList, demoticlaw19_awake.f]
  | true =>
   have hp : affine_Print.f d l = some (bs (printS d.toNat l), 0) := by unfold affine_Print.f; rw [if_pos hR]
   obtain ⟨K2, E2⟩ := parse_print hR
   obtain ⟨K3, E3⟩ := rprint_ev hR
   obtain ⟨K4, E4⟩ := is_right_ev' hR
   refine ⟨K0 + K1 + K2 + K3 + K4, fun k hk => ?_⟩
   have e0 := E0 k (by omega)
   have e1 := E1 k (by omega)
   have e2 := E2 k (by omega)
   have e3 := E3 k (by omega)
   have e4 := E4 k (by omega)
   simp only at e0 e1 e2 e3 e4
   rw [hR] at e1
   simp only [demoticlaw19_AffineMaps.f, e0, Option.bind_some, check_f, hp, demoticlaw19_their.f, e1, e2, e3, e4, hR]
   simp [bs_toList, demoticlaw19_awake.f]
end Go.Proofs.YtcefaofknaeaeaaGreatDoor.X
