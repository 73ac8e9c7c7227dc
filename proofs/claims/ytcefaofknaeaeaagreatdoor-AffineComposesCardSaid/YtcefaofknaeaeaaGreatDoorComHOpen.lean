/- A map as an argument: what the row's reading of it gives the walk. -/
import Derived.Test.YtcefaofknaeaeaaGreatDoorComX0
import Derived.Deep.Matrix
import Derived.Lib.SmallJoins
set_option linter.unusedVariables false
set_option linter.unusedSimpArgs false
namespace Go.Proofs.YtcefaofknaeaeaaGreatDoor.X
open Go.RowKit Go.Proofs.YtcefaofknaeaeaaGreatDoorW.PrintWords Go.Proofs.YtcefaofknaeaeaaGreatDoorW.PrintLast Go.Proofs.YtcefaofknaeaeaaGreatDoorW.PrintMore
open Go.ChangeShapes Go.WideShapes Go.ChangeAt Go.Deep
theorem C_of_rows {H : Type} {enc : TypeId × Value → H} {w : World} {base : Nat} {held : Bool} {fuel : Nat} {v : Value} {x : DataW H × List MemPlace} (ce : Tryz.prog.cellsOf 38 = 1) (cq : Tryz.prog.cellsOf 2 = 1)
  (h : DataW.trod enc Tryz.prog w base (fun _ => true) held fuel 22 [v] = some x) :
  ∃ A c l, v = .slice A l.length c ∧ l.length ≤ c ∧ Kd.C (Kd.slice 2 (Kd.int .i64)) w A l.length l := by
 rcases open_int_rows Tryz.underlying22 Tryz.underlying38 Tryz.underlying2 ce cq h with ⟨h1, _⟩ | ⟨a, len, cap, A, L, C, Z, h1, _, hl, hm, _, hr⟩
 ·simp only [List.cons.injEq, and_true] at h1
  subst h1
  exact ⟨none, 0, [], rfl, Nat.le_refl _, Kd.C_nil _ _⟩
 ·simp only [List.cons.injEq, and_true] at h1
  subst h1
  have hlen : ((List.range len).map fun r => (Z r).take (L r)).length = len := by simp
  refine ⟨some a, cap, (List.range len).map fun r => (Z r).take (L r), by rw [hlen], by rw [hlen]; exact hl, ?_⟩
  refine ⟨rfl, by rw [hlen]; unfold maxLen at hm; omega, fun _ => ⟨a, rfl, fun j p hj => ?_⟩⟩
  have hjl : j < len := by
   rcases Nat.lt_or_ge j len with h' | h'
   ·exact h'
   ·rw [List.getElem?_eq_none (by rw [hlen]; exact h')] at hj; exact absurd hj (by simp)
  rw [List.getElem?_map, List.getElem?_range hjl] at hj
  have hp : (Z j).take (L j) = p := by simpa using hj
  obtain ⟨h2, h3, h4, h5, _, h6, h7⟩ := hr j (by omega)
  have hpl : p.length = L j := by rw [← hp, List.length_take]; omega
  refine ⟨[.slice (A j) (L j) (C j)], rfl, ⟨A j, C j, by rw [hpl], by rw [hpl]; exact h3, rfl, by rw [hpl]; unfold maxLen at h4; omega, fun h0 => ?_⟩, fun i u hu => ?_⟩
  ·cases hA : A j with
   | none => have := h6 hA; omega
   | some a' =>
    refine ⟨a', rfl, fun c y hy => ⟨[.int .i64 y], rfl, rfl, fun i u hu => ?_⟩⟩
    have hi : i = 0 := by
     rcases i with _ | i
     ·rfl
     ·simp at hu
    subst hi
    have e : u = .int .i64 y := by simpa using hu.symm
    subst e
    have hcl : c < L j := by
     rcases Nat.lt_or_ge c p.length with h' | h'
     ·omega
     ·rw [List.getElem?_eq_none h'] at hy; exact absurd hy (by simp)
    have := (h7 a' hA).2 c (by omega)
    have hs : c * (Kd.int IntKind.i64).sz + 0 = c := by rw [Nat.add_zero]; exact Nat.mul_one c
    rw [hs, this]
    rw [← hp, List.getElem?_take, if_pos hcl] at hy
    rw [List.getD_eq_getElem?_getD, hy]; rfl
  ·have hi : i = 0 := by
    rcases i with _ | i
    ·rfl
    ·simp at hu
   subst hi
   have e : u = .slice (A j) (L j) (C j) := by simpa using hu.symm
   subst e
   have hs : j * (Kd.slice 2 (Kd.int IntKind.i64)).sz + 0 = j := by rw [Nat.add_zero]; exact Nat.mul_one j
   rw [hs]
   exact h2
end Go.Proofs.YtcefaofknaeaeaaGreatDoor.X
