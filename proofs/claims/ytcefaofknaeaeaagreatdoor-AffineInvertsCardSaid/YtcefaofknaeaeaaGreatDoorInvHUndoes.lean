/- demotic/demoticref19.Undoes: its contract for the answer true, in the told texts' form. -/
import Derived.Test.YtcefaofknaeaeaaGreatDoorInvXg
set_option linter.unusedVariables false
set_option linter.unusedSimpArgs false
namespace Go.Proofs.YtcefaofknaeaeaaGreatDoor.X
open Go.RowKit Go.Proofs.YtcefaofknaeaeaaGreatDoorW.PrintWords Go.Proofs.YtcefaofknaeaeaaGreatDoorW.PrintLast Go.Proofs.YtcefaofknaeaeaaGreatDoorW.PrintMore
def demoticref19_Undoes.f (k : Nat) (a0_0 : Int) (l0_1 : List (List Int)) (a1_0 : Int) (l1_1 : List (List Int)) : Option Bool := if undoesT.f k a0_0 l0_1 a1_0 l1_1 = some true then some true else none
theorem undoes_f {k : Nat} {a0_0 : Int} {l0_1 : List (List Int)} {a1_0 : Int} {l1_1 : List (List Int)} {r : Bool} (h : demoticref19_Undoes.f k a0_0 l0_1 a1_0 l1_1 = some r) : r = true ∧ undoesT.f k a0_0 l0_1 a1_0 l1_1 = some true := by
 unfold demoticref19_Undoes.f at h
 by_cases c : undoesT.f k a0_0 l0_1 a1_0 l1_1 = some true
 ·rw [if_pos c] at h
  exact ⟨(Option.some.inj h).symm, c⟩
 ·rw [if_neg c] at h
  exact absurd h (by simp)
theorem demoticref19_Undoes.mono : ∀ a0 a1 a2 a3 k, LeO (demoticref19_Undoes.f k a0 a1 a2 a3) (demoticref19_Undoes.f (k + 1) a0 a1 a2 a3) := by
 intro a0 a1 a2 a3 k r h
 obtain ⟨rfl, h2⟩ := undoes_f h
 unfold demoticref19_Undoes.f
 rw [if_pos (undoesT.mono _ _ _ _ k _ h2)]
theorem demoticref19_Undoes.calls (k : Nat) (a0_0 : Int) (A0_1 : Option Addr) (c0_1 : Nat) (l0_1 : List (List Int)) (a1_0 : Int) (A1_1 : Option Addr) (c1_1 : Nat) (l1_1 : List (List Int)) (r : Bool) (w : World) (hr0_1 : Kd.C (Kd.slice 2 (Kd.int .i64)) w A0_1 l0_1.length l0_1) (hc0_1 : l0_1.length ≤ c0_1) (hr1_1 : Kd.C (Kd.slice 2 (Kd.int .i64)) w A1_1 l1_1.length l1_1) (hc1_1 : l1_1.length ≤ c1_1) (h : demoticref19_Undoes.f k a0_0 l0_1 a1_0 l1_1 = some r) :
  Calls Tryz.prog 15 #[.agg #[.int .i64 a0_0, .slice A0_1 l0_1.length c0_1], .agg #[.int .i64 a1_0, .slice A1_1 l1_1.length c1_1]] w fun e w' => e = .returned (.bool r) ∧ Below w.heap.size w w' := by
 obtain ⟨rfl, h2⟩ := undoes_f h
 exact undoesT.calls k a0_0 A0_1 c0_1 l0_1 a1_0 A1_1 c1_1 l1_1 true w hr0_1 hc0_1 hr1_1 hc1_1 rfl h2
end Go.Proofs.YtcefaofknaeaeaaGreatDoor.X
