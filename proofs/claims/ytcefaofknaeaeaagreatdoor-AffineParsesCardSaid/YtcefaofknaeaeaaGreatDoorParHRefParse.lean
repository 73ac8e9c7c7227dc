/- demotic/demoticref19.Parse: its contract for a short string, in the told texts' form. -/
import Derived.Test.YtcefaofknaeaeaaGreatDoorParXz
set_option linter.unusedVariables false
set_option linter.unusedSimpArgs false
namespace Go.Proofs.YtcefaofknaeaeaaGreatDoor.X
open Go.RowKit Go.Proofs.YtcefaofknaeaeaaGreatDoorW.PrintWords Go.Proofs.YtcefaofknaeaeaaGreatDoorW.PrintLast Go.Proofs.YtcefaofknaeaeaaGreatDoorW.PrintMore
def demoticref19_Parse.f (k : Nat) (a0 : ByteArray) : Option (Int × (List (List Int)) × Bool) := if a0.size ≤ 1000 then refParseT.f k a0 else none
theorem parse_f {k : Nat} {a0 : ByteArray} {r : Int × (List (List Int)) × Bool} (h : demoticref19_Parse.f k a0 = some r) : a0.size ≤ 1000 ∧ refParseT.f k a0 = some r := by
 unfold demoticref19_Parse.f at h
 by_cases c : a0.size ≤ 1000
 ·rw [if_pos c] at h
  exact ⟨c, h⟩
 ·rw [if_neg c] at h
  exact absurd h (by simp)
theorem demoticref19_Parse.mono : ∀ a0 k, LeO (demoticref19_Parse.f k a0) (demoticref19_Parse.f (k + 1) a0) := by
 intro a0 k r h
 obtain ⟨h1, h2⟩ := parse_f h
 unfold demoticref19_Parse.f
 rw [if_pos h1]
 exact refParseT.mono _ k _ h2
theorem demoticref19_Parse.calls (k : Nat) (a0 : ByteArray) (r1 : Int) (r2 : List (List Int)) (r3 : Bool) (w : World) (h : demoticref19_Parse.f k a0 = some (r1, r2, r3)) :
  Calls Tryz.prog 21 #[.string a0] w fun e w' => ∃ v1_ : Value, e = .returned (.tuple #[.agg #[.int .i64 r1, v1_], .bool r3]) ∧ Kd.S (Kd.slice 2 (Kd.int .i64)) 38 w' w.heap.size (fun _ => True) v1_ r2 ∧ Below w.heap.size w w' := by
 obtain ⟨h1, h2⟩ := parse_f h
 exact refParseT.calls k a0 r1 r2 r3 w h1 h2
end Go.Proofs.YtcefaofknaeaeaaGreatDoor.X
