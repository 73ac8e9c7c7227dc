/- demotic/demoticlaw19.awake: its contract in the told texts' form. -/
import Derived.Test.YtcefaofknaeaeaaGreatDoorParHAwake
set_option linter.unusedVariables false
set_option linter.unusedSimpArgs false
namespace Go.Proofs.YtcefaofknaeaeaaGreatDoor.X
open Go.RowKit Go.Proofs.YtcefaofknaeaeaaGreatDoorW.PrintWords Go.Proofs.YtcefaofknaeaeaaGreatDoorW.PrintLast Go.Proofs.YtcefaofknaeaeaaGreatDoorW.PrintMore
def demoticlaw19_awake.f : Option Bool := some true
theorem demoticlaw19_awake.calls (r : Bool) (w : World) (hgl : Glob w) (h : demoticlaw19_awake.f = some r) :
  Calls Tryz.prog 8 #[] w fun e w' => e = .returned (.bool r) ∧ Below w.heap.size w w' := by
 obtain rfl : true = r := Option.some.inj h
 exact awake_any w hgl
end Go.Proofs.YtcefaofknaeaeaaGreatDoor.X
