/- demotic/demoticlaw19.awake: its contract in the told texts' form. -/
import Derived.Test.YtcefaofknaeaeaaDoorAgaHAwake
set_option linter.unusedVariables false
set_option linter.unusedSimpArgs false
namespace Go.Proofs.YtcefaofknaeaeaaDoor.X
open Go.RowKit Go.Proofs.YtcefaofknaeaeaaDoorW.PrintWords Go.Proofs.YtcefaofknaeaeaaDoorW.PrintLast Go.Proofs.YtcefaofknaeaeaaDoorW.PrintMore
def demoticlaw19_awake.f : Option Bool := some true
theorem demoticlaw19_awake.calls (r : Bool) (w : World) (hgl : Glob w) (h : demoticlaw19_awake.f = some r) :
  Calls Tryd.prog 6 #[] w fun e w' => e = .returned (.bool r) ∧ Below w.heap.size w w' := by
 obtain rfl : true = r := Option.some.inj h
 exact awake_any w hgl
end Go.Proofs.YtcefaofknaeaeaaDoor.X
