/- What a row's list of laid variables and the world's shape give the walks. -/
import Derived.Test.YtcefaofknaeaeaaDoorAppHAwake
import Derived.Test.YtcefaofknaeaeaaDoorRows
import Derived.Stop.LaidErr
import Derived.Lib.LaidTab
set_option linter.unusedVariables false
set_option linter.unusedSimpArgs false
namespace Go.Proofs.YtcefaofknaeaeaaDoor.X
open Go.RowKit
theorem gPow : Tryd.prog.globalNamed "internal/strconv.uint64pow10" = some 3 := by kernel_rfl
theorem tPow : (Tryd.prog.globals[3]?).map (·.type) = some 123 := by kernel_rfl
theorem cPow : Tryd.prog.cellsOf 123 = 20 := by kernel_rfl
theorem cU64 : Tryd.prog.cellsOf 101 = 1 := by kernel_rfl
abbrev laidRow : OpenClaim := Rows.affineAppliesRow
theorem tab_of {W : World} (h : laidMetH Tryd.prog laidRow.laid W) : Tab W := by
 have h1 : laidMet Tryd.prog laidRow.laid W := h
 have h3 := (h1.tail).tail
 exact Lib.tabIs_of_head (zs := Lib.pow10Tab) gPow tPow Tryd.underlying123 Tryd.underlying101 cU64 cPow h3
theorem glob_of {W : World} (h : laidMetH Tryd.prog laidRow.laid W) (hs : W.ShapedOpen Tryd.prog) : Glob W := ⟨tab_of h, Tryd.laysM145.s1_3 W hs⟩
end Go.Proofs.YtcefaofknaeaeaaDoor.X
