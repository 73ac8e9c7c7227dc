/- What a row's list of laid variables and the world's shape give the walks. -/
import Derived.Test.YtcefaofknaeaeaaGreatDoorInvHAwake
import Derived.Test.YtcefaofknaeaeaaGreatDoorRows
import Derived.Stop.LaidErr
import Derived.Lib.LaidTab
set_option linter.unusedVariables false
set_option linter.unusedSimpArgs false
namespace Go.Proofs.YtcefaofknaeaeaaGreatDoor.X
open Go.RowKit
theorem gPow : Tryz.prog.globalNamed "internal/strconv.uint64pow10" = some 3 := by kernel_rfl
theorem tPow : (Tryz.prog.globals[3]?).map (·.type) = some 135 := by kernel_rfl
theorem cPow : Tryz.prog.cellsOf 135 = 20 := by kernel_rfl
theorem cU64 : Tryz.prog.cellsOf 94 = 1 := by kernel_rfl
abbrev laidRow : OpenClaim := Rows.affineComposesRow
theorem tab_of {W : World} (h : laidMetH Tryz.prog laidRow.laid W) : Tab W := by
 have h1 : laidMet Tryz.prog laidRow.laid W := h
 have h3 := (h1.tail).tail
 exact Lib.tabIs_of_head (zs := Lib.pow10Tab) gPow tPow Tryz.underlying135 Tryz.underlying94 cU64 cPow h3
theorem glob_of {W : World} (h : laidMetH Tryz.prog laidRow.laid W) (hs : W.ShapedOpen Tryz.prog) : Glob W := ⟨tab_of h, Tryz.laysM145.s1_3 W hs⟩
end Go.Proofs.YtcefaofknaeaeaaGreatDoor.X
