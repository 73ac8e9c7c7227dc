/- What a row's list of laid variables and the world's shape give the walks. -/
import Derived.Test.YtcefaofknaeaeaaGreatDoorComHAwake
import Derived.Test.YtcefaofknaeaeaaGreatDoorRows
import Derived.Stop.LaidErr
import Derived.Lib.LaidTab
set_option linter.unusedVariables false
set_option linter.unusedSimpArgs false
namespace Go.Proofs.YtcefaofknaeaeaaGreatDoor.X
open Go.RowKit
theorem gPow : Tryz.prog.globalNamed "internal/strconv.uint64pow10" = some 3 := by kernel_rfl
theorem tPow : (Tryz.prog.globals[3]?).map (·.type) = some 135 := by kernel_rfl
theorem cPow : Tryz.prog.cellsOf 135 = 20 := by kernel_rfl
theorem cU64 : Tryz.prog.cellsOf 94 = 1 := by kernel_rfl
abbrev laidRow : OpenClaim := Rows.affineComposesRow
theorem tab_of {W : World} (h : laidMetH Tryz.prog laidRow.laid W) : Tab W := by
 have h1 : laidMet Tryz.prog laidRow.laid W := h
 have h3 := (h1.tail).tail
 exact Lib.tabIs_of_head (zs := Lib.pow10Tab) gPow tPow Tryz.underlying135 Tryz.underlying94 cU64 cPow h3
theorem gSyn : Tryz.prog.globalNamed "strconv.ErrSyntax" = some 1 := by kernel_rfl
theorem gRan : Tryz.prog.globalNamed "strconv.ErrRange" = some 2 := by kernel_rfl
theorem tSyn : (Tryz.prog.globals[1]?).map (·.type) = some 79 := by kernel_rfl
theorem tRan : (Tryz.prog.globals[2]?).map (·.type) = some 79 := by kernel_rfl
theorem cEs : Tryz.prog.cellsOf 145 = 1 := by kernel_rfl
theorem cStr : Tryz.prog.cellsOf 9 = 1 := by kernel_rfl
theorem starEs : "*" ++ "errors.errorString" = "*errors.errorString" := by decide
theorem rowEs (u : TypeId) (h : Tryz.prog.typeName? 3 u = some "*errors.errorString") : u = 143 :=
 typeName_ptr_named (nm := "errors.errorString") (by rw [starEs]; kernel_rfl) (by kernel_rfl) (by decide) u (by rw [starEs]; exact h)
theorem errs_of {W : World} (h : laidMetH Tryz.prog laidRow.laid W) : ErrVars W := by
 have h1 : laidMet Tryz.prog laidRow.laid W := h
 have h3 := (((h1.tail).tail).tail).tail
 obtain ⟨a1, s1, hv1, _⟩ := laid_sentinel h3 gRan tRan Tryz.underlying79 rowEs Tryz.underlying143 Tryz.underlying145 rfl rfl Tryz.underlying9 cEs cStr
 obtain ⟨a2, s2, hv2, _⟩ := laid_sentinel h3.tail gSyn tSyn Tryz.underlying79 rowEs Tryz.underlying143 Tryz.underlying145 rfl rfl Tryz.underlying9 cEs cStr
 exact ⟨⟨_, _, hv2⟩, _, _, hv1⟩
theorem glob_of {W : World} (h : laidMetH Tryz.prog laidRow.laid W) (hs : W.ShapedOpen Tryz.prog) : Glob W := ⟨tab_of h, Tryz.laysM145.s1_3 W hs, errs_of h⟩
end Go.Proofs.YtcefaofknaeaeaaGreatDoor.X
