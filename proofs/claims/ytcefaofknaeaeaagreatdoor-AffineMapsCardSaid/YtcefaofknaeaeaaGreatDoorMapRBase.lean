/- What the rows share: a map and a list of numbers as arguments. -/
import Derived.Test.YtcefaofknaeaeaaGreatDoorMapHOpen
import Derived.Test.YtcefaofknaeaeaaGreatDoorMapRGlob
import Derived.WalkKit
import Derived.ProofKit
import Derived.OpenShut
import Derived.Carry
import Derived.Deep.DeepHandedRow
import Derived.Lib.LaidTab
import Derived.Lay
import Derived.MakeChecks
import Derived.Deep.DeepWitnessRowRef
set_option linter.unusedVariables false
set_option linter.unusedSimpArgs false
namespace Go.Proofs.YtcefaofknaeaeaaGreatDoor.X
open Go.ChangeShapes Go.WideShapes Go.ChangeAt Go.RowKit Go.Deep Go.Joins Go.Proofs.YtcefaofknaeaeaaGreatDoorW.PrintWords Go.Proofs.YtcefaofknaeaeaaGreatDoorW.PrintLast Go.Proofs.YtcefaofknaeaeaaGreatDoorW.PrintMore
set_option maxRecDepth 100000
theorem own : ownKnob Tryz.prog.godebug = none := by kernel_rfl
theorem laidOut : laidOutB Tryz.prog = true := by kernel_rfl
theorem one24 : oneCellFields Tryz.prog #[⟨"Dims", 3, 0, false, "", "", 0⟩, ⟨"Rows", 22, 1, false, "", "", 8⟩] = true := by kernel_rfl
theorem cells24 : Tryz.prog.cellsOf 24 = 2 := by kernel_rfl
theorem open_map {H : Type} {enc : TypeId × Value → H} {W : World} {base b0 : Nat} {held : Bool} {v : Value} {d : DataW H} {p : List MemPlace} (hv : Value.okWide Tryz.prog W .any b0 24 v) (h : DataW.Trod enc Tryz.prog W base (fun _ => true) held 24 v d p) :
  ∃ n A c l, v = .agg #[.int .i64 n, .slice A (List.length (α := List Int) l) c] ∧ l.length ≤ c ∧ Kd.C (Kd.slice 2 (Kd.int .i64)) W A l.length l := by
 obtain ⟨v0, v1, y0, y1, fuel, rfl, _, _, h0, h1⟩ := open_agg2 Tryz.underlying24 one24 cells24 hv h
 obtain ⟨n, e, _, _⟩ := DataW.trod_int Tryz.underlying3 h0
 simp only [List.cons.injEq, and_true] at e
 subst e
 obtain ⟨A, c, l, rfl, hl, hC⟩ := C_of_rows (by kernel_rfl) (by kernel_rfl) h1
 exact ⟨n, A, c, l, rfl, hl, hC⟩
end Go.Proofs.YtcefaofknaeaeaaGreatDoor.X
