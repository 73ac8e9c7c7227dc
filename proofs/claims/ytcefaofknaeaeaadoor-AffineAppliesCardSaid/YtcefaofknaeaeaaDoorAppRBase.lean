/- What the rows share: a map and a list of numbers as arguments. -/
import Derived.Test.YtcefaofknaeaeaaDoorAppHOpen
import Derived.Test.YtcefaofknaeaeaaDoorAppRGlob
import Derived.WalkKit
import Derived.ProofKit
import Derived.OpenShut
import Derived.Carry
import Derived.Deep.DeepHandedRow
import Derived.Lib.LaidTab
import Derived.Lay
import Derived.MakeChecks
import Derived.Deep.DeepWitnessRowRef
set_option linter.unusedVariables false
set_option linter.unusedSimpArgs false
namespace Go.Proofs.YtcefaofknaeaeaaDoor.X
open Go.ChangeShapes Go.WideShapes Go.ChangeAt Go.RowKit Go.Deep Go.Joins Go.Proofs.YtcefaofknaeaeaaDoorW.PrintWords Go.Proofs.YtcefaofknaeaeaaDoorW.PrintLast Go.Proofs.YtcefaofknaeaeaaDoorW.PrintMore
set_option maxRecDepth 100000
theorem own : ownKnob Tryd.prog.godebug = none := by kernel_rfl
theorem laidOut : laidOutB Tryd.prog = true := by kernel_rfl
theorem one24 : oneCellFields Tryd.prog #[⟨"Dims", 3, 0, false, "", "", 0⟩, ⟨"Rows", 22, 1, false, "", "", 8⟩] = true := by kernel_rfl
theorem cells24 : Tryd.prog.cellsOf 24 = 2 := by kernel_rfl
theorem open_map {H : Type} {enc : TypeId × Value → H} {W : World} {base b0 : Nat} {held : Bool} {v : Value} {d : DataW H} {p : List MemPlace} (hv : Value.okWide Tryd.prog W .any b0 24 v) (h : DataW.Trod enc Tryd.prog W base (fun _ => true) held 24 v d p) :
  ∃ n A c l, v = .agg #[.int .i64 n, .slice A (List.length (α := List Int) l) c] ∧ l.length ≤ c ∧ Kd.C (Kd.slice 2 (Kd.int .i64)) W A l.length l := by
 obtain ⟨v0, v1, y0, y1, fuel, rfl, _, _, h0, h1⟩ := open_agg2 Tryd.underlying24 one24 cells24 hv h
 obtain ⟨n, e, _, _⟩ := DataW.trod_int Tryd.underlying3 h0
 simp only [List.cons.injEq, and_true] at e
 subst e
 obtain ⟨A, c, l, rfl, hl, hC⟩ := C_of_rows (by kernel_rfl) (by kernel_rfl) h1
 exact ⟨n, A, c, l, rfl, hl, hC⟩
theorem wf_i64 {x : Int} (h : (Lit.int .i64 x).wf = true) : i64B x = true := by
 have h' : (decide (IntKind.i64.min ≤ x) && decide (x ≤ IntKind.i64.max)) = true := h
 rw [show IntKind.i64.min = -9223372036854775808 by decide, show IntKind.i64.max = 9223372036854775807 by decide] at h'
 exact h'
theorem open_nums {H : Type} {enc : TypeId × Value → H} {W : World} {base b0 : Nat} {held : Bool} {v : Value} {d : DataW H} {p : List MemPlace} (hv : Value.okWide Tryd.prog W .any b0 25 v) (h : DataW.Trod enc Tryd.prog W base (fun _ => true) held 25 v d p) :
  ∃ A c l, v = .slice A (List.length (α := Int) l) c ∧ l.length ≤ c ∧ (Kd.int .i64).C W A l.length l ∧ l.all i64B = true := by
 obtain ⟨a, len, cap, rfl⟩ := okWide_slice Tryd.underlying25 hv
 have key : ∃ zs : List Int, (a = none ∧ len = 0 ∧ cap = 0 ∧ zs = []) ∨ ∃ x, a = some x ∧ len ≤ cap ∧ cap ≤ maxLen ∧ zs.length = cap ∧ (∀ i, i < zs.length → W.cell? (x.add i) = some (.int .i64 (zs.getD i 0))) ∧ ∀ n ∈ zs, (Lit.int .i64 n).wf = true := by
  obtain ⟨fuel, hf⟩ := h
  rcases open_ints Tryd.underlying25 Tryd.underlying2 (by kernel_rfl) hf with ⟨hcs, _⟩ | ⟨x, l, c, zs, hcs, _, hl, hm, hz, _, hcell, hwz⟩
  ·simp [Value.cells] at hcs
   obtain ⟨rfl, rfl, rfl⟩ := hcs
   exact ⟨[], .inl ⟨rfl, rfl, rfl, rfl⟩⟩
  ·simp [Value.cells] at hcs
   obtain ⟨rfl, rfl, rfl⟩ := hcs
   exact ⟨zs, .inr ⟨_, rfl, hl, hm, by simpa using hz, hcell, hwz⟩⟩
 obtain ⟨zs, hz⟩ := key
 obtain ⟨l, rfl, hr, _, hw, hc⟩ := ReadsInt.ofRowC hz
 exact ⟨a, cap, l, rfl, hc, Kd.C_of_reads (d := (0 : Int)) (h1 := fun _ => rfl) hr, List.all_eq_true.2 fun x hx => wf_i64 (hw x hx)⟩
end Go.Proofs.YtcefaofknaeaeaaDoor.X
