/- demoticlaw19.AffineComposes: the row and its card. -/
import Derived.Test.YtcefaofknaeaeaaGreatDoorComLComposes
import Derived.Test.YtcefaofknaeaeaaGreatDoorComHOpen
import Derived.Test.YtcefaofknaeaeaaGreatDoorComRGlob
import Derived.Test.YtcefaofknaeaeaaGreatDoorCards
import Derived.Test.YtcefaofknaeaeaaGreatDoorTie
import Derived.WalkKit
import Derived.ProofKit
import Derived.OpenShut
import Derived.Carry
import Derived.Deep.DeepHandedRow
import Derived.Lib.LaidTab
import Derived.Lay
import Derived.MakeChecks
import Derived.Deep.DeepWitnessRowRef
set_option linter.unusedVariables false
set_option linter.unusedSimpArgs false
namespace Go.Proofs.YtcefaofknaeaeaaGreatDoor.affineComposes
open Go.ChangeShapes Go.WideShapes Go.ChangeAt Go.RowKit Go.Deep X Go.Joins Go.Proofs.YtcefaofknaeaeaaGreatDoorW.PrintWords Go.Proofs.YtcefaofknaeaeaaGreatDoorW.PrintLast Go.Proofs.YtcefaofknaeaeaaGreatDoorW.PrintMore
set_option maxRecDepth 100000
theorem own : ownKnob Tryz.prog.godebug = none := by kernel_rfl
theorem laidOut : laidOutB Tryz.prog = true := by kernel_rfl
theorem one24 : oneCellFields Tryz.prog #[⟨"Dims", 3, 0, false, "", "", 0⟩, ⟨"Rows", 22, 1, false, "", "", 8⟩] = true := by kernel_rfl
theorem cells24 : Tryz.prog.cellsOf 24 = 2 := by kernel_rfl
theorem open_map {H : Type} {enc : TypeId × Value → H} {W : World} {base b0 : Nat} {held : Bool} {v : Value} {d : DataW H} {p : List MemPlace} (hv : Value.okWide Tryz.prog W .any b0 24 v) (h : DataW.Trod enc Tryz.prog W base (fun _ => true) held 24 v d p) :
  ∃ n A c l, v = .agg #[.int .i64 n, .slice A (List.length (α := List Int) l) c] ∧ l.length ≤ c ∧ Kd.C (Kd.slice 2 (Kd.int .i64)) W A l.length l := by
 obtain ⟨v0, v1, y0, y1, fuel, rfl, _, _, h0, h1⟩ := open_agg2 Tryz.underlying24 one24 cells24 hv h
 obtain ⟨n, e, _, _⟩ := DataW.trod_int Tryz.underlying3 h0
 simp only [List.cons.injEq, and_true] at e
 subst e
 obtain ⟨A, c, l, rfl, hl, hC⟩ := C_of_rows (by kernel_rfl) (by kernel_rfl) h1
 exact ⟨n, A, c, l, rfl, hl, hC⟩
set_option maxHeartbeats 2000000 in
theorem contract (H : Type) (enc : TypeId × Value → H) (W : World) (base : Nat) (args : Array Value) (ds gs : List (DataW H)) (before : List MemPlace)
  (hval : ∀ (j : Nat) t v, Tryz.f3.params[j]? = some t → args[j]? = some v → Value.okWide Tryz.prog W .any base t v)
  (hW : DataW.Whole enc Tryz.prog Tryz.f3.params.toList Rows.affineComposesSpec.vars false W args.toList ds gs before) (hL : laidMetH Tryz.prog Rows.affineComposesRow.laid W) (hS : W.ShapedOpen Tryz.prog) :
  Calls Tryz.prog 3 args W fun e W' => ∃ v, e = .returned v ∧ Rows.affineComposesSpec.post enc Tryz.prog Tryz.f3 false true false false W args v W' := by
 have hW' := hW
 obtain ⟨p, q, hA0, hV, rfl, hfz, hnd⟩ := hW
 have hA : DataW.TrodAll enc Tryz.prog W 0 (fun _ => true) true Tryz.f3.params.toList args.toList ds p := hA0
 rw [Tryz.params3] at hA hval
 obtain ⟨v0, v1, d0, d1, p0, p1, rfl, rfl, rfl, h0, h1⟩ := trodAll_two hA
 obtain ⟨rfl, rfl⟩ := trodVars_none hV
 obtain ⟨n1, A1, c1, l1, rfl, hc1, hC1⟩ := open_map (hval 0 24 v0 rfl rfl) h0
 obtain ⟨n2, A2, c2, l2, rfl, hc2, hC2⟩ := open_map (hval 1 24 v1 rfl rfl) h1
 clear hA0
 simp only [List.append_nil] at hW'
 have hlt : ∀ x ∈ p0 ++ p1, x.block < W.heap.size := fun x hx => by simpa using hW'.lt x hx
 refine (composes_any n1 A1 c1 l1 n2 A2 c2 l2 W (glob_of hL hS) hC1 hc1 hC2 hc2).mono fun e W' ⟨he, bel⟩ => ?_
 subst he
 refine ⟨_, rfl, ⟨_, _, _, [], p0 ++ p1, [], hW', ?_, ?_, rfl, bel.frame _, fun h => by cases h⟩⟩
 ·exact trodAll_cons_mk (shut_bool Tryz.underlying4 _) trodAll_mk0
 ·exact trodAll_mk2 (Below.trod laidOut (by kernel_rfl) (of_decide_eq_true (by kernel_rfl)) h0 bel (fun x hx => hlt x (List.mem_append_left _ hx))) (Below.trod laidOut (by kernel_rfl) (of_decide_eq_true (by kernel_rfl)) h1 bel (fun x hx => hlt x (List.mem_append_right _ hx)))
def arg0 : Value := .agg #[.int .i64 0, .slice none 0 0]
theorem laid_met (os : Os) : laidMetH Tryz.prog Rows.affineComposesRow.laid ((World.laidAll Tryz.prog os Rows.affineComposesRow.laid).forCall (fun _ _ => 0) ⟨#[], #[arg0, arg0], []⟩).memory := by
 rw [MakeChecks.laidMetH_plain _ _ _ (by kernel_rfl)]
 exact laidMet_laidAll _ (by kernel_rfl) (by kernel_rfl)
theorem reads (os : Os) {H : Type} (enc : TypeId × Value → H) : ∃ places, DataW.whole enc Tryz.prog ((World.laidAll Tryz.prog os Rows.affineComposesRow.laid).forCall (fun _ _ => 0) ⟨#[], #[arg0, arg0], []⟩).memory Tryz.f3.params.toList Rows.affineComposesSpec.vars false #[arg0, arg0].toList 8 = some ([.agg [.lit (.int .i64 0), .nil], .agg [.lit (.int .i64 0), .nil]], [], places) :=
 ⟨[], by kernel_rfl⟩
theorem lifted (os : Os) (started : os.Started) (H : Type) (enc : TypeId × Value → H) (F : Stop.Interp) :
  ReturnsInHanded {} Tryz.checked os 3 .any ((OpenSpec.ofChange Rows.affineComposesSpec).preRow enc Tryz.prog Tryz.f3 Rows.affineComposesRow.domain false Rows.affineComposesRow.laid) (((OpenSpec.ofChange Rows.affineComposesSpec).at F).post enc Tryz.prog Tryz.f3 false true false false) := by
 obtain ⟨places, hx⟩ := reads os enc
 refine returnsInHanded_of_row (C := Tryz.checked) (s := OpenSpec.ofChange Rows.affineComposesSpec) own started (by kernel_rfl) Tryz.func3
  (witness_row_atRef (enc := enc) (C := Tryz.checked) false (World.laidAll Tryz.prog os Rows.affineComposesRow.laid) #[arg0, arg0] (World.laidAll_os _ _ _) (by kernel_rfl) (by kernel_rfl) (by kernel_rfl)
   (OpenSpec.preRow_of_cond 8 hx (by kernel_rfl) (fun k hk => by cases hk) (by kernel_rfl) (laid_met os))) ?_
 intro W base args ds gs before hval hW _ _ _ hL hS _
 exact contract H enc W base args ds gs before hval hW hL hS
theorem said : Rows.AffineComposesSaid :=
 OpenClaim.holds_of_cond 3 Tryz.f3 rfl rfl rfl rfl rfl rfl rfl ⟨rfl, rfl, rfl, rfl, rfl⟩ rfl rfl rfl rfl rfl (by kernel_rfl) Tryz.func3 (by kernel_rfl)
  (of_decide_eq_true (by kernel_rfl)) (by unfold Func.isWrapper; first | (rw [if_pos (by decide +kernel)]; kernel_rfl) | (rw [if_neg (by decide +kernel)]; exact ⟨rfl, rfl⟩))
  (fun os started H enc _ F => by rw [OpenClaim.pre_eq_preRow]; exact lifted os started H enc F)
theorem plain (f : FuncId) (fn : Func) (hf : Tryz.pinned.checked.prog.funcNamed "demotic/demoticlaw19.AffineComposes" = some f) (hfn : Tryz.pinned.checked.prog.funcs[f]? = some fn) :
  true = Tryz.pinned.checked.prog.looks [] ∧ ∀ (j : Nat) t, fn.params[j]? = some t → Tryz.pinned.checked.prog.wantsStandIn t = false := by
 obtain rfl : f = 3 := Option.some.inj ((show Tryz.prog.funcNamed "demotic/demoticlaw19.AffineComposes" = some 3 by kernel_rfl).symm.trans hf) |>.symm
 obtain rfl : fn = Tryz.f3 := (Option.some.inj (Tryz.func3.symm.trans hfn)).symm
 refine ⟨by kernel_rfl, fun j t ht => ?_⟩
 rw [Tryz.params3] at ht
 have := Array.mem_of_getElem? ht
 obtain rfl : t = 24 := by simpa using this
 exact (show Tryz.prog.wantsStandIn 24 = false by kernel_rfl)
theorem card : Rows.AffineComposesCardSaid :=
 Claim7.holds_tied_plain_at .later [] _ _ _ _ said (fun _ h => by cases h) (by kernel_rfl) (fun _ h => by cases h) affineComposes_row_tie rfl ⟨rfl, rfl⟩ (by kernel_rfl) rfl plain (by kernel_rfl)
end Go.Proofs.YtcefaofknaeaeaaGreatDoor.affineComposes
