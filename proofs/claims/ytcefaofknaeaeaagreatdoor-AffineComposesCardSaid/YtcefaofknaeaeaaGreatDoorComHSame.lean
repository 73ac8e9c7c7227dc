/- (demotic/affine.Map).same: whether a map's rows are the identity's: its contract. -/
import Derived.Test.YtcefaofknaeaeaaGreatDoorComHRight
set_option linter.unusedVariables false
set_option linter.unusedSimpArgs false
namespace Go.Proofs.YtcefaofknaeaeaaGreatDoor.X
open Go.RowKit Go.Proofs.YtcefaofknaeaeaaGreatDoorW.PrintWords Go.Proofs.YtcefaofknaeaeaaGreatDoorW.PrintLast Go.Proofs.YtcefaofknaeaeaaGreatDoorW.PrintMore
def oneAt (i j : Nat) : Int := if i = j then 1 else 0
def sameB (l : List (List Int)) : Bool := (List.range l.length).all fun i => (List.range (rd_L1 l i).length).all fun j => (rd_L1 l i).getD j 0 == oneAt i j
theorem sameB_iff {l : List (List Int)} : sameB l = true ↔ ∀ i, i < l.length → ∀ j, j < (rd_L1 l i).length → (rd_L1 l i).getD j 0 = oneAt i j := by
 unfold sameB
 simp only [List.all_eq_true, List.mem_range, beq_iff_eq]
theorem sameB_not {l : List (List Int)} (i j : Nat) (hi : i < l.length) (hj : j < (rd_L1 l i).length) (h : (rd_L1 l i).getD j 0 ≠ oneAt i j) : sameB l = false := by
 cases e : sameB l with
 | false => rfl
 | true => exact absurd (sameB_iff.1 e i hi j hj) h
def affine_Map_same.f (_a0_0 : Int) (l0_1 : List (List Int)) : Option Bool := some (sameB l0_1)
set_option maxHeartbeats 4000000 in
set_option maxRecDepth 100000 in
theorem affine_Map_same.calls (a0_0 : Int) (A0_1 : Option Addr) (c0_1 : Nat) (l0_1 : List (List Int)) (r : Bool) (w : World) (hr0_1 : Kd.C (Kd.slice 2 (Kd.int .i64)) w A0_1 l0_1.length l0_1) (hc0_1 : l0_1.length ≤ c0_1) (h : affine_Map_same.f a0_0 l0_1 = some r) :
  Calls Tryz.prog 32 #[.agg #[.int .i64 a0_0, .slice A0_1 l0_1.length c0_1]] w fun e w' => e = .returned (.bool r) ∧ Below w.heap.size w w' := by
 have hm : l0_1.length ≤ 9223372036854775807 := hr0_1.2.1
 have HR := Aside0.mk hr0_1
 have HD := Aside0.mk hc0_1
 have H : Aside0 (sameB l0_1 = r) := ⟨by unfold affine_Map_same.f at h; exact Option.some.inj h⟩
 clear hr0_1 h hc0_1
 have HW := Aside0.mk (below_alloc (Below.refl w.heap.size w) (.cells #[.int .i64 a0_0, .slice A0_1 l0_1.length c0_1] 24))
 go_enter Tryz.func32, Tryz.ntmps32
 go_wp2
 go_loop [3, 4, 5, 6, 10] (fun _ _ _ _ i => ∃ k : Nat, k ≤ l0_1.length ∧ i = .int .i64 k ∧ Aside0 (∀ i, i < k → ∀ j, j < (rd_L1 l0_1 i).length → (rd_L1 l0_1 i).getD j 0 = oneAt i j)) (fun _ _ _ _ i => l0_1.length - (intOf i).toNat)
 case atStart => exact ⟨0, Nat.zero_le _, rfl, ⟨fun j hj => absurd hj (Nat.not_lt_zero _)⟩⟩
 case round =>
  obtain ⟨k, hk, rfl, HA⟩ := hrel
  by_cases hlt : k < l0_1.length
  ·obtain ⟨ad, A0, c0, e, hx, hl, hi⟩ := at_L1 HR.out k (by omega) (by omega)
   cases e
   rw [Int.toNat_natCast] at hx
   replace hx := (HW.out.cell (World.block_lt_of_cell? w _ hx)).trans hx
   have hxm : (rd_L1 l0_1 k).length ≤ 9223372036854775807 := hi.2.1
   replace hi := Kd.C_below hi HW.out
   generalize hrow : rd_L1 l0_1 k = row at hx hl hi hxm
   have HROW := Aside0.mk hrow
   have HI := Aside0.mk hi
   clear hrow hi hl
   go_wp2
   go_loop [5, 6, 17] (fun _ _ i => ∃ j : Nat, j ≤ row.length ∧ i = .int .i64 j ∧ Aside0 (∀ t, t < j → row.getD t 0 = oneAt k t)) (fun _ _ i => row.length - (intOf i).toNat)
   case atStart => exact ⟨0, Nat.zero_le _, rfl, ⟨fun j hj => absurd hj (Nat.not_lt_zero _)⟩⟩
   case round =>
    obtain ⟨j, hj, rfl, HJ⟩ := hrel
    by_cases hjt : j < row.length
    ·obtain ⟨ad2, rfl, hc⟩ := at_int HI.out j hjt
     generalize hv : row.getD j 0 = v at hc
     have HV := Aside0.mk hv
     clear hv
     by_cases e1 : k = j
     ·subst e1
      have b1 : ((k : Int) == (k : Int)) = true := beq_self_eq_true _
      have b2 : ((k : Int) != (k : Int)) = false := by simp
      by_cases e2 : v = 1
      ·subst e2
       go_wp2
       go_round
       case rel =>
        refine ⟨k + 1, by omega, by go_num, ⟨fun t ht => ?_⟩⟩
        by_cases e : t = k
        ·subst e; rw [HV.out]; unfold oneAt; rw [if_pos rfl]
        ·exact HJ.out t (by omega)
       case measure => simp [intOf]; omega
      ·have b3 : (v == 1) = false := beq_eq_false_iff_ne.2 e2
       have HE2 := Aside0.mk e2
       clear e2
       go_wp2
       go_ret
       refine ⟨?_, HW.out⟩
       rw [← H.out, sameB_not k k hlt (by rw [HROW.out]; exact hjt) (by rw [HROW.out, HV.out]; unfold oneAt; rw [if_pos rfl]; exact HE2.out)]; rfl
     ·have b1 : ((k : Int) == (j : Int)) = false := beq_eq_false_iff_ne.2 (by omega)
      have b2 : ((k : Int) != (j : Int)) = true := by rw [bne_iff_ne]; omega
      have HE1 := Aside0.mk e1
      by_cases e2 : v = 1
      ·subst e2
       clear e1
       go_wp2
       go_ret
       refine ⟨?_, HW.out⟩
       rw [← H.out, sameB_not k j hlt (by rw [HROW.out]; exact hjt) (by rw [HROW.out, HV.out]; unfold oneAt; rw [if_neg HE1.out]; decide)]; rfl
      ·have b3 : (v == 1) = false := beq_eq_false_iff_ne.2 e2
       by_cases e3 : v = 0
       ·subst e3
        clear e1
        go_wp2
        go_round
        case rel =>
         refine ⟨j + 1, by omega, by go_num, ⟨fun t ht => ?_⟩⟩
         by_cases e : t = j
         ·subst e; rw [HV.out]; unfold oneAt; rw [if_neg HE1.out]
         ·exact HJ.out t (by omega)
        case measure => simp [intOf]; omega
       ·have b4 : (v == 0) = false := beq_eq_false_iff_ne.2 e3
        have b5 : (v != 0) = true := by rw [bne_iff_ne]; exact e3
        have HE3 := Aside0.mk e3
        clear e1 e2 e3
        go_wp2
        go_ret
        refine ⟨?_, HW.out⟩
        rw [← H.out, sameB_not k j hlt (by rw [HROW.out]; exact hjt) (by rw [HROW.out, HV.out]; unfold oneAt; rw [if_neg HE1.out]; exact HE3.out)]; rfl
    ·have e : j = row.length := by omega
     subst e
     go_wp2
     go_round
     case rel =>
      refine ⟨k + 1, by omega, by go_num, ⟨fun i hi t ht => ?_⟩⟩
      by_cases e : i = k
      ·subst e; rw [HROW.out] at ht ⊢; exact HJ.out t ht
      ·exact HA.out i (by omega) t ht
     case measure => simp [intOf]; omega
  ·have e : k = l0_1.length := by omega
   subst e
   go_wp2
   go_ret
   exact ⟨by rw [← H.out, sameB_iff.2 HA.out]; rfl, HW.out⟩
end Go.Proofs.YtcefaofknaeaeaaGreatDoor.X
