/- demotic/affine.Invert: the map that undoes another one: its contract. -/
import Derived.Test.YtcefaofknaeaeaaGreatDoorComHInvA
set_option linter.unusedVariables false
set_option linter.unusedSimpArgs false
namespace Go.Proofs.YtcefaofknaeaeaaGreatDoor.X
open Go.RowKit Go.Proofs.YtcefaofknaeaeaaGreatDoorW.PrintWords Go.Proofs.YtcefaofknaeaeaaGreatDoorW.PrintLast Go.Proofs.YtcefaofknaeaeaaGreatDoorW.PrintMore AffMath
noncomputable def affine_Invert.f (a0_0 : Int) (l0_1 : List (List Int)) : Option (Int × List (List Int) × Int) := some (invertS a0_0 l0_1)
set_option maxHeartbeats 8000000 in
set_option maxRecDepth 100000 in
theorem affine_Invert.calls (a0_0 : Int) (A0_1 : Option Addr) (c0_1 : Nat) (l0_1 : List (List Int)) (r1 : Int) (r2 : List (List Int)) (r3 : Int) (w : World) (hr0_1 : Kd.C (Kd.slice 2 (Kd.int .i64)) w A0_1 l0_1.length l0_1) (hc0_1 : l0_1.length ≤ c0_1) (h : affine_Invert.f a0_0 l0_1 = some (r1, r2, r3)) :
  Calls Tryz.prog 14 #[.agg #[.int .i64 a0_0, .slice A0_1 l0_1.length c0_1]] w fun e w' => ∃ v1_ : Value, e = .returned (.tuple #[.agg #[.int .i64 r1, v1_], .int .i64 r3]) ∧ Kd.S (Kd.slice 2 (Kd.int .i64)) 38 w' w.heap.size (fun _ => True) v1_ r2 ∧ Below w.heap.size w w' := by
 have hm0 : l0_1.length ≤ 9223372036854775807 := hr0_1.2.1
 have HR := Aside0.mk hr0_1
 have HD := Aside0.mk hc0_1
 have HS : Aside0 (invertS a0_0 l0_1 = (r1, r2, r3)) := ⟨Option.some.inj h⟩
 clear hr0_1 hc0_1 h
 obtain ⟨W2, hW2⟩ : ∃ W2 : World, W2 = (w.alloc (.cells #[.int .i64 a0_0, .slice A0_1 l0_1.length c0_1] 24)).alloc (.cells #[.int .i64 0, .slice none 0 0] 24) := ⟨_, rfl⟩
 have HB0 : Aside0 (Below w.heap.size w W2) := ⟨by rw [hW2]; exact below_alloc (below_alloc (Below.refl w.heap.size w) _) _⟩
 have BB0 : Aside0 (W2.heap[w.heap.size]? = some (.cells #[.int .i64 a0_0, .slice A0_1 l0_1.length c0_1] 24 (0, 0))) := ⟨by rw [hW2]; exact blk_alloc (blk_new w _) _⟩
 have BB1 : Aside0 (W2.heap[w.heap.size + 1]? = some (.cells #[.int .i64 0, .slice none 0 0] 24 (0, 0))) := ⟨by
  rw [hW2]
  have := blk_new (w.alloc (.cells #[.int .i64 a0_0, .slice A0_1 l0_1.length c0_1] 24)) (.cells #[.int .i64 0, .slice none 0 0] 24)
  simpa using this⟩
 have HC : ∀ b, rightB a0_0 l0_1 = b → Aside0 (∀ W, W = W2 → Calls Tryz.prog 25 #[.agg #[.int .i64 a0_0, .slice A0_1 l0_1.length c0_1]] W fun e w' => e = .returned (.bool b) ∧ Below W2.heap.size W2 w') := fun b hb => ⟨fun W hW => by
  subst hW
  exact affine_Map_right.calls a0_0 A0_1 c0_1 l0_1 b _ (Kd.C_below HR.out HB0.out) HD.out (by unfold affine_Map_right.f; rw [hb])⟩
 have HCC := Aside0.mk HC
 have HW2 := Aside0.mk hW2
 clear hW2 HC
 cases hrt : rightB a0_0 l0_1 with
 | false =>
  have HC := HCC.out false hrt
  have HRT := Aside0.mk hrt
  clear hrt
  have HS2 : Aside0 ((0, [], 190) = (r1, r2, r3)) := ⟨by rw [← HS.out]; unfold invertS; rw [HRT.out]; rfl⟩
  go_enter Tryz.func14, Tryz.ntmps14
  go_wp2_with (first | (go_at_call 25; refine (HC.out _ HW2.out.symm).mono ?_; rintro e w1 ⟨rfl, hb1⟩; have HB1 := Aside0.mk (below_then HB0.out HB0.out.size hb1); have B1 := Aside0.mk (blk_below BB1.out hb1); have q0 := blk_cell B1.out 0; have q1 := blk_cell B1.out 1; have f0 := blk_frozen B1.out 0; have f1 := blk_frozen B1.out 1; clear hb1))
  have e := HS2.out
  simp only [Prod.mk.injEq] at e
  obtain ⟨rfl, rfl, rfl⟩ := e
  refine bodyPost_ret (results_ct rfl _ _ (w.heap.size + 1) 24 #[.int .i64 0, .slice none 0 0] (0, 0) _ rfl (blk_put (cs := #[.int .i64 0, .slice none 0 0]) (blk_put (cs := #[.int .i64 0, .slice none 0 0]) B1.out 0 _ rfl) 1 _ rfl) Tryz.underlying24 rfl (by kernel_rfl)) rfl ?_
  exact ⟨_, rfl, Kd.S_nil _ _ _ _ _, below_set (below_set HB1.out (by omega)) (by omega)⟩
 | true =>
  have HC := HCC.out true hrt
  obtain ⟨d0, d1, d2⟩ := rightB_dims hrt
  have HRT := Aside0.mk hrt
  clear hrt
  obtain ⟨n, rfl⟩ := Int.eq_ofNat_of_zero_le d0
  by_cases hlen : l0_1.length = n
  ·have hb1 : ((l0_1.length : Int) == (n : Int)) = true := beq_iff_eq.2 (by omega)
   have hb2 : ((l0_1.length : Int) != (n : Int)) = false := bne_eq_false_iff_eq.2 (by omega)
   have HLEN := Aside0.mk hlen
   have hn6 : n ≤ 6 := by omega
   clear hlen d0 d1
   go_enter Tryz.func14, Tryz.ntmps14
   go_wp2_with (first | (go_at_call 25; refine (HC.out _ HW2.out.symm).mono ?_; rintro e w1 ⟨rfl, hb1⟩; have HB1 := Aside0.mk (below_then HB0.out HB0.out.size hb1); have B0 := Aside0.mk (blk_below BB0.out hb1); have B1 := Aside0.mk (blk_below BB1.out hb1); have p0 := blk_cell B0.out 0; have p1 := blk_cell B0.out 1; clear hb1))
   clear p0 p1
   have hmk : ∀ W : World, (Instr.makeSlice 38 (.int .i64 (2 * (n : Int))) (.int .i64 (2 * (n : Int)))).run Tryz.prog W = .ok (.slice (some ⟨W.heap.size, 0, none⟩) (n + n) (n + n)) (W.alloc (.cells (madeCells #[.int .i64 0] (n + n)) 2)) := by
    have e : 2 * (n : Int) = ((n + n : Nat) : Int) := by omega
    rw [e]
    exact print_make 38 2 .i64 8 Tryz.underlying38 info2 (by decide) (n + n) (by omega)
   go_loopw [5, 37] (fun v5 i wr => ∃ (k : Nat) (g : Nat → Nat), k ≤ n ∧ i = .int .i64 k ∧ Aside0 (Bld wr w.heap.size v5 k (n + n) g (tabL (n + n) (bothE l0_1 n))) ∧ Aside0 (wr.heap[w.heap.size]? = some (.cells #[.int .i64 (n : Int), .slice A0_1 l0_1.length c0_1] 24 (0, 0))) ∧ Aside0 (wr.heap[w.heap.size + 1]? = some (.cells #[.int .i64 0, .slice none 0 0] 24 (0, 0))) ∧ Aside0 (Below w.heap.size w wr)) (fun _ i _ => n - (intOf i).toNat)
   case atStart => exact ⟨0, fun _ => 0, Nat.zero_le _, rfl, ⟨Bld.start _ _ _ _ _⟩, B0, B1, HB1⟩
   case round =>
    clear HB1 B0 B1
    obtain ⟨k, g, hk, rfl, HL, B0, B1, HB⟩ := hrel
    obtain ⟨W1, hW1⟩ : ∃ W, W = wr := ⟨_, rfl⟩
    subst hW1
    by_cases hlt : k < n
    ·obtain ⟨ad, A0, c0, e, hx, hl, hi⟩ := at_L1 HR.out k (by omega) (by have := HLEN.out; omega)
     obtain ⟨hrn, hsm⟩ := rightB_row HRT.out k (by have := HLEN.out; omega)
     cases e
     rw [Int.toNat_natCast] at hx
     replace hx := (HB.out.cell (World.block_lt_of_cell? w _ hx)).trans hx
     have HI := Aside0.mk hi
     have HSM := Aside0.mk hsm
     have HRN := Aside0.mk hrn
     have q0 : W1.cell? ⟨w.heap.size, 0, none⟩ = some (.int .i64 (n : Int)) := (blk_cell B0.out 0).trans rfl
     have hkl : (k : Int) < (l0_1.length : Int) := by have := HLEN.out; omega
     go_wp2
     go_loopw [46] (fun i wq => ∃ j : Nat, j ≤ n ∧ i = .int .i64 j ∧ Aside0 (Row wq W1.heap.size (n + n) (fun t => if t < j then mE l0_1 k t % 2147483647 else 0)) ∧ Aside0 (Below W1.heap.size W1 wq)) (fun i _ => n - (intOf i).toNat)
     case atStart => exact ⟨0, Nat.zero_le _, rfl, ⟨(Row.made W1 (n + n)).congr fun t _ => by rw [if_neg (Nat.not_lt_zero _)]⟩, ⟨below_alloc (Below.refl _ _) _⟩⟩
     case round =>
      clear q0 hx
      obtain ⟨j, hj, rfl, HRW, HBW⟩ := hrel
      by_cases hjt : j < n
      ·obtain ⟨ad2, e2, hc⟩ := at_int HI.out j (by have := HRN.out; omega)
       cases e2
       replace hc := (HB.out.cell (World.block_lt_of_cell? w _ hc)).trans hc
       replace hc := (HBW.out.cell (World.block_lt_of_cell? W1 _ hc)).trans hc
       have hsj := HSM.out j (by have := HRN.out; omega)
       have hjr : (j : Int) < ((rd_L1 l0_1 k).length : Int) := by have := HRN.out; omega
       have hc2 := HRW.out.cell j (by omega)
       have f2 := HRW.out.frozen j
       have hjn : (j : Int) < ((n + n : Nat) : Int) := by omega
       generalize hy : (rd_L1 l0_1 k).getD j 0 = y at hc hsj
       have HY := Aside0.mk hy
       clear hy
       go_wp2_with (first | (go_at_call 28; refine (of_any y _ (by omega)).mono ?_; rintro e w5 ⟨rfl, rfl⟩))
       go_roundw
       case rel =>
        refine ⟨j + 1, by omega, by go_num, ⟨(HRW.out.put j _).congr fun t ht => ?_⟩, ⟨below_set HBW.out (Nat.le_refl _)⟩⟩
        by_cases e : t = j
        ·subst e; rw [if_pos (by omega), if_pos rfl, show mE l0_1 k t = y from HY.out]
        ·rw [if_neg e]
         by_cases e2 : t < j
         ·rw [if_pos (by omega), if_pos e2]
         ·rw [if_neg (by omega), if_neg e2]
       case measure => simp [intOf]; omega
      ·have e : j = n := by omega
       subst e
       have hc2 := HRW.out.cell (j + k) (by omega)
       have f2 := HRW.out.frozen (j + k)
       have hjn : (j : Int) + (k : Int) < ((j + j : Nat) : Int) := by omega
       have hap : ∀ v1 (w1' : World), w1'.ownsRow w.heap.size 38 1 v1 (k + 1) (((List.range k).map fun t => hdr (g t) (j + j)) ++ [hdr W1.heap.size (j + j)]) → (wr.setCell ⟨W1.heap.size, j + k, none⟩ (.int .i64 1)).grownBy w1' u5.ownBlock → Bld w1' w.heap.size v1 (k + 1) (j + j) (snocF g k W1.heap.size) (tabL (j + j) (bothE l0_1 j)) := fun v1 w1' hown hg => by
        have hb := HL.out.below (below_set (g := W1.heap.size) (j := j + k) (v := .int .i64 1) HBW.out (Nat.le_refl _))
        refine (hb.snoc (HRW.out.put (j + k) 1) (by simp) (fun q hq => by have := HL.out.lt q hq; omega) HB.out.size hown hg).congr fun q hq => ?_
        by_cases e : q = k
        ·subst e
         rw [snocF_k]
         refine List.map_congr_left fun t ht => ?_
         unfold bothE
         by_cases e1 : t = j + q
         ·rw [if_neg (by omega), if_pos e1, if_pos e1]
         ·rw [if_neg e1]
          by_cases e2 : t < j
          ·rw [if_pos e2, if_neg e1]
          ·rw [if_neg e2, if_neg e1]
        ·rw [snocF_o _ _ _ _ e]
       have HAP := Aside0.mk hap
       have hW := HL.out.below (below_set (g := W1.heap.size) (j := j + k) (v := .int .i64 1) HBW.out (Nat.le_refl _))
       have HOW := Aside0.mk hW.own
       have HB3 := Aside0.mk (below_then HB.out HB.out.size (below_set (g := W1.heap.size) (j := j + k) (v := .int .i64 1) HBW.out (Nat.le_refl _)))
       have B03 := Aside0.mk (blk_below B0.out (below_set (g := W1.heap.size) (j := j + k) (v := .int .i64 1) HBW.out (Nat.le_refl _)))
       have B13 := Aside0.mk (blk_below B1.out (below_set (g := W1.heap.size) (j := j + k) (v := .int .i64 1) HBW.out (Nat.le_refl _)))
       clear hap hW
       go_wp2_with (first
        | ((with_reducible refine gate_builtin (b := .append) (xs := #[.tmp 63, .tmp 65]) rfl ?_); at_builtin; refine print_append_cells w.heap.size rfl (.tmp 63) (.tmp 65) 22 38 (.slice none 0 0) 1 24 rfl Tryz.underlying22 info38 rfl (by decide) (by decide) u5 k ((List.range k).map fun t => hdr (g t) (j + j)) [hdr W1.heap.size (j + j)] rfl (by show Value.slice (some ⟨wr.heap.size, 0, none⟩) 1 1 = _; simp [World.setCell]) rfl (by simp [hdr, Value.oneCell']) HOW.out HB3.out HB3.out.size (by omega) ?_; intro v6 w6 ho hb hg hat; have HO6 := Aside0.mk (HAP.out v6 w6 ho hg); have HB6 := Aside0.mk hb; have B06 := Aside0.mk (blk_grown B03.out hg (fun e => by obtain ⟨cells, hc⟩ := own_typed HOW.out _ e.symm; have h1 := B03.out; rw [hc] at h1; injection h1 with h1; injection h1 with _ h1; exact absurd h1 (by decide))); have B16 := Aside0.mk (blk_grown B13.out hg (fun e => by obtain ⟨cells, hc⟩ := own_typed HOW.out _ e.symm; have h1 := B13.out; rw [hc] at h1; injection h1 with h1; injection h1 with _ h1; exact absurd h1 (by decide))); clear ho hb hg hat))
       go_roundw
       case rel => exact ⟨k + 1, snocF g k W1.heap.size, by omega, by go_num, HO6, B06, B16, HB6⟩
       case measure => simp [intOf]; omega
    ·obtain rfl : n = k := by omega
     obtain ⟨A5, c5, e5, hcall⟩ := solve_both hn6 HL.out
     subst e5
     have HCS := Aside0.mk hcall
     have hln : ¬ n < l0_1.length := by have := HLEN.out; omega
     clear hcall
     go_wp2_with (first | (go_at_call 29; refine HCS.out.mono ?_; rintro e w2 ⟨b, rfl, hb2, hkeep, hno, hyes⟩; have HNO := Aside0.mk hno; have HYES := Aside0.mk hyes; have HB2 := Aside0.mk (HB.out.trans hb2); have B02 := Aside0.mk ((hkeep _ _ B0.out).trans B0.out); have B12 := Aside0.mk ((hkeep _ _ B1.out).trans B1.out); clear hno hyes hb2 hkeep; refine Aside0.out ?_))
     refine Aside0.mk ?_
     clear HCS HL HB B0 B1
     have q0 := blk_cell B12.out 0
     have q1 := blk_cell B12.out 1
     have f0 := blk_frozen B12.out 0
     have f1 := blk_frozen B12.out 1
     cases b with
     | false =>
      have HS2 : Aside0 ((0, [], 4) = (r1, r2, r3)) := ⟨by rw [← HS.out]; exact (invertS_none HRT.out HLEN.out (HNO.out rfl)).symm⟩
      go_wp2
      have e := HS2.out
      simp only [Prod.mk.injEq] at e
      obtain ⟨rfl, rfl, rfl⟩ := e
      refine bodyPost_ret (results_ct rfl _ _ (w.heap.size + 1) 24 #[.int .i64 0, .slice none 0 0] (0, 0) _ rfl (blk_put (cs := #[.int .i64 0, .slice none 0 0]) (blk_put (cs := #[.int .i64 0, .slice none 0 0]) B12.out 0 _ rfl) 1 _ rfl) Tryz.underlying24 rfl (by kernel_rfl)) rfl ?_
      exact ⟨_, rfl, Kd.S_nil _ _ _ _ _, below_set (below_set HB2.out (by omega)) (by omega)⟩
     | true =>
      obtain ⟨R, hsol, hund⟩ := HYES.out rfl
      have HSOL := Aside0.mk hsol
      have HUND := Aside0.mk hund
      clear hsol hund HNO HYES q0 q1 f0 f1 hmk
      have hmk : ∀ W : World, (Instr.makeSlice 38 (.int .i64 ((n : Int) + 1)) (.int .i64 ((n : Int) + 1))).run Tryz.prog W = .ok (.slice (some ⟨W.heap.size, 0, none⟩) (n + 1) (n + 1)) (W.alloc (.cells (madeCells #[.int .i64 0] (n + 1)) 2)) := by
       have e : (n : Int) + 1 = ((n + 1 : Nat) : Int) := by omega
       rw [e]
       exact print_make 38 2 .i64 8 Tryz.underlying38 info2 (by decide) (n + 1) (by omega)
      go_wp2
      go_loopw [75] (fun i wr => ∃ (k : Nat) (g : Nat → Nat) (v : Value), k ≤ n ∧ i = .int .i64 k ∧ Aside0 (Bld wr w2.heap.size v k (n + 1) g (tabL (n + 1) (outE l0_1 R n 0))) ∧ Aside0 (wr.heap[w2.heap.size]? = some (.cells #[.int .i64 (n : Int), v] 24 (0, 0))) ∧ Aside0 (Below w2.heap.size w2 wr)) (fun i _ => n - (intOf i).toNat)
      case atStart =>
       refine ⟨0, fun _ => 0, .slice none 0 0, Nat.zero_le _, rfl, ⟨Bld.start _ _ _ _ _⟩, ?_, ?_⟩
       ·exact ⟨blk_new w2 _⟩
       ·exact ⟨below_alloc (Below.refl _ _) _⟩
      case round =>
       obtain ⟨k, g, v, hk, rfl, HL, BQ, HB⟩ := hrel
       obtain ⟨W1, hW1⟩ : ∃ W, W = wr := ⟨_, rfl⟩
       subst hW1
       by_cases hlt : k < n
       ·go_wp2
        go_loopw [82] (fun i wq => ∃ j : Nat, j ≤ n ∧ i = .int .i64 j ∧ Aside0 (Row wq W1.heap.size (n + 1) (fun t => if t < j then nearS (R k t) else 0)) ∧ Aside0 (Below W1.heap.size W1 wq)) (fun i _ => n - (intOf i).toNat)
        case atStart => exact ⟨0, Nat.zero_le _, rfl, ⟨(Row.made W1 (n + 1)).congr fun t _ => by rw [if_neg (Nat.not_lt_zero _)]⟩, ⟨below_alloc (Below.refl _ _) _⟩⟩
        case round =>
         obtain ⟨j, hj, rfl, HRW, HBW⟩ := hrel
         by_cases hjt : j < n
         ·obtain ⟨go, gi, e5, ho, hin⟩ := HSOL.out k hlt
          subst e5
          have hc := hin j hjt
          clear hin
          replace ho := (HBW.out.cell (World.block_lt_of_cell? W1 _ ((HB.out.cell (World.block_lt_of_cell? w2 _ ho)).trans ho))).trans ((HB.out.cell (World.block_lt_of_cell? w2 _ ho)).trans ho)
          replace hc := (HBW.out.cell (World.block_lt_of_cell? W1 _ ((HB.out.cell (World.block_lt_of_cell? w2 _ hc)).trans hc))).trans ((HB.out.cell (World.block_lt_of_cell? w2 _ hc)).trans hc)
          have hrr := HUND.out.hR k hlt j hjt
          have hc2 := HRW.out.cell j (by omega)
          have f2 := HRW.out.frozen j
          have hjn : (j : Int) < ((n + 1 : Nat) : Int) := by omega
          have hjn2 : (n : Int) + (j : Int) < ((n + n : Nat) : Int) := by omega
          generalize hy : R k j = y at hc hrr
          have HY := Aside0.mk hy
          clear hy
          go_wp2_with (first | (go_at_call 30; refine (near_any y _ hrr).mono ?_; rintro e w5 ⟨rfl, hb5⟩; have HR5 := Aside0.mk (HRW.out.below hb5); have HB5 := Aside0.mk (below_then HBW.out HBW.out.size hb5); have c5 := HR5.out.cell j (by omega); have f5 := HR5.out.frozen j; clear hb5))
          go_roundw
          case rel =>
           refine ⟨j + 1, by omega, by go_num, ⟨(HR5.out.put j _).congr fun t ht => ?_⟩, ⟨below_set HB5.out (Nat.le_refl _)⟩⟩
           by_cases e : t = j
           ·subst e; rw [if_pos (by omega), if_pos rfl, HY.out]
           ·rw [if_neg e]
            by_cases e2 : t < j
            ·rw [if_pos (by omega), if_pos e2]
            ·rw [if_neg (by omega), if_neg e2]
          case measure => simp [intOf]; omega
         ·obtain rfl : n = j := by omega
          have hap : ∀ v1 (w1' : World), w1'.ownsRow w2.heap.size 38 1 v1 (k + 1) (((List.range k).map fun t => hdr (g t) (n + 1)) ++ [hdr W1.heap.size (n + 1)]) → wr.grownBy w1' v.ownBlock → Bld w1' w2.heap.size v1 (k + 1) (n + 1) (snocF g k W1.heap.size) (tabL (n + 1) (outE l0_1 R n 0)) := fun v1 w1' hown hg => by
           refine ((HL.out.below HBW.out).snoc HRW.out (by simp) (fun q hq => by have := HL.out.lt q hq; omega) HB.out.size hown hg).congr fun q hq => ?_
           by_cases e : q = k
           ·subst e
            rw [snocF_k]
            refine List.map_congr_left fun t ht => ?_
            unfold outE
            rw [if_neg (Nat.not_lt_zero q)]
           ·rw [snocF_o _ _ _ _ e]
          have HAP := Aside0.mk hap
          have hW := HL.out.below HBW.out
          have HOW := Aside0.mk hW.own
          have HB3 := Aside0.mk (below_then HB.out HB.out.size HBW.out)
          have BQ3 := Aside0.mk (blk_below BQ.out HBW.out)
          have HNE := Aside0.mk (hW.box BQ3.out).1
          have p1 := blk_cell BQ3.out 1
          clear hap hW
          go_wp2_with (first
           | ((with_reducible refine gate_builtin (b := .append) (xs := #[.tmp 100, .tmp 102]) rfl ?_); at_builtin; refine print_append_cells w2.heap.size rfl (.tmp 100) (.tmp 102) 22 38 (.slice none 0 0) 1 24 rfl Tryz.underlying22 info38 rfl (by decide) (by decide) v k ((List.range k).map fun t => hdr (g t) (n + 1)) [hdr W1.heap.size (n + 1)] rfl rfl rfl (by simp [hdr, Value.oneCell']) HOW.out HB3.out HB3.out.size (by omega) ?_; intro v6 w6 ho hb hg hat; obtain ⟨A6, cc6, e6⟩ := (HAP.out v6 w6 ho hg).slice; subst e6; have HO6 := Aside0.mk (HAP.out _ w6 ho hg); have HB6 := Aside0.mk hb; have BQ6 := Aside0.mk (blk_grown BQ3.out hg HNE.out); have c6 := blk_cell BQ6.out 1; have f6 := blk_frozen BQ6.out 1; clear ho hb hg hat))
          go_roundw
          case rel => exact ⟨k + 1, snocF g k W1.heap.size, _, by omega, by go_num, ⟨HO6.out.far (HO6.out.box BQ6.out).1 (HO6.out.box BQ6.out).2 _⟩, ⟨blk_put (cs := #[.int .i64 (n : Int), v]) BQ6.out 1 _ rfl⟩, ⟨below_set HB6.out (Nat.le_refl _)⟩⟩
          case measure => simp [intOf]; omega
       ·obtain rfl : n = k := by omega
        go_wp2
        go_loopw [107] (fun i wr => ∃ m : Nat, m ≤ n ∧ i = .int .i64 m ∧ Aside0 (Bld wr w2.heap.size v n (n + 1) g (tabL (n + 1) (outE l0_1 R n m))) ∧ Aside0 (wr.heap[w2.heap.size]? = some (.cells #[.int .i64 (n : Int), v] 24 (0, 0))) ∧ Aside0 (Below w2.heap.size w2 wr)) (fun i _ => n - (intOf i).toNat)
        case atStart => exact ⟨0, Nat.zero_le _, rfl, HL, BQ, HB⟩
        case round =>
         clear HL BQ HB
         obtain ⟨m, hmn, rfl, HL, BQ, HB⟩ := hrel
         obtain ⟨W3, hW3⟩ : ∃ W, W = wr := ⟨_, rfl⟩
         subst hW3
         by_cases hmt : m < n
         ·obtain ⟨go, co, e7, ho7⟩ := HL.out.outer m hmt
          subst e7
          go_wp2
          go_loopw [15, 111] (fun sv i wq => ∃ (j : Nat) (s : Int), j ≤ n ∧ i = .int .i64 j ∧ sv = .int .i64 s ∧ Aside0 (s = -(sumN j fun u => nearS (R m u) * mE l0_1 u n)) ∧ -((j : Int) * 1000000000000) ≤ s ∧ s ≤ (j : Int) * 1000000000000 ∧ Aside0 (Below W3.heap.size W3 wq)) (fun _ i _ => n - (intOf i).toNat)
          case atStart => exact ⟨0, 0, Nat.zero_le _, rfl, rfl, ⟨rfl⟩, by omega, by omega, ⟨Below.refl _ _⟩⟩
          case round =>
           obtain ⟨j, s, hj, rfl, rfl, HSUM, hs1, hs2, HBW⟩ := hrel
           by_cases hjt : j < n
           ·obtain ⟨ad, A0, c0, e, hx, hl, hi⟩ := at_L1 HR.out j (by omega) (by have := HLEN.out; omega)
            obtain ⟨hrn, hsm⟩ := rightB_row HRT.out j (by have := HLEN.out; omega)
            cases e
            rw [Int.toNat_natCast] at hx
            obtain ⟨ad2, e2, hc⟩ := at_int hi n (by omega)
            cases e2
            have hy := hsm n (by omega)
            have hin := HL.out.inner m j hmt (by omega)
            rw [tabL_ent (by omega)] at hin
            unfold outE at hin
            rw [if_pos hjt] at hin
            have hmE : mE l0_1 j n = (rd_L1 l0_1 j).getD n 0 := rfl
            have hcl : n < (rd_L1 l0_1 j).length := by omega
            have hjl : (j : Int) < (l0_1.length : Int) := by have := HLEN.out; omega
            generalize hxx : nearS (R m j) = x at hin
            generalize hyy : (rd_L1 l0_1 j).getD n 0 = y at hc hy hmE
            have HXX := Aside0.mk hxx
            have HME := Aside0.mk hmE
            have fact : ∀ W, Below W3.heap.size W3 W → W.cell? ⟨w2.heap.size, 1, none⟩ = some (.slice (some ⟨go, 0, none⟩) n co) ∧ W.cell? ⟨go, m, none⟩ = some (.slice (some ⟨g m, 0, none⟩) (n + 1) (n + 1)) ∧ W.cell? ⟨g m, j, none⟩ = some (.int .i64 x) ∧ W.cell? ⟨w.heap.size, 1, none⟩ = some (.slice (some ad) l0_1.length c0_1) ∧ W.cell? (ad.add j) = some (.slice (some ad2) (rd_L1 l0_1 j).length c0) ∧ W.cell? (ad2.add n) = some (.int .i64 y) := fun W hW => by
             have h2 := below_then HB.out HB.out.size hW
             have h0 := below_then HB2.out HB2.out.size h2
             refine ⟨(blk_cell (blk_below BQ.out hW) 1).trans rfl, (hW.cell (World.block_lt_of_cell? W3 _ ho7)).trans ho7, (hW.cell (World.block_lt_of_cell? W3 _ hin)).trans hin, (blk_cell (blk_below B02.out h2) 1).trans rfl, (h0.cell (World.block_lt_of_cell? w _ hx)).trans hx, (h0.cell (World.block_lt_of_cell? w _ hc)).trans hc⟩
            have FACT := Aside0.mk fact
            obtain ⟨z1, z2, z3, z4, z5, z6⟩ := fact wr HBW.out
            clear hx hc hin hi hl hrn hsm fact hxx hyy hmE
            have hsmall := small_any x
            cases hsb : smallB x with
            | false =>
             rw [hsb] at hsmall
             have HNG : Aside0 (¬ ∃ C, Good n l0_1 C) := ⟨fun ⟨C, hC⟩ => by
              have e1 := good_near HUND.out.hR HUND.out.hMR hC m j hmt hjt
              have e2 := right_small hC.right m j (by rw [hC.len]; exact hmt) (by omega)
              rw [← e1, HXX.out] at e2
              simp [smallB] at hsb
              omega⟩
             have HSM := Aside0.mk hsmall
             clear hsmall hsb
             go_wp2_with (first | (go_at_call 31; refine (HSM.out _).mono ?_; rintro e w5 ⟨rfl, hb5⟩; have HBE := Aside0.mk (below_then HB2.out HB2.out.size (below_then (below_then HB.out HB.out.size HBW.out) (below_then HB.out HB.out.size HBW.out).size hb5)); have B1E := Aside0.mk (blk_below B12.out (below_then (below_then HB.out HB.out.size HBW.out) (below_then HB.out HB.out.size HBW.out).size hb5)); have q0 := blk_cell B1E.out 0; have q1 := blk_cell B1E.out 1; have f0 := blk_frozen B1E.out 0; have f1 := blk_frozen B1E.out 1; clear hb5))
             have HS2 : Aside0 ((0, [], 4) = (r1, r2, r3)) := ⟨by rw [← HS.out]; exact (invertS_none HRT.out HLEN.out HNG.out).symm⟩
             have e := HS2.out
             simp only [Prod.mk.injEq] at e
             obtain ⟨rfl, rfl, rfl⟩ := e
             refine bodyPost_ret (results_ct rfl _ _ (w.heap.size + 1) 24 #[.int .i64 0, .slice none 0 0] (0, 0) _ rfl (blk_put (cs := #[.int .i64 0, .slice none 0 0]) (blk_put (cs := #[.int .i64 0, .slice none 0 0]) B1E.out 0 _ rfl) 1 _ rfl) Tryz.underlying24 rfl (by kernel_rfl)) rfl ?_
             exact ⟨_, rfl, Kd.S_nil _ _ _ _ _, below_set (below_set HBE.out (by omega)) (by omega)⟩
            | true =>
             rw [hsb] at hsmall
             have hxb : -1000000 ≤ x ∧ x ≤ 1000000 := by simpa [smallB] using hsb
             have hpr := mul_bound hxb hy (by omega)
             have hw1 : wrap64 (x * y) = x * y := by unfold wrap64; omega
             have hw2 : wrap64 (s - x * y) = s - x * y := by unfold wrap64; omega
             have HSM := Aside0.mk hsmall
             have HPR := Aside0.mk hpr
             clear hsmall hsb hpr
             go_wp2_with (first | (go_at_call 31; refine (HSM.out _).mono ?_; rintro e w5 ⟨rfl, hb5⟩; have HB5 := Aside0.mk (below_then HBW.out HBW.out.size hb5); obtain ⟨y1, y2, y3, y4, y5, y6⟩ := FACT.out w5 HB5.out; clear z1 z2 z3 z4 z5 z6 hb5))
             go_quiet (fail)
             go_wp2
             go_roundw
             case rel =>
              refine ⟨j + 1, s - x * y, by omega, by go_num, ?_, ⟨?_⟩, ?_, ?_, ⟨?_⟩⟩
              ·rw [hw2]
              ·show s - x * y = -(sumN j (fun u => nearS (R m u) * mE l0_1 u n) + nearS (R m j) * mE l0_1 j n)
               rw [HXX.out, HME.out, HSUM.out]; omega
              ·have := HPR.out; omega
              ·have := HPR.out; omega
              ·exact pw_below_drewN HB5.out _
             case measure => simp [intOf]; omega
           ·obtain rfl : n = j := by omega
            have hput := (HL.out.below HBW.out)
            have hin := hput.inner m n hmt (by omega)
            have hfz := hput.innerF m n hmt
            have z1 : wr.cell? ⟨w2.heap.size, 1, none⟩ = some (.slice (some ⟨go, 0, none⟩) n co) := (blk_cell (blk_below BQ.out HBW.out) 1).trans rfl
            have z2 := (HBW.out.cell (World.block_lt_of_cell? W3 _ ho7)).trans ho7
            have HPUT := Aside0.mk (hput.put m n hmt s)
            have hgm := hput.lo m hmt
            have HBX := Aside0.mk (blk_far (p := ⟨g m, n, none⟩) (blk_below BQ.out HBW.out) (fun e => (hput.box (blk_below BQ.out HBW.out)).2 m hmt e.symm) (.int .i64 s))
            have HBB := Aside0.mk (below_set (g := g m) (j := n) (v := .int .i64 s) (below_then HB.out HB.out.size HBW.out) hgm)
            have hnn : (n : Int) < ((n + 1 : Nat) : Int) := by omega
            clear hput
            go_wp2
            go_roundw
            case rel =>
             refine ⟨m + 1, by omega, by go_num, ⟨HPUT.out.congr fun q hq => ?_⟩, HBX, HBB⟩
             rw [setE_outE hmt q hq, HSUM.out]
            case measure => simp [intOf]; omega
         ·obtain rfl : n = m := by omega
          obtain ⟨A7, c7, e7, hc7, hC7⟩ := HL.out.toC (by omega)
          subst e7
          have hlen7 : (rowsOf n (tabL (n + 1) (outE l0_1 R n n))).length = n := rowsOf_length _ _
          have HO := outE_rows (n := n) (l := l0_1) (R := R)
          have hS7 := HL.out.toS (by omega)
          generalize hO : rowsOf n (tabL (n + 1) (outE l0_1 R n n)) = O at hlen7 HO hS7 hC7
          have HS7 := Aside0.mk hS7
          have HC7 : Aside0 (Kd.C (Kd.slice 2 (Kd.int .i64)) W3 A7 O.length O) := ⟨by rw [hlen7]; exact hC7⟩
          have HBA := Aside0.mk (below_then HB2.out HB2.out.size HB.out)
          have p0 := blk_cell BQ.out 0
          have p1 := blk_cell BQ.out 1
          have B1W := Aside0.mk (blk_below B12.out HB.out)
          have B0W := Aside0.mk (blk_below B02.out HB.out)
          have HOR := Aside0.mk HO
          have HL7 := Aside0.mk hlen7
          have hcr : ∀ b, rightB (n : Int) O = b → Calls Tryz.prog 25 #[.agg #[.int .i64 (n : Int), .slice A7 n c7]] W3 fun e w' => e = .returned (.bool b) ∧ Below W3.heap.size W3 w' := fun b hb => by
           have := affine_Map_right.calls n A7 c7 O b W3 HC7.out (by rw [hlen7]; exact hc7) (by unfold affine_Map_right.f; rw [hb])
           rwa [hlen7] at this
          clear HO hS7 hC7 hlen7
          cases hro : rightB (n : Int) O with
          | false =>
           have HCR := Aside0.mk (hcr false hro)
           have HNG : Aside0 (¬ ∃ C, Good n l0_1 C) := ⟨fun ⟨C, hC⟩ => by
            have e1 := HOR.out.eq_good HUND.out.hR HUND.out.hMR hC
            rw [e1, hC.right] at hro
            exact absurd hro (by decide)⟩
           clear hcr hro
           go_wp2_with (first | (go_at_call 25; refine HCR.out.mono ?_; rintro e w5 ⟨rfl, hb5⟩; have HBE := Aside0.mk (below_then HBA.out HBA.out.size hb5); have B1E := Aside0.mk (blk_below B1W.out hb5); have q0 := blk_cell B1E.out 0; have q1 := blk_cell B1E.out 1; have f0 := blk_frozen B1E.out 0; have f1 := blk_frozen B1E.out 1; clear hb5))
           have HS2 : Aside0 ((0, [], 4) = (r1, r2, r3)) := ⟨by rw [← HS.out]; exact (invertS_none HRT.out HLEN.out HNG.out).symm⟩
           have e := HS2.out
           simp only [Prod.mk.injEq] at e
           obtain ⟨rfl, rfl, rfl⟩ := e
           refine bodyPost_ret (results_ct rfl _ _ (w.heap.size + 1) 24 #[.int .i64 0, .slice none 0 0] (0, 0) _ rfl (blk_put (cs := #[.int .i64 0, .slice none 0 0]) (blk_put (cs := #[.int .i64 0, .slice none 0 0]) B1E.out 0 _ rfl) 1 _ rfl) Tryz.underlying24 rfl (by kernel_rfl)) rfl ?_
           exact ⟨_, rfl, Kd.S_nil _ _ _ _ _, below_set (below_set HBE.out (by omega)) (by omega)⟩
          | true =>
           have HCR := Aside0.mk (hcr true hro)
           have HRO := Aside0.mk hro
           have hlnn : l0_1.length ≤ c0_1 := HD.out
           clear hcr hro
           have hcc : ∀ x : Int × List (List Int) × Int, composeS n O n l0_1 = x → ∀ W, Below W3.heap.size W3 W → Calls Tryz.prog 9 #[.agg #[.int .i64 (n : Int), .slice A7 n c7], .agg #[.int .i64 (n : Int), .slice A0_1 l0_1.length c0_1]] W fun e w' => ∃ v1_ : Value, e = .returned (.tuple #[.agg #[.int .i64 x.1, v1_], .int .i64 x.2.2]) ∧ Kd.S (Kd.slice 2 (Kd.int .i64)) 38 w' W.heap.size (fun _ => True) v1_ x.2.1 ∧ Below W.heap.size W w' := fun x hx W hW => by
            obtain ⟨kk, hkk⟩ := compose_eval (n : Int) O (n : Int) l0_1
            rw [hx] at hkk
            have := affine_Compose.calls kk n A7 c7 O n A0_1 c0_1 l0_1 x.1 x.2.1 x.2.2 W (Kd.C_below HC7.out hW) (by rw [HL7.out]; exact hc7) (Kd.C_below HR.out (below_then HBA.out HBA.out.size hW)) HD.out hkk
            rwa [HL7.out] at this
           have hcomp : composeS (n : Int) O (n : Int) l0_1 = if rightB (n : Int) (O.map (compRow l0_1 n)) = true then ((n : Int), O.map (compRow l0_1 n), 0) else (0, [], 2) := by
            unfold composeS
            rw [if_pos ⟨HRO.out, HRT.out⟩, if_pos (by have := HLEN.out; omega), Int.toNat_natCast]
           cases hrc : rightB (n : Int) (O.map (compRow l0_1 n)) with
           | false =>
            have HNG : Aside0 (¬ ∃ C, Good n l0_1 C) := ⟨fun ⟨C, hC⟩ => by
             have e1 := HOR.out.eq_good HUND.out.hR HUND.out.hMR hC
             rw [e1, (hC.compose HLEN.out).2] at hrc
             exact absurd hrc (by decide)⟩
            rw [hrc] at hcomp
            have HCC := Aside0.mk (hcc _ hcomp)
            clear hcc hcomp hrc
            go_wp2_with (first
             | (go_at_call 25; refine HCR.out.mono ?_; rintro e w5 ⟨rfl, hb5⟩; have HB5 := Aside0.mk hb5; have BQ5 := blk_below BQ.out hb5; have B05 := blk_below B0W.out hb5; have o0 := blk_cell BQ5 0; have o1 := blk_cell BQ5 1; have m0 := blk_cell B05 0; have m1 := blk_cell B05 1; clear p0 p1 BQ5 B05 hb5)
             | (go_at_call 9; refine (HCC.out _ HB5.out).mono ?_; rintro e w6 ⟨vc, rfl, hSc, hb6⟩; obtain ⟨Ac, cc, ec, hlc, hCc⟩ := Kd.R_reads (Kd.S_R hSc); subst ec; have HB7 := Aside0.mk (below_then HB5.out HB5.out.size hb6); clear hSc hb6 hlc hCc o0 o1 m0 m1; have HBE := Aside0.mk (below_then HBA.out HBA.out.size (below_alloc HB7.out (.cells #[.int .i64 0, .slice Ac 0 cc] 24))); have B1E := Aside0.mk (blk_below B1W.out (below_alloc HB7.out (.cells #[.int .i64 0, .slice Ac 0 cc] 24))); have q0 := blk_cell B1E.out 0; have q1 := blk_cell B1E.out 1; have f0 := blk_frozen B1E.out 0; have f1 := blk_frozen B1E.out 1))
            have HS2 : Aside0 ((0, [], 4) = (r1, r2, r3)) := ⟨by rw [← HS.out]; exact (invertS_none HRT.out HLEN.out HNG.out).symm⟩
            have e := HS2.out
            simp only [Prod.mk.injEq] at e
            obtain ⟨rfl, rfl, rfl⟩ := e
            refine bodyPost_ret (results_ct rfl _ _ (w.heap.size + 1) 24 #[.int .i64 0, .slice none 0 0] (0, 0) _ rfl (blk_put (cs := #[.int .i64 0, .slice none 0 0]) (blk_put (cs := #[.int .i64 0, .slice none 0 0]) B1E.out 0 _ rfl) 1 _ rfl) Tryz.underlying24 rfl (by kernel_rfl)) rfl ?_
            exact ⟨_, rfl, Kd.S_nil _ _ _ _ _, below_set (below_set HBE.out (by omega)) (by omega)⟩
           | true =>
            rw [hrc] at hcomp
            obtain ⟨OC, hOC⟩ : ∃ OC, OC = O.map (compRow l0_1 n) := ⟨_, rfl⟩
            rw [if_pos rfl, ← hOC] at hcomp
            have HCC := Aside0.mk (hcc _ hcomp)
            have HOC := Aside0.mk hOC
            clear hcc hcomp hrc hOC
            have hsame : ∀ b, sameB OC = b → ∀ (W : World) (A : Option Addr) (c : Nat), Kd.C (Kd.slice 2 (Kd.int .i64)) W A OC.length OC → OC.length ≤ c → Calls Tryz.prog 32 #[.agg #[.int .i64 (n : Int), .slice A OC.length c]] W fun e w' => e = .returned (.bool b) ∧ Below W.heap.size W w' := fun b hb W A c h1 h2 =>
             affine_Map_same.calls n A c OC b W h1 h2 (by unfold affine_Map_same.f; rw [hb])
            cases hsb : sameB OC with
            | false =>
             have HNG : Aside0 (¬ ∃ C, Good n l0_1 C) := ⟨fun ⟨C, hC⟩ => by
              have e1 := HOR.out.eq_good HUND.out.hR HUND.out.hMR hC
              rw [HOC.out, e1, (hC.compose HLEN.out).1] at hsb
              exact absurd hsb (by decide)⟩
             have HSM := Aside0.mk (hsame false hsb)
             clear hsame hsb
             go_wp2_with (first
              | (go_at_call 25; refine HCR.out.mono ?_; rintro e w5 ⟨rfl, hb5⟩; have HB5 := Aside0.mk hb5; have BQ5 := blk_below BQ.out hb5; have B05 := blk_below B0W.out hb5; have o0 := blk_cell BQ5 0; have o1 := blk_cell BQ5 1; have m0 := blk_cell B05 0; have m1 := blk_cell B05 1; clear p0 p1 BQ5 B05 hb5)
              | (go_at_call 9; refine (HCC.out _ HB5.out).mono ?_; rintro e w6 ⟨vc, rfl, hSc, hb6⟩; obtain ⟨Ac, cc, ec, hlc, hCc⟩ := Kd.R_reads (Kd.S_R hSc); subst ec; have HCL := Aside0.mk hlc; have HCD := Aside0.mk hCc; have HB6 := Aside0.mk (below_then HB5.out HB5.out.size hb6); clear hSc hb6 hlc hCc o0 o1 m0 m1)
              | (go_at_call 32; refine (HSM.out _ _ _ (Kd.C_below HCD.out (below_alloc (Below.refl _ _) _)) HCL.out).mono ?_; rintro e w7 ⟨rfl, hb7⟩; have HB7 := Aside0.mk (below_then (below_alloc HB6.out _) (below_alloc HB6.out _).size hb7); have HBE := Aside0.mk (below_then HBA.out HBA.out.size HB7.out); have B1E := Aside0.mk (blk_below B1W.out HB7.out); have q0 := blk_cell B1E.out 0; have q1 := blk_cell B1E.out 1; have f0 := blk_frozen B1E.out 0; have f1 := blk_frozen B1E.out 1; clear hb7))
             have HS2 : Aside0 ((0, [], 4) = (r1, r2, r3)) := ⟨by rw [← HS.out]; exact (invertS_none HRT.out HLEN.out HNG.out).symm⟩
             have e := HS2.out
             simp only [Prod.mk.injEq] at e
             obtain ⟨rfl, rfl, rfl⟩ := e
             refine bodyPost_ret (results_ct rfl _ _ (w.heap.size + 1) 24 #[.int .i64 0, .slice none 0 0] (0, 0) _ rfl (blk_put (cs := #[.int .i64 0, .slice none 0 0]) (blk_put (cs := #[.int .i64 0, .slice none 0 0]) B1E.out 0 _ rfl) 1 _ rfl) Tryz.underlying24 rfl (by kernel_rfl)) rfl ?_
             exact ⟨_, rfl, Kd.S_nil _ _ _ _ _, below_set (below_set HBE.out (by omega)) (by omega)⟩
            | true =>
             have HSB := Aside0.mk hsb
             have HSM := Aside0.mk (hsame true hsb)
             clear hsame hsb
             go_wp2_with (first
              | (go_at_call 25; refine HCR.out.mono ?_; rintro e w5 ⟨rfl, hb5⟩; have HB5 := Aside0.mk hb5; have BQ5 := blk_below BQ.out hb5; have B05 := blk_below B0W.out hb5; have o0 := blk_cell BQ5 0; have o1 := blk_cell BQ5 1; have m0 := blk_cell B05 0; have m1 := blk_cell B05 1; clear p0 p1 BQ5 B05 hb5)
              | (go_at_call 9; refine (HCC.out _ HB5.out).mono ?_; rintro e w6 ⟨vc, rfl, hSc, hb6⟩; obtain ⟨Ac, cc, ec, hlc, hCc⟩ := Kd.R_reads (Kd.S_R hSc); subst ec; have HCL := Aside0.mk hlc; have HCD := Aside0.mk hCc; have HB6 := Aside0.mk (below_then HB5.out HB5.out.size hb6); clear hSc hb6 hlc hCc o0 o1 m0 m1)
              | (go_at_call 32; refine (HSM.out _ _ _ (Kd.C_below HCD.out (below_alloc (Below.refl _ _) _)) HCL.out).mono ?_; rintro e w7 ⟨rfl, hb7⟩; have HB7 := Aside0.mk (below_then (below_alloc HB6.out _) (below_alloc HB6.out _).size hb7); have HBE := Aside0.mk (below_then HBA.out HBA.out.size HB7.out); have B1E := Aside0.mk (blk_below B1W.out HB7.out); have q0 := blk_cell B1E.out 0; have q1 := blk_cell B1E.out 1; have f0 := blk_frozen B1E.out 0; have f1 := blk_frozen B1E.out 1; have BQ7 := Aside0.mk (blk_below BQ.out HB7.out); have o0 := blk_cell BQ7.out 0; have o1 := blk_cell BQ7.out 1; clear hb7))
             have hgood := HOR.out.good HUND.out.hMR HLEN.out HRO.out (by rw [← HOC.out]; exact HSB.out)
             have e := HS.out
             rw [invertS_good HRT.out HLEN.out hgood] at e
             simp only [Prod.mk.injEq] at e
             obtain ⟨rfl, rfl, rfl⟩ := e
             refine bodyPost_ret (results_ct rfl _ _ (w.heap.size + 1) 24 #[.int .i64 (n : Int), .slice A7 n c7] (0, 0) _ rfl (blk_put (cs := #[.int .i64 (n : Int), .slice none 0 0]) (blk_put (cs := #[.int .i64 0, .slice none 0 0]) B1E.out 0 _ rfl) 1 _ rfl) Tryz.underlying24 rfl (by kernel_rfl)) rfl ?_
             refine ⟨_, rfl, ?_, below_set (below_set HBE.out (by omega)) (by omega)⟩
             have b7 := (HL.out.lower HB2.out.size).below HB7.out
             have b8 := b7.far (p := ⟨w.heap.size + 1, 0, none⟩) (b7.box B1E.out).1 (b7.box B1E.out).2 (.int .i64 (n : Int))
             have x8 := blk_put (cs := #[.int .i64 0, .slice none 0 0]) B1E.out 0 (.int .i64 (n : Int)) rfl
             have b9 := b8.far (p := ⟨w.heap.size + 1, 1, none⟩) (b8.box x8).1 (b8.box x8).2 (.slice A7 n c7)
             have h := b9.toS (by omega)
             rw [hO] at h
             exact h
  ·have hb1 : ((l0_1.length : Int) == (n : Int)) = false := beq_eq_false_iff_ne.2 (by omega)
   have hb2 : ((l0_1.length : Int) != (n : Int)) = true := by rw [bne_iff_ne]; omega
   have HS2 : Aside0 ((0, [], 1) = (r1, r2, r3)) := ⟨by rw [← HS.out]; unfold invertS; rw [HRT.out, if_pos rfl, if_neg (by omega)]⟩
   clear hlen d0 d1
   go_enter Tryz.func14, Tryz.ntmps14
   go_wp2_with (first | (go_at_call 25; refine (HC.out _ HW2.out.symm).mono ?_; rintro e w1 ⟨rfl, hb1⟩; have HB1 := Aside0.mk (below_then HB0.out HB0.out.size hb1); have B0 := Aside0.mk (blk_below BB0.out hb1); have B1 := Aside0.mk (blk_below BB1.out hb1); have p0 := blk_cell B0.out 0; have p1 := blk_cell B0.out 1; have q0 := blk_cell B1.out 0; have q1 := blk_cell B1.out 1; have f0 := blk_frozen B1.out 0; have f1 := blk_frozen B1.out 1; clear hb1))
   have e := HS2.out
   simp only [Prod.mk.injEq] at e
   obtain ⟨rfl, rfl, rfl⟩ := e
   refine bodyPost_ret (results_ct rfl _ _ (w.heap.size + 1) 24 #[.int .i64 0, .slice none 0 0] (0, 0) _ rfl (blk_put (cs := #[.int .i64 0, .slice none 0 0]) (blk_put (cs := #[.int .i64 0, .slice none 0 0]) B1.out 0 _ rfl) 1 _ rfl) Tryz.underlying24 rfl (by kernel_rfl)) rfl ?_
   exact ⟨_, rfl, Kd.S_nil _ _ _ _ _, below_set (below_set HB1.out (by omega)) (by omega)⟩
end Go.Proofs.YtcefaofknaeaeaaGreatDoor.X
