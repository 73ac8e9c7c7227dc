/- demotic/affine.Apply: what a map takes numbers to: its contract, over those of plus and value. -/
import Derived.Test.YtcefaofknaeaeaaGreatDoorComHRight
import Derived.Laws.BitsLemmas
import Derived.StillTailTactics
import Derived.Deep.QuietTactic
import Derived.BigQuiet
import Derived.Outline
set_option linter.unusedVariables false
set_option linter.unusedSimpArgs false
namespace Go.Proofs.YtcefaofknaeaeaaGreatDoor.X
open Go.RowKit Go.Proofs.YtcefaofknaeaeaaGreatDoorW.PrintWords Go.Proofs.YtcefaofknaeaeaaGreatDoorW.PrintLast Go.Proofs.YtcefaofknaeaeaaGreatDoorW.PrintMore
theorem and_low (n : Int) : bits .and .i64 n 4294967295 = n % 4294967296 := by
 have hm : (BitVec.ofInt 64 4294967295).toNat = 2 ^ 32 - 1 := by decide
 have key : (BitVec.ofInt 64 n &&& BitVec.ofInt 64 4294967295).toNat = (n % ((2 ^ 64 : Nat) : Int)).toNat % 2 ^ 32 := by
  rw [BitVec.toNat_and, BitVec.toNat_ofInt, hm, Nat.and_two_pow_sub_one_eq_mod]
 show IntKind.i64.wrap ((BitVec.ofInt 64 n &&& BitVec.ofInt 64 4294967295).toNat : Nat) = n % 4294967296
 rw [key, IntKind.wrap_i64]
 omega
theorem or_parts (h l : Int) (hh : -2147483648 ≤ h ∧ h < 2147483648) (hl : 0 ≤ l ∧ l < 4294967296) : bits .or .i64 (h * 4294967296) l = h * 4294967296 + l := by
 have e1 : (BitVec.ofInt 64 (h * 4294967296)).toNat = (h % 4294967296).toNat <<< 32 := by
  rw [BitVec.toNat_ofInt, Nat.shiftLeft_eq]
  omega
 have e2 : (BitVec.ofInt 64 l).toNat = l.toNat := by
  rw [BitVec.toNat_ofInt]
  omega
 have key : (BitVec.ofInt 64 (h * 4294967296) ||| BitVec.ofInt 64 l).toNat = (h % 4294967296).toNat * 4294967296 + l.toNat := by
  rw [BitVec.toNat_or, e1, e2, ← Nat.shiftLeft_add_eq_or_of_lt (show l.toNat < 2 ^ 32 by omega), Nat.shiftLeft_eq]
 show IntKind.i64.wrap ((BitVec.ofInt 64 (h * 4294967296) ||| BitVec.ofInt 64 l).toNat : Nat) = _
 rw [key, IntKind.wrap_i64]
 omega
def hiP (h l a x : Int) : Int := h + a * (x / 4294967296) + (l + a * (x % 4294967296)) / 4294967296
def loP (l a x : Int) : Int := (l + a * (x % 4294967296)) % 4294967296
theorem hilo (h l a x : Int) : hiP h l a x * 4294967296 + loP l a x = h * 4294967296 + l + a * x := by
 unfold hiP loP
 have e1 := Int.mul_ediv_add_emod (l + a * (x % 4294967296)) 4294967296
 have e2 := Int.mul_ediv_add_emod x 4294967296
 have e3 : a * x = a * (x / 4294967296) * 4294967296 + a * (x % 4294967296) := by
  conv => lhs; rw [← e2]
  grind
 rw [e3]
 grind
theorem mul_bound {a x b : Int} (ha : -1000000 ≤ a ∧ a ≤ 1000000) (hx : -b ≤ x ∧ x ≤ b) (hb : 0 ≤ b) : -(1000000 * b) ≤ a * x ∧ a * x ≤ 1000000 * b := by
 have h1 : a * x ≤ 1000000 * b := by
  rcases Int.le_total 0 a with h | h
  ·have : a * x ≤ a * b := Int.mul_le_mul_of_nonneg_left hx.2 h
   have : a * b ≤ 1000000 * b := Int.mul_le_mul_of_nonneg_right ha.2 hb
   omega
  ·have : a * x ≤ a * (-b) := Int.mul_le_mul_of_nonpos_left h hx.1
   have e : a * (-b) = (-a) * b := by rw [Int.mul_neg, Int.neg_mul]
   have : (-a) * b ≤ 1000000 * b := Int.mul_le_mul_of_nonneg_right (by omega) hb
   omega
 have h2 : -(a * x) ≤ 1000000 * b := by
  rcases Int.le_total 0 a with h | h
  ·have : a * (-x) ≤ a * b := Int.mul_le_mul_of_nonneg_left (by omega) h
   have : a * b ≤ 1000000 * b := Int.mul_le_mul_of_nonneg_right ha.2 hb
   have e : a * (-x) = -(a * x) := Int.mul_neg _ _
   omega
  ·have h3 : (-a) * x ≤ (-a) * b := Int.mul_le_mul_of_nonneg_left hx.2 (by omega)
   have h4 : (-a) * b ≤ 1000000 * b := Int.mul_le_mul_of_nonneg_right (by omega) hb
   have e : (-a) * x = -(a * x) := Int.neg_mul _ _
   omega
 omega
set_option maxHeartbeats 1000000 in
theorem plus_any (h l a x : Int) (w : World) (hh : -1000000000000000000 ≤ h ∧ h ≤ 1000000000000000000) (hl : 0 ≤ l ∧ l < 4294967296) (ha : -1000000 ≤ a ∧ a ≤ 1000000) (hx : -9223372036854775808 ≤ x ∧ x ≤ 9223372036854775807) :
  Calls Tryz.prog 44 #[.agg #[.int .i64 h, .int .i64 l], .int .i64 a, .int .i64 x] w fun e w' => e = .returned (.agg #[.int .i64 (hiP h l a x), .int .i64 (loP l a x)]) ∧ Below w.heap.size w w' := by
 have b1 := mul_bound (x := x / 4294967296) (b := 2147483648) ha (by omega) (by omega)
 have b2 := mul_bound (x := x % 4294967296) (b := 4294967296) ha (by omega) (by omega)
 have e1 : wrap64 (a * (x / 4294967296)) = a * (x / 4294967296) := by unfold wrap64; omega
 have e2 : wrap64 (a * (x % 4294967296)) = a * (x % 4294967296) := by unfold wrap64; omega
 have e3 : wrap64 (h + a * (x / 4294967296)) = h + a * (x / 4294967296) := by unfold wrap64; omega
 have e4 : wrap64 (l + a * (x % 4294967296)) = l + a * (x % 4294967296) := by unfold wrap64; omega
 have e5 : wrap64 (h + a * (x / 4294967296) + (l + a * (x % 4294967296)) / 4294967296) = hiP h l a x := by unfold hiP wrap64; omega
 have E1 := Aside0.mk e1
 have E2 := Aside0.mk e2
 have E3 := Aside0.mk e3
 have E4 := Aside0.mk e4
 have E5 := Aside0.mk e5
 clear e1 e2 e3 e4 e5 b1 b2 hh hl ha hx
 go_enter Tryz.func44, Tryz.ntmps44
 go_wp2
 refine bodyPost_ret (v := .agg #[.int .i64 (wrap64 (wrap64 (h + wrap64 (a * (x / 4294967296))) + wrap64 (l + wrap64 (a * bits BinOp.and IntKind.i64 x 4294967295)) / 4294967296)), .int .i64 (bits BinOp.and IntKind.i64 (wrap64 (l + wrap64 (a * bits BinOp.and IntKind.i64 x 4294967295))) 4294967295)]) (by simp [results, Tryz.results44, go_sem]) rfl ⟨?_, ?_⟩
 ·rw [and_low, and_low, E1.out, E2.out, E3.out, E4.out, E5.out]; rfl
 ·exact below_alloc (below_alloc (Below.refl _ _) _) _
def valueP (h l : Int) : Int := bits .or .i64 (wrap64 (h * 4294967296)) l
def fitsP (h : Int) : Bool := decide (-2147483648 ≤ h) && decide (h < 2147483648)
theorem valueP_in (h l : Int) (hl : 0 ≤ l ∧ l < 4294967296) (hf : fitsP h = true) : valueP h l = h * 4294967296 + l := by
 simp only [fitsP, Bool.and_eq_true, decide_eq_true_eq] at hf
 unfold valueP
 rw [show wrap64 (h * 4294967296) = h * 4294967296 by unfold wrap64; omega, or_parts h l ⟨hf.1, hf.2⟩ hl]
set_option maxHeartbeats 1000000 in
theorem value_any (h l : Int) (w : World) :
  Calls Tryz.prog 45 #[.agg #[.int .i64 h, .int .i64 l]] w fun e w' => e = .returned (.tuple #[.int .i64 (valueP h l), .bool (fitsP h)]) ∧ Below w.heap.size w w' := by
 by_cases h1 : -2147483648 ≤ h
 ·by_cases h2 : h < 2147483648
  ·have d1 : decide (-2147483648 ≤ h) = true := decide_eq_true h1
   have d2 : decide (h < 2147483648) = true := decide_eq_true h2
   have HF : Aside0 (fitsP h = true) := ⟨by unfold fitsP; rw [d1, d2]; rfl⟩
   have HV : Aside0 (valueP h l = bits .or .i64 (h * 4294967296) l) := ⟨by unfold valueP; rw [show wrap64 (h * 4294967296) = h * 4294967296 by unfold wrap64; omega]⟩
   go_enter Tryz.func45, Tryz.ntmps45
   go_wp2
   go_quiet (fail)
   go_wp2
   go_ret2
   exact ⟨by rw [HF.out, HV.out]; rfl, pw_below_drewN (below_alloc (Below.refl _ _) _) _⟩
  ·have d1 : decide (-2147483648 ≤ h) = true := decide_eq_true h1
   have d2 : decide (h < 2147483648) = false := decide_eq_false h2
   have HF : Aside0 (fitsP h = false) := ⟨by unfold fitsP; rw [d2]; simp⟩
   go_enter Tryz.func45, Tryz.ntmps45
   go_wp2
   go_quiet (fail)
   go_wp2
   go_ret2
   exact ⟨by rw [HF.out]; rfl, pw_below_drewN (below_alloc (Below.refl _ _) _) _⟩
 ·have d1 : decide (-2147483648 ≤ h) = false := decide_eq_false h1
  have HF : Aside0 (fitsP h = false) := ⟨by unfold fitsP; rw [d1]; rfl⟩
  go_enter Tryz.func45, Tryz.ntmps45
  go_wp2
  go_quiet (fail)
  go_wp2
  go_ret2
  exact ⟨by rw [HF.out]; rfl, pw_below_drewN (below_alloc (Below.refl _ _) _) _⟩
def i64B (x : Int) : Bool := decide (-9223372036854775808 ≤ x) && decide (x ≤ 9223372036854775807)
theorem i64B_iff {x : Int} : i64B x = true ↔ -9223372036854775808 ≤ x ∧ x ≤ 9223372036854775807 := by simp [i64B]
def dotN (r x : List Int) : Nat → Int
 | 0 => 0
 | i + 1 => dotN r x i + r.getD i 0 * x.getD i 0
def rowSum (x r : List Int) : Int := r.getD x.length 0 + dotN r x x.length
def applyS (d : Int) (l : List (List Int)) (x : List Int) : List Int × Int :=
 if rightB d l = true then
  if (x.length : Int) = d then
   if (l.map (rowSum x)).all i64B = true then (l.map (rowSum x), 0) else ([], 2)
  else ([], 1)
 else ([], 190)
def affine_Apply.f (a0_0 : Int) (l0_1 : List (List Int)) (l1 : List Int) : Option (List Int × Int) := if l1.all i64B = true then some (applyS a0_0 l0_1 l1) else none
theorem plus_bound {h l a x : Int} (hl : 0 ≤ l ∧ l < 4294967296) (ha : -1000000 ≤ a ∧ a ≤ 1000000) (hx : -9223372036854775808 ≤ x ∧ x ≤ 9223372036854775807) :
  h - 2200000000000000 ≤ hiP h l a x ∧ hiP h l a x ≤ h + 2200000000000000 ∧ 0 ≤ loP l a x ∧ loP l a x < 4294967296 := by
 have b1 := mul_bound (x := x / 4294967296) (b := 2147483648) ha (by omega) (by omega)
 have b2 := mul_bound (x := x % 4294967296) (b := 4294967296) ha (by omega) (by omega)
 unfold hiP loP
 omega
theorem rightB_dims {d : Int} {l : List (List Int)} (h : rightB d l = true) : 0 ≤ d ∧ d ≤ 6 ∧ l.length ≤ 6 := by
 simp only [rightB, Bool.and_eq_true, decide_eq_true_eq] at h
 exact ⟨h.1.1.1, h.1.1.2, h.1.2⟩
theorem rightB_row {d : Int} {l : List (List Int)} (h : rightB d l = true) (k : Nat) (hk : k < l.length) : ((rd_L1 l k).length : Int) = d + 1 ∧ ∀ j : Nat, j < (rd_L1 l k).length → -1000000 ≤ (rd_L1 l k).getD j 0 ∧ (rd_L1 l k).getD j 0 ≤ 1000000 := by
 obtain ⟨h0, h1, h2⟩ := rightB_dims h
 rw [rightB_rows h0 h1 h2, List.all_eq_true] at h
 have := h _ (List.getElem_mem hk)
 rw [← rd_L1_at hk] at this
 simp only [rowB, Bool.and_eq_true, decide_eq_true_eq, List.all_eq_true] at this
 refine ⟨this.1, fun j hj => ?_⟩
 have h3 := this.2 _ (List.getElem_mem hj)
 rw [getD_lt hj]
 simpa [smallB] using h3
set_option maxHeartbeats 4000000 in
set_option maxRecDepth 100000 in
theorem affine_Apply.calls (a0_0 : Int) (A0_1 : Option Addr) (c0_1 : Nat) (l0_1 : List (List Int)) (A1 : Option Addr) (c1 : Nat) (l1 : List Int) (r1 : List Int) (r2 : Int) (w : World) (hr0_1 : Kd.C (Kd.slice 2 (Kd.int .i64)) w A0_1 l0_1.length l0_1) (hc0_1 : l0_1.length ≤ c0_1) (hr1 : Kd.C (Kd.int .i64) w A1 l1.length l1) (hc1 : l1.length ≤ c1) (h : affine_Apply.f a0_0 l0_1 l1 = some (r1, r2)) :
  Calls Tryz.prog 24 #[.agg #[.int .i64 a0_0, .slice A0_1 l0_1.length c0_1], .slice A1 l1.length c1] w fun e w' => ∃ v0_ : Value, e = .returned (.tuple #[v0_, .int .i64 r2]) ∧ Kd.R (Kd.int .i64) 2 w' w.heap.size (fun _ => True) v0_ r1 ∧ Below w.heap.size w w' := by
 have hm0 : l0_1.length ≤ 9223372036854775807 := hr0_1.2.1
 have hm1 : l1.length ≤ 9223372036854775807 := hr1.2.1
 have HR := Aside0.mk hr0_1
 have HD := Aside0.mk hc0_1
 have HX := Aside0.mk hr1
 unfold affine_Apply.f at h
 split at h
 case isFalse => exact absurd h (by simp)
 case isTrue hall =>
 have HALL := Aside0.mk hall
 have HS : Aside0 (applyS a0_0 l0_1 l1 = (r1, r2)) := ⟨Option.some.inj h⟩
 clear hr0_1 hc0_1 hr1 hc1 h hall
 have HW := Aside0.mk (below_alloc (Below.refl w.heap.size w) (.cells #[.int .i64 a0_0, .slice A0_1 l0_1.length c0_1] 24))
 cases hrt : rightB a0_0 l0_1 with
 | false =>
  have HRT := Aside0.mk hrt
  clear hrt
  have HC := Aside0.mk (affine_Map_right.calls a0_0 A0_1 c0_1 l0_1 false _ (Kd.C_below HR.out HW.out) HD.out (by unfold affine_Map_right.f; rw [HRT.out]))
  go_enter Tryz.func24, Tryz.ntmps24
  go_wp2_with (first | (go_at_call 25; refine HC.out.mono ?_; rintro e w1 ⟨rfl, hb1⟩; have HB1 := Aside0.mk hb1; clear hb1))
  go_ret2
  have e := HS.out
  unfold applyS at e
  rw [HRT.out] at e
  simp only [Bool.false_eq_true, if_false, Prod.mk.injEq] at e
  obtain ⟨rfl, rfl⟩ := e
  exact ⟨_, rfl, Kd.R_nil _ _ _ _ _, HW.out.trans (HB1.out.mono (by simp))⟩
 | true =>
  obtain ⟨d0, d1, d2⟩ := rightB_dims hrt
  have HRT := Aside0.mk hrt
  clear hrt
  have HC := Aside0.mk (affine_Map_right.calls a0_0 A0_1 c0_1 l0_1 true _ (Kd.C_below HR.out HW.out) HD.out (by unfold affine_Map_right.f; rw [HRT.out]))
  by_cases hlen : (l1.length : Int) = a0_0
  ·have hb1 : ((l1.length : Int) == a0_0) = true := beq_iff_eq.2 hlen
   have hb2 : ((l1.length : Int) != a0_0) = false := bne_eq_false_iff_eq.2 hlen
   have HLEN := Aside0.mk hlen
   clear hlen
   go_enter Tryz.func24, Tryz.ntmps24
   go_wp2_with (first | (go_at_call 25; refine HC.out.mono ?_; rintro e w1 ⟨rfl, hb1⟩; have HB1 := Aside0.mk hb1; have BK := blk_below (heap_alloc_new w _) hb1; have q0 := blk_cell BK 0; have q1 := blk_cell BK 1; have BK' := Aside0.mk BK; clear hb1 BK))
   have HB : Aside0 (Below w.heap.size w w1) := ⟨HW.out.trans (HB1.out.mono (by simp))⟩
   clear HB1 HC
   go_loopw [6, 25] (fun v6 i wr => ∃ k : Nat, k ≤ l0_1.length ∧ i = .int .i64 k ∧ Aside0 (Kd.R (Kd.int .i64) 2 wr w.heap.size (fun _ => True) v6 ((l0_1.take k).map (rowSum l1))) ∧ Aside0 (((l0_1.take k).map (rowSum l1)).all i64B = true) ∧ Aside0 (wr.heap[w.heap.size]? = some (.cells #[.int .i64 a0_0, .slice A0_1 l0_1.length c0_1] 24 (0, 0))) ∧ Aside0 (Below w.heap.size w wr)) (fun _ i _ => l0_1.length - (intOf i).toNat)
   case atStart => exact ⟨0, Nat.zero_le _, rfl, ⟨by simpa using Kd.R_nil _ _ _ _ _⟩, ⟨by simp⟩, BK', HB⟩
   case round =>
    clear HB BK' q0 q1
    obtain ⟨k, hk, rfl, HO, HA, BK, HB⟩ := hrel
    by_cases hlt : k < l0_1.length
    ·obtain ⟨ad, A0, c0, e, hx, hl, hi⟩ := at_L1 HR.out k (by omega) (by omega)
     obtain ⟨hn, hsm⟩ := rightB_row HRT.out k hlt
     cases e
     rw [Int.toNat_natCast] at hx
     replace hx := (HB.out.cell (World.block_lt_of_cell? w _ hx)).trans hx
     have hxm : (rd_L1 l0_1 k).length ≤ 9223372036854775807 := hi.2.1
     generalize hrow : rd_L1 l0_1 k = row at hx hl hi hxm hn hsm
     have HROW := Aside0.mk hrow
     have HI := Aside0.mk hi
     have HSM := Aside0.mk hsm
     have hn' : row.length = l1.length + 1 := by have := HLEN.out; omega
     have HN := Aside0.mk hn'
     obtain ⟨ad2, rfl, hc⟩ := at_int HI.out l1.length (by omega)
     replace hc := (HB.out.cell (World.block_lt_of_cell? w _ hc)).trans hc
     have hlast := HSM.out l1.length (by omega)
     generalize hv : row.getD l1.length 0 = v at hc hlast
     have HV := Aside0.mk hv
     have q0 : wr.cell? ⟨w.heap.size, 0, none⟩ = some (.int .i64 a0_0) := (blk_cell BK.out 0).trans rfl
     have hidx : 0 ≤ a0_0 ∧ a0_0 < (row.length : Int) := by omega
     have hc' : wr.cell? (ad2.add a0_0.toNat) = some (.int .i64 v) := by rw [← HLEN.out, Int.toNat_natCast]; exact hc
     clear hrow hi hl hsm hn hn' hv hc
     go_wp2_with (first | (go_at_call 44; refine (plus_any 0 0 1 v _ (by omega) (by omega) (by omega) (by omega)).mono ?_; rintro e w2 ⟨rfl, hb2⟩; have HB2 := Aside0.mk hb2; clear hb2))
     have HO2 : Aside0 (Kd.R (Kd.int .i64) 2 (w2.alloc (.cells #[.int .i64 (hiP 0 0 1 v), .int .i64 (loP 0 1 v)] 68)) w.heap.size (fun _ => True) u6 ((l0_1.take k).map (rowSum l1))) := ⟨Kd.R_alloc (Kd.R_below HO.out HB2.out) _⟩
     have BK2 := Aside0.mk (blk_alloc (blk_below BK.out HB2.out) (.cells #[.int .i64 (hiP 0 0 1 v), .int .i64 (loP 0 1 v)] 68))
     have HBB := Aside0.mk (below_alloc (below_then HB.out HB.out.size HB2.out) (.cells #[.int .i64 (hiP 0 0 1 v), .int .i64 (loP 0 1 v)] 68))
     have BG := Aside0.mk (blk_new w2 (.cells #[.int .i64 (hiP 0 0 1 v), .int .i64 (loP 0 1 v)] 68))
     have hgs : w.heap.size ≤ w2.heap.size := by have h1 := HB.out.size; have h2 := HB2.out.size; omega
     have hv1 := plus_bound (h := 0) (l := 0) (a := 1) (x := v) (by omega) (by omega) (by omega)
     have hv2 := hilo 0 0 1 v
     generalize hiP 0 0 1 v = h0 at *
     generalize loP 0 1 v = l0 at *
     generalize w2.heap.size = gs at *
     generalize w2.alloc (.cells #[.int .i64 h0, .int .i64 l0] 68) = w3 at *
     have HV2 := Aside0.mk hv2
     clear hv2 HO BK HB HB2 q0 hx
     go_loopw [38] (fun i wr => ∃ (j : Nat) (h l : Int), j ≤ l1.length ∧ i = .int .i64 j ∧ -(2200000000000000 * ((j : Int) + 1)) ≤ h ∧ h ≤ 2200000000000000 * ((j : Int) + 1) ∧ 0 ≤ l ∧ l < 4294967296 ∧ Aside0 (h * 4294967296 + l = v + dotN row l1 j) ∧ Aside0 (wr.heap[gs]? = some (.cells #[.int .i64 h, .int .i64 l] 68 (0, 0))) ∧ Aside0 (Kd.R (Kd.int .i64) 2 wr w.heap.size (fun _ => True) u6 ((l0_1.take k).map (rowSum l1))) ∧ Aside0 (wr.heap[w.heap.size]? = some (.cells #[.int .i64 a0_0, .slice (some ad) l0_1.length c0_1] 24 (0, 0))) ∧ Aside0 (Below w.heap.size w wr)) (fun i _ => l1.length - (intOf i).toNat)
     case atStart => exact ⟨0, h0, l0, Nat.zero_le _, rfl, by omega, by omega, hv1.2.2.1, hv1.2.2.2, ⟨by have := HV2.out; simp only [dotN]; omega⟩, BG, HO2, BK2, HBB⟩
     case round =>
      clear HO2 BK2 HBB BG hv1
      obtain ⟨j, h, l, hj, rfl, hh1, hh2, hl1, hl2, HE, BG, HO, BK, HB⟩ := hrel
      have q0 : wr.cell? ⟨gs, 0, none⟩ = some (.int .i64 h) := (blk_cell BG.out 0).trans rfl
      have q1 : wr.cell? ⟨gs, 1, none⟩ = some (.int .i64 l) := (blk_cell BG.out 1).trans rfl
      by_cases hjt : j < l1.length
      ·obtain ⟨ad3, rfl, hy⟩ := at_int HX.out j hjt
       replace hy := (HB.out.cell (World.block_lt_of_cell? w _ hy)).trans hy
       obtain ⟨ad4, e4, hr4⟩ := at_int HI.out j (by have := HN.out; omega)
       cases e4
       replace hr4 := (HB.out.cell (World.block_lt_of_cell? w _ hr4)).trans hr4
       have hry := HSM.out j (by have := HN.out; omega)
       have hyy : -9223372036854775808 ≤ l1.getD j 0 ∧ l1.getD j 0 ≤ 9223372036854775807 := by
        have := List.all_eq_true.1 HALL.out _ (List.getElem_mem hjt)
        rw [getD_lt hjt]; exact i64B_iff.1 this
       have hjr : (j : Int) < (row.length : Int) := by have := HN.out; omega
       generalize hy1 : l1.getD j 0 = y at hy hyy
       generalize hy2 : row.getD j 0 = z at hr4 hry
       have hhb : -1000000000000000000 ≤ h ∧ h ≤ 1000000000000000000 := by have := HLEN.out; omega
       have HY1 := Aside0.mk hy1
       have HY2 := Aside0.mk hy2
       clear hy1 hy2
       go_wp2
       go_still_tail 6, (by kernel_rfl)
       change wpList _ _ _ _ _ wr.drew
       go_wp2_with (first | (go_at_call 44; refine (plus_any h l z y _ hhb ⟨hl1, hl2⟩ hry hyy).mono ?_; rintro e w5 ⟨rfl, hb5⟩; have HB5 := Aside0.mk (below_then (below_drew HB.out) HB.out.size hb5); have BG5 := Aside0.mk (blk_below (blk_drew BG.out) hb5); have p0 := blk_cell BG5.out 0; have p1 := blk_cell BG5.out 1; have f0 := blk_frozen BG5.out 0; have f1 := blk_frozen BG5.out 1; have HO5 := Aside0.mk (Kd.R_below (Kd.R_drew HO.out) hb5); have BK5 := Aside0.mk (blk_below (blk_drew BK.out) hb5); clear hb5))
       go_roundw
       case rel =>
        have hpb := plus_bound (h := h) (l := l) (a := z) (x := y) ⟨hl1, hl2⟩ hry hyy
        have hne : w.heap.size ≠ gs := fun e => by
         have hq := BK5.out
         rw [e, BG5.out] at hq
         injection hq with hq
         injection hq with _ hq
         exact absurd hq (by decide)
        refine ⟨j + 1, hiP h l z y, loP l z y, by omega, by go_num, by omega, by omega, hpb.2.2.1, hpb.2.2.2, ⟨?_⟩, ⟨?_⟩, ⟨?_⟩, ⟨?_⟩, ⟨?_⟩⟩
        ·rw [hilo, HE.out]
         simp only [dotN]
         rw [HY1.out, HY2.out]; omega
        ·exact blk_put (cs := #[.int .i64 (hiP h l z y), .int .i64 l]) (blk_put (cs := #[.int .i64 h, .int .i64 l]) BG5.out 0 _ rfl) 1 _ rfl
        ·exact Kd.R_set (Kd.R_set HO5.out BG5.out (by decide) 0 _) (blk_put (cs := #[.int .i64 h, .int .i64 l]) BG5.out 0 _ rfl) (by decide) 1 _
        ·exact blk_far (blk_far BK5.out hne _) hne _
        ·exact below_set (below_set HB5.out hgs) hgs
       case measure => simp [intOf]; omega
      ·have e : j = l1.length := by omega
       subst e
       have hsum : rowSum l1 row = h * 4294967296 + l := by unfold rowSum; rw [HV.out, HE.out]
       have HSUM := Aside0.mk hsum
       have htk : (l0_1.take (k + 1)).map (rowSum l1) = (l0_1.take k).map (rowSum l1) ++ [h * 4294967296 + l] := by
        rw [List.take_add_one, List.getElem?_eq_getElem hlt, List.map_append]
        rw [rd_L1_at hlt] at HROW
        simp only [Option.toList_some, List.map_cons, List.map_nil]
        rw [HROW.out, hsum]
       have HTK := Aside0.mk htk
       clear hsum htk
       cases hf : fitsP h with
       | false =>
        have hcall := value_any h l
        rw [hf] at hcall
        have HF := Aside0.mk hf
        have HCV := Aside0.mk hcall
        clear hf hcall
        go_wp2_with (first | (go_at_call 45; refine (HCV.out _).mono ?_; rintro e w5 ⟨rfl, hb5⟩; have HB5 := Aside0.mk (below_then HB.out HB.out.size hb5); clear hb5))
        go_ret2
        have e := HS.out
        unfold applyS at e
        have hnot : ((l0_1.map (rowSum l1)).all i64B) = false := by
         rw [List.all_eq_false]
         refine ⟨rowSum l1 row, List.mem_map.2 ⟨row, ?_, rfl⟩, ?_⟩
         ·have := HROW.out
          rw [rd_L1_at hlt] at this
          rw [← this]; exact List.getElem_mem hlt
         ·rw [HSUM.out]
          have hf := HF.out
          simp only [fitsP, Bool.and_eq_false_iff, decide_eq_false_iff_not] at hf
          rw [i64B_iff]; omega
        rw [HRT.out] at e
        simp only [if_true, if_pos HLEN.out, hnot, Bool.false_eq_true, if_false, Prod.mk.injEq] at e
        obtain ⟨rfl, rfl⟩ := e
        exact ⟨_, rfl, Kd.R_nil _ _ _ _ _, HB5.out⟩
       | true =>
        have hcall := value_any h l
        rw [hf, valueP_in h l ⟨hl1, hl2⟩ hf] at hcall
        have HF := Aside0.mk hf
        have HCV := Aside0.mk hcall
        clear hf hcall
        go_wp2_with (first
         | (go_at_call 45; refine (HCV.out _).mono ?_; rintro e w5 ⟨rfl, hb5⟩; have HB5 := Aside0.mk (below_then HB.out HB.out.size hb5); have HO5 := Aside0.mk (Kd.R_below HO.out hb5); have BK5 := Aside0.mk (blk_below BK.out hb5); clear hb5)
         | ((with_reducible refine gate_builtin (b := .append) (xs := #[.tmp 58, .tmp 60]) rfl ?_); at_builtin; refine Kd.R_append (Kd.int .i64) (w0 := w) w.heap.size rfl (.tmp 58) (.tmp 60) 38 2 (.int .i64 0) 8 rfl Tryz.underlying38 info2 rfl (by decide) (by omega) u6 ((l0_1.take k).map (rowSum l1)) (h * 4294967296 + l) [.int .i64 (h * 4294967296 + l)] (fun _ => True) (fun _ => False) rfl rfl ?aP (fun _ hk => hk.elim) ?aF ?aO ?aB ?aS ?aL ?_; (case aP => exact rfl); (case aB => exact HB5.out); (case aF => exact (fun _ _ => trivial)); (case aO => exact HO5.out); (case aS => exact HB5.out.size); (case aL => rw [List.length_map, List.length_take]; omega); intro v6 w6 ho hb hg hat; have HO6 := Aside0.mk ho; have HB6 := Aside0.mk hb; have BK6 := Aside0.mk (blk_grown BK5.out hg (Kd.R_ne HO5.out BK5.out (by decide))); clear ho hb hg hat))
        go_roundw
        case rel =>
         refine ⟨k + 1, by omega, by go_num, ⟨by rw [HTK.out]; exact HO6.out⟩, ⟨?_⟩, BK6, HB6⟩
         rw [HTK.out, List.all_append, HA.out]
         have hf := HF.out
         simp only [fitsP, Bool.and_eq_true, decide_eq_true_eq] at hf
         simp only [List.all_cons, List.all_nil, Bool.and_true, Bool.true_and]
         rw [i64B_iff]; omega
        case measure => simp [intOf]; omega
    ·have e : k = l0_1.length := by omega
     subst e
     have hall : (l0_1.map (rowSum l1)).all i64B = true := by have := HA.out; rwa [List.take_length] at this
     have HALL2 := Aside0.mk hall
     clear hall
     go_wp2
     go_ret2
     have e := HS.out
     unfold applyS at e
     rw [HRT.out] at e
     simp only [if_true, if_pos HLEN.out, if_pos HALL2.out, Prod.mk.injEq] at e
     obtain ⟨rfl, rfl⟩ := e
     refine ⟨_, rfl, ?_, HB.out⟩
     have := HO.out
     rwa [List.take_length] at this
  ·have hb1 : ((l1.length : Int) == a0_0) = false := beq_eq_false_iff_ne.2 hlen
   have hb2 : ((l1.length : Int) != a0_0) = true := by rw [bne_iff_ne]; exact hlen
   have HLEN := Aside0.mk hlen
   clear hlen
   go_enter Tryz.func24, Tryz.ntmps24
   go_wp2_with (first | (go_at_call 25; refine HC.out.mono ?_; rintro e w1 ⟨rfl, hb1⟩; have HB1 := Aside0.mk hb1; have BK := blk_below (heap_alloc_new w _) hb1; have q0 := blk_cell BK 0; have q1 := blk_cell BK 1; clear hb1 BK))
   go_ret2
   have e := HS.out
   unfold applyS at e
   rw [HRT.out] at e
   simp only [if_true, if_neg HLEN.out, Prod.mk.injEq] at e
   obtain ⟨rfl, rfl⟩ := e
   exact ⟨_, rfl, Kd.R_nil _ _ _ _ _, HW.out.trans (HB1.out.mono (by simp))⟩
end Go.Proofs.YtcefaofknaeaeaaGreatDoor.X
