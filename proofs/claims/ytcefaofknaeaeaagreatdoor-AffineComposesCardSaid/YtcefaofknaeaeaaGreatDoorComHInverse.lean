/- (demotic/affine.modulus).inverse at the prime 2147483647: the number that makes 1 with another one. -/
import Derived.Test.YtcefaofknaeaeaaGreatDoorComHMat
import Derived.Test.YtcefaofknaeaeaaGreatDoorComFermat
set_option linter.unusedVariables false
set_option linter.unusedSimpArgs false
namespace Go.Proofs.YtcefaofknaeaeaaGreatDoor.X
open Go.RowKit Go.Proofs.YtcefaofknaeaeaaGreatDoorW.PrintWords Go.Proofs.YtcefaofknaeaeaaGreatDoorW.PrintLast Go.Proofs.YtcefaofknaeaeaaGreatDoorW.PrintMore AffMath
theorem and_bit (n : Int) : bits .and .i64 n 1 = n % 2 := by
 have hm : (BitVec.ofInt 64 1).toNat = 2 ^ 1 - 1 := by decide
 have key : (BitVec.ofInt 64 n &&& BitVec.ofInt 64 1).toNat = (n % ((2 ^ 64 : Nat) : Int)).toNat % 2 ^ 1 := by
  rw [BitVec.toNat_and, BitVec.toNat_ofInt, hm, Nat.and_two_pow_sub_one_eq_mod]
 show IntKind.i64.wrap ((BitVec.ofInt 64 n &&& BitVec.ofInt 64 1).toNat : Nat) = n % 2
 rw [key, IntKind.wrap_i64]
 omega
theorem prod_bound {a b : Int} (ha : 0 ≤ a ∧ a < 2147483647) (hb : 0 ≤ b ∧ b < 2147483647) : 0 ≤ a * b ∧ a * b ≤ 4611686018427387904 := by
 have h1 : 0 ≤ a * b := Int.mul_nonneg ha.1 hb.1
 have h2 : a * b ≤ 2147483648 * 2147483648 := Int.mul_le_mul (by omega) (by omega) hb.1 (by omega)
 omega
theorem tmod_pos {a : Int} (h : 0 ≤ a) : Int.tmod a 2147483647 = a % 2147483647 := Int.tmod_eq_emod_of_nonneg h
def InvPost (x : Int) (w : World) (e : Ending) (w' : World) : Prop := ∃ r : Int, e = .returned (.int .i64 r) ∧ 0 ≤ r ∧ r < 2147483647 ∧ Cg 2147483647 (r * x) 1 ∧ w = w'
def InvRel (x o b : Int) (e : Nat) : Prop := ∃ a c : Nat, Cg 2147483647 o (x ^ a) ∧ Cg 2147483647 b (x ^ c) ∧ a + c * e = 2147483645
theorem InvRel.odd {x o b : Int} {e : Nat} (h : InvRel x o b e) (he : e % 2 = 1) : InvRel x (o * b % 2147483647) (b * b % 2147483647) (e / 2) := by
 obtain ⟨a, c, h1, h2, h3⟩ := h
 refine ⟨a + c, c + c, ?_, ?_, ?_⟩
 ·rw [Int.pow_add]; exact (Cg.emod _).trans (h1.mul h2)
 ·rw [Int.pow_add]; exact (Cg.emod _).trans (h2.mul h2)
 ·have : c * e = (c + c) * (e / 2) + c := by
   conv => lhs; rw [show e = 2 * (e / 2) + 1 by omega]
   rw [Nat.mul_add, ← Nat.mul_assoc, Nat.mul_two]; omega
  omega
theorem InvRel.even {x o b : Int} {e : Nat} (h : InvRel x o b e) (he : e % 2 = 0) : InvRel x o (b * b % 2147483647) (e / 2) := by
 obtain ⟨a, c, h1, h2, h3⟩ := h
 refine ⟨a, c + c, h1, ?_, ?_⟩
 ·rw [Int.pow_add]; exact (Cg.emod _).trans (h2.mul h2)
 ·have : c * e = (c + c) * (e / 2) := by
   conv => lhs; rw [show e = 2 * (e / 2) by omega]
   rw [← Nat.mul_assoc, Nat.mul_two]
  omega
theorem InvRel.done {x o b : Int} (hx : 0 < x ∧ x < 2147483647) (h : InvRel x o b 0) : Cg 2147483647 (o * x) 1 := by
 obtain ⟨a, c, h1, h2, h3⟩ := h
 exact (h1.mul_right x).trans (fermat_mersenne x hx.1 hx.2 a (by omega))
set_option maxHeartbeats 1000000 in
theorem inverse_any (x : Int) (w : World) (hx : 0 < x ∧ x < 2147483647) : Calls Tryz.prog 48 #[.int .i64 2147483647, .int .i64 x] w (InvPost x w) := by
 have hof := of_any x w (by omega)
 rw [Int.emod_eq_of_lt (by omega) hx.2] at hof
 have HOF := Aside0.mk hof
 have HX := Aside0.mk hx
 have hs : InvRel x 1 x 2147483645 := ⟨0, 1, by rw [Int.pow_zero]; exact Cg.refl _, by rw [Int.pow_one]; exact Cg.refl _, by omega⟩
 have HS := Aside0.mk hs
 clear hof hs
 go_enter Tryz.func48, Tryz.ntmps48
 go_wp2_with (first | (go_at_call 28; refine HOF.out.mono ?_; rintro e w' ⟨rfl, rfl⟩))
 go_loop [5, 6, 7] (fun v5 v6 v7 => ∃ (o b : Int) (e : Nat), v5 = .int .i64 o ∧ v6 = .int .i64 b ∧ v7 = .int .i64 e ∧ 0 ≤ o ∧ o < 2147483647 ∧ 0 ≤ b ∧ b < 2147483647 ∧ e ≤ 2147483645 ∧ Aside0 (InvRel x o b e)) (fun _ _ i => (intOf i).toNat)
 case atStart => exact ⟨1, x, 2147483645, rfl, rfl, rfl, by omega, by omega, by omega, by omega, by omega, HS⟩
 case round =>
  clear HS hx
  obtain ⟨o, b, e, rfl, rfl, rfl, ho1, ho2, hb1, hb2, he, HR⟩ := hrel
  have hp1 := prod_bound ⟨ho1, ho2⟩ ⟨hb1, hb2⟩
  have hp2 := prod_bound ⟨hb1, hb2⟩ ⟨hb1, hb2⟩
  have T1 := Aside0.mk (tmod_pos hp1.1)
  have T2 := Aside0.mk (tmod_pos hp2.1)
  have hq1 : 0 ≤ (o * b) % 2147483647 ∧ (o * b) % 2147483647 < 2147483647 := by omega
  have hq2 : 0 ≤ (b * b) % 2147483647 ∧ (b * b) % 2147483647 < 2147483647 := by omega
  by_cases h0 : 0 < e
  ·have hab := and_bit (e : Int)
   rcases Nat.mod_two_eq_zero_or_one e with hm | hm
   ·have hbit : (bits .and .i64 (e : Int) 1 == 1) = false := by rw [hab]; exact beq_eq_false_iff_ne.2 (by omega)
    have HN := Aside0.mk (HR.out.even hm)
    clear hab hm
    go_wp2
    go_round
    case rel => exact ⟨o, b * b % 2147483647, e / 2, rfl, by rw [← T2.out], by go_num, ho1, ho2, hq2.1, hq2.2, by omega, HN⟩
    case measure => simp [intOf]; omega
   ·have hbit : (bits .and .i64 (e : Int) 1 == 1) = true := by rw [hab]; exact beq_iff_eq.2 (by omega)
    have HN := Aside0.mk (HR.out.odd hm)
    clear hab hm
    go_wp2
    go_round
    case rel => exact ⟨o * b % 2147483647, b * b % 2147483647, e / 2, by rw [← T1.out], by rw [← T2.out], by go_num, hq1.1, hq1.2, hq2.1, hq2.2, by omega, HN⟩
    case measure => simp [intOf]; omega
  ·have e0 : e = 0 := by omega
   subst e0
   go_wp2
   go_ret
   exact ⟨o, rfl, ho1, ho2, HR.out.done HX.out, rfl⟩
end Go.Proofs.YtcefaofknaeaeaaGreatDoor.X
