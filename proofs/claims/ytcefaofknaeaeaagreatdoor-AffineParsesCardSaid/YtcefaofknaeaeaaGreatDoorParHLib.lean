/- strings.Cut, Split, TrimPrefix, TrimSuffix and affine.Print: their contracts in the told texts' form. -/
import Derived.Test.YtcefaofknaeaeaaGreatDoorParHAwake
import Derived.Test.YtcefaofknaeaeaaGreatDoorParShelfB
import Derived.Lib.SplitLaws
set_option linter.unusedVariables false
set_option linter.unusedSimpArgs false
namespace Go.Proofs.YtcefaofknaeaeaaGreatDoor.X
open Go.RowKit Go.Proofs.YtcefaofknaeaeaaGreatDoorW.PrintWords Go.Proofs.YtcefaofknaeaeaaGreatDoorW.PrintLast Go.Proofs.YtcefaofknaeaeaaGreatDoorW.PrintMore
abbrev bs (l : List UInt8) : ByteArray := ⟨l.toArray⟩
theorem bs_data (l : List UInt8) : (bs l).data.toList = l := by simp
def strings_TrimPrefix.f (s p : ByteArray) : Option ByteArray := some (bs (Lib.trimPrefix s.data.toList p.data.toList))
theorem strings_TrimPrefix.calls (s p r : ByteArray) (w : World) (h : strings_TrimPrefix.f s p = some r) : Calls Tryz.prog 57 #[.string s, .string p] w fun e w' => e = .returned (.string r) ∧ Below w.heap.size w w' := by
 obtain rfl := Option.some.inj h
 refine (Tryz.strings_TrimPrefix s p w).mono ?_
 rintro e w' ⟨rfl, rfl⟩
 exact ⟨rfl, Below.refl _ _⟩
def strings_TrimSuffix.f (s p : ByteArray) : Option ByteArray := if s.size ≤ 9223372036854775807 then some (bs (Lib.trimSuffix s.data.toList p.data.toList)) else none
theorem strings_TrimSuffix.calls (s p r : ByteArray) (w : World) (h : strings_TrimSuffix.f s p = some r) : Calls Tryz.prog 56 #[.string s, .string p] w fun e w' => e = .returned (.string r) ∧ Below w.heap.size w w' := by
 unfold strings_TrimSuffix.f at h
 by_cases c : s.size ≤ 9223372036854775807
 ·rw [if_pos c] at h
  obtain rfl := Option.some.inj h
  refine (Tryz.strings_TrimSuffix s p w c).mono ?_
  rintro e w' ⟨rfl, rfl⟩
  exact ⟨rfl, Below.refl _ _⟩
 ·rw [if_neg c] at h; exact absurd h (by simp)
theorem below_drewN_of (w : World) (n : Nat) : Below w.heap.size w (w.drewN n) := pw_below_drewN (Below.refl _ _) n
def strings_Cut.f (s p : ByteArray) : Option (ByteArray × ByteArray × Bool) := if s.size < 4294967281 then some (bs (Lib.cut s.data.toList p.data.toList).1, bs (Lib.cut s.data.toList p.data.toList).2.1, (Lib.cut s.data.toList p.data.toList).2.2) else none
theorem strings_Cut.calls (s p r1 r2 : ByteArray) (r3 : Bool) (w : World) (hgl : Glob w) (h : strings_Cut.f s p = some (r1, r2, r3)) : Calls Tryz.prog 38 #[.string s, .string p] w fun e w' => e = .returned (.tuple #[.string r1, .string r2, .bool r3]) ∧ Below w.heap.size w w' := by
 unfold strings_Cut.f at h
 by_cases c : s.size < 4294967281
 ·rw [if_pos c] at h
  simp only [Option.some.injEq, Prod.mk.injEq] at h
  obtain ⟨rfl, rfl, rfl⟩ := h
  obtain ⟨_, ⟨m, hm⟩, _⟩ := hgl
  refine (Tryz.strings_Cut s p m w c hm).mono ?_
  rintro e w' ⟨rfl, n, rfl⟩
  exact ⟨rfl, below_drewN_of _ _⟩
 ·rw [if_neg c] at h; exact absurd h (by simp)
def strings_Split.f (s p : ByteArray) : Option (List ByteArray) := if s.size < 4294967281 ∧ 1 ≤ p.size then some (Lib.splitB p 0 (Lib.countB s p) s) else none
theorem strings_Split.calls (s p : ByteArray) (r : List ByteArray) (w : World) (hgl : Glob w) (h : strings_Split.f s p = some r) : Calls Tryz.prog 58 #[.string s, .string p] w fun e w' => ∃ v0_ : Value, e = .returned v0_ ∧ Kd.R Kd.string 9 w' w.heap.size (fun _ => True) v0_ r ∧ Below w.heap.size w w' := by
 unfold strings_Split.f at h
 by_cases c : s.size < 4294967281 ∧ 1 ≤ p.size
 ·rw [if_pos c] at h
  obtain rfl := Option.some.inj h
  obtain ⟨_, ⟨m, hm⟩, _⟩ := hgl
  refine (Tryz.strings_Split s p m w c.1 hm c.2).mono ?_
  rintro e w' ⟨rfl, rfl⟩
  have hlen := Lib.splitB_all p c.2 0 _ s rfl
  refine ⟨_, rfl, ?_, below_alloc (Below.refl _ _) _⟩
  refine Kd.R_of_own (enc := Value.string) (h1 := fun _ => rfl) ?_ (fun _ _ => trivial)
  rw [hlen]
  have hc : Lib.countB s p ≤ s.size := Lib.countB_le p c.2 _ s (Nat.le_refl _)
  refine ⟨by rw [encs_length, hlen, Nat.mul_one], .inr ⟨w.heap.size, _, _, rfl, Nat.le_refl _, blk_new w _, Nat.le_refl _, by unfold maxLen; omega, by simp [hlen], ?_⟩⟩
  rw [Nat.mul_one, List.take_of_length_le (by simp [hlen])]
  rfl
 ·rw [if_neg c] at h; exact absurd h (by simp)
def affine_Print.f (d : Int) (l : List (List Int)) : Option (ByteArray × Int) := if rightB d l = true then some (bs (printS d.toNat l), 0) else some (bs [], 190)
theorem affine_Print.calls (a0_0 : Int) (A0_1 : Option Addr) (c0_1 : Nat) (l0_1 : List (List Int)) (r1 : ByteArray) (r2 : Int) (w : World) (hr0_1 : Kd.C (Kd.slice 2 (Kd.int .i64)) w A0_1 l0_1.length l0_1) (hc0_1 : l0_1.length ≤ c0_1) (hgl : Glob w) (h : affine_Print.f a0_0 l0_1 = some (r1, r2)) :
  Calls Tryz.prog 18 #[.agg #[.int .i64 a0_0, .slice A0_1 l0_1.length c0_1]] w fun e w' => e = .returned (.tuple #[.string r1, .int .i64 r2]) ∧ Below w.heap.size w w' := by
 refine (print_any a0_0 A0_1 c0_1 l0_1 w hgl.1 hr0_1 hc0_1).mono ?_
 rintro e w' ⟨rfl, hb⟩
 refine ⟨?_, hb⟩
 unfold affine_Print.f at h
 by_cases c : rightB a0_0 l0_1 = true
 ·rw [if_pos c] at h ⊢
  simp only [Option.some.injEq, Prod.mk.injEq] at h
  obtain ⟨rfl, rfl⟩ := h
  rfl
 ·rw [if_neg c] at h ⊢
  simp only [Option.some.injEq, Prod.mk.injEq] at h
  obtain ⟨rfl, rfl⟩ := h
  rfl
end Go.Proofs.YtcefaofknaeaeaaGreatDoor.X
