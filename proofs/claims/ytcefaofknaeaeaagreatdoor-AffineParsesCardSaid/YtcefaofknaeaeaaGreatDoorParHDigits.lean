/- demotic/demoticref01.Digits: the digits of a number from 0 to a million: its contract. -/
import Derived.Test.YtcefaofknaeaeaaGreatDoorParHPrint
import Derived.Laws.Runes
set_option linter.unusedVariables false
set_option linter.unusedSimpArgs false
namespace Go.Proofs.YtcefaofknaeaeaaGreatDoor.X
open Go.RowKit Go.Proofs.YtcefaofknaeaeaaGreatDoorW.PrintWords Go.Proofs.YtcefaofknaeaeaaGreatDoorW.PrintLast Go.Proofs.YtcefaofknaeaeaaGreatDoorW.PrintMore
theorem digit_enc (n : Nat) (hn : n < 10) : Utf8.encode (48 + (n : Int)) = ⟨#[UInt8.ofNat (48 + n)]⟩ := by
 have : n = 0 ∨ n = 1 ∨ n = 2 ∨ n = 3 ∨ n = 4 ∨ n = 5 ∨ n = 6 ∨ n = 7 ∨ n = 8 ∨ n = 9 := by omega
 rcases this with rfl | rfl | rfl | rfl | rfl | rfl | rfl | rfl | rfl | rfl <;> rfl
set_option maxHeartbeats 2000000 in
set_option maxRecDepth 100000 in
theorem natural_small (n : Nat) (hn : n < 10) (w : World) : Calls Tryz.prog 64 #[.int .u64 n] w fun e w' => e = .returned (.string ⟨(Lib.decDigits n).toArray⟩) ∧ Below w.heap.size w w' := by
 have h1 : decide ((n : Int) < 10) = true := decide_eq_true (by omega)
 have hn2 : (n : Int) < 10 := by omega
 have hd : Lib.decDigits n = [UInt8.ofNat (48 + n)] := by rw [Lib.decDigits, dif_pos hn]
 have HE := Aside0.mk (digit_enc n hn)
 have HD := Aside0.mk hd
 clear hd
 go_enter Tryz.func64, Tryz.ntmps64
 go_wp2
 go_ret
 exact ⟨by rw [HD.out]; exact congrArg (fun x => Ending.returned (.string x)) HE.out, Below.refl _ _⟩
set_option maxHeartbeats 2000000 in
set_option maxRecDepth 100000 in
theorem natural_any : ∀ (n : Nat) (hn : n ≤ 1000000) (w : World), Calls Tryz.prog 64 #[.int .u64 n] w fun e w' => e = .returned (.string ⟨(Lib.decDigits n).toArray⟩) ∧ Below w.heap.size w w' := by
 intro n
 induction n using Nat.strongRecOn with
 | _ n ih =>
 intro hn w
 by_cases h : n < 10
 ·exact natural_small n h w
 ·have hi : ∀ W, Calls Tryz.prog 64 #[.int .u64 ((n : Int) / 10)] W fun e w' => e = .returned (.string ⟨(Lib.decDigits (n / 10)).toArray⟩) ∧ Below W.heap.size W w' := fun W => by
   have := ih (n / 10) (by omega) (by omega) W
   rwa [show ((n / 10 : Nat) : Int) = (n : Int) / 10 by omega] at this
  have HI := Aside0.mk hi
  have hl := dec_len (n / 10)
  have hl2 : (Lib.decDigits (n / 10)).length ≤ 1000001 := by omega
  have h1 : decide ((n : Int) < 10) = false := decide_eq_false (by omega)
  have hn1 : 10 ≤ (n : Int) := by omega
  have hn2 : (n : Int) ≤ 1000000 := by omega
  have hm0 : 0 ≤ (n : Int) % 10 := by omega
  have hm1 : (n : Int) % 10 < 10 := by omega
  have he : Utf8.encode (48 + (n : Int) % 10) = ⟨#[UInt8.ofNat (48 + n % 10)]⟩ := by
   have := digit_enc (n % 10) (by omega)
   rwa [show ((n % 10 : Nat) : Int) = (n : Int) % 10 by omega] at this
  have hs : (Utf8.encode (48 + (n : Int) % 10)).size = 1 := by rw [he]; rfl
  have HE := Aside0.mk he
  have hd : Lib.decDigits n = Lib.decDigits (n / 10) ++ [UInt8.ofNat (48 + n % 10)] := by rw [Lib.decDigits, dif_neg h]
  have HD := Aside0.mk hd
  clear hi ih hl h hn hd he
  generalize hD : Lib.decDigits (n / 10) = D at HI hl2 HD
  clear hD
  go_enter Tryz.func64, Tryz.ntmps64
  go_wp2_with (first
   | (go_at_call 64; refine (HI.out _).mono ?_; rintro e w1 ⟨rfl, hb1⟩; have HB1 := Aside0.mk hb1; clear hb1))
  go_ret
  refine ⟨?_, HB1.out⟩
  rw [HD.out]
  exact congrArg (fun x => Ending.returned (.string x)) ((congrArg (⟨D.toArray⟩ ++ ·) HE.out).trans (ba_append D [UInt8.ofNat (48 + n % 10)]))
def demoticref01_Digits.f (a0 : Int) : Option ByteArray := if 0 ≤ a0 ∧ a0 ≤ 1000000 then some ⟨(Lib.decDigits a0.toNat).toArray⟩ else none
set_option maxHeartbeats 2000000 in
set_option maxRecDepth 100000 in
theorem demoticref01_Digits.calls (a0 : Int) (r : ByteArray) (w : World) (h : demoticref01_Digits.f a0 = some r) :
  Calls Tryz.prog 41 #[.int .i64 a0] w fun e w' => e = .returned (.string r) ∧ Below w.heap.size w w' := by
 unfold demoticref01_Digits.f at h
 by_cases c : 0 ≤ a0 ∧ a0 ≤ 1000000
 ·rw [if_pos c] at h
  obtain rfl := Option.some.inj h
  obtain ⟨n, rfl⟩ := Int.eq_ofNat_of_zero_le c.1
  have hn2 : (n : Int) ≤ 1000000 := c.2
  have h1 : decide ((n : Int) < 0) = false := decide_eq_false (by omega)
  have hi := natural_any n (by omega)
  have HI := Aside0.mk hi
  clear hi c h
  rw [Int.toNat_natCast]
  generalize hD : Lib.decDigits n = D at HI
  clear hD
  go_enter Tryz.func41, Tryz.ntmps41
  go_wp2_with (first
   | (go_at_call 64; refine (HI.out _).mono ?_; rintro e w1 ⟨rfl, hb1⟩; have HB1 := Aside0.mk hb1; clear hb1))
  go_ret
  exact ⟨rfl, HB1.out⟩
 ·rw [if_neg c] at h
  exact absurd h (by simp)
end Go.Proofs.YtcefaofknaeaeaaGreatDoor.X
