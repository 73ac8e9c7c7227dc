/- The reference's Number and read, as told by the print: of any string, and of a right row's; plain Lean. -/
import Derived.Test.YtcefaofknaeaeaaGreatDoorParPRPrint
import Derived.Test.YtcefaofknaeaeaaGreatDoorParXw
set_option linter.unusedVariables false
set_option linter.unusedSimpArgs false
namespace Go.Proofs.YtcefaofknaeaeaaGreatDoor.X
open Go.RowKit Go.Proofs.YtcefaofknaeaeaaGreatDoorW.PrintWords Go.Proofs.YtcefaofknaeaeaaGreatDoorW.PrintLast Go.Proofs.YtcefaofknaeaeaaGreatDoorW.PrintMore
theorem bt_mid (P : List UInt8) (c : UInt8) (T : List UInt8) : bt (bs (P ++ c :: T)) (P.length : Int) = (c.toNat : Int) := by
 have h : P.length < (bs (P ++ c :: T)).size := by rw [bs_size]; simp
 rw [← bt_at _ _ (by rw [Int.toNat_natCast]; exact h)]
 simp [ByteArray.getElem_eq_getElem_data]
theorem lt_mid (P : List UInt8) (c : UInt8) (T : List UInt8) : (P.length : Int) < ((bs (P ++ c :: T)).size : Int) := by rw [bs_size]; simp; omega
theorem ext_bs (l : List UInt8) (i j : Nat) : (bs l).extract i j = bs ((l.drop i).take (j - i)) := by
 apply ByteArray.ext
 simp [ByteArray.data_extract, List.extract_toArray, List.extract_eq_take_drop]
theorem ext_mid (P T : List UInt8) : (bs (P ++ T)).extract P.length (bs (P ++ T)).size = bs T := by
 rw [ext_bs, bs_size, List.drop_left' rfl, List.take_of_length_le (by simp)]
def NoDig (R : List UInt8) : Prop := ∀ b, R.head? = some b → ¬ (48 ≤ b.toNat ∧ b.toNat ≤ 57)
theorem num_end (P R : List UInt8) (acc : Int) (hR : NoDig R) : Ev (fun k => demoticref19_Number.l0 k (bs (P ++ R)) acc (P.length : Int)) (acc, (P.length : Int)) := by
 refine Ev.step (f := fun _ => some (acc, (P.length : Int))) (fun k => ?_) (Ev.now _)
 simp only [demoticref19_Number.l0]
 cases R with
 | nil => rw [if_neg (by rw [bs_size]; simp)]
 | cons c T =>
  have := hR c rfl
  rw [if_pos (lt_mid P c T), if_pos (by omega), bt_mid]
  by_cases h : (c.toNat : Int) ≥ 48
  ·rw [if_pos h, if_neg (by omega)]
  ·rw [if_neg h]
theorem num_one (P : List UInt8) (c : UInt8) (R : List UInt8) (acc d : Nat) (hd : d < 10) (hc : c.toNat = 48 + d) (ha : acc * 10 + d ≤ 1000000) (hP : P.length ≤ 100000) {res : Int × Int}
  (H : Ev (fun k => demoticref19_Number.l0 k (bs (P ++ c :: R)) ((acc * 10 + d : Nat) : Int) ((P.length + 1 : Nat) : Int)) res) :
  Ev (fun k => demoticref19_Number.l0 k (bs (P ++ c :: R)) (acc : Int) (P.length : Int)) res := by
 refine Ev.step (fun k => ?_) H
 simp only [demoticref19_Number.l0]
 rw [if_pos (lt_mid P c R), if_pos (by omega), bt_mid, if_pos (by omega), if_pos (by omega)]
 have e1 : mn (wrap64 (wrap64 (10 * (acc : Int)) + ((c.toNat : Int) - 48) % 256)) 10000000 = ((acc * 10 + d : Nat) : Int) := by
  rw [wrap_id (x := 10 * (acc : Int)) (by omega) (by omega), wrap_id (by omega) (by omega)]
  unfold mn
  rw [if_neg (by omega)]; omega
 have e2 : wrap64 ((P.length : Int) + 1) = ((P.length + 1 : Nat) : Int) := by rw [wrap_id (by omega) (by omega)]; omega
 rw [e1, e2]
theorem num_dec (m : Nat) : m ≤ 1000000 → ∀ (R : List UInt8) (res : Int × Int), Ev (fun k => demoticref19_Number.l0 k (bs (Lib.decDigits m ++ R)) (m : Int) ((Lib.decDigits m).length : Int)) res → Ev (fun k => demoticref19_Number.l0 k (bs (Lib.decDigits m ++ R)) 0 0) res := by
 induction m using Nat.strongRecOn with
 | _ m ih =>
  intro hm R res H
  by_cases c : m < 10
  ·have e : Lib.decDigits m = [UInt8.ofNat (48 + m)] := by rw [Lib.decDigits, dif_pos c]
   rw [e] at H ⊢
   exact num_one [] (UInt8.ofNat (48 + m)) R 0 m c (digit_nat m c) (by omega) (by simp) (by simpa using H)
  ·have e : Lib.decDigits m = Lib.decDigits (m / 10) ++ [UInt8.ofNat (48 + m % 10)] := by rw [Lib.decDigits, dif_neg c]
   have h7 := dec_len7 (m / 10) (by omega)
   rw [e, List.append_assoc] at H ⊢
   refine ih (m / 10) (by omega) (by omega) _ res ?_
   refine num_one (Lib.decDigits (m / 10)) (UInt8.ofNat (48 + m % 10)) R (m / 10) (m % 10) (by omega) (digit_nat _ (by omega)) (by omega) (by omega) ?_
   rw [show m / 10 * 10 + m % 10 = m by omega]
   rw [List.length_append, List.length_singleton] at H
   exact H
theorem num_f (m : Nat) (hm : m ≤ 1000000) (R : List UInt8) (hR : NoDig R) : Ev (fun k => demoticref19_Number.f k (bs (Lib.decDigits m ++ R))) ((m : Int), ((Lib.decDigits m).length : Int)) :=
 num_dec m hm R _ (num_end _ R _ hR)
theorem num_no (R : List UInt8) (hR : NoDig R) : Ev (fun k => demoticref19_Number.f k (bs R)) (0, 0) := num_end [] R 0 hR
theorem num_any (s : List UInt8) (hs : s.length ≤ 100000) : ∃ v c : Int, Ev (fun k => demoticref19_Number.f k (bs s)) (v, c) ∧ 0 ≤ v ∧ 0 ≤ c ∧ c ≤ s.length ∧ (∀ b, s.head? = some b → 48 ≤ b.toNat ∧ b.toNat ≤ 57 → 1 ≤ c) := by
 have H : ∀ (R P : List UInt8) (acc : Int), P ++ R = s → 0 ≤ acc ∧ acc ≤ 10000000 → ∃ v c : Int, Ev (fun k => demoticref19_Number.l0 k (bs s) acc (P.length : Int)) (v, c) ∧ 0 ≤ v ∧ (P.length : Int) ≤ c ∧ c ≤ s.length ∧ (∀ b, R.head? = some b → 48 ≤ b.toNat ∧ b.toNat ≤ 57 → (P.length : Int) + 1 ≤ c) := by
  intro R
  induction R with
  | nil =>
   intro P acc e ha
   have := num_end P [] acc (fun b hb => by simp at hb)
   rw [e] at this
   exact ⟨_, _, this, ha.1, by omega, by rw [← e]; simp, fun b hb => by simp at hb⟩
  | cons c R ih =>
   intro P acc e ha
   have hl : P.length + R.length + 1 = s.length := by rw [← e]; simp; omega
   by_cases hc : 48 ≤ c.toNat ∧ c.toNat ≤ 57
   ·obtain ⟨v, c', h1, h2, h3, h4, h5⟩ := ih (P ++ [c]) (mn (wrap64 (wrap64 (10 * acc) + ((c.toNat : Int) - 48) % 256)) 10000000) (by rw [← e]; simp) (by
     rw [wrap_id (x := 10 * acc) (by omega) (by omega), wrap_id (by omega) (by omega)]
     unfold mn
     split <;> omega)
    rw [List.length_append, List.length_singleton] at h3
    refine ⟨v, c', Ev.step (fun k => ?_) h1, h2, by omega, h4, fun b hb _ => by omega⟩
    simp only [demoticref19_Number.l0]
    rw [← e, if_pos (lt_mid P c R), if_pos (by omega), bt_mid, if_pos (by omega), if_pos (by omega), wrap_id (x := (P.length : Int) + 1) (by omega) (by omega)]
    simp
   ·have := num_end P (c :: R) acc (fun b hb => by simp at hb; subst hb; exact hc)
    rw [e] at this
    exact ⟨_, _, this, ha.1, by omega, by omega, fun b hb hd => by simp at hb; subst hb; exact absurd hd hc⟩
 obtain ⟨v, c, h1, h2, h3, h4, h5⟩ := H s [] 0 rfl (by omega)
 exact ⟨v, c, h1, h2, h3, h4, fun b hb hd => by have := h5 b hb hd; simp at this; omega⟩
end Go.Proofs.YtcefaofknaeaeaaGreatDoor.X
