/- Fermat's little theorem for the prime 2147483647, in plain Lean. -/
import Derived.Test.YtcefaofknaeaeaaGreatDoorComAlg
set_option linter.unusedVariables false
set_option linter.unusedSimpArgs false
namespace AffMath
def choose : Nat → Nat → Nat
 | _, 0 => 1
 | 0, _ + 1 => 0
 | n + 1, k + 1 => choose n k + choose n (k + 1)
theorem choose_zero (n : Nat) : choose n 0 = 1 := by cases n <;> rfl
theorem choose_big : ∀ (n k : Nat), n < k → choose n k = 0
 | _, 0, h => by omega
 | 0, k + 1, _ => rfl
 | n + 1, k + 1, h => by
  show choose n k + choose n (k + 1) = 0
  rw [choose_big n k (by omega), choose_big n (k + 1) (by omega)]
theorem choose_self : ∀ n : Nat, choose n n = 1
 | 0 => rfl
 | n + 1 => by
  show choose n n + choose n (n + 1) = 1
  rw [choose_self n, choose_big n (n + 1) (by omega)]
theorem choose_mul : ∀ (n k : Nat), (k + 1) * choose (n + 1) (k + 1) = (n + 1) * choose n k
 | 0, 0 => rfl
 | 0, k + 1 => by
  show (k + 2) * (choose 0 (k + 1) + choose 0 (k + 2)) = 1 * choose 0 (k + 1)
  rfl
 | n + 1, 0 => by
  have h := choose_mul n 0
  show (0 + 1) * (choose (n + 1) 0 + choose (n + 1) 1) = (n + 1 + 1) * choose (n + 1) 0
  rw [choose_zero] at h ⊢
  simp only [Nat.zero_add, Nat.one_mul, Nat.mul_one] at h ⊢
  omega
 | n + 1, k + 1 => by
  have h1 := choose_mul n k
  have h2 := choose_mul n (k + 1)
  show (k + 1 + 1) * (choose (n + 1) (k + 1) + choose (n + 1) (k + 1 + 1)) = (n + 1 + 1) * choose (n + 1) (k + 1)
  have e : choose (n + 1) (k + 1) = choose n k + choose n (k + 1) := rfl
  rw [Nat.mul_add, h2]
  have h3 : (k + 1 + 1) * choose (n + 1) (k + 1) = (k + 1) * choose (n + 1) (k + 1) + choose (n + 1) (k + 1) := Nat.succ_mul _ _
  have h4 : (n + 1 + 1) * choose (n + 1) (k + 1) = (n + 1) * choose (n + 1) (k + 1) + choose (n + 1) (k + 1) := Nat.succ_mul _ _
  rw [h3, h1, h4]
  rw [e, Nat.mul_add]
  omega
theorem sumN_shift (n : Nat) (f : Nat → Int) : sumN (n + 1) f = f 0 + sumN n (fun k => f (k + 1)) := by
 induction n with
 | zero => simp [sumN]
 | succ n ih => rw [sumN, ih]; simp only [sumN]; omega
theorem binomial (a : Int) : ∀ n : Nat, (a + 1) ^ n = sumN (n + 1) (fun k => (choose n k : Int) * a ^ k)
 | 0 => by simp [sumN, choose]
 | n + 1 => by
  have ih := binomial a n
  rw [sumN_shift, Int.pow_succ, ih]
  have e1 : sumN (n + 1) (fun k => (choose (n + 1) (k + 1) : Int) * a ^ (k + 1)) = a * sumN (n + 1) (fun k => (choose n k : Int) * a ^ k) + sumN (n + 1) (fun k => (choose n (k + 1) : Int) * a ^ (k + 1)) := by
   rw [← sumN_mul, ← sumN_add]
   refine sumN_congr fun k _ => ?_
   have : (choose (n + 1) (k + 1) : Int) = choose n k + choose n (k + 1) := by
    show ((choose n k + choose n (k + 1) : Nat) : Int) = _
    omega
   rw [this, Int.pow_succ]; grind
  have e2 : sumN (n + 1) (fun k => (choose n k : Int) * a ^ k) = 1 + sumN (n + 1) (fun k => (choose n (k + 1) : Int) * a ^ (k + 1)) := by
   have h := sumN_shift (n + 1) (fun k => (choose n k : Int) * a ^ k)
   simp only [choose_zero, Int.pow_zero] at h
   have h2 : sumN (n + 1 + 1) (fun k => (choose n k : Int) * a ^ k) = sumN (n + 1) (fun k => (choose n k : Int) * a ^ k) + (choose n (n + 1) : Int) * a ^ (n + 1) := rfl
   rw [choose_big n (n + 1) (by omega)] at h2
   simp only [Int.natCast_zero, Int.zero_mul, Int.add_zero] at h2
   rw [h2] at h
   simpa using h
  rw [e1, choose_zero]
  simp only [Int.pow_zero]
  generalize hS : sumN (n + 1) (fun k => (choose n k : Int) * a ^ k) = S at e2 ⊢
  generalize hT : sumN (n + 1) (fun k => (choose n (k + 1) : Int) * a ^ (k + 1)) = T at e2 ⊢
  rw [e2]; grind
def Prim (p : Nat) : Prop := 1 < p ∧ ∀ d, d ∣ p → d = 1 ∨ d = p
theorem Prim.coprime {p k : Nat} (h : Prim p) (h0 : 0 < k) (h1 : k < p) : Nat.Coprime p k := by
 rcases h.2 (Nat.gcd p k) (Nat.gcd_dvd_left p k) with e | e
 ·exact e
 ·have := Nat.le_of_dvd h0 (Nat.gcd_dvd_right p k)
  omega
theorem Prim.dvd_choose {p k : Nat} (h : Prim p) (h0 : 0 < k) (h1 : k < p) : p ∣ choose p k := by
 obtain ⟨n, rfl⟩ : ∃ n, p = n + 1 := ⟨p - 1, by omega⟩
 obtain ⟨j, rfl⟩ : ∃ j, k = j + 1 := ⟨k - 1, by omega⟩
 exact (h.coprime h0 h1).dvd_of_dvd_mul_left ⟨choose n j, choose_mul n j⟩
theorem Prim.step {p : Nat} (h : Prim p) (a : Int) : Cg (p : Int) ((a + 1) ^ p) (a ^ p + 1) := by
 obtain ⟨n, hn⟩ : ∃ n, p = n + 1 := ⟨p - 1, by have := h.1; omega⟩
 have e : (a + 1) ^ p = 1 + sumN n (fun k => (choose p (k + 1) : Int) * a ^ (k + 1)) + a ^ p := by
  rw [binomial a p, sumN_shift]
  simp only [choose_zero, Int.pow_zero]
  rw [show sumN p (fun k => (choose p (k + 1) : Int) * a ^ (k + 1)) = sumN n (fun k => (choose p (k + 1) : Int) * a ^ (k + 1)) + (choose p (n + 1) : Int) * a ^ (n + 1) by rw [hn]; rfl]
  rw [← hn, choose_self]
  simp only [Int.natCast_one, Int.one_mul]; omega
 rw [e]
 have z : Cg (p : Int) (sumN n (fun k => (choose p (k + 1) : Int) * a ^ (k + 1))) 0 := by
  have := Cg.sum (p := (p : Int)) (n := n) (f := fun k => (choose p (k + 1) : Int) * a ^ (k + 1)) (g := fun _ => 0) (fun k hk => by
   obtain ⟨c, hc⟩ := h.dvd_choose (k := k + 1) (by omega) (by omega)
   refine ⟨(c : Int) * a ^ (k + 1), ?_⟩
   show (choose p (k + 1) : Int) * a ^ (k + 1) - 0 = _
   rw [hc, Int.natCast_mul, Int.sub_zero, Int.mul_assoc])
  rwa [sumN_zero] at this
 have := ((Cg.refl (p := (p : Int)) 1).add z).add (Cg.refl (a ^ p))
 refine this.trans (Cg.of_eq (by omega))
theorem Prim.pow_self {p : Nat} (h : Prim p) : ∀ a : Nat, Cg (p : Int) ((a : Int) ^ p) a
 | 0 => by
  obtain ⟨n, hn⟩ : ∃ n, p = n + 1 := ⟨p - 1, by have := h.1; omega⟩
  refine Cg.of_eq ?_
  rw [hn]; simp [Int.pow_succ]
 | a + 1 => by
  have h1 := h.step (a : Int)
  have h2 := (h.pow_self a).add (Cg.refl (p := (p : Int)) 1)
  have e : ((a + 1 : Nat) : Int) = (a : Int) + 1 := by omega
  rw [e]
  exact h1.trans h2
theorem Prim.fermat {p : Nat} (h : Prim p) (a : Nat) (h0 : 0 < a) (h1 : a < p) (n : Nat) (hn : p = n + 2) : Cg (p : Int) ((a : Int) ^ n * a) 1 := by
 have h2 := h.pow_self a
 have h3 : p ∣ a * (a ^ (n + 1) - 1) := by
  obtain ⟨c, hc⟩ := h2
  have hpos : 1 ≤ a ^ (n + 1) := Nat.pow_pos h0
  have e : ((a * (a ^ (n + 1) - 1) : Nat) : Int) = (a : Int) ^ p - a := by
   rw [Int.natCast_mul, Int.natCast_sub hpos, hn, Int.natCast_pow]
   simp only [Int.natCast_one]
   rw [Int.pow_succ (a : Int) (n + 1)]
   rw [Int.mul_sub, Int.mul_comm]; omega
  rw [hc] at e
  exact Int.ofNat_dvd.1 ⟨c, e⟩
 have h4 : p ∣ a ^ (n + 1) - 1 := (h.coprime h0 h1).dvd_of_dvd_mul_left h3
 obtain ⟨c, hc⟩ := h4
 refine ⟨c, ?_⟩
 have hpos : 1 ≤ a ^ (n + 1) := Nat.pow_pos h0
 have e : ((a ^ (n + 1) - 1 : Nat) : Int) = (a : Int) ^ (n + 1) - 1 := by
  rw [Int.natCast_sub hpos, Int.natCast_pow]; rfl
 rw [hc, Int.natCast_mul] at e
 rw [Int.pow_succ] at e
 omega
def noDiv (p : Nat) : Nat → Nat → Bool
 | 0, lo => p % lo != 0
 | k + 1, lo => noDiv p k lo && noDiv p k (lo + 2 * 2 ^ k)
theorem noDiv_spec {p : Nat} : ∀ (k lo : Nat), noDiv p k lo = true → ∀ j, j < 2 ^ k → p % (lo + 2 * j) ≠ 0
 | 0, lo, h, j, hj => by
  have : j = 0 := by simp at hj; exact hj
  subst this
  simpa [noDiv] using h
 | k + 1, lo, h, j, hj => by
  simp only [noDiv, Bool.and_eq_true] at h
  rw [Nat.pow_succ] at hj
  by_cases e : j < 2 ^ k
  ·exact noDiv_spec k lo h.1 j e
  ·have := noDiv_spec k _ h.2 (j - 2 ^ k) (by omega)
   rwa [show lo + 2 * 2 ^ k + 2 * (j - 2 ^ k) = lo + 2 * j by omega] at this
theorem noDiv_mersenne : noDiv 2147483647 15 3 = true := by decide +kernel
theorem prim_mersenne : Prim 2147483647 := by
 refine ⟨by omega, fun d hd => ?_⟩
 have small : ∀ c, 1 < c → c ≤ 46340 → ¬ c ∣ 2147483647 := fun c h1 h2 hc => by
  rcases Nat.mod_two_eq_zero_or_one c with e | e
  ·have : 2 ∣ 2147483647 := Nat.dvd_trans ⟨c / 2, by omega⟩ hc
   omega
  ·have h3 := noDiv_spec 15 3 noDiv_mersenne ((c - 3) / 2) (by omega)
   rw [show 3 + 2 * ((c - 3) / 2) = c by omega] at h3
   exact h3 (Nat.mod_eq_zero_of_dvd hc)
 obtain ⟨c, hc⟩ := hd
 rcases Nat.lt_or_ge 1 d with h1 | h1
 ·rcases Nat.lt_or_ge 1 c with h2 | h2
  ·exfalso
   rcases Nat.lt_or_ge 46340 d with h3 | h3
   ·rcases Nat.lt_or_ge 46340 c with h4 | h4
    ·have : 46341 * 46341 ≤ d * c := Nat.mul_le_mul h3 h4
     omega
    ·exact small c h2 h4 ⟨d, by rw [Nat.mul_comm]; exact hc⟩
   ·exact small d h1 h3 ⟨c, hc⟩
  ·right
   have : c = 1 := by
    rcases Nat.eq_zero_or_pos c with e | e
    ·subst e; omega
    ·omega
   subst this; omega
 ·left
  rcases Nat.eq_zero_or_pos d with e | e
  ·subst e; omega
  ·omega
theorem fermat_mersenne (x : Int) (h0 : 0 < x) (h1 : x < 2147483647) (n : Nat) (hn : n + 2 = 2147483647) : Cg 2147483647 (x ^ n * x) 1 := by
 obtain ⟨a, rfl⟩ := Int.eq_ofNat_of_zero_le (show 0 ≤ x by omega)
 have := prim_mersenne.fermat a (by omega) (by omega) n hn.symm
 exact this
end AffMath
