/- Plain linear algebra over the integers modulo a number p: row operations on the rows of a matrix with the identity beside it. -/
set_option linter.unusedVariables false
set_option linter.unusedSimpArgs false
namespace AffMath
def sumN : Nat → (Nat → Int) → Int
 | 0, _ => 0
 | n + 1, f => sumN n f + f n
theorem sumN_congr {n : Nat} {f g : Nat → Int} (h : ∀ i, i < n → f i = g i) : sumN n f = sumN n g := by
 induction n with
 | zero => rfl
 | succ n ih => simp only [sumN]; rw [ih (fun i hi => h i (by omega)), h n (by omega)]
theorem sumN_add (n : Nat) (f g : Nat → Int) : sumN n (fun i => f i + g i) = sumN n f + sumN n g := by
 induction n with
 | zero => rfl
 | succ n ih => simp only [sumN]; rw [ih]; omega
theorem sumN_mul (n : Nat) (c : Int) (f : Nat → Int) : sumN n (fun i => c * f i) = c * sumN n f := by
 induction n with
 | zero => simp [sumN]
 | succ n ih => simp only [sumN]; rw [ih, Int.mul_add]
theorem sumN_mul_right (n : Nat) (c : Int) (f : Nat → Int) : sumN n (fun i => f i * c) = sumN n f * c := by
 rw [Int.mul_comm, ← sumN_mul]; exact sumN_congr fun i _ => Int.mul_comm _ _
theorem sumN_zero (n : Nat) : sumN n (fun _ => 0) = 0 := by
 induction n with
 | zero => rfl
 | succ n ih => simp only [sumN]; rw [ih]; rfl
theorem sumN_swap (n m : Nat) (f : Nat → Nat → Int) : sumN n (fun i => sumN m (fun j => f i j)) = sumN m (fun j => sumN n (fun i => f i j)) := by
 induction n with
 | zero => simp only [sumN]; rw [sumN_zero]
 | succ n ih => simp only [sumN]; rw [ih, ← sumN_add]
theorem sumN_delta (n i : Nat) (hi : i < n) (f : Nat → Int) : sumN n (fun k => if k = i then f k else 0) = f i := by
 induction n with
 | zero => omega
 | succ n ih =>
  simp only [sumN]
  by_cases e : i = n
  ·subst e
   rw [sumN_congr (g := fun _ => 0) (fun k hk => by rw [if_neg (by omega)]), sumN_zero]; simp
  ·rw [ih (by omega), if_neg (by omega)]; omega
theorem sumN_set (n i : Nat) (hi : i < n) (f g : Nat → Int) (h : ∀ k, k < n → k ≠ i → f k = g k) : sumN n f = sumN n g + (f i - g i) := by
 have e : sumN n f = sumN n (fun k => g k + (if k = i then (f k - g k) else 0)) := sumN_congr fun k hk => by
  by_cases e : k = i
  ·rw [if_pos e]; omega
  ·rw [if_neg e, h k hk e]; omega
 rw [e, sumN_add, sumN_delta n i hi]
theorem sumN_exch (n i k : Nat) (hi : i < n) (hk : k < n) (f g : Nat → Int) (h : ∀ t, t < n → t ≠ i → t ≠ k → f t = g t) (h1 : f i = g k) (h2 : f k = g i) : sumN n f = sumN n g := by
 by_cases e : i = k
 ·subst e
  exact sumN_congr fun t ht => by
   by_cases e : t = i
   ·subst e; exact h1
   ·exact h t ht e e
 ·let m : Nat → Int := fun t => if t = i then g i else f t
  have a := sumN_set n i hi f m (fun t _ ht => by simp [m, ht])
  have b := sumN_set n k hk m g (fun t ht hk' => by
   by_cases e2 : t = i
   ·simp [m, e2]
   ·simp only [m, e2, if_false]; exact h t ht e2 hk')
  have mi : m i = g i := by simp [m]
  have mk : m k = f k := by simp [m, Ne.symm e]
  rw [a, b, mi, mk]; omega
theorem sumN_le {n : Nat} {f : Nat → Int} {b : Int} (h : ∀ i, i < n → -b ≤ f i ∧ f i ≤ b) : -(n * b) ≤ sumN n f ∧ sumN n f ≤ n * b := by
 induction n with
 | zero => simp [sumN]
 | succ n ih =>
  have := ih (fun i hi => h i (by omega)); have := h n (by omega)
  simp only [sumN]
  have e : ((n + 1 : Nat) : Int) * b = n * b + b := by rw [Int.natCast_add, Int.add_mul]; simp
  rw [e]; omega
def Cg (p a b : Int) : Prop := p ∣ a - b
variable {p : Int}
theorem Cg.refl (a : Int) : Cg p a a := ⟨0, by omega⟩
theorem Cg.of_eq {a b : Int} (h : a = b) : Cg p a b := h ▸ Cg.refl a
theorem Cg.symm {a b : Int} (h : Cg p a b) : Cg p b a := by obtain ⟨k, hk⟩ := h; exact ⟨-k, by rw [Int.mul_neg, ← hk]; omega⟩
theorem Cg.trans {a b c : Int} (h : Cg p a b) (h' : Cg p b c) : Cg p a c := by
 obtain ⟨k, hk⟩ := h; obtain ⟨k', hk'⟩ := h'; exact ⟨k + k', by rw [Int.mul_add, ← hk, ← hk']; omega⟩
theorem Cg.add {a b c d : Int} (h : Cg p a b) (h' : Cg p c d) : Cg p (a + c) (b + d) := by
 obtain ⟨k, hk⟩ := h; obtain ⟨k', hk'⟩ := h'; exact ⟨k + k', by rw [Int.mul_add, ← hk, ← hk']; omega⟩
theorem Cg.sub {a b c d : Int} (h : Cg p a b) (h' : Cg p c d) : Cg p (a - c) (b - d) := by
 obtain ⟨k, hk⟩ := h; obtain ⟨k', hk'⟩ := h'; exact ⟨k - k', by rw [Int.mul_sub, ← hk, ← hk']; omega⟩
theorem Cg.mul {a b c d : Int} (h : Cg p a b) (h' : Cg p c d) : Cg p (a * c) (b * d) := by
 obtain ⟨k, hk⟩ := h; obtain ⟨k', hk'⟩ := h'
 refine ⟨k * c + b * k', ?_⟩
 have : a = b + p * k := by omega
 have : c = d + p * k' := by omega
 grind
theorem Cg.mul_left {a b : Int} (c : Int) (h : Cg p a b) : Cg p (c * a) (c * b) := (Cg.refl c).mul h
theorem Cg.mul_right {a b : Int} (c : Int) (h : Cg p a b) : Cg p (a * c) (b * c) := h.mul (Cg.refl c)
theorem Cg.emod (a : Int) : Cg p (a % p) a := by
 refine ⟨-(a / p), ?_⟩
 have := Int.mul_ediv_add_emod a p
 rw [Int.mul_neg]; omega
theorem Cg.sum {n : Nat} {f g : Nat → Int} (h : ∀ i, i < n → Cg p (f i) (g i)) : Cg p (sumN n f) (sumN n g) := by
 induction n with
 | zero => exact Cg.refl _
 | succ n ih => exact (ih fun i hi => h i (by omega)).add (h n (by omega))
theorem Cg.eq_of_near {a b : Int} (h : Cg p a b) (h1 : -p < a - b) (h2 : a - b < p) : a = b := by
 obtain ⟨k, hk⟩ := h
 have hp : 0 < p := by omega
 rcases Int.lt_trichotomy k 0 with e | e | e
 ·have : p * k ≤ p * (-1) := Int.mul_le_mul_of_nonneg_left (by omega) (by omega)
  omega
 ·subst e; omega
 ·have : p * 1 ≤ p * k := Int.mul_le_mul_of_nonneg_left (by omega) (by omega)
  omega
def dl (i j : Nat) : Int := if i = j then 1 else 0
theorem dl_self (i : Nat) : dl i i = 1 := if_pos rfl
theorem sum_dl_left (n i : Nat) (hi : i < n) (f : Nat → Int) : sumN n (fun k => dl i k * f k) = f i := by
 rw [← sumN_delta n i hi f]
 exact sumN_congr fun k _ => by unfold dl; by_cases e : i = k <;> simp [e, eq_comm]
theorem sum_dl_right (n i : Nat) (hi : i < n) (f : Nat → Int) : sumN n (fun k => f k * dl k i) = f i := by
 rw [← sumN_delta n i hi f]
 exact sumN_congr fun k _ => by unfold dl; by_cases e : k = i <;> simp [e]
def beside (n : Nat) (M : Nat → Nat → Int) (t j : Nat) : Int := if j < n then M t j else dl t (j - n)
structure Kept (p : Int) (n : Nat) (M L : Nat → Nat → Int) : Prop where
 down : ∀ k, k < n → ∀ j, j < n → Cg p (L k j) (sumN n fun t => L k (n + t) * M t j)
 up : ∃ S : Nat → Nat → Int, ∀ t, t < n → ∀ j, j < n + n → Cg p (beside n M t j) (sumN n fun k => S t k * L k j)
theorem Kept.start {n : Nat} {M L : Nat → Nat → Int} (h : ∀ k, k < n → ∀ j, j < n + n → Cg p (L k j) (beside n M k j)) : Kept p n M L where
 down := fun k hk j hj => by
  have h1 := h k hk j (by omega)
  unfold beside at h1; rw [if_pos hj] at h1
  refine h1.trans ?_
  rw [← sum_dl_left n k hk (fun t => M t j)]
  refine Cg.sum fun t ht => Cg.mul_right _ ?_
  have h2 := h k hk (n + t) (by omega)
  unfold beside at h2; rw [if_neg (by omega), show n + t - n = t from by omega] at h2
  exact h2.symm
 up := ⟨dl, fun t ht j hj => by
  rw [sum_dl_left n t ht]; exact (h t ht j hj).symm⟩
theorem Kept.congr {n : Nat} {M L L' : Nat → Nat → Int} (K : Kept p n M L) (h : ∀ k, k < n → ∀ j, j < n + n → Cg p (L' k j) (L k j)) : Kept p n M L' where
 down := fun k hk j hj => (h k hk j (by omega)).trans ((K.down k hk j hj).trans (Cg.sum fun t ht => ((h k hk (n + t) (by omega)).symm).mul_right _))
 up := by
  obtain ⟨S, hS⟩ := K.up
  exact ⟨S, fun t ht j hj => (hS t ht j hj).trans (Cg.sum fun k hk => ((h k hk j hj).symm).mul_left _)⟩
theorem Kept.swap {n : Nat} {M L L' : Nat → Nat → Int} (K : Kept p n M L) (i k : Nat) (hi : i < n) (hk : k < n)
  (h1 : ∀ j, j < n + n → L' i j = L k j) (h2 : ∀ j, j < n + n → L' k j = L i j) (h3 : ∀ t, t < n → t ≠ i → t ≠ k → ∀ j, j < n + n → L' t j = L t j) : Kept p n M L' where
 down := fun t ht j hj => by
  by_cases e : t = i
  ·subst e; rw [h1 j (by omega), sumN_congr (g := fun u => L k (n + u) * M u j) (fun u hu => by rw [h1 (n + u) (by omega)])]; exact K.down k hk j hj
  ·by_cases e' : t = k
   ·subst e'; rw [h2 j (by omega), sumN_congr (g := fun u => L i (n + u) * M u j) (fun u hu => by rw [h2 (n + u) (by omega)])]; exact K.down i hi j hj
   ·rw [h3 t ht e e' j (by omega), sumN_congr (g := fun u => L t (n + u) * M u j) (fun u hu => by rw [h3 t ht e e' (n + u) (by omega)])]; exact K.down t ht j hj
 up := by
  obtain ⟨S, hS⟩ := K.up
  refine ⟨fun t u => S t (if u = i then k else if u = k then i else u), fun t ht j hj => (hS t ht j hj).trans (Cg.of_eq ?_)⟩
  refine (sumN_exch n i k hi hk _ _ (fun u hu e e' => ?_) ?_ ?_).symm
  ·simp only [if_neg e, if_neg e']; rw [h3 u hu e e' j hj]
  ·simp only [if_true]; rw [h1 j hj]
  ·by_cases e : k = i
   ·subst e; simp only [if_true]; rw [h1 j hj]
   ·simp only [if_neg e, if_true]; rw [h2 j hj]
theorem Kept.scale {n : Nat} {M L L' : Nat → Nat → Int} (K : Kept p n M L) (i : Nat) (hi : i < n) (b c : Int) (hbc : Cg p (c * b) 1)
  (h1 : ∀ j, j < n + n → Cg p (L' i j) (L i j * b)) (h3 : ∀ t, t < n → t ≠ i → ∀ j, j < n + n → L' t j = L t j) : Kept p n M L' where
 down := fun t ht j hj => by
  by_cases e : t = i
  ·subst e
   refine (h1 j (by omega)).trans (((K.down t ht j hj).mul_right b).trans ?_)
   rw [← sumN_mul_right]
   refine Cg.sum fun u hu => ?_
   refine Cg.trans (Cg.of_eq (by rw [Int.mul_right_comm])) ((h1 (n + u) (by omega)).symm.mul_right _)
  ·rw [h3 t ht e j (by omega), sumN_congr (g := fun u => L t (n + u) * M u j) (fun u hu => by rw [h3 t ht e (n + u) (by omega)])]; exact K.down t ht j hj
 up := by
  obtain ⟨S, hS⟩ := K.up
  refine ⟨fun t u => if u = i then S t u * c else S t u, fun t ht j hj => (hS t ht j hj).trans (Cg.sum fun u hu => ?_)⟩
  by_cases e : u = i
  ·subst e
   simp only [if_true]
   have a : Cg p (S t u * c * L' u j) (S t u * c * (L u j * b)) := (h1 j hj).mul_left _
   have b' : Cg p (S t u * c * (L u j * b)) (S t u * L u j) := by
    have : S t u * c * (L u j * b) = S t u * L u j * (c * b) := by grind
    rw [this]
    have := hbc.mul_left (S t u * L u j)
    rwa [Int.mul_one] at this
   exact (a.trans b').symm
  ·simp only [if_neg e]; rw [h3 u hu e j hj]; exact Cg.refl _
theorem Kept.sub {n : Nat} {M L L' : Nat → Nat → Int} (K : Kept p n M L) (i k : Nat) (hi : i < n) (hk : k < n) (hik : k ≠ i) (b : Int)
  (h1 : ∀ j, j < n + n → Cg p (L' k j) (L k j - b * L i j)) (h3 : ∀ t, t < n → t ≠ k → ∀ j, j < n + n → L' t j = L t j) : Kept p n M L' where
 down := fun t ht j hj => by
  by_cases e : t = k
  ·subst e
   refine (h1 j (by omega)).trans (((K.down t ht j hj).sub ((K.down i hi j hj).mul_left b)).trans ?_)
   rw [← sumN_mul]
   have e2 : (sumN n fun u => L t (n + u) * M u j) - (sumN n fun u => b * (L i (n + u) * M u j)) = sumN n fun u => (L t (n + u) - b * L i (n + u)) * M u j := by
    have e3 := sumN_add n (fun u => (L t (n + u) - b * L i (n + u)) * M u j) (fun u => b * (L i (n + u) * M u j))
    have e4 : (sumN n fun u => (L t (n + u) - b * L i (n + u)) * M u j + b * (L i (n + u) * M u j)) = sumN n fun u => L t (n + u) * M u j := sumN_congr fun u _ => by grind
    rw [e4] at e3; omega
   rw [e2]
   exact Cg.sum fun u hu => (h1 (n + u) (by omega)).symm.mul_right _
  ·rw [h3 t ht e j (by omega), sumN_congr (g := fun u => L t (n + u) * M u j) (fun u hu => by rw [h3 t ht e (n + u) (by omega)])]; exact K.down t ht j hj
 up := by
  obtain ⟨S, hS⟩ := K.up
  refine ⟨fun t u => if u = i then S t i + b * S t k else S t u, fun t ht j hj => (hS t ht j hj).trans ?_⟩
  have a : Cg p (sumN n fun u => (if u = i then S t i + b * S t k else S t u) * L' u j) (sumN n fun u => if u = k then S t k * (L k j - b * L i j) else (if u = i then S t i + b * S t k else S t u) * L u j) := by
   refine Cg.sum fun u hu => ?_
   by_cases e : u = k
   ·subst e; simp only [if_neg hik, if_true]; exact (h1 j hj).mul_left _
   ·simp only [if_neg e]; rw [h3 u hu e j hj]; exact Cg.refl _
  refine Cg.trans (Cg.of_eq ?_) a.symm
  have b1 := sumN_set n k hk (fun u => if u = k then S t k * (L k j - b * L i j) else (if u = i then S t i + b * S t k else S t u) * L u j) (fun u => (if u = i then S t i + b * S t k else S t u) * L u j) (fun u _ e => by simp only [if_neg e])
  have b2 := sumN_set n i hi (fun u => (if u = i then S t i + b * S t k else S t u) * L u j) (fun u => S t u * L u j) (fun u _ e => by simp only [if_neg e])
  simp only [if_true, if_neg hik] at b1 b2
  rw [b1, b2]; grind
theorem Kept.done {n : Nat} {M L : Nat → Nat → Int} (K : Kept p n M L) (h : ∀ k, k < n → ∀ j, j < n → L k j = dl k j) :
  (∀ k, k < n → ∀ j, j < n → Cg p (sumN n fun t => L k (n + t) * M t j) (dl k j)) ∧ (∀ k, k < n → ∀ j, j < n → Cg p (sumN n fun t => M k t * L t (n + j)) (dl k j)) := by
 refine ⟨fun k hk j hj => by rw [← h k hk j hj]; exact (K.down k hk j hj).symm, fun k hk j hj => ?_⟩
 obtain ⟨S, hS⟩ := K.up
 have a : ∀ t, t < n → Cg p (M k t) (S k t) := fun t ht => by
  have := hS k hk t (by omega)
  unfold beside at this; rw [if_pos ht] at this
  rwa [sumN_congr (g := fun u => S k u * dl u t) (fun u hu => by rw [h u hu t ht]), sum_dl_right n t ht] at this
 have b := hS k hk (n + j) (by omega)
 unfold beside at b; rw [if_neg (by omega), show n + j - n = j from by omega] at b
 exact (Cg.sum fun t ht => (a t ht).mul_right _).trans b.symm
theorem Kept.stuck {n : Nat} {M L : Nat → Nat → Int} (K : Kept p n M L) (i : Nat) (hi : i < n) (h : ∀ k, k < n → ∀ j, j < i → L k j = dl k j) (h0 : ∀ k, i ≤ k → k < n → L k i = 0)
  (h1 : ¬ Cg p 1 0) (C : Nat → Nat → Int) : ¬ ∀ a, a < n → ∀ j, j < n → Cg p (sumN n fun t => C a t * M t j) (dl a j) := by
 intro hC
 obtain ⟨S, hS⟩ := K.up
 let v : Nat → Int := fun j => if j = i then 1 else if j < i then - L j i else 0
 have hL : ∀ k, k < n → sumN n (fun j => L k j * v j) = 0 := fun k hk => by
  let g : Nat → Int := fun j => if j = i then L k i else 0
  let g2 : Nat → Int := fun j => if j = k then (if k < i then - L k i else 0) else 0
  have e : sumN n (fun j => L k j * v j) = sumN n (fun j => g j + g2 j) := sumN_congr fun j hj => by
   simp only [v, g, g2]
   by_cases e : j = i
   ·subst e
    simp only [if_true]
    by_cases e2 : j = k
    ·subst e2; simp
    ·simp [e2]
   ·simp only [if_neg e]
    by_cases e2 : j < i
    ·rw [if_pos e2, h k hk j e2]
     unfold dl
     by_cases e3 : k = j
     ·subst e3; simp [e2]
     ·simp [e3, Ne.symm e3]
    ·rw [if_neg e2]
     by_cases e3 : j = k
     ·subst e3; simp [e2]
     ·simp [e3]
  rw [e, sumN_add, sumN_delta n i hi, sumN_delta n k hk]
  by_cases e4 : k < i
  ·rw [if_pos e4]; omega
  ·rw [if_neg e4, h0 k (by omega) hk]; rfl
 have hM : ∀ t, t < n → Cg p (sumN n (fun j => M t j * v j)) 0 := fun t ht => by
  have a : Cg p (sumN n (fun j => M t j * v j)) (sumN n (fun j => (sumN n fun k => S t k * L k j) * v j)) := Cg.sum fun j hj => by
   have := hS t ht j (by omega)
   unfold beside at this; rw [if_pos hj] at this
   exact this.mul_right _
  refine a.trans (Cg.of_eq ?_)
  have b : sumN n (fun j => (sumN n fun k => S t k * L k j) * v j) = sumN n (fun j => sumN n fun k => S t k * (L k j * v j)) := sumN_congr fun j _ => by
   rw [← sumN_mul_right]; exact sumN_congr fun k _ => by rw [Int.mul_assoc]
  rw [b, sumN_swap, sumN_congr (g := fun _ => 0) (fun k hk => by rw [sumN_mul, hL k hk, Int.mul_zero]), sumN_zero]
 have hv : Cg p (v i) 0 := by
  have a : Cg p (sumN n fun j => (sumN n fun t => C i t * M t j) * v j) (v i) := by
   have := Cg.sum (n := n) (f := fun j => (sumN n fun t => C i t * M t j) * v j) (g := fun j => dl i j * v j) (fun j hj => (hC i hi j hj).mul_right _)
   rwa [sum_dl_left n i hi] at this
  refine a.symm.trans ?_
  have b : (sumN n fun j => (sumN n fun t => C i t * M t j) * v j) = sumN n fun t => C i t * sumN n (fun j => M t j * v j) := by
   have b1 : (sumN n fun j => (sumN n fun t => C i t * M t j) * v j) = sumN n (fun j => sumN n fun t => C i t * (M t j * v j)) := sumN_congr fun j _ => by
    rw [← sumN_mul_right]; exact sumN_congr fun k _ => by rw [Int.mul_assoc]
   rw [b1, sumN_swap]; exact sumN_congr fun t _ => sumN_mul _ _ _
  rw [b]
  have := Cg.sum (n := n) (f := fun t => C i t * sumN n (fun j => M t j * v j)) (g := fun _ => 0) (fun t ht => by have := (hM t ht).mul_left (C i t); rwa [Int.mul_zero] at this)
  rwa [sumN_zero] at this
 exact h1 (by simpa [v] using hv)
theorem mul3 (n : Nat) (A B C : Nat → Nat → Int) (i j : Nat) : (sumN n fun k => (sumN n fun t => A i t * B t k) * C k j) = sumN n fun t => A i t * (sumN n fun k => B t k * C k j) := by
 have a : (sumN n fun k => (sumN n fun t => A i t * B t k) * C k j) = sumN n (fun k => sumN n fun t => A i t * (B t k * C k j)) := sumN_congr fun k _ => by
  rw [← sumN_mul_right]; exact sumN_congr fun t _ => by rw [Int.mul_assoc]
 rw [a, sumN_swap]; exact sumN_congr fun t _ => sumN_mul _ _ _
theorem zero_of_powers (hp : 1 < p) (x : Int) (h : ∀ s : Nat, p ^ s ∣ x) : x = 0 := by
 have hlt : ∀ s : Nat, (s : Int) < p ^ s := fun s => by
  induction s with
  | zero => simp
  | succ s ih =>
   rw [Int.pow_succ]
   have h1 : (1 : Int) ≤ p ^ s := by omega
   have : p ^ s * 2 ≤ p ^ s * p := Int.mul_le_mul_of_nonneg_left (by omega) (by omega)
   omega
 apply Classical.byContradiction
 intro hx
 have h1 := hlt x.natAbs
 have h2 := h x.natAbs
 have h3 : p ^ x.natAbs ≤ (x.natAbs : Int) := by
  have h4 : p ^ x.natAbs ∣ (x.natAbs : Int) := Int.dvd_natAbs.2 h2
  exact Int.le_of_dvd (by omega) h4
 omega
theorem sum_dvd (q : Int) (n : Nat) (f : Nat → Int) (h : ∀ i, i < n → q ∣ f i) : q ∣ sumN n f := by
 induction n with
 | zero => exact ⟨0, by simp [sumN]⟩
 | succ n ih =>
  obtain ⟨a, ha⟩ := ih (fun i hi => h i (by omega)); obtain ⟨b, hb⟩ := h n (by omega)
  exact ⟨a + b, by simp only [sumN]; rw [ha, hb, Int.mul_add]⟩
theorem two_sided (hp : 1 < p) (n : Nat) (A M R : Nat → Nat → Int) (hA : ∀ k, k < n → ∀ j, j < n → (sumN n fun t => A k t * M t j) = dl k j)
  (hR : ∀ k, k < n → ∀ j, j < n → Cg p (sumN n fun t => M k t * R t j) (dl k j)) :
  ∀ k, k < n → ∀ j, j < n → (sumN n fun t => M k t * A t j) = dl k j := by
 have hAR : ∀ k, k < n → ∀ j, j < n → Cg p (A k j) (R k j) := fun k hk j hj => by
  have a : Cg p (sumN n fun t => A k t * (sumN n fun u => M t u * R u j)) (A k j) := by
   have := Cg.sum (n := n) (f := fun t => A k t * (sumN n fun u => M t u * R u j)) (g := fun t => A k t * dl t j) (fun t ht => (hR t ht j hj).mul_left _)
   rwa [sum_dl_right n j hj] at this
  rw [← mul3, sumN_congr (g := fun u => dl k u * R u j) (fun u hu => by rw [hA k hk u hu]), sum_dl_left n k hk] at a
  exact a.symm
 let E : Nat → Nat → Int := fun k j => dl k j - sumN n fun t => M k t * A t j
 have hE0 : ∀ k, k < n → ∀ j, j < n → p ∣ E k j := fun k hk j hj => by
  have a : Cg p (sumN n fun t => M k t * A t j) (dl k j) := (Cg.sum fun t ht => (hAR t ht j hj).mul_left _).trans (hR k hk j hj)
  exact a.symm
 have hAMA : ∀ k, k < n → ∀ j, j < n → (sumN n fun u => (sumN n fun t => M k t * A t u) * (sumN n fun t => M u t * A t j)) = sumN n fun t => M k t * A t j := fun k hk j hj => by
  rw [mul3 n M A (fun u j => sumN n fun t => M u t * A t j) k j]
  refine sumN_congr fun t ht => ?_
  rw [show (sumN n fun u => A t u * sumN n fun s => M u s * A s j) = A t j from ?_]
  rw [← mul3 n A M A t j, sumN_congr (g := fun u => dl t u * A u j) (fun u hu => by rw [hA t ht u hu]), sum_dl_left n t ht]
 have hEE : ∀ k, k < n → ∀ j, j < n → E k j = sumN n fun u => E k u * E u j := fun k hk j hj => by
  have a : (sumN n fun u => E k u * E u j) = sumN n fun u => (dl k u * E u j) + ((-1) * ((sumN n fun t => M k t * A t u) * dl u j) + (sumN n fun t => M k t * A t u) * (sumN n fun t => M u t * A t j)) := sumN_congr fun u _ => by
   simp only [E]; grind
  rw [a, sumN_add, sumN_add, sumN_mul, sum_dl_left n k hk, sum_dl_right n j hj, hAMA k hk j hj]; omega
 have hall : ∀ s : Nat, ∀ k, k < n → ∀ j, j < n → p ^ s ∣ E k j := fun s => by
  induction s with
  | zero => intro k _ j _; exact ⟨E k j, by simp⟩
  | succ s ih =>
   intro k hk j hj
   rw [hEE k hk j hj, Int.pow_succ]
   exact sum_dvd _ _ _ fun u hu => Int.mul_dvd_mul (ih k hk u hu) (hE0 u hu j hj)
 intro k hk j hj
 have := zero_of_powers hp (E k j) (fun s => hall s k hk j hj)
 simp only [E] at this; omega
end AffMath
