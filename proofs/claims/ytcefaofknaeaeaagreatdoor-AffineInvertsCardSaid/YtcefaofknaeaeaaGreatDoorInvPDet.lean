/- The reference's Determinant, cofactor and Invert, as told by the print, for at most three dimensions and small numbers; and that they find the map that undoes another one; plain Lean. -/
import Derived.Test.YtcefaofknaeaeaaGreatDoorInvPRef
import Derived.Test.YtcefaofknaeaeaaGreatDoorInvXi
import Derived.KernelRfl
set_option linter.unusedVariables false
set_option linter.unusedSimpArgs false
set_option linter.unusedSectionVars false
namespace Go.Proofs.YtcefaofknaeaeaaGreatDoor.X
open Go.RowKit Go.Proofs.YtcefaofknaeaeaaGreatDoorW.PrintWords Go.Proofs.YtcefaofknaeaeaaGreatDoorW.PrintLast Go.Proofs.YtcefaofknaeaeaaGreatDoorW.PrintMore AffMath
def detS (n : Nat) (m : Nat → Nat → Int) : Int :=
 if n = 0 then 1 else if n = 1 then m 0 0 else if n = 2 then m 0 0 * m 1 1 - m 0 1 * m 1 0
 else m 0 0 * (m 1 1 * m 2 2 - m 1 2 * m 2 1) + m 0 1 * (m 1 2 * m 2 0 - m 1 0 * m 2 2) + m 0 2 * (m 1 0 * m 2 1 - m 1 1 * m 2 0)
def cofS (n : Nat) (m : Nat → Nat → Int) (r c : Nat) : Int :=
 if n = 1 then 1 else if n = 2 then (if (r + c) % 2 = 1 then -(m (1 - r) (1 - c)) else m (1 - r) (1 - c))
 else m ((r + 1) % 3) ((c + 1) % 3) * m ((r + 2) % 3) ((c + 2) % 3) - m ((r + 1) % 3) ((c + 2) % 3) * m ((r + 2) % 3) ((c + 1) % 3)
theorem below3 {i : Nat} (h : i < 3) : i = 0 ∨ i = 1 ∨ i = 2 := by omega
theorem adj_right {n : Nat} (hn : n ≤ 3) (m : Nat → Nat → Int) (i j : Nat) (hi : i < n) (hj : j < n) : (sumN n fun t => m i t * cofS n m j t) = detS n m * dl i j := by
 have : n = 1 ∨ n = 2 ∨ n = 3 := by omega
 rcases this with rfl | rfl | rfl
 ·obtain rfl : i = 0 := by omega
  obtain rfl : j = 0 := by omega
  simp [sumN, cofS, detS, dl]
 ·have h1 : i = 0 ∨ i = 1 := by omega
  have h2 : j = 0 ∨ j = 1 := by omega
  rcases h1 with rfl | rfl <;> rcases h2 with rfl | rfl <;> simp [sumN, cofS, detS, dl] <;> grind
 ·rcases below3 hi with rfl | rfl | rfl <;> rcases below3 hj with rfl | rfl | rfl <;> simp [sumN, cofS, detS, dl] <;> grind
theorem adj_left {n : Nat} (hn : n ≤ 3) (m : Nat → Nat → Int) (i j : Nat) (hi : i < n) (hj : j < n) : (sumN n fun t => cofS n m t i * m t j) = detS n m * dl i j := by
 have : n = 1 ∨ n = 2 ∨ n = 3 := by omega
 rcases this with rfl | rfl | rfl
 ·obtain rfl : i = 0 := by omega
  obtain rfl : j = 0 := by omega
  simp [sumN, cofS, detS, dl]
 ·have h1 : i = 0 ∨ i = 1 := by omega
  have h2 : j = 0 ∨ j = 1 := by omega
  rcases h1 with rfl | rfl <;> rcases h2 with rfl | rfl <;> simp [sumN, cofS, detS, dl] <;> grind
 ·rcases below3 hi with rfl | rfl | rfl <;> rcases below3 hj with rfl | rfl | rfl <;> simp [sumN, cofS, detS, dl] <;> grind
theorem det_mul3 (a b c d e f g h i A B C D E F G H I : Int) :
  (A*a+B*d+C*g)*((D*b+E*e+F*h)*(G*c+H*f+I*i)-(D*c+E*f+F*i)*(G*b+H*e+I*h)) + (A*b+B*e+C*h)*((D*c+E*f+F*i)*(G*a+H*d+I*g)-(D*a+E*d+F*g)*(G*c+H*f+I*i)) + (A*c+B*f+C*i)*((D*a+E*d+F*g)*(G*b+H*e+I*h)-(D*b+E*e+F*h)*(G*a+H*d+I*g))
   = (A*(E*I-F*H)+B*(F*G-D*I)+C*(D*H-E*G)) * (a*(e*i-f*h)+b*(f*g-d*i)+c*(d*h-e*g)) := by grind
theorem det_of_inv {n : Nat} (hn : n ≤ 3) (A m : Nat → Nat → Int) (h : ∀ i, i < n → ∀ j, j < n → (sumN n fun t => A i t * m t j) = dl i j) : detS n A * detS n m = 1 := by
 have : n = 0 ∨ n = 1 ∨ n = 2 ∨ n = 3 := by omega
 rcases this with rfl | rfl | rfl | rfl
 ·rfl
 ·have h0 := h 0 (by omega) 0 (by omega)
  simp [sumN, dl] at h0
  simpa [detS] using h0
 ·have h00 := h 0 (by omega) 0 (by omega)
  have h01 := h 0 (by omega) 1 (by omega)
  have h10 := h 1 (by omega) 0 (by omega)
  have h11 := h 1 (by omega) 1 (by omega)
  simp [sumN, dl] at h00 h01 h10 h11
  have e : detS 2 A * detS 2 m = (A 0 0 * m 0 0 + A 0 1 * m 1 0) * (A 1 0 * m 0 1 + A 1 1 * m 1 1) - (A 0 0 * m 0 1 + A 0 1 * m 1 1) * (A 1 0 * m 0 0 + A 1 1 * m 1 0) := by
   simp [detS]; grind
  rw [e, h00, h01, h10, h11]; rfl
 ·have h00 := h 0 (by omega) 0 (by omega)
  have h01 := h 0 (by omega) 1 (by omega)
  have h02 := h 0 (by omega) 2 (by omega)
  have h10 := h 1 (by omega) 0 (by omega)
  have h11 := h 1 (by omega) 1 (by omega)
  have h12 := h 1 (by omega) 2 (by omega)
  have h20 := h 2 (by omega) 0 (by omega)
  have h21 := h 2 (by omega) 1 (by omega)
  have h22 := h 2 (by omega) 2 (by omega)
  simp [sumN, dl] at h00 h01 h02 h10 h11 h12 h20 h21 h22
  have e := det_mul3 (m 0 0) (m 0 1) (m 0 2) (m 1 0) (m 1 1) (m 1 2) (m 2 0) (m 2 1) (m 2 2) (A 0 0) (A 0 1) (A 0 2) (A 1 0) (A 1 1) (A 1 2) (A 2 0) (A 2 1) (A 2 2)
  rw [h00, h01, h02, h10, h11, h12, h20, h21, h22] at e
  have e2 : detS 3 A * detS 3 m = (A 0 0 * (A 1 1 * A 2 2 - A 1 2 * A 2 1) + A 0 1 * (A 1 2 * A 2 0 - A 1 0 * A 2 2) + A 0 2 * (A 1 0 * A 2 1 - A 1 1 * A 2 0)) * (m 0 0 * (m 1 1 * m 2 2 - m 1 2 * m 2 1) + m 0 1 * (m 1 2 * m 2 0 - m 1 0 * m 2 2) + m 0 2 * (m 1 0 * m 2 1 - m 1 1 * m 2 0)) := by simp [detS]
  rw [e2, ← e]; rfl
theorem unit_of_mul {a b : Int} (h : a * b = 1) : b = 1 ∨ b = -1 := by
 have h1 : a.natAbs * b.natAbs = 1 := by rw [← Int.natAbs_mul, h]; rfl
 have h2 := Nat.eq_one_of_mul_eq_one_left h1
 omega
theorem mulb {x y : Int} (hx : -1000 ≤ x ∧ x ≤ 1000) (hy : -1000 ≤ y ∧ y ≤ 1000) : -1000000 ≤ x * y ∧ x * y ≤ 1000000 := by
 have := mul_bound (a := x) (x := y) (b := 1000) (by omega) hy (by omega)
 have h1 : x * y ≤ 1000000 := by
  rcases Int.le_total 0 x with h | h
  ·have : x * y ≤ x * 1000 := Int.mul_le_mul_of_nonneg_left hy.2 h
   omega
  ·have : x * y ≤ x * (-1000) := Int.mul_le_mul_of_nonpos_left h hy.1
   omega
 have h2 : -1000000 ≤ x * y := by
  rcases Int.le_total 0 x with h | h
  ·have : x * (-1000) ≤ x * y := Int.mul_le_mul_of_nonneg_left hy.1 h
   omega
  ·have : x * 1000 ≤ x * y := Int.mul_le_mul_of_nonpos_left h hy.2
   omega
 exact ⟨h1 |> fun _ => h2, h1⟩
theorem mulc {x y : Int} (hx : -1000 ≤ x ∧ x ≤ 1000) (hy : -2000000 ≤ y ∧ y ≤ 2000000) : -2000000000 ≤ x * y ∧ x * y ≤ 2000000000 := by
 have h1 : x * y ≤ 2000000000 := by
  rcases Int.le_total 0 x with h | h
  ·have : x * y ≤ x * 2000000 := Int.mul_le_mul_of_nonneg_left hy.2 h
   omega
  ·have : x * y ≤ x * (-2000000) := Int.mul_le_mul_of_nonpos_left h hy.1
   omega
 have h2 : -2000000000 ≤ x * y := by
  rcases Int.le_total 0 x with h | h
  ·have : x * (-2000000) ≤ x * y := Int.mul_le_mul_of_nonneg_left hy.1 h
   omega
  ·have : x * 2000000 ≤ x * y := Int.mul_le_mul_of_nonpos_left h hy.2
   omega
 exact ⟨h2, h1⟩
theorem minor_w {p q r s : Int} (hp : -1000 ≤ p ∧ p ≤ 1000) (hq : -1000 ≤ q ∧ q ≤ 1000) (hr : -1000 ≤ r ∧ r ≤ 1000) (hs : -1000 ≤ s ∧ s ≤ 1000) :
  wrap64 (wrap64 (p * q) - wrap64 (r * s)) = p * q - r * s ∧ wrap64 (-(wrap64 (wrap64 (p * q) - wrap64 (r * s)))) = -(p * q - r * s) ∧ (-2000000 ≤ p * q - r * s ∧ p * q - r * s ≤ 2000000) := by
 have h1 := mulb hp hq
 have h2 := mulb hr hs
 rw [wrap_id (x := p * q) (by omega) (by omega), wrap_id (x := r * s) (by omega) (by omega), wrap_id (x := p * q - r * s) (by omega) (by omega), wrap_id (x := -(p * q - r * s)) (by omega) (by omega)]
 exact ⟨rfl, rfl, by omega⟩
def SmallM (n : Nat) (l : List (List Int)) : Prop := ∀ i, i < n → ∀ j, j < n + 1 → -1000 ≤ mE l i j ∧ mE l i j ≤ 1000
theorem shape1 {l : List (List Int)} (h : l.length = 1) (hr : ∀ i : Nat, i < 1 → (rd_L1 l i).length = 2) : ∃ a t, l = [[a, t]] := by
 match l, h, hr with
 | [x], _, hr =>
  have h0 : x.length = 2 := hr 0 (by omega)
  match x, h0 with
  | [a, t], _ => exact ⟨a, t, rfl⟩
theorem shape2 {l : List (List Int)} (h : l.length = 2) (hr : ∀ i : Nat, i < 2 → (rd_L1 l i).length = 3) : ∃ a b t d e u, l = [[a, b, t], [d, e, u]] := by
 match l, h, hr with
 | [x, y], _, hr =>
  have h0 : x.length = 3 := hr 0 (by omega)
  have h1 : y.length = 3 := hr 1 (by omega)
  match x, h0, y, h1 with
  | [a, b, t], _, [d, e, u], _ => exact ⟨a, b, t, d, e, u, rfl⟩
theorem shape3 {l : List (List Int)} (h : l.length = 3) (hr : ∀ i : Nat, i < 3 → (rd_L1 l i).length = 4) : ∃ a b c t d e f u g h i v, l = [[a, b, c, t], [d, e, f, u], [g, h, i, v]] := by
 match l, h, hr with
 | [x, y, z], _, hr =>
  have h0 : x.length = 4 := hr 0 (by omega)
  have h1 : y.length = 4 := hr 1 (by omega)
  have h2 : z.length = 4 := hr 2 (by omega)
  match x, h0, y, h1, z, h2 with
  | [a, b, c, t], _, [d, e, f, u], _, [g, h, i, v], _ => exact ⟨a, b, c, t, d, e, f, u, g, h, i, v, rfl⟩
theorem cof1_ (a t : Int) : demoticref19_cofactor.f 40 1 [[a, t]] 0 0 = some 1 := by kernel_rfl
theorem cof2_00 (a b t d e u : Int) : demoticref19_cofactor.f 40 2 [[a, b, t], [d, e, u]] 0 0 = some e := by kernel_rfl
theorem cof2_01 (a b t d e u : Int) : demoticref19_cofactor.f 40 2 [[a, b, t], [d, e, u]] 0 1 = some (wrap64 (-d)) := by kernel_rfl
theorem cof2_10 (a b t d e u : Int) : demoticref19_cofactor.f 40 2 [[a, b, t], [d, e, u]] 1 0 = some (wrap64 (-b)) := by kernel_rfl
theorem cof2_11 (a b t d e u : Int) : demoticref19_cofactor.f 40 2 [[a, b, t], [d, e, u]] 1 1 = some a := by kernel_rfl
section
variable (a b c t d e f u g h i v : Int)
theorem cof3_00 : demoticref19_cofactor.f 40 3 [[a, b, c, t], [d, e, f, u], [g, h, i, v]] 0 0 = some (wrap64 (wrap64 (e * i) - wrap64 (f * h))) := by kernel_rfl
theorem cof3_01 : demoticref19_cofactor.f 40 3 [[a, b, c, t], [d, e, f, u], [g, h, i, v]] 0 1 = some (wrap64 (-(wrap64 (wrap64 (d * i) - wrap64 (f * g))))) := by kernel_rfl
theorem cof3_02 : demoticref19_cofactor.f 40 3 [[a, b, c, t], [d, e, f, u], [g, h, i, v]] 0 2 = some (wrap64 (wrap64 (d * h) - wrap64 (e * g))) := by kernel_rfl
theorem cof3_10 : demoticref19_cofactor.f 40 3 [[a, b, c, t], [d, e, f, u], [g, h, i, v]] 1 0 = some (wrap64 (-(wrap64 (wrap64 (b * i) - wrap64 (c * h))))) := by kernel_rfl
theorem cof3_11 : demoticref19_cofactor.f 40 3 [[a, b, c, t], [d, e, f, u], [g, h, i, v]] 1 1 = some (wrap64 (wrap64 (a * i) - wrap64 (c * g))) := by kernel_rfl
theorem cof3_12 : demoticref19_cofactor.f 40 3 [[a, b, c, t], [d, e, f, u], [g, h, i, v]] 1 2 = some (wrap64 (-(wrap64 (wrap64 (a * h) - wrap64 (b * g))))) := by kernel_rfl
theorem cof3_20 : demoticref19_cofactor.f 40 3 [[a, b, c, t], [d, e, f, u], [g, h, i, v]] 2 0 = some (wrap64 (wrap64 (b * f) - wrap64 (c * e))) := by kernel_rfl
theorem cof3_21 : demoticref19_cofactor.f 40 3 [[a, b, c, t], [d, e, f, u], [g, h, i, v]] 2 1 = some (wrap64 (-(wrap64 (wrap64 (a * f) - wrap64 (c * d))))) := by kernel_rfl
theorem cof3_22 : demoticref19_cofactor.f 40 3 [[a, b, c, t], [d, e, f, u], [g, h, i, v]] 2 2 = some (wrap64 (wrap64 (a * e) - wrap64 (b * d))) := by kernel_rfl
theorem det3_ : demoticref19_Determinant.f 10 3 [[a, b, c, t], [d, e, f, u], [g, h, i, v]] = some (wrap64 (wrap64 (wrap64 (0 + wrap64 (a * wrap64 (wrap64 (e * i) - wrap64 (f * h)))) + wrap64 (b * wrap64 (wrap64 (f * g) - wrap64 (d * i)))) + wrap64 (c * wrap64 (wrap64 (d * h) - wrap64 (e * g))))) := by kernel_rfl
end
theorem det0_ : demoticref19_Determinant.f 10 0 [] = some 1 := by kernel_rfl
theorem det1_ (a t : Int) : demoticref19_Determinant.f 10 1 [[a, t]] = some a := by kernel_rfl
theorem det2_ (a b t d e u : Int) : demoticref19_Determinant.f 10 2 [[a, b, t], [d, e, u]] = some (wrap64 (wrap64 (a * e) - wrap64 (b * d))) := by kernel_rfl
section
variable {n : Nat} (hn : n ≤ 3) {l : List (List Int)} (hl : l.length = n) (hrow : ∀ i : Nat, i < n → (rd_L1 l i).length = n + 1) (hs : SmallM n l)
include hn hl hrow hs
theorem cof_ev (r c : Nat) (hr : r < n) (hc : c < n) : Ev (fun k => demoticref19_cofactor.f k (n : Int) l (r : Int) (c : Int)) (cofS n (mE l) r c) := by
 have mono := fun k => demoticref19_cofactor.mono (n : Int) l (r : Int) (c : Int) k
 refine Ev.of mono (k := 40) ?_
 have : n = 1 ∨ n = 2 ∨ n = 3 := by omega
 rcases this with rfl | rfl | rfl
 ·obtain ⟨a, t, rfl⟩ := shape1 hl hrow
  obtain rfl : r = 0 := by omega
  obtain rfl : c = 0 := by omega
  exact cof1_ a t
 ·obtain ⟨a, b, t, d, e, u, rfl⟩ := shape2 hl hrow
  have hb : -1000 ≤ b ∧ b ≤ 1000 := hs 0 (by omega) 1 (by omega)
  have hd : -1000 ≤ d ∧ d ≤ 1000 := hs 1 (by omega) 0 (by omega)
  have h1 : r = 0 ∨ r = 1 := by omega
  have h2 : c = 0 ∨ c = 1 := by omega
  rcases h1 with rfl | rfl <;> rcases h2 with rfl | rfl
  ·exact cof2_00 a b t d e u
  ·exact (cof2_01 a b t d e u).trans (congrArg some (wrap_id (by omega) (by omega)))
  ·exact (cof2_10 a b t d e u).trans (congrArg some (wrap_id (by omega) (by omega)))
  ·exact cof2_11 a b t d e u
 ·obtain ⟨a, b, c', t, d, e, f, u, g, h, i, v, rfl⟩ := shape3 hl hrow
  have ha : -1000 ≤ a ∧ a ≤ 1000 := hs 0 (by omega) 0 (by omega)
  have hb : -1000 ≤ b ∧ b ≤ 1000 := hs 0 (by omega) 1 (by omega)
  have hc' : -1000 ≤ c' ∧ c' ≤ 1000 := hs 0 (by omega) 2 (by omega)
  have hd : -1000 ≤ d ∧ d ≤ 1000 := hs 1 (by omega) 0 (by omega)
  have he : -1000 ≤ e ∧ e ≤ 1000 := hs 1 (by omega) 1 (by omega)
  have hf : -1000 ≤ f ∧ f ≤ 1000 := hs 1 (by omega) 2 (by omega)
  have hg : -1000 ≤ g ∧ g ≤ 1000 := hs 2 (by omega) 0 (by omega)
  have hh : -1000 ≤ h ∧ h ≤ 1000 := hs 2 (by omega) 1 (by omega)
  have hi : -1000 ≤ i ∧ i ≤ 1000 := hs 2 (by omega) 2 (by omega)
  rcases below3 hr with rfl | rfl | rfl <;> rcases below3 hc with rfl | rfl | rfl
  ·exact (cof3_00 a b c' t d e f u g h i v).trans (congrArg some ((minor_w he hi hf hh).1.trans (by show _ = e * i - f * h; grind)))
  ·exact (cof3_01 a b c' t d e f u g h i v).trans (congrArg some ((minor_w hd hi hf hg).2.1.trans (by show _ = f * g - d * i; grind)))
  ·exact (cof3_02 a b c' t d e f u g h i v).trans (congrArg some ((minor_w hd hh he hg).1.trans (by show _ = d * h - e * g; grind)))
  ·exact (cof3_10 a b c' t d e f u g h i v).trans (congrArg some ((minor_w hb hi hc' hh).2.1.trans (by show _ = h * c' - i * b; grind)))
  ·exact (cof3_11 a b c' t d e f u g h i v).trans (congrArg some ((minor_w ha hi hc' hg).1.trans (by show _ = i * a - g * c'; grind)))
  ·exact (cof3_12 a b c' t d e f u g h i v).trans (congrArg some ((minor_w ha hh hb hg).2.1.trans (by show _ = g * b - h * a; grind)))
  ·exact (cof3_20 a b c' t d e f u g h i v).trans (congrArg some ((minor_w hb hf hc' he).1.trans (by show _ = b * f - c' * e; grind)))
  ·exact (cof3_21 a b c' t d e f u g h i v).trans (congrArg some ((minor_w ha hf hc' hd).2.1.trans (by show _ = c' * d - a * f; grind)))
  ·exact (cof3_22 a b c' t d e f u g h i v).trans (congrArg some ((minor_w ha he hb hd).1.trans (by show _ = a * e - b * d; grind)))
theorem cof_bound (r c : Nat) (hr : r < n) (hc : c < n) : -2000000 ≤ cofS n (mE l) r c ∧ cofS n (mE l) r c ≤ 2000000 := by
 have : n = 1 ∨ n = 2 ∨ n = 3 := by omega
 rcases this with rfl | rfl | rfl
 ·simp [cofS]
 ·have h := hs (1 - r) (by omega) (1 - c) (by omega)
  unfold cofS
  rw [if_neg (by omega), if_pos rfl]
  split <;> omega
 ·have h1 := mulb (hs ((r + 1) % 3) (by omega) ((c + 1) % 3) (by omega)) (hs ((r + 2) % 3) (by omega) ((c + 2) % 3) (by omega))
  have h2 := mulb (hs ((r + 1) % 3) (by omega) ((c + 2) % 3) (by omega)) (hs ((r + 2) % 3) (by omega) ((c + 1) % 3) (by omega))
  unfold cofS
  rw [if_neg (by omega), if_neg (by omega)]
  omega
theorem det_ev : Ev (fun k => demoticref19_Determinant.f k (n : Int) l) (detS n (mE l)) := by
 have mono := fun k => demoticref19_Determinant.mono (n : Int) l k
 refine Ev.of mono (k := 10) ?_
 have : n = 0 ∨ n = 1 ∨ n = 2 ∨ n = 3 := by omega
 rcases this with rfl | rfl | rfl | rfl
 ·obtain rfl : l = [] := List.eq_nil_of_length_eq_zero hl
  exact det0_
 ·obtain ⟨a, t, rfl⟩ := shape1 hl hrow
  exact det1_ a t
 ·obtain ⟨a, b, t, d, e, u, rfl⟩ := shape2 hl hrow
  have ha : -1000 ≤ a ∧ a ≤ 1000 := hs 0 (by omega) 0 (by omega)
  have hb : -1000 ≤ b ∧ b ≤ 1000 := hs 0 (by omega) 1 (by omega)
  have hd : -1000 ≤ d ∧ d ≤ 1000 := hs 1 (by omega) 0 (by omega)
  have he : -1000 ≤ e ∧ e ≤ 1000 := hs 1 (by omega) 1 (by omega)
  exact (det2_ a b t d e u).trans (congrArg some (minor_w ha he hb hd).1)
 ·obtain ⟨a, b, c', t, d, e, f, u, g, h, i, v, rfl⟩ := shape3 hl hrow
  have ha : -1000 ≤ a ∧ a ≤ 1000 := hs 0 (by omega) 0 (by omega)
  have hb : -1000 ≤ b ∧ b ≤ 1000 := hs 0 (by omega) 1 (by omega)
  have hc' : -1000 ≤ c' ∧ c' ≤ 1000 := hs 0 (by omega) 2 (by omega)
  have hd : -1000 ≤ d ∧ d ≤ 1000 := hs 1 (by omega) 0 (by omega)
  have he : -1000 ≤ e ∧ e ≤ 1000 := hs 1 (by omega) 1 (by omega)
  have hf : -1000 ≤ f ∧ f ≤ 1000 := hs 1 (by omega) 2 (by omega)
  have hg : -1000 ≤ g ∧ g ≤ 1000 := hs 2 (by omega) 0 (by omega)
  have hh : -1000 ≤ h ∧ h ≤ 1000 := hs 2 (by omega) 1 (by omega)
  have hi : -1000 ≤ i ∧ i ≤ 1000 := hs 2 (by omega) 2 (by omega)
  refine (det3_ a b c' t d e f u g h i v).trans (congrArg some ?_)
  obtain ⟨m1, _, b1⟩ := minor_w he hi hf hh
  obtain ⟨m2, _, b2⟩ := minor_w hf hg hd hi
  obtain ⟨m3, _, b3⟩ := minor_w hd hh he hg
  rw [m1, m2, m3]
  have k1 := mulc ha b1
  have k2 := mulc hb b2
  have k3 := mulc hc' b3
  show _ = a * (e * i - f * h) + b * (f * g - d * i) + c' * (d * h - e * g)
  generalize a * (e * i - f * h) = p1 at k1 ⊢
  generalize b * (f * g - d * i) = p2 at k2 ⊢
  generalize c' * (d * h - e * g) = p3 at k3 ⊢
  rw [wrap_id (x := p1) (by omega) (by omega), wrap_id (x := p2) (by omega) (by omega), wrap_id (x := p3) (by omega) (by omega), wrap_id (x := 0 + p1) (by omega) (by omega), wrap_id (x := 0 + p1 + p2) (by omega) (by omega), wrap_id (x := 0 + p1 + p2 + p3) (by omega) (by omega)]
  omega
end
end Go.Proofs.YtcefaofknaeaeaaGreatDoor.X
