/- What affine.Compose computes, as told by the print, is the composed map: plain Lean. -/
import Derived.Test.YtcefaofknaeaeaaGreatDoorComXe
import Derived.Test.YtcefaofknaeaeaaGreatDoorComHApply
import Derived.Test.YtcefaofknaeaeaaGreatDoorComAlg
set_option linter.unusedVariables false
set_option linter.unusedSimpArgs false
namespace Go.Proofs.YtcefaofknaeaeaaGreatDoor.X
open Go.RowKit Go.Proofs.YtcefaofknaeaeaaGreatDoorW.PrintWords Go.Proofs.YtcefaofknaeaeaaGreatDoorW.PrintLast Go.Proofs.YtcefaofknaeaeaaGreatDoorW.PrintMore AffMath
theorem wrap_id {x : Int} (h1 : -9223372036854775808 ≤ x) (h2 : x ≤ 9223372036854775807) : wrap64 x = x := by unfold wrap64; omega
theorem rd_nat (xs : List Int) (i : Nat) : rd xs (i : Int) = xs.getD i 0 := by unfold rd; rw [Int.toNat_natCast]
theorem getD_set (xs : List Int) (i t : Nat) (v : Int) (h : i < xs.length) : (xs.set i v).getD t 0 = if t = i then v else xs.getD t 0 := by
 rw [List.getD_eq_getElem?_getD, List.getElem?_set]
 by_cases e : t = i
 ·subst e; rw [if_pos rfl, if_pos rfl, if_pos h]; rfl
 ·rw [if_neg (fun h => e h.symm), if_neg e, List.getD_eq_getElem?_getD]
theorem list_eq_map {xs : List Int} {n : Nat} {f : Nat → Int} (h : xs.length = n) (hf : ∀ t, t < n → xs.getD t 0 = f t) : xs = (List.range n).map f := by
 apply List.ext_getElem?
 intro t
 rw [List.getElem?_map]
 by_cases ht : t < n
 ·rw [List.getElem?_range ht, List.getElem?_eq_getElem (by omega), ← getD_lt (by omega), hf t ht]; rfl
 ·rw [List.getElem?_eq_none (by omega), List.getElem?_eq_none (by simp; omega)]; rfl
def pEnt (r : List Int) (b : List (List Int)) (m i t : Nat) : Int := (if t = m then r.getD b.length 0 else 0) + sumN i fun u => r.getD u 0 * (rd_L1 b u).getD t 0
def compRow (b : List (List Int)) (m : Nat) (r : List Int) : List Int := (List.range (m + 1)).map (pEnt r b m b.length)
def composeS (d1 : Int) (l1 : List (List Int)) (d2 : Int) (l2 : List (List Int)) : Int × List (List Int) × Int :=
 if rightB d1 l1 = true ∧ rightB d2 l2 = true then
  if (l2.length : Int) = d1 then
   if rightB d2 (l1.map (compRow l2 d2.toNat)) = true then (d2, l1.map (compRow l2 d2.toNat), 0) else (0, [], 2)
  else (0, [], 1)
 else (0, [], 190)
section
variable {r : List Int} {b : List (List Int)} {m : Nat} (hm6 : m ≤ 6) (hb6 : b.length ≤ 6) (hrl : r.length = b.length + 1) (hr : ∀ j : Nat, j < r.length → -1000000 ≤ r.getD j 0 ∧ r.getD j 0 ≤ 1000000)
 (hbl : ∀ i : Nat, i < b.length → (rd_L1 b i).length = m + 1) (hbr : ∀ i : Nat, i < b.length → ∀ j : Nat, j < m + 1 → -1000000 ≤ (rd_L1 b i).getD j 0 ∧ (rd_L1 b i).getD j 0 ≤ 1000000)
include hrl hr hbr
theorem prod_small (i t : Nat) (hi : i < b.length) (ht : t < m + 1) : -1000000000000 ≤ r.getD i 0 * (rd_L1 b i).getD t 0 ∧ r.getD i 0 * (rd_L1 b i).getD t 0 ≤ 1000000000000 := by
 have := mul_bound (b := 1000000) (hr i (by omega)) (hbr i hi t ht) (by omega)
 omega
include hb6
theorem pEnt_small (i t : Nat) (hi : i ≤ b.length) (ht : t < m + 1) : -7000000000000 ≤ pEnt r b m i t ∧ pEnt r b m i t ≤ 7000000000000 := by
 have h1 := sumN_le (n := i) (f := fun u => r.getD u 0 * (rd_L1 b u).getD t 0) (b := 1000000000000) (fun u hu => prod_small hrl hr hbr u t (by omega) ht)
 have h2 := hr b.length (by omega)
 unfold pEnt
 split <;> omega
include hbl hm6
theorem compose_l2 {x36 : List (List Int)} {x37 x38 y0 : Int} {y1 : List (List Int)} {y2 : Int} {y3 : List (List Int)} {y4 : Int} {y5 : List (List Int)} {R : Int × List (List Int) × Int} (i : Nat) (hi : i < b.length)
  (H : ∀ out : List Int, out.length = m + 1 → (∀ t, t < m + 1 → out.getD t 0 = pEnt r b m (i + 1) t) → ∃ k, affine_Compose.l1 k r out x36 x37 x38 b (b.length : Int) ((i : Int) + 1) y0 y1 y2 y3 y4 y5 = some R) :
  ∀ (e j : Nat) (out : List Int), j + e = m + 1 → out.length = m + 1 → (∀ t, t < m + 1 → out.getD t 0 = if t < j then pEnt r b m (i + 1) t else pEnt r b m i t) →
   ∃ k, affine_Compose.l2 k r out (i : Int) x36 x37 x38 b (b.length : Int) (i : Int) (rd_L1 b i) ((m + 1 : Nat) : Int) (j : Int) y0 y1 y2 y3 y4 y5 = some R
 | 0, j, out, hj, hl, ho => by
  obtain ⟨k, hk⟩ := H out hl (fun t ht => by rw [ho t ht, if_pos (by omega)])
  refine ⟨k + 1, ?_⟩
  simp only [affine_Compose.l2]
  rw [if_neg (by omega), wrap_id (by omega) (by omega)]
  exact hk
 | e + 1, j, out, hj, hl, ho => by
  have hp := prod_small hrl hr hbr i j hi (by omega)
  have hq := pEnt_small hb6 hrl hr hbr i j (by omega) (by omega)
  have hv : wrap64 (rd out (j : Int) + wrap64 (rd r (i : Int) * rd (rd_L1 b i) (j : Int))) = pEnt r b m (i + 1) j := by
   rw [rd_nat, rd_nat, rd_nat, ho j (by omega), if_neg (by omega), wrap_id (x := r.getD i 0 * (rd_L1 b i).getD j 0) (by omega) (by omega), wrap_id (by omega) (by omega)]
   unfold pEnt
   simp only [sumN]; omega
  obtain ⟨k, hk⟩ := compose_l2 i hi H e (j + 1) (out.set j (pEnt r b m (i + 1) j)) (by omega) (by rw [List.length_set]; exact hl) (fun t ht => by
   rw [getD_set out j t _ (by omega)]
   by_cases e1 : t = j
   ·subst e1; rw [if_pos rfl, if_pos (by omega)]
   ·rw [if_neg e1, ho t ht]
    by_cases e2 : t < j
    ·rw [if_pos e2, if_pos (by omega)]
    ·rw [if_neg e2, if_neg (by omega)])
  have hbl' := hbl i hi
  refine ⟨k + 1, ?_⟩
  simp only [affine_Compose.l2]
  rw [if_pos (by omega), if_pos (by omega), if_pos (by omega), if_pos (by omega), if_pos (by omega), if_pos (by omega), hv, Int.toNat_natCast, wrap_id (by omega) (by omega)]
  exact hk
theorem compose_l1 {x36 : List (List Int)} {x37 x38 y0 : Int} {y1 : List (List Int)} {y2 : Int} {y3 : List (List Int)} {y4 : Int} {y5 : List (List Int)} {R : Int × List (List Int) × Int} (h5 : y5.length < 5864062014805)
  (H : ∃ k, affine_Compose.l0 k x36 x37 (wrap64 (x38 + 1)) y0 y1 y2 y3 y4 (y5 ++ [compRow b m r]) = some R) :
  ∀ (e i : Nat) (out : List Int), i + e = b.length → out.length = m + 1 → (∀ t, t < m + 1 → out.getD t 0 = pEnt r b m i t) →
   ∃ k, affine_Compose.l1 k r out x36 x37 x38 b (b.length : Int) (i : Int) y0 y1 y2 y3 y4 y5 = some R
 | 0, i, out, hi, hl, ho => by
  obtain ⟨k, hk⟩ := H
  have e : out = compRow b m r := list_eq_map hl (fun t ht => by rw [ho t ht, show i = b.length by omega])
  refine ⟨k + 1, ?_⟩
  simp only [affine_Compose.l1]
  rw [if_neg (by omega), if_pos h5, e]
  exact hk
 | e + 1, i, out, hi, hl, ho => by
  obtain ⟨k, hk⟩ := compose_l2 hm6 hb6 hrl hr hbl hbr i (by omega) (fun out' hl' ho' => by
   have := compose_l1 h5 H e (i + 1) out' (by omega) hl' ho'
   rwa [show ((i + 1 : Nat) : Int) = (i : Int) + 1 by omega] at this) (m + 1) 0 out (by omega) hl (fun t ht => by rw [if_neg (by omega)]; exact ho t ht)
  refine ⟨k + 1, ?_⟩
  simp only [affine_Compose.l1]
  rw [if_pos (by omega), if_pos (by omega), if_pos (by omega), hbl i (by omega)]
  exact hk
end
theorem compose_l0 {d1 : Int} {l1 : List (List Int)} {d2 : Int} {l2 : List (List Int)} (h1 : rightB d1 l1 = true) (h2 : rightB d2 l2 = true) (h12 : (l2.length : Int) = d1) (A : Int) (B : List (List Int)) (C : Int) :
  ∀ (e i : Nat), i + e = l1.length →
   ∃ k, affine_Compose.l0 k l1 (l1.length : Int) (i : Int) d1 B d2 l2 d2 ((l1.take i).map (compRow l2 d2.toNat)) = some (if rightB d2 (l1.map (compRow l2 d2.toNat)) = true then (d2, l1.map (compRow l2 d2.toNat), 0) else (0, [], 2))
 | 0, i, hi => by
  refine ⟨1, ?_⟩
  simp only [affine_Compose.l0]
  rw [if_neg (by omega), List.take_of_length_le (by omega)]
  unfold affine_Map_right.f
  simp only [Option.bind_some]
  split <;> rfl
 | e + 1, i, hi => by
  obtain ⟨a0, a1, a2⟩ := rightB_dims h1
  obtain ⟨b0, b1, b2⟩ := rightB_dims h2
  obtain ⟨hn, hs⟩ := rightB_row h1 i (by omega)
  obtain ⟨m, hm⟩ := Int.eq_ofNat_of_zero_le b0
  subst hm
  have hlen : (l1.take i).length = i := by rw [List.length_take]; omega
  obtain ⟨k0, hk0⟩ := compose_l0 h1 h2 h12 A B C e (i + 1) (by omega)
  have hnext : ∃ k, affine_Compose.l0 k l1 (l1.length : Int) (wrap64 ((i : Int) + 1)) d1 B (m : Int) l2 (m : Int) ((l1.take i).map (compRow l2 m) ++ [compRow l2 m (rd_L1 l1 i)]) = some (if rightB (m : Int) (l1.map (compRow l2 m)) = true then ((m : Int), l1.map (compRow l2 m), 0) else (0, [], 2)) := by
   refine ⟨k0, ?_⟩
   rw [Int.toNat_natCast] at hk0
   rw [wrap_id (by omega) (by omega), show (i : Int) + 1 = ((i + 1 : Nat) : Int) by omega, ← hk0]
   congr 1
   rw [List.take_add_one, List.getElem?_eq_getElem (by omega), List.map_append, rd_L1_at (by omega)]; rfl
  have hrow : (rd_L1 l1 i).length = l2.length + 1 := by omega
  obtain ⟨k, hk⟩ := compose_l1 (r := rd_L1 l1 i) (b := l2) (m := m) (by omega) b2 hrow hs (fun t ht => by have := (rightB_row h2 t ht).1; omega)
   (fun t ht j hj => (rightB_row h2 t ht).2 j (by have := (rightB_row h2 t ht).1; omega)) (by rw [List.length_map, hlen]; omega) hnext l2.length 0 ((List.replicate (m + 1) (0 : Int)).set m ((rd_L1 l1 i).getD l2.length 0)) (by omega) (by simp) (fun t ht => by
    rw [getD_set _ _ _ _ (by simp)]
    unfold pEnt
    simp only [sumN]
    by_cases e1 : t = m
    ·rw [if_pos e1, if_pos e1]; omega
    ·rw [if_neg e1, if_neg e1, List.getD_eq_getElem?_getD, List.getElem?_replicate, if_pos (by omega)]; rfl)
  refine ⟨k + 1, ?_⟩
  simp only [affine_Compose.l0]
  have hw : (wrap64 ((m : Int) + 1)).toNat = m + 1 := by rw [wrap_id (by omega) (by omega)]; omega
  rw [if_pos (by omega), if_pos (by omega), if_pos (by omega), if_pos (by rw [wrap_id (by omega) (by omega)]; omega), hw, if_pos (by omega)]
  simp only [Option.bind_some]
  rw [if_pos (by omega), if_pos (by omega), if_pos (by omega), if_pos (by simp; omega), Int.toNat_natCast]
  rw [show rd (rd_L1 l1 (i : Int)) d1 = (rd_L1 l1 i).getD l2.length 0 by rw [← h12, rd_nat]]
  exact hk
theorem compose_eval (d1 : Int) (l1 : List (List Int)) (d2 : Int) (l2 : List (List Int)) : ∃ k, affine_Compose.f k d1 l1 d2 l2 = some (composeS d1 l1 d2 l2) := by
 unfold affine_Compose.f affine_Map_right.f composeS
 simp only [Option.bind_some]
 cases h1 : rightB d1 l1 with
 | false => exact ⟨1, by simp [affine_Compose.j0]⟩
 | true =>
  cases h2 : rightB d2 l2 with
  | false => exact ⟨1, by simp [affine_Compose.j0]⟩
  | true =>
   by_cases h12 : (l2.length : Int) = d1
   ·obtain ⟨k, hk⟩ := compose_l0 h1 h2 h12 0 l1 0 l1.length 0 (by omega)
    refine ⟨k + 1, ?_⟩
    simp only [if_true, Bool.not_true, affine_Compose.j0, Bool.false_eq_true, if_false, and_self]
    rw [if_pos h12, if_pos h12]
    exact hk
   ·refine ⟨1, ?_⟩
    simp only [if_true, Bool.not_true, affine_Compose.j0, Bool.false_eq_true, if_false, and_self]
    rw [if_neg h12, if_neg h12]
end Go.Proofs.YtcefaofknaeaeaaGreatDoor.X
