/- What the reference's Compose computes, as told by the print: plain Lean. -/
import Derived.Test.YtcefaofknaeaeaaGreatDoorComPRef
import Derived.Test.YtcefaofknaeaeaaGreatDoorComXf
set_option linter.unusedVariables false
set_option linter.unusedSimpArgs false
set_option linter.unusedSectionVars false
namespace Go.Proofs.YtcefaofknaeaeaaGreatDoor.X
open Go.RowKit Go.Proofs.YtcefaofknaeaeaaGreatDoorW.PrintWords Go.Proofs.YtcefaofknaeaeaaGreatDoorW.PrintLast Go.Proofs.YtcefaofknaeaeaaGreatDoorW.PrintMore AffMath
section
variable {b : List (List Int)} {m : Nat} {l1 : List (List Int)} {i : Nat} (hm6 : m ≤ 6) (hb6 : b.length ≤ 6) (hl6 : l1.length ≤ 6) (hi1 : i < l1.length) (hrl : (rd_L1 l1 (i : Int)).length = b.length + 1)
 (hr : ∀ j : Nat, j < (rd_L1 l1 (i : Int)).length → -1000000 ≤ (rd_L1 l1 (i : Int)).getD j 0 ∧ (rd_L1 l1 (i : Int)).getD j 0 ≤ 1000000)
 (hbl : ∀ i : Nat, i < b.length → (rd_L1 b i).length = m + 1) (hbr : ∀ i : Nat, i < b.length → ∀ j : Nat, j < m + 1 → -1000000 ≤ (rd_L1 b i).getD j 0 ∧ (rd_L1 b i).getD j 0 ≤ 1000000)
include hrl hr hbr hb6 hbl hm6 hl6 hi1
theorem rcompose_l2 {y0 : Int} {y1 : List (List Int)} {R : Int × List (List Int) × Bool} (u : Nat) (hu : u < b.length)
  (H : ∀ out : List Int, out.length = m + 1 → (∀ t, t < m + 1 → out.getD t 0 = pEnt (rd_L1 l1 (i : Int)) b m (u + 1) t) → ∃ k, demoticref19_Compose.l1 k (i : Int) out ((u : Int) + 1) (b.length : Int) l1 (m : Int) b y0 y1 = some R) :
  ∀ (e j : Nat) (out : List Int), j + e = m + 1 → out.length = m + 1 → (∀ t, t < m + 1 → out.getD t 0 = if t < j then pEnt (rd_L1 l1 (i : Int)) b m (u + 1) t else pEnt (rd_L1 l1 (i : Int)) b m u t) →
   ∃ k, demoticref19_Compose.l2 k (i : Int) out (u : Int) (j : Int) (b.length : Int) l1 (m : Int) b y0 y1 = some R
 | 0, j, out, hj, hl, ho => by
  obtain ⟨k, hk⟩ := H out hl (fun t ht => by rw [ho t ht, if_pos (by omega)])
  refine ⟨k + 1, ?_⟩
  simp only [demoticref19_Compose.l2]
  rw [if_neg (by omega), wrap_id (by omega) (by omega)]
  exact hk
 | e + 1, j, out, hj, hl, ho => by
  have hp := prod_small hrl hr hbr u j hu (by omega)
  have hq := pEnt_small hb6 hrl hr hbr u j (by omega) (by omega)
  have hv : wrap64 (rd out (j : Int) + wrap64 (rd (rd_L1 l1 (i : Int)) (u : Int) * rd (rd_L1 b u) (j : Int))) = pEnt (rd_L1 l1 (i : Int)) b m (u + 1) j := by
   rw [rd_nat, rd_nat, rd_nat, ho j (by omega), if_neg (by omega), wrap_id (x := (rd_L1 l1 (i : Int)).getD u 0 * (rd_L1 b u).getD j 0) (by omega) (by omega), wrap_id (by omega) (by omega)]
   unfold pEnt
   simp only [sumN]; omega
  obtain ⟨k, hk⟩ := rcompose_l2 u hu H e (j + 1) (out.set j (pEnt (rd_L1 l1 (i : Int)) b m (u + 1) j)) (by omega) (by rw [List.length_set]; exact hl) (fun t ht => by
   rw [getD_set out j t _ (by omega)]
   by_cases e1 : t = j
   ·subst e1; rw [if_pos rfl, if_pos (by omega)]
   ·rw [if_neg e1, ho t ht]
    by_cases e2 : t < j
    ·rw [if_pos e2, if_pos (by omega)]
    ·rw [if_neg e2, if_neg (by omega)])
  have hbl' := hbl u hu
  refine ⟨k + 1, ?_⟩
  simp only [demoticref19_Compose.l2]
  rw [if_pos (by omega), if_pos (by omega), if_pos (by omega), if_pos (by omega), if_pos (by omega), if_pos (by omega), if_pos (by omega), if_pos (by omega), if_pos (by omega), hv, Int.toNat_natCast, wrap_id (by omega) (by omega)]
  exact hk
theorem rcompose_l1 {y0 : Int} {y1 : List (List Int)} {R : Int × List (List Int) × Bool} (h5 : y1.length < 5864062014805)
  (H : ∃ k, demoticref19_Compose.l0 k (wrap64 ((i : Int) + 1)) (b.length : Int) l1 (m : Int) b y0 (y1 ++ [compRow b m (rd_L1 l1 (i : Int))]) = some R) :
  ∀ (e u : Nat) (out : List Int), u + e = b.length → out.length = m + 1 → (∀ t, t < m + 1 → out.getD t 0 = pEnt (rd_L1 l1 (i : Int)) b m u t) →
   ∃ k, demoticref19_Compose.l1 k (i : Int) out (u : Int) (b.length : Int) l1 (m : Int) b y0 y1 = some R
 | 0, u, out, hu, hl, ho => by
  obtain ⟨k, hk⟩ := H
  have e : out = compRow b m (rd_L1 l1 (i : Int)) := list_eq_map hl (fun t ht => by rw [ho t ht, show u = b.length by omega])
  refine ⟨k + 1, ?_⟩
  simp only [demoticref19_Compose.l1]
  rw [if_neg (by omega), if_pos h5, e]
  exact hk
 | e + 1, u, out, hu, hl, ho => by
  obtain ⟨k, hk⟩ := rcompose_l2 hm6 hb6 hl6 hi1 hrl hr hbl hbr u (by omega) (fun out' hl' ho' => by
   have := rcompose_l1 h5 H e (u + 1) out' (by omega) hl' ho'
   rwa [show ((u + 1 : Nat) : Int) = (u : Int) + 1 by omega] at this) (m + 1) 0 out (by omega) hl (fun t ht => by rw [if_neg (by omega)]; exact ho t ht)
  refine ⟨k + 1, ?_⟩
  simp only [demoticref19_Compose.l1]
  rw [if_pos (by omega)]
  exact hk
end
theorem rcompose_l0 {d1 : Int} {l1 : List (List Int)} {d2 : Int} {l2 : List (List Int)} (h1 : rightB d1 l1 = true) (h2 : rightB d2 l2 = true) (h12 : (l2.length : Int) = d1) :
  ∀ (e i : Nat), i + e = l1.length →
   ∃ k, demoticref19_Compose.l0 k (i : Int) d1 l1 d2 l2 d2 ((l1.take i).map (compRow l2 d2.toNat)) = some (d2, l1.map (compRow l2 d2.toNat), rightB d2 (l1.map (compRow l2 d2.toNat)))
 | 0, i, hi => by
  obtain ⟨k, hk⟩ := right_eval d2 (l1.map (compRow l2 d2.toNat))
  refine ⟨k + 1, ?_⟩
  simp only [demoticref19_Compose.l0]
  rw [if_neg (by omega), List.take_of_length_le (by omega), hk]
  rfl
 | e + 1, i, hi => by
  obtain ⟨a0, a1, a2⟩ := rightB_dims h1
  obtain ⟨b0, b1, b2⟩ := rightB_dims h2
  obtain ⟨hn, hs⟩ := rightB_row h1 i (by omega)
  obtain ⟨m, hm⟩ := Int.eq_ofNat_of_zero_le b0
  subst hm
  subst h12
  have hlen : (l1.take i).length = i := by rw [List.length_take]; omega
  obtain ⟨k0, hk0⟩ := rcompose_l0 h1 h2 rfl e (i + 1) (by omega)
  have hnext : ∃ k, demoticref19_Compose.l0 k (wrap64 ((i : Int) + 1)) (l2.length : Int) l1 (m : Int) l2 (m : Int) ((l1.take i).map (compRow l2 m) ++ [compRow l2 m (rd_L1 l1 i)]) = some ((m : Int), l1.map (compRow l2 m), rightB (m : Int) (l1.map (compRow l2 m))) := by
   refine ⟨k0, ?_⟩
   rw [Int.toNat_natCast] at hk0
   rw [wrap_id (by omega) (by omega), show (i : Int) + 1 = ((i + 1 : Nat) : Int) by omega, ← hk0]
   congr 1
   rw [List.take_add_one, List.getElem?_eq_getElem (by omega), List.map_append, rd_L1_at (by omega)]; rfl
  have hrow : (rd_L1 l1 i).length = l2.length + 1 := by omega
  obtain ⟨k, hk⟩ := rcompose_l1 (b := l2) (m := m) (l1 := l1) (i := i) (by omega) b2 a2 (by omega) hrow hs (fun t ht => by have := (rightB_row h2 t ht).1; omega)
   (fun t ht j hj => (rightB_row h2 t ht).2 j (by have := (rightB_row h2 t ht).1; omega)) (by rw [List.length_map, hlen]; omega) hnext l2.length 0 ((List.replicate (m + 1) (0 : Int)).set m ((rd_L1 l1 i).getD l2.length 0)) (by omega) (by simp) (fun t ht => by
    rw [getD_set _ _ _ _ (by simp)]
    unfold pEnt
    simp only [sumN]
    by_cases e1 : t = m
    ·rw [if_pos e1, if_pos e1]; omega
    ·rw [if_neg e1, if_neg e1, List.getD_eq_getElem?_getD, List.getElem?_replicate, if_pos (by omega)]; rfl)
  refine ⟨k + 1, ?_⟩
  simp only [demoticref19_Compose.l0]
  have hw : (wrap64 ((m : Int) + 1)).toNat = m + 1 := by rw [wrap_id (by omega) (by omega)]; omega
  rw [if_pos (by omega), if_pos (by rw [wrap_id (by omega) (by omega)]; omega), hw, if_pos (by omega)]
  simp only [Option.bind_some]
  rw [if_pos (by omega), if_pos (by omega), if_pos (by omega), if_pos (by omega), if_pos (by simp; omega), Int.toNat_natCast, rd_nat]
  exact hk
theorem rcompose_eval {d1 : Int} {l1 : List (List Int)} {d2 : Int} {l2 : List (List Int)} (h1 : rightB d1 l1 = true) (h2 : rightB d2 l2 = true) (h12 : (l2.length : Int) = d1) :
  ∃ k, demoticref19_Compose.f k d1 l1 d2 l2 = some (d2, l1.map (compRow l2 d2.toNat), rightB d2 (l1.map (compRow l2 d2.toNat))) := by
 obtain ⟨k, hk⟩ := rcompose_l0 h1 h2 h12 l1.length 0 (by omega)
 exact ⟨k, hk⟩
end Go.Proofs.YtcefaofknaeaeaaGreatDoor.X
