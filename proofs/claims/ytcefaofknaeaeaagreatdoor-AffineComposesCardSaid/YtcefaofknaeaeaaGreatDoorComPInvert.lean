/- The map that undoes another one: what it is, that there is one at most, and how residues tell it; plain Lean. -/
import Derived.Test.YtcefaofknaeaeaaGreatDoorComPCompose
import Derived.Test.YtcefaofknaeaeaaGreatDoorComHSolveM
import Derived.Test.YtcefaofknaeaeaaGreatDoorComHSame
set_option linter.unusedVariables false
set_option linter.unusedSimpArgs false
namespace Go.Proofs.YtcefaofknaeaeaaGreatDoor.X
open Go.RowKit Go.Proofs.YtcefaofknaeaeaaGreatDoorW.PrintWords Go.Proofs.YtcefaofknaeaeaaGreatDoorW.PrintLast Go.Proofs.YtcefaofknaeaeaaGreatDoorW.PrintMore AffMath
def mE (l : List (List Int)) (i j : Nat) : Int := (rd_L1 l i).getD j 0
structure Good (n : Nat) (l C : List (List Int)) : Prop where
 right : rightB (n : Int) C = true
 len : C.length = n
 left : ∀ i, i < n → ∀ j, j < n → (sumN n fun t => mE C i t * mE l t j) = dl i j
 back : ∀ i, i < n → ∀ j, j < n → (sumN n fun t => mE l i t * mE C t j) = dl i j
 last : ∀ i, i < n → mE C i n = -(sumN n fun t => mE C i t * mE l t n)
theorem rows_ext {n m : Nat} {C C' : List (List Int)} (h : C.length = n) (h' : C'.length = n) (hl : ∀ i : Nat, i < n → (rd_L1 C i).length = m) (hl' : ∀ i : Nat, i < n → (rd_L1 C' i).length = m)
  (he : ∀ i, i < n → ∀ j, j < m → mE C i j = mE C' i j) : C = C' := by
 apply List.ext_getElem (by omega)
 intro i h1 h2
 have e1 := rd_L1_at h1
 have e2 := rd_L1_at h2
 rw [← e1, ← e2]
 apply List.ext_getElem (by rw [hl i (by omega), hl' i (by omega)])
 intro j h3 h4
 rw [← getD_lt h3, ← getD_lt h4]
 exact he i (by omega) j (by rw [hl i (by omega)] at h3; exact h3)
theorem right_len {n : Nat} {C : List (List Int)} (h : rightB (n : Int) C = true) (i : Nat) (hi : i < C.length) : (rd_L1 C i).length = n + 1 := by
 have := (rightB_row h i hi).1; omega
theorem right_small {n : Nat} {C : List (List Int)} (h : rightB (n : Int) C = true) (i j : Nat) (hi : i < C.length) (hj : j < n + 1) : -1000000 ≤ mE C i j ∧ mE C i j ≤ 1000000 :=
 (rightB_row h i hi).2 j (by rw [right_len h i hi]; exact hj)
theorem Good.unique {n : Nat} {l C C' : List (List Int)} (h : Good n l C) (h' : Good n l C') : C = C' := by
 have e : ∀ i, i < n → ∀ j, j < n → mE C i j = mE C' i j := fun i hi j hj => by
  have a := mul3 n (mE C) (mE l) (mE C') i j
  rw [sumN_congr (g := fun k => dl i k * mE C' k j) (fun k hk => by rw [h.left i hi k hk]), sum_dl_left n i hi, sumN_congr (n := n) (g := fun t => mE C i t * dl t j) (fun t ht => by rw [h'.back t ht j hj]), sum_dl_right n j hj] at a
  exact a.symm
 refine rows_ext (m := n + 1) h.len h'.len (fun i hi => right_len h.right i (by rw [h.len]; exact hi)) (fun i hi => right_len h'.right i (by rw [h'.len]; exact hi)) (fun i hi j hj => ?_)
 by_cases ej : j = n
 ·subst ej
  rw [h.last i hi, h'.last i hi]
  congr 1
  exact sumN_congr fun t ht => by rw [e i hi t ht]
 ·exact e i hi j (by omega)
open Classical in
noncomputable def invertS (d : Int) (l : List (List Int)) : Int × List (List Int) × Int :=
 if rightB d l = true then
  if (l.length : Int) = d then
   if h : ∃ C, Good d.toNat l C then (d, Classical.choose h, 0) else (0, [], 4)
  else (0, [], 1)
 else (0, [], 190)
theorem invertS_good {n : Nat} {l C : List (List Int)} (hr : rightB (n : Int) l = true) (hl : l.length = n) (h : Good n l C) : invertS (n : Int) l = ((n : Int), C, 0) := by
 unfold invertS
 have hex : ∃ C, Good (n : Int).toNat l C := ⟨C, by rw [Int.toNat_natCast]; exact h⟩
 rw [if_pos hr, if_pos (by omega), dif_pos hex]
 have h2 : Good n l (Classical.choose hex) := Classical.choose_spec hex
 rw [Good.unique h2 h]
theorem invertS_none {n : Nat} {l : List (List Int)} (hr : rightB (n : Int) l = true) (hl : l.length = n) (h : ¬ ∃ C, Good n l C) : invertS (n : Int) l = (0, [], 4) := by
 unfold invertS
 rw [if_pos hr, if_pos (by omega), dif_neg (by rw [Int.toNat_natCast]; exact h)]
theorem Good.not_noInv {n : Nat} {l C : List (List Int)} (h : Good n l C) : ¬ NoInv n (mE l) := fun hn =>
 hn (mE C) fun a ha j hj => Cg.of_eq (h.left a ha j hj)
def nearS (x : Int) : Int := if x > 1073741823 then x - 2147483647 else x
theorem nearS_cg (x : Int) : Cg 2147483647 (nearS x) x := by
 unfold nearS
 split
 ·exact ⟨-1, by omega⟩
 ·exact Cg.refl _
theorem nearS_bound {x : Int} (h : 0 ≤ x ∧ x < 2147483647) : -1073741823 ≤ nearS x ∧ nearS x ≤ 1073741823 := by unfold nearS; split <;> omega
theorem nearS_eq {x c : Int} (h : 0 ≤ x ∧ x < 2147483647) (hc : -1000000 ≤ c ∧ c ≤ 1000000) (hcg : Cg 2147483647 c x) : nearS x = c := by
 have hb := nearS_bound h
 exact ((nearS_cg x).trans hcg.symm).eq_of_near (by omega) (by omega)
section
variable {n : Nat} {l : List (List Int)} {R : Nat → Nat → Int} (hR : ∀ k, k < n → ∀ j, j < n → 0 ≤ R k j ∧ R k j < 2147483647)
 (hRM : ∀ k, k < n → ∀ j, j < n → Cg 2147483647 (sumN n fun t => R k t * mE l t j) (dl k j)) (hMR : ∀ k, k < n → ∀ j, j < n → Cg 2147483647 (sumN n fun t => mE l k t * R t j) (dl k j))
include hMR in
theorem good_cg {C : List (List Int)} (h : Good n l C) : ∀ i, i < n → ∀ j, j < n → Cg 2147483647 (mE C i j) (R i j) := fun i hi j hj => by
 have a : Cg 2147483647 (sumN n fun t => mE C i t * (sumN n fun u => mE l t u * R u j)) (mE C i j) := by
  have := Cg.sum (p := 2147483647) (n := n) (f := fun t => mE C i t * (sumN n fun u => mE l t u * R u j)) (g := fun t => mE C i t * dl t j) (fun t ht => (hMR t ht j hj).mul_left _)
  rwa [sum_dl_right n j hj] at this
 rw [← mul3, sumN_congr (g := fun u => dl i u * R u j) (fun u hu => by rw [h.left i hi u hu]), sum_dl_left n i hi] at a
 exact a.symm
include hR hMR in
theorem good_near {C : List (List Int)} (h : Good n l C) (i j : Nat) (hi : i < n) (hj : j < n) : nearS (R i j) = mE C i j :=
 nearS_eq (hR i hi j hj) (right_small h.right i j (by rw [h.len]; exact hi) (by omega)) (good_cg hMR h i hi j hj)
structure OutRows (n : Nat) (l : List (List Int)) (R : Nat → Nat → Int) (O : List (List Int)) : Prop where
 len : O.length = n
 rlen : ∀ i : Nat, i < n → (rd_L1 O i).length = n + 1
 ent : ∀ i, i < n → ∀ j, j < n → mE O i j = nearS (R i j)
 last : ∀ i, i < n → mE O i n = -(sumN n fun t => nearS (R i t) * mE l t n)
include hR hMR in
theorem OutRows.eq_good {O C : List (List Int)} (ho : OutRows n l R O) (h : Good n l C) : O = C := by
 refine rows_ext (m := n + 1) ho.len h.len ho.rlen (fun i hi => right_len h.right i (by rw [h.len]; exact hi)) (fun i hi j hj => ?_)
 by_cases e : j = n
 ·subst e
  rw [ho.last i hi, h.last i hi]
  congr 1
  exact sumN_congr fun t ht => by rw [good_near hR hMR h i t hi ht]
 ·rw [ho.ent i hi j (by omega), good_near hR hMR h i j hi (by omega)]
include hMR in
theorem OutRows.good {O : List (List Int)} (ho : OutRows n l R O) (hl : l.length = n) (hright : rightB (n : Int) O = true) (hs : sameB (O.map (compRow l n)) = true) : Good n l O := by
 have hent : ∀ i, i < n → ∀ j, j < n + 1 → pEnt (rd_L1 O i) l n n j = oneAt i j := fun i hi j hj => by
  have h1 := sameB_iff.1 hs i (by rw [List.length_map, ho.len]; exact hi)
  have e : rd_L1 (O.map (compRow l n)) i = compRow l n (rd_L1 O i) := by
   rw [rd_L1_at (by rw [List.length_map, ho.len]; exact hi), List.getElem_map, rd_L1_at (by rw [ho.len]; exact hi)]
  rw [e] at h1
  have hlen : (compRow l n (rd_L1 O i)).length = n + 1 := by simp [compRow]
  have := h1 j (by rw [hlen]; exact hj)
  rw [getD_lt (by rw [hlen]; exact hj)] at this
  simpa [compRow, hl] using this
 have hleft : ∀ i, i < n → ∀ j, j < n → (sumN n fun t => mE O i t * mE l t j) = dl i j := fun i hi j hj => by
  have := hent i hi j (by omega)
  unfold pEnt at this
  rw [if_neg (by omega)] at this
  unfold mE
  unfold oneAt at this; unfold dl
  omega
 refine ⟨hright, ho.len, hleft, ?_, fun i hi => ?_⟩
 ·exact two_sided (by omega) n (mE O) (mE l) R hleft hMR
 ·have := hent i hi n (by omega)
  unfold pEnt oneAt at this
  rw [if_pos rfl, if_neg (by omega), hl] at this
  unfold mE
  omega
end
theorem Good.compose {n : Nat} {l C : List (List Int)} (h : Good n l C) (hl : l.length = n) : sameB (C.map (compRow l n)) = true ∧ rightB (n : Int) (C.map (compRow l n)) = true := by
 obtain ⟨_, h6, h6'⟩ := rightB_dims h.right
 have e : ∀ i, i < n → rd_L1 (C.map (compRow l n)) i = compRow l n (rd_L1 C i) := fun i hi => by
  rw [rd_L1_at (by rw [List.length_map, h.len]; exact hi), List.getElem_map, rd_L1_at (by rw [h.len]; exact hi)]
 have hent : ∀ i, i < n → ∀ j, j < n + 1 → (compRow l n (rd_L1 C i)).getD j 0 = oneAt i j := fun i hi j hj => by
  have hlen : (compRow l n (rd_L1 C i)).length = n + 1 := by simp [compRow]
  rw [getD_lt (by rw [hlen]; exact hj)]
  simp only [compRow, List.getElem_map, List.getElem_range, hl]
  unfold pEnt oneAt
  by_cases ej : j = n
  ·subst ej
   rw [if_pos rfl, if_neg (by omega), hl]
   have := h.last i hi
   unfold mE at this
   omega
  ·have := h.left i hi j (by omega)
   unfold mE dl at this
   rw [if_neg ej]; omega
 refine ⟨sameB_iff.2 fun i hi j hj => ?_, ?_⟩
 ·rw [List.length_map, h.len] at hi
  rw [e i hi] at hj ⊢
  exact hent i hi j (by simpa [compRow] using hj)
 ·rw [rightB_rows (by omega) h6 (by rw [List.length_map]; omega)]
  refine rows_all fun i hi => ?_
  rw [List.length_map, h.len] at hi
  rw [e i hi]
  unfold rowB
  have hlen : (compRow l n (rd_L1 C i)).length = n + 1 := by simp [compRow]
  simp only [hlen, Bool.and_eq_true, decide_eq_true_eq, List.all_eq_true]
  refine ⟨by omega, fun x hx => ?_⟩
  obtain ⟨j, hj, rfl⟩ := List.getElem_of_mem hx
  rw [← getD_lt hj, hent i hi j (by rw [hlen] at hj; exact hj)]
  unfold oneAt smallB
  split <;> decide
end Go.Proofs.YtcefaofknaeaeaaGreatDoor.X
