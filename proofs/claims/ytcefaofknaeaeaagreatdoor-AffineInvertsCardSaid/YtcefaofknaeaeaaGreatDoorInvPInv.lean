/- The reference's Invert, Identity and Undoes, as told by the print: they agree with the map that undoes another one; plain Lean. -/
import Derived.Test.YtcefaofknaeaeaaGreatDoorInvPDet
import Derived.Test.YtcefaofknaeaeaaGreatDoorInvPRefC
import Derived.Test.YtcefaofknaeaeaaGreatDoorInvHUndoes
set_option linter.unusedVariables false
set_option linter.unusedSimpArgs false
set_option linter.unusedSectionVars false
namespace Go.Proofs.YtcefaofknaeaeaaGreatDoor.X
open Go.RowKit Go.Proofs.YtcefaofknaeaeaaGreatDoorW.PrintWords Go.Proofs.YtcefaofknaeaeaaGreatDoorW.PrintLast Go.Proofs.YtcefaofknaeaeaaGreatDoorW.PrintMore AffMath
def invE (l : List (List Int)) (n : Nat) (dd : Int) (i t : Nat) : Int := if t < n then dd * cofS n (mE l) t i else -(sumN n fun k => (dd * cofS n (mE l) k i) * mE l k n)
def invRow (l : List (List Int)) (n : Nat) (dd : Int) (i : Nat) : List Int := (List.range (n + 1)).map (invE l n dd i)
def invRows (l : List (List Int)) (n : Nat) (dd : Int) : List (List Int) := (List.range n).map (invRow l n dd)
theorem invRows_len (l : List (List Int)) (n : Nat) (dd : Int) : (invRows l n dd).length = n := by simp [invRows]
theorem invRows_row (l : List (List Int)) (n : Nat) (dd : Int) (i : Nat) (hi : i < n) : rd_L1 (invRows l n dd) i = invRow l n dd i := by
 rw [rd_L1_at (by rw [invRows_len]; exact hi)]; simp [invRows]
theorem invRows_ent (l : List (List Int)) (n : Nat) (dd : Int) (i j : Nat) (hi : i < n) (hj : j < n + 1) : mE (invRows l n dd) i j = invE l n dd i j := by
 unfold mE
 rw [invRows_row l n dd i hi]
 unfold invRow
 rw [List.getD_eq_getElem?_getD, List.getElem?_map, List.getElem?_range hj]; rfl
theorem invRow_len (l : List (List Int)) (n : Nat) (dd : Int) (i : Nat) : (invRow l n dd i).length = n + 1 := by simp [invRow]
section
variable {n : Nat} (hn : n ≤ 3) {l : List (List Int)} (hl : l.length = n) (hrow : ∀ i : Nat, i < n → (rd_L1 l i).length = n + 1) (hs : SmallM n l) {dd : Int} (hdd : dd = 1 ∨ dd = -1)
include hn hl hrow hs hdd
theorem dcof_bound (r c : Nat) (hr : r < n) (hc : c < n) : -2000000 ≤ dd * cofS n (mE l) r c ∧ dd * cofS n (mE l) r c ≤ 2000000 := by
 have := cof_bound hn hl hrow hs r c hr hc
 rcases hdd with rfl | rfl <;> omega
theorem dsum_bound (i j : Nat) (hi : i < n) (hj : j ≤ n) : -6000000000 ≤ (sumN j fun k => (dd * cofS n (mE l) k i) * mE l k n) ∧ (sumN j fun k => (dd * cofS n (mE l) k i) * mE l k n) ≤ 6000000000 := by
 have := sumN_le (n := j) (f := fun k => (dd * cofS n (mE l) k i) * mE l k n) (b := 2000000000) (fun k hk => by
  have h1 := mulc (hs k (by omega) n (by omega)) (dcof_bound hn hl hrow hs hdd k i (by omega) hi)
  have e := Int.mul_comm (mE l k n) (dd * cofS n (mE l) k i)
  omega)
 have : (j : Int) ≤ 3 := by omega
 omega
theorem rinv_l2 {acc : List (List Int)} (hacc : acc.length ≤ 3) (i : Nat) (hi : i < n) (R : Int × List (List Int) × Bool) (H : Ev (fun k => demoticref19_Invert.l0 k dd ((i : Int) + 1) (n : Int) l (n : Int) (acc ++ [invRow l n dd i])) R) :
  ∀ (e j : Nat) (out : List Int), j + e = n → out.length = n + 1 → (∀ t, t < n → out.getD t 0 = dd * cofS n (mE l) t i) → out.getD n 0 = -(sumN j fun k => (dd * cofS n (mE l) k i) * mE l k n) →
   Ev (fun k => demoticref19_Invert.l2 k dd (i : Int) out (j : Int) (n : Int) l (n : Int) acc) R
 | 0, j, out, hj, ho, h1, h2 => by
  have e : out = invRow l n dd i := list_eq_map ho (fun t ht => by
   unfold invE
   by_cases c : t < n
   ·rw [if_pos c, h1 t c]
   ·obtain rfl : t = n := by omega
    rw [if_neg c, h2, show j = t by omega])
  refine Ev.step (f := fun k => demoticref19_Invert.l0 k dd ((i : Int) + 1) (n : Int) l (n : Int) (acc ++ [invRow l n dd i])) (fun k => ?_) H
  simp only [demoticref19_Invert.l2]
  rw [if_neg (by omega), if_pos (by omega), wrap_id (by omega) (by omega), e]
 | e + 1, j, out, hj, ho, h1, h2 => by
  have hr := hrow j (by omega)
  have b1 := dsum_bound hn hl hrow hs hdd i j hi (by omega)
  have b2 := mulc (hs j (by omega) n (by omega)) (dcof_bound hn hl hrow hs hdd j i (by omega) hi)
  have ec := Int.mul_comm (mE l j n) (dd * cofS n (mE l) j i)
  have hm : (rd_L1 l j).getD n 0 = mE l j n := rfl
  have hv : wrap64 (rd out (n : Int) - wrap64 (rd out (j : Int) * rd (rd_L1 l j) (n : Int))) = -(sumN (j + 1) fun k => (dd * cofS n (mE l) k i) * mE l k n) := by
   rw [rd_nat, rd_nat, rd_nat, h2, h1 j (by omega), hm, wrap_id (x := dd * cofS n (mE l) j i * mE l j n) (by omega) (by omega), wrap_id (by omega) (by omega)]
   simp only [sumN]; omega
  have ih := rinv_l2 hacc i hi R H e (j + 1) (out.set n (-(sumN (j + 1) fun k => (dd * cofS n (mE l) k i) * mE l k n))) (by omega) (by rw [List.length_set]; exact ho) (fun t ht => by
   rw [getD_set out n t _ (by omega), if_neg (by omega)]; exact h1 t ht) (by rw [getD_set out n n _ (by omega), if_pos rfl])
  refine Ev.step (f := fun k => demoticref19_Invert.l2 k dd (i : Int) (out.set n (-(sumN (j + 1) fun k => (dd * cofS n (mE l) k i) * mE l k n))) ((j + 1 : Nat) : Int) (n : Int) l (n : Int) acc) (fun k => ?_) ih
  simp only [demoticref19_Invert.l2]
  rw [if_pos (by omega), if_pos (by omega), if_pos (by omega), if_pos (by omega), if_pos (by omega), if_pos (by omega), if_pos (by omega), hv, Int.toNat_natCast, wrap_id (by omega) (by omega)]
  rfl
theorem rinv_l1 {acc : List (List Int)} (hacc : acc.length ≤ 3) (i : Nat) (hi : i < n) (R : Int × List (List Int) × Bool) (H : Ev (fun k => demoticref19_Invert.l0 k dd ((i : Int) + 1) (n : Int) l (n : Int) (acc ++ [invRow l n dd i])) R) :
  ∀ (e j : Nat) (out : List Int), j + e = n → out.length = n + 1 → (∀ t, t < n + 1 → out.getD t 0 = if t < j then dd * cofS n (mE l) t i else 0) →
   Ev (fun k => demoticref19_Invert.l1 k dd (i : Int) out (j : Int) (n : Int) l (n : Int) acc) R
 | 0, j, out, hj, ho, h1 => by
  refine Ev.step (f := fun k => demoticref19_Invert.l2 k dd (i : Int) out 0 (n : Int) l (n : Int) acc) (fun k => ?_) (rinv_l2 hn hl hrow hs hdd hacc i hi R H n 0 out (by omega) ho (fun t ht => by rw [h1 t (by omega), if_pos (by omega)]) (by rw [h1 n (by omega), if_neg (by omega)]; rfl))
  simp only [demoticref19_Invert.l1]
  rw [if_neg (by omega)]
 | e + 1, j, out, hj, ho, h1 => by
  have b := dcof_bound hn hl hrow hs hdd j i (by omega) hi
  obtain ⟨K1, hK1⟩ := cof_ev hn hl hrow hs j i (by omega) hi
  obtain ⟨K2, hK2⟩ := rinv_l1 hacc i hi R H e (j + 1) (out.set j (dd * cofS n (mE l) j i)) (by omega) (by rw [List.length_set]; exact ho) (fun t ht => by
   rw [getD_set out j t _ (by omega)]
   by_cases c : t = j
   ·subst c; rw [if_pos rfl, if_pos (by omega)]
   ·rw [if_neg c, h1 t ht]
    by_cases c2 : t < j
    ·rw [if_pos c2, if_pos (by omega)]
    ·rw [if_neg c2, if_neg (by omega)])
  refine ⟨K1 + K2 + 1, fun k hk => ?_⟩
  obtain ⟨m, rfl⟩ : ∃ m, k = m + 1 := ⟨k - 1, by omega⟩
  have e1 := hK1 m (by omega)
  have e2 := hK2 m (by omega)
  simp only at e1 e2
  simp only [demoticref19_Invert.l1]
  rw [if_pos (by omega), e1]
  simp only [Option.bind_some]
  rw [if_pos (by omega), if_pos (by omega), wrap_id (by omega) (by omega), Int.toNat_natCast, wrap_id (by omega) (by omega)]
  rwa [show ((j : Int) + 1) = ((j + 1 : Nat) : Int) by omega]
theorem rinv_l0 : ∀ (e i : Nat), i + e = n → Ev (fun k => demoticref19_Invert.l0 k dd (i : Int) (n : Int) l (n : Int) ((List.range i).map (invRow l n dd))) ((n : Int), invRows l n dd, rightB (n : Int) (invRows l n dd))
 | 0, i, hi => by
  obtain rfl : i = n := by omega
  obtain ⟨k0, h0⟩ := right_eval (i : Int) (invRows l i dd)
  obtain ⟨K, hK⟩ := Ev.of (fun k => demoticref19_Right.mono (i : Int) (invRows l i dd) k) h0
  refine ⟨K + 1, fun k hk => ?_⟩
  obtain ⟨m, rfl⟩ : ∃ m, k = m + 1 := ⟨k - 1, by omega⟩
  have e1 := hK m (by omega)
  simp only at e1
  simp only [demoticref19_Invert.l0]
  rw [if_neg (by omega), show (List.range i).map (invRow l i dd) = invRows l i dd from rfl, e1]
  rfl
 | e + 1, i, hi => by
  have hnext := rinv_l0 e (i + 1) (by omega)
  rw [List.range_succ, List.map_append] at hnext
  have key := rinv_l1 hn hl hrow hs hdd (acc := (List.range i).map (invRow l n dd)) (by simp; omega) i (by omega) _ hnext n 0 (List.replicate (n + 1) 0) (by omega) (by simp) (fun t ht => by
   rw [if_neg (by omega), List.getD_eq_getElem?_getD, List.getElem?_replicate, if_pos (by omega)]; rfl)
  refine Ev.step (f := fun k => demoticref19_Invert.l1 k dd (i : Int) (List.replicate (n + 1) 0) 0 (n : Int) l (n : Int) ((List.range i).map (invRow l n dd))) (fun k => ?_) key
  have hw : (wrap64 ((n : Int) + 1)).toNat = n + 1 := by rw [wrap_id (by omega) (by omega)]; omega
  simp only [demoticref19_Invert.l0]
  rw [if_pos (by omega), if_pos (by rw [wrap_id (by omega) (by omega)]; omega), hw, if_pos (by omega)]
end
section
variable {n : Nat} (hn : n ≤ 3) {l : List (List Int)} (hl : l.length = n) (hr : rightB (n : Int) l = true) (hs : SmallM n l)
include hn hl hr hs
def rinvS (l : List (List Int)) (n : Nat) : Int × List (List Int) × Bool := if detS n (mE l) = 1 ∨ detS n (mE l) = -1 then ((n : Int), invRows l n (detS n (mE l)), rightB (n : Int) (invRows l n (detS n (mE l)))) else (0, [], false)
theorem rinv_ev : Ev (fun k => demoticref19_Invert.f k (n : Int) l) (rinvS l n) := by
 have hrow : ∀ i : Nat, i < n → (rd_L1 l i).length = n + 1 := fun i hi => right_len hr i (by omega)
 obtain ⟨K1, h1⟩ := det_ev hn hl hrow hs
 have j0 : ∀ b : Bool, (b = false → detS n (mE l) = 1 ∨ detS n (mE l) = -1) → (b = true → ¬ (detS n (mE l) = 1 ∨ detS n (mE l) = -1)) → Ev (fun k => demoticref19_Invert.j0 k (detS n (mE l)) b (n : Int) l) (rinvS l n) := fun b ht hf => by
  cases b with
  | true =>
   unfold rinvS
   rw [if_neg (hf rfl)]
   exact Ev.step (f := fun _ => some (0, [], false)) (fun k => by simp only [demoticref19_Invert.j0]; rfl) (Ev.now _)
  | false =>
   unfold rinvS
   rw [if_pos (ht rfl)]
   exact Ev.step (f := fun k => demoticref19_Invert.l0 k (detS n (mE l)) 0 (n : Int) l (n : Int) []) (fun k => by simp only [demoticref19_Invert.j0]; rw [if_neg (by simp)]) (rinv_l0 hn hl hrow hs (ht rfl) n 0 (by omega))
 by_cases c : detS n (mE l) = 1
 ·obtain ⟨K2, h2⟩ := j0 false (fun _ => .inl c) (fun e => by cases e)
  refine ⟨K1 + K2, fun k hk => ?_⟩
  have e1 := h1 k (by omega)
  have e2 := h2 k (by omega)
  simp only at e1 e2
  simp only [demoticref19_Invert.f, e1, Option.bind_some]
  rw [if_pos c]; exact e2
 ·obtain ⟨K2, h2⟩ := j0 (detS n (mE l) != (-1)) (fun e => .inr (by simpa using e)) (fun e h => by rcases h with h | h; exact c h; rw [h] at e; exact absurd e (by decide))
  refine ⟨K1 + K2, fun k hk => ?_⟩
  have e1 := h1 k (by omega)
  have e2 := h2 k (by omega)
  simp only at e1 e2
  simp only [demoticref19_Invert.f, e1, Option.bind_some]
  rw [if_neg c]; exact e2
omit hs in
theorem inv_left (dd : Int) (hd : detS n (mE l) = dd) (hdd : dd = 1 ∨ dd = -1) (i j : Nat) (hi : i < n) (hj : j < n) : (sumN n fun t => mE (invRows l n dd) i t * mE l t j) = dl i j := by
 rw [sumN_congr (n := n) (g := fun t => dd * (cofS n (mE l) t i * mE l t j)) (fun t ht => by
  rw [invRows_ent l n dd i t hi (by omega)]; unfold invE; rw [if_pos ht, Int.mul_assoc]), sumN_mul, adj_left hn (mE l) i j hi hj, hd, ← Int.mul_assoc]
 rcases hdd with rfl | rfl <;> simp
omit hs in
theorem inv_back (dd : Int) (hd : detS n (mE l) = dd) (hdd : dd = 1 ∨ dd = -1) (i j : Nat) (hi : i < n) (hj : j < n) : (sumN n fun t => mE l i t * mE (invRows l n dd) t j) = dl i j := by
 rw [sumN_congr (n := n) (g := fun t => dd * (mE l i t * cofS n (mE l) j t)) (fun t ht => by
  rw [invRows_ent l n dd t j ht (by omega)]; unfold invE; rw [if_pos hj]; grind), sumN_mul, adj_right hn (mE l) i j hi hj, hd, ← Int.mul_assoc]
 rcases hdd with rfl | rfl <;> simp
omit hs in
theorem inv_last (dd : Int) (i : Nat) (hi : i < n) : mE (invRows l n dd) i n = -(sumN n fun t => mE (invRows l n dd) i t * mE l t n) := by
 rw [invRows_ent l n dd i n hi (by omega)]
 unfold invE
 rw [if_neg (by omega)]
 congr 1
 exact sumN_congr fun t ht => by rw [invRows_ent l n dd i t hi (by omega)]; unfold invE; rw [if_pos ht]
omit hs in
theorem good_of_det (hd : detS n (mE l) = 1 ∨ detS n (mE l) = -1) (hc : rightB (n : Int) (invRows l n (detS n (mE l))) = true) : Good n l (invRows l n (detS n (mE l))) where
 right := hc
 len := invRows_len _ _ _
 left := fun i hi j hj => inv_left hn hl hr _ rfl hd i j hi hj
 back := fun i hi j hj => inv_back hn hl hr _ rfl hd i j hi hj
 last := fun i hi => inv_last hn hl hr _ i hi
omit hs in
theorem det_of_good {C : List (List Int)} (h : Good n l C) : (detS n (mE l) = 1 ∨ detS n (mE l) = -1) ∧ C = invRows l n (detS n (mE l)) := by
 have hd := unit_of_mul (det_of_inv hn (mE C) (mE l) h.left)
 refine ⟨hd, ?_⟩
 have e : ∀ i, i < n → ∀ j, j < n → mE C i j = mE (invRows l n (detS n (mE l))) i j := fun i hi j hj => by
  have a := mul3 n (mE C) (mE l) (mE (invRows l n (detS n (mE l)))) i j
  rw [sumN_congr (n := n) (g := fun k => dl i k * mE (invRows l n (detS n (mE l))) k j) (fun k hk => by rw [h.left i hi k hk]), sum_dl_left n i hi, sumN_congr (n := n) (g := fun t => mE C i t * dl t j) (fun t ht => by rw [inv_back hn hl hr _ rfl hd t j ht hj]), sum_dl_right n j hj] at a
  exact a.symm
 refine rows_ext (n := n) (m := n + 1) h.len (invRows_len _ _ _) (fun i hi => right_len h.right i (by rw [h.len]; exact hi)) (fun i hi => by rw [invRows_row _ _ _ _ hi, invRow_len]) (fun i hi j hj => ?_)
 by_cases ej : j = n
 ·subst ej
  rw [h.last i hi, inv_last hn hl hr _ i hi]
  congr 1
  exact sumN_congr fun t ht => by rw [e i hi t ht]
 ·exact e i hi j (by omega)
omit hs in
theorem rinvS_good {C : List (List Int)} (h : Good n l C) : rinvS l n = ((n : Int), C, true) := by
 obtain ⟨h1, h2⟩ := det_of_good hn hl hr h
 unfold rinvS
 rw [if_pos h1, ← h2, h.right]
omit hs in
theorem rinvS_none (h : ¬ ∃ C, Good n l C) : (rinvS l n).2.2 = false := by
 unfold rinvS
 by_cases c : detS n (mE l) = 1 ∨ detS n (mE l) = -1
 ·rw [if_pos c]
  cases hc : rightB (n : Int) (invRows l n (detS n (mE l))) with
  | false => rfl
  | true => exact absurd ⟨_, good_of_det hn hl hr c hc⟩ h
 ·rw [if_neg c]
end
def idRow (n i : Nat) : List Int := (List.range (n + 1)).map (oneAt i)
def idRows (n : Nat) : List (List Int) := (List.range n).map (idRow n)
theorem idRows_len (n : Nat) : (idRows n).length = n := by simp [idRows]
theorem idRows_row (n i : Nat) (hi : i < n) : rd_L1 (idRows n) i = idRow n i := by rw [rd_L1_at (by rw [idRows_len]; exact hi)]; simp [idRows]
theorem idRow_len (n i : Nat) : (idRow n i).length = n + 1 := by simp [idRow]
theorem idRow_ent (n i j : Nat) (hj : j < n + 1) : (idRow n i).getD j 0 = oneAt i j := by
 unfold idRow
 rw [List.getD_eq_getElem?_getD, List.getElem?_map, List.getElem?_range hj]; rfl
theorem identity_l0 (n : Nat) (hn : n ≤ 6) : ∀ e i : Nat, i + e = n → Ev (fun k => demoticref19_Identity.l0 k (n : Int) (i : Int) (n : Int) ((List.range i).map (idRow n))) ((n : Int), idRows n)
 | 0, i, hi => by
  obtain rfl : i = n := by omega
  exact Ev.step (f := fun _ => some ((i : Int), idRows i)) (fun k => by simp only [demoticref19_Identity.l0]; rw [if_neg (by omega)]; rfl) (Ev.now _)
 | e + 1, i, hi => by
  have hnext := identity_l0 n hn e (i + 1) (by omega)
  rw [List.range_succ, List.map_append] at hnext
  have hw : (wrap64 ((n : Int) + 1)).toNat = n + 1 := by rw [wrap_id (by omega) (by omega)]; omega
  have hrow : (List.replicate (n + 1) (0 : Int)).set i 1 = idRow n i := list_eq_map (by simp) (fun t ht => by
   rw [getD_set _ _ _ _ (by simp; omega)]
   unfold oneAt
   by_cases c : t = i
   ·rw [if_pos c, if_pos c.symm]
   ·rw [if_neg c, if_neg (Ne.symm c), List.getD_eq_getElem?_getD, List.getElem?_replicate, if_pos (by omega)]; rfl)
  refine Ev.step (f := fun k => demoticref19_Identity.l0 k (n : Int) ((i + 1 : Nat) : Int) (n : Int) ((List.range i).map (idRow n) ++ [idRow n i])) (fun k => ?_) hnext
  simp only [demoticref19_Identity.l0]
  rw [if_pos (by omega), if_pos (by rw [wrap_id (by omega) (by omega)]; omega), hw, if_pos (by omega)]
  simp only [Option.bind_some]
  rw [if_pos (by omega), if_pos (by simp; omega), if_pos (by simp; omega), Int.toNat_natCast, hrow, wrap_id (by omega) (by omega)]
  rfl
theorem identity_ev (n : Nat) (hn : n ≤ 6) : Ev (fun k => demoticref19_Identity.f k (n : Int)) ((n : Int), idRows n) := identity_l0 n hn n 0 (by omega)
theorem comp_id {n : Nat} {l C : List (List Int)} (h : Good n l C) (hl : l.length = n) : C.map (compRow l n) = idRows n := by
 obtain ⟨h1, h2⟩ := Good.compose h hl
 have hlen : (C.map (compRow l n)).length = n := by rw [List.length_map]; exact h.len
 refine rows_ext (n := n) (m := n + 1) hlen (idRows_len n) (fun i hi => right_len h2 i (by omega)) (fun i hi => by rw [idRows_row n i hi, idRow_len]) (fun i hi j hj => ?_)
 have := sameB_iff.1 h1 i (by omega) j (by rw [right_len h2 i (by omega)]; exact hj)
 unfold mE
 rw [this, idRows_row n i hi, idRow_ent n i j hj]
theorem good_sym {n : Nat} {l C : List (List Int)} (hr : rightB (n : Int) l = true) (hl : l.length = n) (h : Good n l C) : Good n C l where
 right := hr
 len := hl
 left := h.back
 back := h.left
 last := fun i hi => by
  have e : (sumN n fun t => mE l i t * mE C t n) = -(mE l i n) := by
   rw [sumN_congr (n := n) (g := fun t => -1 * (mE l i t * (sumN n fun u => mE C t u * mE l u n))) (fun t ht => by rw [h.last t ht]; grind), sumN_mul, ← mul3 n (mE l) (mE C) (fun u _ => mE l u n) i 0,
    sumN_congr (n := n) (g := fun k => dl i k * mE l k n) (fun k hk => by rw [h.back i hi k hk]), sum_dl_left n i hi]
   omega
  rw [e]; omega
theorem idRows_small (n : Nat) (hn : n ≤ 6) (i : Nat) (hi : i < (idRows n).length) : (rd_L1 (idRows n) (i : Int)).length < 9223372036854775807 := by
 rw [idRows_len] at hi
 rw [idRows_row n i hi, idRow_len]; omega
theorem undoes_ev {n : Nat} {l C : List (List Int)} (hr : rightB (n : Int) l = true) (hl : l.length = n) (h : Good n l C) : Ev (fun k => demoticref19_Undoes.f k (n : Int) C (n : Int) l) true := by
 obtain ⟨n0, n6, _⟩ := rightB_dims hr
 have c1 := Good.compose h hl
 have h' := good_sym hr hl h
 have c2 := Good.compose h' h.len
 obtain ⟨k1, e1⟩ := rcompose_eval h.right hr (by rw [hl])
 obtain ⟨k2, e2⟩ := rcompose_eval hr h.right (by rw [h.len])
 rw [Int.toNat_natCast] at e1 e2
 rw [c1.2, comp_id h hl] at e1
 rw [c2.2, comp_id h' h.len] at e2
 obtain ⟨K1, E1⟩ := Ev.of (fun k => demoticref19_Compose.mono _ _ _ _ k) e1
 obtain ⟨K2, E2⟩ := Ev.of (fun k => demoticref19_Compose.mono _ _ _ _ k) e2
 obtain ⟨K3, E3⟩ := identity_ev n (by omega)
 obtain ⟨k4, e4⟩ := same_eval (n : Int) (idRows n) (by rw [idRows_len]; omega) (idRows_small n (by omega))
 obtain ⟨K4, E4⟩ := Ev.of (fun k => demoticref19_Same.mono _ _ _ _ k) e4
 refine ⟨K1 + K2 + K3 + K4, fun k hk => ?_⟩
 have e1 := E1 k (by omega)
 have e2 := E2 k (by omega)
 have e3 := E3 k (by omega)
 have e4 := E4 k (by omega)
 simp only at e3
 have : undoesT.f k (n : Int) C (n : Int) l = some true := by
  simp only [undoesT.f, e1, e2, e3, e4, Option.bind_some]
  simp
 show demoticref19_Undoes.f k (n : Int) C (n : Int) l = some true
 unfold demoticref19_Undoes.f
 rw [if_pos this]
end Go.Proofs.YtcefaofknaeaeaaGreatDoor.X
