/- What the reference's Apply and the law AffineApplies compute, as told by the print: plain Lean. -/
import Derived.Test.YtcefaofknaeaeaaDoorAppPRef
import Derived.Test.YtcefaofknaeaeaaDoorAppXl
import Derived.Test.YtcefaofknaeaeaaDoorAppXs
set_option linter.unusedVariables false
set_option linter.unusedSimpArgs false
set_option linter.unusedSectionVars false
namespace Go.Proofs.YtcefaofknaeaeaaDoor.X
open Go.RowKit Go.Proofs.YtcefaofknaeaeaaDoorW.PrintWords Go.Proofs.YtcefaofknaeaeaaDoorW.PrintLast Go.Proofs.YtcefaofknaeaeaaDoorW.PrintMore AffMath
theorem plus_bound2 {h l a x : Int} (hl : -1000000 ≤ l ∧ l < 4294967296) (ha : -1000000 ≤ a ∧ a ≤ 1000000) (hx : -9223372036854775808 ≤ x ∧ x ≤ 9223372036854775807) :
  (h - 2200000000000000 ≤ hiP h l a x ∧ hiP h l a x ≤ h + 2200000000000000) ∧ (0 ≤ loP l a x ∧ loP l a x < 4294967296) ∧ (-2200000000000000 ≤ a * (x / 4294967296) ∧ a * (x / 4294967296) ≤ 2200000000000000) ∧ (-4294967296000000 ≤ a * (x % 4294967296) ∧ a * (x % 4294967296) ≤ 4294967296000000) := by
 have b1 := mul_bound (x := x / 4294967296) (b := 2147483648) ha (by omega) (by omega)
 have b2 := mul_bound (x := x % 4294967296) (b := 4294967296) ha (by omega) (by omega)
 unfold hiP loP
 omega
theorem i64B_bounds {x : List Int} (hx : x.all i64B = true) (j : Nat) (hj : j < x.length) : -9223372036854775808 ≤ x.getD j 0 ∧ x.getD j 0 ≤ 9223372036854775807 := by
 have := List.all_eq_true.1 hx _ (List.getElem_mem hj)
 rw [getD_lt hj]
 exact i64B_iff.1 this
section
variable {d : Int} {l : List (List Int)} {x : List Int} (hr : rightB d l = true) (hd : (x.length : Int) = d) (hx : x.all i64B = true)
include hr hd hx
theorem rapply_l1 (i : Nat) (hi : i < l.length) (out : List Int) (hol : out.length ≤ 6) (R : List Int × Bool)
  (hnext : i64B (rowSum x (rd_L1 l i)) = true → Ev (fun k => demoticref19_Apply.l0 k x (out ++ [rowSum x (rd_L1 l i)]) ((i : Int) + 1) d l) R)
  (hbad : i64B (rowSum x (rd_L1 l i)) = false → R = ([], false)) :
  ∀ (e j : Nat) (h lo : Int), j + e = x.length → h * 4294967296 + lo = (rd_L1 l i).getD x.length 0 + dotN (rd_L1 l i) x j → (-(2200000000000000 * (j : Int)) ≤ h ∧ h ≤ 2200000000000000 * (j : Int)) → (-1000000 ≤ lo ∧ lo < 4294967296) →
   Ev (fun k => demoticref19_Apply.l1 k x out (i : Int) h lo (j : Int) d l) R
 | 0, j, h, lo, hj, hv, hb, hlo => by
  obtain ⟨d0, d6, _⟩ := rightB_dims hr
  have hs : rowSum x (rd_L1 l i) = h * 4294967296 + lo := by unfold rowSum; rw [hv, show j = x.length by omega]
  have hw : wrap64 (h + lo / 4294967296) = h + lo / 4294967296 := wrap_id (by omega) (by omega)
  refine Ev.step (f := fun k => if h + lo / 4294967296 < (-2147483648) then (some (([] : List Int), false)) else (if h + lo / 4294967296 ≥ 2147483648 then (some (([] : List Int), false)) else (demoticref19_Apply.l0 k x (out ++ [wrap64 ((wrap64 ((h + lo / 4294967296) * 4294967296)) + (Go.bits .and .i64 lo 4294967295))]) (wrap64 ((i : Int) + 1)) d l))) (fun k => by
   simp only [demoticref19_Apply.l1]
   rw [if_neg (by omega), hw]
   by_cases c1 : h + lo / 4294967296 < -2147483648
   ·rw [if_pos c1, if_pos c1]
   ·by_cases c2 : h + lo / 4294967296 ≥ 2147483648
    ·rw [if_neg c1, if_pos c2, if_neg c1, if_pos c2]
    ·rw [if_neg c1, if_neg c2, if_neg c1, if_neg c2, if_pos (by omega)]) ?_
  by_cases c : i64B (rowSum x (rd_L1 l i)) = true
  ·have c' := i64B_iff.1 c
   rw [hs] at c'
   obtain ⟨K, hK⟩ := hnext c
   refine ⟨K, fun k hk => ?_⟩
   have e := hK k hk
   simp only at e ⊢
   rw [if_neg (by omega), if_neg (by omega), wrap_id (x := (i : Int) + 1) (by omega) (by omega), and_low, wrap_id (x := (h + lo / 4294967296) * 4294967296) (by omega) (by omega), wrap_id (by omega) (by omega)]
   rw [show (h + lo / 4294967296) * 4294967296 + lo % 4294967296 = rowSum x (rd_L1 l i) by rw [hs]; omega]
   exact e
  ·have cf : i64B (rowSum x (rd_L1 l i)) = false := by simpa using c
   have hR := hbad cf
   subst hR
   have c' : ¬ (-9223372036854775808 ≤ h * 4294967296 + lo ∧ h * 4294967296 + lo ≤ 9223372036854775807) := fun z => c (i64B_iff.2 (by rw [hs]; exact z))
   refine ⟨0, fun k _ => ?_⟩
   simp only
   by_cases c1 : h + lo / 4294967296 < -2147483648
   ·rw [if_pos c1]
   ·rw [if_neg c1, if_pos (by omega)]
 | e + 1, j, h, lo, hj, hv, hb, hlo => by
  obtain ⟨d0, d6, l6⟩ := rightB_dims hr
  obtain ⟨hrl, hrs⟩ := rightB_row hr i hi
  have hxb := i64B_bounds hx j (by omega)
  have ha := hrs j (by omega)
  obtain ⟨b1, b2, b3, b4⟩ := plus_bound2 (h := h) (l := lo) (a := (rd_L1 l i).getD j 0) (x := x.getD j 0) hlo ha hxb
  have hh := hilo h lo ((rd_L1 l i).getD j 0) (x.getD j 0)
  have ih := rapply_l1 i hi out hol R hnext hbad e (j + 1) (hiP h lo ((rd_L1 l i).getD j 0) (x.getD j 0)) (loP lo ((rd_L1 l i).getD j 0) (x.getD j 0)) (by omega) (by rw [hh]; simp only [dotN]; omega) (by omega) (by omega)
  refine Ev.step (f := fun k => demoticref19_Apply.l1 k x out (i : Int) (hiP h lo ((rd_L1 l i).getD j 0) (x.getD j 0)) (loP lo ((rd_L1 l i).getD j 0) (x.getD j 0)) ((j : Int) + 1) d l) (fun k => ?_) ?_
  ·simp only [demoticref19_Apply.l1]
   rw [if_pos (by omega), if_pos (by omega), if_pos (by omega), if_pos (by omega), if_pos (by omega), if_pos (by omega), rd_nat, rd_nat, and_low, and_low]
   have w1 : wrap64 ((rd_L1 l i).getD j 0 * (x.getD j 0 / 4294967296)) = (rd_L1 l i).getD j 0 * (x.getD j 0 / 4294967296) := wrap_id (by omega) (by omega)
   have w2 : wrap64 ((rd_L1 l i).getD j 0 * (x.getD j 0 % 4294967296)) = (rd_L1 l i).getD j 0 * (x.getD j 0 % 4294967296) := wrap_id (by omega) (by omega)
   have w3 : wrap64 (lo + (rd_L1 l i).getD j 0 * (x.getD j 0 % 4294967296)) = lo + (rd_L1 l i).getD j 0 * (x.getD j 0 % 4294967296) := wrap_id (by omega) (by omega)
   have w4 : wrap64 (h + (rd_L1 l i).getD j 0 * (x.getD j 0 / 4294967296)) = h + (rd_L1 l i).getD j 0 * (x.getD j 0 / 4294967296) := wrap_id (by omega) (by omega)
   rw [w1, w2, w3, w4, wrap_id (x := (j : Int) + 1) (by omega) (by omega)]
   have w5 : wrap64 (h + (rd_L1 l i).getD j 0 * (x.getD j 0 / 4294967296) + (lo + (rd_L1 l i).getD j 0 * (x.getD j 0 % 4294967296)) / 4294967296) = hiP h lo ((rd_L1 l i).getD j 0) (x.getD j 0) := by
    have := b1
    unfold hiP at this ⊢
    exact wrap_id (by omega) (by omega)
   rw [w5]; rfl
  ·have e1 : ((j + 1 : Nat) : Int) = (j : Int) + 1 := by omega
   rw [e1] at ih
   exact ih
def rapplyS (l : List (List Int)) (x : List Int) : List Int × Bool := if (l.map (rowSum x)).all i64B = true then (l.map (rowSum x), true) else ([], false)
theorem rapply_l0 : ∀ (e i : Nat), i + e = l.length → (∀ t : Nat, t < i → i64B (rowSum x (rd_L1 l t)) = true) → Ev (fun k => demoticref19_Apply.l0 k x ((l.take i).map (rowSum x)) (i : Int) d l) (rapplyS l x)
 | 0, i, hi, ht => by
  refine Ev.step (f := fun _ => some (rapplyS l x)) (fun k => ?_) (Ev.now _)
  simp only [demoticref19_Apply.l0]
  rw [if_neg (by omega), List.take_of_length_le (by omega)]
  unfold rapplyS
  rw [if_pos]
  rw [List.all_eq_true]
  intro y hy
  obtain ⟨r, hr1, rfl⟩ := List.mem_map.1 hy
  obtain ⟨t, ht1, rfl⟩ := List.getElem_of_mem hr1
  have := ht t (by omega)
  rwa [rd_L1_at ht1] at this
 | e + 1, i, hi, ht => by
  obtain ⟨d0, d6, l6⟩ := rightB_dims hr
  obtain ⟨hrl, hrs⟩ := rightB_row hr i (by omega)
  have hlen : (l.take i).length = i := by rw [List.length_take]; omega
  have hlast := hrs x.length (by omega)
  have key := rapply_l1 hr hd hx i (by omega) ((l.take i).map (rowSum x)) (by rw [List.length_map, hlen]; omega) (rapplyS l x) (fun hc => by
   have := rapply_l0 e (i + 1) (by omega) (fun t htt => by
    by_cases e1 : t = i
    ·subst e1; exact hc
    ·exact ht t (by omega))
   rw [List.take_add_one, List.getElem?_eq_getElem (by omega), List.map_append] at this
   rw [rd_L1_at (by omega)]
   exact this) (fun hc => by
   unfold rapplyS
   rw [if_neg]
   intro hall
   have := List.all_eq_true.1 hall (rowSum x (rd_L1 l i)) (List.mem_map.2 ⟨l[i]'(by omega), List.getElem_mem (by omega), by rw [rd_L1_at (by omega)]⟩)
   rw [hc] at this
   exact Bool.false_ne_true this) x.length 0 0 ((rd_L1 l i).getD x.length 0) (by omega) (by simp [dotN]) (by omega) (by omega)
  refine Ev.step (f := fun k => demoticref19_Apply.l1 k x ((l.take i).map (rowSum x)) (i : Int) 0 ((rd_L1 l i).getD x.length 0) 0 d l) (fun k => ?_) key
  simp only [demoticref19_Apply.l0]
  rw [if_pos (by omega), if_pos (by omega), if_pos (by omega), if_pos (by omega)]
  rw [show rd (rd_L1 l i) d = (rd_L1 l i).getD x.length 0 by rw [← hd, rd_nat]]
theorem rapply_ev : Ev (fun k => demoticref19_Apply.f k d l x) (rapplyS l x) := by
 have := rapply_l0 hr hd hx l.length 0 (by omega) (fun t ht => by omega)
 exact this
end
theorem applies_l0 (xs : List Int) (hl : xs.length < 9223372036854775807) : ∀ e i : Nat, i + e = xs.length → Ev (fun k => demoticlaw19_AffineApplies.l0 k xs xs (i : Int)) true
 | 0, i, hi => Ev.step (f := fun _ => some true) (fun k => by
   simp only [demoticlaw19_AffineApplies.l0]
   rw [if_neg (by omega)]; rfl) (Ev.now _)
 | e + 1, i, hi => Ev.step (f := fun k => demoticlaw19_AffineApplies.l0 k xs xs ((i + 1 : Nat) : Int)) (fun k => by
   simp only [demoticlaw19_AffineApplies.l0]
   rw [if_pos (by omega), if_pos (by omega), if_pos (by omega), if_pos trivial, wrap_id (by omega) (by omega)]
   rfl) (applies_l0 xs hl e (i + 1) (by omega))
theorem applies_j1 (xs : List Int) (hl : xs.length < 9223372036854775807) : Ev (fun k => demoticlaw19_AffineApplies.j1 k xs xs false) true :=
 Ev.step (f := fun k => demoticlaw19_AffineApplies.l0 k xs xs 0) (fun k => by simp only [demoticlaw19_AffineApplies.j1]; rw [if_neg (by simp)]) (applies_l0 xs hl xs.length 0 (by omega))
theorem short_ev (d : Int) (l : List (List Int)) : ∃ b, Ev (fun k => demoticlaw19_short.f k d l) b := by
 obtain ⟨k, b, h⟩ := short_eval d l
 exact ⟨b, Ev.of (fun k => demoticlaw19_short.mono _ _ k) h⟩
theorem right_ev (d : Int) (l : List (List Int)) : Ev (fun k => demoticref19_Right.f k d l) (rightB d l) := by
 obtain ⟨k, h⟩ := right_eval d l
 exact Ev.of (fun k => demoticref19_Right.mono _ _ k) h
theorem applies_j0 (d : Int) (l : List (List Int)) (x : List Int) (hx : x.all i64B = true) (b : Bool) : Ev (fun k => demoticlaw19_AffineApplies.j0 k x b d l) true := by
 cases b with
 | true => exact Ev.step (f := fun _ => some true) (fun k => by simp only [demoticlaw19_AffineApplies.j0]; rfl) (Ev.now _)
 | false =>
  obtain ⟨K1, h1⟩ := right_ev d l
  have hAp : affine_Apply.f d l x = some (applyS d l x) := by unfold affine_Apply.f; rw [if_pos hx]
  cases hR : rightB d l with
  | false =>
   have hS : applyS d l x = ([], 190) := by unfold applyS; rw [if_neg (by rw [hR]; simp)]
   refine ⟨K1 + 1, fun k hk => ?_⟩
   obtain ⟨m, rfl⟩ : ∃ m, k = m + 1 := ⟨k - 1, by omega⟩
   have e1 := h1 m (by omega)
   simp only [demoticlaw19_AffineApplies.j0]
   rw [if_neg (by simp), hAp, hS]
   simp only [demoticlaw19_their.f, Option.bind_some, e1, hR]
   rfl
  | true =>
   obtain ⟨d0, d6, l6⟩ := rightB_dims hR
   by_cases hd : (x.length : Int) = d
   ·obtain ⟨K2, h2⟩ := rapply_ev hR hd hx
    cases hall : (l.map (rowSum x)).all i64B with
    | true =>
     have hS : applyS d l x = (l.map (rowSum x), 0) := by unfold applyS; rw [if_pos hR, if_pos hd, if_pos hall]
     have hQ : rapplyS l x = (l.map (rowSum x), true) := by unfold rapplyS; rw [if_pos hall]
     obtain ⟨K3, h3⟩ := applies_j1 (l.map (rowSum x)) (by rw [List.length_map]; omega)
     refine ⟨K1 + K2 + K3 + 1, fun k hk => ?_⟩
     obtain ⟨m, rfl⟩ : ∃ m, k = m + 1 := ⟨k - 1, by omega⟩
     have e1 := h1 m (by omega)
     have e2 := h2 m (by omega)
     have e3 := h3 m (by omega)
     simp only [demoticlaw19_AffineApplies.j0]
     rw [if_neg (by simp), hAp, hS]
     simp only [demoticlaw19_their.f, Option.bind_some, e1, hR, e2, hQ]
     rw [if_pos trivial, if_pos hd, if_pos trivial, if_pos trivial, show ((((l.map (rowSum x)).length : Int) != ((l.map (rowSum x)).length : Int)) = false) by simp]
     exact e3
    | false =>
     have hS : applyS d l x = ([], 2) := by unfold applyS; rw [if_pos hR, if_pos hd, if_neg (by rw [hall]; simp)]
     have hQ : rapplyS l x = ([], false) := by unfold rapplyS; rw [if_neg (by rw [hall]; simp)]
     refine ⟨K1 + K2 + 1, fun k hk => ?_⟩
     obtain ⟨m, rfl⟩ : ∃ m, k = m + 1 := ⟨k - 1, by omega⟩
     have e1 := h1 m (by omega)
     have e2 := h2 m (by omega)
     simp only [demoticlaw19_AffineApplies.j0]
     rw [if_neg (by simp), hAp, hS]
     simp only [demoticlaw19_their.f, Option.bind_some, e1, hR, e2, hQ]
     rw [if_pos trivial, if_pos hd, if_neg (by simp), if_pos trivial]
     rfl
   ·have hS : applyS d l x = ([], 1) := by unfold applyS; rw [if_pos hR, if_neg hd]
    refine ⟨K1 + 1, fun k hk => ?_⟩
    obtain ⟨m, rfl⟩ : ∃ m, k = m + 1 := ⟨k - 1, by omega⟩
    have e1 := h1 m (by omega)
    simp only [demoticlaw19_AffineApplies.j0]
    rw [if_neg (by simp), hAp, hS]
    simp only [demoticlaw19_their.f, Option.bind_some, e1, hR]
    rw [if_pos trivial, if_neg hd, if_pos trivial]
    rfl
theorem applies_ev (d : Int) (l : List (List Int)) (x : List Int) (hx : x.all i64B = true) : Ev (fun k => demoticlaw19_AffineApplies.f k d l x) true := by
 obtain ⟨b, h⟩ := short_ev d l
 unfold demoticlaw19_AffineApplies.f
 refine Ev.bind (f := fun k t198 => if t198 = true then (demoticlaw19_AffineApplies.j0 k x (decide ((x.length : Int) > 20)) d l) else (demoticlaw19_AffineApplies.j0 k x true d l)) h ?_
 cases b with
 | true => exact applies_j0 d l x hx _
 | false => exact applies_j0 d l x hx _
end Go.Proofs.YtcefaofknaeaeaaDoor.X
