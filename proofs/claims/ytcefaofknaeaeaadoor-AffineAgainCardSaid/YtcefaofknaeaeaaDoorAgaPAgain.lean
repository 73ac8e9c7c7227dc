/- What the law AffineAgain computes, as told by the print: plain Lean. -/
import Derived.Test.YtcefaofknaeaeaaDoorAgaPRef
import Derived.Test.YtcefaofknaeaeaaDoorAgaXt
set_option linter.unusedVariables false
set_option linter.unusedSimpArgs false
set_option linter.unusedSectionVars false
namespace Go.Proofs.YtcefaofknaeaeaaDoor.X
open Go.RowKit Go.Proofs.YtcefaofknaeaeaaDoorW.PrintWords Go.Proofs.YtcefaofknaeaeaaDoorW.PrintLast Go.Proofs.YtcefaofknaeaeaaDoorW.PrintMore AffMath
theorem dotN_sum (r x : List Int) : ∀ n : Nat, dotN r x n = sumN n fun i => r.getD i 0 * x.getD i 0
 | 0 => rfl
 | n + 1 => by simp only [dotN, sumN]; rw [dotN_sum r x n]
theorem rowSum_sum (x r : List Int) : rowSum x r = r.getD x.length 0 + sumN x.length fun i => r.getD i 0 * x.getD i 0 := by
 unfold rowSum
 rw [dotN_sum]
theorem getD_map_row (l : List (List Int)) (f : List Int → Int) (u : Nat) (hu : u < l.length) : (l.map f).getD u 0 = f (rd_L1 l u) := by
 rw [List.getD_eq_getElem?_getD, List.getElem?_map, List.getElem?_eq_getElem hu, rd_L1_at hu]; rfl
theorem compRow_getD (b : List (List Int)) (m : Nat) (r : List Int) (t : Nat) (ht : t < m + 1) : (compRow b m r).getD t 0 = pEnt r b m b.length t := by
 unfold compRow
 rw [List.getD_eq_getElem?_getD, List.getElem?_map, List.getElem?_range ht]; rfl
theorem rowSum_twice (b : List (List Int)) (x r : List Int) : rowSum (b.map (rowSum x)) r = rowSum x (compRow b x.length r) := by
 rw [rowSum_sum, rowSum_sum, List.length_map]
 rw [sumN_congr (n := b.length) (g := fun u => r.getD u 0 * (rd_L1 b u).getD x.length 0 + sumN x.length (fun i => r.getD u 0 * ((rd_L1 b u).getD i 0 * x.getD i 0))) (fun u hu => by
  rw [getD_map_row b _ u hu, rowSum_sum, Int.mul_add, sumN_mul])]
 rw [sumN_add, sumN_swap]
 rw [compRow_getD b x.length r x.length (by omega)]
 unfold pEnt
 rw [if_pos rfl]
 rw [sumN_congr (n := x.length) (f := fun i => (compRow b x.length r).getD i 0 * x.getD i 0) (g := fun j => sumN b.length (fun u => r.getD u 0 * ((rd_L1 b u).getD j 0 * x.getD j 0))) (fun j hj => by
  rw [compRow_getD b x.length r j (by omega)]
  unfold pEnt
  rw [if_neg (by omega), Int.zero_add, ← sumN_mul_right]
  exact sumN_congr fun u hu => Int.mul_assoc _ _ _)]
 omega
theorem maps_twice (a b : List (List Int)) (x : List Int) : a.map (rowSum (b.map (rowSum x))) = (a.map (compRow b x.length)).map (rowSum x) := by
 rw [List.map_map]
 exact List.map_congr_left fun r _ => rowSum_twice b x r
theorem applies_twice {d1 : Int} {l1 : List (List Int)} {d2 : Int} {l2 : List (List Int)} {x y : List Int} {dm : Int} {lm : List (List Int)} (hc : composeS d1 l1 d2 l2 = (dm, lm, 0)) (hy : applyS d2 l2 x = (y, 0)) :
  applyS d1 l1 y = applyS dm lm x ∧ y.all i64B = true := by
 unfold composeS at hc
 by_cases h1 : rightB d1 l1 = true ∧ rightB d2 l2 = true
 ·rw [if_pos h1] at hc
  by_cases h2 : (l2.length : Int) = d1
  ·rw [if_pos h2] at hc
   by_cases h3 : rightB d2 (l1.map (compRow l2 d2.toNat)) = true
   ·rw [if_pos h3] at hc
    simp only [Prod.mk.injEq, and_true] at hc
    obtain ⟨rfl, rfl⟩ := hc
    unfold applyS at hy
    rw [if_pos h1.2] at hy
    by_cases h4 : (x.length : Int) = d2
    ·rw [if_pos h4] at hy
     by_cases h5 : (l2.map (rowSum x)).all i64B = true
     ·rw [if_pos h5] at hy
      simp only [Prod.mk.injEq, and_true] at hy
      subst hy
      refine ⟨?_, h5⟩
      subst h4
      rw [Int.toNat_natCast] at h3 ⊢
      unfold applyS
      rw [if_pos h1.1, if_pos h3, if_pos (by rw [List.length_map]; exact h2), if_pos rfl, maps_twice]
     ·rw [if_neg h5] at hy; simp at hy
    ·rw [if_neg h4] at hy; simp at hy
   ·rw [if_neg h3] at hc; simp at hc
  ·rw [if_neg h2] at hc; simp at hc
 ·rw [if_neg h1] at hc; simp at hc
theorem Good.sym {n : Nat} {l C : List (List Int)} (hr : rightB (n : Int) l = true) (hl : l.length = n) (h : Good n l C) : Good n C l where
 right := hr
 len := hl
 left := h.back
 back := h.left
 last := fun i hi => by
  have e : (sumN n fun t => mE l i t * mE C t n) = -(mE l i n) := by
   rw [sumN_congr (n := n) (g := fun t => -1 * (mE l i t * (sumN n fun u => mE C t u * mE l u n))) (fun t ht => by rw [h.last t ht]; grind), sumN_mul, ← mul3 n (mE l) (mE C) (fun u _ => mE l u n) i 0,
    sumN_congr (n := n) (g := fun k => dl i k * mE l k n) (fun k hk => by rw [h.back i hi k hk]), sum_dl_left n i hi]
   omega
  rw [e]; omega
theorem invertS_twice {d : Int} {l : List (List Int)} {d2 : Int} {l2 : List (List Int)} (h : invertS d l = (d2, l2, 0)) : invertS d2 l2 = (d, l, 0) := by
 by_cases h1 : rightB d l = true
 ·by_cases h2 : (l.length : Int) = d
  ·by_cases h3 : ∃ C, Good l.length l C
   ·obtain ⟨C, hC⟩ := h3
    subst h2
    rw [invertS_good h1 rfl hC] at h
    simp only [Prod.mk.injEq, and_true] at h
    obtain ⟨rfl, rfl⟩ := h
    exact invertS_good hC.right hC.len (Good.sym h1 rfl hC)
   ·subst h2
    rw [invertS_none h1 rfl h3] at h
    simp at h
  ·unfold invertS at h; rw [if_pos h1, if_neg h2] at h; simp at h
 ·unfold invertS at h; rw [if_neg h1] at h; simp at h
theorem invertS_right {d : Int} {l : List (List Int)} {d2 : Int} {l2 : List (List Int)} (h : invertS d l = (d2, l2, 0)) : rightB d l = true := by
 by_cases h1 : rightB d l = true
 ·exact h1
 ·unfold invertS at h; rw [if_neg h1] at h; simp at h
theorem is_ev {d : Int} {l : List (List Int)} (h : rightB d l = true) : Ev (fun k => demoticlaw19_is.f k d l 0 d l 0) true := by
 obtain ⟨d0, d6, l6⟩ := rightB_dims h
 obtain ⟨k, h⟩ := is_ok d l (by omega) (fun i hi => by have := (rightB_row h i hi).1; omega)
 exact Ev.of (fun k => demoticlaw19_is.mono _ _ _ _ _ _ k) h
section
variable {d : Int} {l : List (List Int)}
theorem again_j4 : Ev (fun k => demoticlaw19_AffineAgain.j4 k d l) true := by
 by_cases h : ∃ d2 l2, invertS d l = (d2, l2, 0)
 ·obtain ⟨d2, l2, h⟩ := h
  have h' := invertS_twice h
  obtain ⟨K, hK⟩ := is_ev (invertS_right h)
  refine ⟨K + 1, fun k hk => ?_⟩
  obtain ⟨m, rfl⟩ : ∃ m, k = m + 1 := ⟨k - 1, by omega⟩
  have e1 := hK m (by omega)
  simp only [demoticlaw19_AffineAgain.j4, affine_Invert.f, Option.bind_some, h]
  rw [if_pos trivial]
  simp only [h', demoticlaw19_their.f, Option.bind_some, e1]
  rw [if_pos trivial]
  rfl
 ·refine ⟨1, fun k hk => ?_⟩
  obtain ⟨m, rfl⟩ : ∃ m, k = m + 1 := ⟨k - 1, by omega⟩
  simp only [demoticlaw19_AffineAgain.j4, affine_Invert.f, Option.bind_some]
  rw [if_neg (fun e => h ⟨_, _, by rw [← e]⟩)]
  rfl
theorem again_l0 (xs : List Int) (hx : xs.length < 9223372036854775807) : ∀ e i : Nat, i + e = xs.length → Ev (fun k => demoticlaw19_AffineAgain.l0 k xs xs (i : Int) d l) true
 | 0, i, hi => Ev.step (f := fun k => demoticlaw19_AffineAgain.j4 k d l) (fun k => by
   simp only [demoticlaw19_AffineAgain.l0]
   rw [if_neg (by omega)]) (again_j4)
 | e + 1, i, hi => Ev.step (f := fun k => demoticlaw19_AffineAgain.l0 k xs xs ((i + 1 : Nat) : Int) d l) (fun k => by
   simp only [demoticlaw19_AffineAgain.l0]
   rw [if_pos (by omega), if_pos (by omega), if_pos (by omega), if_pos trivial, wrap_id (by omega) (by omega)]
   rfl) (again_l0 xs hx e (i + 1) (by omega))
theorem again_j2 (xs : List Int) (hx : xs.length < 9223372036854775807) : Ev (fun k => demoticlaw19_AffineAgain.j2 k xs xs false d l) true :=
 Ev.step (f := fun k => demoticlaw19_AffineAgain.l0 k xs xs 0 d l) (fun k => by simp only [demoticlaw19_AffineAgain.j2]; rw [if_neg (by simp)]) (again_l0 xs hx xs.length 0 (by omega))
theorem again_j1_false (x y : List Int) (dm : Int) (lm : List (List Int)) : Ev (fun k => demoticlaw19_AffineAgain.j1 k x y false d l dm lm) true :=
 Ev.step (f := fun k => demoticlaw19_AffineAgain.j4 k d l) (fun k => by simp only [demoticlaw19_AffineAgain.j1]; rw [if_neg (by simp)]) (again_j4)
theorem again_j1 {d2 : Int} {l2 : List (List Int)} {x y : List Int} {dm : Int} {lm : List (List Int)} (hx : x.all i64B = true) (hc : composeS d l d2 l2 = (dm, lm, 0)) (hy : applyS d2 l2 x = (y, 0)) :
  Ev (fun k => demoticlaw19_AffineAgain.j1 k x y true d l dm lm) true := by
 obtain ⟨h1, h2⟩ := applies_twice hc hy
 have ha : affine_Apply.f d l y = some (applyS dm lm x) := by unfold affine_Apply.f; rw [if_pos h2, h1]
 have hm : affine_Apply.f dm lm x = some (applyS dm lm x) := by unfold affine_Apply.f; rw [if_pos hx]
 have hlen : (applyS dm lm x).1.length < 9223372036854775807 := by
  unfold applyS
  split
  ·rename_i hr
   obtain ⟨_, _, h6⟩ := rightB_dims hr
   split
   ·split
    ·simp only [List.length_map]; omega
    ·simp
   ·simp
  ·simp
 obtain ⟨K, hK⟩ := again_j2 (d := d) (applyS dm lm x).1 hlen
 refine ⟨K + 1, fun k hk => ?_⟩
 obtain ⟨m, rfl⟩ : ∃ m, k = m + 1 := ⟨k - 1, by omega⟩
 have e1 := hK m (by omega)
 simp only [demoticlaw19_AffineAgain.j1]
 rw [if_pos trivial, ha, hm]
 simp only [Option.bind_some]
 rw [if_pos trivial, show ((((applyS dm lm x).1.length : Int) != ((applyS dm lm x).1.length : Int)) = false) by simp]
 split <;> exact e1
theorem again_j0 (d2 : Int) (l2 : List (List Int)) (x : List Int) (hx : x.all i64B = true) (b : Bool) : Ev (fun k => demoticlaw19_AffineAgain.j0 k x b d l d2 l2) true := by
 cases b with
 | true => exact Ev.step (f := fun _ => some true) (fun k => by simp only [demoticlaw19_AffineAgain.j0]; rfl) (Ev.now _)
 | false =>
  obtain ⟨k1, h1⟩ := compose_eval d l d2 l2
  obtain ⟨K1, h1'⟩ := Ev.of (fun k => affine_Compose.mono _ _ _ _ k) h1
  have hAp : affine_Apply.f d2 l2 x = some (applyS d2 l2 x) := by unfold affine_Apply.f; rw [if_pos hx]
  have main : ∃ K, ∀ m, K ≤ m → (if (composeS d l d2 l2).2.2 = 0 then (demoticlaw19_AffineAgain.j1 m x (applyS d2 l2 x).1 ((applyS d2 l2 x).2 == 0) d l (composeS d l d2 l2).1 (composeS d l d2 l2).2.1) else (demoticlaw19_AffineAgain.j1 m x (applyS d2 l2 x).1 false d l (composeS d l d2 l2).1 (composeS d l d2 l2).2.1)) = some true := by
   by_cases c1 : (composeS d l d2 l2).2.2 = 0
   ·by_cases c2 : (applyS d2 l2 x).2 = 0
    ·obtain ⟨K, hK⟩ := again_j1 (d2 := d2) (l2 := l2) (x := x) (y := (applyS d2 l2 x).1) (dm := (composeS d l d2 l2).1) (lm := (composeS d l d2 l2).2.1) hx (by rw [← c1]) (by rw [← c2])
     exact ⟨K, fun m hm => by rw [if_pos c1, show ((applyS d2 l2 x).2 == 0) = true from beq_iff_eq.2 c2]; exact hK m hm⟩
    ·obtain ⟨K, hK⟩ := again_j1_false (d := d) x (applyS d2 l2 x).1 (composeS d l d2 l2).1 (composeS d l d2 l2).2.1
     exact ⟨K, fun m hm => by rw [if_pos c1, show ((applyS d2 l2 x).2 == 0) = false from beq_eq_false_iff_ne.2 c2]; exact hK m hm⟩
   ·obtain ⟨K, hK⟩ := again_j1_false (d := d) x (applyS d2 l2 x).1 (composeS d l d2 l2).1 (composeS d l d2 l2).2.1
    exact ⟨K, fun m hm => by rw [if_neg c1]; exact hK m hm⟩
  obtain ⟨K2, h2⟩ := main
  refine ⟨K1 + K2 + 1, fun k hk => ?_⟩
  obtain ⟨m, rfl⟩ : ∃ m, k = m + 1 := ⟨k - 1, by omega⟩
  have e1 := h1' m (by omega)
  have e2 := h2 m (by omega)
  simp only [demoticlaw19_AffineAgain.j0]
  rw [if_neg (by simp), hAp]
  simp only [e1, Option.bind_some]
  exact e2
theorem again_ev (d2 : Int) (l2 : List (List Int)) (x : List Int) (hx : x.all i64B = true) : Ev (fun k => demoticlaw19_AffineAgain.f k d l d2 l2 x) true := by
 obtain ⟨k1, b1, h1⟩ := short_eval d l
 obtain ⟨k2, b2, h2⟩ := short_eval d2 l2
 have E1 := Ev.of (fun k => demoticlaw19_short.mono _ _ k) h1
 have E2 := Ev.of (fun k => demoticlaw19_short.mono _ _ k) h2
 unfold demoticlaw19_AffineAgain.f
 refine Ev.bind (f := fun k t241 => (if t241 = true then ((demoticlaw19_short.f k d2 l2).bind fun t242 => (if t242 = true then (demoticlaw19_AffineAgain.j0 k x (decide ((x.length : Int) > 20)) d l d2 l2) else (demoticlaw19_AffineAgain.j0 k x true d l d2 l2))) else (demoticlaw19_AffineAgain.j0 k x true d l d2 l2))) E1 ?_
 cases b1 with
 | true =>
  refine Ev.bind (f := fun k t242 => (if t242 = true then (demoticlaw19_AffineAgain.j0 k x (decide ((x.length : Int) > 20)) d l d2 l2) else (demoticlaw19_AffineAgain.j0 k x true d l d2 l2))) E2 ?_
  cases b2 with
  | true => exact again_j0 d2 l2 x hx _
  | false => exact again_j0 d2 l2 x hx _
 | false => exact again_j0 d2 l2 x hx _
end
end Go.Proofs.YtcefaofknaeaeaaDoor.X
