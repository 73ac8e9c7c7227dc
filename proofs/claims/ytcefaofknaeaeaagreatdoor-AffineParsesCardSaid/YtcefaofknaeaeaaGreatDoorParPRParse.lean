/- The reference's Parse, as told by the print: the map of a right map's string, and no map of any other string; plain Lean. -/
import Derived.Test.YtcefaofknaeaeaaGreatDoorParPRead
import Derived.Test.YtcefaofknaeaeaaGreatDoorParPRef
import Derived.Test.YtcefaofknaeaeaaGreatDoorParHRefParse
set_option linter.unusedVariables false
set_option linter.unusedSimpArgs false
set_option linter.unusedSectionVars false
namespace Go.Proofs.YtcefaofknaeaeaaGreatDoor.X
open Go.RowKit Go.Proofs.YtcefaofknaeaeaaGreatDoorW.PrintWords Go.Proofs.YtcefaofknaeaeaaGreatDoorW.PrintLast Go.Proofs.YtcefaofknaeaeaaGreatDoorW.PrintMore
section
variable (s : List UInt8) (hs : s.length ≤ 1000) (hno : ∀ (d : Int) (l : List (List Int)), rightB d l = true → printS d.toNat l ≠ s)
include hs hno
theorem rp_end_any (n : Nat) (rest : ByteArray) (x7 x8 : Int) (rows : List (List Int)) (h : ¬ x8 < (rest.size : Int)) : ∃ d l, Ev (fun k => refParseT.l1 k (bs s) rest x7 x8 n rows) (d, l, false) := by
 obtain ⟨k0, hk⟩ := right_eval n rows
 have hr : Ev (fun k => demoticref19_Right.f k n rows) (rightB n rows) := Ev.of (demoticref19_Right.mono n rows) hk
 refine ⟨0, [], Ev.step (f := fun k => (demoticref19_Right.f k n rows).bind fun t => (if t = true then ((demoticref19_Print.f k n rows).bind fun u => (if u.toList = (bs s).toList then (some ((n : Int), rows, true)) else (some (0, ([] : List (List Int)), false)))) else (some (0, ([] : List (List Int)), false)))) (fun k => ?_) (Ev.bind hr ?_)⟩
 ·simp only [refParseT.l1]
  rw [if_neg h]
 ·cases hb : rightB n rows with
  | false => exact Ev.congr (f := fun _ => some (0, [], false)) (fun k => by (try simp only); rw [if_neg (by simp)]) (Ev.now _)
  | true =>
   refine Ev.congr (f := fun k => (demoticref19_Print.f k n rows).bind fun u => (if u.toList = (bs s).toList then (some ((n : Int), rows, true)) else (some (0, ([] : List (List Int)), false)))) (fun k => by (try simp only); rw [if_pos trivial]) (Ev.bind (rprint_ev hb) ?_)
   refine Ev.congr (f := fun _ => some (0, [], false)) (fun k => ?_) (Ev.now _)
   try simp only
   rw [if_neg]
   rw [bs_toList, bs_toList]
   exact hno n rows hb
theorem rp_l1_any (n : Nat) (hn : n ≤ 6) (rest : List UInt8) (hrest : rest.length ≤ 1000) : ∀ (e p : Nat), p + e = rest.length → ∀ (q : Nat) (rows : List (List Int)), q ≤ p → rows.length ≤ 6 → ∃ d l, Ev (fun k => refParseT.l1 k (bs s) (bs rest) (q : Int) (p : Int) n rows) (d, l, false)
 | 0, p, hp, q, rows, hq, hrows => rp_end_any s hs hno n (bs rest) q p rows (by rw [bs_size]; omega)
 | e + 1, p, hp, q, rows, hq, hrows => by
  have ih := rp_l1_any n hn rest hrest e (p + 1) (by omega)
  have e2 : wrap64 ((p : Int) + 1) = ((p + 1 : Nat) : Int) := by rw [wrap_id (by omega) (by omega)]; omega
  have hj : ∀ t : Bool, ∃ d l, Ev (fun k => refParseT.j4 k (bs s) (bs rest) (q : Int) (p : Int) t n rows) (d, l, false) := by
   intro t
   cases t with
   | false =>
    obtain ⟨d, l, hr⟩ := ih q rows (by omega) hrows
    refine ⟨d, l, Ev.step (fun k => ?_) hr⟩
    simp only [refParseT.j4]
    rw [if_neg (by simp), if_neg (by omega), e2]
   | true =>
    obtain ⟨r, hr⟩ := read_any ((rest.drop q).take (p - q)) (by rw [List.length_take, List.length_drop]; omega) n hn
    have e : ∀ k, refParseT.j4 (k + 1) (bs s) (bs rest) (q : Int) (p : Int) true n rows = (demoticref19_read.f k (bs ((rest.drop q).take (p - q))) n).bind fun t => (if t = ([] : List Int) then (some (0, ([] : List (List Int)), false)) else (if rows.length < 5864062014805 then ((some (rows ++ [t] : List (List Int))).bind fun y => (if (y.length : Int) > 6 then (some (0, ([] : List (List Int)), false)) else (refParseT.l1 k (bs s) (bs rest) (wrap64 ((p : Int) + 1)) (wrap64 ((p : Int) + 1)) n y))) else (none))) := by
     intro k
     simp only [refParseT.j4]
     rw [if_pos trivial, if_pos (by omega), if_pos (by omega), if_pos (by rw [bs_size]; omega), Int.toNat_natCast, Int.toNat_natCast, ext_bs]
    by_cases c1 : r = []
    ·refine ⟨0, [], Ev.step e (Ev.bind hr (Ev.congr (f := fun _ => some (0, [], false)) (fun k => ?_) (Ev.now _)))⟩
     try simp only
     rw [if_pos c1]
    ·by_cases c2 : rows.length + 1 > 6
     ·refine ⟨0, [], Ev.step e (Ev.bind hr (Ev.congr (f := fun _ => some (0, [], false)) (fun k => ?_) (Ev.now _)))⟩
      try simp only
      rw [if_neg c1, if_pos (by omega)]
      simp only [Option.bind_some, List.length_append, List.length_singleton]
      rw [if_pos (by omega)]
     ·obtain ⟨d, l, hr2⟩ := ih (p + 1) (rows ++ [r]) (Nat.le_refl _) (by rw [List.length_append, List.length_singleton]; omega)
      refine ⟨d, l, Ev.step e (Ev.bind hr (Ev.congr (fun k => ?_) hr2))⟩
      try simp only
      rw [if_neg c1, if_pos (by omega), e2]
      simp only [Option.bind_some, List.length_append, List.length_singleton]
      rw [if_neg (by omega)]
  by_cases c1 : bt (bs rest) (p : Int) = 44
  ·obtain ⟨d, l, hr⟩ := hj true
   refine ⟨d, l, Ev.step (fun k => ?_) hr⟩
   simp only [refParseT.l1]
   rw [if_pos (by rw [bs_size]; omega), if_pos (by omega), if_pos c1]
  ·obtain ⟨d, l, hr⟩ := hj (bt (bs rest) (p : Int) == 41)
   refine ⟨d, l, Ev.step (fun k => ?_) hr⟩
   simp only [refParseT.l1]
   rw [if_pos (by rw [bs_size]; omega), if_pos (by omega), if_neg c1]
theorem rp_l0_any : ∀ (e p : Nat), p + e = s.length → ∀ c : Nat, c ≤ p → ∃ d l, Ev (fun k => refParseT.l0 k (bs s) (p : Int) (c : Int)) (d, l, false) := by
 have hout : ∀ (p c : Nat), p ≤ s.length → c ≤ p → ∃ d l, Ev (fun k => refParseT.j1 k (bs s) (p : Int) false (c : Int)) (d, l, false) := by
  intro p c hp hc
  have e6 : wrap64 ((p : Int) + 6) = ((p + 6 : Nat) : Int) := by rw [wrap_id (by omega) (by omega)]; omega
  have hbad : ∃ d l, Ev (fun k => refParseT.j2 k (bs s) (p : Int) true (c : Int)) (d, l, false) := ⟨0, [], Ev.step (f := fun _ => some (0, [], false)) (fun k => by simp only [refParseT.j2]; rw [if_pos trivial]) (Ev.now _)⟩
  by_cases c1 : c > 6
  ·obtain ⟨d, l, h⟩ := hbad
   refine ⟨d, l, Ev.step (fun k => ?_) h⟩
   simp only [refParseT.j1]
   rw [if_neg (by simp), if_pos (by omega)]
  ·by_cases c2 : p + 6 > s.length
   ·obtain ⟨d, l, h⟩ := hbad
    refine ⟨d, l, Ev.step (fun k => ?_) h⟩
    simp only [refParseT.j1]
    rw [if_neg (by simp), if_neg (by omega), decide_eq_true (by rw [e6, bs_size]; omega)]
   ·have hj2 : ∃ d l, Ev (fun k => refParseT.j2 k (bs s) (p : Int) false (c : Int)) (d, l, false) := by
     by_cases c3 : s.drop (p + 6) = [41]
     ·have hb : rightB (c : Int) [] = true := by
       rw [rightB_rows (by omega) (by omega) (by simp)]; rfl
      refine ⟨c, [], Ev.step (f := fun k => (demoticref19_Print.f k (c : Int) ([] : List (List Int))).bind fun u => (some ((c : Int), ([] : List (List Int)), (u.toList == (bs s).toList)))) (fun k => ?_) (Ev.bind (rprint_ev hb) (Ev.congr (f := fun _ => some ((c : Int), [], false)) (fun k => ?_) (Ev.now _)))⟩
      ·simp only [refParseT.j2]
       rw [if_neg (by simp), e6, if_pos (by omega), if_pos (by rw [bs_size]; omega), Int.toNat_natCast, ext_drop, bs_toList, if_pos c3]
      ·try simp only
       rw [bs_toList, bs_toList, beq_eq_false_iff_ne.2 (hno _ _ hb)]
     ·obtain ⟨d, l, h⟩ := rp_l1_any s hs hno c (by omega) (s.drop (p + 6)) (by rw [List.length_drop]; omega) _ 0 (Nat.zero_add _) 0 [] (Nat.le_refl _) (by simp)
      refine ⟨d, l, Ev.step (fun k => ?_) h⟩
      simp only [refParseT.j2]
      rw [if_neg (by simp), e6, if_pos (by omega), if_pos (by rw [bs_size]; omega), Int.toNat_natCast, ext_drop, bs_toList, if_neg c3]
      rfl
    obtain ⟨d, l, h⟩ := hj2
    refine ⟨d, l, Ev.step (fun k => ?_) h⟩
    simp only [refParseT.j1]
    rw [if_neg (by simp), if_neg (by omega), decide_eq_false (by rw [e6, bs_size]; omega)]
 intro e
 induction e with
 | zero =>
  intro p hp c hc
  obtain ⟨d, l, h⟩ := hout p c (by omega) hc
  refine ⟨d, l, Ev.step (fun k => ?_) h⟩
  simp only [refParseT.l0]
  rw [if_neg (by rw [bs_size]; omega)]
 | succ e ih =>
  intro p hp c hc
  have e2 : wrap64 ((p : Int) + 1) = ((p + 1 : Nat) : Int) := by rw [wrap_id (by omega) (by omega)]; omega
  have e3 : wrap64 ((c : Int) + 1) = ((c + 1 : Nat) : Int) := by rw [wrap_id (by omega) (by omega)]; omega
  have hj : ∀ t : Bool, ∃ d l, Ev (fun k => refParseT.j1 k (bs s) (p : Int) t (c : Int)) (d, l, false) := by
   intro t
   cases t with
   | false => exact hout p c (by omega) hc
   | true =>
    by_cases c1 : bt (bs s) (p : Int) = 100
    ·obtain ⟨d, l, h⟩ := ih (p + 1) (by omega) (c + 1) (by omega)
     refine ⟨d, l, Ev.step (fun k => ?_) h⟩
     simp only [refParseT.j1]
     rw [if_pos trivial, if_pos (by omega), if_pos (by rw [bs_size]; omega), if_pos c1, e2, e3]
    ·obtain ⟨d, l, h⟩ := ih (p + 1) (by omega) c (by omega)
     refine ⟨d, l, Ev.step (fun k => ?_) h⟩
     simp only [refParseT.j1]
     rw [if_pos trivial, if_pos (by omega), if_pos (by rw [bs_size]; omega), if_neg c1, e2]
  obtain ⟨d, l, h⟩ := hj (bt (bs s) (p : Int) != 41)
  refine ⟨d, l, Ev.step (fun k => ?_) h⟩
  simp only [refParseT.l0]
  rw [if_pos (by rw [bs_size]; omega), if_pos (by omega)]
theorem refParse_no : ∃ d l, Ev (fun k => refParseT.f k (bs s)) (d, l, false) := rp_l0_any s hs hno s.length 0 (by omega) 0 (Nat.le_refl _)
end
end Go.Proofs.YtcefaofknaeaeaaGreatDoor.X
