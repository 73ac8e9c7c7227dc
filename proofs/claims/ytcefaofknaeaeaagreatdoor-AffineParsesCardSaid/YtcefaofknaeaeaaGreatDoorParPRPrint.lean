/- The reference's string of a right map, as told by the print, is that of affine.Print; plain Lean. -/
import Derived.Test.YtcefaofknaeaeaaGreatDoorParPParse
import Derived.Test.YtcefaofknaeaeaaGreatDoorParXu
set_option linter.unusedVariables false
set_option linter.unusedSimpArgs false
set_option linter.unusedSectionVars false
namespace Go.Proofs.YtcefaofknaeaeaaGreatDoor.X
open Go.RowKit Go.Proofs.YtcefaofknaeaeaaGreatDoorW.PrintWords Go.Proofs.YtcefaofknaeaeaaGreatDoorW.PrintLast Go.Proofs.YtcefaofknaeaeaaGreatDoorW.PrintMore
theorem bs_append (a b : List UInt8) : bs a ++ bs b = bs (a ++ b) := ba_append a b
theorem digits_f (m : Nat) (h : m ≤ 1000000) : demoticref01_Digits.f (m : Int) = some (bs (Lib.decDigits m)) := by
 unfold demoticref01_Digits.f
 rw [if_pos (by omega), Int.toNat_natCast]
theorem mx_abs (v : Int) (hv : -1000000 ≤ v ∧ v ≤ 1000000) : mx v (wrap64 (-v)) = (v.natAbs : Int) := by
 unfold mx
 rw [wrap_id (by omega) (by omega)]
 split <;> omega
section
variable {r : List Int} (hl : 0 < r.length ∧ r.length ≤ 7) (hs : ∀ j : Nat, j < r.length → -1000000 ≤ r.getD j 0 ∧ r.getD j 0 ≤ 1000000)
include hl hs
theorem rj3 (A : List UInt8) (hA : A.length ≤ 1000) (i : Nat) (hi : i < r.length) (v : Int) (hv : -1000000 ≤ v ∧ v ≤ 1000000) (R : ByteArray) (H : Ev (fun k => demoticref19_row.l0 k r (bs (A ++ termS v i (r.length - 1))) ((i + 1 : Nat) : Int)) R) :
  Ev (fun k => demoticref19_row.j3 k r (bs A) (i : Int) v) R := by
 have h7 := dec_len7 v.natAbs (by omega)
 have h8 := dec_len7 i (by omega)
 refine Ev.step (f := fun k => demoticref19_row.l0 k r (bs (A ++ termS v i (r.length - 1))) ((i + 1 : Nat) : Int)) (fun k => ?_) H
 simp only [demoticref19_row.j3]
 rw [digits_f i (by omega), mx_abs v hv, digits_f v.natAbs (by omega), wrap_id (x := (r.length : Int) - 1) (by omega) (by omega), wrap_id (x := (i : Int) + 1) (by omega) (by omega)]
 simp only [Option.bind_some]
 rw [show ((⟨#[100]⟩ : ByteArray)) = bs [100] from rfl, show ((⟨#[42]⟩ : ByteArray)) = bs [42] from rfl]
 simp only [bs_append, bs_size, List.length_append, List.length_cons, List.length_nil]
 rw [if_pos (by omega)]
 unfold termS
 by_cases c1 : i = r.length - 1
 ·rw [if_pos (by omega), if_pos (by omega), if_pos c1]; rfl
 ·rw [if_neg (by omega), if_neg c1]
  by_cases c2 : v.natAbs = 1
  ·rw [if_pos (by omega), if_pos (by omega), if_pos c2]; rfl
  ·rw [if_neg (by omega), if_pos (by omega), if_pos (by omega), if_pos (by omega), if_neg c2]
   simp only [List.append_assoc, List.cons_append, List.nil_append]
   rfl
theorem rrow_l0 : ∀ (e i : Nat), i + e = r.length → Ev (fun k => demoticref19_row.l0 k r (bs (rowAcc r i)) (i : Int)) (bs (rowS r))
 | 0, i, hi => by
  obtain rfl : i = r.length := by omega
  refine Ev.step (f := fun _ => some (bs (rowS r))) (fun k => ?_) (Ev.now _)
  simp only [demoticref19_row.l0, bs_toList]
  rw [if_neg (by omega)]
  unfold rowS
  by_cases c : rowAcc r r.length = []
  ·rw [if_pos c, if_pos c]
  ·rw [if_neg c, if_neg c]
 | e + 1, i, hi => by
  have ih := rrow_l0 e (i + 1) (by omega)
  have hv := hs i (by omega)
  have hA := rowAcc_len20 r hs hl.2 i (by omega)
  have hsep := sepS_len (rowAcc r i) (r.getD i 0)
  have hstep := rowAcc_succ r i
  by_cases h0 : r.getD i 0 = 0
  ·rw [if_pos h0] at hstep
   rw [hstep] at ih
   refine Ev.step (f := fun k => demoticref19_row.l0 k r (bs (rowAcc r i)) ((i + 1 : Nat) : Int)) (fun k => ?_) ih
   simp only [demoticref19_row.l0]
   rw [if_pos (by omega), if_pos (by omega), rd_nat, if_pos h0, wrap_id (by omega) (by omega)]; rfl
  ·rw [if_neg h0] at hstep
   rw [hstep] at ih
   have hj3 := rj3 hl hs (rowAcc r i ++ sepS (rowAcc r i) (r.getD i 0)) (by rw [List.length_append]; omega) i (by omega) (r.getD i 0) hv _ ih
   generalize hv' : r.getD i 0 = v at h0 hv hsep hstep hj3
   by_cases c1 : rowAcc r i = []
   ·have hl0 : ∀ k, demoticref19_row.l0 (k + 1) r (bs (rowAcc r i)) (i : Int) = demoticref19_row.j1 k r (bs (rowAcc r i)) (i : Int) v (decide (v < 0)) := fun k => by
     simp only [demoticref19_row.l0, bs_toList]
     rw [if_pos (by omega), if_pos (by omega), rd_nat, hv', if_neg h0, if_pos c1]
    refine Ev.step hl0 ?_
    by_cases c2 : v < 0
    ·have e1 : sepS (rowAcc r i) v = [45] := by unfold sepS; rw [if_pos c1, if_pos c2]
     rw [e1, c1] at hj3
     refine Ev.step (f := fun k => demoticref19_row.j3 k r (bs ([] ++ [45])) (i : Int) v) (fun k => ?_) hj3
     simp only [demoticref19_row.j1]
     rw [decide_eq_true c2, if_pos rfl]; rfl
    ·have e1 : sepS (rowAcc r i) v = [] := by unfold sepS; rw [if_pos c1, if_neg c2]
     rw [e1, List.append_nil] at hj3
     refine Ev.step (f := fun k => demoticref19_row.j2 k r (bs (rowAcc r i)) (i : Int) v false) (fun k => ?_) (Ev.step (f := fun k => demoticref19_row.j3 k r (bs (rowAcc r i)) (i : Int) v) (fun k => ?_) hj3)
     ·simp only [demoticref19_row.j1, bs_toList]
      rw [decide_eq_false c2, if_neg (by simp), if_pos c1]
     ·simp only [demoticref19_row.j2, bs_toList]
      rw [if_neg (by simp), if_pos c1]
   ·have hl0 : ∀ k, demoticref19_row.l0 (k + 1) r (bs (rowAcc r i)) (i : Int) = demoticref19_row.j1 k r (bs (rowAcc r i)) (i : Int) v false := fun k => by
     simp only [demoticref19_row.l0, bs_toList]
     rw [if_pos (by omega), if_pos (by omega), rd_nat, hv', if_neg h0, if_neg c1]
    have hj1 : ∀ k, demoticref19_row.j1 (k + 1) r (bs (rowAcc r i)) (i : Int) v false = demoticref19_row.j2 k r (bs (rowAcc r i)) (i : Int) v (decide (v < 0)) := fun k => by
     simp only [demoticref19_row.j1, bs_toList]
     rw [if_neg (by simp), if_neg c1]
    refine Ev.step hl0 (Ev.step hj1 ?_)
    by_cases c2 : v < 0
    ·have e1 : sepS (rowAcc r i) v = [32, 45, 32] := by unfold sepS; rw [if_neg c1, if_pos c2]
     rw [e1] at hj3
     refine Ev.step (f := fun k => demoticref19_row.j3 k r (bs (rowAcc r i ++ [32, 45, 32])) (i : Int) v) (fun k => ?_) hj3
     simp only [demoticref19_row.j2]
     rw [decide_eq_true c2, if_pos rfl, if_pos (by rw [bs_size]; omega), ← bs_append]
    ·have e1 : sepS (rowAcc r i) v = [32, 43, 32] := by unfold sepS; rw [if_neg c1, if_neg c2]
     rw [e1] at hj3
     refine Ev.step (f := fun k => demoticref19_row.j3 k r (bs (rowAcc r i ++ [32, 43, 32])) (i : Int) v) (fun k => ?_) hj3
     simp only [demoticref19_row.j2, bs_toList]
     rw [decide_eq_false c2, if_neg (by simp), if_neg c1, if_pos (by rw [bs_size]; omega), ← bs_append]
theorem rrow_ev : Ev (fun k => demoticref19_row.f k r) (bs (rowS r)) := rrow_l0 hl hs r.length 0 (by omega)
end
theorem join_snoc (x : List UInt8) (sep : List UInt8) : ∀ ls : List (List UInt8), Lib.join (ls ++ [x]) sep = if ls = [] then x else Lib.join ls sep ++ sep ++ x
 | [] => by rw [if_pos rfl]; exact join_one x sep
 | [y] => by rw [if_neg (by simp), List.singleton_append, join_cons2, join_one, join_one]
 | y :: z :: ls => by
  have ih := join_snoc x sep (z :: ls)
  rw [if_neg (by simp)] at ih ⊢
  rw [List.cons_append, List.cons_append, join_cons2, ← List.cons_append, ih, join_cons2]
  simp [List.append_assoc]
theorem dimL_succ (i : Nat) : dimL (i + 1) = dimL i ++ [100 :: Lib.decDigits i] := by
 unfold dimL
 rw [List.range_succ, List.map_append]; rfl
section
variable {d : Int} {l : List (List Int)} (h : rightB d l = true)
include h
theorem rprint_l1 (P : List UInt8) (hP : P.length ≤ 1000) : ∀ (e i : Nat), i + e = l.length → Ev (fun k => demoticref19_Print.l1 k (bs (P ++ Lib.join ((l.take i).map rowS) [44, 32])) (i : Int) d l) (bs (P ++ Lib.join (l.map rowS) [44, 32] ++ [41]))
 | 0, i, hi => by
  have hlen := rowsS_len h
  refine Ev.step (f := fun _ => some (bs (P ++ Lib.join (l.map rowS) [44, 32] ++ [41]))) (fun k => ?_) (Ev.now _)
  simp only [demoticref19_Print.l1]
  rw [if_neg (by omega), List.take_of_length_le (by omega), if_pos (by rw [bs_size, List.length_append]; omega), show ((⟨#[41]⟩ : ByteArray)) = bs [41] from rfl, bs_append]
 | e + 1, i, hi => by
  have ih := rprint_l1 P hP e (i + 1) (by omega)
  obtain ⟨d0, d6, l6⟩ := rightB_dims h
  have hil : i < l.length := by omega
  obtain ⟨hr1, hr2⟩ := right_rows h l[i] (List.getElem_mem hil)
  have hlen := rowS_len140 l[i] hr2 (by omega)
  have hjl := join_len 140 [44, 32] ((l.take i).map rowS) (fun x hx => by
   obtain ⟨r, hr, rfl⟩ := List.mem_map.1 hx
   obtain ⟨h1, h2⟩ := right_rows h r (List.mem_of_mem_take hr)
   exact rowS_len140 r h2 (by omega))
  rw [List.length_map, List.length_take] at hjl
  simp only [List.length_cons, List.length_nil] at hjl
  obtain ⟨K1, h1⟩ := rrow_ev (r := l[i]) (by omega) hr2
  obtain ⟨K2, h2⟩ := ih
  refine ⟨K1 + K2 + 1, fun k hk => ?_⟩
  obtain ⟨m, rfl⟩ : ∃ m, k = m + 1 := ⟨k - 1, by omega⟩
  have e1 := h1 m (by omega)
  have e2 := h2 m (by omega)
  simp only at e1 e2
  rw [List.take_add_one, List.getElem?_eq_getElem hil, List.map_append] at e2
  simp only [Option.toList, List.map_cons, List.map_nil, join_snoc] at e2
  simp only [demoticref19_Print.l1]
  rw [if_pos (by omega), rd_L1_at hil, e1]
  simp only [Option.bind_some]
  rw [show ((⟨#[44, 32]⟩ : ByteArray)) = bs [44, 32] from rfl]
  simp only [bs_append, bs_size, List.length_append, List.length_cons, List.length_nil]
  rw [wrap_id (x := (i : Int) + 1) (by omega) (by omega)]
  by_cases c : i = 0
  ·subst c
   rw [if_neg (by omega), if_pos (by omega), if_pos (by omega)]
   rw [if_pos (by simp)] at e2
   simpa [join_nil] using e2
  ·rw [if_pos (by omega), if_pos (by omega), if_pos (by omega), if_pos (by omega)]
   rw [if_neg (by
    intro e
    have := congrArg List.length e
    rw [List.length_map, List.length_take, List.length_nil] at this
    omega)] at e2
   rw [show P ++ Lib.join (List.map rowS (List.take i l)) [44, 32] ++ [44, 32] ++ rowS l[i] = P ++ (Lib.join (List.map rowS (List.take i l)) [44, 32] ++ [44, 32] ++ rowS l[i]) by simp [List.append_assoc]]
   exact e2
theorem rprint_l0 (n : Nat) (hn : d = (n : Int)) : ∀ (e i : Nat), i + e = n → Ev (fun k => demoticref19_Print.l0 k (bs ([40] ++ Lib.join (dimL i) [44, 32])) (i : Int) d l) (bs (printS n l))
 | 0, i, hi => by
  obtain ⟨d0, d6, l6⟩ := rightB_dims h
  obtain rfl : i = n := by omega
  have hdl := dimsS_len60 i (by omega)
  have hdl2 : ([40] ++ Lib.join (dimL i) [44, 32]).length + 1 = (dimsS i).length := by unfold dimsS; simp
  have key := rprint_l1 h (dimsS i ++ [32, 45, 62, 32, 40]) (by rw [List.length_append]; simp; omega) l.length 0 (by omega)
  rw [List.take_zero, List.map_nil, join_nil, List.append_nil] at key
  have e : bs (printS i l) = bs (dimsS i ++ [32, 45, 62, 32, 40] ++ Lib.join (l.map rowS) [44, 32] ++ [41]) := rfl
  rw [e]
  refine Ev.step (f := fun k => demoticref19_Print.l1 k (bs (dimsS i ++ [32, 45, 62, 32, 40])) 0 d l) (fun k => ?_) key
  simp only [demoticref19_Print.l0]
  rw [if_neg (by omega), if_pos (by rw [bs_size]; omega), show ((⟨#[41, 32, 45, 62, 32, 40]⟩ : ByteArray)) = bs [41, 32, 45, 62, 32, 40] from rfl, bs_append]
  rw [show [40] ++ Lib.join (dimL i) [44, 32] ++ [41, 32, 45, 62, 32, 40] = dimsS i ++ [32, 45, 62, 32, 40] by unfold dimsS; simp [List.append_assoc]]
 | e + 1, i, hi => by
  have ih := rprint_l0 n hn e (i + 1) (by omega)
  obtain ⟨d0, d6, l6⟩ := rightB_dims h
  have hdl := dimsS_len60 i (by omega)
  have hdl2 : ([40] ++ Lib.join (dimL i) [44, 32]).length + 1 = (dimsS i).length := by unfold dimsS; simp
  simp only [List.length_append, List.length_cons, List.length_nil] at hdl2
  have h7 := dec_len7 i (by omega)
  rw [dimL_succ, join_snoc] at ih
  refine Ev.step (f := fun k => demoticref19_Print.l0 k (bs ([40] ++ (if dimL i = [] then 100 :: Lib.decDigits i else Lib.join (dimL i) [44, 32] ++ [44, 32] ++ (100 :: Lib.decDigits i)))) ((i + 1 : Nat) : Int) d l) (fun k => ?_) ih
  simp only [demoticref19_Print.l0]
  rw [if_pos (by omega), digits_f i (by omega)]
  simp only [Option.bind_some]
  rw [show ((⟨#[44, 32]⟩ : ByteArray)) = bs [44, 32] from rfl, show ((⟨#[100]⟩ : ByteArray)) = bs [100] from rfl]
  simp only [bs_append, bs_size, List.length_append, List.length_cons, List.length_nil]
  rw [wrap_id (x := (i : Int) + 1) (by omega) (by omega)]
  by_cases c : i = 0
  ·subst c
   rw [if_neg (by omega), if_pos (by omega), if_pos (by omega), if_pos (show dimL 0 = [] from rfl), show dimL 0 = [] from rfl, join_nil]
   rfl
  ·rw [if_pos (by omega), if_pos (by omega), if_pos (by omega), if_pos (by omega), if_neg (by
    intro e
    have := congrArg List.length e
    simp [dimL] at this
    omega)]
   simp only [List.append_assoc, List.cons_append, List.nil_append]
   rfl
theorem rprint_ev : Ev (fun k => demoticref19_Print.f k d l) (bs (printS d.toNat l)) := by
 obtain ⟨d0, d6, l6⟩ := rightB_dims h
 exact rprint_l0 h d.toNat (by omega) d.toNat 0 (by omega)
end
end Go.Proofs.YtcefaofknaeaeaaGreatDoor.X
