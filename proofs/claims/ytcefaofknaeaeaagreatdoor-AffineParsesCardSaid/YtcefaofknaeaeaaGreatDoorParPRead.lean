/- The reference's read, as told by the print: of any string a row or nothing, of a right row's string that row; plain Lean. -/
import Derived.Test.YtcefaofknaeaeaaGreatDoorParPNum
set_option linter.unusedVariables false
set_option linter.unusedSimpArgs false
set_option linter.unusedSectionVars false
namespace Go.Proofs.YtcefaofknaeaeaaGreatDoor.X
open Go.RowKit Go.Proofs.YtcefaofknaeaeaaGreatDoorW.PrintWords Go.Proofs.YtcefaofknaeaeaaGreatDoorW.PrintLast Go.Proofs.YtcefaofknaeaeaaGreatDoorW.PrintMore
theorem read_end (P : List UInt8) (n : Int) (out : List Int) (sg : Int) : Ev (fun k => demoticref19_read.l0 k (bs P) n out sg (P.length : Int)) out := by
 refine Ev.step (f := fun _ => some out) (fun k => ?_) (Ev.now _)
 simp only [demoticref19_read.l0]
 rw [if_neg (by rw [bs_size]; omega)]
theorem read_skip (P : List UInt8) (c : UInt8) (T : List UInt8) (n : Int) (out : List Int) (sg : Int) (hP : P.length ≤ 100000) (h1 : c ≠ 45) (h2 : c ≠ 100) (h3 : ¬ (48 ≤ c.toNat ∧ c.toNat ≤ 57)) {res : List Int}
  (H : Ev (fun k => demoticref19_read.l0 k (bs (P ++ c :: T)) n out sg ((P.length + 1 : Nat) : Int)) res) : Ev (fun k => demoticref19_read.l0 k (bs (P ++ c :: T)) n out sg (P.length : Int)) res := by
 have e2 : wrap64 ((P.length : Int) + 1) = ((P.length + 1 : Nat) : Int) := by rw [wrap_id (by omega) (by omega)]; omega
 have n1 : ¬ (c.toNat : Int) = 45 := fun e => h1 (UInt8.toNat_inj.1 (by rw [show (45 : UInt8).toNat = 45 from rfl]; omega))
 have n2 : ¬ (c.toNat : Int) = 100 := fun e => h2 (UInt8.toNat_inj.1 (by rw [show (100 : UInt8).toNat = 100 from rfl]; omega))
 have H1 : Ev (fun k => demoticref19_read.j1 k (bs (P ++ c :: T)) n out sg (P.length : Int) false) res := by
  refine Ev.step (fun k => ?_) H
  simp only [demoticref19_read.j1]
  rw [if_neg (by simp), e2]
 refine Ev.step (fun k => ?_) H1
 simp only [demoticref19_read.l0]
 rw [if_pos (lt_mid P c T), if_pos (by omega), bt_mid, if_neg n1, if_neg n2]
 by_cases c1 : (c.toNat : Int) ≥ 48
 ·rw [if_pos c1, decide_eq_false (by omega)]
 ·rw [if_neg c1]
theorem read_minus (P T : List UInt8) (n : Int) (out : List Int) (sg : Int) (hP : P.length ≤ 100000) {res : List Int}
  (H : Ev (fun k => demoticref19_read.l0 k (bs (P ++ 45 :: T)) n out (-1) ((P.length + 1 : Nat) : Int)) res) : Ev (fun k => demoticref19_read.l0 k (bs (P ++ 45 :: T)) n out sg (P.length : Int)) res := by
 have e2 : wrap64 ((P.length : Int) + 1) = ((P.length + 1 : Nat) : Int) := by rw [wrap_id (by omega) (by omega)]; omega
 refine Ev.step (fun k => ?_) H
 simp only [demoticref19_read.l0]
 rw [if_pos (lt_mid P 45 T), if_pos (by omega), bt_mid, if_pos (by rfl), e2]
def After (T : List UInt8) : Prop := ∀ b, T.head? = some b → b = 32
theorem After.no {T : List UInt8} (h : After T) : NoDig T := fun b hb e => by
 rw [h b hb] at e
 exact absurd e.1 (by decide)
theorem at_bytes (P : List UInt8) (T : List UInt8) (v : Nat) (c : UInt8) (hc : c.toNat = v) (h : ∀ b, T.head? = some b → b ≠ c) (hP : P.length ≤ 100000) {β : Type} (x : Bool → Option β) :
  (if (P.length : Int) < ((bs (P ++ T)).size : Int) then (if 0 ≤ (P.length : Int) then x (bt (bs (P ++ T)) (P.length : Int) == (v : Int)) else none) else x false) = x false := by
 cases T with
 | nil => rw [if_neg (by rw [bs_size]; simp)]
 | cons a T =>
  rw [if_pos (lt_mid P a T), if_pos (by omega), bt_mid]
  have : ¬ (a.toNat : Int) = (v : Int) := fun e => h a rfl (UInt8.toNat_inj.1 (by omega))
  rw [beq_eq_false_iff_ne.2 this]
section
variable (n : Nat) (hn : n ≤ 6) (out : List Int) (ho : out.length = n + 1) (sg v : Int) (hv : -1000000 ≤ v ∧ v ≤ 1000000) (hsg : wrap64 (sg * (v.natAbs : Int)) = v)
include hn ho hv hsg
theorem read_j4_c (P T : List UInt8) (hT : After T) (hP : P.length ≤ 100000) {res : List Int} (H : Ev (fun k => demoticref19_read.l0 k (bs (P ++ T)) n (out.set n v) 1 (P.length : Int)) res) :
  Ev (fun k => demoticref19_read.j4 k (bs (P ++ T)) n out sg (P.length : Int) (v.natAbs : Int) n) res := by
 have H1 : Ev (fun k => demoticref19_read.j5 k (bs (P ++ T)) n out sg (P.length : Int) (v.natAbs : Int) n false) res := by
  refine Ev.step (fun k => ?_) H
  simp only [demoticref19_read.j5]
  rw [if_neg (by simp), if_pos (by omega), if_pos (by omega), hsg, Int.toNat_natCast]
 refine Ev.step (fun k => ?_) H1
 simp only [demoticref19_read.j4]
 exact at_bytes P T 100 100 rfl (fun b hb e => by rw [hT b hb] at e; revert e; decide) hP (fun x => demoticref19_read.j5 k (bs (P ++ T)) n out sg (P.length : Int) (v.natAbs : Int) n x)
theorem read_j4_d (P T : List UInt8) (i : Nat) (hi : i < n) (hT : After T) (hP : P.length ≤ 100000)  {res : List Int} (H : Ev (fun k => demoticref19_read.l0 k (bs (P ++ 100 :: (Lib.decDigits i ++ T))) n (out.set i v) 1 ((P.length + 1 + (Lib.decDigits i).length : Nat) : Int)) res) :
  Ev (fun k => demoticref19_read.j4 k (bs (P ++ 100 :: (Lib.decDigits i ++ T))) n out sg (P.length : Int) (v.natAbs : Int) n) res := by
 have h7 := dec_len7 i (by omega)
 have hne := dec_ne_nil i
 have h0 : (Lib.decDigits i).length ≠ 0 := fun e => hne (List.length_eq_zero_iff.1 e)
 have e2 : wrap64 ((P.length : Int) + 1) = ((P.length + 1 : Nat) : Int) := by rw [wrap_id (by omega) (by omega)]; omega
 have e3 : wrap64 ((P.length : Int) + wrap64 (1 + ((Lib.decDigits i).length : Int))) = ((P.length + 1 + (Lib.decDigits i).length : Nat) : Int) := by
  rw [wrap_id (x := 1 + ((Lib.decDigits i).length : Int)) (by omega) (by omega), wrap_id (by omega) (by omega)]; omega
 have hx : (bs (P ++ 100 :: (Lib.decDigits i ++ T))).extract (P.length + 1) (bs (P ++ 100 :: (Lib.decDigits i ++ T))).size = bs (Lib.decDigits i ++ T) := by
  have := ext_mid (P ++ [100]) (Lib.decDigits i ++ T)
  simpa using this
 have H1 : Ev (fun k => demoticref19_read.j5 k (bs (P ++ 100 :: (Lib.decDigits i ++ T))) n out sg (P.length : Int) (v.natAbs : Int) n true) res := by
  refine Ev.step (f := fun k => (demoticref19_Number.f k (bs (Lib.decDigits i ++ T))).bind fun b => (if b.2 = 0 then some [] else if b.1 ≥ (n : Int) then some [] else if 0 ≤ b.1 then (if b.1 < (out.length : Int) then demoticref19_read.l0 k (bs (P ++ 100 :: (Lib.decDigits i ++ T))) n (out.set b.1.toNat (wrap64 (sg * (v.natAbs : Int)))) 1 (wrap64 ((P.length : Int) + wrap64 (1 + b.2))) else none) else none)) (fun k => ?_) ?_
  ·simp only [demoticref19_read.j5]
   rw [if_pos trivial, e2, if_pos (by omega), if_pos (by rw [bs_size]; simp; omega), Int.toNat_natCast, hx]
  ·refine Ev.bind (num_f i (by omega) T hT.no) ?_
   simp only
   refine Ev.congr (fun k => ?_) H
   rw [if_neg (by omega), if_neg (by omega), if_pos (by omega), if_pos (by omega), hsg, e3, Int.toNat_natCast]
 refine Ev.step (fun k => ?_) H1
 simp only [demoticref19_read.j4]
 rw [if_pos (lt_mid P 100 _), if_pos (by omega), bt_mid]
 rfl
theorem read_go (P : List UInt8) (c : UInt8) (T : List UInt8) (hc : c = 100 ∨ (48 ≤ c.toNat ∧ c.toNat ≤ 57)) {res : List Int} (H : Ev (fun k => demoticref19_read.j1 k (bs (P ++ c :: T)) n out sg (P.length : Int) true) res) :
  Ev (fun k => demoticref19_read.l0 k (bs (P ++ c :: T)) n out sg (P.length : Int)) res := by
 refine Ev.step (fun k => ?_) H
 simp only [demoticref19_read.l0]
 rw [if_pos (lt_mid P c T), if_pos (by omega), bt_mid]
 rcases hc with rfl | hc
 ·rfl
 ·rw [if_neg (by omega), if_neg (by omega), if_pos (by omega), decide_eq_true (by omega)]
theorem read_j1 (P T : List UInt8) (x c : Int) (hx : Ev (fun k => demoticref19_Number.f k (bs T)) (x, c)) {res : List Int} (H : Ev (fun k => demoticref19_read.j2 k (bs (P ++ T)) n out sg (P.length : Int) (if c = 0 then 1 else x) c) res) :
  Ev (fun k => demoticref19_read.j1 k (bs (P ++ T)) n out sg (P.length : Int) true) res := by
 refine Ev.step (f := fun k => (demoticref19_Number.f k (bs T)).bind fun b => (if b.2 = 0 then demoticref19_read.j2 k (bs (P ++ T)) n out sg (P.length : Int) 1 b.2 else demoticref19_read.j2 k (bs (P ++ T)) n out sg (P.length : Int) b.1 b.2)) (fun k => ?_) (Ev.bind hx (Ev.congr (fun k => ?_) H))
 ·simp only [demoticref19_read.j1]
  rw [if_pos trivial, if_pos (by omega), if_pos (by rw [bs_size]; simp; omega), Int.toNat_natCast, ext_mid]
 ·simp only
  by_cases h : c = 0
  ·rw [if_pos h, if_pos h]
  ·rw [if_neg h, if_neg h]
theorem read_j2_no (P D T : List UInt8) (x : Int) (hT : ∀ b, T.head? = some b → b ≠ 42) (hP : P.length + D.length ≤ 100000) {res : List Int} (H : Ev (fun k => demoticref19_read.j4 k (bs (P ++ D ++ T)) n out sg ((P ++ D).length : Int) x n) res) :
  Ev (fun k => demoticref19_read.j2 k (bs (P ++ D ++ T)) n out sg (P.length : Int) x (D.length : Int)) res := by
 have e : wrap64 ((P.length : Int) + (D.length : Int)) = ((P ++ D).length : Int) := by rw [wrap_id (by omega) (by omega)]; simp
 have H1 : Ev (fun k => demoticref19_read.j3 k (bs (P ++ D ++ T)) n out sg ((P ++ D).length : Int) x n false) res := by
  refine Ev.step (fun k => ?_) H
  simp only [demoticref19_read.j3]
  rw [if_neg (by simp)]
 refine Ev.step (fun k => ?_) H1
 simp only [demoticref19_read.j2]
 rw [e]
 exact at_bytes (P ++ D) T 42 42 rfl hT (by simpa using hP) (fun b => demoticref19_read.j3 k (bs (P ++ D ++ T)) n out sg ((P ++ D).length : Int) x n b)
theorem read_j2_star (P D T : List UInt8) (x : Int) (hP : P.length + D.length ≤ 100000) {res : List Int} (H : Ev (fun k => demoticref19_read.j4 k (bs (P ++ D ++ 42 :: T)) n out sg ((P ++ D ++ [42]).length : Int) x n) res) :
  Ev (fun k => demoticref19_read.j2 k (bs (P ++ D ++ 42 :: T)) n out sg (P.length : Int) x (D.length : Int)) res := by
 have e : wrap64 ((P.length : Int) + (D.length : Int)) = ((P ++ D).length : Int) := by rw [wrap_id (by omega) (by omega)]; simp
 have e1 : wrap64 (((P ++ D).length : Int) + 1) = ((P ++ D ++ [42]).length : Int) := by
  have e0 : (P ++ D).length = P.length + D.length := List.length_append
  have e1 : (P ++ D ++ [42]).length = (P ++ D).length + 1 := by simp; omega
  rw [wrap_id (by omega) (by omega)]; omega
 have H1 : Ev (fun k => demoticref19_read.j3 k (bs (P ++ D ++ 42 :: T)) n out sg ((P ++ D).length : Int) x n true) res := by
  refine Ev.step (fun k => ?_) H
  simp only [demoticref19_read.j3]
  rw [if_pos trivial, e1]
 refine Ev.step (fun k => ?_) H1
 simp only [demoticref19_read.j2]
 rw [e, if_pos (lt_mid (P ++ D) 42 T), if_pos (by omega), bt_mid]
 rfl
theorem read_term (P T : List UInt8) (i : Nat) (hi : i ≤ n) (hT : After T) (hP : P.length ≤ 90000) {res : List Int} (H : Ev (fun k => demoticref19_read.l0 k (bs (P ++ (termS v i n ++ T))) n (out.set i v) 1 ((P ++ termS v i n).length : Int)) res) :
  Ev (fun k => demoticref19_read.l0 k (bs (P ++ (termS v i n ++ T))) n out sg (P.length : Int)) res := by
 have h7 := dec_len7 v.natAbs (by omega)
 have h7i := dec_len7 i (by omega)
 have h0 : (Lib.decDigits v.natAbs).length ≠ 0 := fun e => dec_ne_nil _ (List.length_eq_zero_iff.1 e)
 unfold termS at H ⊢
 by_cases c1 : i = n
 ·rw [if_pos c1] at H ⊢
  subst c1
  have hgo : ∃ a l, Lib.decDigits v.natAbs = a :: l ∧ (48 ≤ a.toNat ∧ a.toNat ≤ 57) := by
   cases e : Lib.decDigits v.natAbs with
   | nil => exact absurd e (dec_ne_nil _)
   | cons a l => exact ⟨a, l, rfl, dec_bytes v.natAbs a (by rw [e]; exact List.mem_cons_self)⟩
  obtain ⟨a, l, ea, ha⟩ := hgo
  have hj : Ev (fun k => demoticref19_read.j1 k (bs (P ++ (Lib.decDigits v.natAbs ++ T))) i out sg (P.length : Int) true) res := by
   refine read_j1 i hn out ho sg v hv hsg P (Lib.decDigits v.natAbs ++ T) _ _ (num_f v.natAbs (by omega) T hT.no) ?_
   rw [if_neg (by omega), ← List.append_assoc]
   refine read_j2_no i hn out ho sg v hv hsg P (Lib.decDigits v.natAbs) T _ (fun b hb e => by rw [hT b hb] at e; revert e; decide) (by omega) ?_
   refine read_j4_c i hn out ho sg v hv hsg (P ++ Lib.decDigits v.natAbs) T hT (by rw [List.length_append]; omega) ?_
   rw [List.append_assoc]; exact H
  rw [ea] at hj ⊢
  exact read_go i hn out ho sg v hv hsg P a (l ++ T) (.inr ha) hj
 ·rw [if_neg c1] at H ⊢
  by_cases c2 : v.natAbs = 1
  ·rw [if_pos c2] at H ⊢
   refine read_go n hn out ho sg v hv hsg P 100 (Lib.decDigits i ++ T) (.inl rfl) ?_
   refine read_j1 n hn out ho sg v hv hsg P (100 :: (Lib.decDigits i ++ T)) 0 0 (num_no _ (fun b hb => by simp at hb; subst hb; decide)) ?_
   rw [if_pos rfl]
   have := read_j2_no n hn out ho sg v hv hsg P [] (100 :: (Lib.decDigits i ++ T)) 1 (res := res) (fun b hb => by simp at hb; subst hb; decide) (by simp; omega)
   simp only [List.append_nil, List.length_nil] at this
   refine this ?_
   have := read_j4_d n hn out ho sg v hv hsg P T i (by omega) hT (by omega) (res := res)
   rw [c2] at this
   refine this ?_
   rw [List.length_append, List.length_cons] at H
   rw [show P.length + 1 + (Lib.decDigits i).length = P.length + ((Lib.decDigits i).length + 1) by omega]
   exact H
  ·rw [if_neg c2] at H ⊢
   have hgo : ∃ a l, Lib.decDigits v.natAbs = a :: l ∧ (48 ≤ a.toNat ∧ a.toNat ≤ 57) := by
    cases e : Lib.decDigits v.natAbs with
    | nil => exact absurd e (dec_ne_nil _)
    | cons a l => exact ⟨a, l, rfl, dec_bytes v.natAbs a (by rw [e]; exact List.mem_cons_self)⟩
   obtain ⟨a, l, ea, ha⟩ := hgo
   have es : Lib.decDigits v.natAbs ++ 42 :: 100 :: Lib.decDigits i ++ T = Lib.decDigits v.natAbs ++ (42 :: 100 :: (Lib.decDigits i ++ T)) := by simp
   rw [es] at H ⊢
   have hj : Ev (fun k => demoticref19_read.j1 k (bs (P ++ (Lib.decDigits v.natAbs ++ (42 :: 100 :: (Lib.decDigits i ++ T))))) n out sg (P.length : Int) true) res := by
    refine read_j1 n hn out ho sg v hv hsg P (Lib.decDigits v.natAbs ++ (42 :: 100 :: (Lib.decDigits i ++ T))) _ _ (num_f v.natAbs (by omega) _ (fun b hb => by simp at hb; subst hb; decide)) ?_
    rw [if_neg (by omega), ← List.append_assoc]
    refine read_j2_star n hn out ho sg v hv hsg P (Lib.decDigits v.natAbs) (100 :: (Lib.decDigits i ++ T)) _ (by omega) ?_
    have := read_j4_d n hn out ho sg v hv hsg (P ++ Lib.decDigits v.natAbs ++ [42]) T i (by omega) hT (by rw [List.length_append, List.length_append, List.length_singleton]; omega) (res := res)
    rw [show P ++ Lib.decDigits v.natAbs ++ [42] ++ 100 :: (Lib.decDigits i ++ T) = P ++ Lib.decDigits v.natAbs ++ 42 :: 100 :: (Lib.decDigits i ++ T) by simp] at this
    refine this ?_
    rw [List.append_assoc]
    have e9 : (P ++ Lib.decDigits v.natAbs ++ [42]).length + 1 + (Lib.decDigits i).length = (P ++ (Lib.decDigits v.natAbs ++ 42 :: 100 :: Lib.decDigits i)).length := by simp; omega
    rw [e9]
    exact H
   rw [ea] at hj ⊢
   exact read_go n hn out ho sg v hv hsg P a (l ++ (42 :: 100 :: (Lib.decDigits i ++ T))) (.inr ha) hj
end
theorem partR_zero (r : List Int) (n k : Nat) (h0 : r.getD k 0 = 0) : partR r n (k + 1) = partR r n k := by
 refine (list_eq_map (by simp [partR]) (fun t ht => ?_)).symm
 rw [partR_getD r n k t ht]
 by_cases c : t < k
 ·rw [if_pos c, if_pos (by omega)]
 ·rw [if_neg c]
  by_cases c2 : t = k
  ·subst c2; rw [if_pos (by omega), h0]
  ·rw [if_neg (by omega)]
theorem partR_set (r : List Int) (n k : Nat) (hk : k ≤ n) : (partR r n k).set k (r.getD k 0) = partR r n (k + 1) := by
 refine list_eq_map (by simp [partR]) (fun t ht => ?_)
 rw [getD_set _ _ _ _ (by simp [partR]; omega), partR_getD r n k t ht]
 by_cases c : t = k
 ·subst c; rw [if_pos rfl, if_pos (by omega)]
 ·rw [if_neg c]
  by_cases c2 : t < k
  ·rw [if_pos c2, if_pos (by omega)]
  ·rw [if_neg c2, if_neg (by omega)]
theorem partR_len (r : List Int) (n k : Nat) : (partR r n k).length = n + 1 := by simp [partR]
theorem partR_none (r : List Int) (n : Nat) : List.replicate (n + 1) 0 = partR r n 0 := by
 refine list_eq_map (by simp) (fun t ht => ?_)
 rw [if_neg (by omega), List.getD_eq_getElem?_getD, List.getElem?_replicate, if_pos (by omega)]; rfl
theorem acc_tail (r : List Int) (i : Nat) : ∀ m, i ≤ m → ∃ t, rowAcc r m = rowAcc r i ++ t ∧ (rowAcc r i ≠ [] → After t)
 | 0, h => by
  obtain rfl : i = 0 := by omega
  exact ⟨[], by simp, fun _ b hb => by simp at hb⟩
 | m + 1, h => by
  by_cases c : i = m + 1
  ·subst c; exact ⟨[], by simp, fun _ b hb => by simp at hb⟩
  ·obtain ⟨t, e, ht⟩ := acc_tail r i m (by omega)
   rw [rowAcc_succ]
   by_cases h0 : r.getD m 0 = 0
   ·rw [if_pos h0]; exact ⟨t, e, ht⟩
   ·rw [if_neg h0]
    refine ⟨t ++ sepS (rowAcc r m) (r.getD m 0) ++ termS (r.getD m 0) m (r.length - 1), by rw [e]; simp [List.append_assoc], fun hne b hb => ?_⟩
    cases ht' : t with
    | cons a t2 =>
     rw [ht'] at hb
     exact ht hne b (by rw [ht']; simpa using hb)
    | nil =>
     have hm : rowAcc r m ≠ [] := by rw [e]; simp [hne]
     rw [ht'] at hb
     unfold sepS at hb
     rw [if_neg hm] at hb
     split at hb <;> simpa using hb.symm
theorem acc_zero (r : List Int) : ∀ k, rowAcc r k = [] → ∀ j, j < k → r.getD j 0 = 0
 | 0, _, j, hj => by omega
 | k + 1, h, j, hj => by
  rw [rowAcc_succ] at h
  by_cases h0 : r.getD k 0 = 0
  ·rw [if_pos h0] at h
   by_cases c : j = k
   ·subst c; exact h0
   ·exact acc_zero r k h j (by omega)
  ·rw [if_neg h0] at h
   exact absurd (List.append_eq_nil_iff.1 h).2 (term_ok (r.getD k 0) k (r.length - 1)).1
theorem read_sep (A : List UInt8) (v : Int) (P X : List UInt8) (n : Int) (out : List Int) (hP : P.length ≤ 90000) {res : List Int}
  (H : Ev (fun k => demoticref19_read.l0 k (bs (P ++ (sepS A v ++ X))) n out (if v < 0 then -1 else 1) ((P ++ sepS A v).length : Int)) res) : Ev (fun k => demoticref19_read.l0 k (bs (P ++ (sepS A v ++ X))) n out 1 (P.length : Int)) res := by
 unfold sepS at H ⊢
 by_cases hA : A = []
 ·rw [if_pos hA] at H ⊢
  by_cases hv : v < 0
  ·simp only [if_pos hv] at H ⊢
   refine read_minus P X n out 1 (by omega) ?_
   rw [List.length_append] at H
   exact H
  ·simp only [if_neg hv] at H ⊢
   rw [List.append_nil] at H
   exact H
 ·rw [if_neg hA] at H ⊢
  by_cases hv : v < 0
  ·simp only [if_pos hv] at H ⊢
   refine read_skip P 32 ([45, 32] ++ X) n out 1 (by omega) (by decide) (by decide) (by decide) ?_
   have h2 := read_minus (P ++ [32]) ([32] ++ X) n out 1 (by simp; omega) (res := res)
   have h3 := read_skip (P ++ [32, 45]) 32 X n out (-1) (by simp; omega) (by decide) (by decide) (by decide) (res := res)
   simp only [List.append_assoc, List.cons_append, List.nil_append, List.length_append, List.length_cons, List.length_nil] at h2 h3 H ⊢
   exact h2 (h3 H)
  ·simp only [if_neg hv] at H ⊢
   refine read_skip P 32 ([43, 32] ++ X) n out 1 (by omega) (by decide) (by decide) (by decide) ?_
   have h2 := read_skip (P ++ [32]) 43 ([32] ++ X) n out 1 (by simp; omega) (by decide) (by decide) (by decide) (res := res)
   have h3 := read_skip (P ++ [32, 43]) 32 X n out 1 (by simp; omega) (by decide) (by decide) (by decide) (res := res)
   simp only [List.append_assoc, List.cons_append, List.nil_append, List.length_append, List.length_cons, List.length_nil] at h2 h3 H ⊢
   exact h2 (h3 H)
section
variable (r : List Int) (n : Nat) (hn : n ≤ 6) (hl : r.length = n + 1) (hs : ∀ j : Nat, j < r.length → -1000000 ≤ r.getD j 0 ∧ r.getD j 0 ≤ 1000000)
include hn hl hs
theorem read_items (Q : List UInt8) (hQ : Q.length ≤ 1) : ∀ e i, i + e = n + 1 → Ev (fun k => demoticref19_read.l0 k (bs (Q ++ rowAcc r (n + 1))) n (partR r n i) 1 ((Q ++ rowAcc r i).length : Int)) r
 | 0, i, hi => by
  obtain rfl : i = n + 1 := by omega
  rw [partR_full r n hl]
  exact read_end _ n r 1
 | e + 1, i, hi => by
  have ih := read_items Q hQ e (i + 1) (by omega)
  have hv := hs i (by omega)
  by_cases h0 : r.getD i 0 = 0
  ·rw [partR_zero r n i h0, rowAcc_succ r i, if_pos h0] at ih
   exact ih
  ·have hacc := rowAcc_succ r i
   rw [if_neg h0, show r.length - 1 = n by omega] at hacc
   have hlen := rowAcc_len20 r hs (by omega) i (by omega)
   have hne : rowAcc r (i + 1) ≠ [] := by
    rw [hacc]
    exact fun e => (term_ok (r.getD i 0) i n).1 (List.append_eq_nil_iff.1 e).2
   obtain ⟨t, et, ht⟩ := acc_tail r (i + 1) (n + 1) (by omega)
   have es : Q ++ rowAcc r (n + 1) = (Q ++ rowAcc r i) ++ (sepS (rowAcc r i) (r.getD i 0) ++ (termS (r.getD i 0) i n ++ t)) := by rw [et, hacc]; simp [List.append_assoc]
   have es2 : Q ++ rowAcc r (n + 1) = (Q ++ rowAcc r i ++ sepS (rowAcc r i) (r.getD i 0)) ++ (termS (r.getD i 0) i n ++ t) := by rw [es]; simp [List.append_assoc]
   have hPl : (Q ++ rowAcc r i).length ≤ 200 := by rw [List.length_append]; omega
   have hsl := sepS_len (rowAcc r i) (r.getD i 0)
   rw [es]
   refine read_sep (rowAcc r i) (r.getD i 0) (Q ++ rowAcc r i) _ n _ (by omega) ?_
   rw [← es, es2]
   refine read_term n hn (partR r n i) (partR_len r n i) _ (r.getD i 0) hv ?_ _ t i (by omega) (ht hne) (by rw [List.length_append]; omega) ?_
   ·split
    ·rw [wrap_id (by omega) (by omega)]; omega
    ·rw [wrap_id (by omega) (by omega)]; omega
   ·rw [← es2, partR_set r n i (by omega)]
    rw [show Q ++ rowAcc r i ++ sepS (rowAcc r i) (r.getD i 0) ++ termS (r.getD i 0) i n = Q ++ rowAcc r (i + 1) by rw [hacc]; simp [List.append_assoc]]
    exact ih
theorem read_row0 (Q : List UInt8) (hQ : Q.length ≤ 1) : Ev (fun k => demoticref19_read.l0 k (bs (Q ++ rowS r)) n (List.replicate (n + 1) 0) 1 (Q.length : Int)) r := by
 unfold rowS
 rw [hl]
 by_cases c : rowAcc r (n + 1) = []
 ·rw [if_pos c]
  have hz := acc_zero r _ c
  have hk : ∀ k, k ≤ n → partR r n k = partR r n 0 := by
   intro k
   induction k with
   | zero => intro _; rfl
   | succ k ih => intro h; rw [partR_zero r n k (hz k (by omega)), ih (by omega)]
  have e48 : [48] = termS 0 n n ++ [] := by
   unfold termS
   rw [if_pos rfl, show (0 : Int).natAbs = 0 from rfl, Lib.decDigits]; rfl
  rw [e48]
  refine read_term n hn _ (by simp) 1 0 (by omega) (by rw [show (1 * ((0 : Int).natAbs : Int)) = 0 from rfl, wrap_id (by omega) (by omega)]) Q [] n (Nat.le_refl _) (fun b hb => by simp at hb) (by omega) ?_
  rw [List.append_nil, partR_none r n, ← hk n (Nat.le_refl _)]
  have := partR_set r n n (Nat.le_refl _)
  rw [hz n (by omega), partR_full r n hl] at this
  rw [this]
  exact read_end _ n r 1
 ·rw [if_neg c, partR_none r n]
  have := read_items r n hn hl hs Q hQ (n + 1) 0 (by omega)
  rw [show rowAcc r 0 = [] from rfl, List.append_nil] at this
  exact this
theorem read_row (Q : List UInt8) (hQ : Q = [] ∨ Q = [32]) : Ev (fun k => demoticref19_read.f k (bs (Q ++ rowS r)) n) r := by
 have e1 : wrap64 ((n : Int) + 1) = ((n + 1 : Nat) : Int) := by rw [wrap_id (by omega) (by omega)]; omega
 refine Ev.congr (f := fun k => demoticref19_read.l0 k (bs (Q ++ rowS r)) n (List.replicate (n + 1) 0) 1 0) (fun k => ?_) ?_
 ·unfold demoticref19_read.f
  rw [e1, if_pos (by omega), Int.toNat_natCast, if_pos (by omega)]
 ·rcases hQ with rfl | rfl
  ·exact read_row0 r n hn hl hs [] (by simp)
  ·exact read_skip [] 32 (rowS r) n _ 1 (by simp) (by decide) (by decide) (by decide) (read_row0 r n hn hl hs [32] (by simp))
end
theorem ext_drop (s : List UInt8) (p : Nat) : (bs s).extract p (bs s).size = bs (s.drop p) := by
 rw [ext_bs, bs_size, List.take_of_length_le (by simp)]
theorem bt_drop (s : List UInt8) (p : Nat) (h : p < s.length) : ∃ b, (s.drop p).head? = some b ∧ bt (bs s) (p : Int) = (b.toNat : Int) := by
 refine ⟨s[p], by rw [List.drop_eq_getElem_cons h]; rfl, ?_⟩
 have h' : p < (bs s).size := by rw [bs_size]; exact h
 rw [← bt_at _ _ (by rw [Int.toNat_natCast]; exact h')]
 simp [ByteArray.getElem_eq_getElem_data]
section
variable (s : List UInt8) (hs : s.length ≤ 90000) (n : Nat) (hn : n ≤ 6)
include hs hn
theorem read_j4_any (p0 : Nat) (ih : ∀ q : Nat, p0 < q → q ≤ s.length → ∀ (out : List Int) (sg : Int), out.length = n + 1 → ∃ res, Ev (fun k => demoticref19_read.l0 k (bs s) n out sg (q : Int)) res)
  (p : Nat) (hp : p ≤ s.length) (h0 : p0 < p ∨ (p0 = p ∧ p < s.length ∧ bt (bs s) (p : Int) = 100)) (out : List Int) (ho : out.length = n + 1) (sg x : Int) : ∃ res, Ev (fun k => demoticref19_read.j4 k (bs s) n out sg (p : Int) x n) res := by
 have e2 : wrap64 ((p : Int) + 1) = ((p + 1 : Nat) : Int) := by rw [wrap_id (by omega) (by omega)]; omega
 by_cases c : p < s.length ∧ bt (bs s) (p : Int) = 100
 ·obtain ⟨v, c', h1, h2, h3, h4, -⟩ := num_any (s.drop (p + 1)) (by rw [List.length_drop]; omega)
  rw [List.length_drop] at h4
  have hj : ∃ res, Ev (fun k => demoticref19_read.j5 k (bs s) n out sg (p : Int) x n true) res := by
   have e : ∀ k, demoticref19_read.j5 (k + 1) (bs s) n out sg (p : Int) x n true = (demoticref19_Number.f k (bs (s.drop (p + 1)))).bind fun b => (if b.2 = 0 then some [] else if b.1 ≥ (n : Int) then some [] else if 0 ≤ b.1 then (if b.1 < (out.length : Int) then demoticref19_read.l0 k (bs s) n (out.set b.1.toNat (wrap64 (sg * x))) 1 (wrap64 ((p : Int) + wrap64 (1 + b.2))) else none) else none) := by
    intro k
    simp only [demoticref19_read.j5]
    rw [if_pos trivial, e2, if_pos (by omega), if_pos (by rw [bs_size]; omega), Int.toNat_natCast, ext_drop]
   by_cases d1 : c' = 0
   ·refine ⟨[], Ev.step e (Ev.bind h1 (Ev.congr (f := fun _ => some []) (fun k => ?_) (Ev.now _)))⟩
    simp only
    rw [if_pos d1]
   ·by_cases d2 : v ≥ (n : Int)
    ·refine ⟨[], Ev.step e (Ev.bind h1 (Ev.congr (f := fun _ => some []) (fun k => ?_) (Ev.now _)))⟩
     simp only
     rw [if_neg d1, if_pos d2]
    ·obtain ⟨res, hr⟩ := ih (p + 1 + c'.toNat) (by omega) (by omega) (out.set v.toNat (wrap64 (sg * x))) 1 (by simpa using ho)
     refine ⟨res, Ev.step e (Ev.bind h1 (Ev.congr (fun k => ?_) hr))⟩
     simp only
     rw [if_neg d1, if_neg d2, if_pos h2, if_pos (by omega), wrap_id (x := 1 + c') (by omega) (by omega), wrap_id (x := (p : Int) + (1 + c')) (by omega) (by omega), show (p : Int) + (1 + c') = ((p + 1 + c'.toNat : Nat) : Int) by omega]
  obtain ⟨res, hr⟩ := hj
  refine ⟨res, Ev.step (fun k => ?_) hr⟩
  simp only [demoticref19_read.j4]
  rw [if_pos (by rw [bs_size]; omega), if_pos (by omega), c.2]
  rfl
 ·have hlt : p0 < p := by
   rcases h0 with h | ⟨-, h⟩
   ·exact h
   ·exact absurd h c
  obtain ⟨res, hr⟩ := ih p hlt hp (out.set n (wrap64 (sg * x))) 1 (by simpa using ho)
  have hj : Ev (fun k => demoticref19_read.j5 k (bs s) n out sg (p : Int) x n false) res := by
   refine Ev.step (fun k => ?_) hr
   simp only [demoticref19_read.j5]
   rw [if_neg (by simp), if_pos (by omega), if_pos (by omega), Int.toNat_natCast]
  refine ⟨res, Ev.step (fun k => ?_) hj⟩
  simp only [demoticref19_read.j4]
  by_cases d : (p : Int) < ((bs s).size : Int)
  ·rw [if_pos d, if_pos (by omega), beq_eq_false_iff_ne.2 (fun e => c ⟨by rw [bs_size] at d; omega, e⟩)]
  ·rw [if_neg d]
theorem read_j2_any (p : Nat) (ih : ∀ q : Nat, p < q → q ≤ s.length → ∀ (out : List Int) (sg : Int), out.length = n + 1 → ∃ res, Ev (fun k => demoticref19_read.l0 k (bs s) n out sg (q : Int)) res)
  (c0 : p < s.length) (c : Nat) (h4 : p + c ≤ s.length) (h6 : 1 ≤ c ∨ Aside0 (bt (bs s) (p : Int) = 100)) (out : List Int) (ho : out.length = n + 1) (sg x : Int) : ∃ res, Ev (fun k => demoticref19_read.j2 k (bs s) n out sg (p : Int) x (c : Int)) res := by
 obtain ⟨q, hq⟩ : ∃ q, q = p + c := ⟨_, rfl⟩
 have e5 : wrap64 ((p : Int) + (c : Int)) = (q : Int) := by rw [wrap_id (by omega) (by omega)]; omega
 have e6 : wrap64 ((q : Int) + 1) = ((q + 1 : Nat) : Int) := by rw [wrap_id (by omega) (by omega)]; omega
 have hsz := bs_size s
 by_cases d : (q : Int) < ((bs s).size : Int)
 ·have dq : q < s.length := by omega
  by_cases d2 : bt (bs s) (q : Int) = 42
  ·have D2 := Aside0.mk d2
   clear d2
   obtain ⟨res, hr⟩ := read_j4_any s hs n hn p ih (q + 1) (by omega) (.inl (by omega)) out ho sg x
   have hr3 : Ev (fun k => demoticref19_read.j3 k (bs s) n out sg (q : Int) x n true) res := by
    refine Ev.step (fun k => ?_) hr
    simp only [demoticref19_read.j3]
    rw [if_pos trivial, e6]
   refine ⟨res, Ev.step (fun k => ?_) hr3⟩
   simp only [demoticref19_read.j2]
   rw [e5, if_pos d, if_pos (Int.natCast_nonneg q), D2.out, beq_self_eq_true]
  ·have D2 := Aside0.mk d2
   clear d2
   obtain ⟨res, hr⟩ := read_j4_any s hs n hn p ih q (by omega) (by
    rcases h6 with h6 | h6
    ·exact .inl (by omega)
    ·by_cases d0 : 1 ≤ c
     ·exact .inl (by omega)
     ·exact .inr ⟨by omega, dq, by rw [show q = p by omega]; exact h6.out⟩) out ho sg x
   have hr3 : Ev (fun k => demoticref19_read.j3 k (bs s) n out sg (q : Int) x n false) res := by
    refine Ev.step (fun k => ?_) hr
    simp only [demoticref19_read.j3]
    rw [if_neg (by simp)]
   refine ⟨res, Ev.step (fun k => ?_) hr3⟩
   simp only [demoticref19_read.j2]
   rw [e5, if_pos d, if_pos (Int.natCast_nonneg q), beq_eq_false_iff_ne.2 D2.out]
 ·obtain ⟨res, hr⟩ := read_j4_any s hs n hn p ih q (by omega) (.inl (by omega)) out ho sg x
  have hr3 : Ev (fun k => demoticref19_read.j3 k (bs s) n out sg (q : Int) x n false) res := by
   refine Ev.step (fun k => ?_) hr
   simp only [demoticref19_read.j3]
   rw [if_neg (by simp)]
  refine ⟨res, Ev.step (fun k => ?_) hr3⟩
  simp only [demoticref19_read.j2]
  rw [e5, if_neg d]
theorem read_l0_any : ∀ (e p : Nat), p + e = s.length → ∀ (out : List Int) (sg : Int), out.length = n + 1 → ∃ res, Ev (fun k => demoticref19_read.l0 k (bs s) n out sg (p : Int)) res := by
 intro e
 induction e using Nat.strongRecOn with
 | _ e IH =>
  intro p hp out sg ho
  have ih : ∀ q : Nat, p < q → q ≤ s.length → ∀ (out : List Int) (sg : Int), out.length = n + 1 → ∃ res, Ev (fun k => demoticref19_read.l0 k (bs s) n out sg (q : Int)) res := fun q h1 h2 => IH (s.length - q) (by omega) q (by omega)
  by_cases c0 : p < s.length
  ·obtain ⟨b, hb1, hb2⟩ := bt_drop s p c0
   have e2 : wrap64 ((p : Int) + 1) = ((p + 1 : Nat) : Int) := by rw [wrap_id (by omega) (by omega)]; omega
   by_cases c1 : bt (bs s) (p : Int) = 45
   ·obtain ⟨res, hr⟩ := ih (p + 1) (by omega) (by omega) out (-1) ho
    refine ⟨res, Ev.step (fun k => ?_) hr⟩
    simp only [demoticref19_read.l0]
    rw [if_pos (by rw [bs_size]; omega), if_pos (by omega), if_pos c1, e2]
   ·have hstep : ∀ t : Bool, (t = true ↔ (bt (bs s) (p : Int) = 100 ∨ (48 ≤ bt (bs s) (p : Int) ∧ bt (bs s) (p : Int) ≤ 57))) → (∃ res, Ev (fun k => demoticref19_read.j1 k (bs s) n out sg (p : Int) t) res) → ∃ res, Ev (fun k => demoticref19_read.l0 k (bs s) n out sg (p : Int)) res := by
     rintro t ht ⟨res, hr⟩
     refine ⟨res, Ev.step (fun k => ?_) hr⟩
     simp only [demoticref19_read.l0]
     rw [if_pos (by rw [bs_size]; omega), if_pos (by omega), if_neg c1]
     by_cases d1 : bt (bs s) (p : Int) = 100
     ·rw [if_pos d1, ht.2 (.inl d1)]
     ·rw [if_neg d1]
      by_cases d2 : bt (bs s) (p : Int) ≥ 48
      ·rw [if_pos d2]
       congr 1
       by_cases d3 : bt (bs s) (p : Int) ≤ 57
       ·rw [decide_eq_true d3, ht.2 (.inr ⟨d2, d3⟩)]
       ·rw [decide_eq_false d3]
        cases t with
        | false => rfl
        | true => rcases ht.1 rfl with h | h <;> omega
      ·rw [if_neg d2]
       congr 1
       cases t with
       | false => rfl
       | true => rcases ht.1 rfl with h | h <;> omega
    by_cases c2 : bt (bs s) (p : Int) = 100 ∨ (48 ≤ bt (bs s) (p : Int) ∧ bt (bs s) (p : Int) ≤ 57)
    ·refine hstep true (by simp [c2]) ?_
     obtain ⟨v, c', h1, h2, h3, h4, h5⟩ := num_any (s.drop p) (by rw [List.length_drop]; omega)
     rw [List.length_drop] at h4
     have h6 : 1 ≤ c' ∨ bt (bs s) (p : Int) = 100 := by
      rcases c2 with h | h
      ·exact .inr h
      ·exact .inl (h5 b hb1 (by omega))
     have h2j := fun x : Int => read_j2_any s hs n hn p ih c0 c'.toNat (by clear h6 h5 hstep c2 c1; omega) (h6.elim (fun h6 => .inl (by clear c2 c1; omega)) (fun h6 => .inr ⟨h6⟩)) out ho sg x
     rw [Int.toNat_of_nonneg h3] at h2j
     obtain ⟨res, hr⟩ := h2j (if c' = 0 then 1 else v)
     refine ⟨res, Ev.step (f := fun k => (demoticref19_Number.f k (bs (s.drop p))).bind fun b => (if b.2 = 0 then demoticref19_read.j2 k (bs s) n out sg (p : Int) 1 b.2 else demoticref19_read.j2 k (bs s) n out sg (p : Int) b.1 b.2)) (fun k => ?_) (Ev.bind h1 (Ev.congr (fun k => ?_) hr))⟩
     ·simp only [demoticref19_read.j1]
      rw [if_pos trivial, if_pos (by omega), if_pos (by rw [bs_size]; omega), Int.toNat_natCast, ext_drop]
     ·simp only
      by_cases h : c' = 0
      ·rw [if_pos h, if_pos h]
      ·rw [if_neg h, if_neg h]
    ·refine hstep false (by simp [c2]) ?_
     obtain ⟨res, hr⟩ := ih (p + 1) (by omega) (by omega) out sg ho
     refine ⟨res, Ev.step (fun k => ?_) hr⟩
     simp only [demoticref19_read.j1]
     rw [if_neg (by simp), e2]
  ·refine ⟨out, Ev.step (f := fun _ => some out) (fun k => ?_) (Ev.now _)⟩
   simp only [demoticref19_read.l0]
   rw [if_neg (by rw [bs_size]; omega)]
theorem read_any : ∃ res, Ev (fun k => demoticref19_read.f k (bs s) n) res := by
 have e1 : wrap64 ((n : Int) + 1) = ((n + 1 : Nat) : Int) := by rw [wrap_id (by omega) (by omega)]; omega
 obtain ⟨res, hr⟩ := read_l0_any s hs n hn s.length 0 (by omega) (List.replicate (n + 1) 0) 1 (by simp)
 refine ⟨res, Ev.congr (fun k => ?_) hr⟩
 unfold demoticref19_read.f
 rw [e1, if_pos (by omega), Int.toNat_natCast, if_pos (by omega)]; rfl
end
end Go.Proofs.YtcefaofknaeaeaaGreatDoor.X
