/- The reference's Parse, as told by the print: a right map's string is read back; plain Lean. -/
import Derived.Test.YtcefaofknaeaeaaGreatDoorParPRParse
set_option linter.unusedVariables false
set_option linter.unusedSimpArgs false
set_option linter.unusedSectionVars false
namespace Go.Proofs.YtcefaofknaeaeaaGreatDoor.X
open Go.RowKit Go.Proofs.YtcefaofknaeaeaaGreatDoorW.PrintWords Go.Proofs.YtcefaofknaeaeaaGreatDoorW.PrintLast Go.Proofs.YtcefaofknaeaeaaGreatDoorW.PrintMore
def cntD : List UInt8 → Nat
 | [] => 0
 | a :: l => (if a = 100 then 1 else 0) + cntD l
theorem cntD_append : ∀ a b : List UInt8, cntD (a ++ b) = cntD a + cntD b
 | [], b => by simp [cntD]
 | x :: a, b => by simp only [List.cons_append, cntD, cntD_append a b]; omega
theorem cntD_none : ∀ l : List UInt8, (∀ b ∈ l, b ≠ 100) → cntD l = 0
 | [], _ => rfl
 | x :: l, h => by
  simp only [cntD]
  rw [if_neg (h x List.mem_cons_self), cntD_none l (fun b hb => h b (List.mem_cons_of_mem _ hb))]
theorem cntD_dims : ∀ n : Nat, cntD (Lib.join (dimL n) [44, 32]) = n
 | 0 => by
  rw [show dimL 0 = [] from rfl, join_nil]; rfl
 | n + 1 => by
  have hd : cntD (100 :: Lib.decDigits n) = 1 := by
   simp only [cntD]
   rw [cntD_none _ (fun b hb e => by
    have := dec_bytes n b hb
    subst e
    exact absurd this.2 (by decide))]
   rfl
  rw [dimL_succ, join_snoc]
  split
  ·rename_i h
   have := cntD_dims n
   rw [h, join_nil] at this
   rw [hd, ← this]; rfl
  ·rw [cntD_append, cntD_append, cntD_dims n, hd]; rfl
theorem dims_no41 (n : Nat) : ∀ b ∈ Lib.join (dimL n) [44, 32], b ≠ 41 := by
 have hj : ∀ ls : List (List UInt8), (∀ l ∈ ls, ∀ b ∈ l, b = 100 ∨ (48 ≤ b.toNat ∧ b.toNat ≤ 57)) → ∀ b ∈ Lib.join ls [44, 32], b ≠ 41 := by
  intro ls
  induction ls with
  | nil => intro _ b hb; rw [join_nil] at hb; simp at hb
  | cons x ls ih =>
   intro h b hb
   have hx : ∀ b ∈ x, b ≠ 41 := fun b hb e => by
    subst e
    rcases h x List.mem_cons_self _ hb with h | h
    ·exact absurd h (by decide)
    ·exact absurd h.1 (by decide)
   cases ls with
   | nil => rw [join_one] at hb; exact hx b hb
   | cons y ls =>
    rw [join_cons2] at hb
    rcases List.mem_append.1 hb with hb | hb
    ·rcases List.mem_append.1 hb with hb | hb
     ·exact hx b hb
     ·intro e; subst e; revert hb; decide
    ·exact ih (fun l hl => h l (List.mem_cons_of_mem _ hl)) b hb
 exact hj _ (fun l hl => (dimL_ok n l hl).2)
theorem rowS_no41 (r : List Int) : ∀ b ∈ rowS r, b ≠ 41 := by
 unfold rowS
 split
 ·exact fun b hb e => by subst e; revert hb; decide
 ·rename_i h
  rw [rowAcc_items]
  have hT := itemsT_term r r.length
  cases hx : itemsT r r.length with
  | nil => intro b hb; simp [strT] at hb
  | cons x xs =>
   rw [hx] at hT
   intro b hb
   rcases List.mem_append.1 (show b ∈ tok x ++ (xs.map sep0).flatten from hb) with hb | hb
   ·exact tok_no (hT x List.mem_cons_self) (by decide) (by decide) b hb
   ·obtain ⟨y, hy, hb⟩ := List.mem_flatten.1 hb
    obtain ⟨z, hz, rfl⟩ := List.mem_map.1 hy
    unfold sep0 at hb
    rcases List.mem_append.1 hb with hb | hb
    ·intro e; subst e; revert hb; split <;> decide
    ·exact (hT z (List.mem_cons_of_mem _ hz)).ne (by decide) b hb
theorem byte_ne (a b : UInt8) (h : a ≠ b) : ¬ (a.toNat : Int) = (b.toNat : Int) := fun e => h (UInt8.toNat_inj.1 (by omega))
theorem rp_l0_count (S : List UInt8) (hS : S.length ≤ 1000) (R : List UInt8) {res : Int × List (List Int) × Bool} : ∀ (X P : List UInt8) (c : Nat), P ++ (X ++ R) = S → c ≤ P.length → (∀ b ∈ X, b ≠ 41) →
  Ev (fun k => refParseT.l0 k (bs S) ((P ++ X).length : Int) ((c + cntD X : Nat) : Int)) res → Ev (fun k => refParseT.l0 k (bs S) (P.length : Int) (c : Int)) res
 | [], P, c, e, hc, hX, H => by
  rw [List.append_nil] at H
  exact H
 | a :: X, P, c, e, hc, hX, H => by
  have hl : P.length + X.length + 1 ≤ S.length := by rw [← e]; simp; omega
  have e2 : wrap64 ((P.length : Int) + 1) = ((P.length + 1 : Nat) : Int) := by rw [wrap_id (by omega) (by omega)]; omega
  have e3 : wrap64 ((c : Int) + 1) = ((c + 1 : Nat) : Int) := by rw [wrap_id (by omega) (by omega)]; omega
  have es : S = P ++ a :: (X ++ R) := by rw [← e]; rfl
  have hb : bt (bs S) (P.length : Int) = (a.toNat : Int) := by rw [es]; exact bt_mid P a (X ++ R)
  have hlt : (P.length : Int) < ((bs S).size : Int) := by rw [bs_size]; omega
  have h41 : (bt (bs S) (P.length : Int) != 41) = true := by
   rw [hb]
   exact bne_iff_ne.2 (byte_ne a 41 (hX a List.mem_cons_self))
  have hj : Ev (fun k => refParseT.j1 k (bs S) (P.length : Int) true (c : Int)) res := by
   have ih := rp_l0_count S hS R (res := res) X (P ++ [a])
   rw [show (P ++ [a]).length = P.length + 1 by simp] at ih
   rw [show P ++ a :: X = P ++ [a] ++ X by simp] at H
   by_cases h : a = 100
   ·have ih' := ih (c + 1) (by rw [← e]; simp) (by omega) (fun b hb => hX b (List.mem_cons_of_mem _ hb)) (by
     simp only [cntD] at H
     rw [if_pos h] at H
     rw [show c + 1 + cntD X = c + (1 + cntD X) by omega]
     exact H)
    refine Ev.step (fun k => ?_) ih'
    simp only [refParseT.j1]
    rw [if_pos trivial, if_pos (by omega), if_pos hlt, hb, h, if_pos (by rfl), e2, e3]
   ·have ih' := ih c (by rw [← e]; simp) (by omega) (fun b hb => hX b (List.mem_cons_of_mem _ hb)) (by
     simp only [cntD] at H
     rw [if_neg h, Nat.zero_add] at H
     exact H)
    refine Ev.step (fun k => ?_) ih'
    simp only [refParseT.j1]
    rw [if_pos trivial, if_pos (by omega), if_pos hlt, hb, if_neg (show ¬ (a.toNat : Int) = 100 from byte_ne a 100 h), e2]
  refine Ev.step (fun k => ?_) hj
  simp only [refParseT.l0]
  rw [if_pos hlt, if_pos (by omega), h41]
def segS (pre : List UInt8) : List (List Int) → List UInt8
 | [] => []
 | [x] => pre ++ rowS x ++ [41]
 | x :: y :: ls => pre ++ rowS x ++ 44 :: segS [32] (y :: ls)
theorem segS_join : ∀ (ls : List (List Int)) (pre : List UInt8), ls ≠ [] → segS pre ls = pre ++ (Lib.join (ls.map rowS) [44, 32] ++ [41])
 | [], _, h => absurd rfl h
 | [x], pre, _ => by simp [segS, join_one]
 | x :: y :: ls, pre, _ => by
  have ih := segS_join (y :: ls) [32] (by simp)
  simp only [segS, List.map_cons, join_cons2]
  simp only [List.map_cons] at ih
  rw [ih]
  simp
section
variable (S : ByteArray) (n : Nat) (hn : n ≤ 6) (rest : List UInt8) (hR : rest.length ≤ 1000)
include hn hR
theorem rp_l1_skip {res : Int × List (List Int) × Bool} (x7 : Int) (rows : List (List Int)) (hrows : rows.length ≤ 6) (T : List UInt8) : ∀ (Y A : List UInt8), A ++ (Y ++ T) = rest → (∀ b ∈ Y, b ≠ 44 ∧ b ≠ 41) →
  Ev (fun k => refParseT.l1 k S (bs rest) x7 ((A ++ Y).length : Int) n rows) res → Ev (fun k => refParseT.l1 k S (bs rest) x7 (A.length : Int) n rows) res
 | [], A, e, hY, H => by
  rw [List.append_nil] at H
  exact H
 | a :: Y, A, e, hY, H => by
  have ih := rp_l1_skip x7 rows hrows T Y (A ++ [a]) (res := res) (by rw [← e]; simp) (fun b hb => hY b (List.mem_cons_of_mem _ hb)) (by
   rw [show A ++ a :: Y = A ++ [a] ++ Y by simp] at H
   exact H)
  rw [show (A ++ [a]).length = A.length + 1 by simp] at ih
  have hl : A.length + Y.length + 1 ≤ rest.length := by rw [← e]; simp; omega
  have e2 : wrap64 ((A.length : Int) + 1) = ((A.length + 1 : Nat) : Int) := by rw [wrap_id (by omega) (by omega)]; omega
  have es : rest = A ++ a :: (Y ++ T) := by rw [← e]; rfl
  have hb : bt (bs rest) (A.length : Int) = (a.toNat : Int) := by rw [es]; exact bt_mid A a (Y ++ T)
  have hlt : (A.length : Int) < ((bs rest).size : Int) := by rw [bs_size]; omega
  have ha := hY a List.mem_cons_self
  have hj : Ev (fun k => refParseT.j4 k S (bs rest) x7 (A.length : Int) false n rows) res := by
   refine Ev.step (fun k => ?_) ih
   simp only [refParseT.j4]
   rw [if_neg (by simp), if_neg (by omega), e2]
  refine Ev.step (fun k => ?_) hj
  simp only [refParseT.l1]
  rw [if_pos hlt, if_pos (by omega), hb, if_neg (show ¬ (a.toNat : Int) = 44 from byte_ne a 44 ha.1), beq_eq_false_iff_ne.2 (show ¬ (a.toNat : Int) = 41 from byte_ne a 41 ha.2)]
theorem rp_l1_sep {res : Int × List (List Int) × Bool} (rows : List (List Int)) (hrows : rows.length < 6) (r : List Int) (hr0 : r ≠ []) (c : UInt8) (hc : c = 44 ∨ c = 41) (Q Y T : List UInt8) (e : Q ++ (Y ++ c :: T) = rest) (hr : Ev (fun k => demoticref19_read.f k (bs Y) n) r)
  (H : Ev (fun k => refParseT.l1 k S (bs rest) ((Q ++ Y ++ [c]).length : Int) ((Q ++ Y ++ [c]).length : Int) n (rows ++ [r])) res) : Ev (fun k => refParseT.l1 k S (bs rest) (Q.length : Int) ((Q ++ Y).length : Int) n rows) res := by
 have es : rest = (Q ++ Y) ++ c :: T := by rw [← e]; simp
 have hl0 : (Q ++ Y).length = Q.length + Y.length := List.length_append
 have hl : (Q ++ Y).length + 1 ≤ rest.length := by rw [es]; simp; omega
 have hl1 : (Q ++ Y ++ [c]).length = (Q ++ Y).length + 1 := by simp; omega
 have e2 : wrap64 (((Q ++ Y).length : Int) + 1) = (((Q ++ Y ++ [c]).length : Nat) : Int) := by rw [wrap_id (by omega) (by omega)]; omega
 have hb : bt (bs rest) ((Q ++ Y).length : Int) = (c.toNat : Int) := by rw [es]; exact bt_mid (Q ++ Y) c T
 have hlt : ((Q ++ Y).length : Int) < ((bs rest).size : Int) := by rw [bs_size]; omega
 have hx : (bs rest).extract Q.length (Q ++ Y).length = bs Y := by
  rw [ext_bs, ← e, List.drop_left' rfl, hl0, Nat.add_sub_cancel_left, List.take_left' rfl]
 have hj : Ev (fun k => refParseT.j4 k S (bs rest) (Q.length : Int) ((Q ++ Y).length : Int) true n rows) res := by
  refine Ev.step (f := fun k => (demoticref19_read.f k (bs Y) n).bind fun t => (if t = ([] : List Int) then (some (0, ([] : List (List Int)), false)) else (if rows.length < 5864062014805 then ((some (rows ++ [t] : List (List Int))).bind fun y => (if (y.length : Int) > 6 then (some (0, ([] : List (List Int)), false)) else (refParseT.l1 k S (bs rest) (wrap64 (((Q ++ Y).length : Int) + 1)) (wrap64 (((Q ++ Y).length : Int) + 1)) n y))) else (none)))) (fun k => ?_) (Ev.bind hr (Ev.congr (fun k => ?_) H))
  ·simp only [refParseT.j4]
   rw [if_pos trivial, if_pos (by omega), if_pos (by omega), if_pos (by rw [bs_size]; omega), Int.toNat_natCast, Int.toNat_natCast, hx]
  ·try simp only
   rw [if_neg hr0, if_pos (by omega), e2]
   simp only [Option.bind_some, List.length_append, List.length_singleton]
   rw [if_neg (by omega)]
 refine Ev.step (fun k => ?_) hj
 simp only [refParseT.l1]
 rw [if_pos hlt, if_pos (by omega), hb]
 rcases hc with rfl | rfl
 ·rw [if_pos (by rfl)]
 ·rw [if_neg (by decide)]; rfl
end
section
variable {d : Int} {l : List (List Int)} (h : rightB d l = true) (n : Nat) (hd : d = (n : Int))
include h hd
theorem rp_segs (rest : List UInt8) (hR : rest.length ≤ 1000) : ∀ (ls : List (List Int)) (pre Q : List UInt8) (done : List (List Int)), ls ≠ [] → done ++ ls = l → pre = [] ∨ pre = [32] → Q ++ segS pre ls = rest →
  Ev (fun k => refParseT.l1 k (bs (printS n l)) (bs rest) (Q.length : Int) (Q.length : Int) n done) (d, l, true)
 | [], _, _, _, hne, _, _, _ => absurd rfl hne
 | x :: ls, pre, Q, done, _, hl, hpre, e => by
  obtain ⟨d0, d6, l6⟩ := rightB_dims h
  have hx : x ∈ l := by rw [← hl]; simp
  obtain ⟨hr1, hr2⟩ := right_rows h x hx
  have hlen : done.length + ls.length + 1 = l.length := by rw [← hl]; simp; omega
  have hread := read_row x n (by omega) (by omega) hr2 pre hpre
  have hx0 : x ≠ [] := fun e => by rw [e] at hr1; simp at hr1; omega
  have hY : ∀ b ∈ pre ++ rowS x, b ≠ 44 ∧ b ≠ 41 := fun b hb => by
   rcases List.mem_append.1 hb with hb | hb
   ·rcases hpre with rfl | rfl
    ·simp at hb
    ·simp at hb; subst hb; decide
   ·exact ⟨(rowS_ok x).2 b hb, rowS_no41 x b hb⟩
  cases ls with
  | nil =>
   have e' : Q ++ ((pre ++ rowS x) ++ 41 :: []) = rest := by rw [← e]; simp [segS]
   refine rp_l1_skip _ n (by omega) rest hR _ done (by omega) [41] (pre ++ rowS x) Q e' hY ?_
   refine rp_l1_sep _ n (by omega) rest hR done (by simp at hlen; omega) x hx0 41 (.inr rfl) Q (pre ++ rowS x) [] e' hread ?_
   have er : Q ++ (pre ++ rowS x) ++ [41] = rest := by rw [← e']; simp
   rw [er, hl]
   obtain ⟨k0, hk⟩ := right_eval (n : Int) l
   rw [← hd, h] at hk
   refine Ev.step (f := fun k => (demoticref19_Right.f k (n : Int) l).bind fun t => (if t = true then ((demoticref19_Print.f k (n : Int) l).bind fun u => (if u.toList = (bs (printS n l)).toList then (some ((n : Int), l, true)) else (some (0, ([] : List (List Int)), false)))) else (some (0, ([] : List (List Int)), false)))) (fun k => ?_) ?_
   ·simp only [refParseT.l1]
    rw [if_neg (by rw [bs_size]; omega)]
   ·subst hd
    refine Ev.bind (Ev.of (demoticref19_Right.mono _ l) hk) ?_
    refine Ev.congr (f := fun k => (demoticref19_Print.f k (n : Int) l).bind fun u => (if u.toList = (bs (printS n l)).toList then (some ((n : Int), l, true)) else (some (0, ([] : List (List Int)), false)))) (fun k => by (try simp only); rw [if_pos trivial]) ?_
    have hp := rprint_ev h
    rw [Int.toNat_natCast] at hp
    refine Ev.bind hp (Ev.congr (f := fun _ => some ((n : Int), l, true)) (fun k => ?_) (Ev.now _))
    (try simp only)
    first | rw [if_pos rfl] | rw [if_pos trivial]
  | cons y ls =>
   have e' : Q ++ ((pre ++ rowS x) ++ 44 :: segS [32] (y :: ls)) = rest := by rw [← e]; simp [segS]
   refine rp_l1_skip _ n (by omega) rest hR _ done (by omega) (44 :: segS [32] (y :: ls)) (pre ++ rowS x) Q e' hY ?_
   refine rp_l1_sep _ n (by omega) rest hR done (by simp at hlen; omega) x hx0 44 (.inl rfl) Q (pre ++ rowS x) (segS [32] (y :: ls)) e' hread ?_
   exact rp_segs rest hR (y :: ls) [32] (Q ++ (pre ++ rowS x) ++ [44]) (done ++ [x]) (by simp) (by rw [← hl]; simp) (.inr rfl) (by rw [← e']; simp)
theorem refParse_yes : Ev (fun k => refParseT.f k (bs (printS n l))) (d, l, true) := by
 obtain ⟨d0, d6, l6⟩ := rightB_dims h
 have hlen := printS_len h
 rw [hd, Int.toNat_natCast] at hlen
 obtain ⟨X, hXd⟩ : ∃ X, X = 40 :: Lib.join (dimL n) [44, 32] := ⟨_, rfl⟩
 obtain ⟨rest, hrest⟩ : ∃ rest, rest = Lib.join (l.map rowS) [44, 32] ++ [41] := ⟨_, rfl⟩
 have eS : printS n l = X ++ ([41, 32, 45, 62, 32, 40] ++ rest) := by rw [hXd, hrest]; unfold printS dimsS; simp
 have hX : ∀ b ∈ X, b ≠ 41 := fun b hb => by
  rw [hXd] at hb
  rcases List.mem_cons.1 hb with rfl | hb
  ·decide
  ·exact dims_no41 n b hb
 have hc : cntD X = n := by
  rw [hXd]
  show (if (40 : UInt8) = 100 then 1 else 0) + cntD (Lib.join (dimL n) [44, 32]) = n
  rw [cntD_dims, if_neg (by decide)]; omega
 have hl : X.length + 6 + rest.length = (printS n l).length := by rw [eS]; simp; omega
 have hdrop : (printS n l).drop (X.length + 6) = rest := by
  rw [eS, ← List.append_assoc]
  exact List.drop_left' (by simp)
 have e6 : wrap64 ((X.length : Int) + 6) = ((X.length + 6 : Nat) : Int) := by rw [wrap_id (by omega) (by omega)]; omega
 have hj2 : Ev (fun k => refParseT.j2 k (bs (printS n l)) (X.length : Int) false (n : Int)) (d, l, true) := by
  by_cases hne : l = []
  ·have hr41 : rest = [41] := by rw [hrest, hne]; simp [join_nil]
   have hp := rprint_ev h
   rw [hd, Int.toNat_natCast] at hp
   refine Ev.step (f := fun k => (demoticref19_Print.f k (n : Int) l).bind fun u => (some ((n : Int), l, (u.toList == (bs (printS n l)).toList)))) (fun k => ?_) (Ev.bind hp (Ev.congr (f := fun _ => some ((n : Int), l, true)) (fun k => ?_) (by rw [hd]; exact Ev.now _)))
   ·simp only [refParseT.j2]
    rw [if_neg (by simp), e6, if_pos (by omega), if_pos (by rw [bs_size]; omega), Int.toNat_natCast, ext_drop, bs_toList, hdrop, if_pos hr41, hne]
   ·(try simp only)
    rw [beq_self_eq_true]
  ·have hr41 : ¬ rest = [41] := fun e => by
    cases l with
    | nil => exact hne rfl
    | cons x l =>
     have h0 := (rowS_ok x).1
     rw [hrest] at e
     have : Lib.join (rowS x :: l.map rowS) [44, 32] = [] := by
      have := congrArg List.length e
      simp at this
      simpa using this
     cases l with
     | nil => rw [List.map_nil, join_one] at this; exact h0 this
     | cons y l => rw [List.map_cons, join_cons2] at this; simp at this
   refine Ev.step (fun k => ?_) (rp_segs h n hd rest (by omega) l [] [] [] hne rfl (.inl rfl) (by rw [segS_join l [] hne, hrest]; simp))
   simp only [refParseT.j2]
   rw [if_neg (by simp), e6, if_pos (by omega), if_pos (by rw [bs_size]; omega), Int.toNat_natCast, ext_drop, bs_toList, hdrop, if_neg hr41]
   rfl
 have hj1 : Ev (fun k => refParseT.j1 k (bs (printS n l)) (X.length : Int) false (n : Int)) (d, l, true) := by
  refine Ev.step (fun k => ?_) hj2
  simp only [refParseT.j1]
  rw [if_neg (by simp), if_neg (by omega), e6, decide_eq_false (by rw [bs_size]; omega)]
 refine rp_l0_count (printS n l) hlen ([41, 32, 45, 62, 32, 40] ++ rest) X [] 0 (by rw [eS]; rfl) (Nat.le_refl _) hX ?_
 rw [hc, Nat.zero_add, List.nil_append]
 refine Ev.step (fun k => ?_) hj1
 have hb : bt (bs (printS n l)) (X.length : Int) = 41 := by rw [eS]; exact bt_mid X 41 _
 simp only [refParseT.l0]
 rw [if_pos (by rw [bs_size]; omega), if_pos (by omega), hb]
 rfl
end
end Go.Proofs.YtcefaofknaeaeaaGreatDoor.X
