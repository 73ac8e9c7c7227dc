/- readRow of the string of a right row is the row; plain Lean. -/
import Derived.Test.YtcefaofknaeaeaaGreatDoorParPStr
set_option linter.unusedVariables false
set_option linter.unusedSimpArgs false
namespace Go.Proofs.YtcefaofknaeaeaaGreatDoor.X
open Go.RowKit Go.Proofs.YtcefaofknaeaeaaGreatDoorW.PrintWords Go.Proofs.YtcefaofknaeaeaaGreatDoorW.PrintLast Go.Proofs.YtcefaofknaeaeaaGreatDoorW.PrintMore
def itemT (r : List Int) (i : Nat) : Bool × List UInt8 := (decide (r.getD i 0 < 0), termS (r.getD i 0) i (r.length - 1))
def itemsT (r : List Int) : Nat → List (Bool × List UInt8)
 | 0 => []
 | k + 1 => if r.getD k 0 = 0 then itemsT r k else itemsT r k ++ [itemT r k]
def tok (x : Bool × List UInt8) : List UInt8 := if x.1 = true then 45 :: x.2 else x.2
def sep0 (x : Bool × List UInt8) : List UInt8 := (if x.1 = true then [32, 45, 32] else [32, 43, 32]) ++ x.2
def sep1 (x : Bool × List UInt8) : List UInt8 := (if x.1 = true then [32, 45, 32] else [32]) ++ x.2
def sep2 (x : Bool × List UInt8) : List UInt8 := (if x.1 = true then [32, 45] else [32]) ++ x.2
def strT (f : Bool × List UInt8 → List UInt8) : List (Bool × List UInt8) → List UInt8
 | [] => []
 | x :: xs => tok x ++ (xs.map f).flatten
def Term (t : List UInt8) : Prop := t ≠ [] ∧ ∀ b ∈ t, (48 ≤ b.toNat ∧ b.toNat ≤ 57) ∨ b = 42 ∨ b = 100
theorem term_ok (n : Int) (i last : Nat) : Term (termS n i last) := by
 unfold Term termS
 have d1 := dec_bytes n.natAbs
 have d2 := dec_bytes i
 by_cases h1 : i = last
 ·rw [if_pos h1]; exact ⟨dec_ne_nil _, fun b hb => .inl (d1 b hb)⟩
 ·rw [if_neg h1]
  by_cases h2 : n.natAbs = 1
  ·rw [if_pos h2]
   refine ⟨by simp, fun b hb => ?_⟩
   rcases List.mem_cons.1 hb with rfl | hb
   ·exact .inr (.inr rfl)
   ·exact .inl (d2 b hb)
  ·rw [if_neg h2]
   refine ⟨by simp, fun b hb => ?_⟩
   rcases List.mem_append.1 hb with hb | hb
   ·exact .inl (d1 b hb)
   ·rcases List.mem_cons.1 hb with rfl | hb
    ·exact .inr (.inl rfl)
    ·rcases List.mem_cons.1 hb with rfl | hb
     ·exact .inr (.inr rfl)
     ·exact .inl (d2 b hb)
theorem Term.ne {t : List UInt8} (h : Term t) {c : UInt8} (hc : c.toNat < 48 ∧ c ≠ 42) : ∀ b ∈ t, b ≠ c := fun b hb e => by
 subst e
 rcases h.2 b hb with h | h | h
 ·omega
 ·exact hc.2 h
 ·subst h; exact absurd hc.1 (by decide)
theorem itemsT_term (r : List Int) : ∀ k, ∀ x ∈ itemsT r k, Term x.2
 | 0, x, h => by simp [itemsT] at h
 | k + 1, x, h => by
  unfold itemsT at h
  split at h
  ·exact itemsT_term r k x h
  ·rcases List.mem_append.1 h with h | h
   ·exact itemsT_term r k x h
   ·rw [List.mem_singleton] at h
    subst h
    exact term_ok _ _ _
theorem tok_ne {x : Bool × List UInt8} (h : Term x.2) : tok x ≠ [] := by
 unfold tok
 split
 ·simp
 ·exact h.1
theorem strT_ne {f : Bool × List UInt8 → List UInt8} {xs : List (Bool × List UInt8)} (h : ∀ x ∈ xs, Term x.2) (hne : xs ≠ []) : strT f xs ≠ [] := by
 cases xs with
 | nil => exact absurd rfl hne
 | cons x xs =>
  intro e
  have := List.append_eq_nil_iff.1 e
  exact tok_ne (h x List.mem_cons_self) this.1
theorem strT_snoc (f : Bool × List UInt8 → List UInt8) (xs : List (Bool × List UInt8)) (y : Bool × List UInt8) (h : xs ≠ []) : strT f (xs ++ [y]) = strT f xs ++ f y := by
 cases xs with
 | nil => exact absurd rfl h
 | cons x xs => simp [strT, List.append_assoc]
theorem rowAcc_items (r : List Int) : ∀ k, rowAcc r k = strT sep0 (itemsT r k)
 | 0 => rfl
 | k + 1 => by
  have ih := rowAcc_items r k
  rw [rowAcc_succ]
  unfold itemsT
  by_cases h0 : r.getD k 0 = 0
  ·rw [if_pos h0, if_pos h0, ih]
  ·rw [if_neg h0, if_neg h0]
   by_cases hn : itemsT r k = []
   ·rw [hn] at ih
    rw [ih, hn]
    simp only [List.nil_append, strT, List.map_nil, List.flatten_nil, List.append_nil]
    unfold sepS tok itemT
    rw [if_pos rfl]
    by_cases hlt : r.getD k 0 < 0
    ·rw [if_pos hlt, decide_eq_true hlt, if_pos rfl]; rfl
    ·rw [if_neg hlt, decide_eq_false hlt, if_neg (by simp)]; rfl
   ·rw [strT_snoc sep0 _ _ hn, ih, List.append_assoc]
    congr 1
    unfold sepS sep0 itemT
    rw [if_neg (strT_ne (itemsT_term r k) hn)]
    by_cases hlt : r.getD k 0 < 0
    ·rw [if_pos hlt, decide_eq_true hlt, if_pos rfl]
    ·rw [if_neg hlt, decide_eq_false hlt, if_neg (by simp)]
theorem mem_tail_append {b : UInt8} {x y : List UInt8} (h : b ∈ (x ++ y).tail) : b ∈ x.tail ∨ b ∈ y := by
 cases x with
 | nil => exact .inr (List.mem_of_mem_tail h)
 | cons a x => exact List.mem_append.1 (by simpa using h)
theorem rep_one : ∀ (xs : List (Bool × List UInt8)) (x0 : List UInt8), (∀ x ∈ xs, Term x.2) → (∀ b ∈ x0, b ≠ 43) → Lib.replaceAll (x0 ++ (xs.map sep0).flatten) [32, 43, 32] [32] = x0 ++ (xs.map sep1).flatten
 | [], x0, _, h => by
  simp only [List.map_nil, List.flatten_nil, List.append_nil]
  exact rep_miss (index_no2 x0 (fun b hb => h b (List.mem_of_mem_tail hb)))
 | x :: xs, x0, hx, h => by
  have hx' : ∀ x ∈ xs, Term x.2 := fun y hy => hx y (List.mem_cons_of_mem _ hy)
  have ht : ∀ b ∈ x.2, b ≠ 43 := (hx x List.mem_cons_self).ne (by decide)
  simp only [List.map_cons, List.flatten_cons]
  obtain ⟨b, t⟩ := x
  cases b with
  | true =>
   have ih := rep_one xs (x0 ++ sep0 (true, t)) hx' (fun b hb => by
    rcases List.mem_append.1 hb with hb | hb
    ·exact h b hb
    ·rcases List.mem_append.1 (show b ∈ [32, 45, 32] ++ t from hb) with hb | hb
     ·intro e; subst e; revert hb; decide
     ·exact ht b hb)
   rw [← List.append_assoc, ih, List.append_assoc]; rfl
  | false =>
   have ih := rep_one xs t hx' ht
   show Lib.replaceAll (x0 ++ (([32, 43, 32] ++ t) ++ (xs.map sep0).flatten)) [32, 43, 32] [32] = x0 ++ (([32] ++ t) ++ (xs.map sep1).flatten)
   rw [List.append_assoc [32, 43, 32], ← List.append_assoc x0, rep_hit (by simp) (by decide) (index_at2 x0 _ (fun b hb => h b (List.mem_of_mem_tail hb)) (by decide)), List.append_assoc x0, List.take_left' rfl, ← List.drop_drop, List.drop_left' rfl, List.drop_left' rfl, ih]
   simp
theorem rep_two : ∀ (xs : List (Bool × List UInt8)) (x0 : List UInt8), (∀ x ∈ xs, Term x.2) → (∀ b ∈ x0.tail, b ≠ 45) → Lib.replaceAll (x0 ++ (xs.map sep1).flatten) [32, 45, 32] [32, 45] = x0 ++ (xs.map sep2).flatten
 | [], x0, _, h => by
  simp only [List.map_nil, List.flatten_nil, List.append_nil]
  exact rep_miss (index_no2 x0 h)
 | x :: xs, x0, hx, h => by
  have hx' : ∀ x ∈ xs, Term x.2 := fun y hy => hx y (List.mem_cons_of_mem _ hy)
  have ht : ∀ b ∈ x.2, b ≠ 45 := (hx x List.mem_cons_self).ne (by decide)
  simp only [List.map_cons, List.flatten_cons]
  obtain ⟨b, t⟩ := x
  cases b with
  | true =>
   have ih := rep_two xs t hx' (fun b hb => ht b (List.mem_of_mem_tail hb))
   show Lib.replaceAll (x0 ++ (([32, 45, 32] ++ t) ++ (xs.map sep1).flatten)) [32, 45, 32] [32, 45] = x0 ++ (([32, 45] ++ t) ++ (xs.map sep2).flatten)
   rw [List.append_assoc [32, 45, 32], ← List.append_assoc x0, rep_hit (by simp) (by decide) (index_at2 x0 _ h (by decide)), List.append_assoc x0, List.take_left' rfl, ← List.drop_drop, List.drop_left' rfl, List.drop_left' rfl, ih]
   simp
  | false =>
   have ih := rep_two xs (x0 ++ sep1 (false, t)) hx' (fun b hb => by
    rcases mem_tail_append hb with hb | hb
    ·exact h b hb
    ·rcases List.mem_append.1 (show b ∈ [32] ++ t from hb) with hb | hb
     ·intro e; subst e; revert hb; decide
     ·exact ht b hb)
   rw [← List.append_assoc, ih, List.append_assoc]; rfl
theorem strT_join : ∀ (xs : List (Bool × List UInt8)), xs ≠ [] → strT sep2 xs = Lib.join (xs.map tok) [32]
 | [], h => absurd rfl h
 | [x], _ => by simp [strT, join_one]
 | x :: y :: xs, _ => by
  have ih := strT_join (y :: xs) (by simp)
  rw [List.map_cons, List.map_cons, join_cons2, ← List.map_cons, ← ih]
  have e : sep2 y = [32] ++ tok y := by
   obtain ⟨b, t⟩ := y
   cases b <;> rfl
  simp [strT, e, List.append_assoc]
theorem tok_no {x : Bool × List UInt8} (h : Term x.2) {c : UInt8} (hc : c.toNat < 48 ∧ c ≠ 42) (h45 : c ≠ 45) : ∀ b ∈ tok x, b ≠ c := fun b hb => by
 unfold tok at hb
 split at hb
 ·rcases List.mem_cons.1 hb with rfl | hb
  ·exact h45.symm
  ·exact h.ne hc b hb
 ·exact h.ne hc b hb
theorem tok_tail {x : Bool × List UInt8} (h : Term x.2) : ∀ b ∈ (tok x).tail, b ≠ 45 := fun b hb => by
 unfold tok at hb
 split at hb
 ·exact h.ne (by decide) b hb
 ·exact h.ne (by decide) b (List.mem_of_mem_tail hb)
theorem toks_row (r : List Int) (h : itemsT r r.length ≠ []) : toksT (bs (rowS r)) = ((itemsT r r.length).map tok).map bs := by
 have hT := itemsT_term r r.length
 have hs : rowS r = strT sep0 (itemsT r r.length) := by
  unfold rowS
  rw [rowAcc_items, if_neg (strT_ne hT h)]
 generalize hX : itemsT r r.length = xs at h hT hs
 have e1 : Lib.replaceAll (strT sep0 xs) [32, 43, 32] [32] = strT sep1 xs := by
  cases xs with
  | nil => exact absurd rfl h
  | cons x xs => exact rep_one xs (tok x) (fun y hy => hT y (List.mem_cons_of_mem _ hy)) (tok_no (hT x List.mem_cons_self) (by decide) (by decide))
 have e2 : Lib.replaceAll (strT sep1 xs) [32, 45, 32] [32, 45] = strT sep2 xs := by
  cases xs with
  | nil => exact absurd rfl h
  | cons x xs => exact rep_two xs (tok x) (fun y hy => hT y (List.mem_cons_of_mem _ hy)) (tok_tail (hT x List.mem_cons_self))
 have et : tidyT (bs (rowS r)) = bs (strT sep2 xs) := by
  unfold tidyT
  rw [bs_data, bs_data, hs, e1, e2]
 unfold toksT
 rw [et]
 refine split_bs_eq ?_
 rw [bs_data, strT_join xs h]
 refine split_join (c := 32) (t := []) _ (by simpa using h) (fun l hl b hb => ?_)
 obtain ⟨x, hx, rfl⟩ := List.mem_map.1 hl
 exact tok_no (hT x hx) (by decide) (by decide) b hb
theorem toks_zero (r : List Int) (h : itemsT r r.length = []) : toksT (bs (rowS r)) = [bs [48]] := by
 have hs : rowS r = [48] := by
  unfold rowS
  rw [rowAcc_items, h]; rfl
 rw [hs]
 have et : tidyT (bs [48]) = bs [48] := by
  unfold tidyT
  rw [bs_data, bs_data, rep_miss (by decide), rep_miss (by decide)]
 unfold toksT
 rw [et]
 exact split_bs_eq (ls := [[48]]) (splitK_miss (by decide))
end Go.Proofs.YtcefaofknaeaeaaGreatDoor.X
