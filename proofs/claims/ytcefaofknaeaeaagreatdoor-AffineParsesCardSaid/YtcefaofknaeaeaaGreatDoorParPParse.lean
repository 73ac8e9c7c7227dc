/- affine.Parse of the string of a right map is the map, as told by the print; plain Lean. -/
import Derived.Test.YtcefaofknaeaeaaGreatDoorParPTok
import Derived.Test.YtcefaofknaeaeaaGreatDoorParXy
set_option linter.unusedVariables false
set_option linter.unusedSimpArgs false
namespace Go.Proofs.YtcefaofknaeaeaaGreatDoor.X
open Go.RowKit Go.Proofs.YtcefaofknaeaeaaGreatDoorW.PrintWords Go.Proofs.YtcefaofknaeaeaaGreatDoorW.PrintLast Go.Proofs.YtcefaofknaeaeaaGreatDoorW.PrintMore
theorem dec_len_pow : ∀ (k m : Nat), 1 ≤ k → m < 10 ^ k → (Lib.decDigits m).length ≤ k
 | 0, m, h, _ => by omega
 | 1, m, _, h => by
  rw [Lib.decDigits, dif_pos (by simpa using h)]; simp
 | k + 2, m, _, h => by
  rw [Lib.decDigits]
  split
  ·simp
  ·have := dec_len_pow (k + 1) (m / 10) (by omega) (by
    rw [Nat.pow_succ] at h
    omega)
   simp only [List.length_append, List.length_cons, List.length_nil]; omega
theorem dec_len7 (m : Nat) (h : m ≤ 1000000) : (Lib.decDigits m).length ≤ 7 := dec_len_pow 7 m (by decide) (by omega)
theorem termS_len7 (n : Int) (i last : Nat) (hn : -1000000 ≤ n ∧ n ≤ 1000000) (hi : i < 100) : (termS n i last).length ≤ 16 := by
 have h1 := dec_len7 n.natAbs (by omega)
 have h2 := dec_len7 i (by omega)
 unfold termS
 split
 ·omega
 ·split
  ·simp; omega
  ·simp; omega
theorem rowAcc_len20 (r : List Int) (hs : ∀ j : Nat, j < r.length → -1000000 ≤ r.getD j 0 ∧ r.getD j 0 ≤ 1000000) (hl : r.length ≤ 7) : ∀ k, k ≤ r.length → (rowAcc r k).length ≤ k * 19
 | 0, _ => by simp [rowAcc]
 | k + 1, hk => by
  have ih := rowAcc_len20 r hs hl k (by omega)
  rw [rowAcc_succ]
  split
  ·omega
  ·have h1 := sepS_len (rowAcc r k) (r.getD k 0)
   have h2 := termS_len7 (r.getD k 0) k (r.length - 1) (hs k (by omega)) (by omega)
   simp only [List.length_append]; omega
theorem rowS_len140 (r : List Int) (hs : ∀ j : Nat, j < r.length → -1000000 ≤ r.getD j 0 ∧ r.getD j 0 ≤ 1000000) (hl : r.length ≤ 7) : (rowS r).length ≤ 140 := by
 unfold rowS
 split
 ·simp
 ·have := rowAcc_len20 r hs hl r.length (Nat.le_refl _); omega
theorem dimsS_len60 (n : Nat) (hn : n ≤ 6) : (dimsS n).length ≤ 70 := by
 have hjl := join_len 8 [44, 32] (dimL n) (fun l hl => by
  unfold dimL at hl
  obtain ⟨i, hi, rfl⟩ := List.mem_map.1 hl
  have := dec_len7 i (by have := List.mem_range.1 hi; omega)
  simp; omega)
 rw [show (dimL n).length = n by simp [dimL]] at hjl
 unfold dimsS
 simp only [List.length_append, List.length_cons, List.length_nil] at hjl ⊢
 omega
section
variable {d : Int} {l : List (List Int)} (h : rightB d l = true)
include h
theorem right_rows (r : List Int) (hr : r ∈ l) : (r.length : Int) = d + 1 ∧ ∀ j : Nat, j < r.length → -1000000 ≤ r.getD j 0 ∧ r.getD j 0 ≤ 1000000 := by
 obtain ⟨i, hi, rfl⟩ := List.getElem_of_mem hr
 have := rightB_row h i hi
 rw [rd_L1_at hi] at this
 exact this
theorem rowsS_len : (Lib.join (l.map rowS) [44, 32]).length ≤ 900 := by
 obtain ⟨d0, d6, l6⟩ := rightB_dims h
 have := join_len 140 [44, 32] (l.map rowS) (fun x hx => by
  obtain ⟨r, hr, rfl⟩ := List.mem_map.1 hx
  obtain ⟨h1, h2⟩ := right_rows h r hr
  exact rowS_len140 r h2 (by omega))
 rw [List.length_map] at this
 simp only [List.length_cons, List.length_nil] at this
 omega
theorem printS_len : (printS d.toNat l).length ≤ 1000 := by
 obtain ⟨d0, d6, l6⟩ := rightB_dims h
 have h1 := dimsS_len60 d.toNat (by omega)
 have h2 := rowsS_len h
 unfold printS
 simp only [List.length_append, List.length_cons, List.length_nil]
 omega
end
theorem trimSuffix_hit (x : List UInt8) (c : UInt8) : Lib.trimSuffix (x ++ [c]) [c] = x := by
 unfold Lib.trimSuffix Lib.hasSuffix
 rw [if_pos (by simp)]
 rw [List.length_append, List.length_singleton, Nat.add_sub_cancel, List.take_left' rfl]
theorem bs_toList (l : List UInt8) : (bs l).toList = l := by rw [Lib.toList_data, bs_data]
theorem inner_of (ls : List (List UInt8)) (hne : ∀ l ∈ ls, l ≠ []) (h44 : ∀ l ∈ ls, ∀ b ∈ l, b ≠ 44) (hlen : (Lib.join ls [44, 32]).length ≤ 100000) : affine_inner.f (bs (40 :: (Lib.join ls [44, 32] ++ [41]))) = some (ls.map bs) := by
 unfold affine_inner.f strings_TrimPrefix.f strings_TrimSuffix.f strings_Split.f
 rw [show (⟨#[40]⟩ : ByteArray).data.toList = [40] from rfl, show (⟨#[41]⟩ : ByteArray).data.toList = [41] from rfl]
 simp only [Option.bind_some, bs_data, trimPrefix_hit]
 rw [if_pos (by rw [bs_size]; simp; omega)]
 simp only [Option.bind_some, trimSuffix_hit, bs_toList]
 cases ls with
 | nil => rw [join_nil, if_pos rfl]; rfl
 | cons x ls =>
  have hj : Lib.join (x :: ls) [44, 32] ≠ [] := by
   intro e
   have hx := hne x List.mem_cons_self
   cases ls with
   | nil => rw [join_one] at e; exact hx e
   | cons y ls => rw [join_cons2, List.append_assoc] at e; exact hx (List.append_eq_nil_iff.1 e).1
  rw [if_neg hj, if_pos ⟨by rw [bs_size]; omega, by decide⟩]
  simp only [Option.bind_some]
  congr 1
  exact split_bs_eq (by rw [bs_data]; exact split_join (c := 44) (t := [32]) (x :: ls) (by simp) h44)
theorem dimL_ok (n : Nat) : ∀ l ∈ dimL n, l ≠ [] ∧ ∀ b ∈ l, b = 100 ∨ (48 ≤ b.toNat ∧ b.toNat ≤ 57) := fun l hl => by
 unfold dimL at hl
 obtain ⟨i, _, rfl⟩ := List.mem_map.1 hl
 refine ⟨by simp, fun b hb => ?_⟩
 rcases List.mem_cons.1 hb with rfl | hb
 ·exact .inl rfl
 ·exact .inr (dec_bytes i b hb)
theorem rowS_ok (r : List Int) : rowS r ≠ [] ∧ ∀ b ∈ rowS r, b ≠ 44 := by
 unfold rowS
 split
 ·exact ⟨by simp, fun b hb e => by subst e; revert hb; decide⟩
 ·rename_i h
  refine ⟨h, ?_⟩
  rw [rowAcc_items]
  have hT := itemsT_term r r.length
  cases hx : itemsT r r.length with
  | nil => intro b hb; simp [strT] at hb
  | cons x xs =>
   rw [hx] at hT
   intro b hb
   rcases List.mem_append.1 (show b ∈ tok x ++ (xs.map sep0).flatten from hb) with hb | hb
   ·exact tok_no (hT x List.mem_cons_self) (by decide) (by decide) b hb
   ·obtain ⟨y, hy, hb⟩ := List.mem_flatten.1 hb
    obtain ⟨z, hz, rfl⟩ := List.mem_map.1 hy
    unfold sep0 at hb
    rcases List.mem_append.1 hb with hb | hb
    ·intro e; subst e; revert hb; split <;> decide
    ·exact (hT z (List.mem_cons_of_mem _ hz)).ne (by decide) b hb
theorem dimsS_no45 (n : Nat) : ∀ b ∈ dimsS n, b ≠ 45 := by
 have hj : ∀ ls : List (List UInt8), (∀ l ∈ ls, ∀ b ∈ l, b = 100 ∨ (48 ≤ b.toNat ∧ b.toNat ≤ 57)) → ∀ b ∈ Lib.join ls [44, 32], b ≠ 45 := by
  intro ls
  induction ls with
  | nil => intro _ b hb; rw [join_nil] at hb; simp at hb
  | cons x ls ih =>
   intro h b hb
   have hx : ∀ b ∈ x, b ≠ 45 := fun b hb e => by
    subst e
    rcases h x List.mem_cons_self _ hb with h | h
    ·exact absurd h (by decide)
    ·exact absurd h.1 (by decide)
   cases ls with
   | nil => rw [join_one] at hb; exact hx b hb
   | cons y ls =>
    rw [join_cons2] at hb
    rcases List.mem_append.1 hb with hb | hb
    ·rcases List.mem_append.1 hb with hb | hb
     ·exact hx b hb
     ·intro e; subst e; revert hb; decide
    ·exact ih (fun l hl => h l (List.mem_cons_of_mem _ hl)) b hb
 intro b hb
 unfold dimsS at hb
 rcases List.mem_append.1 hb with hb | hb
 ·rcases List.mem_append.1 hb with hb | hb
  ·intro e; subst e; revert hb; decide
  ·exact hj _ (fun l hl => (dimL_ok n l hl).2) b hb
 ·intro e; subst e; revert hb; decide
theorem cut_print (n : Nat) (l : List (List Int)) : Lib.cut (printS n l) [32, 45, 62, 32] = (dimsS n, 40 :: (Lib.join (l.map rowS) [44, 32] ++ [41]), true) := by
 have e : printS n l = dimsS n ++ (32 :: 45 :: [62, 32]) ++ (40 :: (Lib.join (l.map rowS) [44, 32] ++ [41])) := by unfold printS; simp
 rw [e, cut_hit (index_at2 (dimsS n) _ (fun b hb => dimsS_no45 n b (List.mem_of_mem_tail hb)) (by decide)), List.append_assoc, List.take_left' rfl, ← List.drop_drop, List.drop_left' rfl, List.drop_left' rfl]
section
variable {d : Int} {l : List (List Int)} (h : rightB d l = true)
include h
theorem inner_dims : affine_inner.f (bs (dimsS d.toNat)) = some ((dimL d.toNat).map bs) := by
 obtain ⟨d0, d6, l6⟩ := rightB_dims h
 have hl := dimsS_len60 d.toNat (by omega)
 have e : dimsS d.toNat = 40 :: (Lib.join (dimL d.toNat) [44, 32] ++ [41]) := by unfold dimsS; simp
 rw [e] at hl ⊢
 refine inner_of _ (fun x hx => (dimL_ok _ x hx).1) (fun x hx b hb e => ?_) (by simp at hl; omega)
 subst e
 rcases (dimL_ok _ x hx).2 _ hb with h | h
 ·exact absurd h (by decide)
 ·exact absurd h.1 (by decide)
theorem inner_rows : affine_inner.f (bs (40 :: (Lib.join (l.map rowS) [44, 32] ++ [41]))) = some ((l.map rowS).map bs) := by
 have := rowsS_len h
 refine inner_of _ (fun x hx => ?_) (fun x hx => ?_) (by omega)
 ·obtain ⟨r, _, rfl⟩ := List.mem_map.1 hx
  exact (rowS_ok r).1
 ·obtain ⟨r, _, rfl⟩ := List.mem_map.1 hx
  exact (rowS_ok r).2
theorem parse_l0 : ∀ (e i : Nat), i + e = l.length → Ev (fun k => affine_Parse.l0 k (bs (printS d.toNat l)) ((l.map rowS).map bs) (l.length : Int) (i : Int) d (l.take i)) (d, l, 0)
 | 0, i, hi => by
  refine Ev.step (f := fun _ => some (d, l, 0)) (fun k => ?_) (Ev.now _)
  simp only [affine_Parse.l0]
  rw [if_neg (by omega), List.take_of_length_le (by omega)]
  unfold affine_Print.f
  rw [if_pos h]
  simp only [Option.bind_some]
  rw [if_pos trivial, if_pos trivial]
 | e + 1, i, hi => by
  have ih := parse_l0 e (i + 1) (by omega)
  obtain ⟨d0, d6, l6⟩ := rightB_dims h
  obtain ⟨n, rfl⟩ := Int.eq_ofNat_of_zero_le d0
  have hil : i < l.length := by omega
  obtain ⟨hr1, hr2⟩ := right_rows h l[i] (List.getElem_mem hil)
  have hlen := rowS_len140 l[i] hr2 (by omega)
  have hread : affine_readRow.f (rdOf ByteArray.empty ((l.map rowS).map bs) (i : Int)) (n : Int) = some l[i] := by
   have e1 : rdOf ByteArray.empty ((l.map rowS).map bs) (i : Int) = bs (rowS l[i]) := by
    unfold rdOf
    rw [Int.toNat_natCast, List.getD_eq_getElem?_getD, List.getElem?_map, List.getElem?_map, List.getElem?_eq_getElem hil]; rfl
   unfold affine_readRow.f
   rw [e1, if_pos ⟨by rw [bs_size]; omega, d0, d6⟩, Int.toNat_natCast, rowT_rowS l[i] n (by omega) (by omega) hr2]
  rw [List.take_add_one, List.getElem?_eq_getElem hil] at ih
  refine Ev.step (f := fun k => affine_Parse.l0 k (bs (printS (n : Int).toNat l)) ((l.map rowS).map bs) (l.length : Int) ((i + 1 : Nat) : Int) (n : Int) (l.take i ++ [l[i]])) (fun k => ?_) ih
  simp only [affine_Parse.l0]
  rw [if_pos (by omega), if_pos (by omega), if_pos (by simp; omega), hread]
  simp only [Option.bind_some]
  rw [if_pos (by simp; omega), wrap_id (by omega) (by omega)]
  rfl
theorem parse_print : Ev (fun k => affine_Parse.f k (bs (printS d.toNat l))) (d, l, 0) := by
 obtain ⟨d0, d6, l6⟩ := rightB_dims h
 have hp := printS_len h
 have hl0 := parse_l0 h l.length 0 (by omega)
 have hj1 : Ev (fun k => affine_Parse.j1 k (bs (printS d.toNat l)) ((l.map rowS).map bs) false d) (d, l, 0) := by
  refine Ev.step (f := fun k => affine_Parse.l0 k (bs (printS d.toNat l)) ((l.map rowS).map bs) (l.length : Int) 0 d []) (fun k => ?_) hl0
  simp only [affine_Parse.j1]
  rw [if_neg (by simp), List.length_map, List.length_map]
 have hj0 : Ev (fun k => affine_Parse.j0 k (bs (printS d.toNat l)) (bs (dimsS d.toNat)) (bs (40 :: (Lib.join (l.map rowS) [44, 32] ++ [41]))) false) (d, l, 0) := by
  refine Ev.step (f := fun k => affine_Parse.j1 k (bs (printS d.toNat l)) ((l.map rowS).map bs) false d) (fun k => ?_) hj1
  simp only [affine_Parse.j0]
  rw [if_neg (by simp), inner_dims h]
  simp only [Option.bind_some]
  rw [inner_rows h]
  simp only [Option.bind_some]
  have e1 : (((dimL d.toNat).map bs).length : Int) = d := by simp [dimL]; omega
  rw [e1, if_neg (by omega), decide_eq_false (by simp; omega)]
 obtain ⟨K, hK⟩ := hj0
 refine ⟨K, fun k hk => ?_⟩
 have e := hK k hk
 simp only at e
 show affine_Parse.f k (bs (printS d.toNat l)) = some (d, l, 0)
 unfold affine_Parse.f strings_Cut.f
 rw [if_pos (by rw [bs_size]; omega), bs_data, show (⟨#[32, 45, 62, 32]⟩ : ByteArray).data.toList = [32, 45, 62, 32] from rfl, cut_print]
 simp only [Option.bind_some]
 rw [if_pos trivial, decide_eq_false (by rw [bs_size]; omega)]
 exact e
end
end Go.Proofs.YtcefaofknaeaeaaGreatDoor.X
