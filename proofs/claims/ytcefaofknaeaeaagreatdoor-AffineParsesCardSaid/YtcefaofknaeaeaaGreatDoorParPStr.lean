/- Plain lemmas on strings: where a separator stands, what Split and ReplaceAll make, digits that are read back. -/
import Derived.Test.YtcefaofknaeaeaaGreatDoorParHReadRow
import Derived.Lib.ParseIntBTie
set_option linter.unusedVariables false
set_option linter.unusedSimpArgs false
namespace Go.Proofs.YtcefaofknaeaeaaGreatDoor.X
open Go.RowKit Go.Proofs.YtcefaofknaeaeaaGreatDoorW.PrintWords Go.Proofs.YtcefaofknaeaeaaGreatDoorW.PrintLast Go.Proofs.YtcefaofknaeaeaaGreatDoorW.PrintMore
theorem index_cons (b : UInt8) (l sub : List UInt8) : Lib.index (b :: l) sub = if sub.isPrefixOf (b :: l) = true then 0 else if (Lib.index l sub == -1) = true then -1 else Lib.index l sub + 1 := rfl
theorem index_step {b : UInt8} {l sub : List UInt8} (h : sub.isPrefixOf (b :: l) = false) : Lib.index (b :: l) sub = if Lib.index l sub = -1 then -1 else Lib.index l sub + 1 := by
 rw [index_cons, h, if_neg (by simp)]
 by_cases c : Lib.index l sub = -1
 ·rw [if_pos c, if_pos (beq_iff_eq.2 c)]
 ·rw [if_neg c, if_neg (fun e => c (beq_iff_eq.1 e))]
theorem index_over {sub : List UInt8} : ∀ (x y : List UInt8), (∀ j, j < x.length → sub.isPrefixOf ((x ++ y).drop j) = false) → Lib.index (x ++ y) sub = if Lib.index y sub = -1 then -1 else Lib.index y sub + x.length
 | [], y, _ => by
  by_cases h : Lib.index y sub = -1
  ·rw [if_pos h]; exact h
  ·rw [if_neg h]; simp
 | b :: x, y, hx => by
  have ih := index_over x y (fun j hj => by have := hx (j + 1) (by simp; omega); simpa using this)
  have h0 : sub.isPrefixOf (b :: (x ++ y)) = false := by have := hx 0 (by simp); simpa using this
  have hge := Lib.index_ge y sub
  rw [List.cons_append, index_step h0, ih, List.length_cons]
  by_cases h : Lib.index y sub = -1
  ·rw [if_pos h, if_pos rfl, if_pos h]
  ·rw [if_neg h, if_neg h, if_neg (by omega)]; omega
theorem prefix_ne {c a : UInt8} {t l : List UInt8} (h : a ≠ c) : (c :: t).isPrefixOf (a :: l) = false := by
 have hb : (c == a) = false := beq_eq_false_iff_ne.2 (fun e => h e.symm)
 simp [List.isPrefixOf, hb]
theorem drop_head {x y : List UInt8} {j : Nat} (h : j < x.length) : (x ++ y).drop j = x[j] :: (x.drop (j + 1) ++ y) := by
 rw [List.drop_append_of_le_length (by omega), List.drop_eq_getElem_cons h]; rfl
theorem index_skip {c : UInt8} {t : List UInt8} (x y : List UInt8) (hx : ∀ b ∈ x, b ≠ c) : Lib.index (x ++ y) (c :: t) = if Lib.index y (c :: t) = -1 then -1 else Lib.index y (c :: t) + x.length :=
 index_over x y (fun j hj => by rw [drop_head hj]; exact prefix_ne (hx _ (List.getElem_mem hj)))
theorem index_skip2 {c e : UInt8} {t : List UInt8} (x y : List UInt8) (hx : ∀ b ∈ x.tail, b ≠ e) (hy : ∀ b, y.head? = some b → b ≠ e) : Lib.index (x ++ y) (c :: e :: t) = if Lib.index y (c :: e :: t) = -1 then -1 else Lib.index y (c :: e :: t) + x.length :=
 index_over x y (fun j hj => by
  rw [drop_head hj]
  by_cases h : j + 1 < x.length
  ·have hd2 : x.drop (j + 1) ++ y = x[j + 1] :: (x.drop (j + 1 + 1) ++ y) := by rw [List.drop_eq_getElem_cons h]; rfl
   rw [hd2]
   have hn : x[j + 1] ≠ e := hx _ (by
    cases x with
    | nil => simp at hj
    | cons a x => exact List.getElem_mem (by simpa using h))
   have hb : (e == x[j + 1]) = false := beq_eq_false_iff_ne.2 (fun z => hn z.symm)
   simp [List.isPrefixOf, hb]
  ·rw [List.drop_eq_nil_of_le (by omega), List.nil_append]
   cases y with
   | nil => simp [List.isPrefixOf]
   | cons a y =>
    have hb : (e == a) = false := beq_eq_false_iff_ne.2 (fun z => hy a rfl z.symm)
    simp [List.isPrefixOf, hb])
theorem index_here (sub y : List UInt8) (h : sub ≠ []) : Lib.index (sub ++ y) sub = 0 := by
 cases sub with
 | nil => exact absurd rfl h
 | cons c t => rw [List.cons_append, index_cons, if_pos (by simp)]
theorem index_nil {c : UInt8} {t : List UInt8} : Lib.index [] (c :: t) = -1 := rfl
theorem index_at {c : UInt8} {t : List UInt8} (x y : List UInt8) (hx : ∀ b ∈ x, b ≠ c) : Lib.index (x ++ (c :: t) ++ y) (c :: t) = x.length := by
 rw [List.append_assoc, index_skip x _ hx, index_here _ _ (by simp), if_neg (by decide)]; omega
theorem index_no {c : UInt8} {t : List UInt8} (x : List UInt8) (hx : ∀ b ∈ x, b ≠ c) : Lib.index x (c :: t) = -1 := by
 have := index_skip (t := t) x [] hx
 rw [List.append_nil, index_nil, if_pos rfl] at this; exact this
theorem index_at2 {c e : UInt8} {t : List UInt8} (x y : List UInt8) (hx : ∀ b ∈ x.tail, b ≠ e) (hce : c ≠ e) : Lib.index (x ++ (c :: e :: t) ++ y) (c :: e :: t) = x.length := by
 rw [List.append_assoc, index_skip2 x _ hx (fun b hb => by simp at hb; subst hb; exact hce), index_here _ _ (by simp), if_neg (by decide)]; omega
theorem index_no2 {c e : UInt8} {t : List UInt8} (x : List UInt8) (hx : ∀ b ∈ x.tail, b ≠ e) : Lib.index x (c :: e :: t) = -1 := by
 have := index_skip2 (c := c) (t := t) x [] hx (fun b hb => by simp at hb)
 rw [List.append_nil, index_nil, if_pos rfl] at this; exact this
theorem cut_hit {s sep : List UInt8} {i : Nat} (h : Lib.index s sep = i) : Lib.cut s sep = (s.take i, s.drop (i + sep.length), true) := by
 unfold Lib.cut
 rw [h, if_pos (by omega), Int.toNat_natCast]
theorem cut_miss {s sep : List UInt8} (h : Lib.index s sep = -1) : Lib.cut s sep = (s, [], false) := by
 unfold Lib.cut
 rw [h, if_neg (by decide)]
theorem splitK_miss {sep s : List UInt8} (h : Lib.index s sep = -1) : Lib.split s sep = [s] := by
 unfold Lib.split
 rw [Lib.count_miss h]; rfl
theorem splitK_hit {sep s : List UInt8} {i : Nat} (hs : sep ≠ []) (h : Lib.index s sep = i) : Lib.split s sep = s.take i :: Lib.split (s.drop (i + sep.length)) sep := by
 unfold Lib.split
 rw [Lib.count_hit hs h, Nat.add_comm]
 have hm : ¬ (Lib.index s sep == -1) = true := fun e => by have := beq_iff_eq.1 e; omega
 rw [Lib.splitK, if_neg hm, h, Int.toNat_natCast]; rfl
theorem join_cons2 (x y : List UInt8) (ls : List (List UInt8)) (sep : List UInt8) : Lib.join (x :: y :: ls) sep = x ++ sep ++ Lib.join (y :: ls) sep := by
 simp [Lib.join, List.intercalate]
theorem join_one (x sep : List UInt8) : Lib.join [x] sep = x := by simp [Lib.join, List.intercalate]
theorem join_nil (sep : List UInt8) : Lib.join [] sep = [] := by simp [Lib.join, List.intercalate]
theorem split_join {c : UInt8} {t : List UInt8} : ∀ (ls : List (List UInt8)), ls ≠ [] → (∀ l ∈ ls, ∀ b ∈ l, b ≠ c) → Lib.split (Lib.join ls (c :: t)) (c :: t) = ls
 | [], h, _ => absurd rfl h
 | [x], _, hx => by
  rw [join_one]
  exact splitK_miss (index_no x (hx x List.mem_cons_self))
 | x :: y :: ls, _, hx => by
  have ih := split_join (c := c) (t := t) (y :: ls) (by simp) (fun l hl => hx l (List.mem_cons_of_mem _ hl))
  rw [join_cons2, splitK_hit (by simp) (index_at x _ (hx x List.mem_cons_self)), List.append_assoc, List.take_left' rfl, ← List.drop_drop, List.drop_left' rfl, List.drop_left' rfl, ih]
theorem split_bs (sep s : ByteArray) : (Lib.splitB sep 0 (Lib.countB s sep) s).map (·.data.toList) = Lib.split s.data.toList sep.data.toList := Lib.splitB_data sep 0 _ s
theorem bs_eta (s : ByteArray) : bs s.data.toList = s := rfl
theorem split_bs_eq {sep s : ByteArray} {ls : List (List UInt8)} (h : Lib.split s.data.toList sep.data.toList = ls) : Lib.splitB sep 0 (Lib.countB s sep) s = ls.map bs := by
 rw [← h, ← split_bs, List.map_map]
 exact (List.map_id _).symm
theorem rep_miss {s old new : List UInt8} (h : Lib.index s old = -1) : Lib.replaceAll s old new = s := by
 unfold Lib.replaceAll Lib.replace Lib.replaceNum
 rw [if_pos (Or.inl (by decide)), Lib.count_miss h]
 split <;> rfl
theorem rep_hit {s old new : List UInt8} {i : Nat} (ho : old ≠ []) (hn : old ≠ new) (h : Lib.index s old = i) : Lib.replaceAll s old new = s.take i ++ new ++ Lib.replaceAll (s.drop (i + old.length)) old new := by
 unfold Lib.replaceAll Lib.replace Lib.replaceNum
 rw [if_pos (Or.inl (by decide)), if_pos (Or.inl (by decide)), if_neg (by simpa using hn), if_neg (by simpa using hn), Lib.count_hit ho h, Nat.add_comm, Lib.replaceK_hit old new _ s i h]
theorem digit_nat (d : Nat) (h : d < 10) : (UInt8.ofNat (48 + d)).toNat = 48 + d := by
 rw [UInt8.toNat_ofNat']; omega
theorem dec_bytes (m : Nat) : ∀ b ∈ Lib.decDigits m, 48 ≤ b.toNat ∧ b.toNat ≤ 57 := by
 induction m using Nat.strongRecOn with
 | _ m ih =>
  intro b hb
  rw [Lib.decDigits] at hb
  by_cases c : m < 10
  ·rw [dif_pos c, List.mem_singleton] at hb
   subst hb
   rw [digit_nat m c]; omega
  ·rw [dif_neg c, List.mem_append, List.mem_singleton] at hb
   rcases hb with hb | rfl
   ·exact ih (m / 10) (by omega) b hb
   ·rw [digit_nat _ (Nat.mod_lt _ (by decide))]; omega
theorem parse_snoc : ∀ (l : List UInt8) (acc u d : Nat), d < 10 → u < 100000000 → Lib.parseUint10 acc l = .ok u → Lib.parseUint10 acc (l ++ [UInt8.ofNat (48 + d)]) = .ok (u * 10 + d)
 | [], acc, u, d, hd, hu, h => by
  simp only [Lib.parseUint10] at h
  injection h with h
  subst h
  simp only [List.nil_append, Lib.parseUint10, digit_nat d hd]
  rw [if_pos (by omega), if_neg (by omega), if_neg (by omega), show 48 + d - 48 = d by omega]
 | c :: r, acc, u, d, hd, hu, h => by
  simp only [List.cons_append, Lib.parseUint10] at h ⊢
  by_cases h1 : 48 ≤ c.toNat ∧ c.toNat ≤ 57
  ·rw [if_pos h1] at h ⊢
   by_cases h2 : 1844674407370955162 ≤ acc
   ·rw [if_pos h2] at h; cases h
   ·rw [if_neg h2] at h ⊢
    by_cases h3 : 18446744073709551616 ≤ acc * 10 + (c.toNat - 48)
    ·rw [if_pos h3] at h; cases h
    ·rw [if_neg h3] at h ⊢
     exact parse_snoc r _ u d hd hu h
  ·rw [if_neg h1] at h; cases h
theorem parse_dec (m : Nat) (hm : m ≤ 1000000) : Lib.parseUint10 0 (Lib.decDigits m) = .ok m := by
 induction m using Nat.strongRecOn with
 | _ m ih =>
  rw [Lib.decDigits]
  by_cases c : m < 10
  ·rw [dif_pos c]
   have := parse_snoc [] 0 0 m c (by omega) rfl
   simpa using this
  ·rw [dif_neg c]
   have := parse_snoc _ 0 (m / 10) (m % 10) (Nat.mod_lt _ (by decide)) (by omega) (ih (m / 10) (by omega) (by omega))
   rw [this, show m / 10 * 10 + m % 10 = m by omega]
theorem atoi_dec (m : Nat) (hm : m ≤ 1000000) : Lib.atoiAll (Lib.decDigits m) = .ok (m : Int) := by
 have hne := dec_ne_nil m
 have hb := dec_bytes m
 have hp := parse_dec m hm
 cases hl : Lib.decDigits m with
 | nil => exact absurd hl hne
 | cons c r =>
  rw [hl] at hb hp
  have hc := hb c List.mem_cons_self
  rw [Lib.atoiAll_plain c r (by omega) (by omega)]
  unfold Lib.parseMag
  rw [if_neg (by simp), hp]
  simp only [Lib.signless]
  rw [if_neg (by omega)]
theorem parseB_dec (m : Nat) (hm : m ≤ 1000000) : Lib.parseIntB 64 (Lib.decDigits m) = .ok (m : Int) := by rw [Lib.parseIntB_64, atoi_dec m hm]
end Go.Proofs.YtcefaofknaeaeaaGreatDoor.X
