/- What readRow makes of the tokens of a right row: the row; plain Lean. -/
import Derived.Test.YtcefaofknaeaeaaGreatDoorParPRow
import Derived.Test.YtcefaofknaeaeaaGreatDoorParPCompose
set_option linter.unusedVariables false
set_option linter.unusedSimpArgs false
namespace Go.Proofs.YtcefaofknaeaeaaGreatDoor.X
open Go.RowKit Go.Proofs.YtcefaofknaeaeaaGreatDoorW.PrintWords Go.Proofs.YtcefaofknaeaeaaGreatDoorW.PrintLast Go.Proofs.YtcefaofknaeaeaaGreatDoorW.PrintMore
theorem hasPrefix_one (c a : UInt8) (l : List UInt8) : Lib.hasPrefix (a :: l) [c] = (c == a) := by
 unfold Lib.hasPrefix
 simp [List.isPrefixOf]
theorem trimPrefix_hit (c : UInt8) (l : List UInt8) : Lib.trimPrefix (c :: l) [c] = l := by
 unfold Lib.trimPrefix
 rw [hasPrefix_one, beq_self_eq_true, if_pos rfl]; rfl
theorem Term.head {t : List UInt8} (h : Term t) : ∃ a l, t = a :: l ∧ a ≠ 45 := by
 cases t with
 | nil => exact absurd rfl h.1
 | cons a l => exact ⟨a, l, rfl, h.ne (c := 45) (by decide) a List.mem_cons_self⟩
theorem negT_tok (x : Bool × List UInt8) (h : Term x.2) : negT (bs (tok x)) = x.1 ∧ magT (bs (tok x)) = bs x.2 := by
 obtain ⟨b, t⟩ := x
 obtain ⟨a, l, e, hne⟩ := Term.head h
 have e' : t = a :: l := e
 subst e'
 cases b with
 | true =>
  have e1 : negT (bs (tok (true, a :: l))) = true := by
   unfold negT
   rw [bs_data]
   show Lib.hasPrefix (45 :: a :: l) [45] = true
   rw [hasPrefix_one]; rfl
  refine ⟨e1, ?_⟩
  unfold magT
  rw [if_pos e1, bs_data]
  show bs (Lib.trimPrefix (45 :: a :: l) [45]) = bs (a :: l)
  rw [trimPrefix_hit]
 | false =>
  have e1 : negT (bs (tok (false, a :: l))) = false := by
   unfold negT
   rw [bs_data]
   show Lib.hasPrefix (a :: l) [45] = false
   rw [hasPrefix_one]; exact beq_eq_false_iff_ne.2 hne.symm
  refine ⟨e1, ?_⟩
  unfold magT
  rw [if_neg (by rw [e1]; simp)]; rfl
theorem dec_head (m : Nat) : ∃ a l, Lib.decDigits m = a :: l ∧ a ≠ 100 := by
 cases h : Lib.decDigits m with
 | nil => exact absurd h (dec_ne_nil m)
 | cons a l =>
  refine ⟨a, l, rfl, fun e => ?_⟩
  have := dec_bytes m a (by rw [h]; exact List.mem_cons_self)
  subst e
  exact absurd this.2 (by decide)
theorem dec_no42 (m : Nat) : ∀ b ∈ Lib.decDigits m, b ≠ 42 := fun b hb e => by
 have := dec_bytes m b hb
 subst e
 exact absurd this.1 (by decide)
theorem dec_one' : Lib.decDigits 1 = [49] := dec_one.2 rfl
theorem tokT_item (n : Nat) (v : Int) (i : Nat) (hn : n ≤ 6) (hi : i ≤ n) (hv : -1000000 ≤ v ∧ v ≤ 1000000) : tokT n (bs (tok (decide (v < 0), termS v i n))) = some (i, v) := by
 have hT := term_ok v i n
 obtain ⟨e1, e2⟩ := negT_tok (decide (v < 0), termS v i n) hT
 have hval : wrap64 (signT (bs (tok (decide (v < 0), termS v i n))) * (v.natAbs : Int)) = v := by
  unfold signT
  rw [e1]
  by_cases h : v < 0
  ·rw [decide_eq_true h, if_pos rfl, wrap_id (by omega) (by omega)]; omega
  ·rw [decide_eq_false h, if_neg (by simp), wrap_id (by omega) (by omega)]; omega
 generalize htok : bs (tok (decide (v < 0), termS v i n)) = t at e1 e2 hval
 have hm : (magT t).data.toList = termS v i n := by rw [e2, bs_data]
 clear htok
 by_cases h1 : i = n
 ·have ht : termS v i n = Lib.decDigits v.natAbs := by unfold termS; rw [if_pos h1]
  obtain ⟨a, l, hd, ha⟩ := dec_head v.natAbs
  have hcut : Lib.cut (magT t).data.toList [42] = (Lib.decDigits v.natAbs, [], false) := by rw [hm, ht]; exact cut_miss (index_no _ (dec_no42 _))
  have hst : starT t = false := by unfold starT; rw [hcut]
  have hdt : dT t = false := by unfold dT; rw [hm, ht, hd, hasPrefix_one]; exact beq_eq_false_iff_ne.2 ha.symm
  have hok : okT t = false := by unfold okT; rw [hst, hdt]; rfl
  have hsz : sizeT t = bs (Lib.decDigits v.natAbs) := by unfold sizeT; rw [if_neg (by rw [hst]; simp), if_neg (by rw [hdt]; simp), hcut]
  have hnum : numT t = .ok (v.natAbs : Int) := by unfold numT; rw [hsz, bs_data]; exact parseB_dec _ (by omega)
  unfold tokT
  rw [if_neg (by rw [hok]; simp), hnum]
  simp only [hval, h1]
 ·by_cases h2 : v.natAbs = 1
  ·have ht : termS v i n = 100 :: Lib.decDigits i := by unfold termS; rw [if_neg h1, if_pos h2]
   have hcut : Lib.cut (magT t).data.toList [42] = (100 :: Lib.decDigits i, [], false) := by
    rw [hm, ht]
    exact cut_miss (index_no _ (fun b hb => by
     rcases List.mem_cons.1 hb with rfl | hb
     ·decide
     ·exact dec_no42 i b hb))
   have hst : starT t = false := by unfold starT; rw [hcut]
   have hdt : dT t = true := by unfold dT; rw [hm, ht, hasPrefix_one]; rfl
   have hok : okT t = true := by unfold okT; rw [hst, hdt]; rfl
   have hsz : sizeT t = ⟨#[49]⟩ := by unfold sizeT; rw [if_neg (by rw [hst]; simp), if_pos hdt]
   have hnm : nameT t = magT t := by unfold nameT; rw [if_neg (by rw [hst]; simp), if_pos hdt]
   have hnum : numT t = .ok (v.natAbs : Int) := by
    unfold numT
    rw [hsz, h2]
    have := parseB_dec 1 (by omega)
    rwa [dec_one'] at this
   have hidx : idxT t = .ok (i : Int) := by
    unfold idxT
    rw [hnm, hm, ht, trimPrefix_hit]
    exact atoi_dec i (by omega)
   unfold tokT
   rw [if_pos hok, hidx, hnum]
   simp only
   rw [if_pos (by omega)]
   simp only [hval, Int.toNat_natCast]
  ·have ht : termS v i n = Lib.decDigits v.natAbs ++ [42] ++ (100 :: Lib.decDigits i) := by unfold termS; rw [if_neg h1, if_neg h2]; simp
   have hcut : Lib.cut (magT t).data.toList [42] = (Lib.decDigits v.natAbs, 100 :: Lib.decDigits i, true) := by
    rw [hm, ht, cut_hit (index_at (c := 42) (t := []) _ _ (dec_no42 _)), List.append_assoc, List.take_left' rfl, ← List.drop_drop, List.drop_left' rfl, List.drop_left' rfl]
   have hst : starT t = true := by unfold starT; rw [hcut]
   have hok : okT t = true := by unfold okT; rw [hst]; rfl
   have hsz : sizeT t = bs (Lib.decDigits v.natAbs) := by unfold sizeT; rw [if_pos hst, hcut]
   have hnm : nameT t = bs (100 :: Lib.decDigits i) := by unfold nameT; rw [if_pos hst, hcut]
   have hnum : numT t = .ok (v.natAbs : Int) := by unfold numT; rw [hsz, bs_data]; exact parseB_dec _ (by omega)
   have hidx : idxT t = .ok (i : Int) := by
    unfold idxT
    rw [hnm, bs_data, trimPrefix_hit]
    exact atoi_dec i (by omega)
   unfold tokT
   rw [if_pos hok, hidx, hnum]
   simp only
   rw [if_pos (by omega)]
   simp only [hval, Int.toNat_natCast]
theorem readT_append (n : Nat) : ∀ (a b : List ByteArray) (out : List Int), readT n (a ++ b) out = (readT n a out).bind (readT n b)
 | [], b, out => rfl
 | t :: a, b, out => by
  simp only [List.cons_append, readT]
  cases tokT n t with
  | none => rfl
  | some x => exact readT_append n a b _
def partR (r : List Int) (n k : Nat) : List Int := (List.range (n + 1)).map fun j => if j < k then r.getD j 0 else 0
theorem partR_getD (r : List Int) (n k t : Nat) (ht : t < n + 1) : (partR r n k).getD t 0 = if t < k then r.getD t 0 else 0 := by
 unfold partR
 rw [List.getD_eq_getElem?_getD, List.getElem?_map, List.getElem?_range ht]; rfl
theorem readT_items (r : List Int) (n : Nat) (hn : n ≤ 6) (hl : r.length = n + 1) (hs : ∀ j : Nat, j < r.length → -1000000 ≤ r.getD j 0 ∧ r.getD j 0 ≤ 1000000) :
  ∀ k, k ≤ n + 1 → readT n (((itemsT r k).map tok).map bs) (List.replicate (n + 1) 0) = some (partR r n k)
 | 0, _ => by
  show some _ = some _
  congr 1
  refine list_eq_map (by simp) (fun t ht => ?_)
  rw [if_neg (by omega), List.getD_eq_getElem?_getD, List.getElem?_replicate, if_pos (by omega)]; rfl
 | k + 1, hk => by
  have ih := readT_items r n hn hl hs k (by omega)
  unfold itemsT
  by_cases h0 : r.getD k 0 = 0
  ·rw [if_pos h0, ih]
   congr 1
   refine list_eq_map (by simp [partR]) (fun t ht => ?_)
   rw [partR_getD r n k t ht]
   by_cases c : t < k
   ·rw [if_pos c, if_pos (by omega)]
   ·rw [if_neg c]
    by_cases c2 : t = k
    ·subst c2; rw [if_pos (by omega), h0]
    ·rw [if_neg (by omega)]
  ·rw [if_neg h0, List.map_append, List.map_append, readT_append, ih]
   show readT n [bs (tok (itemT r k))] (partR r n k) = _
   unfold itemT
   rw [show r.length - 1 = n by omega]
   simp only [readT, tokT_item n (r.getD k 0) k hn (by omega) (hs k (by omega))]
   congr 1
   refine list_eq_map (by simp [partR]) (fun t ht => ?_)
   rw [getD_set _ _ _ _ (by simp [partR]; omega), partR_getD r n k t ht]
   by_cases c : t = k
   ·subst c; rw [if_pos rfl, if_pos (by omega)]
   ·rw [if_neg c]
    by_cases c2 : t < k
    ·rw [if_pos c2, if_pos (by omega)]
    ·rw [if_neg c2, if_neg (by omega)]
theorem partR_full (r : List Int) (n : Nat) (hl : r.length = n + 1) : partR r n (n + 1) = r := by
 refine (list_eq_map hl (fun t ht => ?_)).symm
 rw [if_pos ht]
theorem itemsT_zero (r : List Int) : ∀ k, itemsT r k = [] → ∀ j, j < k → r.getD j 0 = 0
 | 0, _, j, hj => by omega
 | k + 1, h, j, hj => by
  unfold itemsT at h
  by_cases h0 : r.getD k 0 = 0
  ·rw [if_pos h0] at h
   by_cases c : j = k
   ·subst c; exact h0
   ·exact itemsT_zero r k h j (by omega)
  ·rw [if_neg h0] at h
   exact absurd h (by simp)
theorem rowT_rowS (r : List Int) (n : Nat) (hn : n ≤ 6) (hl : r.length = n + 1) (hs : ∀ j : Nat, j < r.length → -1000000 ≤ r.getD j 0 ∧ r.getD j 0 ≤ 1000000) : rowT n (bs (rowS r)) = r := by
 unfold rowT
 by_cases h : itemsT r r.length = []
 ·rw [toks_zero r h]
  have hz := itemsT_zero r _ h
  have e : readT n [bs [48]] (List.replicate (n + 1) 0) = some ((List.replicate (n + 1) 0).set n 0) := by
   have := tokT_item n 0 n hn (Nat.le_refl _) (by omega)
   rw [show bs (tok (decide ((0 : Int) < 0), termS 0 n n)) = bs [48] by
    unfold tok termS
    rw [if_neg (by simp), if_pos rfl, show (0 : Int).natAbs = 0 from rfl, Lib.decDigits]; rfl] at this
   simp only [readT, this]
  rw [e]
  show (List.replicate (n + 1) 0).set n 0 = r
  rw [← partR_full r n hl]
  refine list_eq_map (by simp) (fun t ht => ?_)
  have e0 : (List.replicate (n + 1) (0 : Int)).getD t 0 = 0 := by rw [List.getD_eq_getElem?_getD, List.getElem?_replicate, if_pos ht]; rfl
  rw [getD_set _ _ _ _ (by simp), e0, if_pos ht, hz t (by omega)]
  split <;> rfl
 ·rw [toks_row r h, show r.length = n + 1 from hl, readT_items r n hn hl hs (n + 1) (Nat.le_refl _), partR_full r n hl]; rfl
end Go.Proofs.YtcefaofknaeaeaaGreatDoor.X
