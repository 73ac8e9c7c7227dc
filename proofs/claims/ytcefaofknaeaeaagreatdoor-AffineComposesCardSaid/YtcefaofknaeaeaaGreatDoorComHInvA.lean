/- Parts of affine.Invert: a row that is being filled, the rows with the identity's beside them, and what solve makes of them. -/
import Derived.Test.YtcefaofknaeaeaaGreatDoorComPInvert
import Derived.Test.YtcefaofknaeaeaaGreatDoorComHBld
import Derived.Test.YtcefaofknaeaeaaGreatDoorComHSolve
import Derived.Test.YtcefaofknaeaeaaGreatDoorComXd
set_option linter.unusedVariables false
set_option linter.unusedSimpArgs false
namespace Go.Proofs.YtcefaofknaeaeaaGreatDoor.X
open Go.RowKit Go.Proofs.YtcefaofknaeaeaaGreatDoorW.PrintWords Go.Proofs.YtcefaofknaeaeaaGreatDoorW.PrintLast Go.Proofs.YtcefaofknaeaeaaGreatDoorW.PrintMore AffMath
theorem solve_zero (A : Option Addr) (c : Nat) (w : World) : Calls Tryz.prog 29 #[.int .i64 2147483647, .slice A 0 c] w fun e w' => e = .returned (.bool true) ∧ w = w' := by
 go_enter Tryz.func29, Tryz.ntmps29
 go_wp2
 refine wp_loop_rounds 1 ?_
 rw [rounds_succ]
 go_wp2
 go_ret
 exact ⟨rfl, rfl⟩
def Row (w : World) (gn m : Nat) (f : Nat → Int) : Prop := w.heap[gn]? = some (.cells (nums .i64 ((List.range m).map f)).toArray 2 (0, 0))
theorem Row.made (w : World) (m : Nat) : Row (w.alloc (.cells (madeCells #[.int .i64 0] m) 2)) w.heap.size m (fun _ => 0) := by
 unfold Row
 rw [show (nums IntKind.i64 ((List.range m).map fun _ => (0 : Int))).toArray = madeCells #[.int .i64 0] m from ?_]
 ·exact blk_new w _
 ·apply Array.ext
  ·simp [nums, madeCells]
  ·intro i h1 h2
   simp [nums, madeCells, Nat.mod_one]
theorem Row.put {w : World} {gn m : Nat} {f : Nat → Int} (h : Row w gn m f) (j : Nat) (x : Int) : Row (w.setCell ⟨gn, j, none⟩ (.int .i64 x)) gn m (fun t => if t = j then x else f t) := by
 refine blk_put h j _ ?_
 have e : (nums .i64 ((List.range m).map f)).set j (.int .i64 x) = nums .i64 ((List.range m).map fun t => if t = j then x else f t) := by
  apply List.ext_getElem?
  intro i
  rw [List.getElem?_set]
  simp only [nums, List.getElem?_map, List.length_map, List.length_range]
  by_cases e : j = i
  ·subst e
   by_cases hm : j < m
   ·rw [if_pos rfl, if_pos hm, List.getElem?_range hm]; simp
   ·rw [if_pos rfl, if_neg hm, List.getElem?_eq_none (by simp; omega)]; rfl
  ·rw [if_neg e]
   by_cases hm : i < m
   ·rw [List.getElem?_range hm]
    simp only [Option.map_some]
    rw [if_neg (fun h => e h.symm)]
   ·rw [List.getElem?_eq_none (by simp; omega)]; rfl
 rw [← e]
 simp
theorem Row.congr {w : World} {gn m : Nat} {f f' : Nat → Int} (h : Row w gn m f) (e : ∀ t, t < m → f' t = f t) : Row w gn m f' := by
 unfold Row at h ⊢
 rw [h, show (List.range m).map f' = (List.range m).map f from List.map_congr_left fun t ht => e t (List.mem_range.1 ht)]
theorem Row.cell {w : World} {gn m : Nat} {f : Nat → Int} (h : Row w gn m f) (j : Nat) (hj : j < m) : w.cell? ⟨gn, j, none⟩ = some (.int .i64 (f j)) := by
 refine (blk_cell h j).trans ?_
 simp [nums, hj]
theorem Row.frozen {w : World} {gn m : Nat} {f : Nat → Int} (h : Row w gn m f) (j : Nat) : w.frozen? ⟨gn, j, none⟩ = false := blk_frozen h j
theorem Row.drew {w : World} {gn m : Nat} {f : Nat → Int} (h : Row w gn m f) : Row w.drew gn m f := h
theorem Row.drewN {w : World} {gn m : Nat} {f : Nat → Int} (h : Row w gn m f) (q : Nat) : Row (w.drewN q) gn m f := h
theorem Row.below {w w' : World} {gn m : Nat} {f : Nat → Int} (h : Row w gn m f) (hb : Below w.heap.size w w') : Row w' gn m f := blk_below h hb
def tabL (m : Nat) (f : Nat → Nat → Int) : Nat → List Int := fun k => (List.range m).map (f k)
theorem tabL_ent {m : Nat} {f : Nat → Nat → Int} {k j : Nat} (hj : j < m) : ent (tabL m f) k j = f k j := by
 unfold ent tabL
 simp [List.getD_eq_getElem?_getD, List.getElem?_range hj]
theorem Bld.lower {w : World} {base base' n m : Nat} {v : Value} {g : Nat → Nat} {L : Nat → List Int} (h : Bld w base v n m g L) (hb : base' ≤ base) : Bld w base' v n m g L :=
 ⟨own_weaken h.own hb, h.row, h.len, h.inj, fun j hj => Nat.le_trans hb (h.lo j hj)⟩
theorem Bld.box {w : World} {base n m : Nat} {v : Value} {g : Nat → Nat} {L : Nat → List Int} (h : Bld w base v n m g L) {q : Nat} {cs : Array Value} (hq : w.heap[q]? = some (.cells cs 24 (0, 0))) : some q ≠ v.ownBlock ∧ ∀ j, j < n → g j ≠ q := by
 refine ⟨fun e => ?_, fun j hj e => ?_⟩
 ·obtain ⟨cells, hc⟩ := own_typed h.own q e.symm
  rw [hc] at hq
  injection hq with h1
  injection h1 with _ h1
  exact absurd h1 (by decide)
 ·have hc := h.row j hj
  rw [e, hq] at hc
  injection hc with h1
  injection h1 with _ h1
  exact absurd h1 (by decide)
def bothE (l : List (List Int)) (n i t : Nat) : Int := if t < n then mE l i t % 2147483647 else if t = n + i then 1 else 0
theorem bothE_in (l : List (List Int)) (n i t : Nat) : 0 ≤ bothE l n i t ∧ bothE l n i t < 2147483647 := by
 unfold bothE
 split
 ·omega
 ·split <;> omega
def Solved (w : World) (A : Option Addr) (n : Nat) (R : Nat → Nat → Int) : Prop :=
 ∀ i, i < n → ∃ go gi, A = some ⟨go, 0, none⟩ ∧ w.cell? ⟨go, i, none⟩ = some (.slice (some ⟨gi, 0, none⟩) (n + n) (n + n)) ∧ ∀ j, j < n → w.cell? ⟨gi, n + j, none⟩ = some (.int .i64 (R i j))
theorem Solved.below {w w' : World} {A : Option Addr} {n : Nat} {R : Nat → Nat → Int} (h : Solved w A n R) (hb : Below w.heap.size w w') : Solved w' A n R := fun i hi => by
 obtain ⟨go, gi, e, h1, h2⟩ := h i hi
 exact ⟨go, gi, e, (hb.cell (World.block_lt_of_cell? w _ h1)).trans h1, fun j hj => (hb.cell (World.block_lt_of_cell? w _ (h2 j hj))).trans (h2 j hj)⟩
structure Undo (n : Nat) (l : List (List Int)) (R : Nat → Nat → Int) : Prop where
 hR : ∀ k, k < n → ∀ j, j < n → 0 ≤ R k j ∧ R k j < 2147483647
 hMR : ∀ k, k < n → ∀ j, j < n → Cg 2147483647 (sumN n fun t => mE l k t * R t j) (dl k j)
theorem solve_both {W : World} {base n : Nat} {v : Value} {g : Nat → Nat} {l : List (List Int)} (hn : n ≤ 6) (hb : Bld W base v n (n + n) g (tabL (n + n) (bothE l n))) :
  ∃ A c, v = .slice A n c ∧ Calls Tryz.prog 29 #[.int .i64 2147483647, v] W fun e w' => ∃ b, e = .returned (.bool b) ∧ Below base W w' ∧ (∀ (q : Nat) (o : Array Value), W.heap[q]? = some (.cells o 24 (0, 0)) → w'.heap[q]? = W.heap[q]?) ∧
   (b = false → ¬ ∃ C, Good n l C) ∧ (b = true → ∃ R, Solved w' A n R ∧ Undo n l R) := by
 by_cases hn0 : n = 0
 ·subst hn0
  obtain ⟨A, c, e⟩ := hb.slice
  refine ⟨A, c, e, ?_⟩
  rw [e]
  refine (solve_zero A c W).mono ?_
  rintro e w' ⟨rfl, rfl⟩
  refine ⟨true, rfl, Below.refl _ _, fun _ _ _ => rfl, fun h => by simp at h, fun _ => ⟨fun _ _ => 0, fun i hi => absurd hi (Nat.not_lt_zero _), fun k hk => absurd hk (Nat.not_lt_zero _), fun k hk => absurd hk (Nat.not_lt_zero _)⟩⟩
 ·obtain ⟨go, co, e, hco, hm⟩ := hb.mat (by omega)
  refine ⟨_, co, e, ?_⟩
  rw [e]
  have hlo := hm.lo
  have hfr : ∀ k, Blocks go n g k → base ≤ k := fun k hk => by
   rcases hk with rfl | ⟨j, hj, rfl⟩
   ·exact hlo.1
   ·exact hlo.2 j hj
  have hnot : ∀ (q : Nat) (o : Array Value), W.heap[q]? = some (.cells o 24 (0, 0)) → ¬ Blocks go n g q := fun q o h1 h2 => by
   rcases h2 with rfl | ⟨j, hj, rfl⟩
   ·obtain ⟨cur, hc, _⟩ := hm.out
    rw [hc] at h1
    injection h1 with h1
    injection h1 with _ h1
    exact absurd h1 (by decide)
   ·have hc := hm.row j hj
    rw [hc] at h1
    injection h1 with h1
    injection h1 with _ h1
    exact absurd h1 (by decide)
  have hbase : base ≤ W.heap.size := Nat.le_trans hlo.1 (Nat.le_of_lt hm.lt.1)
  have hk : Kept 2147483647 n (mE l) (ent (tabL (n + n) (bothE l n))) := Kept.start fun k hk j hj => by
   rw [tabL_ent hj]
   unfold bothE beside
   split
   ·exact Cg.emod _
   ·unfold dl
    by_cases e : j = n + k
    ·rw [if_pos e, if_pos (by omega)]; exact Cg.refl _
    ·rw [if_neg e, if_neg (by omega)]; exact Cg.refl _
  refine (solve_any base go n co g _ (mE l) W (by omega) hn hco hm (fun k hk j hj => by rw [tabL_ent hj]; exact bothE_in l n k j) hk).mono ?_
  rintro e w' (⟨rfl, hno, hf⟩ | ⟨rfl, g1, L1, hs⟩)
  ·exact ⟨false, rfl, hf.below hbase hfr, fun q o h => hf.block q (blk_lt h) (hnot q o h), fun _ ⟨C, hC⟩ => hC.not_noInv hno, fun h => by simp at h⟩
  ·refine ⟨true, rfl, hs.fr.below hbase hfr, fun q o h => hs.fr.block q (blk_lt h) (hnot q o h), fun h => by simp at h, fun _ => ⟨fun i j => ent L1 i (n + j), fun i hi => ⟨go, g1 i, rfl, hs.mat.outer i hi, fun j hj => hs.mat.inner i (n + j) hi (by omega)⟩, fun k hk j hj => hs.inr k hk (n + j) (by omega), ?_⟩⟩
   exact (hs.kept.done hs.cols).2
def outE (l : List (List Int)) (R : Nat → Nat → Int) (n m i t : Nat) : Int := if t < n then nearS (R i t) else if i < m then -(sumN n fun u => nearS (R i u) * mE l u n) else 0
theorem setE_outE {n m : Nat} {l : List (List Int)} {R : Nat → Nat → Int} (hm : m < n) (q : Nat) (hq : q < n) :
  tabL (n + 1) (outE l R n (m + 1)) q = setE (tabL (n + 1) (outE l R n m)) m n (-(sumN n fun u => nearS (R m u) * mE l u n)) q := by
 by_cases e : q = m
 ·subst e
  rw [setE_same]
  apply List.ext_getElem?
  intro t
  rw [List.getElem?_set]
  simp only [tabL, List.length_map, List.length_range, List.getElem?_map]
  by_cases e1 : n = t
  ·subst e1
   rw [if_pos rfl, if_pos (by omega), List.getElem?_range (by omega)]
   simp only [Option.map_some]
   unfold outE
   rw [if_neg (by omega), if_pos (by omega)]
  ·rw [if_neg e1]
   by_cases e2 : t < n + 1
   ·rw [List.getElem?_range e2]
    simp only [Option.map_some]
    unfold outE
    rw [if_pos (by omega), if_pos (by omega)]
   ·rw [List.getElem?_eq_none (by simp; omega)]; rfl
 ·rw [setE_other _ _ _ _ _ e]
  refine List.map_congr_left fun t ht => ?_
  unfold outE
  by_cases e1 : t < n
  ·rw [if_pos e1, if_pos e1]
  ·rw [if_neg e1, if_neg e1]
   by_cases e2 : q < m
   ·rw [if_pos (by omega), if_pos e2]
   ·rw [if_neg (by omega), if_neg e2]
theorem outE_rows {n : Nat} {l : List (List Int)} {R : Nat → Nat → Int} : OutRows n l R (rowsOf n (tabL (n + 1) (outE l R n n))) where
 len := rowsOf_length _ _
 rlen := fun i hi => by rw [rowsOf_at _ _ _ hi]; simp [tabL]
 ent := fun i hi j hj => by
  unfold mE
  rw [rowsOf_at _ _ _ hi]
  have := tabL_ent (m := n + 1) (f := outE l R n n) (k := i) (j := j) (by omega)
  unfold ent at this
  rw [this]; unfold outE; rw [if_pos hj]
 last := fun i hi => by
  unfold mE
  rw [rowsOf_at _ _ _ hi]
  have := tabL_ent (m := n + 1) (f := outE l R n n) (k := i) (j := n) (by omega)
  unfold ent at this
  rw [this]; unfold outE; rw [if_neg (by omega), if_pos hi]; rfl
theorem near_any (x : Int) (w : World) (hx : 0 ≤ x ∧ x < 2147483647) : Calls Tryz.prog 30 #[.int .i64 2147483647, .int .i64 x] w fun e w' => e = .returned (.int .i64 (nearS x)) ∧ Below w.heap.size w w' := by
 refine (affine_modulus_near.calls 2147483647 x (nearS x) w ?_).mono fun e w' h => ⟨h.1, h.2.below⟩
 unfold affine_modulus_near.f nearS
 rw [show wrap64 (Int.tdiv 2147483647 2) = 1073741823 by rw [show Int.tdiv 2147483647 2 = 1073741823 from rfl]; unfold wrap64; omega]
 split
 ·rw [show wrap64 (x - 2147483647) = x - 2147483647 by unfold wrap64; omega]
 ·rfl
theorem small_any (x : Int) (w : World) : Calls Tryz.prog 31 #[.int .i64 x] w fun e w' => e = .returned (.bool (smallB x)) ∧ Below w.heap.size w w' := by
 refine (affine_small.calls x (smallB x) w ?_).mono fun e w' h => ⟨h.1, h.2.below⟩
 unfold affine_small.f smallB
 by_cases h : x ≥ -1000000
 ·rw [if_pos h, decide_eq_true (show -1000000 ≤ x from h)]; rfl
 ·rw [if_neg h, decide_eq_false (show ¬ -1000000 ≤ x from h)]; rfl
end Go.Proofs.YtcefaofknaeaeaaGreatDoor.X
