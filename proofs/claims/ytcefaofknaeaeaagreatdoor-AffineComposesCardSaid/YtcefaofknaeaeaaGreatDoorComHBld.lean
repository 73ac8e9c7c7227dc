/- Rows that a call builds, row after row, behind an outer slice. -/
import Derived.Test.YtcefaofknaeaeaaGreatDoorComHMat
set_option linter.unusedVariables false
set_option linter.unusedSimpArgs false
namespace Go.Proofs.YtcefaofknaeaeaaGreatDoor.X
open Go.RowKit Go.Proofs.YtcefaofknaeaeaaGreatDoorW.PrintWords Go.Proofs.YtcefaofknaeaeaaGreatDoorW.PrintLast Go.Proofs.YtcefaofknaeaeaaGreatDoorW.PrintMore
def hdr (g m : Nat) : Value := .slice (some ⟨g, 0, none⟩) m m
structure Bld (w : World) (base : Nat) (v : Value) (n m : Nat) (g : Nat → Nat) (L : Nat → List Int) : Prop where
 own : w.ownsRow base 38 1 v n ((List.range n).map fun j => hdr (g j) m)
 row : ∀ j, j < n → w.heap[g j]? = some (.cells (nums .i64 (L j)).toArray 2 (0, 0))
 len : ∀ j, j < n → (L j).length = m
 inj : ∀ i j, i < n → j < n → g i = g j → i = j
 lo : ∀ j, j < n → base ≤ g j
section
variable {w : World} {base n m : Nat} {v : Value} {g : Nat → Nat} {L : Nat → List Int}
theorem Bld.start (w : World) (base m : Nat) (g : Nat → Nat) (L : Nat → List Int) : Bld w base (.slice none 0 0) 0 m g L :=
 ⟨own_nil _ _ _ _, fun j hj => absurd hj (Nat.not_lt_zero _), fun j hj => absurd hj (Nat.not_lt_zero _), fun i _ hi => absurd hi (Nat.not_lt_zero _), fun j hj => absurd hj (Nat.not_lt_zero _)⟩
theorem Bld.ne (h : Bld w base v n m g L) (j : Nat) (hj : j < n) : some (g j) ≠ v.ownBlock := by
 intro e
 obtain ⟨cells, hc⟩ := own_typed h.own (g j) e.symm
 have h2 := h.row j hj
 rw [hc] at h2
 injection h2 with h2
 injection h2 with _ h2
 exact absurd h2 (by decide)
theorem Bld.lt (h : Bld w base v n m g L) (j : Nat) (hj : j < n) : g j < w.heap.size := blk_lt (h.row j hj)
theorem Bld.below (h : Bld w base v n m g L) {w' : World} (hb : Below w.heap.size w w') : Bld w' base v n m g L :=
 ⟨pw_own_below h.own hb, fun j hj => blk_below (h.row j hj) hb, h.len, h.inj, h.lo⟩
theorem Bld.alloc (h : Bld w base v n m g L) (o : Obj) : Bld (w.alloc o) base v n m g L := h.below (below_alloc (Below.refl _ _) o)
theorem Bld.drew (h : Bld w base v n m g L) : Bld w.drew base v n m g L := h.below (below_drew (Below.refl _ _))
theorem Bld.drewN (h : Bld w base v n m g L) (q : Nat) : Bld (w.drewN q) base v n m g L := h.below (pw_below_drewN (Below.refl _ _) q)
theorem Bld.far (h : Bld w base v n m g L) {p : Addr} (h1 : some p.block ≠ v.ownBlock) (h2 : ∀ j, j < n → g j ≠ p.block) (u : Value) : Bld (w.setCell p u) base v n m g L :=
 ⟨own_move h.own (fun k hk => Below.heap_setCell w p u k (fun e => h1 (e ▸ hk.symm))), fun j hj => blk_far (h.row j hj) (h2 j hj) u, h.len, h.inj, h.lo⟩
theorem Bld.put (h : Bld w base v n m g L) (k j : Nat) (hk : k < n) (x : Int) : Bld (w.setCell ⟨g k, j, none⟩ (.int .i64 x)) base v n m g (setE L k j x) where
 own := own_move h.own (fun q hq => Below.heap_setCell w _ _ q (fun e => h.ne k hk (by rw [show g k = q from e.symm]; exact hq.symm)))
 row := fun t ht => by
  by_cases e : t = k
  ·subst e
   rw [setE_same]
   refine blk_put (h.row t ht) j _ ?_
   simp [nums, List.map_set]
  ·rw [setE_other L k j t x e]
   exact blk_far (h.row t ht) (fun e' => e (h.inj t k ht hk e')) _
 len := fun t ht => by
  by_cases e : t = k
  ·subst e; rw [setE_same, List.length_set]; exact h.len t ht
  ·rw [setE_other L k j t x e]; exact h.len t ht
 inj := h.inj
 lo := h.lo
theorem Bld.congr (h : Bld w base v n m g L) {L' : Nat → List Int} (e : ∀ j, j < n → L' j = L j) : Bld w base v n m g L' :=
 ⟨h.own, fun j hj => by rw [e j hj]; exact h.row j hj, fun j hj => by rw [e j hj]; exact h.len j hj, h.inj, h.lo⟩
def snocF {α : Type} (f : Nat → α) (k : Nat) (x : α) : Nat → α := fun j => if j = k then x else f j
theorem snocF_k {α : Type} (f : Nat → α) (k : Nat) (x : α) : snocF f k x k = x := if_pos rfl
theorem snocF_o {α : Type} (f : Nat → α) (k j : Nat) (x : α) (h : j ≠ k) : snocF f k x j = f j := if_neg h
theorem Bld.snoc (h : Bld w base v n m g L) {gn : Nat} {row : List Int} (hrow : w.heap[gn]? = some (.cells (nums .i64 row).toArray 2 (0, 0))) (hl : row.length = m) (hnew : ∀ j, j < n → g j ≠ gn) (hlo : base ≤ gn)
  {w1 : World} {v1 : Value} (hown : w1.ownsRow base 38 1 v1 (n + 1) (((List.range n).map fun j => hdr (g j) m) ++ [hdr gn m])) (hg : w.grownBy w1 v.ownBlock) : Bld w1 base v1 (n + 1) m (snocF g n gn) (snocF L n row) where
 own := by
  have e : ((List.range (n + 1)).map fun j => hdr (snocF g n gn j) m) = ((List.range n).map fun j => hdr (g j) m) ++ [hdr gn m] := by
   rw [List.range_succ, List.map_append]
   congr 1
   ·refine List.map_congr_left fun j hj => ?_
    rw [snocF_o g n j gn (by have := List.mem_range.1 hj; omega)]
   ·simp [snocF_k]
  rw [e]; exact hown
 row := fun j hj => by
  by_cases e : j = n
  ·subst e
   rw [snocF_k, snocF_k]
   refine blk_grown hrow hg (fun e => ?_)
   obtain ⟨cells, hc⟩ := own_typed h.own gn e.symm
   rw [hc] at hrow
   injection hrow with h2
   injection h2 with _ h2
   exact absurd h2 (by decide)
  ·rw [snocF_o _ _ _ _ e, snocF_o _ _ _ _ e]
   exact blk_grown (h.row j (by omega)) hg (h.ne j (by omega))
 len := fun j hj => by
  by_cases e : j = n
  ·subst e; rw [snocF_k]; exact hl
  ·rw [snocF_o _ _ _ _ e]; exact h.len j (by omega)
 inj := fun a b ha hb e => by
  by_cases ea : a = n
  ·by_cases eb : b = n
   ·omega
   ·rw [ea, snocF_k, snocF_o _ _ _ _ eb] at e
    exact absurd e.symm (hnew b (by omega))
  ·by_cases eb : b = n
   ·rw [eb, snocF_k, snocF_o _ _ _ _ ea] at e
    exact absurd e (hnew a (by omega))
   ·rw [snocF_o _ _ _ _ ea, snocF_o _ _ _ _ eb] at e
    exact h.inj a b (by omega) (by omega) e
 lo := fun j hj => by
  by_cases e : j = n
  ·subst e; rw [snocF_k]; exact hlo
  ·rw [snocF_o _ _ _ _ e]; exact h.lo j (by omega)
theorem Bld.mat (h : Bld w base v n m g L) (hn : 0 < n) : ∃ go co, v = .slice (some ⟨go, 0, none⟩) n co ∧ n ≤ co ∧ Mat w base go n m g L := by
 rcases h.own.2 with ⟨_, e⟩ | ⟨go, co, cur, rfl, hb, hh, hnc, _, _, ht⟩
 ·omega
 ·refine ⟨go, co, rfl, hnc, ⟨⟨cur, hh, fun j hj => ?_⟩, h.row, h.len, h.inj, hb, h.lo⟩⟩
  have e := congrArg (fun l => l[j]?) ht
  simp only [Nat.mul_one, List.getElem?_take, if_pos hj, List.getElem?_map, List.getElem?_range hj, Option.map_some] at e
  simpa [hdr] using e
theorem Bld.slice (h : Bld w base v n m g L) : ∃ A c, v = .slice A n c := own_slice h.own
theorem Bld.outer (h : Bld w base v n m g L) (k : Nat) (hk : k < n) : ∃ go co, v = .slice (some ⟨go, 0, none⟩) n co ∧ w.cell? ⟨go, k, none⟩ = some (.slice (some ⟨g k, 0, none⟩) m m) := by
 obtain ⟨go, co, e, _, hm⟩ := h.mat (by omega)
 exact ⟨go, co, e, hm.outer k hk⟩
theorem Bld.inner (h : Bld w base v n m g L) (k j : Nat) (hk : k < n) (hj : j < m) : w.cell? ⟨g k, j, none⟩ = some (.int .i64 (ent L k j)) :=
 (blk_cell (h.row k hk) j).trans (nums_at (by rw [h.len k hk]; exact hj))
theorem Bld.innerF (h : Bld w base v n m g L) (k j : Nat) (hk : k < n) : w.frozen? ⟨g k, j, none⟩ = false := blk_frozen (h.row k hk) j
def rowsOf (n : Nat) (L : Nat → List Int) : List (List Int) := (List.range n).map L
theorem rowsOf_length (n : Nat) (L : Nat → List Int) : (rowsOf n L).length = n := by simp [rowsOf]
theorem rowsOf_at (n : Nat) (L : Nat → List Int) (k : Nat) (hk : k < n) : rd_L1 (rowsOf n L) k = L k := by
 rw [rd_L1_at (by rw [rowsOf_length]; exact hk)]; simp [rowsOf]
theorem Bld.toS (h : Bld w base v n m g L) (hm : m ≤ 9223372036854775807) : Kd.S (Kd.slice 2 (Kd.int .i64)) 38 w base (fun _ => True) v (rowsOf n L) := by
 refine ⟨fun b => ((List.range n).find? (fun j => g j == b)).getD 0, fun _ _ => trivial, (List.range n).map fun j => hdr (g j) m, ?_, ?_⟩
 ·rw [List.length_zipIdx, rowsOf_length]; exact h.own
 ·refine ⟨?_, fun j p hp => ?_⟩
  ·rw [List.length_zipIdx, rowsOf_length]; simp [Kd.tag, Kd.slice]
  ·obtain ⟨hj, hp⟩ := List.getElem?_eq_some_iff.1 hp
   have hjn : j < n := by rw [List.length_zipIdx, rowsOf_length] at hj; exact hj
   have hp' : p = (L j, j) := by
    rw [← hp, List.getElem_zipIdx]
    simp [rowsOf]
   subst hp'
   have hsz : (Kd.tag (fun b => ((List.range n).find? (fun j => g j == b)).getD 0) (Kd.slice 2 (Kd.int .i64))).sz = 1 := rfl
   rw [hsz, Nat.mul_one]
   have hd : (((List.range n).map fun j => hdr (g j) m).drop j).take 1 = [hdr (g j) m] := by
    rw [List.drop_eq_getElem_cons (by simpa using hjn)]
    simp
   rw [hd]
   refine ⟨hdr (g j) m, rfl, ?_⟩
   have hown : w.ownsRow base 2 1 (hdr (g j) m) (L j).length (encs (Value.int .i64) (L j)) := by
    rw [h.len j hjn]
    refine ⟨by simp [encs, h.len j hjn], .inr ⟨g j, m, (nums .i64 (L j)).toArray, rfl, h.lo j hjn, h.row j hjn, Nat.le_refl _, by simpa [maxLen] using hm, by simp [nums, h.len j hjn], ?_⟩⟩
    rw [List.take_of_length_le (by simp [nums, h.len j hjn])]
    rfl
   refine Kd.R_of_own hown (fun k hk => ?_)
   have hk' : g j = k := by simpa [hdr, Value.ownBlock] using hk
   subst hk'
   refine ⟨⟨trivial, h.ne j hjn⟩, ?_⟩
   have hf : (List.range n).find? (fun i => g i == g j) = some j := by
    rw [List.find?_eq_some_iff_getElem]
    refine ⟨by simp, j, by simpa using hjn, by simp, fun i hi => ?_⟩
    simp only [List.getElem_range, Bool.not_eq_true', beq_eq_false_iff_ne]
    exact fun e => by have := h.inj i j (by omega) hjn e; omega
   show ((List.range n).find? (fun i => g i == g j)).getD 0 = j
   rw [hf]; rfl
theorem Bld.toC (h : Bld w base v n m g L) (hm : m ≤ 9223372036854775807) : ∃ A c, v = .slice A n c ∧ n ≤ c ∧ Kd.C (Kd.slice 2 (Kd.int .i64)) w A n (rowsOf n L) := by
 obtain ⟨A, c, e, hl, hc⟩ := Kd.R_reads (Kd.S_R (h.toS hm))
 rw [rowsOf_length] at e hl hc
 exact ⟨A, c, e, hl, hc⟩
end
end Go.Proofs.YtcefaofknaeaeaaGreatDoor.X
