/- A matrix in memory: rows of the call's own behind an outer row; what stores do to it. And the contracts of (modulus).of and (modulus).inverse. -/
import Derived.Test.YtcefaofknaeaeaaGreatDoorComHApply
import Derived.Test.YtcefaofknaeaeaaGreatDoorComAlg
set_option linter.unusedVariables false
set_option linter.unusedSimpArgs false
namespace Go.Proofs.YtcefaofknaeaeaaGreatDoor.X
open Go.RowKit Go.Proofs.YtcefaofknaeaeaaGreatDoorW.PrintWords Go.Proofs.YtcefaofknaeaeaaGreatDoorW.PrintLast Go.Proofs.YtcefaofknaeaeaaGreatDoorW.PrintMore
structure Fr (w w' : World) (S : Nat → Prop) : Prop where
 os : w'.os = w.os
 tape : w'.tape = w.tape
 output : w'.output = w.output
 size : w.heap.size ≤ w'.heap.size
 block : ∀ k, k < w.heap.size → ¬ S k → w'.heap[k]? = w.heap[k]?
theorem Fr.refl (w : World) (S : Nat → Prop) : Fr w w S := ⟨rfl, rfl, rfl, Nat.le_refl _, fun _ _ _ => rfl⟩
theorem Fr.drew {w w' : World} {S : Nat → Prop} (h : Fr w w' S) : Fr w w'.drew S := ⟨h.os, h.tape, h.output, h.size, h.block⟩
theorem Fr.drewN {w w' : World} {S : Nat → Prop} (h : Fr w w' S) (n : Nat) : Fr w (w'.drewN n) S := ⟨h.os, h.tape, h.output, h.size, h.block⟩
theorem Fr.store {w w' : World} {S : Nat → Prop} (h : Fr w w' S) {p : Addr} (hp : S p.block) (u : Value) : Fr w (w'.setCell p u) S :=
 ⟨h.os, h.tape, h.output, by simpa [World.setCell] using h.size, fun k hk hn => (Below.heap_setCell w' p u k (fun e => hn (e ▸ hp))).trans (h.block k hk hn)⟩
theorem Fr.below {w w' : World} {S : Nat → Prop} {B : Nat} (h : Fr w w' S) (hB : B ≤ w.heap.size) (hS : ∀ k, S k → B ≤ k) : Below B w w' :=
 ⟨h.os, h.tape, h.output, h.size, fun k hk => h.block k (by omega) (fun hs => by have := hS k hs; omega)⟩
theorem Fr.mono {w w' : World} {S S' : Nat → Prop} (h : Fr w w' S) (hs : ∀ k, S k → S' k) : Fr w w' S' := ⟨h.os, h.tape, h.output, h.size, fun k hk hn => h.block k hk (fun hk' => hn (hs k hk'))⟩
def ent (L : Nat → List Int) (k j : Nat) : Int := (L k).getD j 0
structure Mat (w : World) (base go n m : Nat) (g : Nat → Nat) (L : Nat → List Int) : Prop where
 out : ∃ cur, w.heap[go]? = some (.cells cur 38 (0, 0)) ∧ ∀ j, j < n → cur[j]? = some (.slice (some ⟨g j, 0, none⟩) m m)
 row : ∀ j, j < n → w.heap[g j]? = some (.cells (nums .i64 (L j)).toArray 2 (0, 0))
 len : ∀ j, j < n → (L j).length = m
 inj : ∀ i j, i < n → j < n → g i = g j → i = j
 lo : base ≤ go ∧ ∀ j, j < n → base ≤ g j
section
variable {w : World} {base go n m : Nat} {g : Nat → Nat} {L : Nat → List Int}
theorem Mat.outer (h : Mat w base go n m g L) (k : Nat) (hk : k < n) : w.cell? ⟨go, k, none⟩ = some (.slice (some ⟨g k, 0, none⟩) m m) := by
 obtain ⟨cur, h1, h2⟩ := h.out
 exact (blk_cell h1 k).trans (h2 k hk)
theorem Mat.outerF (h : Mat w base go n m g L) (k : Nat) : w.frozen? ⟨go, k, none⟩ = false := by
 obtain ⟨cur, h1, _⟩ := h.out
 exact blk_frozen h1 k
theorem nums_at {L : List Int} {j : Nat} (h : j < L.length) : (nums .i64 L).toArray[j]? = some (.int .i64 (L.getD j 0)) := by
 simp [nums, h, List.getD_eq_getElem?_getD]
theorem Mat.inner (h : Mat w base go n m g L) (k j : Nat) (hk : k < n) (hj : j < m) : w.cell? ⟨g k, j, none⟩ = some (.int .i64 (ent L k j)) :=
 (blk_cell (h.row k hk) j).trans (nums_at (by rw [h.len k hk]; exact hj))
theorem Mat.innerF (h : Mat w base go n m g L) (k j : Nat) (hk : k < n) : w.frozen? ⟨g k, j, none⟩ = false := blk_frozen (h.row k hk) j
theorem Mat.ne (h : Mat w base go n m g L) (k : Nat) (hk : k < n) : g k ≠ go := by
 intro e
 obtain ⟨cur, h1, _⟩ := h.out
 have h2 := h.row k hk
 rw [e, h1] at h2
 injection h2 with h2
 injection h2 with _ h2
 exact absurd h2 (by decide)
theorem Mat.drew (h : Mat w base go n m g L) : Mat w.drew base go n m g L := ⟨h.out, h.row, h.len, h.inj, h.lo⟩
theorem Mat.drewN (h : Mat w base go n m g L) (q : Nat) : Mat (w.drewN q) base go n m g L := ⟨h.out, h.row, h.len, h.inj, h.lo⟩
theorem Mat.congr (h : Mat w base go n m g L) {L' : Nat → List Int} (e : ∀ j, j < n → L' j = L j) : Mat w base go n m g L' :=
 ⟨h.out, fun j hj => by rw [e j hj]; exact h.row j hj, fun j hj => by rw [e j hj]; exact h.len j hj, h.inj, h.lo⟩
theorem Mat.keep (h : Mat w base go n m g L) {w' : World} (hg : ∀ k, (k = go ∨ ∃ j, j < n ∧ k = g j) → w'.heap[k]? = w.heap[k]?) : Mat w' base go n m g L where
 out := by
  obtain ⟨cur, h1, h2⟩ := h.out
  exact ⟨cur, (hg go (.inl rfl)).trans h1, h2⟩
 row := fun j hj => (hg _ (.inr ⟨j, hj, rfl⟩)).trans (h.row j hj)
 len := h.len
 inj := h.inj
 lo := h.lo
theorem Mat.lt (h : Mat w base go n m g L) : go < w.heap.size ∧ ∀ j, j < n → g j < w.heap.size := by
 obtain ⟨cur, h1, _⟩ := h.out
 exact ⟨blk_lt h1, fun j hj => blk_lt (h.row j hj)⟩
theorem Mat.below (h : Mat w base go n m g L) {w' : World} (hb : Below w.heap.size w w') : Mat w' base go n m g L := h.keep fun k hk => by
 rcases hk with rfl | ⟨j, hj, rfl⟩
 ·exact hb.block _ h.lt.1
 ·exact hb.block _ (h.lt.2 j hj)
def setE (L : Nat → List Int) (k j : Nat) (x : Int) : Nat → List Int := fun t => if t = k then (L k).set j x else L t
theorem setE_same (L : Nat → List Int) (k j : Nat) (x : Int) : setE L k j x k = (L k).set j x := if_pos rfl
theorem setE_other (L : Nat → List Int) (k j t : Nat) (x : Int) (h : t ≠ k) : setE L k j x t = L t := if_neg h
theorem ent_setE (L : Nat → List Int) (k j t : Nat) (x : Int) (h : j < (L k).length) : ent (setE L k j x) k t = if t = j then x else ent L k t := by
 unfold ent
 rw [setE_same, List.getD_eq_getElem?_getD, List.getElem?_set]
 by_cases e : t = j
 ·subst e; rw [if_pos rfl, if_pos rfl, if_pos h]; rfl
 ·rw [if_neg (fun h => e h.symm), if_neg e, List.getD_eq_getElem?_getD]
theorem Mat.put (h : Mat w base go n m g L) (k j : Nat) (hk : k < n) (x : Int) : Mat (w.setCell ⟨g k, j, none⟩ (.int .i64 x)) base go n m g (setE L k j x) where
 out := by
  obtain ⟨cur, h1, h2⟩ := h.out
  exact ⟨cur, blk_far h1 (fun e => h.ne k hk e.symm) _, h2⟩
 row := fun t ht => by
  by_cases e : t = k
  ·subst e
   rw [setE_same]
   refine blk_put (h.row t ht) j _ ?_
   simp [nums, List.map_set]
  ·rw [setE_other L k j t x e]
   exact blk_far (h.row t ht) (fun e' => e (h.inj t k ht hk e')) _
 len := fun t ht => by
  by_cases e : t = k
  ·subst e; rw [setE_same, List.length_set]; exact h.len t ht
  ·rw [setE_other L k j t x e]; exact h.len t ht
 inj := h.inj
 lo := h.lo
def swp {α : Type} (f : Nat → α) (i k : Nat) : Nat → α := fun t => if t = i then f k else if t = k then f i else f t
theorem swp_i {α : Type} (f : Nat → α) (i k : Nat) : swp f i k i = f k := if_pos rfl
theorem swp_k {α : Type} (f : Nat → α) (i k : Nat) : swp f i k k = f i := by
 unfold swp
 by_cases e : k = i
 ·rw [if_pos e, e]
 ·rw [if_neg e, if_pos rfl]
theorem swp_o {α : Type} (f : Nat → α) (i k t : Nat) (h1 : t ≠ i) (h2 : t ≠ k) : swp f i k t = f t := by unfold swp; rw [if_neg h1, if_neg h2]
theorem Mat.swap (h : Mat w base go n m g L) (i k : Nat) (hi : i < n) (hk : k < n) :
  Mat ((w.setCell ⟨go, i, none⟩ (.slice (some ⟨g k, 0, none⟩) m m)).setCell ⟨go, k, none⟩ (.slice (some ⟨g i, 0, none⟩) m m)) base go n m (swp g i k) (swp L i k) := by
 have hsz : ∀ t, t < n → swp g i k t < w.heap.size ∧ swp g i k t ≠ go ∧ ∃ u, u < n ∧ swp g i k t = g u ∧ swp L i k t = L u := fun t ht => by
  by_cases e1 : t = i
  ·subst e1; rw [swp_i, swp_i]; exact ⟨h.lt.2 k hk, h.ne k hk, k, hk, rfl, rfl⟩
  ·by_cases e2 : t = k
   ·subst e2; rw [swp_k, swp_k]; exact ⟨h.lt.2 i hi, h.ne i hi, i, hi, rfl, rfl⟩
   ·rw [swp_o g i k t e1 e2, swp_o L i k t e1 e2]; exact ⟨h.lt.2 t ht, h.ne t ht, t, ht, rfl, rfl⟩
 refine ⟨?_, fun t ht => ?_, fun t ht => ?_, fun a b ha hb e => ?_, h.lo.1, fun t ht => ?_⟩
 ·obtain ⟨cur, h1, h2⟩ := h.out
  refine ⟨_, blk_set (blk_set h1 i _) k _, fun j hj => ?_⟩
  have hc : j < cur.size := (Array.getElem?_eq_some_iff.1 (h2 j hj)).1
  by_cases e2 : j = k
  ·subst e2; rw [swp_k]; simp [Array.getElem?_setIfInBounds, hc]
  ·by_cases e1 : j = i
   ·subst e1; rw [swp_i]; simp [Array.getElem?_setIfInBounds, hc, Ne.symm e2]
   ·rw [swp_o g i k j e1 e2, ← h2 j hj]; simp [Array.getElem?_setIfInBounds, Ne.symm e1, Ne.symm e2]
 ·obtain ⟨hl, hne, u, hu, e1, e2⟩ := hsz t ht
  rw [e1] at hne
  rw [e1, e2]
  exact blk_far (blk_far (h.row u hu) hne _) hne _
 ·obtain ⟨_, _, u, hu, _, e2⟩ := hsz t ht
  rw [e2]; exact h.len u hu
 ·by_cases a1 : a = i
  ·by_cases b1 : b = i
   ·omega
   ·by_cases b2 : b = k
    ·rw [a1, b2, swp_i, swp_k] at e
     have := h.inj k i hk hi e; omega
    ·rw [a1, swp_i, swp_o g i k b b1 b2] at e
     have := h.inj k b hk hb e; omega
  ·by_cases a2 : a = k
   ·by_cases b1 : b = i
    ·rw [a2, b1, swp_i, swp_k] at e
     have := h.inj i k hi hk e; omega
    ·by_cases b2 : b = k
     ·omega
     ·rw [a2, swp_k, swp_o g i k b b1 b2] at e
      have := h.inj i b hi hb e; omega
   ·by_cases b1 : b = i
    ·rw [b1, swp_i, swp_o g i k a a1 a2] at e
     have := h.inj a k ha hk e; omega
    ·by_cases b2 : b = k
     ·rw [b2, swp_k, swp_o g i k a a1 a2] at e
      have := h.inj a i ha hi e; omega
     ·rw [swp_o g i k b b1 b2, swp_o g i k a a1 a2] at e
      exact h.inj a b ha hb e
 ·obtain ⟨_, _, u, hu, e1, _⟩ := hsz t ht
  rw [e1]; exact h.lo.2 u hu
end
theorem of_any (n : Int) (w : World) (hn : -9223372036854775808 ≤ n ∧ n ≤ 9223372036854775807) : Calls Tryz.prog 28 #[.int .i64 2147483647, .int .i64 n] w fun e w' => e = .returned (.int .i64 (n % 2147483647)) ∧ w' = w := by
 have e0 : (0 ≤ n ∨ n % 2147483647 = 0) ∧ Int.tmod n 2147483647 = n % 2147483647 ∨ (¬ 0 ≤ n ∧ n % 2147483647 ≠ 0) ∧ Int.tmod n 2147483647 = n % 2147483647 - 2147483647 := by
  have e := @Int.tmod_eq_emod n 2147483647
  by_cases h : 0 ≤ n ∨ (2147483647 : Int) ∣ n
  ·rw [if_pos h] at e
   rw [e]
   omega
  ·rw [if_neg h] at e
   rw [e]
   have : ((2147483647 : Int).natAbs : Int) = 2147483647 := rfl
   omega
 by_cases h : n < 0 ∧ n % 2147483647 ≠ 0
 ·have h1 : Int.tmod n 2147483647 < 0 := by omega
  have h2 : Int.tmod n 2147483647 + 2147483647 = n % 2147483647 := by omega
  have h3 : -2147483647 ≤ Int.tmod n 2147483647 := by omega
  have H2 := Aside0.mk h2
  clear e0 h2 h
  go_enter Tryz.func28, Tryz.ntmps28
  go_wp2
  go_ret
  exact ⟨by rw [← H2.out]; rfl, rfl⟩
 ·have h1 : ¬ Int.tmod n 2147483647 < 0 := by omega
  have h2 : Int.tmod n 2147483647 = n % 2147483647 := by omega
  have H2 := Aside0.mk h2
  clear e0 h2 h
  go_enter Tryz.func28, Tryz.ntmps28
  go_wp2
  go_ret
  exact ⟨by rw [← H2.out]; rfl, rfl⟩
end Go.Proofs.YtcefaofknaeaeaaGreatDoor.X
