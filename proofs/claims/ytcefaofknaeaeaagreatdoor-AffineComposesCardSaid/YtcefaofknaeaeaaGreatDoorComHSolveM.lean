/- What the loops of (modulus).solve keep, and what its steps do to it; no walk. -/
import Derived.Test.YtcefaofknaeaeaaGreatDoorComHInverse
set_option linter.unusedVariables false
set_option linter.unusedSimpArgs false
namespace Go.Proofs.YtcefaofknaeaeaaGreatDoor.X
open Go.RowKit Go.Proofs.YtcefaofknaeaeaaGreatDoorW.PrintWords Go.Proofs.YtcefaofknaeaeaaGreatDoorW.PrintLast Go.Proofs.YtcefaofknaeaeaaGreatDoorW.PrintMore AffMath
def NoInv (n : Nat) (M : Nat → Nat → Int) : Prop := ∀ C : Nat → Nat → Int, ¬ ∀ a, a < n → ∀ j, j < n → Cg 2147483647 (sumN n fun t => C a t * M t j) (dl a j)
def Blocks (go n : Nat) (g : Nat → Nat) (k : Nat) : Prop := k = go ∨ ∃ j, j < n ∧ k = g j
def InR (n : Nat) (L : Nat → List Int) : Prop := ∀ k, k < n → ∀ j, j < n + n → 0 ≤ ent L k j ∧ ent L k j < 2147483647
structure SInv (base go n : Nat) (g : Nat → Nat) (M : Nat → Nat → Int) (w : World) (i : Nat) (g1 : Nat → Nat) (L1 : Nat → List Int) (wr : World) : Prop where
 mat : Mat wr base go n (n + n) g1 L1
 inr : InR n L1
 kept : Kept 2147483647 n M (ent L1)
 cols : ∀ k, k < n → ∀ j, j < i → ent L1 k j = dl k j
 sub : ∀ j, j < n → ∃ u, u < n ∧ g1 j = g u
 fr : Fr w wr (Blocks go n g)
def SolvePost (base go n : Nat) (g : Nat → Nat) (M : Nat → Nat → Int) (w : World) (e : Ending) (w' : World) : Prop :=
 (e = .returned (.bool false) ∧ NoInv n M ∧ Fr w w' (Blocks go n g)) ∨ (e = .returned (.bool true) ∧ ∃ g1 L1, SInv base go n g M w n g1 L1 w')
section
variable {base go n : Nat} {g : Nat → Nat} {M : Nat → Nat → Int} {w : World} {i : Nat} {g1 : Nat → Nat} {L1 : Nat → List Int} {wr : World}
theorem SInv.start {L : Nat → List Int} (h : Mat w base go n (n + n) g L) (hi : InR n L) (hk : Kept 2147483647 n M (ent L)) : SInv base go n g M w 0 g L w :=
 ⟨h, hi, hk, fun _ _ j hj => absurd hj (Nat.not_lt_zero _), fun j hj => ⟨j, hj, rfl⟩, Fr.refl _ _⟩
theorem SInv.drew (h : SInv base go n g M w i g1 L1 wr) : SInv base go n g M w i g1 L1 wr.drew := ⟨h.mat.drew, h.inr, h.kept, h.cols, h.sub, h.fr.drew⟩
theorem SInv.inB (h : SInv base go n g M w i g1 L1 wr) (j : Nat) (hj : j < n) : Blocks go n g (g1 j) := by
 obtain ⟨u, hu, e⟩ := h.sub j hj
 exact .inr ⟨u, hu, e⟩
theorem not_cg_one : ¬ Cg 2147483647 1 0 := by
 rintro ⟨k, hk⟩
 omega
theorem SInv.stuck (h : SInv base go n g M w i g1 L1 wr) (hi : i < n) (h0 : ∀ t, i ≤ t → t < n → ent L1 t i = 0) : NoInv n M :=
 fun C => h.kept.stuck i hi h.cols h0 not_cg_one C
theorem ent_swp (L : Nat → List Int) (i k t j : Nat) : ent (swp L i k) t j = if t = i then ent L k j else if t = k then ent L i j else ent L t j := by
 unfold ent swp
 by_cases e1 : t = i
 ·rw [if_pos e1, if_pos e1]
 ·rw [if_neg e1, if_neg e1]
  by_cases e2 : t = k
  ·rw [if_pos e2, if_pos e2]
  ·rw [if_neg e2, if_neg e2]
theorem SInv.swap (h : SInv base go n g M w i g1 L1 wr) (k : Nat) (hi : i < n) (hik : i ≤ k) (hk : k < n) :
  SInv base go n g M w i (swp g1 i k) (swp L1 i k) ((wr.setCell ⟨go, i, none⟩ (.slice (some ⟨g1 k, 0, none⟩) (n + n) (n + n))).setCell ⟨go, k, none⟩ (.slice (some ⟨g1 i, 0, none⟩) (n + n) (n + n))) where
 mat := h.mat.swap i k hi hk
 inr := fun t ht j hj => by
  rw [ent_swp]
  by_cases e1 : t = i
  ·rw [if_pos e1]; exact h.inr k hk j hj
  ·rw [if_neg e1]
   by_cases e2 : t = k
   ·rw [if_pos e2]; exact h.inr i hi j hj
   ·rw [if_neg e2]; exact h.inr t ht j hj
 kept := h.kept.swap i k hi hk (fun j _ => by rw [ent_swp, if_pos rfl]) (fun j _ => by
  rw [ent_swp]
  by_cases e : k = i
  ·rw [if_pos e, e]
  ·rw [if_neg e, if_pos rfl]) (fun t _ e1 e2 j _ => by rw [ent_swp, if_neg e1, if_neg e2])
 cols := fun t ht j hj => by
  rw [ent_swp]
  by_cases e1 : t = i
  ·rw [if_pos e1, h.cols k hk j hj]; unfold dl; rw [if_neg (by omega), if_neg (by omega)]
  ·rw [if_neg e1]
   by_cases e2 : t = k
   ·rw [if_pos e2, h.cols i hi j hj]; unfold dl; rw [if_neg (by omega), if_neg (by omega)]
   ·rw [if_neg e2]; exact h.cols t ht j hj
 sub := fun j hj => by
  by_cases e1 : j = i
  ·rw [e1, swp_i]; exact h.sub k hk
  ·by_cases e2 : j = k
   ·rw [e2, swp_k]; exact h.sub i hi
   ·rw [swp_o g1 i k j e1 e2]; exact h.sub j hj
 fr := (h.fr.store (.inl rfl) _).store (.inl rfl) _
theorem SInv.scale (h : SInv base go n g M w i g1 L1 wr) (hi : i < n) {L3 : Nat → List Int} {w3 : World} (r : Int) (hr : 0 ≤ r ∧ r < 2147483647) (hrx : Cg 2147483647 (r * ent L1 i i) 1)
  (hm : Mat w3 base go n (n + n) g1 L3) (ho : ∀ t, t ≠ i → L3 t = L1 t) (he : ∀ j, j < n + n → ent L3 i j = (ent L1 i j * r) % 2147483647) (hf : Fr w w3 (Blocks go n g)) :
  SInv base go n g M w i g1 L3 w3 ∧ ent L3 i i = 1 := by
 have hother : ∀ t, t ≠ i → ∀ j, ent L3 t j = ent L1 t j := fun t ht j => by unfold ent; rw [ho t ht]
 refine ⟨⟨hm, fun t ht j hj => ?_, ?_, fun t ht j hj => ?_, h.sub, hf⟩, ?_⟩
 ·by_cases e : t = i
  ·subst e; rw [he j hj]; omega
  ·rw [hother t e]; exact h.inr t ht j hj
 ·refine h.kept.scale i hi r (ent L1 i i) (by rw [Int.mul_comm]; exact hrx) (fun j hj => ?_) (fun t _ e j _ => hother t e j)
  rw [he j hj]; exact Cg.emod _
 ·by_cases e : t = i
  ·subst e
   rw [he j (by omega), h.cols t ht j hj]
   unfold dl; rw [if_neg (by omega)]; simp
  ·rw [hother t e]; exact h.cols t ht j hj
 ·rw [he i (by omega)]
  have h1 : Cg 2147483647 (ent L1 i i * r % 2147483647) 1 := (Cg.emod _).trans (by rw [Int.mul_comm]; exact hrx)
  exact h1.eq_of_near (by omega) (by omega)
theorem SInv.elim (h : SInv base go n g M w i g1 L1 wr) (hi : i < n) (h1 : ent L1 i i = 1) (k : Nat) (hk : k < n) (hik : k ≠ i) {L3 : Nat → List Int} {w3 : World}
  (hm : Mat w3 base go n (n + n) g1 L3) (ho : ∀ t, t ≠ k → L3 t = L1 t) (he : ∀ j, j < n + n → ent L3 k j = (ent L1 k j - ent L1 k i * ent L1 i j) % 2147483647) (hf : Fr w w3 (Blocks go n g)) :
  SInv base go n g M w i g1 L3 w3 ∧ ent L3 i i = 1 ∧ ent L3 k i = 0 := by
 have hother : ∀ t, t ≠ k → ∀ j, ent L3 t j = ent L1 t j := fun t ht j => by unfold ent; rw [ho t ht]
 refine ⟨⟨hm, fun t ht j hj => ?_, ?_, fun t ht j hj => ?_, h.sub, hf⟩, ?_, ?_⟩
 ·by_cases e : t = k
  ·subst e; rw [he j hj]; omega
  ·rw [hother t e]; exact h.inr t ht j hj
 ·refine h.kept.sub i k hi hk hik (ent L1 k i) (fun j hj => ?_) (fun t _ e j _ => hother t e j)
  rw [he j hj]; exact Cg.emod _
 ·by_cases e : t = k
  ·subst e
   rw [he j (by omega), h.cols t ht j hj, h.cols i hi j hj]
   unfold dl
   rw [if_neg (show ¬ i = j by omega)]
   split <;> simp
  ·rw [hother t e]; exact h.cols t ht j hj
 ·rw [hother i (fun e => hik e.symm)]; exact h1
 ·rw [he i (by omega), h1]; simp
theorem SInv.next (h : SInv base go n g M w i g1 L1 wr) (hc : ∀ t, t < n → ent L1 t i = dl t i) : SInv base go n g M w (i + 1) g1 L1 wr :=
 ⟨h.mat, h.inr, h.kept, fun k hk j hj => by
  by_cases e : j = i
  ·subst e; exact hc k hk
  ·exact h.cols k hk j (by omega), h.sub, h.fr⟩
end
end Go.Proofs.YtcefaofknaeaeaaGreatDoor.X
