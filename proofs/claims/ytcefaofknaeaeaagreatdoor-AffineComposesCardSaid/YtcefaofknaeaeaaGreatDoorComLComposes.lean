/- demotic/demoticlaw19.AffineComposes: the walk. -/
import Derived.Test.YtcefaofknaeaeaaGreatDoorComHAwake
import Derived.Test.YtcefaofknaeaeaaGreatDoorComPRefC
import Derived.BigRegion
set_option linter.unusedVariables false
set_option linter.unusedSimpArgs false
namespace Go.Proofs.YtcefaofknaeaeaaGreatDoor.X
open Go.RowKit Go.Proofs.YtcefaofknaeaeaaGreatDoorW.PrintWords Go.Proofs.YtcefaofknaeaeaaGreatDoorW.PrintLast Go.Proofs.YtcefaofknaeaeaaGreatDoorW.PrintMore AffMath
def composes8.T : Bool × List (List Nat × List Nat) := (true, [([], []), ([0], [0]), ([], []), ([2, 1], [2]), ([1, 3, 3], [1, 3]), ([4], [4]), ([5], [5]), ([5], [5]), ([], []), ([8, 6, 4, 0, 1, 2, 3, 4, 5, 6, 8], [6, 8]), ([7, 9, 0, 1, 2, 3, 4, 5, 6, 7, 8, 9], [7])])
def composes8.B : List Nat := [0, 1, 0, 7, 15, 31, 63, 63, 0, 383, 1023]
theorem composes8.tab : rtab .any (opsOf Tryz.f3 8) = composes8.T := by kernel_rfl
theorem composes8.bits : waitsOk composes8.T.2 composes8.B = true := by kernel_rfl
def Own3 (w : World) (v : Value) (L : List (List Int)) : Prop := ∃ B, Kd.S (Kd.slice 2 (Kd.int .i64)) 38 w B (fun _ => True) v L
theorem Own3.below {w w' : World} {v : Value} {L : List (List Int)} (h : Own3 w v L) (hb : Below w.heap.size w w') : Own3 w' v L := by
 obtain ⟨B, h⟩ := h
 exact ⟨B, Kd.S_below h hb⟩
theorem Own3.set {w : World} {v : Value} {L : List (List Int)} (h : Own3 w v L) {g : Nat} {cells : Array Value} (hb : w.heap[g]? = some (.cells cells 31 (0, 0))) (j : Nat) (u : Value) : Own3 (w.setCell ⟨g, j, none⟩ u) v L := by
 obtain ⟨B, h⟩ := h
 exact ⟨B, Kd.S_set h hb (by decide) j u⟩
theorem Own3.toC {w : World} {A : Option Addr} {n c : Nat} {L : List (List Int)} (h : Own3 w (.slice A n c) L) : Kd.C (Kd.slice 2 (Kd.int .i64)) w A L.length L := by
 obtain ⟨B, h⟩ := h
 obtain ⟨A', c', e, _, h2⟩ := Kd.R_reads (Kd.S_R h)
 injection e with e1 _ _
 subst e1
 exact h2
set_option maxHeartbeats 2000000 in
set_option maxRecDepth 100000 in
theorem their_any (d : Int) (A : Option Addr) (n c : Nat) (w : World) : Calls Tryz.prog 11 #[.agg #[.int .i64 d, .slice A n c]] w fun e w' => e = .returned (.agg #[.int .i64 d, .slice A n c]) ∧ Below w.heap.size w w' := by
 have hu24 := Tryz.underlying24
 have hu31 := Tryz.underlying31
 go_enter Tryz.func11, Tryz.ntmps11
 go_wp2
 have hk : ((w.alloc (.cells #[.int .i64 d, .slice A n c] 24)).alloc (.cells #[.int .i64 d, .slice A n c] 31)).heap[w.heap.size + 1]? = some (.cells #[.int .i64 d, .slice A n c] 31 (0, 0)) := by
  have := blk_new (w.alloc (.cells #[.int .i64 d, .slice A n c] 24)) (.cells #[.int .i64 d, .slice A n c] 31)
  simpa using this
 refine bodyPost_ret (results_cell_row rfl _ _ (w.heap.size + 1) 31 #[.int .i64 d, .slice A n c] (0, 0) _ rfl hk Tryz.underlying31 rfl (by kernel_rfl)) rfl ?_
 exact ⟨rfl, below_alloc (below_alloc (Below.refl _ _) _) _⟩
set_option maxHeartbeats 8000000 in
set_option maxRecDepth 100000 in
theorem composes_any (d1 : Int) (A1 : Option Addr) (c1 : Nat) (l1 : List (List Int)) (d2 : Int) (A2 : Option Addr) (c2 : Nat) (l2 : List (List Int)) (w : World) (hg : Glob w)
  (hr1 : Kd.C (Kd.slice 2 (Kd.int .i64)) w A1 l1.length l1) (hc1 : l1.length ≤ c1) (hr2 : Kd.C (Kd.slice 2 (Kd.int .i64)) w A2 l2.length l2) (hc2 : l2.length ≤ c2) :
  Calls Tryz.prog 3 #[.agg #[.int .i64 d1, .slice A1 l1.length c1], .agg #[.int .i64 d2, .slice A2 l2.length c2]] w fun e w' => e = .returned (.bool true) ∧ Below w.heap.size w w' := by
 have hm1 : l1.length ≤ 9223372036854775807 := hr1.2.1
 have hm2 : l2.length ≤ 9223372036854775807 := hr2.2.1
 have HG := Aside0.mk hg
 have HR1 := Aside0.mk hr1
 have HR2 := Aside0.mk hr2
 have HD1 := Aside0.mk hc1
 have HD2 := Aside0.mk hc2
 clear hg hr1 hr2 hc1 hc2
 obtain ⟨W2, hW2⟩ : ∃ W2 : World, W2 = (w.alloc (.cells #[.int .i64 d1, .slice A1 l1.length c1] 24)).alloc (.cells #[.int .i64 d2, .slice A2 l2.length c2] 24) := ⟨_, rfl⟩
 have HB0 : Aside0 (Below w.heap.size w W2) := ⟨by rw [hW2]; exact below_alloc (below_alloc (Below.refl w.heap.size w) _) _⟩
 have BB0 : Aside0 (W2.heap[w.heap.size]? = some (.cells #[.int .i64 d1, .slice A1 l1.length c1] 24 (0, 0))) := ⟨by rw [hW2]; exact blk_alloc (blk_new w _) _⟩
 have BB1 : Aside0 (W2.heap[w.heap.size + 1]? = some (.cells #[.int .i64 d2, .slice A2 l2.length c2] 24 (0, 0))) := ⟨by
  rw [hW2]
  have := blk_new (w.alloc (.cells #[.int .i64 d1, .slice A1 l1.length c1] 24)) (.cells #[.int .i64 d2, .slice A2 l2.length c2] 24)
  simpa using this⟩
 have HW2 := Aside0.mk hW2
 clear hW2
 have haw : ∀ W, Below w.heap.size w W → Calls Tryz.prog 8 #[] W fun e w' => e = .returned (.bool true) ∧ Below W.heap.size W w' := fun W hW => awake_any W (HG.out.below hW)
 have HAW := Aside0.mk haw
 clear haw
 obtain ⟨k1, b1, e1⟩ := short_eval d1 l1
 obtain ⟨k2, b2, e2⟩ := short_eval d2 l2
 have hs1 : ∀ W, Below w.heap.size w W → Calls Tryz.prog 7 #[.agg #[.int .i64 d1, .slice A1 l1.length c1]] W fun e w' => e = .returned (.bool b1) ∧ Below W.heap.size W w' := fun W hW => demoticlaw19_short.calls k1 d1 A1 c1 l1 b1 W (Kd.C_below HR1.out hW) HD1.out e1
 have hs2 : ∀ W, Below w.heap.size w W → Calls Tryz.prog 7 #[.agg #[.int .i64 d2, .slice A2 l2.length c2]] W fun e w' => e = .returned (.bool b2) ∧ Below W.heap.size W w' := fun W hW => demoticlaw19_short.calls k2 d2 A2 c2 l2 b2 W (Kd.C_below HR2.out hW) HD2.out e2
 have HS1 := Aside0.mk hs1
 have HS2 := Aside0.mk hs2
 clear hs1 hs2 e1 e2
 have hsplit : ∀ W, W = W2 → Below W2.heap.size W2 W := fun W h => h ▸ Below.refl _ _
 have HSP := Aside0.mk hsplit
 clear hsplit
 cases b1 with
 | false =>
  go_enter Tryz.func3, Tryz.ntmps3
  go_wp2_with (first
   | (go_at_call 7; refine (HS1.out _ (by rw [← HW2.out]; exact HB0.out)).mono ?_; rintro e w5 ⟨rfl, hb5⟩; have HB := Aside0.mk (below_then HB0.out HB0.out.size (by rw [HW2.out]; exact hb5)); clear hb5)
   | (go_at_call 8; refine (HAW.out _ HB.out).mono ?_; rintro e w6 ⟨rfl, hb6⟩; have HB6 := Aside0.mk (below_then HB.out HB.out.size hb6); clear hb6))
  go_ret
  exact ⟨rfl, HB6.out⟩
 | true =>
  cases b2 with
  | false =>
   go_enter Tryz.func3, Tryz.ntmps3
   go_wp2_with (first
    | (go_at_call 7; refine (HS1.out _ (by rw [← HW2.out]; exact HB0.out)).mono ?_; rintro e w5 ⟨rfl, hb5⟩; have HB := Aside0.mk (show Below W2.heap.size W2 w5 by rw [HW2.out]; exact hb5); have p1 := blk_cell (blk_below BB1.out HB.out) 0; have p2 := blk_cell (blk_below BB1.out HB.out) 1; clear hb5; refine Aside0.out ?_))
   refine Aside0.mk ?_
   go_wp2_with (first
    | (go_at_call 7; refine (HS2.out _ (below_then HB0.out HB0.out.size HB.out)).mono ?_; rintro e w6 ⟨rfl, hb6⟩; have HB6 := Aside0.mk (below_then HB.out HB.out.size hb6); clear hb6)
    | (go_at_call 8; refine (HAW.out _ (below_then HB0.out HB0.out.size HB6.out)).mono ?_; rintro e w7 ⟨rfl, hb7⟩; have HB7 := Aside0.mk (below_then HB0.out HB0.out.size (below_then HB6.out HB6.out.size hb7)); clear hb7))
   go_ret
   exact ⟨rfl, HB7.out⟩
  | true =>
   obtain ⟨kk, hkk⟩ := compose_eval d1 l1 d2 l2
   have hcc : ∀ W, Below w.heap.size w W → Calls Tryz.prog 9 #[.agg #[.int .i64 d1, .slice A1 l1.length c1], .agg #[.int .i64 d2, .slice A2 l2.length c2]] W fun e w' => ∃ A c, e = .returned (.tuple #[.agg #[.int .i64 (composeS d1 l1 d2 l2).1, .slice A (composeS d1 l1 d2 l2).2.1.length c], .int .i64 (composeS d1 l1 d2 l2).2.2]) ∧ (composeS d1 l1 d2 l2).2.1.length ≤ c ∧ Kd.C (Kd.slice 2 (Kd.int .i64)) w' A (composeS d1 l1 d2 l2).2.1.length (composeS d1 l1 d2 l2).2.1 ∧ Below W.heap.size W w' := fun W hW => by
    refine (affine_Compose.calls kk d1 A1 c1 l1 d2 A2 c2 l2 _ _ _ W (Kd.C_below HR1.out hW) HD1.out (Kd.C_below HR2.out hW) HD2.out hkk).mono ?_
    rintro e w' ⟨v, rfl, hS, hb⟩
    obtain ⟨A, c, rfl, h1, h2⟩ := Kd.R_reads (Kd.S_R hS)
    exact ⟨A, c, rfl, h1, h2, hb⟩
   have hcs : composeS d1 l1 d2 l2 = composeS d1 l1 d2 l2 := rfl
   generalize hR : composeS d1 l1 d2 l2 = R at hcc hcs
   obtain ⟨x1, x2, x3⟩ := R
   have HCC := Aside0.mk hcc
   have HCS := Aside0.mk hR
   clear hcc hcs hkk hR
   go_enter Tryz.func3, Tryz.ntmps3
   go_wp2_with (first
    | (go_at_call 7; refine (HS1.out _ (by rw [← HW2.out]; exact HB0.out)).mono ?_; rintro e w5 ⟨rfl, hb5⟩; have HB := Aside0.mk (show Below W2.heap.size W2 w5 by rw [HW2.out]; exact hb5); have p1 := blk_cell (blk_below BB1.out HB.out) 0; have p2 := blk_cell (blk_below BB1.out HB.out) 1; clear hb5; refine Aside0.out ?_))
   refine Aside0.mk ?_
   go_wp2_with (first
    | (go_at_call 7; refine (HS2.out _ (below_then HB0.out HB0.out.size HB.out)).mono ?_; rintro e w6 ⟨rfl, hb6⟩; have HB6 := Aside0.mk (below_then HB.out HB.out.size hb6); have o0 := blk_cell (blk_below BB0.out HB6.out) 0; have o1 := blk_cell (blk_below BB0.out HB6.out) 1; have o2 := blk_cell (blk_below BB1.out HB6.out) 0; have o3 := blk_cell (blk_below BB1.out HB6.out) 1; clear hb6 p1 p2)
    | (go_at_call 9; refine (HCC.out _ (below_then HB0.out HB0.out.size HB6.out)).mono ?_; rintro e w7 ⟨Ac, cc, rfl, hlc, hCc, hb7⟩; have HB7 := Aside0.mk (below_then HB6.out HB6.out.size hb7); have HLC := Aside0.mk hlc; have HCX := Aside0.mk hCc; clear hb7 hlc hCc o0 o1 o2 o3; refine Aside0.out ?_))
   refine Aside0.mk ?_
   obtain ⟨W8, hW8⟩ : ∃ W : World, W = w7.alloc (.cells #[.int .i64 x1, .slice Ac x2.length cc] 24) := ⟨_, rfl⟩
   have HB28 : Aside0 (Below W2.heap.size W2 W8) := ⟨by rw [hW8]; exact below_alloc HB7.out _⟩
   have HB8 : Aside0 (Below w.heap.size w W8) := ⟨below_then HB0.out HB0.out.size HB28.out⟩
   have BX0 := Aside0.mk (blk_below BB0.out HB28.out)
   have BX1 := Aside0.mk (blk_below BB1.out HB28.out)
   have BQ : Aside0 (W8.heap[w7.heap.size]? = some (.cells #[.int .i64 x1, .slice Ac x2.length cc] 24 (0, 0))) := ⟨by rw [hW8]; exact blk_new w7 _⟩
   have HCX8 : Aside0 (Kd.C (Kd.slice 2 (Kd.int .i64)) W8 Ac x2.length x2) := ⟨by rw [hW8]; exact Kd.C_below HCX.out (below_alloc (Below.refl _ _) _)⟩
   have q0 := blk_cell BX0.out 0
   have q1 := blk_cell BX0.out 1
   rw [hW8] at q0 q1
   have HW8 := Aside0.mk hW8
   clear hW8
   have hrt1 : ∀ b, rightB d1 l1 = b → ∀ W, Below w.heap.size w W → Calls Tryz.prog 10 #[.agg #[.int .i64 d1, .slice A1 l1.length c1]] W fun e w' => e = .returned (.bool b) ∧ Below W.heap.size W w' := fun b hb W hW => by
    obtain ⟨k, hk⟩ := right_eval d1 l1
    exact demoticref19_Right.calls k d1 A1 c1 l1 b W (Kd.C_below HR1.out hW) HD1.out (by rw [hk, hb])
   have hrt2 : ∀ b, rightB d2 l2 = b → ∀ W, Below w.heap.size w W → Calls Tryz.prog 10 #[.agg #[.int .i64 d2, .slice A2 l2.length c2]] W fun e w' => e = .returned (.bool b) ∧ Below W.heap.size W w' := fun b hb W hW => by
    obtain ⟨k, hk⟩ := right_eval d2 l2
    exact demoticref19_Right.calls k d2 A2 c2 l2 b W (Kd.C_below HR2.out hW) HD2.out (by rw [hk, hb])
   have hisb : ∀ E : Int, E ≠ 0 → (x1, x2, x3) = ((0 : Int), ([] : List (List Int)), E) → ∀ W, Below W8.heap.size W8 W → Calls Tryz.prog 12 #[.agg #[.int .i64 x1, .slice Ac x2.length cc], .int .i64 x3, .agg #[.int .i64 0, .slice none 0 0], .int .i64 E] W fun e w' => e = .returned (.bool true) ∧ Below W.heap.size W w' := fun E hE hx W hW => by
    simp only [Prod.mk.injEq] at hx
    obtain ⟨rfl, rfl, rfl⟩ := hx
    exact demoticlaw19_is.calls 0 0 Ac cc [] x3 0 none 0 [] x3 true W (Kd.C_below HCX8.out hW) HLC.out (Kd.C_nil _ _) (Nat.le_refl _) (is_bad 0 [] x3 hE)
   cases h1 : rightB d1 l1 with
   | false =>
    have HR := Aside0.mk (hrt1 false h1)
    have HIS := Aside0.mk (hisb 190 (by decide) (by rw [← HCS.out]; unfold composeS; rw [if_neg (by rw [h1]; simp)]))
    clear hrt1 hrt2 hisb h1
    go_wp2_with (first
     | (go_at_call 11; refine (their_any _ _ _ _ _).mono ?_; rintro e w9 ⟨rfl, hb9⟩; have HB9 := Aside0.mk (show Below W8.heap.size W8 w9 by rw [HW8.out]; exact hb9); clear hb9 q0 q1)
     | (go_at_call 10; refine (HR.out _ (below_then HB8.out HB8.out.size HB9.out)).mono ?_; rintro e w10 ⟨rfl, hb10⟩; have HB10 := Aside0.mk (below_then HB9.out HB9.out.size hb10); have p4 := blk_cell (blk_below BQ.out HB10.out) 0; have p5 := blk_cell (blk_below BQ.out HB10.out) 1; clear hb10)
     | (go_at_call 12; refine (HIS.out _ HB10.out).mono ?_; rintro e w11 ⟨rfl, hb11⟩; have HB11 := Aside0.mk (below_then HB8.out HB8.out.size (below_then HB10.out HB10.out.size hb11)); clear hb11)
     | (go_at_call 8; refine (HAW.out _ HB11.out).mono ?_; rintro e w12 ⟨rfl, hb12⟩; have HB12 := Aside0.mk (below_then HB11.out HB11.out.size hb12); clear hb12))
    go_ret
    exact ⟨rfl, HB12.out⟩
   | true =>
    have HR := Aside0.mk (hrt1 true h1)
    have H1 := Aside0.mk h1
    clear hrt1 h1
    go_wp2_with (first
     | (go_at_call 11; refine (their_any _ _ _ _ _).mono ?_; rintro e w9 ⟨rfl, hb9⟩; have HB9 := Aside0.mk (show Below W8.heap.size W8 w9 by rw [HW8.out]; exact hb9); clear hb9 q0 q1)
     | (go_at_call 10; refine (HR.out _ (below_then HB8.out HB8.out.size HB9.out)).mono ?_; rintro e w10 ⟨rfl, hb10⟩; have HB10 := Aside0.mk (below_then HB9.out HB9.out.size hb10); have p2 := blk_cell (blk_below BX1.out HB10.out) 0; have p3 := blk_cell (blk_below BX1.out HB10.out) 1; clear hb10; refine Aside0.out ?_))
    refine Aside0.mk ?_
    cases h2 : rightB d2 l2 with
    | false =>
     have HR2' := Aside0.mk (hrt2 false h2)
     have HIS := Aside0.mk (hisb 190 (by decide) (by rw [← HCS.out]; unfold composeS; rw [if_neg (by rw [h2]; simp)]))
     clear hrt2 hisb h2
     go_wp2_with (first
      | (go_at_call 11; refine (their_any _ _ _ _ _).mono ?_; rintro e w11 ⟨rfl, hb11⟩; have HB11 := Aside0.mk (below_then HB10.out HB10.out.size hb11); clear hb11 p2 p3)
      | (go_at_call 10; refine (HR2'.out _ (below_then HB8.out HB8.out.size HB11.out)).mono ?_; rintro e w12 ⟨rfl, hb12⟩; have HB12 := Aside0.mk (below_then HB11.out HB11.out.size hb12); have p4 := blk_cell (blk_below BQ.out HB12.out) 0; have p5 := blk_cell (blk_below BQ.out HB12.out) 1; clear hb12)
      | (go_at_call 12; refine (HIS.out _ HB12.out).mono ?_; rintro e w21 ⟨rfl, hb21⟩; have HB21 := Aside0.mk (below_then HB8.out HB8.out.size (below_then HB12.out HB12.out.size hb21)); clear hb21)
      | (go_at_call 8; refine (HAW.out _ HB21.out).mono ?_; rintro e w22 ⟨rfl, hb22⟩; have HB22 := Aside0.mk (below_then HB21.out HB21.out.size hb22); clear hb22))
     go_ret
     exact ⟨rfl, HB22.out⟩
    | true =>
     have HR2' := Aside0.mk (hrt2 true h2)
     have H2 := Aside0.mk h2
     clear hrt2 h2
     by_cases h12 : (l2.length : Int) = d1
     ·have hb1 : ((l2.length : Int) == d1) = true := beq_iff_eq.2 h12
      have hb2 : ((l2.length : Int) != d1) = false := bne_eq_false_iff_eq.2 h12
      have H12 := Aside0.mk h12
      clear h12
      go_wp2_with (first
       | (go_at_call 11; refine (their_any _ _ _ _ _).mono ?_; rintro e w11 ⟨rfl, hb11⟩; have HB11 := Aside0.mk (below_then HB10.out HB10.out.size hb11); clear hb11 p2 p3)
       | (go_at_call 10; refine (HR2'.out _ (below_then HB8.out HB8.out.size HB11.out)).mono ?_; rintro e w12 ⟨rfl, hb12⟩; have HB12 := Aside0.mk (below_then HB11.out HB11.out.size hb12); have p0 := blk_cell (blk_below BX0.out HB12.out) 0; have p1 := blk_cell (blk_below BX0.out HB12.out) 1; have p2 := blk_cell (blk_below BX1.out HB12.out) 0; have p3 := blk_cell (blk_below BX1.out HB12.out) 1; clear hb12))
      have hrc : ∀ W, Below w.heap.size w W → ∃ rb : Bool, ∃ L3 : List (List Int), rb = rightB d2 (l1.map (compRow l2 d2.toNat)) ∧ L3 = l1.map (compRow l2 d2.toNat) ∧ Calls Tryz.prog 13 #[.agg #[.int .i64 d1, .slice A1 l1.length c1], .agg #[.int .i64 d2, .slice A2 l2.length c2]] W fun e w' => ∃ A c, e = .returned (.tuple #[.agg #[.int .i64 d2, .slice A L3.length c], .bool rb]) ∧ L3.length ≤ c ∧ Own3 w' (.slice A L3.length c) L3 ∧ Below W.heap.size W w' := fun W hW => by
       refine ⟨_, _, rfl, rfl, ?_⟩
       obtain ⟨k, hk⟩ := rcompose_eval H1.out H2.out H12.out
       refine (demoticref19_Compose.calls k d1 A1 c1 l1 d2 A2 c2 l2 _ _ _ W (Kd.C_below HR1.out hW) HD1.out (Kd.C_below HR2.out hW) HD2.out hk).mono ?_
       rintro e w' ⟨v, rfl, hS, hb⟩
       obtain ⟨A, c, rfl, h1, h2⟩ := Kd.R_reads (Kd.S_R hS)
       exact ⟨A, c, rfl, h1, ⟨_, hS⟩, hb⟩
      obtain ⟨rb, hrb⟩ : ∃ rb, rb = rightB d2 (l1.map (compRow l2 d2.toNat)) := ⟨_, rfl⟩
      obtain ⟨L3, hL3⟩ : ∃ L3, L3 = l1.map (compRow l2 d2.toNat) := ⟨_, rfl⟩
      have hrc2 : ∀ W, Below w.heap.size w W → Calls Tryz.prog 13 #[.agg #[.int .i64 d1, .slice A1 l1.length c1], .agg #[.int .i64 d2, .slice A2 l2.length c2]] W fun e w' => ∃ A c, e = .returned (.tuple #[.agg #[.int .i64 d2, .slice A L3.length c], .bool rb]) ∧ L3.length ≤ c ∧ Own3 w' (.slice A L3.length c) L3 ∧ Below W.heap.size W w' := fun W hW => by
       obtain ⟨rb', L', e1, e2, h⟩ := hrc W hW
       rw [hrb, hL3, ← e1, ← e2]
       exact h
      have HRC := Aside0.mk hrc2
      have HRB := Aside0.mk hrb
      have HL3 := Aside0.mk hL3
      clear hrc hrc2 hrb hL3 p0 p1 p2 p3
      refine start_ (n := 11) (S := fun w' => Below W8.heap.size W8 w') (ds := [9]) #[false, false, false, false, false, false, false, false, false, false, false] (by kernel_rfl) rfl rfl (below_drew HB12.out) (fun hHeld => ?_)
      refine with_tabW composes8.tab composes8.bits (fun HT_ HW_ => ?_)
      have HB13 := Aside0.mk hHeld
      generalize w12.drew = w13 at HB13 hHeld ⊢
      refine take_ (i := 0) (N := some 55) (v := ?_) (a' := ?_) #[true, false, false, false, false, false, false, false, false, false, false] rfl rfl (take_ofW HT_.out HW_.out (by kernel_rfl)) (fun _ _ _ h => h) (Or.inl ⟨by rfl, ?_⟩) hHeld ?_ ?_
      rotate_left
      ·intro w' s
       have z0 := blk_cell (blk_below BX0.out s) 0
       have z1 := blk_cell (blk_below BX0.out s) 1
       clear s
       go_simp
       with_reducible rfl
      rotate_left
      ·simp only [Act.put, List.setIfInBounds_toArray, List.set_cons_zero, List.set_cons_succ, i64_w, i32_w]
       rfl
      refine take_ (i := 2) (N := some 57) (v := ?_) (a' := ?_) #[true, false, true, false, false, false, false, false, false, false, false] rfl rfl (take_ofW HT_.out HW_.out (by kernel_rfl)) (fun _ _ _ h => h) (Or.inl ⟨by rfl, ?_⟩) hHeld ?_ ?_
      rotate_left
      ·intro w' s
       have z0 := blk_cell (blk_below BX1.out s) 0
       have z1 := blk_cell (blk_below BX1.out s) 1
       clear s
       go_simp
       with_reducible rfl
      rotate_left
      ·simp only [Act.put, List.setIfInBounds_toArray, List.set_cons_zero, List.set_cons_succ, i64_w, i32_w]
       rfl
      refine join_ (σ := Nat × Option Addr × Nat) 2 #[true, true, true, true, true, true, true, true, true, false, false] (fun s => [(56, .agg #[.int .i64 d1, .slice A1 l1.length c1]), (58, .agg #[.int .i64 d2, .slice A2 l2.length c2]), (59, .tuple #[.agg #[.int .i64 d2, .slice s.2.1 L3.length s.2.2], .bool rb]), (54, .tuple #[.agg #[.int .i64 d2, .slice s.2.1 L3.length s.2.2], .bool rb]), (60, .agg #[.int .i64 d2, .slice s.2.1 L3.length s.2.2]), (61, .bool rb), (7, .pointer (some ⟨s.1, 0, none⟩))]) (fun s w' => Below W8.heap.size W8 w' ∧ w'.heap[s.1]? = some (.cells #[.int .i64 0, .slice none 0 0] 31 (0, 0)) ∧ L3.length ≤ s.2.2 ∧ Own3 w' (.slice s.2.1 L3.length s.2.2) L3 ∧ W8.heap.size ≤ s.1) ?cont (fun hJ => ?_)
      case cont =>
       rintro ⟨g, Ar, cr⟩ w20 ⟨hb20, hk20, hl20, hC20, hg20⟩
       have HB20 := Aside0.mk hb20
       have HK20 := Aside0.mk hk20
       have HL20 := Aside0.mk hl20
       have HC20 := Aside0.mk hC20
       have HG20 := Aside0.mk hg20
       have q0 := blk_cell hk20 0
       have q1 := blk_cell hk20 1
       have f0 := blk_frozen hk20 0
       have f1 := blk_frozen hk20 1
       clear hb20 hk20 hl20 hC20 hg20
       refine norm_ (by simp only [putAll, Act.put, List.setIfInBounds_toArray, List.set_cons_zero, List.set_cons_succ] <;> rfl) ?_
       refine last_ (i := 9) (N := none) #[true, true, true, true, true, true, true, true, true, true, false] rfl rfl (one_of HT_.out (by kernel_rfl)) (by decide) (fun K hK => ?_)
       refine skip_ (w1 := ?_) (by rfl) rfl ?_ ?_
       rotate_left
       ·go_simp
        rfl
       refine hK.out _ _ ?_
       clear hK K
       refine pure_ (i := 10) (N := some 8) (v := ?_) (a' := ?_) #[true, true, true, true, true, true, true, true, true, true, true] rfl rfl (any_of HT_.out (by kernel_rfl)) (fun _ _ _ h => h) (Or.inl ⟨by rfl, ?_⟩) ?_ ?_
       rotate_left
       ·intro w'
        go_simp
        with_reducible rfl
       rotate_left
       ·simp only [Act.put, List.setIfInBounds_toArray, List.set_cons_zero, List.set_cons_succ, i64_w, i32_w]
        rfl
       refine done_ (done_of HT_.out (by kernel_rfl)) ?_
       have hBL : ((w20.setCell ⟨g, 0, none⟩ (.int .i64 d2)).setCell ⟨g, 1, none⟩ (.slice Ar L3.length cr)).heap[g]? = some (.cells #[.int .i64 d2, .slice Ar L3.length cr] 31 (0, 0)) := blk_put (cs := #[.int .i64 d2, .slice none 0 0]) (blk_put (cs := #[.int .i64 0, .slice none 0 0]) HK20.out 0 _ rfl) 1 _ rfl
       have hB21 : Below W8.heap.size W8 ((w20.setCell ⟨g, 0, none⟩ (.int .i64 d2)).setCell ⟨g, 1, none⟩ (.slice Ar L3.length cr)) := below_set (below_set HB20.out HG20.out) HG20.out
       have hO21 : Own3 ((w20.setCell ⟨g, 0, none⟩ (.int .i64 d2)).setCell ⟨g, 1, none⟩ (.slice Ar L3.length cr)) (.slice Ar L3.length cr) L3 := (HC20.out.set HK20.out 0 _).set (blk_put (cs := #[.int .i64 0, .slice none 0 0]) HK20.out 0 _ rfl) 1 _
       generalize (w20.setCell ⟨g, 0, none⟩ (.int .i64 d2)).setCell ⟨g, 1, none⟩ (.slice Ar L3.length cr) = w21 at hBL hB21 hO21 ⊢
       have HBL := Aside0.mk hBL
       have HB21 := Aside0.mk hB21
       have HO21 := Aside0.mk hO21
       clear q0 q1 f0 f1 hBL hB21 hO21
       have r0 := blk_cell HBL.out 0
       have r1 := blk_cell HBL.out 1
       have p4 := blk_cell (blk_below BQ.out HB21.out) 0
       have p5 := blk_cell (blk_below BQ.out HB21.out) 1
       have hcs : (x1, x2, x3) = if rb = true then (d2, L3, (0 : Int)) else (0, [], 2) := by
        rw [← HCS.out]
        unfold composeS
        rw [if_pos ⟨H1.out, H2.out⟩, if_pos H12.out, HRB.out, HL3.out]
       cases rb with
       | false =>
        have HIS := Aside0.mk (hisb 2 (by decide) (by rw [hcs]; rfl))
        clear hisb hcs
        go_wp2_with (first
         | (go_at_call 12; refine (HIS.out _ HB21.out).mono ?_; rintro e w22 ⟨rfl, hb22⟩; have HB22 := Aside0.mk (below_then HB8.out HB8.out.size (below_then HB21.out HB21.out.size hb22)); clear hb22)
         | (go_at_call 8; refine (HAW.out _ HB22.out).mono ?_; rintro e w23 ⟨rfl, hb23⟩; have HB23 := Aside0.mk (below_then HB22.out HB22.out.size hb23); clear hb23))
        go_ret
        exact ⟨rfl, HB23.out⟩
       | true =>
        rw [if_pos rfl] at hcs
        simp only [Prod.mk.injEq] at hcs
        obtain ⟨rfl, rfl, rfl⟩ := hcs
        have hright : rightB x1 x2 = true := by have := HRB.out; rw [← HL3.out] at this; exact this.symm
        obtain ⟨u0, u1, u2⟩ := rightB_dims hright
        obtain ⟨kk, hkk⟩ := is_ok x1 x2 (by omega) (fun i hi => by have := (rightB_row hright i hi).1; omega)
        have HIS := Aside0.mk (demoticlaw19_is.calls kk x1 Ac cc x2 0 x1 Ar cr x2 0 true w21 (Kd.C_below HCX8.out HB21.out) HLC.out HO21.out.toC HL20.out hkk)
        clear hisb hright hkk u0 u1 u2
        go_wp2_with (first
         | (go_at_call 12; refine HIS.out.mono ?_; rintro e w22 ⟨rfl, hb22⟩; have HB22 := Aside0.mk (below_then HB8.out HB8.out.size (below_then HB21.out HB21.out.size hb22)); clear hb22)
         | (go_at_call 8; refine (HAW.out _ HB22.out).mono ?_; rintro e w23 ⟨rfl, hb23⟩; have HB23 := Aside0.mk (below_then HB22.out HB22.out.size hb23); clear hb23))
        go_ret
        exact ⟨rfl, HB23.out⟩
      refine two_ (i := 1) (j := 8) (Ni := some 56) (Nj := some 7) #[true, true, true, false, false, false, false, false, false, false, false] #[true, false, true, false, false, false, false, false, true, false, false] rfl rfl rfl rfl (two_of HT_.out (by kernel_rfl)) (by decide) (by decide) (fun K hK => ?_) (fun K hK => ?_)
      ·refine goes_ Tryz.func11 (by kernel_rfl) rfl #[.agg #[.int .i64 d1, .slice A1 l1.length c1]] (by rfl) rfl rfl (by (try simp only [List.map_toArray, List.map_cons, List.map_nil]); first | done | rfl) ?_
       with_reducible refine (their_any _ _ _ _ _).mono ?_
       rintro e w14 ⟨rfl, hb14⟩
       have HB14 := Aside0.mk (below_then HB13.out HB13.out.size hb14)
       clear hb14
       refine ⟨_, rfl, ?_⟩
       refine hK.out _ _ HB14.out (fun hHeld => ?_)
       clear hK K
       refine norm_ (by simp only [Act.put, List.setIfInBounds_toArray, List.set_cons_zero, List.set_cons_succ] <;> rfl) ?_
       refine two_ (i := 3) (j := 8) (Ni := some 58) (Nj := some 7) #[true, true, true, true, false, false, false, false, false, false, false] #[true, true, true, false, false, false, false, false, true, false, false] rfl rfl rfl rfl (two_of HT_.out (by kernel_rfl)) (by decide) (by decide) (fun K hK => ?_) (fun K hK => ?_)
       ·refine goes_ Tryz.func11 (by kernel_rfl) rfl #[.agg #[.int .i64 d2, .slice A2 l2.length c2]] (by rfl) rfl rfl (by (try simp only [List.map_toArray, List.map_cons, List.map_nil]); first | done | rfl) ?_
        with_reducible refine (their_any _ _ _ _ _).mono ?_
        rintro e w15 ⟨rfl, hb15⟩
        have HB15 := Aside0.mk (below_then HB14.out HB14.out.size hb15)
        clear hb15
        refine ⟨_, rfl, ?_⟩
        refine hK.out _ _ HB15.out (fun hHeld => ?_)
        clear hK K
        refine norm_ (by simp only [Act.put, List.setIfInBounds_toArray, List.set_cons_zero, List.set_cons_succ] <;> rfl) ?_
        refine two_ (i := 4) (j := 8) (Ni := some 59) (Nj := some 7) #[true, true, true, true, true, false, false, false, false, false, false] #[true, true, true, true, false, false, false, false, true, false, false] rfl rfl rfl rfl (two_of HT_.out (by kernel_rfl)) (by decide) (by decide) (fun K hK => ?_) (fun K hK => ?_)
        ·refine goes_ Tryz.func13 (by kernel_rfl) rfl #[.agg #[.int .i64 d1, .slice A1 l1.length c1], .agg #[.int .i64 d2, .slice A2 l2.length c2]] (by rfl) rfl rfl (by (try simp only [List.map_toArray, List.map_cons, List.map_nil]); first | done | rfl) ?_
         with_reducible refine (HRC.out _ (below_then HB8.out HB8.out.size HB15.out)).mono ?_
         rintro e w16 ⟨Ar, cr, rfl, hlr, hCr, hb16⟩
         have HC16 := Aside0.mk hCr
         have HLR := Aside0.mk hlr
         clear hCr hlr
         have HB16 := Aside0.mk (below_then HB15.out HB15.out.size hb16)
         clear hb16
         refine ⟨_, rfl, ?_⟩
         refine hK.out _ _ HB16.out (fun hHeld => ?_)
         clear hK K
         refine norm_ (by simp only [Act.put, List.setIfInBounds_toArray, List.set_cons_zero, List.set_cons_succ] <;> rfl) ?_
         refine pure_ (i := 5) (N := some 54) (v := ?_) (a' := ?_) #[true, true, true, true, true, true, false, false, false, false, false] rfl rfl (any_of HT_.out (by kernel_rfl)) (fun _ _ _ h => h) (Or.inl ⟨by rfl, ?_⟩) ?_ ?_
         rotate_left
         ·intro w'
          go_simp
          with_reducible rfl
         rotate_left
         ·simp only [Act.put, List.setIfInBounds_toArray, List.set_cons_zero, List.set_cons_succ, i64_w, i32_w]
          rfl
         refine pure_ (i := 6) (N := some 60) (v := ?_) (a' := ?_) #[true, true, true, true, true, true, true, false, false, false, false] rfl rfl (any_of HT_.out (by kernel_rfl)) (fun _ _ _ h => h) (Or.inl ⟨by rfl, ?_⟩) ?_ ?_
         rotate_left
         ·intro w'
          go_simp
          with_reducible rfl
         rotate_left
         ·simp only [Act.put, List.setIfInBounds_toArray, List.set_cons_zero, List.set_cons_succ, i64_w, i32_w]
          rfl
         refine pure_ (i := 7) (N := some 61) (v := ?_) (a' := ?_) #[true, true, true, true, true, true, true, true, false, false, false] rfl rfl (any_of HT_.out (by kernel_rfl)) (fun _ _ _ h => h) (Or.inl ⟨by rfl, ?_⟩) ?_ ?_
         rotate_left
         ·intro w'
          go_simp
          with_reducible rfl
         rotate_left
         ·simp only [Act.put, List.setIfInBounds_toArray, List.set_cons_zero, List.set_cons_succ, i64_w, i32_w]
          rfl
         refine one_ (i := 8) (N := some 7) #[true, true, true, true, true, true, true, true, true, false, false] rfl rfl (one_of HT_.out (by kernel_rfl)) (by decide) (fun K hK => ?_)
         refine value_ (w1 := w16.alloc (.cells #[.int .i64 0, .slice none 0 0] 31)) (v := .pointer (some ⟨w16.heap.size, 0, none⟩)) (by rfl) rfl (by go_simp <;> with_reducible rfl) ?_
         have HB17 := Aside0.mk (below_alloc HB16.out (.cells #[.int .i64 0, .slice none 0 0] 31))
         have HK17 := Aside0.mk (blk_new w16 (.cells #[.int .i64 0, .slice none 0 0] 31))
         have HC17 := Aside0.mk (Own3.below HC16.out (below_alloc (Below.refl _ _) (.cells #[.int .i64 0, .slice none 0 0] 31)))
         refine hK.out _ _ HB17.out (fun hHeld => ?_)
         clear hK K
         generalize hG17 : w16.alloc (.cells #[.int .i64 0, .slice none 0 0] 31) = w17 at HB17 HK17 HC17 hHeld ⊢
         clear hG17
         refine norm_ (by simp only [Act.put, List.setIfInBounds_toArray, List.set_cons_zero, List.set_cons_succ] <;> rfl) ?_
         refine norm_ ?_ (hJ ⟨w16.heap.size, Ar, cr⟩ _ ⟨HB17.out, HK17.out, HLR.out, HC17.out, HB16.out.size⟩)
         simp only [putAll, Act.put, List.setIfInBounds_toArray, List.set_cons_zero, List.set_cons_succ]
        ·refine value_ (w1 := w15.alloc (.cells #[.int .i64 0, .slice none 0 0] 31)) (v := .pointer (some ⟨w15.heap.size, 0, none⟩)) (by rfl) rfl (by go_simp <;> with_reducible rfl) ?_
         have HB16 := Aside0.mk (below_alloc HB15.out (.cells #[.int .i64 0, .slice none 0 0] 31))
         have HK16 := Aside0.mk (blk_new w15 (.cells #[.int .i64 0, .slice none 0 0] 31))
         refine hK.out _ _ HB16.out (fun hHeld => ?_)
         clear hK K
         generalize hG16 : w15.alloc (.cells #[.int .i64 0, .slice none 0 0] 31) = w16 at HB16 HK16 hHeld ⊢
         clear hG16
         refine norm_ (by simp only [Act.put, List.setIfInBounds_toArray, List.set_cons_zero, List.set_cons_succ] <;> rfl) ?_
         refine one_ (i := 4) (N := some 59) #[true, true, true, true, true, false, false, false, true, false, false] rfl rfl (one_of HT_.out (by kernel_rfl)) (by decide) (fun K hK => ?_)
         refine goes_ Tryz.func13 (by kernel_rfl) rfl #[.agg #[.int .i64 d1, .slice A1 l1.length c1], .agg #[.int .i64 d2, .slice A2 l2.length c2]] (by rfl) rfl rfl (by (try simp only [List.map_toArray, List.map_cons, List.map_nil]); first | done | rfl) ?_
         with_reducible refine (HRC.out _ (below_then HB8.out HB8.out.size HB16.out)).mono ?_
         rintro e w17 ⟨Ar, cr, rfl, hlr, hCr, hb17⟩
         have HC17 := Aside0.mk hCr
         have HLR := Aside0.mk hlr
         clear hCr hlr
         have HB17 := Aside0.mk (below_then HB16.out HB16.out.size hb17)
         have HK17 := Aside0.mk (blk_below HK16.out hb17)
         clear hb17
         refine ⟨_, rfl, ?_⟩
         refine hK.out _ _ HB17.out (fun hHeld => ?_)
         clear hK K
         refine norm_ (by simp only [Act.put, List.setIfInBounds_toArray, List.set_cons_zero, List.set_cons_succ] <;> rfl) ?_
         refine pure_ (i := 5) (N := some 54) (v := ?_) (a' := ?_) #[true, true, true, true, true, true, false, false, true, false, false] rfl rfl (any_of HT_.out (by kernel_rfl)) (fun _ _ _ h => h) (Or.inl ⟨by rfl, ?_⟩) ?_ ?_
         rotate_left
         ·intro w'
          go_simp
          with_reducible rfl
         rotate_left
         ·simp only [Act.put, List.setIfInBounds_toArray, List.set_cons_zero, List.set_cons_succ, i64_w, i32_w]
          rfl
         refine pure_ (i := 6) (N := some 60) (v := ?_) (a' := ?_) #[true, true, true, true, true, true, true, false, true, false, false] rfl rfl (any_of HT_.out (by kernel_rfl)) (fun _ _ _ h => h) (Or.inl ⟨by rfl, ?_⟩) ?_ ?_
         rotate_left
         ·intro w'
          go_simp
          with_reducible rfl
         rotate_left
         ·simp only [Act.put, List.setIfInBounds_toArray, List.set_cons_zero, List.set_cons_succ, i64_w, i32_w]
          rfl
         refine pure_ (i := 7) (N := some 61) (v := ?_) (a' := ?_) #[true, true, true, true, true, true, true, true, true, false, false] rfl rfl (any_of HT_.out (by kernel_rfl)) (fun _ _ _ h => h) (Or.inl ⟨by rfl, ?_⟩) ?_ ?_
         rotate_left
         ·intro w'
          go_simp
          with_reducible rfl
         rotate_left
         ·simp only [Act.put, List.setIfInBounds_toArray, List.set_cons_zero, List.set_cons_succ, i64_w, i32_w]
          rfl
         refine norm_ ?_ (hJ ⟨w15.heap.size, Ar, cr⟩ _ ⟨HB17.out, HK17.out, HLR.out, HC17.out, HB15.out.size⟩)
         simp only [putAll, Act.put, List.setIfInBounds_toArray, List.set_cons_zero, List.set_cons_succ]
       ·refine value_ (w1 := w14.alloc (.cells #[.int .i64 0, .slice none 0 0] 31)) (v := .pointer (some ⟨w14.heap.size, 0, none⟩)) (by rfl) rfl (by go_simp <;> with_reducible rfl) ?_
        have HB15 := Aside0.mk (below_alloc HB14.out (.cells #[.int .i64 0, .slice none 0 0] 31))
        have HK15 := Aside0.mk (blk_new w14 (.cells #[.int .i64 0, .slice none 0 0] 31))
        refine hK.out _ _ HB15.out (fun hHeld => ?_)
        clear hK K
        generalize hG15 : w14.alloc (.cells #[.int .i64 0, .slice none 0 0] 31) = w15 at HB15 HK15 hHeld ⊢
        clear hG15
        refine norm_ (by simp only [Act.put, List.setIfInBounds_toArray, List.set_cons_zero, List.set_cons_succ] <;> rfl) ?_
        refine one_ (i := 3) (N := some 58) #[true, true, true, true, false, false, false, false, true, false, false] rfl rfl (one_of HT_.out (by kernel_rfl)) (by decide) (fun K hK => ?_)
        refine goes_ Tryz.func11 (by kernel_rfl) rfl #[.agg #[.int .i64 d2, .slice A2 l2.length c2]] (by rfl) rfl rfl (by (try simp only [List.map_toArray, List.map_cons, List.map_nil]); first | done | rfl) ?_
        with_reducible refine (their_any _ _ _ _ _).mono ?_
        rintro e w16 ⟨rfl, hb16⟩
        have HB16 := Aside0.mk (below_then HB15.out HB15.out.size hb16)
        have HK16 := Aside0.mk (blk_below HK15.out hb16)
        clear hb16
        refine ⟨_, rfl, ?_⟩
        refine hK.out _ _ HB16.out (fun hHeld => ?_)
        clear hK K
        refine norm_ (by simp only [Act.put, List.setIfInBounds_toArray, List.set_cons_zero, List.set_cons_succ] <;> rfl) ?_
        refine one_ (i := 4) (N := some 59) #[true, true, true, true, true, false, false, false, true, false, false] rfl rfl (one_of HT_.out (by kernel_rfl)) (by decide) (fun K hK => ?_)
        refine goes_ Tryz.func13 (by kernel_rfl) rfl #[.agg #[.int .i64 d1, .slice A1 l1.length c1], .agg #[.int .i64 d2, .slice A2 l2.length c2]] (by rfl) rfl rfl (by (try simp only [List.map_toArray, List.map_cons, List.map_nil]); first | done | rfl) ?_
        with_reducible refine (HRC.out _ (below_then HB8.out HB8.out.size HB16.out)).mono ?_
        rintro e w17 ⟨Ar, cr, rfl, hlr, hCr, hb17⟩
        have HC17 := Aside0.mk hCr
        have HLR := Aside0.mk hlr
        clear hCr hlr
        have HB17 := Aside0.mk (below_then HB16.out HB16.out.size hb17)
        have HK17 := Aside0.mk (blk_below HK16.out hb17)
        clear hb17
        refine ⟨_, rfl, ?_⟩
        refine hK.out _ _ HB17.out (fun hHeld => ?_)
        clear hK K
        refine norm_ (by simp only [Act.put, List.setIfInBounds_toArray, List.set_cons_zero, List.set_cons_succ] <;> rfl) ?_
        refine pure_ (i := 5) (N := some 54) (v := ?_) (a' := ?_) #[true, true, true, true, true, true, false, false, true, false, false] rfl rfl (any_of HT_.out (by kernel_rfl)) (fun _ _ _ h => h) (Or.inl ⟨by rfl, ?_⟩) ?_ ?_
        rotate_left
        ·intro w'
         go_simp
         with_reducible rfl
        rotate_left
        ·simp only [Act.put, List.setIfInBounds_toArray, List.set_cons_zero, List.set_cons_succ, i64_w, i32_w]
         rfl
        refine pure_ (i := 6) (N := some 60) (v := ?_) (a' := ?_) #[true, true, true, true, true, true, true, false, true, false, false] rfl rfl (any_of HT_.out (by kernel_rfl)) (fun _ _ _ h => h) (Or.inl ⟨by rfl, ?_⟩) ?_ ?_
        rotate_left
        ·intro w'
         go_simp
         with_reducible rfl
        rotate_left
        ·simp only [Act.put, List.setIfInBounds_toArray, List.set_cons_zero, List.set_cons_succ, i64_w, i32_w]
         rfl
        refine pure_ (i := 7) (N := some 61) (v := ?_) (a' := ?_) #[true, true, true, true, true, true, true, true, true, false, false] rfl rfl (any_of HT_.out (by kernel_rfl)) (fun _ _ _ h => h) (Or.inl ⟨by rfl, ?_⟩) ?_ ?_
        rotate_left
        ·intro w'
         go_simp
         with_reducible rfl
        rotate_left
        ·simp only [Act.put, List.setIfInBounds_toArray, List.set_cons_zero, List.set_cons_succ, i64_w, i32_w]
         rfl
        refine norm_ ?_ (hJ ⟨w14.heap.size, Ar, cr⟩ _ ⟨HB17.out, HK17.out, HLR.out, HC17.out, HB14.out.size⟩)
        simp only [putAll, Act.put, List.setIfInBounds_toArray, List.set_cons_zero, List.set_cons_succ]
      ·refine value_ (w1 := w13.alloc (.cells #[.int .i64 0, .slice none 0 0] 31)) (v := .pointer (some ⟨w13.heap.size, 0, none⟩)) (by rfl) rfl (by go_simp <;> with_reducible rfl) ?_
       have HB14 := Aside0.mk (below_alloc HB13.out (.cells #[.int .i64 0, .slice none 0 0] 31))
       have HK14 := Aside0.mk (blk_new w13 (.cells #[.int .i64 0, .slice none 0 0] 31))
       refine hK.out _ _ HB14.out (fun hHeld => ?_)
       clear hK K
       generalize hG14 : w13.alloc (.cells #[.int .i64 0, .slice none 0 0] 31) = w14 at HB14 HK14 hHeld ⊢
       clear hG14
       refine norm_ (by simp only [Act.put, List.setIfInBounds_toArray, List.set_cons_zero, List.set_cons_succ] <;> rfl) ?_
       refine one_ (i := 1) (N := some 56) #[true, true, true, false, false, false, false, false, true, false, false] rfl rfl (one_of HT_.out (by kernel_rfl)) (by decide) (fun K hK => ?_)
       refine goes_ Tryz.func11 (by kernel_rfl) rfl #[.agg #[.int .i64 d1, .slice A1 l1.length c1]] (by rfl) rfl rfl (by (try simp only [List.map_toArray, List.map_cons, List.map_nil]); first | done | rfl) ?_
       with_reducible refine (their_any _ _ _ _ _).mono ?_
       rintro e w15 ⟨rfl, hb15⟩
       have HB15 := Aside0.mk (below_then HB14.out HB14.out.size hb15)
       have HK15 := Aside0.mk (blk_below HK14.out hb15)
       clear hb15
       refine ⟨_, rfl, ?_⟩
       refine hK.out _ _ HB15.out (fun hHeld => ?_)
       clear hK K
       refine norm_ (by simp only [Act.put, List.setIfInBounds_toArray, List.set_cons_zero, List.set_cons_succ] <;> rfl) ?_
       refine one_ (i := 3) (N := some 58) #[true, true, true, true, false, false, false, false, true, false, false] rfl rfl (one_of HT_.out (by kernel_rfl)) (by decide) (fun K hK => ?_)
       refine goes_ Tryz.func11 (by kernel_rfl) rfl #[.agg #[.int .i64 d2, .slice A2 l2.length c2]] (by rfl) rfl rfl (by (try simp only [List.map_toArray, List.map_cons, List.map_nil]); first | done | rfl) ?_
       with_reducible refine (their_any _ _ _ _ _).mono ?_
       rintro e w16 ⟨rfl, hb16⟩
       have HB16 := Aside0.mk (below_then HB15.out HB15.out.size hb16)
       have HK16 := Aside0.mk (blk_below HK15.out hb16)
       clear hb16
       refine ⟨_, rfl, ?_⟩
       refine hK.out _ _ HB16.out (fun hHeld => ?_)
       clear hK K
       refine norm_ (by simp only [Act.put, List.setIfInBounds_toArray, List.set_cons_zero, List.set_cons_succ] <;> rfl) ?_
       refine one_ (i := 4) (N := some 59) #[true, true, true, true, true, false, false, false, true, false, false] rfl rfl (one_of HT_.out (by kernel_rfl)) (by decide) (fun K hK => ?_)
       refine goes_ Tryz.func13 (by kernel_rfl) rfl #[.agg #[.int .i64 d1, .slice A1 l1.length c1], .agg #[.int .i64 d2, .slice A2 l2.length c2]] (by rfl) rfl rfl (by (try simp only [List.map_toArray, List.map_cons, List.map_nil]); first | done | rfl) ?_
       with_reducible refine (HRC.out _ (below_then HB8.out HB8.out.size HB16.out)).mono ?_
       rintro e w17 ⟨Ar, cr, rfl, hlr, hCr, hb17⟩
       have HC17 := Aside0.mk hCr
       have HLR := Aside0.mk hlr
       clear hCr hlr
       have HB17 := Aside0.mk (below_then HB16.out HB16.out.size hb17)
       have HK17 := Aside0.mk (blk_below HK16.out hb17)
       clear hb17
       refine ⟨_, rfl, ?_⟩
       refine hK.out _ _ HB17.out (fun hHeld => ?_)
       clear hK K
       refine norm_ (by simp only [Act.put, List.setIfInBounds_toArray, List.set_cons_zero, List.set_cons_succ] <;> rfl) ?_
       refine pure_ (i := 5) (N := some 54) (v := ?_) (a' := ?_) #[true, true, true, true, true, true, false, false, true, false, false] rfl rfl (any_of HT_.out (by kernel_rfl)) (fun _ _ _ h => h) (Or.inl ⟨by rfl, ?_⟩) ?_ ?_
       rotate_left
       ·intro w'
        go_simp
        with_reducible rfl
       rotate_left
       ·simp only [Act.put, List.setIfInBounds_toArray, List.set_cons_zero, List.set_cons_succ, i64_w, i32_w]
        rfl
       refine pure_ (i := 6) (N := some 60) (v := ?_) (a' := ?_) #[true, true, true, true, true, true, true, false, true, false, false] rfl rfl (any_of HT_.out (by kernel_rfl)) (fun _ _ _ h => h) (Or.inl ⟨by rfl, ?_⟩) ?_ ?_
       rotate_left
       ·intro w'
        go_simp
        with_reducible rfl
       rotate_left
       ·simp only [Act.put, List.setIfInBounds_toArray, List.set_cons_zero, List.set_cons_succ, i64_w, i32_w]
        rfl
       refine pure_ (i := 7) (N := some 61) (v := ?_) (a' := ?_) #[true, true, true, true, true, true, true, true, true, false, false] rfl rfl (any_of HT_.out (by kernel_rfl)) (fun _ _ _ h => h) (Or.inl ⟨by rfl, ?_⟩) ?_ ?_
       rotate_left
       ·intro w'
        go_simp
        with_reducible rfl
       rotate_left
       ·simp only [Act.put, List.setIfInBounds_toArray, List.set_cons_zero, List.set_cons_succ, i64_w, i32_w]
        rfl
       refine norm_ ?_ (hJ ⟨w13.heap.size, Ar, cr⟩ _ ⟨HB17.out, HK17.out, HLR.out, HC17.out, HB13.out.size⟩)
       simp only [putAll, Act.put, List.setIfInBounds_toArray, List.set_cons_zero, List.set_cons_succ]
     ·have hb1 : ((l2.length : Int) == d1) = false := beq_eq_false_iff_ne.2 h12
      have hb2 : ((l2.length : Int) != d1) = true := by rw [bne_iff_ne]; exact h12
      have HIS := Aside0.mk (hisb 1 (by decide) (by rw [← HCS.out]; unfold composeS; rw [if_pos ⟨H1.out, H2.out⟩, if_neg h12]))
      clear hisb h12
      go_wp2_with (first
       | (go_at_call 11; refine (their_any _ _ _ _ _).mono ?_; rintro e w11 ⟨rfl, hb11⟩; have HB11 := Aside0.mk (below_then HB10.out HB10.out.size hb11); clear hb11 p2 p3)
       | (go_at_call 10; refine (HR2'.out _ (below_then HB8.out HB8.out.size HB11.out)).mono ?_; rintro e w12 ⟨rfl, hb12⟩; have HB12 := Aside0.mk (below_then HB11.out HB11.out.size hb12); have p0 := blk_cell (blk_below BX0.out HB12.out) 0; have p3 := blk_cell (blk_below BX1.out HB12.out) 1; have p4 := blk_cell (blk_below BQ.out HB12.out) 0; have p5 := blk_cell (blk_below BQ.out HB12.out) 1; clear hb12)
       | (go_at_call 12; refine (HIS.out _ HB12.out).mono ?_; rintro e w21 ⟨rfl, hb21⟩; have HB21 := Aside0.mk (below_then HB8.out HB8.out.size (below_then HB12.out HB12.out.size hb21)); clear hb21)
       | (go_at_call 8; refine (HAW.out _ HB21.out).mono ?_; rintro e w22 ⟨rfl, hb22⟩; have HB22 := Aside0.mk (below_then HB21.out HB21.out.size hb22); clear hb22))
      go_ret
      exact ⟨rfl, HB22.out⟩
end Go.Proofs.YtcefaofknaeaeaaGreatDoor.X
