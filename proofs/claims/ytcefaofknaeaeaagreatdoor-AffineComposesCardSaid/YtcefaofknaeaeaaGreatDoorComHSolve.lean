/- (demotic/affine.modulus).solve at the prime 2147483647: the rows become the identity's, with the inverse beside them, or there is none. -/
import Derived.Test.YtcefaofknaeaeaaGreatDoorComHSolveM
import Derived.BigRegion
set_option linter.unusedVariables false
set_option linter.unusedSimpArgs false
namespace Go.Proofs.YtcefaofknaeaeaaGreatDoor.X
open Go.RowKit Go.Proofs.YtcefaofknaeaeaaGreatDoorW.PrintWords Go.Proofs.YtcefaofknaeaeaaGreatDoorW.PrintLast Go.Proofs.YtcefaofknaeaeaaGreatDoorW.PrintMore AffMath
def solve25.T : Bool × List (List Nat × List Nat) := (true, [([], []), ([], []), ([0, 1], [0, 1]), ([2], [2]), ([], []), ([], []), ([], []), ([], []), ([6, 7], [6, 7]), ([8], [8]), ([], []), ([9, 10], [9, 10]), ([11], [11]), ([], []), ([], []), ([], []), ([14, 15], [14, 15]), ([16], [16]), ([], []), ([17, 18], [17, 18]), ([19], [19]), ([13, 20], [13, 20]), ([12, 21], [12, 21]), ([5, 22], [5, 22]), ([3, 4, 0, 1, 2, 3, 4, 5, 6, 7, 8, 9, 10, 11, 12, 13, 14, 15, 16, 17, 18, 19, 20, 21, 22, 23], [3, 4]), ([24, 23, 23, 0, 1, 2, 3, 4, 5, 6, 7, 8, 9, 10, 11, 12, 13, 14, 15, 16, 17, 18, 19, 20, 21, 22, 23], [23, 24])])
def solve25.B : List Nat := [0, 0, 3, 7, 0, 0, 0, 0, 192, 448, 0, 1984, 4032, 0, 0, 0, 49152, 114688, 0, 507904, 1032192, 2088960, 4194240, 8388576, 16777215, 33554431]
theorem solve25.tab : rtab .any (opsOf Tryz.f29 25) = solve25.T := by kernel_rfl
theorem solve25.bits : waitsOk solve25.T.2 solve25.B = true := by kernel_rfl
set_option maxHeartbeats 8000000 in
set_option maxRecDepth 100000 in
theorem solve_any (base go n co : Nat) (g : Nat → Nat) (L : Nat → List Int) (M : Nat → Nat → Int) (w : World) (hn0 : 0 < n) (hn : n ≤ 6) (hco : n ≤ co)
  (hm : Mat w base go n (n + n) g L) (hi : InR n L) (hk : Kept 2147483647 n M (ent L)) :
  Calls Tryz.prog 29 #[.int .i64 2147483647, .slice (some ⟨go, 0, none⟩) n co] w (SolvePost base go n g M w) := by
 have HS := Aside0.mk (SInv.start hm hi hk)
 clear hm hi hk
 go_enter Tryz.func29, Tryz.ntmps29
 go_wp2
 go_loopw [16] (fun v wr => ∃ (i : Nat) (g1 : Nat → Nat) (L1 : Nat → List Int), i ≤ n ∧ v = .int .i64 i ∧ Aside0 (SInv base go n g M w i g1 L1 wr)) (fun v _ => n - (intOf v).toNat)
 case atStart => exact ⟨0, g, L, Nat.zero_le _, rfl, HS⟩
 case round =>
  clear HS
  obtain ⟨i, g1, L1, hin, rfl, HS⟩ := hrel
  by_cases hlt : i < n
  ·go_wp2
   go_loop [7] (fun v => ∃ k : Nat, i ≤ k ∧ k ≤ n ∧ v = .int .i64 k ∧ Aside0 (∀ t, i ≤ t → t < k → ent L1 t i = 0)) (fun v => n - (intOf v).toNat)
   case atStart => exact ⟨i, Nat.le_refl _, hin, rfl, ⟨fun t h1 h2 => by omega⟩⟩
   case round =>
    obtain ⟨k, hik, hkn, rfl, HZ⟩ := hrel
    by_cases hkl : k < n
    ·have c1 := HS.out.mat.outer k hkl
     have c2 := HS.out.mat.inner k i hkl (by omega)
     have hki : (i : Int) < ((n + n : Nat) : Int) := by omega
     generalize hx : ent L1 k i = x at c2
     have HX := Aside0.mk hx
     clear hx
     by_cases hx0 : x = 0
     ·subst hx0
      go_wp2
      go_round
      case rel =>
       refine ⟨k + 1, by omega, by omega, by go_num, ⟨fun t h1 h2 => ?_⟩⟩
       by_cases e : t = k
       ·subst e; exact HX.out
       ·exact HZ.out t h1 (by omega)
      case measure => simp [intOf]; omega
     ·have hb : (x == 0) = false := beq_eq_false_iff_ne.2 hx0
      have hbn : ((k : Int) == (n : Int)) = false := beq_eq_false_iff_ne.2 (by omega)
      have HX0 := Aside0.mk hx0
      clear hx0
      go_wp2
      have o1 := HS.out.mat.outer i hlt
      have o2 := HS.out.mat.outer k hkl
      have f1 := HS.out.mat.outerF i
      have f2 := HS.out.mat.outerF k
      have hxr := HS.out.inr k hkl i (by omega)
      rw [HX.out] at hxr
      have hxp : 0 < x ∧ x < 2147483647 := by have := HX0.out; omega
      have HS3 := Aside0.mk (HS.out.swap k hlt hik hkl).drew
      have HX3 : Aside0 (ent (swp L1 i k) i i = x) := ⟨by rw [ent_swp, if_pos rfl]; exact HX.out⟩
      clear hxr hb hbn HZ
      obtain ⟨v', h1⟩ := cell?_setCell_some (w := wr) (p := ⟨go, i, none⟩) (x := .slice (some ⟨g1 k, 0, none⟩) (n + n) (n + n)) (q := ⟨go, k, none⟩) (v := .slice (some ⟨g1 k, 0, none⟩) (n + n) (n + n)) o2
      go_region
      generalize ((wr.setCell ⟨go, i, none⟩ (.slice (some ⟨g1 k, 0, none⟩) (n + n) (n + n))).setCell ⟨go, k, none⟩ (.slice (some ⟨g1 i, 0, none⟩) (n + n) (n + n))).drew = w3 at HS3 ⊢
      generalize swp g1 i k = g2 at HS3
      generalize swp L1 i k = L2 at HS3 HX3
      clear HS HX HX0 o1 f1 o2 f2 c1 c2 h1
      have oi := HS3.out.mat.outer i hlt
      have ci := HS3.out.mat.inner i i hlt (by omega)
      have hii : (i : Int) < ((n + n : Nat) : Int) := by omega
      rw [HX3.out] at ci
      go_wp2_with (first | (go_at_call 48; refine (inverse_any x _ hxp).mono ?_; rintro e w' ⟨r, rfl, hr0, hr1, hr2, rfl⟩; have HR2 := Aside0.mk hr2; clear hr2))
      go_loopw [66] (fun v wr => ∃ (j : Nat) (L3 : Nat → List Int), j ≤ n + n ∧ v = .int .i64 j ∧ Aside0 (Mat wr base go n (n + n) g2 L3) ∧ Aside0 (∀ t, t ≠ i → L3 t = L2 t) ∧ Aside0 (∀ t, t < n + n → ent L3 i t = if t < j then (ent L2 i t * r) % 2147483647 else ent L2 i t) ∧ Aside0 (Fr w wr (Blocks go n g))) (fun v _ => n + n - (intOf v).toNat)
      case atStart => exact ⟨0, L2, Nat.zero_le _, rfl, ⟨HS3.out.mat⟩, ⟨fun _ _ => rfl⟩, ⟨fun t _ => by rw [if_neg (Nat.not_lt_zero _)]⟩, ⟨HS3.out.fr⟩⟩
      case round =>
       clear oi ci
       obtain ⟨j, L3, hj, rfl, HM, HO, HE, HF⟩ := hrel
       by_cases hjl : j < n + n
       ·have oi := HM.out.outer i hlt
        have ci := HM.out.inner i j hlt hjl
        have fi := HM.out.innerF i j hlt
        have hjI : (j : Int) < ((n + n : Nat) : Int) := by omega
        have hv := HE.out j hjl
        rw [if_neg (Nat.lt_irrefl j)] at hv
        have hy := HS3.out.inr i hlt j hjl
        rw [hv] at ci
        have HV := Aside0.mk hv
        generalize hye : ent L2 i j = y at ci hy
        have HY := Aside0.mk hye
        have hp := prod_bound hy ⟨hr0, hr1⟩
        have T1 := Aside0.mk (tmod_pos hp.1)
        clear hv hye
        go_wp2
        go_still_tail 17, (by kernel_rfl)
        change wpList _ _ _ _ _ wr.drew
        go_wp2
        go_roundw
        case rel =>
         refine ⟨j + 1, setE L3 i j (y * r % 2147483647), by omega, by go_num, ⟨(HM.out.put i j hlt _).drew⟩, ⟨fun t ht => (setE_other L3 i j t _ ht).trans (HO.out t ht)⟩, ⟨fun t ht => ?_⟩, ⟨(HF.out.store (HS3.out.inB i hlt) _).drew⟩⟩
         rw [ent_setE L3 i j t _ (by rw [HM.out.len i hlt]; exact hjl)]
         by_cases e : t = j
         ·subst e; rw [if_pos rfl, if_pos (by omega), HY.out]
         ·rw [if_neg e, HE.out t ht]
          by_cases e2 : t < j
          ·rw [if_pos e2, if_pos (by omega)]
          ·rw [if_neg e2, if_neg (by omega)]
        case measure => simp [intOf]; omega
       ·have e : j = n + n := by omega
        subst e
        have hsc := HS3.out.scale hlt r ⟨hr0, hr1⟩ (by rw [HX3.out]; exact HR2.out) HM.out HO.out (fun j hj => by rw [HE.out j hj, if_pos hj]) HF.out
        have H4 := Aside0.mk hsc.1
        have H41 := Aside0.mk hsc.2
        clear hsc HM HO HE HF
        go_wp2
        go_loopw [88] (fun v wr => ∃ (k : Nat) (L4 : Nat → List Int), k ≤ n ∧ v = .int .i64 k ∧ Aside0 (SInv base go n g M w i g2 L4 wr) ∧ Aside0 (ent L4 i i = 1) ∧ Aside0 (∀ t, t < k → ent L4 t i = dl t i)) (fun v _ => n - (intOf v).toNat)
        case atStart => exact ⟨0, L3, Nat.zero_le _, rfl, H4, H41, ⟨fun t ht => absurd ht (Nat.not_lt_zero _)⟩⟩
        case round =>
         clear H4 H41
         obtain ⟨k4, L4, hk4, rfl, H4, H41, HC⟩ := hrel
         by_cases hk4l : k4 < n
         ·by_cases hki : k4 = i
          ·subst hki
           have hb : ((k4 : Int) == (k4 : Int)) = true := beq_self_eq_true _
           go_wp2
           go_roundw
           case rel =>
            refine ⟨k4 + 1, L4, by omega, by go_num, H4, H41, ⟨fun t ht => ?_⟩⟩
            by_cases e : t = k4
            ·subst e; rw [H41.out, dl_self]
            ·exact HC.out t (by omega)
           case measure => simp [intOf]; omega
          ·have hb : ((k4 : Int) == (i : Int)) = false := beq_eq_false_iff_ne.2 (by omega)
           have o4 := H4.out.mat.outer k4 hk4l
           have c4 := H4.out.mat.inner k4 i hk4l (by omega)
           have hx4r := H4.out.inr k4 hk4l i (by omega)
           generalize hx4 : ent L4 k4 i = x4 at c4 hx4r
           have HX4 := Aside0.mk hx4
           have HKI := Aside0.mk hki
           clear hx4 hki
           by_cases hz4 : x4 = 0
           ·subst hz4
            go_wp2
            go_roundw
            case rel =>
             refine ⟨k4 + 1, L4, by omega, by go_num, H4, H41, ⟨fun t ht => ?_⟩⟩
             by_cases e : t = k4
             ·subst e; rw [HX4.out]; unfold dl; rw [if_neg HKI.out]
             ·exact HC.out t (by omega)
            case measure => simp [intOf]; omega
           ·have hbz : (x4 == 0) = false := beq_eq_false_iff_ne.2 hz4
            clear hz4
            go_wp2
            clear o4 c4
            go_loopw [116] (fun v wr => ∃ (j : Nat) (L5 : Nat → List Int), j ≤ n + n ∧ v = .int .i64 j ∧ Aside0 (Mat wr base go n (n + n) g2 L5) ∧ Aside0 (∀ t, t ≠ k4 → L5 t = L4 t) ∧ Aside0 (∀ t, t < n + n → ent L5 k4 t = if t < j then (ent L4 k4 t - x4 * ent L4 i t) % 2147483647 else ent L4 k4 t) ∧ Aside0 (Fr w wr (Blocks go n g))) (fun v _ => n + n - (intOf v).toNat)
            case atStart => exact ⟨0, L4, Nat.zero_le _, rfl, ⟨H4.out.mat⟩, ⟨fun _ _ => rfl⟩, ⟨fun t _ => by rw [if_neg (Nat.not_lt_zero _)]⟩, ⟨H4.out.fr⟩⟩
            case round =>
             obtain ⟨j, L5, hj, rfl, HM, HO, HE, HF⟩ := hrel
             by_cases hjl : j < n + n
             ·have o4 := HM.out.outer k4 hk4l
              have oi := HM.out.outer i hlt
              have c4 := HM.out.inner k4 j hk4l hjl
              have f4 := HM.out.innerF k4 j hk4l
              have ci := HM.out.inner i j hlt hjl
              have hjI : (j : Int) < ((n + n : Nat) : Int) := by omega
              have hv := HE.out j hjl
              rw [if_neg (Nat.lt_irrefl j)] at hv
              have hv2 : ent L5 i j = ent L4 i j := by unfold ent; rw [HO.out i (fun e => HKI.out e.symm)]
              have hu := H4.out.inr k4 hk4l j hjl
              have hz := H4.out.inr i hlt j hjl
              rw [hv] at c4
              rw [hv2] at ci
              generalize hue : ent L4 k4 j = u at c4 hu
              generalize hze : ent L4 i j = z at ci hz
              have HU := Aside0.mk hue
              have HZZ := Aside0.mk hze
              have hp := prod_bound hx4r hz
              have hw1 : wrap64 (x4 * z) = x4 * z := by unfold wrap64; omega
              have hw2 : wrap64 (u - x4 * z) = u - x4 * z := by unfold wrap64; omega
              have hof : ∀ w, Calls Tryz.prog 28 #[.int .i64 2147483647, .int .i64 (wrap64 (u - wrap64 (x4 * z)))] w fun e w' => e = .returned (.int .i64 ((u - x4 * z) % 2147483647)) ∧ w' = w := fun w => by rw [hw1, hw2]; exact of_any (u - x4 * z) w (by omega)
              have HOF := Aside0.mk hof
              clear hv hv2 hue hze hof hw1 hw2
              go_wp2
              refine start_ (n := 26) (S := fun w' => w'.cell? ⟨go, k4, none⟩ = some (.slice (some ⟨g2 k4, 0, none⟩) (n + n) (n + n)) ∧ w'.cell? ⟨g2 k4, j, none⟩ = some (.int .i64 u) ∧ w'.cell? ⟨go, i, none⟩ = some (.slice (some ⟨g2 i, 0, none⟩) (n + n) (n + n)) ∧ w'.cell? ⟨g2 i, j, none⟩ = some (.int .i64 z)) (ds := [25]) #[false, false, false, false, false, false, false, false, false, false, false, false, false, false, false, false, false, false, false, false, false, false, false, false, false, false] (by kernel_rfl) rfl rfl ⟨o4, c4, oi, ci⟩ (fun hHeld => ?_)
              refine with_tabW solve25.tab solve25.bits (fun HT_ HW_ => ?_)
              have HMd := Aside0.mk HM.out.drew
              have HFd := Aside0.mk HF.out.drew
              have f4d : wr.drew.frozen? ⟨g2 k4, j, none⟩ = false := f4
              clear o4 c4 oi ci f4
              generalize wr.drew = wd at HMd HFd f4d hHeld ⊢
              refine pure_ (i := 0) (N := some 119) (v := ?_) (a' := ?_) #[true, false, false, false, false, false, false, false, false, false, false, false, false, false, false, false, false, false, false, false, false, false, false, false, false, false] rfl rfl (any_of HT_.out (by kernel_rfl)) (fun _ _ _ h => h) (Or.inl ⟨by rfl, ?_⟩) ?_ ?_
              rotate_left
              ·intro w'
               go_simp
               with_reducible rfl
              rotate_left
              ·simp only [Act.put, List.setIfInBounds_toArray, List.set_cons_zero, List.set_cons_succ, i64_w, i32_w]
               rfl
              refine pure_ (i := 1) (N := some 120) (v := ?_) (a' := ?_) #[true, true, false, false, false, false, false, false, false, false, false, false, false, false, false, false, false, false, false, false, false, false, false, false, false, false] rfl rfl (any_of HT_.out (by kernel_rfl)) (fun _ _ _ h => h) (Or.inl ⟨by rfl, ?_⟩) ?_ ?_
              rotate_left
              ·intro w'
               go_simp
               with_reducible rfl
              rotate_left
              ·simp only [Act.put, List.setIfInBounds_toArray, List.set_cons_zero, List.set_cons_succ, i64_w, i32_w]
               rfl
              refine pure_ (i := 2) (N := some 121) (v := ?_) (a' := ?_) #[true, true, true, false, false, false, false, false, false, false, false, false, false, false, false, false, false, false, false, false, false, false, false, false, false, false] rfl rfl (any_of HT_.out (by kernel_rfl)) (fun _ _ _ h => h) (Or.inl ⟨by rfl, ?_⟩) ?_ ?_
              rotate_left
              ·intro w'
               go_simp
               with_reducible rfl
              rotate_left
              ·simp only [Act.put, List.setIfInBounds_toArray, List.set_cons_zero, List.set_cons_succ, i64_w, i32_w]
               rfl
              refine pure_ (i := 4) (N := some 123) (v := ?_) (a' := ?_) #[true, true, true, false, true, false, false, false, false, false, false, false, false, false, false, false, false, false, false, false, false, false, false, false, false, false] rfl rfl (any_of HT_.out (by kernel_rfl)) (fun _ _ _ h => h) (Or.inl ⟨by rfl, ?_⟩) ?_ ?_
              rotate_left
              ·intro w'
               go_simp
               with_reducible rfl
              rotate_left
              ·simp only [Act.put, List.setIfInBounds_toArray, List.set_cons_zero, List.set_cons_succ, i64_w, i32_w]
               rfl
              refine pure_ (i := 5) (N := some 124) (v := ?_) (a' := ?_) #[true, true, true, false, true, true, false, false, false, false, false, false, false, false, false, false, false, false, false, false, false, false, false, false, false, false] rfl rfl (any_of HT_.out (by kernel_rfl)) (fun _ _ _ h => h) (Or.inl ⟨by rfl, ?_⟩) ?_ ?_
              rotate_left
              ·intro w'
               go_simp
               with_reducible rfl
              rotate_left
              ·simp only [Act.put, List.setIfInBounds_toArray, List.set_cons_zero, List.set_cons_succ, i64_w, i32_w]
               rfl
              refine pure_ (i := 6) (N := some 125) (v := ?_) (a' := ?_) #[true, true, true, false, true, true, true, false, false, false, false, false, false, false, false, false, false, false, false, false, false, false, false, false, false, false] rfl rfl (any_of HT_.out (by kernel_rfl)) (fun _ _ _ h => h) (Or.inl ⟨by rfl, ?_⟩) ?_ ?_
              rotate_left
              ·intro w'
               go_simp
               with_reducible rfl
              rotate_left
              ·simp only [Act.put, List.setIfInBounds_toArray, List.set_cons_zero, List.set_cons_succ, i64_w, i32_w]
               rfl
              refine pure_ (i := 7) (N := some 126) (v := ?_) (a' := ?_) #[true, true, true, false, true, true, true, true, false, false, false, false, false, false, false, false, false, false, false, false, false, false, false, false, false, false] rfl rfl (any_of HT_.out (by kernel_rfl)) (fun _ _ _ h => h) (Or.inl ⟨by rfl, ?_⟩) ?_ ?_
              rotate_left
              ·intro w'
               go_simp
               with_reducible rfl
              rotate_left
              ·simp only [Act.put, List.setIfInBounds_toArray, List.set_cons_zero, List.set_cons_succ, i64_w, i32_w]
               rfl
              refine pure_ (i := 8) (N := some 127) (v := ?_) (a' := ?_) #[true, true, true, false, true, true, true, true, true, false, false, false, false, false, false, false, false, false, false, false, false, false, false, false, false, false] rfl rfl (any_of HT_.out (by kernel_rfl)) (fun _ _ _ h => h) (Or.inl ⟨by rfl, ?_⟩) ?_ ?_
              rotate_left
              ·intro w'
               go_simp
               with_reducible rfl
              rotate_left
              ·simp only [Act.put, List.setIfInBounds_toArray, List.set_cons_zero, List.set_cons_succ, i64_w, i32_w]
               rfl
              refine pure_ (i := 10) (N := some 129) (v := ?_) (a' := ?_) #[true, true, true, false, true, true, true, true, true, false, true, false, false, false, false, false, false, false, false, false, false, false, false, false, false, false] rfl rfl (any_of HT_.out (by kernel_rfl)) (fun _ _ _ h => h) (Or.inl ⟨by rfl, ?_⟩) ?_ ?_
              rotate_left
              ·intro w'
               go_simp
               with_reducible rfl
              rotate_left
              ·simp only [Act.put, List.setIfInBounds_toArray, List.set_cons_zero, List.set_cons_succ, i64_w, i32_w]
               rfl
              refine pure_ (i := 13) (N := some 132) (v := ?_) (a' := ?_) #[true, true, true, false, true, true, true, true, true, false, true, false, false, true, false, false, false, false, false, false, false, false, false, false, false, false] rfl rfl (any_of HT_.out (by kernel_rfl)) (fun _ _ _ h => h) (Or.inl ⟨by rfl, ?_⟩) ?_ ?_
              rotate_left
              ·intro w'
               go_simp
               with_reducible rfl
              rotate_left
              ·simp only [Act.put, List.setIfInBounds_toArray, List.set_cons_zero, List.set_cons_succ, i64_w, i32_w]
               rfl
              refine pure_ (i := 14) (N := some 133) (v := ?_) (a' := ?_) #[true, true, true, false, true, true, true, true, true, false, true, false, false, true, true, false, false, false, false, false, false, false, false, false, false, false] rfl rfl (any_of HT_.out (by kernel_rfl)) (fun _ _ _ h => h) (Or.inl ⟨by rfl, ?_⟩) ?_ ?_
              rotate_left
              ·intro w'
               go_simp
               with_reducible rfl
              rotate_left
              ·simp only [Act.put, List.setIfInBounds_toArray, List.set_cons_zero, List.set_cons_succ, i64_w, i32_w]
               rfl
              refine pure_ (i := 15) (N := some 134) (v := ?_) (a' := ?_) #[true, true, true, false, true, true, true, true, true, false, true, false, false, true, true, true, false, false, false, false, false, false, false, false, false, false] rfl rfl (any_of HT_.out (by kernel_rfl)) (fun _ _ _ h => h) (Or.inl ⟨by rfl, ?_⟩) ?_ ?_
              rotate_left
              ·intro w'
               go_simp
               with_reducible rfl
              rotate_left
              ·simp only [Act.put, List.setIfInBounds_toArray, List.set_cons_zero, List.set_cons_succ, i64_w, i32_w]
               rfl
              refine pure_ (i := 16) (N := some 135) (v := ?_) (a' := ?_) #[true, true, true, false, true, true, true, true, true, false, true, false, false, true, true, true, true, false, false, false, false, false, false, false, false, false] rfl rfl (any_of HT_.out (by kernel_rfl)) (fun _ _ _ h => h) (Or.inl ⟨by rfl, ?_⟩) ?_ ?_
              rotate_left
              ·intro w'
               go_simp
               with_reducible rfl
              rotate_left
              ·simp only [Act.put, List.setIfInBounds_toArray, List.set_cons_zero, List.set_cons_succ, i64_w, i32_w]
               rfl
              refine pure_ (i := 18) (N := some 137) (v := ?_) (a' := ?_) #[true, true, true, false, true, true, true, true, true, false, true, false, false, true, true, true, true, false, true, false, false, false, false, false, false, false] rfl rfl (any_of HT_.out (by kernel_rfl)) (fun _ _ _ h => h) (Or.inl ⟨by rfl, ?_⟩) ?_ ?_
              rotate_left
              ·intro w'
               go_simp
               with_reducible rfl
              rotate_left
              ·simp only [Act.put, List.setIfInBounds_toArray, List.set_cons_zero, List.set_cons_succ, i64_w, i32_w]
               rfl
              refine take_ (i := 3) (N := some 122) (v := ?_) (a' := ?_) #[true, true, true, true, true, true, true, true, true, false, true, false, false, true, true, true, true, false, true, false, false, false, false, false, false, false] rfl rfl (take_ofW HT_.out HW_.out (by kernel_rfl)) (fun _ _ _ h => h) (Or.inl ⟨by rfl, ?_⟩) hHeld ?_ ?_
              rotate_left
              ·rintro w' ⟨s0, s1, s2, s3⟩
               go_simp
               with_reducible rfl
              rotate_left
              ·simp only [Act.put, List.setIfInBounds_toArray, List.set_cons_zero, List.set_cons_succ, i64_w, i32_w]
               rfl
              refine take_ (i := 9) (N := some 128) (v := ?_) (a' := ?_) #[true, true, true, true, true, true, true, true, true, true, true, false, false, true, true, true, true, false, true, false, false, false, false, false, false, false] rfl rfl (take_ofW HT_.out HW_.out (by kernel_rfl)) (fun _ _ _ h => h) (Or.inl ⟨by rfl, ?_⟩) hHeld ?_ ?_
              rotate_left
              ·rintro w' ⟨s0, s1, s2, s3⟩
               go_simp
               with_reducible rfl
              rotate_left
              ·simp only [Act.put, List.setIfInBounds_toArray, List.set_cons_zero, List.set_cons_succ, i64_w, i32_w]
               rfl
              refine pure_ (i := 11) (N := some 130) (v := ?_) (a' := ?_) #[true, true, true, true, true, true, true, true, true, true, true, true, false, true, true, true, true, false, true, false, false, false, false, false, false, false] rfl rfl (any_of HT_.out (by kernel_rfl)) (fun _ _ _ h => h) (Or.inl ⟨by rfl, ?_⟩) ?_ ?_
              rotate_left
              ·intro w'
               go_simp
               with_reducible rfl
              rotate_left
              ·simp only [Act.put, List.setIfInBounds_toArray, List.set_cons_zero, List.set_cons_succ, i64_w, i32_w]
               rfl
              refine take_ (i := 12) (N := some 131) (v := ?_) (a' := ?_) #[true, true, true, true, true, true, true, true, true, true, true, true, true, true, true, true, true, false, true, false, false, false, false, false, false, false] rfl rfl (take_ofW HT_.out HW_.out (by kernel_rfl)) (fun _ _ _ h => h) (Or.inl ⟨by rfl, ?_⟩) hHeld ?_ ?_
              rotate_left
              ·rintro w' ⟨s0, s1, s2, s3⟩
               go_simp
               with_reducible rfl
              rotate_left
              ·simp only [Act.put, List.setIfInBounds_toArray, List.set_cons_zero, List.set_cons_succ, i64_w, i32_w]
               rfl
              refine take_ (i := 17) (N := some 136) (v := ?_) (a' := ?_) #[true, true, true, true, true, true, true, true, true, true, true, true, true, true, true, true, true, true, true, false, false, false, false, false, false, false] rfl rfl (take_ofW HT_.out HW_.out (by kernel_rfl)) (fun _ _ _ h => h) (Or.inl ⟨by rfl, ?_⟩) hHeld ?_ ?_
              rotate_left
              ·rintro w' ⟨s0, s1, s2, s3⟩
               go_simp
               with_reducible rfl
              rotate_left
              ·simp only [Act.put, List.setIfInBounds_toArray, List.set_cons_zero, List.set_cons_succ, i64_w, i32_w]
               rfl
              refine pure_ (i := 19) (N := some 138) (v := ?_) (a' := ?_) #[true, true, true, true, true, true, true, true, true, true, true, true, true, true, true, true, true, true, true, true, false, false, false, false, false, false] rfl rfl (any_of HT_.out (by kernel_rfl)) (fun _ _ _ h => h) (Or.inl ⟨by rfl, ?_⟩) ?_ ?_
              rotate_left
              ·intro w'
               go_simp
               with_reducible rfl
              rotate_left
              ·simp only [Act.put, List.setIfInBounds_toArray, List.set_cons_zero, List.set_cons_succ, i64_w, i32_w]
               rfl
              refine take_ (i := 20) (N := some 139) (v := ?_) (a' := ?_) #[true, true, true, true, true, true, true, true, true, true, true, true, true, true, true, true, true, true, true, true, true, false, false, false, false, false] rfl rfl (take_ofW HT_.out HW_.out (by kernel_rfl)) (fun _ _ _ h => h) (Or.inl ⟨by rfl, ?_⟩) hHeld ?_ ?_
              rotate_left
              ·rintro w' ⟨s0, s1, s2, s3⟩
               go_simp
               with_reducible rfl
              rotate_left
              ·simp only [Act.put, List.setIfInBounds_toArray, List.set_cons_zero, List.set_cons_succ, i64_w, i32_w]
               rfl
              refine pure_ (i := 21) (N := some 140) (v := ?_) (a' := ?_) #[true, true, true, true, true, true, true, true, true, true, true, true, true, true, true, true, true, true, true, true, true, true, false, false, false, false] rfl rfl (any_of HT_.out (by kernel_rfl)) (fun _ _ _ h => h) (Or.inl ⟨by rfl, ?_⟩) ?_ ?_
              rotate_left
              ·intro w'
               go_simp
               with_reducible rfl
              rotate_left
              ·simp only [Act.put, List.setIfInBounds_toArray, List.set_cons_zero, List.set_cons_succ, i64_w, i32_w]
               rfl
              refine pure_ (i := 22) (N := some 141) (v := ?_) (a' := ?_) #[true, true, true, true, true, true, true, true, true, true, true, true, true, true, true, true, true, true, true, true, true, true, true, false, false, false] rfl rfl (any_of HT_.out (by kernel_rfl)) (fun _ _ _ h => h) (Or.inl ⟨by rfl, ?_⟩) ?_ ?_
              rotate_left
              ·intro w'
               go_simp
               with_reducible rfl
              rotate_left
              ·simp only [Act.put, List.setIfInBounds_toArray, List.set_cons_zero, List.set_cons_succ, i64_w, i32_w]
               rfl
              refine one_ (i := 23) (N := some 142) #[true, true, true, true, true, true, true, true, true, true, true, true, true, true, true, true, true, true, true, true, true, true, true, true, false, false] rfl rfl (one_of HT_.out (by kernel_rfl)) (by decide) (fun K hK => ?_)
              refine goes_ Tryz.func28 (by kernel_rfl) rfl #[.int .i64 2147483647, .int .i64 (wrap64 (u - wrap64 (x4 * z)))] (by rfl) rfl rfl (by (try simp only [List.map_toArray, List.map_cons, List.map_nil]); first | done | rfl) ?_
              with_reducible refine (HOF.out _).mono ?_
              rintro e w5 ⟨rfl, rfl⟩
              refine ⟨_, rfl, ?_⟩
              refine hK.out _ _ hHeld (fun hHeld => ?_)
              clear hK K
              refine pure_ (i := 24) (N := some 143) (v := ?_) (a' := ?_) #[true, true, true, true, true, true, true, true, true, true, true, true, true, true, true, true, true, true, true, true, true, true, true, true, true, false] rfl rfl (any_of HT_.out (by kernel_rfl)) (fun _ _ _ h => h) (Or.inl ⟨by rfl, ?_⟩) ?_ ?_
              rotate_left
              ·intro w'
               go_simp
               with_reducible rfl
              rotate_left
              ·simp only [Act.put, List.setIfInBounds_toArray, List.set_cons_zero, List.set_cons_succ, i64_w, i32_w]
               rfl
              refine last_ (i := 25) (N := none) #[true, true, true, true, true, true, true, true, true, true, true, true, true, true, true, true, true, true, true, true, true, true, true, true, true, true] rfl rfl (one_of HT_.out (by kernel_rfl)) (by decide) (fun K hK => ?_)
              refine skip_ (w1 := ?_) (by rfl) rfl ?_ ?_
              rotate_left
              ·go_simp
               rfl
              refine hK.out _ _ ?_
              clear hK K
              refine done_ (done_of HT_.out (by kernel_rfl)) ?_
              try go_wp2
              go_roundw
              case rel =>
               refine ⟨j + 1, setE L5 k4 j ((u - x4 * z) % 2147483647), by omega, by go_num, ⟨HMd.out.put k4 j hk4l _⟩, ⟨fun t ht => (setE_other L5 k4 j t _ ht).trans (HO.out t ht)⟩, ⟨fun t ht => ?_⟩, ⟨HFd.out.store (H4.out.inB k4 hk4l) _⟩⟩
               rw [ent_setE L5 k4 j t _ (by rw [HM.out.len k4 hk4l]; exact hjl)]
               by_cases e : t = j
               ·subst e; rw [if_pos rfl, if_pos (by omega), HU.out, HZZ.out]
               ·rw [if_neg e, HE.out t ht]
                by_cases e2 : t < j
                ·rw [if_pos e2, if_pos (by omega)]
                ·rw [if_neg e2, if_neg (by omega)]
              case measure => simp [intOf]; omega
             ·have e : j = n + n := by omega
              subst e
              have hel := H4.out.elim hlt H41.out k4 hk4l HKI.out HM.out HO.out (fun j hj => by rw [HE.out j hj, if_pos hj, HX4.out]) HF.out
              have H6 := Aside0.mk hel
              have HO6 : Aside0 (∀ t, t ≠ k4 → ent L5 t i = ent L4 t i) := ⟨fun t ht => by unfold ent; rw [HO.out t ht]⟩
              clear hel HM HO HE HF
              go_wp2
              go_roundw
              case rel =>
               refine ⟨k4 + 1, L5, by omega, by go_num, ⟨H6.out.1⟩, ⟨H6.out.2.1⟩, ⟨fun t ht => ?_⟩⟩
               by_cases e : t = k4
               ·subst e; rw [H6.out.2.2]; unfold dl; rw [if_neg HKI.out]
               ·rw [HO6.out t e]; exact HC.out t (by omega)
              case measure => simp [intOf]; omega
         ·have e : k4 = n := by omega
          subst e
          have H7 := Aside0.mk (H4.out.next HC.out)
          go_wp2
          go_roundw
          case rel => exact ⟨i + 1, g2, L4, by omega, by go_num, H7⟩
          case measure => simp [intOf]; omega
    ·have e : k = n := by omega
     subst e
     go_wp2
     go_ret
     exact .inl ⟨rfl, HS.out.stuck hlt HZ.out, HS.out.fr⟩
  ·have e : i = n := by omega
   subst e
   go_wp2
   go_ret
   exact .inr ⟨rfl, g1, L1, HS.out⟩
end Go.Proofs.YtcefaofknaeaeaaGreatDoor.X
