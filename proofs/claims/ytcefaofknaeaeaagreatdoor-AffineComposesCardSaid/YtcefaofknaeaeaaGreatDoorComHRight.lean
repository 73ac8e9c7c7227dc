/- (demotic/affine.Map).right: whether a map is right: its contract. No conditions besides those that it names. -/
import Derived.Test.YtcefaofknaeaeaaGreatDoorComX0
import Derived.WalkLawsBesides
import Derived.Outline
set_option linter.unusedVariables false
set_option linter.unusedSimpArgs false
namespace Go.Proofs.YtcefaofknaeaeaaGreatDoor.X
open Go.RowKit Go.Proofs.YtcefaofknaeaeaaGreatDoorW.PrintWords Go.Proofs.YtcefaofknaeaeaaGreatDoorW.PrintLast Go.Proofs.YtcefaofknaeaeaaGreatDoorW.PrintMore
def smallB (n : Int) : Bool := decide (-1000000 ≤ n) && decide (n ≤ 1000000)
def rightB (d : Int) (l : List (List Int)) : Bool :=
 decide (0 ≤ d) && decide (d ≤ 6) && decide (l.length ≤ 6) && l.all fun r => decide ((r.length : Int) = d + 1) && r.all smallB
theorem right1_any (n : Int) (w : World) : Calls Tryz.prog 47 #[.int .i64 n] w fun e w' => e = .returned (.bool (!smallB n)) ∧ w = w' := by
 by_cases h1 : -1000000 ≤ n
 ·have e1 : decide (-1000000 ≤ n) = true := decide_eq_true h1
  by_cases h2 : n ≤ 1000000
  ·have e2 : decide (n ≤ 1000000) = true := decide_eq_true h2
   have hs : smallB n = true := by simp [smallB, h1, h2]
   have HS := Aside0.mk hs
   clear hs
   go_enter Tryz.func47, Tryz.ntmps47
   go_wp2
   go_ret
   exact ⟨by rw [HS.out]; rfl, rfl⟩
  ·have e2 : decide (n ≤ 1000000) = false := decide_eq_false h2
   have hs : smallB n = false := by simp [smallB, h2]
   have HS := Aside0.mk hs
   clear hs
   go_enter Tryz.func47, Tryz.ntmps47
   go_wp2
   go_ret
   exact ⟨by rw [HS.out]; rfl, rfl⟩
 ·have e1 : decide (-1000000 ≤ n) = false := decide_eq_false h1
  have hs : smallB n = false := by simp [smallB, h1]
  have HS := Aside0.mk hs
  clear hs
  go_enter Tryz.func47, Tryz.ntmps47
  go_wp2
  go_ret
  exact ⟨by rw [HS.out]; rfl, rfl⟩
theorem at_int {k : IntKind} {w : World} {A : Option Addr} {n : Nat} {xs : List Int} (h : (Kd.int k).C w A n xs) (i : Nat) (h1 : i < n) : ∃ ad, A = some ad ∧ w.cell? (ad.add i) = some (.int k (xs.getD i 0)) := by
 obtain ⟨ad, e, hc⟩ := (Kd.reads_of_C (d := (0 : Int)) h).2.2 (by omega)
 exact ⟨ad, e, hc i h1⟩
theorem getD_lt {xs : List Int} {j : Nat} (h : j < xs.length) : xs.getD j 0 = xs[j] := by rw [List.getD_eq_getElem?_getD, List.getElem?_eq_getElem h]; rfl
def firstBad (xs : List Int) : Int := match xs.findIdx? (fun n => !smallB n) with
 | some i => i
 | none => -1
theorem firstBad_none {xs : List Int} (h : ∀ j, j < xs.length → smallB (xs.getD j 0) = true) : firstBad xs = -1 ∧ xs.all smallB = true := by
 have hall : xs.all smallB = true := by
  rw [List.all_eq_true]
  intro x hx
  obtain ⟨j, hj, rfl⟩ := List.getElem_of_mem hx
  have := h j hj
  rwa [getD_lt hj] at this
 refine ⟨?_, hall⟩
 unfold firstBad
 rw [List.findIdx?_eq_none_iff.2 (fun x hx => by simpa using List.all_eq_true.1 hall x hx)]
theorem firstBad_some {xs : List Int} (k : Nat) (hk : k < xs.length) (h : ∀ j, j < k → smallB (xs.getD j 0) = true) (hb : smallB (xs.getD k 0) = false) : firstBad xs = k ∧ xs.all smallB = false := by
 have e : xs.findIdx? (fun n => !smallB n) = some k := by
  rw [List.findIdx?_eq_some_iff_getElem]
  refine ⟨hk, by rw [getD_lt hk] at hb; simpa using hb, fun j hj => ?_⟩
  have := h j hj
  rw [getD_lt (by omega)] at this
  simpa using this
 refine ⟨by unfold firstBad; rw [e], ?_⟩
 rw [getD_lt hk] at hb
 rw [List.all_eq_false]
 exact ⟨_, List.getElem_mem hk, by rw [hb]; decide⟩
set_option maxHeartbeats 1000000 in
theorem indexFunc_any (A : Option Addr) (c : Nat) (xs : List Int) (w : World) (hr : (Kd.int .i64).C w A xs.length xs) :
  Calls Tryz.prog 66 #[.slice A xs.length c, .func (.func 47) #[] #[]] w fun e w' => e = .returned (.int .i64 (firstBad xs)) ∧ w = w' := by
 have hm : xs.length ≤ 9223372036854775807 := hr.2.1
 have HR := Aside0.mk hr
 clear hr
 go_enter Tryz.func66, Tryz.ntmps66
 go_wp2
 go_loop [5, 8] (fun _ i => ∃ k : Nat, k ≤ xs.length ∧ i = .int .i64 k ∧ Aside0 (∀ j, j < k → smallB (xs.getD j 0) = true)) (fun _ i => xs.length - (intOf i).toNat)
 case atStart => exact ⟨0, Nat.zero_le _, rfl, ⟨fun j hj => absurd hj (Nat.not_lt_zero _)⟩⟩
 case round =>
  obtain ⟨k, hk, rfl, HA⟩ := hrel
  by_cases hlt : k < xs.length
  ·obtain ⟨ad, rfl, hc⟩ := at_int HR.out k hlt
   generalize hx : xs.getD k 0 = x at hc
   have HX := Aside0.mk hx
   clear hx
   cases hs : smallB x with
   | true =>
    have HS := Aside0.mk hs
    clear hs
    have hcall := right1_any x
    rw [HS.out] at hcall
    go_wp2_with (first | (go_at_call 47; refine (hcall _).mono ?_; rintro e w' ⟨rfl, rfl⟩))
    go_round
    case rel =>
     refine ⟨k + 1, by omega, by go_num, ⟨fun j hj => ?_⟩⟩
     by_cases e : j = k
     ·subst e; rw [HX.out]; exact HS.out
     ·exact HA.out j (by omega)
    case measure => simp [intOf]; omega
   | false =>
    have HS := Aside0.mk hs
    clear hs
    have hcall := right1_any x
    rw [HS.out] at hcall
    go_wp2_with (first | (go_at_call 47; refine (hcall _).mono ?_; rintro e w' ⟨rfl, rfl⟩))
    go_ret
    refine ⟨?_, rfl⟩
    rw [(firstBad_some k hlt HA.out (by rw [HX.out]; exact HS.out)).1]; rfl
  ·have e : k = xs.length := by omega
   subst e
   go_wp2
   go_ret
   refine ⟨?_, rfl⟩
   rw [(firstBad_none HA.out).1]; rfl
theorem firstBad_all (xs : List Int) : decide (0 ≤ firstBad xs) = !xs.all smallB := by
 unfold firstBad
 cases e : xs.findIdx? (fun n => !smallB n) with
 | none =>
  have : xs.all smallB = true := by
   rw [List.findIdx?_eq_none_iff] at e
   rw [List.all_eq_true]
   intro x hx
   simpa using e x hx
  rw [this]; rfl
 | some i =>
  have : xs.all smallB = false := by
   rw [List.findIdx?_eq_some_iff_getElem] at e
   obtain ⟨hi, h, _⟩ := e
   rw [List.all_eq_false]
   exact ⟨_, List.getElem_mem hi, by simpa using h⟩
  rw [this]; simp
set_option maxHeartbeats 1000000 in
theorem containsFunc_any (A : Option Addr) (c : Nat) (xs : List Int) (w : World) (hr : (Kd.int .i64).C w A xs.length xs) :
  Calls Tryz.prog 46 #[.slice A xs.length c, .func (.func 47) #[] #[]] w fun e w' => e = .returned (.bool (!xs.all smallB)) ∧ w = w' := by
 have H := indexFunc_any A c xs w hr
 have HB := Aside0.mk (firstBad_all xs)
 generalize firstBad xs = v at H HB
 generalize (!xs.all smallB) = b at HB
 have HH := Aside0.mk H
 clear H hr
 go_enter Tryz.func46, Tryz.ntmps46
 go_wp2_with (first | (go_at_call 66; refine HH.out.mono ?_; rintro e w' ⟨rfl, rfl⟩))
 go_ret
 exact ⟨by rw [HB.out]; rfl, rfl⟩
def affine_Map_right.f (a0_0 : Int) (l0_1 : List (List Int)) : Option Bool := some (rightB a0_0 l0_1)
theorem rightB_no {d : Int} {l : List (List Int)} (h : d < 0 ∨ 6 < d ∨ 6 < l.length) : rightB d l = false := by
 unfold rightB
 rcases h with h | h | h
 ·rw [decide_eq_false (show ¬ 0 ≤ d by omega)]; rfl
 ·rw [decide_eq_false (show ¬ d ≤ 6 by omega)]; simp
 ·rw [decide_eq_false (show ¬ l.length ≤ 6 by omega)]; simp
def rowB (d : Int) (r : List Int) : Bool := decide ((r.length : Int) = d + 1) && r.all smallB
theorem rightB_rows {d : Int} {l : List (List Int)} (h0 : 0 ≤ d) (h1 : d ≤ 6) (h2 : l.length ≤ 6) : rightB d l = l.all (rowB d) := by
 unfold rightB
 rw [decide_eq_true h0, decide_eq_true h1, decide_eq_true h2]
 rfl
theorem rd_L1_at {l : List (List Int)} {k : Nat} (h : k < l.length) : rd_L1 l k = l[k] := by
 unfold rd_L1
 rw [Int.toNat_natCast, List.getD_eq_getElem?_getD, List.getElem?_eq_getElem h]; rfl
theorem rows_all {d : Int} {l : List (List Int)} (h : ∀ j : Nat, j < l.length → rowB d (rd_L1 l j) = true) : l.all (rowB d) = true := by
 rw [List.all_eq_true]
 intro x hx
 obtain ⟨j, hj, rfl⟩ := List.getElem_of_mem hx
 have := h j hj
 rwa [rd_L1_at hj] at this
theorem rows_not {d : Int} {l : List (List Int)} (k : Nat) (hk : k < l.length) (h : rowB d (rd_L1 l k) = false) : l.all (rowB d) = false := by
 rw [List.all_eq_false]
 rw [rd_L1_at hk] at h
 exact ⟨_, List.getElem_mem hk, by rw [h]; decide⟩
set_option maxHeartbeats 4000000 in
set_option maxRecDepth 100000 in
theorem affine_Map_right.calls (a0_0 : Int) (A0_1 : Option Addr) (c0_1 : Nat) (l0_1 : List (List Int)) (r : Bool) (w : World) (hr0_1 : Kd.C (Kd.slice 2 (Kd.int .i64)) w A0_1 l0_1.length l0_1) (hc0_1 : l0_1.length ≤ c0_1) (h : affine_Map_right.f a0_0 l0_1 = some r) :
  Calls Tryz.prog 25 #[.agg #[.int .i64 a0_0, .slice A0_1 l0_1.length c0_1]] w fun e w' => e = .returned (.bool r) ∧ Below w.heap.size w w' := by
 have hm : l0_1.length ≤ 9223372036854775807 := hr0_1.2.1
 have HR := Aside0.mk hr0_1
 have HD := Aside0.mk hc0_1
 have H : Aside0 (rightB a0_0 l0_1 = r) := ⟨by unfold affine_Map_right.f at h; exact Option.some.inj h⟩
 clear hr0_1 h hc0_1
 have HW := Aside0.mk (below_alloc (Below.refl w.heap.size w) (.cells #[.int .i64 a0_0, .slice A0_1 l0_1.length c0_1] 24))
 by_cases h1 : a0_0 < 0
 ·go_enter Tryz.func25, Tryz.ntmps25
  go_wp2
  go_ret
  exact ⟨by rw [← H.out, rightB_no (.inl h1)]; rfl, HW.out⟩
 ·by_cases h2 : 6 < a0_0
  ·go_enter Tryz.func25, Tryz.ntmps25
   go_wp2
   go_ret
   exact ⟨by rw [← H.out, rightB_no (.inr (.inl h2))]; rfl, HW.out⟩
  ·by_cases h3 : 6 < l0_1.length
   ·go_enter Tryz.func25, Tryz.ntmps25
    go_wp2
    ·go_ret
     exact ⟨by rw [← H.out, rightB_no (.inr (.inr h3))]; rfl, HW.out⟩
   ·have HE : Aside0 (rightB a0_0 l0_1 = l0_1.all (rowB a0_0)) := ⟨rightB_rows (by omega) (by omega) (by omega)⟩
    have h3' : decide ((6 : Int) < (l0_1.length : Int)) = false := decide_eq_false (by omega)
    go_enter Tryz.func25, Tryz.ntmps25
    go_wp2
    go_loop [4, 22] (fun _ i => ∃ k : Nat, k ≤ l0_1.length ∧ i = .int .i64 k ∧ Aside0 (∀ j : Nat, j < k → rowB a0_0 (rd_L1 l0_1 j) = true)) (fun _ i => l0_1.length - (intOf i).toNat)
    case atStart => exact ⟨0, Nat.zero_le _, rfl, ⟨fun j hj => absurd hj (Nat.not_lt_zero _)⟩⟩
    case round =>
     obtain ⟨k, hk, rfl, HA⟩ := hrel
     by_cases hlt : k < l0_1.length
     ·obtain ⟨ad, A0, c0, e, hx, hl, hi⟩ := at_L1 HR.out k (by omega) (by omega)
      cases e
      rw [Int.toNat_natCast] at hx
      replace hx := (HW.out.cell (World.block_lt_of_cell? w _ hx)).trans hx
      have hxm : (rd_L1 l0_1 k).length ≤ 9223372036854775807 := hi.2.1
      replace hi := Kd.C_below hi HW.out
      generalize hrow : rd_L1 l0_1 k = row at hx hl hi hxm
      have HROW := Aside0.mk hrow
      have HI := Aside0.mk hi
      clear hrow hi hl
      by_cases hlen : (row.length : Int) = a0_0 + 1
      ·have hb1 : ((row.length : Int) == a0_0 + 1) = true := beq_iff_eq.2 hlen
       have hb2 : ((row.length : Int) != a0_0 + 1) = false := bne_eq_false_iff_eq.2 hlen
       have HLEN := Aside0.mk hlen
       clear hlen
       cases hall : row.all smallB with
       | true =>
        have HALL := Aside0.mk hall
        clear hall
        have hcall := containsFunc_any A0 c0 row _ HI.out
        rw [HALL.out] at hcall
        have HC := Aside0.mk hcall
        clear hcall
        go_wp2_with (first | (go_at_call 46; refine HC.out.mono ?_; rintro e w' ⟨rfl, rfl⟩))
        go_round
        case rel =>
         refine ⟨k + 1, by omega, by go_num, ⟨fun j hj => ?_⟩⟩
         by_cases e : j = k
         ·subst e; rw [HROW.out]; unfold rowB; rw [HALL.out, decide_eq_true HLEN.out]; rfl
         ·exact HA.out j (by omega)
        case measure => simp [intOf]; omega
       | false =>
        have HALL := Aside0.mk hall
        clear hall
        have hcall := containsFunc_any A0 c0 row _ HI.out
        rw [HALL.out] at hcall
        have HC := Aside0.mk hcall
        clear hcall
        go_wp2_with (first | (go_at_call 46; refine HC.out.mono ?_; rintro e w' ⟨rfl, rfl⟩))
        go_ret
        exact ⟨by rw [← H.out, HE.out, rows_not k hlt (by rw [HROW.out]; unfold rowB; rw [HALL.out]; simp)]; rfl, HW.out⟩
      ·have hb1 : ((row.length : Int) == a0_0 + 1) = false := beq_eq_false_iff_ne.2 hlen
       have hb2 : ((row.length : Int) != a0_0 + 1) = true := by rw [bne_iff_ne]; exact hlen
       have HLEN := Aside0.mk hlen
       clear hlen
       go_wp2
       go_ret
       exact ⟨by rw [← H.out, HE.out, rows_not k hlt (by rw [HROW.out]; unfold rowB; rw [decide_eq_false HLEN.out]; rfl)]; rfl, HW.out⟩
     ·have e : k = l0_1.length := by omega
      subst e
      go_wp2
      go_ret
      exact ⟨by rw [← H.out, HE.out, rows_all HA.out]; rfl, HW.out⟩
end Go.Proofs.YtcefaofknaeaeaaGreatDoor.X
