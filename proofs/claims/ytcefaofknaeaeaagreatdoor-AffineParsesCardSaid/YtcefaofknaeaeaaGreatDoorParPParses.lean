/- What the law AffineParses computes, as told by the print: it returns true; plain Lean. -/
import Derived.Test.YtcefaofknaeaeaaGreatDoorParPRParseB
import Derived.Test.YtcefaofknaeaeaaGreatDoorParXp
set_option linter.unusedVariables false
set_option linter.unusedSimpArgs false
set_option linter.unusedSectionVars false
namespace Go.Proofs.YtcefaofknaeaeaaGreatDoor.X
open Go.RowKit Go.Proofs.YtcefaofknaeaeaaGreatDoorW.PrintWords Go.Proofs.YtcefaofknaeaeaaGreatDoorW.PrintLast Go.Proofs.YtcefaofknaeaeaaGreatDoorW.PrintMore
theorem trimP_len (x p : List UInt8) : (Lib.trimPrefix x p).length ≤ x.length := by
 unfold Lib.trimPrefix
 split
 ·rw [List.length_drop]; omega
 ·exact Nat.le_refl _
theorem trimS_len (x p : List UInt8) : (Lib.trimSuffix x p).length ≤ x.length := by
 unfold Lib.trimSuffix
 split
 ·rw [List.length_take]; omega
 ·exact Nat.le_refl _
theorem cutS_len (s sep : List UInt8) : (Lib.cut s sep).1.length ≤ s.length ∧ (Lib.cut s sep).2.1.length ≤ s.length := by
 unfold Lib.cut
 split
 ·exact ⟨by rw [List.length_take]; omega, by rw [List.length_drop]; omega⟩
 ·exact ⟨Nat.le_refl _, by simp⟩
theorem inner_any (x : List UInt8) (hx : x.length ≤ 1000) : ∃ ps, affine_inner.f (bs x) = some ps ∧ ∀ p ∈ ps, p.size ≤ 1000 := by
 unfold affine_inner.f strings_TrimPrefix.f strings_TrimSuffix.f strings_Split.f
 rw [show (⟨#[40]⟩ : ByteArray).data.toList = [40] from rfl, show (⟨#[41]⟩ : ByteArray).data.toList = [41] from rfl]
 simp only [Option.bind_some, bs_data]
 have h1 := trimP_len x [40]
 have h2 := trimS_len (Lib.trimPrefix x [40]) [41]
 rw [if_pos (by rw [bs_size]; omega)]
 simp only [Option.bind_some]
 by_cases c : (bs (Lib.trimSuffix (Lib.trimPrefix x [40]) [41])).toList = []
 ·rw [if_pos c]
  exact ⟨[], rfl, fun p hp => by simp at hp⟩
 ·rw [if_neg c, if_pos ⟨by rw [bs_size]; omega, by decide⟩]
  simp only [Option.bind_some]
  refine ⟨_, rfl, fun p hp => ?_⟩
  have := splitB_size _ _ _ p hp
  have e9 := bs_size (Lib.trimSuffix (Lib.trimPrefix x [40]) [41])
  omega
section
variable (s : List UInt8) (hs : s.length ≤ 1000) (hno : ∀ (d : Int) (l : List (List Int)), rightB d l = true → printS d.toNat l ≠ s)
include hs hno
theorem parse_l0_no (ps : List ByteArray) (h6 : ps.length ≤ 6) (hps : ∀ p ∈ ps, p.size ≤ 1000) (n : Nat) (hn : n ≤ 6) : ∀ (e i : Nat), i + e = ps.length → ∀ rows : List (List Int), rows.length ≤ i → Ev (fun k => affine_Parse.l0 k (bs s) ps (ps.length : Int) (i : Int) n rows) (0, [], 190)
 | 0, i, hi, rows, hr => by
  refine Ev.step (f := fun _ => some (0, [], 190)) (fun k => ?_) (Ev.now _)
  simp only [affine_Parse.l0]
  rw [if_neg (by omega)]
  unfold affine_Print.f
  cases hb : rightB n rows with
  | false => rfl
  | true =>
   rw [if_pos rfl]
   simp only [Option.bind_some]
   rw [if_pos trivial, if_neg]
   rw [bs_toList, bs_toList]
   exact hno n rows hb
 | e + 1, i, hi, rows, hr => by
  have hil : i < ps.length := by omega
  have hsz := hps ps[i] (List.getElem_mem hil)
  have ih := parse_l0_no ps h6 hps n hn e (i + 1) (by omega) (rows ++ [rowT n ps[i]]) (by rw [List.length_append, List.length_singleton]; omega)
  have e1 : rdOf ByteArray.empty ps (i : Int) = ps[i] := by
   unfold rdOf
   rw [Int.toNat_natCast, List.getD_eq_getElem?_getD, List.getElem?_eq_getElem hil]; rfl
  have hread : affine_readRow.f (rdOf ByteArray.empty ps (i : Int)) (n : Int) = some (rowT n ps[i]) := by
   unfold affine_readRow.f
   rw [e1, if_pos ⟨by omega, by omega, by omega⟩, Int.toNat_natCast]
  refine Ev.step (fun k => ?_) ih
  simp only [affine_Parse.l0]
  rw [if_pos (by omega), if_pos (by omega), if_pos (by omega), hread]
  simp only [Option.bind_some]
  rw [if_pos (by omega), wrap_id (by omega) (by omega)]
  rfl
theorem parse_no : Ev (fun k => affine_Parse.f k (bs s)) (0, [], 190) := by
 obtain ⟨h1, h2⟩ := cutS_len s [32, 45, 62, 32]
 obtain ⟨p1, e1, hp1⟩ := inner_any _ (Nat.le_trans h1 hs)
 obtain ⟨p2, e2, hp2⟩ := inner_any _ (Nat.le_trans h2 hs)
 have hbad : Ev (fun k => affine_Parse.j0 k (bs s) (bs (Lib.cut s [32, 45, 62, 32]).1) (bs (Lib.cut s [32, 45, 62, 32]).2.1) true) (0, [], 190) :=
  Ev.step (f := fun _ => some (0, [], 190)) (fun k => by simp only [affine_Parse.j0]; rw [if_pos trivial]) (Ev.now _)
 have hj1 : ∀ t : Bool, (t = false → p1.length ≤ 6 ∧ p2.length ≤ 6) → Ev (fun k => affine_Parse.j1 k (bs s) p2 t (p1.length : Int)) (0, [], 190) := by
  intro t ht
  cases t with
  | true => exact Ev.step (f := fun _ => some (0, [], 190)) (fun k => by simp only [affine_Parse.j1]; rw [if_pos trivial]) (Ev.now _)
  | false =>
   obtain ⟨g1, g2⟩ := ht rfl
   refine Ev.step (fun k => ?_) (parse_l0_no s hs hno p2 g2 hp2 p1.length g1 p2.length 0 (Nat.zero_add _) [] (Nat.le_refl _))
   simp only [affine_Parse.j1]
   rw [if_neg (by simp)]; rfl
 have hj0 : Ev (fun k => affine_Parse.j0 k (bs s) (bs (Lib.cut s [32, 45, 62, 32]).1) (bs (Lib.cut s [32, 45, 62, 32]).2.1) false) (0, [], 190) := by
  by_cases c : p1.length > 6
  ·refine Ev.step (fun k => ?_) (hj1 true (fun h => by simp at h))
   simp only [affine_Parse.j0]
   rw [if_neg (by simp), e1]
   simp only [Option.bind_some]
   rw [e2]
   simp only [Option.bind_some]
   rw [if_pos (by omega)]
  ·refine Ev.step (fun k => ?_) (hj1 (decide ((p2.length : Int) > 6)) (fun h => ⟨by omega, by have := of_decide_eq_false h; omega⟩))
   simp only [affine_Parse.j0]
   rw [if_neg (by simp), e1]
   simp only [Option.bind_some]
   rw [e2]
   simp only [Option.bind_some]
   rw [if_neg (by omega)]
 refine Ev.congr (f := fun k => if (Lib.cut s [32, 45, 62, 32]).2.2 = true then affine_Parse.j0 k (bs s) (bs (Lib.cut s [32, 45, 62, 32]).1) (bs (Lib.cut s [32, 45, 62, 32]).2.1) false else affine_Parse.j0 k (bs s) (bs (Lib.cut s [32, 45, 62, 32]).1) (bs (Lib.cut s [32, 45, 62, 32]).2.1) true) (fun k => ?_) ?_
 ·unfold affine_Parse.f strings_Cut.f
  rw [if_pos (by rw [bs_size]; omega), bs_data, show (⟨#[32, 45, 62, 32]⟩ : ByteArray).data.toList = [32, 45, 62, 32] from rfl]
  simp only [Option.bind_some]
  rw [decide_eq_false (by rw [bs_size]; omega)]
 ·by_cases c : (Lib.cut s [32, 45, 62, 32]).2.2 = true
  ·exact Ev.congr (fun k => if_pos c) hj0
  ·exact Ev.congr (fun k => if_neg c) hbad
end
def idL (n : Nat) : List (List Int) := (List.range n).map fun i => (List.range (n + 1)).map fun j => if j = i then 1 else 0
theorem id_ref : ∀ n : Nat, n ≤ 6 → demoticref19_Identity.f 20 (n : Int) = some ((n : Int), idL n) ∧ affine_Identity.f 20 (n : Int) = some ((n : Int), idL n, 0) ∧ rightB (n : Int) (idL n) = true := by
 intro n hn
 have : n = 0 ∨ n = 1 ∨ n = 2 ∨ n = 3 ∨ n = 4 ∨ n = 5 ∨ n = 6 := by omega
 rcases this with rfl | rfl | rfl | rfl | rfl | rfl | rfl <;> exact ⟨by decide +kernel, by decide +kernel, by decide +kernel⟩
theorem id_bad (n : Int) (h : n < 0 ∨ n > 6) : Ev (fun k => affine_Identity.f k n) (0, [], 1) := by
 have hj : Ev (fun k => affine_Identity.j0 k n true) (0, [], 1) := Ev.step (f := fun _ => some (0, [], 1)) (fun k => by simp only [affine_Identity.j0]; rw [if_pos trivial]) (Ev.now _)
 refine Ev.congr (fun k => ?_) hj
 unfold affine_Identity.f
 by_cases c : n < 0
 ·rw [if_pos c]
 ·rw [if_neg c, decide_eq_true (by omega)]
theorem is_right_p {d : Int} {l : List (List Int)} (h : rightB d l = true) : Ev (fun k => demoticlaw19_is.f k d l 0 d l 0) true := by
 obtain ⟨d0, d6, l6⟩ := rightB_dims h
 obtain ⟨k, h⟩ := is_ok d l (by omega) (fun i hi => by have := (rightB_row h i hi).1; omega)
 exact Ev.of (fun k => demoticlaw19_is.mono _ _ _ _ _ _ k) h
theorem is_bad_p (d : Int) (l : List (List Int)) (e : Int) (he : e ≠ 0) : Ev (fun k => demoticlaw19_is.f k 0 [] e d l e) true := Ev.of (fun k => demoticlaw19_is.mono _ _ _ _ _ _ k) (is_bad d l e he)
theorem law_tail (n e b : Int) (m w : Int) (ml wl : List (List Int)) (h : Ev (fun k => demoticlaw19_is.f k m ml e w wl b) true) : Ev (fun k => demoticlaw19_AffineParses.j0 k n e b m ml w wl) true := by
 obtain ⟨K0, E0⟩ := h
 by_cases c : n < 0 ∨ n > 6
 ·obtain ⟨K1, E1⟩ := id_bad n c
  obtain ⟨K2, E2⟩ := is_bad_p 0 [] 1 (by decide)
  refine ⟨K0 + K1 + K2 + 2, fun k hk => ?_⟩
  obtain ⟨m', rfl⟩ : ∃ m', k = m' + 2 := ⟨k - 2, by omega⟩
  have e0 := E0 m' (by omega)
  have e1 := E1 (m' + 1) (by omega)
  have e2 := E2 m' (by omega)
  simp only at e0 e1 e2
  simp only [demoticlaw19_AffineParses.j0, e1, Option.bind_some]
  have ht : ∀ t : Bool, t = true → demoticlaw19_AffineParses.j1 (m' + 1) n e b 1 t m ml w wl 0 [] = some true := by
   rintro t rfl
   simp only [demoticlaw19_AffineParses.j1]
   rw [if_pos trivial, e0]
   simp only [Option.bind_some]
   rw [if_pos trivial, e2]
   simp only [Option.bind_some]
   rw [if_pos trivial]
   rfl
  by_cases c1 : n < 0
  ·rw [if_pos c1]; exact ht _ rfl
  ·rw [if_neg c1]; exact ht _ (decide_eq_true (by omega))
 ·obtain ⟨q, rfl⟩ : ∃ q : Nat, n = (q : Int) := ⟨n.toNat, by omega⟩
  obtain ⟨i1, i2, i3⟩ := id_ref q (by omega)
  obtain ⟨K1, E1⟩ := Ev.of (fun k => affine_Identity.mono _ k) i2
  obtain ⟨K2, E2⟩ := Ev.of (fun k => demoticref19_Identity.mono _ k) i1
  obtain ⟨K3, E3⟩ := is_right_p i3
  refine ⟨K0 + K1 + K2 + K3 + 2, fun k hk => ?_⟩
  obtain ⟨m', rfl⟩ : ∃ m', k = m' + 2 := ⟨k - 2, by omega⟩
  have e0 := E0 m' (by omega)
  have e1 := E1 (m' + 1) (by omega)
  have e2 := E2 m' (by omega)
  have e3 := E3 m' (by omega)
  simp only at e0 e1 e2 e3
  simp only [demoticlaw19_AffineParses.j0, e1, Option.bind_some]
  rw [if_neg (by omega), decide_eq_false (by omega)]
  simp only [demoticlaw19_AffineParses.j1]
  rw [if_neg (by simp), e0]
  simp only [Option.bind_some]
  rw [if_pos trivial, e2]
  simp only [Option.bind_some]
  rw [e3]
  simp only [Option.bind_some]
  rw [if_pos trivial]
  rfl
theorem parses_ev (s : ByteArray) (n : Int) : Ev (fun k => demoticlaw19_AffineParses.f k s n) true := by
 by_cases c : (s.size : Int) > 400
 ·refine Ev.congr (f := fun _ => some true) (fun k => ?_) (Ev.now _)
  unfold demoticlaw19_AffineParses.f
  rw [if_pos c]
  rfl
 ·obtain ⟨l, rfl⟩ : ∃ l, s = bs l := ⟨s.data.toList, (bs_eta s).symm⟩
  rw [bs_size] at c
  have hsz : (bs l).size ≤ 1000 := by rw [bs_size]; omega
  have hP : ∀ r, Ev (fun k => refParseT.f k (bs l)) r → Ev (fun k => demoticref19_Parse.f k (bs l)) r := fun r h => Ev.congr (fun k => by unfold demoticref19_Parse.f; rw [if_pos hsz]) h
  have hfin : ∀ (m : Int × List (List Int) × Int) (w : Int × List (List Int) × Bool), Ev (fun k => affine_Parse.f k (bs l)) m → Ev (fun k => refParseT.f k (bs l)) w →
    Ev (fun k => demoticlaw19_is.f k m.1 m.2.1 m.2.2 w.1 w.2.1 (if w.2.2 = true then 0 else 190)) true → Ev (fun k => demoticlaw19_AffineParses.f k (bs l) n) true := by
   intro m w hm hw his
   refine Ev.congr (f := fun k => (affine_Parse.f k (bs l)).bind fun bt1 => ((demoticref19_Parse.f k (bs l)).bind fun bt2 => (if bt2.2.2 = true then (demoticlaw19_AffineParses.j0 k n bt1.2.2 0 bt1.1 bt1.2.1 bt2.1 bt2.2.1) else (demoticlaw19_AffineParses.j0 k n bt1.2.2 190 bt1.1 bt1.2.1 bt2.1 bt2.2.1)))) (fun k => ?_) (Ev.bind hm (Ev.bind (hP w hw) ?_))
   ·unfold demoticlaw19_AffineParses.f
    rw [if_neg (by rw [bs_size]; exact c)]
   ·have ht := law_tail n m.2.2 _ m.1 w.1 m.2.1 w.2.1 his
    refine Ev.congr (fun k => ?_) ht
    by_cases cw : w.2.2 = true
    ·(try simp only); rw [if_pos cw, if_pos cw]
    ·(try simp only); rw [if_neg cw, if_neg cw]
  by_cases hex : ∃ (d : Int) (rows : List (List Int)), rightB d rows = true ∧ printS d.toNat rows = l
  ·obtain ⟨d, rows, hr, rfl⟩ := hex
   obtain ⟨d0, d6, l6⟩ := rightB_dims hr
   have hy := refParse_yes hr d.toNat (by omega)
   exact hfin (d, rows, 0) (d, rows, true) (parse_print hr) hy (is_right_p hr)
  ·have hno : ∀ (d : Int) (rows : List (List Int)), rightB d rows = true → printS d.toNat rows ≠ l := fun d rows h e => hex ⟨d, rows, h, e⟩
   obtain ⟨d, rows, hw⟩ := refParse_no l (by omega) hno
   exact hfin (0, [], 190) (d, rows, false) (parse_no l (by omega) hno) hw (is_bad_p d rows 190 (by decide))
end Go.Proofs.YtcefaofknaeaeaaGreatDoor.X
