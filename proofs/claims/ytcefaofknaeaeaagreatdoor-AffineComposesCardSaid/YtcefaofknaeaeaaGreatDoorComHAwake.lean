/- demotic/demoticlaw19.awake: it returns true, in every world in which the library's tables lie. -/
import Derived.Test.YtcefaofknaeaeaaGreatDoorComHPrint
import Derived.Test.YtcefaofknaeaeaaGreatDoorComHInvert
set_option linter.unusedVariables false
set_option linter.unusedSimpArgs false
namespace Go.Proofs.YtcefaofknaeaeaaGreatDoor.X
open Go.RowKit Go.Proofs.YtcefaofknaeaeaaGreatDoorW.PrintWords Go.Proofs.YtcefaofknaeaeaaGreatDoorW.PrintLast Go.Proofs.YtcefaofknaeaeaaGreatDoorW.PrintMore AffMath
def ErrVars (w : World) : Prop := (∃ tp p, w.var? Tryz.prog "strconv.ErrSyntax" = some #[.iface tp p]) ∧ ∃ tp p, w.var? Tryz.prog "strconv.ErrRange" = some #[.iface tp p]
def Glob (w : World) : Prop := Tab w ∧ (∃ m, w.cell? ⟨0, 0, none⟩ = some (.int .i64 m)) ∧ ErrVars w
theorem var_below {w w' : World} {n : String} {cs : Array Value} (h : w.var? Tryz.prog n = some cs) (hb : Below w.heap.size w w') : w'.var? Tryz.prog n = some cs := by
 have h0 := h
 unfold World.var? at h0
 obtain ⟨g, hg, h1⟩ := Option.bind_eq_some_iff.1 h0
 have hlt : g < w.heap.size := by
  rcases Nat.lt_or_ge g w.heap.size with h' | h'
  ·exact h'
  ·rw [Array.getElem?_eq_none h'] at h1
   exact absurd h1 (by simp)
 exact var?_below hb hg hlt h
theorem Glob.below {w w' : World} (h : Glob w) (hb : Below w.heap.size w w') : Glob w' := by
 obtain ⟨h1, ⟨m, h2⟩, ⟨t1, p1, h3⟩, t2, p2, h4⟩ := h
 exact ⟨h1.below hb, ⟨m, (hb.cell (World.block_lt_of_cell? w _ h2)).trans h2⟩, ⟨t1, p1, var_below h3 hb⟩, t2, p2, var_below h4 hb⟩
theorem trim0 : Lib.trimPrefix [40, 41] [40] = [41] := by decide
theorem trim1 : Lib.trimSuffix [41] [41] = [] := by decide
set_option maxHeartbeats 2000000 in
set_option maxRecDepth 100000 in
theorem inner0 (w : World) : Calls Tryz.prog 39 #[.string ⟨#[40, 41]⟩] w fun e w' => e = .returned (.slice none 0 0) ∧ w' = w := by
 have h1 : ∀ W, Calls Tryz.prog 57 #[.string ⟨#[40, 41]⟩, .string ⟨#[40]⟩] W fun e w' => e = .returned (.string ⟨#[41]⟩) ∧ w' = W := fun W => by
  have := Tryz.strings_TrimPrefix ⟨#[40, 41]⟩ ⟨#[40]⟩ W
  rwa [show (⟨#[40, 41]⟩ : ByteArray).data.toList = [40, 41] from rfl, show (⟨#[40]⟩ : ByteArray).data.toList = [40] from rfl, trim0] at this
 have h2 : ∀ W, Calls Tryz.prog 56 #[.string ⟨#[41]⟩, .string ⟨#[41]⟩] W fun e w' => e = .returned (.string ⟨#[]⟩) ∧ w' = W := fun W => by
  have := Tryz.strings_TrimSuffix ⟨#[41]⟩ ⟨#[41]⟩ W (by decide)
  rwa [show (⟨#[41]⟩ : ByteArray).data.toList = [41] from rfl, trim1] at this
 have H1 := Aside0.mk h1
 have H2 := Aside0.mk h2
 clear h1 h2
 go_enter Tryz.func39, Tryz.ntmps39
 go_wp2_with (first
  | (go_at_call 57; refine (H1.out _).mono ?_; rintro e w5 ⟨rfl, rfl⟩)
  | (go_at_call 56; refine (H2.out _).mono ?_; rintro e w5 ⟨rfl, rfl⟩))
 go_ret
 exact ⟨rfl, rfl⟩
theorem cut0 : Lib.cut [40, 41, 32, 45, 62, 32, 40, 41] [32, 45, 62, 32] = ([40, 41], [40, 41], true) := by decide
theorem print0 : printS 0 [] = [40, 41, 32, 45, 62, 32, 40, 41] := by decide
set_option maxHeartbeats 2000000 in
set_option maxRecDepth 100000 in
theorem parse0 (w : World) (hg : Glob w) : Calls Tryz.prog 19 #[.string ⟨#[40, 41, 32, 45, 62, 32, 40, 41]⟩] w fun e w' => e = .returned (.tuple #[.agg #[.int .i64 0, .slice none 0 0], .int .i64 0]) ∧ Below w.heap.size w w' := by
 have hc : ∀ W, Glob W → Calls Tryz.prog 38 #[.string ⟨#[40, 41, 32, 45, 62, 32, 40, 41]⟩, .string ⟨#[32, 45, 62, 32]⟩] W fun e w' => e = .returned (.tuple #[.string ⟨#[40, 41]⟩, .string ⟨#[40, 41]⟩, .bool true]) ∧ ∃ n, w' = W.drewN n := fun W hW => by
  obtain ⟨_, ⟨m, hm⟩, _⟩ := hW
  have := Tryz.strings_Cut ⟨#[40, 41, 32, 45, 62, 32, 40, 41]⟩ ⟨#[32, 45, 62, 32]⟩ m W (by decide) hm
  rwa [show (⟨#[40, 41, 32, 45, 62, 32, 40, 41]⟩ : ByteArray).data.toList = [40, 41, 32, 45, 62, 32, 40, 41] from rfl, show (⟨#[32, 45, 62, 32]⟩ : ByteArray).data.toList = [32, 45, 62, 32] from rfl, cut0] at this
 have HC := Aside0.mk hc
 have HG := Aside0.mk hg
 clear hc hg
 have hp : ∀ W, Glob W → Calls Tryz.prog 18 #[.agg #[.int .i64 0, .slice none 0 0]] W fun e w' => e = .returned (.tuple #[.string ⟨#[40, 41, 32, 45, 62, 32, 40, 41]⟩, .int .i64 0]) ∧ Below W.heap.size W w' := fun W hW => by
  have := print_any 0 none 0 [] W hW.1 (Kd.C_nil _ _) (by simp)
  rwa [if_pos (by decide), show printS (0 : Int).toNat [] = [40, 41, 32, 45, 62, 32, 40, 41] from print0] at this
 have HP := Aside0.mk hp
 clear hp
 go_enter Tryz.func19, Tryz.ntmps19
 go_wp2_with (first
  | (go_at_call 38; refine (HC.out _ (HG.out.below (below_alloc (Below.refl _ _) _))).mono ?_; rintro e w5 ⟨rfl, q, rfl⟩)
  | (go_at_call 39; refine (inner0 _).mono ?_; rintro e w6 ⟨rfl, rfl⟩))
 obtain ⟨W3, hW3⟩ : ∃ W : World, W = ((w.alloc (.cells #[.int .i64 0, .slice none 0 0] 24)).drewN q).alloc (.cells #[.int .i64 0, .slice none 0 0] 24) := ⟨_, rfl⟩
 have HB3 : Aside0 (Below w.heap.size w W3) := ⟨by rw [hW3]; exact below_alloc (pw_below_drewN (below_alloc (Below.refl _ _) _) _) _⟩
 have B0 : Aside0 (W3.heap[w.heap.size]? = some (.cells #[.int .i64 0, .slice none 0 0] 24 (0, 0))) := ⟨by rw [hW3]; exact blk_alloc (blk_drewN (blk_new w _) _) _⟩
 have B1 : Aside0 (W3.heap[w.heap.size + 1]? = some (.cells #[.int .i64 0, .slice none 0 0] 24 (0, 0))) := ⟨by
  rw [hW3]
  have := blk_new ((w.alloc (.cells #[.int .i64 0, .slice none 0 0] 24)).drewN q) (.cells #[.int .i64 0, .slice none 0 0] 24)
  simpa using this⟩
 rw [← hW3]
 have p0 := blk_cell B1.out 0
 have p1 := blk_cell B1.out 1
 clear hW3
 refine wp_loop_rounds 1 ?_
 rw [rounds_succ]
 go_wp2_with (first
  | (go_at_call 18; refine (HP.out _ (HG.out.below HB3.out)).mono ?_; rintro e w7 ⟨rfl, hb7⟩; have HB7 := Aside0.mk (below_then HB3.out HB3.out.size hb7); have B07 := Aside0.mk (blk_below B0.out hb7); have B17 := Aside0.mk (blk_below B1.out hb7); have q0 := blk_cell B07.out 0; have q1 := blk_cell B07.out 1; have f0 := blk_frozen B07.out 0; have f1 := blk_frozen B07.out 1; have o0 := blk_cell B17.out 0; have o1 := blk_cell B17.out 1; clear hb7 p0 p1))
 refine bodyPost_ret (results_ct rfl _ _ w.heap.size 24 #[.int .i64 0, .slice none 0 0] (0, 0) _ rfl (blk_put (cs := #[.int .i64 0, .slice none 0 0]) (blk_put (cs := #[.int .i64 0, .slice none 0 0]) B07.out 0 _ rfl) 1 _ rfl) Tryz.underlying24 rfl (by kernel_rfl)) rfl ?_
 exact ⟨rfl, below_set (below_set HB7.out (Nat.le_refl _)) (Nat.le_refl _)⟩
theorem C_ints {w : World} {g : Nat} {xs : List Int} (h : w.heap[g]? = some (.cells (nums .i64 xs).toArray 2 (0, 0))) (hl : xs.length ≤ 9223372036854775807) : (Kd.int .i64).C w (some ⟨g, 0, none⟩) xs.length xs := by
 refine ⟨rfl, hl, fun _ => ⟨_, rfl, fun j p hj => ⟨[.int .i64 p], rfl, rfl, fun i u hu => ?_⟩⟩⟩
 have hi : i = 0 := by
  rcases i with _ | i
  ·rfl
  ·simp at hu
 subst hi
 have e : u = .int .i64 p := by simpa using hu.symm
 subst e
 rw [add_plain]
 refine (blk_cell h _).trans ?_
 have : j * (Kd.int IntKind.i64).sz + 0 = j := by rw [Nat.add_zero]; exact Nat.mul_one j
 rw [this]
 simp [nums, hj]
theorem C_rows {w : World} {g : Nat} {ls : List (List Int)} {gs : List Nat} (h : w.heap[g]? = some (.cells ((List.zipWith (fun g l => Value.slice (some ⟨g, 0, none⟩) (List.length (α := Int) l) l.length) gs ls).toArray) 38 (0, 0))) (hg : gs.length = ls.length) (hl : ls.length ≤ 9223372036854775807)
  (hr : ∀ (j : Nat) g l, gs[j]? = some g → ls[j]? = some l → (Kd.int .i64).C w (some ⟨g, 0, none⟩) l.length l) : Kd.C (Kd.slice 2 (Kd.int .i64)) w (some ⟨g, 0, none⟩) ls.length ls := by
 refine ⟨rfl, hl, fun _ => ⟨_, rfl, fun j p hj => ?_⟩⟩
 have hjl : j < ls.length := by
  rcases Nat.lt_or_ge j ls.length with h' | h'
  ·exact h'
  ·rw [List.getElem?_eq_none h'] at hj; exact absurd hj (by simp)
 obtain ⟨gj, hgj⟩ : ∃ gj, gs[j]? = some gj := ⟨_, List.getElem?_eq_getElem (by omega)⟩
 refine ⟨[.slice (some ⟨gj, 0, none⟩) p.length p.length], rfl, ⟨_, _, rfl, Nat.le_refl _, hr j gj p hgj hj⟩, fun i u hu => ?_⟩
 have hi : i = 0 := by
  rcases i with _ | i
  ·rfl
  ·simp at hu
 subst hi
 have e : u = .slice (some ⟨gj, 0, none⟩) p.length p.length := by simpa using hu.symm
 subst e
 rw [add_plain]
 refine (blk_cell h _).trans ?_
 have : j * (Kd.slice 2 (Kd.int IntKind.i64)).sz + 0 = j := by rw [Nat.add_zero]; exact Nat.mul_one j
 rw [this]
 simp [List.getElem?_zipWith, hgj, hj]
theorem invert1 : affine_Invert.f 1 [[-1, 4]] = some (1, [[-1, 4]], 0) := by
 unfold affine_Invert.f
 refine congrArg some (invertS_good (n := 1) (by decide) rfl ⟨by decide, rfl, ?_, ?_, ?_⟩)
 ·intro i hi j hj
  obtain rfl : i = 0 := by omega
  obtain rfl : j = 0 := by omega
  decide
 ·intro i hi j hj
  obtain rfl : i = 0 := by omega
  obtain rfl : j = 0 := by omega
  decide
 ·intro i hi
  obtain rfl : i = 0 := by omega
  decide
theorem apply1 : affine_Apply.f 2 [[-1, 2, -3], [0, 0, 0]] [1, 5] = some ([6, 0], 0) := by decide
theorem dec0 : Lib.decDigits 0 = [48] := by rw [Lib.decDigits]; rfl
theorem dec1 : Lib.decDigits 1 = [49] := by rw [Lib.decDigits]; rfl
theorem dec2 : Lib.decDigits 2 = [50] := by rw [Lib.decDigits]; rfl
theorem dec3 : Lib.decDigits 3 = [51] := by rw [Lib.decDigits]; rfl
theorem dims2 : dimsS 2 = [40, 100, 48, 44, 32, 100, 49, 41] := by
 unfold dimsS dimL
 rw [show List.range 2 = [0, 1] from rfl, List.map_cons, List.map_cons, List.map_nil, dec0, dec1]; rfl
theorem term_0 : termS (-1) 0 2 = [100, 48] := by unfold termS; rw [if_neg (by decide), if_pos (by decide), dec0]
theorem term_1 : termS 2 1 2 = [50, 42, 100, 49] := by unfold termS; rw [if_neg (by decide), if_neg (by decide), show (2 : Int).natAbs = 2 from rfl, dec2, dec1]; rfl
theorem term_2 : termS (-3) 2 2 = [51] := by unfold termS; rw [if_pos rfl, show (-3 : Int).natAbs = 3 from rfl, dec3]
theorem row_a : rowS [-1, 2, -3] = [45, 100, 48, 32, 43, 32, 50, 42, 100, 49, 32, 45, 32, 51] := by
 have h1 : rowAcc [-1, 2, -3] 1 = [45, 100, 48] := by
  rw [rowAcc_succ, if_neg (by decide), show rowAcc [-1, 2, -3] 0 = [] from rfl]
  show [] ++ sepS [] (-1) ++ termS (-1) 0 2 = _
  rw [term_0]; rfl
 have h2 : rowAcc [-1, 2, -3] 2 = [45, 100, 48, 32, 43, 32, 50, 42, 100, 49] := by
  rw [rowAcc_succ, if_neg (by decide), h1]
  show [45, 100, 48] ++ sepS [45, 100, 48] 2 ++ termS 2 1 2 = _
  rw [term_1]; rfl
 have h3 : rowAcc [-1, 2, -3] 3 = [45, 100, 48, 32, 43, 32, 50, 42, 100, 49, 32, 45, 32, 51] := by
  rw [rowAcc_succ, if_neg (by decide), h2]
  show [45, 100, 48, 32, 43, 32, 50, 42, 100, 49] ++ sepS [45, 100, 48, 32, 43, 32, 50, 42, 100, 49] (-3) ++ termS (-3) 2 2 = _
  rw [term_2]; rfl
 unfold rowS
 rw [show [-1, 2, -3].length = 3 from rfl, h3]; rfl
theorem row_b : rowS [0, 0, 0] = [48] := by decide
theorem print1 : printS 2 [[-1, 2, -3], [0, 0, 0]] = [40, 100, 48, 44, 32, 100, 49, 41, 32, 45, 62, 32, 40, 45, 100, 48, 32, 43, 32, 50, 42, 100, 49, 32, 45, 32, 51, 44, 32, 48, 41] := by
 unfold printS
 rw [dims2, List.map_cons, List.map_cons, List.map_nil, row_a, row_b]; rfl
set_option maxHeartbeats 8000000 in
set_option maxRecDepth 100000 in
theorem awake_any (w : World) (hg : Glob w) : Calls Tryz.prog 8 #[] w fun e w' => e = .returned (.bool true) ∧ Below w.heap.size w w' := by
 have HG := Aside0.mk hg
 clear hg
 obtain ⟨W4, hW4⟩ : ∃ W : World, W = (((w.alloc (.cells #[.int .i64 (-1), .int .i64 2, .int .i64 (-3)] 2)).alloc (.cells #[.int .i64 0, .int .i64 0, .int .i64 0] 2)).alloc (.cells #[.slice (some ⟨w.heap.size, 0, none⟩) 3 3, .slice (some ⟨w.heap.size + 1, 0, none⟩) 3 3] 38)).alloc (.cells #[.int .i64 2, .slice (some ⟨w.heap.size + 2, 0, none⟩) 2 2] 24) := ⟨_, rfl⟩
 have HB4 : Aside0 (Below w.heap.size w W4) := ⟨by rw [hW4]; exact below_alloc (below_alloc (below_alloc (below_alloc (Below.refl _ _) _) _) _) _⟩
 have hs1 : ∀ o, (w.alloc o).heap.size = w.heap.size + 1 := fun o => by simp
 have B0 : Aside0 (W4.heap[w.heap.size]? = some (.cells #[.int .i64 (-1), .int .i64 2, .int .i64 (-3)] 2 (0, 0))) := ⟨by rw [hW4]; exact blk_alloc (blk_alloc (blk_alloc (blk_new w _) _) _) _⟩
 have B1 : Aside0 (W4.heap[w.heap.size + 1]? = some (.cells #[.int .i64 0, .int .i64 0, .int .i64 0] 2 (0, 0))) := ⟨by
  rw [hW4]
  refine blk_alloc (blk_alloc ?_ _) _
  have := blk_new (w.alloc (.cells #[.int .i64 (-1), .int .i64 2, .int .i64 (-3)] 2)) (.cells #[.int .i64 0, .int .i64 0, .int .i64 0] 2)
  simpa using this⟩
 have B2 : Aside0 (W4.heap[w.heap.size + 2]? = some (.cells #[.slice (some ⟨w.heap.size, 0, none⟩) 3 3, .slice (some ⟨w.heap.size + 1, 0, none⟩) 3 3] 38 (0, 0))) := ⟨by
  rw [hW4]
  refine blk_alloc ?_ _
  have := blk_new ((w.alloc (.cells #[.int .i64 (-1), .int .i64 2, .int .i64 (-3)] 2)).alloc (.cells #[.int .i64 0, .int .i64 0, .int .i64 0] 2)) (.cells #[.slice (some ⟨w.heap.size, 0, none⟩) 3 3, .slice (some ⟨w.heap.size + 1, 0, none⟩) 3 3] 38)
  simpa using this⟩
 have B3 : Aside0 (W4.heap[w.heap.size + 3]? = some (.cells #[.int .i64 2, .slice (some ⟨w.heap.size + 2, 0, none⟩) 2 2] 24 (0, 0))) := ⟨by
  rw [hW4]
  have := blk_new (((w.alloc (.cells #[.int .i64 (-1), .int .i64 2, .int .i64 (-3)] 2)).alloc (.cells #[.int .i64 0, .int .i64 0, .int .i64 0] 2)).alloc (.cells #[.slice (some ⟨w.heap.size, 0, none⟩) 3 3, .slice (some ⟨w.heap.size + 1, 0, none⟩) 3 3] 38)) (.cells #[.int .i64 2, .slice (some ⟨w.heap.size + 2, 0, none⟩) 2 2] 24)
  simpa using this⟩
 have HM : Aside0 (Kd.C (Kd.slice 2 (Kd.int .i64)) W4 (some ⟨w.heap.size + 2, 0, none⟩) [[-1, 2, -3], [0, 0, 0]].length [[-1, 2, -3], [0, 0, 0]]) := ⟨by
  refine C_rows (gs := [w.heap.size, w.heap.size + 1]) B2.out rfl (by decide) (fun j g l h1 h2 => ?_)
  rcases j with _ | j
  ·simp at h1 h2
   subst h1 h2
   exact C_ints B0.out (by decide)
  ·rcases j with _ | j
   ·simp at h1 h2
    subst h1 h2
    exact C_ints B1.out (by decide)
   ·simp at h1⟩
 have HW4 := Aside0.mk hW4
 clear hW4 hs1
 have hp : ∀ W, W = W4 → Calls Tryz.prog 18 #[.agg #[.int .i64 2, .slice (some ⟨w.heap.size + 2, 0, none⟩) 2 2]] W fun e w' => e = .returned (.tuple #[.string ⟨#[40, 100, 48, 44, 32, 100, 49, 41, 32, 45, 62, 32, 40, 45, 100, 48, 32, 43, 32, 50, 42, 100, 49, 32, 45, 32, 51, 44, 32, 48, 41]⟩, .int .i64 0]) ∧ Below W4.heap.size W4 w' := fun W hW => by
  subst hW
  have := print_any 2 (some ⟨w.heap.size + 2, 0, none⟩) 2 [[-1, 2, -3], [0, 0, 0]] W (HG.out.below HB4.out).1 HM.out (by decide)
  rwa [if_pos (by decide), show (2 : Int).toNat = 2 from rfl, print1] at this
 have HP := Aside0.mk hp
 clear hp
 have ha : ∀ (W : World) (g : Nat), Below W4.heap.size W4 W → W.heap[g]? = some (.cells #[.int .i64 1, .int .i64 5] 2 (0, 0)) → Calls Tryz.prog 24 #[.agg #[.int .i64 2, .slice (some ⟨w.heap.size + 2, 0, none⟩) 2 2], .slice (some ⟨g, 0, none⟩) 2 2] W fun e w' => ∃ ad c, e = .returned (.tuple #[.slice (some ad) 2 c, .int .i64 0]) ∧ w'.cell? (ad.add 0) = some (.int .i64 6) ∧ w'.cell? (ad.add 1) = some (.int .i64 0) ∧ Below W.heap.size W w' := fun W g hW hg => by
  refine (affine_Apply.calls 2 (some ⟨w.heap.size + 2, 0, none⟩) 2 [[-1, 2, -3], [0, 0, 0]] (some ⟨g, 0, none⟩) 2 [1, 5] [6, 0] 0 W (Kd.C_below HM.out hW) (by decide) (C_ints (xs := [1, 5]) hg (by decide)) (by decide) apply1).mono ?_
  rintro e w' ⟨v0, rfl, hR, hb⟩
  obtain ⟨A, c, rfl, _, hC⟩ := Kd.R_reads hR
  obtain ⟨ad, rfl, h0⟩ := at_int hC 0 (by decide)
  obtain ⟨ad2, e2, h1⟩ := at_int hC 1 (by decide)
  cases e2
  exact ⟨ad, c, rfl, h0, h1, hb⟩
 have HA := Aside0.mk ha
 clear ha
 have hi : ∀ (W : World) (g0 g1 : Nat), W.heap[g0]? = some (.cells #[.int .i64 (-1), .int .i64 4] 2 (0, 0)) → W.heap[g1]? = some (.cells #[.slice (some ⟨g0, 0, none⟩) 2 2] 38 (0, 0)) → Calls Tryz.prog 14 #[.agg #[.int .i64 1, .slice (some ⟨g1, 0, none⟩) 1 1]] W fun e w' => ∃ ad c ad2 c2, e = .returned (.tuple #[.agg #[.int .i64 1, .slice (some ad) 1 c], .int .i64 0]) ∧ w'.cell? (ad.add 0) = some (.slice (some ad2) 2 c2) ∧ w'.cell? (ad2.add 0) = some (.int .i64 (-1)) ∧ w'.cell? (ad2.add 1) = some (.int .i64 4) ∧ Below W.heap.size W w' := fun W g0 g1 h0 h1 => by
  refine (affine_Invert.calls 1 (some ⟨g1, 0, none⟩) 1 [[-1, 4]] 1 [[-1, 4]] 0 W (C_rows (gs := [g0]) h1 rfl (by decide) (fun j g l h2 h3 => ?_)) (by decide) invert1).mono ?_
  ·rcases j with _ | j
   ·simp at h2 h3
    subst h2 h3
    exact C_ints h0 (by decide)
   ·simp at h2
  ·rintro e w' ⟨v0, rfl, hS, hb⟩
   obtain ⟨A, c, rfl, _, hC⟩ := Kd.R_reads (Kd.S_R hS)
   obtain ⟨ad, A0, c0, rfl, hx, _, hi⟩ := at_L1 hC 0 (by decide) (by decide)
   obtain ⟨ad2, e2, h2⟩ := at_int hi 0 (by decide)
   have e2' : A0 = some ad2 := e2
   subst e2'
   obtain ⟨ad3, e3, h3⟩ := at_int hi 1 (by decide)
   cases e3
   exact ⟨ad, c, ad2, c0, rfl, hx, h2, h3, hb⟩
 have HI := Aside0.mk hi
 clear hi
 go_enter Tryz.func8, Tryz.ntmps8
 go_wp2_with (first
  | (go_at_call 18; refine (HP.out _ HW4.out.symm).mono ?_; rintro e w5 ⟨rfl, hb5⟩; have HB5 := Aside0.mk hb5; have B35 := blk_below B3.out hb5; have b0 := blk_cell B35 0; have b1 := blk_cell B35 1; clear hb5 B35)
  | (go_at_call 24; refine (HA.out _ w5.heap.size (below_alloc HB5.out _) (blk_new w5 _)).mono ?_; rintro e w6 ⟨adx, cx, rfl, hx0, hx1, hb6⟩; have HB6 := Aside0.mk (below_then (below_alloc HB5.out (.cells #[.int .i64 1, .int .i64 5] 2)) (below_alloc HB5.out (.cells #[.int .i64 1, .int .i64 5] 2)).size hb6); have HX0 := Aside0.mk hx0; have HX1 := Aside0.mk hx1; clear hb6 hx0 hx1 b0 b1)
  | (go_at_call 19; refine (parse0 _ (HG.out.below (below_then HB4.out HB4.out.size HB6.out))).mono ?_; rintro e w7 ⟨rfl, hb7⟩; have HB7 := Aside0.mk hb7; clear hb7)
  | (go_at_call 14; refine (HI.out _ (w7.heap.size + 1) (w7.heap.size + 1 + 1) ?h0 ?h1).mono ?_; (case h0 => refine blk_alloc ?_ _; have := blk_new (w7.alloc (.cells #[.int .i64 0, .slice none 0 0] 24)) (.cells #[.int .i64 (-1), .int .i64 4] 2); simpa using this); (case h1 => have := blk_new ((w7.alloc (.cells #[.int .i64 0, .slice none 0 0] 24)).alloc (.cells #[.int .i64 (-1), .int .i64 4] 2)) (.cells #[.slice (some ⟨w7.heap.size + 1, 0, none⟩) 2 2] 38); simpa using this); rintro e w8 ⟨ad, c, ad2, c2, rfl, hi0, hi1, hi2, hb8⟩; refine Aside0.out ?_))
 refine Aside0.mk ?_
 obtain ⟨W7, hW7⟩ : ∃ W : World, W = (((w7.alloc (.cells #[.int .i64 0, .slice none 0 0] 24)).alloc (.cells #[.int .i64 (-1), .int .i64 4] 2)).alloc (.cells #[.slice (some ⟨w7.heap.size + 1, 0, none⟩) 2 2] 38)) := ⟨_, rfl⟩
 have hb7 : Below w7.heap.size w7 W7 := by rw [hW7]; exact below_alloc (below_alloc (below_alloc (Below.refl _ _) _) _) _
 have hx7 : W7.heap[w7.heap.size]? = some (.cells #[.int .i64 0, .slice none 0 0] 24 (0, 0)) := by rw [hW7]; exact blk_alloc (blk_alloc (blk_new w7 _) _) _
 rw [← hW7] at hb8
 clear hW7
 have h68 : Below w6.heap.size w6 w8 := below_then HB7.out HB7.out.size (below_then hb7 hb7.size hb8)
 have hx8 := blk_below hx7 hb8
 have hb9 : Below w8.heap.size w8 (w8.alloc (.cells #[.int .i64 1, .slice (some ad) 1 c] 24)) := below_alloc (Below.refl _ _) _
 have x0 := pw_cell_below hb9 (pw_cell_below h68 HX0.out)
 have x1 := pw_cell_below hb9 (pw_cell_below h68 HX1.out)
 have n0 : (w8.alloc (.cells #[.int .i64 1, .slice (some ad) 1 c] 24)).cell? ⟨w7.heap.size, 0, none⟩ = some (.int .i64 0) := (blk_cell (blk_alloc hx8 _) 0).trans rfl
 have i0 := pw_cell_below hb9 hi0
 have i1 := pw_cell_below hb9 hi1
 have i2 := pw_cell_below hb9 hi2
 rw [Addr.add_zero'] at x0 i0 i1
 rw [Addr.add_succ'] at x1 i2
 have HBF := Aside0.mk (below_then HB4.out HB4.out.size (below_then HB6.out HB6.out.size h68))
 clear hb7 hx7 hb8 h68 hx8 hb9 hi0 hi1 hi2
 go_wp2
 go_ret
 exact ⟨rfl, below_alloc HBF.out _⟩
end Go.Proofs.YtcefaofknaeaeaaGreatDoor.X
