/- demotic/affine.term, row, dims, Print: the string of a map: their contracts. -/
import Derived.Test.YtcefaofknaeaeaaGreatDoorComShelf
import Derived.Test.YtcefaofknaeaeaaGreatDoorComHBuilder
import Derived.Test.YtcefaofknaeaeaaGreatDoorComHApply
import Derived.Lib.Join
import Derived.Lib.ItoaNum
import Derived.Lib.AppendIntMem
import Derived.StillTailTactics
import Derived.Outline
set_option linter.unusedVariables false
set_option linter.unusedSimpArgs false
namespace Go.Proofs.YtcefaofknaeaeaaGreatDoor.X
open Go.RowKit Go.Proofs.YtcefaofknaeaeaaGreatDoorW.PrintWords Go.Proofs.YtcefaofknaeaeaaGreatDoorW.PrintLast Go.Proofs.YtcefaofknaeaeaaGreatDoorW.PrintMore
def Tab (w : World) : Prop := Lib.TabIs Tryz.prog w "internal/strconv.uint64pow10" .u64 Lib.pow10Tab
theorem Tab.below {w w' : World} (h : Tab w) (hb : Below w.heap.size w w') : Tab w' := by
 unfold Tab Lib.TabIs at h
 have h0 := h
 unfold World.var? at h0
 obtain ⟨g, hg, h1⟩ := Option.bind_eq_some_iff.1 h0
 have hlt : g < w.heap.size := by
  rcases Nat.lt_or_ge g w.heap.size with h' | h'
  ·exact h'
  ·rw [Array.getElem?_eq_none h'] at h1
   exact absurd h1 (by simp)
 exact var?_below hb hg hlt h
def sv (l : List UInt8) : Value := .string ⟨l.toArray⟩
theorem ba_append (l m : List UInt8) : (⟨l.toArray⟩ : ByteArray) ++ ⟨m.toArray⟩ = ⟨(l ++ m).toArray⟩ := by
 apply ByteArray.ext
 simp
theorem itoa_nat (m : Nat) : Lib.itoa (m : Int) = Lib.decDigits m := by unfold Lib.itoa; rw [if_neg (by omega), Int.toNat_natCast]
theorem dec_ne_nil (m : Nat) : Lib.decDigits m ≠ [] := by
 unfold Lib.decDigits
 split <;> simp
theorem dec_one {m : Nat} : Lib.decDigits m = [49] ↔ m = 1 := by
 constructor
 ·intro h
  unfold Lib.decDigits at h
  split at h
  ·rename_i hm
   have : m = 0 ∨ m = 1 ∨ m = 2 ∨ m = 3 ∨ m = 4 ∨ m = 5 ∨ m = 6 ∨ m = 7 ∨ m = 8 ∨ m = 9 := by omega
   rcases this with rfl | rfl | rfl | rfl | rfl | rfl | rfl | rfl | rfl | rfl <;> first | rfl | exact absurd h (by decide)
  ·have := congrArg List.length h
   simp at this
   exact absurd this (dec_ne_nil _)
 ·rintro rfl
  rw [Lib.decDigits]; rfl
theorem dec_len (m : Nat) : (Lib.decDigits m).length ≤ m + 1 := by
 induction m using Nat.strongRecOn with
 | _ m ih =>
  unfold Lib.decDigits
  split
  ·simp
  ·have := ih (m / 10) (by omega)
   simp
   omega
def termS (n : Int) (i last : Nat) : List UInt8 :=
 if i = last then Lib.decDigits n.natAbs else if n.natAbs = 1 then 100 :: Lib.decDigits i else Lib.decDigits n.natAbs ++ (42 :: 100 :: Lib.decDigits i)
set_option maxHeartbeats 2000000 in
set_option maxRecDepth 100000 in
theorem term_any (n : Int) (i last : Nat) (w : World) (ht : Tab w) (hn : -1000000 ≤ n ∧ n ≤ 1000000) (hi : i < 100) (hl : last < 100) :
  Calls Tryz.prog 51 #[.int .i64 n, .int .i64 i, .int .i64 last] w fun e w' => e = .returned (.string ⟨(termS n i last).toArray⟩) ∧ Below w.heap.size w w' := by
 have HT := Aside0.mk ht
 have hmax : max n (-n) = (n.natAbs : Int) := by omega
 have hf : ∀ W, Below w.heap.size w W → Calls Tryz.prog 68 #[.int .i64 (n.natAbs : Int), .int .i64 10] W fun e w' => e = .returned (.string ⟨(Lib.decDigits n.natAbs).toArray⟩) ∧ Below W.heap.size W w' := fun W hW => by
  have := Tryz.strconv_FormatInt_10 (n.natAbs : Int) (by omega) (by omega) W (ht.below hW)
  rw [itoa_nat] at this
  refine this.mono ?_
  rintro e w' ⟨rfl, k, os, rfl⟩
  exact ⟨rfl, Lib.below_grow _ _ (Nat.le_refl _) _ _⟩
 have hi2 : ∀ W, Calls Tryz.prog 53 #[.int .i64 (i : Int)] W fun e w' => e = .returned (.string ⟨(Lib.decDigits i).toArray⟩) ∧ w' = W := fun W => Tryz.strconv_Itoa_small i hi W
 have hd : Lib.decDigits n.natAbs = [49] ↔ n.natAbs = 1 := dec_one
 have hl1 := dec_len n.natAbs
 have hl2 := dec_len i
 generalize hD : Lib.decDigits n.natAbs = D at hf hd hl1
 have hl3 : D.length ≤ 1000001 := by omega
 have hl4 : (Lib.decDigits i).length ≤ 100 := by omega
 clear hl1 hl2
 have hS : termS n i last = if i = last then D else if n.natAbs = 1 then 100 :: Lib.decDigits i else D ++ (42 :: 100 :: Lib.decDigits i) := by unfold termS; rw [hD]
 have HF := Aside0.mk hf
 have HI := Aside0.mk hi2
 clear ht hf hi2 hD
 by_cases h1 : i = last
 ·subst h1
  rw [if_pos rfl] at hS
  have HSS := Aside0.mk hS
  clear hS hd
  go_enter Tryz.func51, Tryz.ntmps51
  go_wp2_with (first
   | (go_at_call 68; refine (HF.out _ (Below.refl _ _)).mono ?_; rintro e w1 ⟨rfl, hb1⟩; have HB1 := Aside0.mk hb1; clear hb1))
  go_ret
  exact ⟨by rw [HSS.out]; rfl, HB1.out⟩
 ·have hb : ((i : Int) == (last : Int)) = false := beq_eq_false_iff_ne.2 (by omega)
  rw [if_neg h1] at hS
  by_cases h2 : n.natAbs = 1
  ·rw [if_pos h2] at hS
   have hq : (D == [49]) = true := beq_iff_eq.2 (hd.2 h2)
   have HSS := Aside0.mk hS
   clear h1 h2 hS hd
   go_enter Tryz.func51, Tryz.ntmps51
   go_wp2_with (first
    | (go_at_call 68; refine (HF.out _ (Below.refl _ _)).mono ?_; rintro e w1 ⟨rfl, hb1⟩; have HB1 := Aside0.mk hb1; clear hb1)
    | (go_at_call 53; refine (HI.out _).mono ?_; rintro e w1 ⟨rfl, rfl⟩))
   go_ret
   exact ⟨by rw [HSS.out]; exact congrArg (fun x => Ending.returned (.string x)) (ba_append [100] (Lib.decDigits i)), HB1.out⟩
  ·rw [if_neg h2] at hS
   have hq : (D == [49]) = false := beq_eq_false_iff_ne.2 (fun e => h2 (hd.1 e))
   have HSS := Aside0.mk hS
   clear h1 h2 hS hd
   go_enter Tryz.func51, Tryz.ntmps51
   go_wp2_with (first
    | (go_at_call 68; refine (HF.out _ (Below.refl _ _)).mono ?_; rintro e w1 ⟨rfl, hb1⟩; have HB1 := Aside0.mk hb1; clear hb1)
    | (go_at_call 53; refine (HI.out _).mono ?_; rintro e w1 ⟨rfl, rfl⟩))
   go_ret
   refine ⟨by rw [HSS.out]; exact congrArg (fun x => Ending.returned (.string x)) ((congrArg (· ++ _) (ba_append D [42, 100])).trans ((ba_append (D ++ [42, 100]) (Lib.decDigits i)).trans (by simp))), HB1.out⟩
theorem term_len (n : Int) (i last : Nat) (hn : -1000000 ≤ n ∧ n ≤ 1000000) (hi : i < 100) : (termS n i last).length ≤ 1000200 := by
 have h1 := dec_len n.natAbs
 have h2 := dec_len i
 unfold termS
 split
 ·omega
 ·split
  ·simp; omega
  ·simp; omega
def BS (w0 : World) (l : List UInt8) (w : World) : Prop := Lib.IsBuilder 76 5 w0.heap.size w0.heap.size (Lib.byteCells l) w ∧ Below w0.heap.size w0 w
theorem strCells_of (l : List UInt8) : Lib.strCells ⟨l.toArray⟩ = Lib.byteCells l := by
 simp [Lib.strCells, Lib.byteCells]
theorem byteCells_append (l m : List UInt8) : Lib.byteCells (l ++ m) = Lib.byteCells l ++ Lib.byteCells m := by simp [Lib.byteCells]
theorem BS.start (w : World) : BS w [] (w.alloc (.cells #[.pointer none, .slice none 0 0] 76)) := ⟨Lib.fresh_isBuilder _ _ w, below_alloc (Below.refl _ _) _⟩
theorem BS.len {w0 w : World} {l : List UInt8} (h : BS w0 l w) : Calls Tryz.prog 49 #[.pointer (some ⟨w0.heap.size, 0, none⟩)] w fun e w' => e = .returned (.int .i64 l.length) ∧ w' = w := by
 have := Tryz.Builder_Len _ _ _ _ h.1
 rwa [show (Lib.byteCells l).length = l.length by simp [Lib.byteCells]] at this
theorem BS.write {w0 w : World} {l : List UInt8} (h : BS w0 l w) (m : List UInt8) (hl : l.length + m.length ≤ 140737488355328) : Calls Tryz.prog 50 #[.pointer (some ⟨w0.heap.size, 0, none⟩), .string ⟨m.toArray⟩] w fun e w' => e = .returned (.tuple #[.int .i64 m.length, .nilIface]) ∧ BS w0 (l ++ m) w' := by
 refine (writeString_any _ _ _ ⟨m.toArray⟩ w h.1 (by simp [Lib.byteCells, ByteArray.size]; exact hl) h.2.size).mono ?_
 rintro e w' ⟨rfl, h1, h2⟩
 refine ⟨by simp [ByteArray.size], .inr ?_, h.2.trans h2⟩
 rw [byteCells_append, ← strCells_of m]
 exact h1
theorem BS.string {w0 w : World} {l : List UInt8} (h : BS w0 l w) : Calls Tryz.prog 52 #[.pointer (some ⟨w0.heap.size, 0, none⟩)] w fun e w' => e = .returned (.string ⟨l.toArray⟩) ∧ Below w0.heap.size w0 w' := by
 refine (Tryz.Builder_String_any _ _ _ _ h.1 h.2.size).mono ?_
 rintro e w' ⟨rfl, h2⟩
 exact ⟨rfl, h.2.trans h2⟩
theorem BuilderAt.keep {T e : TypeId} {B b : Nat} {p : Value} {bs : List Value} {w w' : World} (h : Lib.BuilderAt T e B b p bs w) (hb : Below w.heap.size w w') : Lib.BuilderAt T e B b p bs w' := by
 obtain ⟨h1, v, h2, h3, h4⟩ := h
 exact ⟨h1, v, blk_below h2 hb, pw_own_below h3 hb, h4⟩
theorem BS.keep {w0 w w' : World} {l : List UInt8} (h : BS w0 l w) (hb : Below w.heap.size w w') : BS w0 l w' :=
 ⟨h.1.elim (fun x => .inl (BuilderAt.keep x hb)) (fun x => .inr (BuilderAt.keep x hb)), below_then h.2 h.2.size hb⟩
def sepS (acc : List UInt8) (n : Int) : List UInt8 := if acc = [] then (if n < 0 then [45] else []) else if n < 0 then [32, 45, 32] else [32, 43, 32]
def rowAcc (r : List Int) : Nat → List UInt8
 | 0 => []
 | k + 1 => if r.getD k 0 = 0 then rowAcc r k else rowAcc r k ++ sepS (rowAcc r k) (r.getD k 0) ++ termS (r.getD k 0) k (r.length - 1)
def rowS (r : List Int) : List UInt8 := if rowAcc r r.length = [] then [48] else rowAcc r r.length
theorem rowAcc_succ (r : List Int) (k : Nat) : rowAcc r (k + 1) = if r.getD k 0 = 0 then rowAcc r k else rowAcc r k ++ sepS (rowAcc r k) (r.getD k 0) ++ termS (r.getD k 0) k (r.length - 1) := by rw [rowAcc]
theorem sepS_len (l : List UInt8) (n : Int) : (sepS l n).length ≤ 3 := by
 unfold sepS
 split
 ·split <;> simp
 ·split <;> simp
theorem rowAcc_lenM (M : Nat) (hM : 1000300 ≤ M) (r : List Int) (hs : ∀ j : Nat, j < r.length → -1000000 ≤ r.getD j 0 ∧ r.getD j 0 ≤ 1000000) (hl : r.length ≤ 99) (k : Nat) : k ≤ r.length → (rowAcc r k).length ≤ k * M := by
 induction k with
 | zero => intro _; simp [rowAcc]
 | succ k ih =>
  intro hk
  have ih := ih (by omega)
  have h1 := term_len (r.getD k 0) k (r.length - 1) (hs k (by omega)) (by omega)
  have h2 := sepS_len (rowAcc r k) (r.getD k 0)
  rw [rowAcc_succ, Nat.succ_mul]
  generalize k * M = y at ih
  split
  ·omega
  ·simp only [List.length_append]; omega
theorem rowAcc_len (r : List Int) (hs : ∀ j : Nat, j < r.length → -1000000 ≤ r.getD j 0 ∧ r.getD j 0 ≤ 1000000) (hl : r.length ≤ 7) (k : Nat) (hk : k ≤ r.length) : (rowAcc r k).length ≤ 10000000 := by
 have h := rowAcc_lenM 1000300 (Nat.le_refl _) r hs (by omega) k hk
 have : k * 1000300 ≤ 7 * 1000300 := Nat.mul_le_mul_right _ (by omega)
 omega
set_option maxHeartbeats 4000000 in
set_option maxRecDepth 100000 in
theorem row_any (A : Option Addr) (c : Nat) (r : List Int) (w : World) (ht : Tab w) (hr : Kd.C (Kd.int .i64) w A r.length r) (hc : r.length ≤ c) (hl : 0 < r.length ∧ r.length ≤ 7) (hs : ∀ j : Nat, j < r.length → -1000000 ≤ r.getD j 0 ∧ r.getD j 0 ≤ 1000000) :
  Calls Tryz.prog 35 #[.slice A r.length c] w fun e w' => e = .returned (.string ⟨(rowS r).toArray⟩) ∧ Below w.heap.size w w' := by
 have HT := Aside0.mk ht
 have HR := Aside0.mk hr
 have HS := Aside0.mk hs
 clear ht hr hs
 go_enter Tryz.func35, Tryz.ntmps35
 go_wp2
 go_loopw [8] (fun i wr => ∃ k : Nat, k ≤ r.length ∧ i = .int .i64 k ∧ Aside0 (BS w (rowAcc r k) wr)) (fun i _ => r.length - (intOf i).toNat)
 case atStart => exact ⟨0, Nat.zero_le _, rfl, ⟨BS.start w⟩⟩
 case round =>
  obtain ⟨k, hk, rfl, HB⟩ := hrel
  by_cases hlt : k < r.length
  ·obtain ⟨ad, rfl, hx⟩ := at_int HR.out k hlt
   replace hx := (HB.out.2.cell (World.block_lt_of_cell? w _ hx)).trans hx
   have hsk := HS.out k hlt
   have hal2 := rowAcc_len r HS.out (by omega) k hk
   have htl := term_len (r.getD k 0) k (r.length - 1) hsk (by omega)
   have hstep : rowAcc r (k + 1) = if r.getD k 0 = 0 then rowAcc r k else rowAcc r k ++ sepS (rowAcc r k) (r.getD k 0) ++ termS (r.getD k 0) k (r.length - 1) := rfl
   have hterm : ∀ W, Below w.heap.size w W → Calls Tryz.prog 51 #[.int .i64 (r.getD k 0), .int .i64 k, .int .i64 ((r.length : Int) - 1)] W fun e w' => e = .returned (.string ⟨(termS (r.getD k 0) k (r.length - 1)).toArray⟩) ∧ Below W.heap.size W w' := fun W hW => by
    have := term_any (r.getD k 0) k (r.length - 1) W (HT.out.below hW) hsk (by omega) (by omega)
    rwa [show ((r.length - 1 : Nat) : Int) = (r.length : Int) - 1 by omega] at this
   generalize hn : r.getD k 0 = n at hx hsk hstep hterm htl
   generalize hacc : rowAcc r k = acc at HB hal2 hstep
   generalize htm : termS n k (r.length - 1) = tm at hstep hterm htl
   have HST := Aside0.mk hstep
   have HTM := Aside0.mk hterm
   clear hstep hterm hn hacc htm
   by_cases h0 : n = 0
   ·subst h0
    go_wp2
    go_roundw
    case rel => exact ⟨k + 1, by omega, by go_num, ⟨by rw [HST.out, if_pos rfl]; exact HB.out⟩⟩
    case measure => simp [intOf]; omega
   ·have hb0 : (n == 0) = false := beq_eq_false_iff_ne.2 h0
    have HBl := HB
    clear HB
    by_cases hae : acc = []
    ·by_cases h1 : n < 0
     ·have ha : ((acc.length : Int) == 0) = true := beq_iff_eq.2 (by rw [hae]; rfl)
      have hg : decide (0 < (acc.length : Int)) = false := decide_eq_false (by rw [hae]; simp)
      have hL : acc.length = 0 := by rw [hae]; rfl
      have hd : decide (n < 0) = true := decide_eq_true h1
      have HST2 : Aside0 (rowAcc r (k + 1) = acc ++ [45] ++ tm) := ⟨by rw [HST.out, if_neg h0]; unfold sepS; rw [if_pos hae, if_pos h1]⟩
      clear h0 h1 hae HST
      go_wp2_with (first
       | (go_at_call 49; refine HBl.out.len.mono ?_; rintro e w5 ⟨rfl, rfl⟩)
       | (go_at_call 51; refine (HTM.out _ HBl.out.2).mono ?_; rintro e w7 ⟨rfl, hb7⟩; have HBl := Aside0.mk (HBl.out.keep hb7); clear hb7)
       | (go_at_call 50; refine (HBl.out.write _ (by first | omega | (simp only [List.length_append, List.length_cons, List.length_nil]; omega))).mono ?_; rintro e w6 ⟨rfl, hb6⟩; have HBl := Aside0.mk hb6; clear hb6))
      go_roundw
      case rel => exact ⟨k + 1, by omega, by go_num, ⟨by rw [HST2.out]; exact HBl.out⟩⟩
      case measure => simp [intOf]; omega
     ·have ha : ((acc.length : Int) == 0) = true := beq_iff_eq.2 (by rw [hae]; rfl)
      have hg : decide (0 < (acc.length : Int)) = false := decide_eq_false (by rw [hae]; simp)
      have hL : acc.length = 0 := by rw [hae]; rfl
      have hd : decide (n < 0) = false := decide_eq_false h1
      have HST2 : Aside0 (rowAcc r (k + 1) = acc ++ [] ++ tm) := ⟨by rw [HST.out, if_neg h0]; unfold sepS; rw [if_pos hae, if_neg h1]⟩
      clear h0 h1 hae HST
      go_wp2_with (first
       | (go_at_call 49; refine HBl.out.len.mono ?_; rintro e w5 ⟨rfl, rfl⟩)
       | (go_at_call 51; refine (HTM.out _ HBl.out.2).mono ?_; rintro e w7 ⟨rfl, hb7⟩; have HBl := Aside0.mk (HBl.out.keep hb7); clear hb7)
       | (go_at_call 50; refine (HBl.out.write _ (by first | omega | (simp only [List.length_append, List.length_cons, List.length_nil]; omega))).mono ?_; rintro e w6 ⟨rfl, hb6⟩; have HBl := Aside0.mk hb6; clear hb6))
      go_roundw
      case rel => exact ⟨k + 1, by omega, by go_num, ⟨by rw [HST2.out, List.append_nil]; exact HBl.out⟩⟩
      case measure => simp [intOf]; omega
    ·by_cases h1 : n < 0
     ·have hp : 0 < acc.length := List.length_pos_iff.2 hae
      have ha : ((acc.length : Int) == 0) = false := beq_eq_false_iff_ne.2 (by omega)
      have hg : decide (0 < (acc.length : Int)) = true := decide_eq_true (by omega)
      have hd : decide (n < 0) = true := decide_eq_true h1
      have HST2 : Aside0 (rowAcc r (k + 1) = acc ++ [32, 45, 32] ++ tm) := ⟨by rw [HST.out, if_neg h0]; unfold sepS; rw [if_neg hae, if_pos h1]⟩
      clear h0 h1 hae HST
      go_wp2_with (first
       | (go_at_call 49; refine HBl.out.len.mono ?_; rintro e w5 ⟨rfl, rfl⟩)
       | (go_at_call 51; refine (HTM.out _ HBl.out.2).mono ?_; rintro e w7 ⟨rfl, hb7⟩; have HBl := Aside0.mk (HBl.out.keep hb7); clear hb7)
       | (go_at_call 50; refine (HBl.out.write _ (by first | omega | (simp only [List.length_append, List.length_cons, List.length_nil]; omega))).mono ?_; rintro e w6 ⟨rfl, hb6⟩; have HBl := Aside0.mk hb6; clear hb6))
      go_roundw
      case rel => exact ⟨k + 1, by omega, by go_num, ⟨by rw [HST2.out]; exact HBl.out⟩⟩
      case measure => simp [intOf]; omega
     ·have hp : 0 < acc.length := List.length_pos_iff.2 hae
      have ha : ((acc.length : Int) == 0) = false := beq_eq_false_iff_ne.2 (by omega)
      have hg : decide (0 < (acc.length : Int)) = true := decide_eq_true (by omega)
      have hd : decide (n < 0) = false := decide_eq_false h1
      have HST2 : Aside0 (rowAcc r (k + 1) = acc ++ [32, 43, 32] ++ tm) := ⟨by rw [HST.out, if_neg h0]; unfold sepS; rw [if_neg hae, if_neg h1]⟩
      clear h0 h1 hae HST
      go_wp2_with (first
       | (go_at_call 49; refine HBl.out.len.mono ?_; rintro e w5 ⟨rfl, rfl⟩)
       | (go_at_call 51; refine (HTM.out _ HBl.out.2).mono ?_; rintro e w7 ⟨rfl, hb7⟩; have HBl := Aside0.mk (HBl.out.keep hb7); clear hb7)
       | (go_at_call 50; refine (HBl.out.write _ (by first | omega | (simp only [List.length_append, List.length_cons, List.length_nil]; omega))).mono ?_; rintro e w6 ⟨rfl, hb6⟩; have HBl := Aside0.mk hb6; clear hb6))
      go_roundw
      case rel => exact ⟨k + 1, by omega, by go_num, ⟨by rw [HST2.out]; exact HBl.out⟩⟩
      case measure => simp [intOf]; omega
  ·obtain rfl : r.length = k := by omega
   have hrs : rowS r = if rowAcc r r.length = [] then [48] else rowAcc r r.length := rfl
   generalize hacc : rowAcc r r.length = acc at HB hrs
   have HBl := HB
   clear HB hacc
   by_cases hae : acc = []
   ·have ha : ((acc.length : Int) == 0) = true := beq_iff_eq.2 (by rw [hae]; rfl)
    have HRS : Aside0 (rowS r = [48]) := ⟨by rw [hrs, if_pos hae]⟩
    clear hae hrs
    go_wp2_with (first
     | (go_at_call 49; refine HBl.out.len.mono ?_; rintro e w5 ⟨rfl, rfl⟩))
    go_ret
    exact ⟨by rw [HRS.out]; rfl, HBl.out.2⟩
   ·have hp : 0 < acc.length := List.length_pos_iff.2 hae
    have ha : ((acc.length : Int) == 0) = false := beq_eq_false_iff_ne.2 (by omega)
    have HRS : Aside0 (rowS r = acc) := ⟨by rw [hrs, if_neg hae]⟩
    clear hae hrs
    go_wp2_with (first
     | (go_at_call 49; refine HBl.out.len.mono ?_; rintro e w5 ⟨rfl, rfl⟩)
     | (go_at_call 52; refine HBl.out.string.mono ?_; rintro e w6 ⟨rfl, hb6⟩; have HBf := Aside0.mk hb6; clear hb6))
    go_ret
    exact ⟨by rw [HRS.out]; rfl, HBf.out⟩
def strs (ls : List (List UInt8)) : List Value := ls.map fun l => Value.string ⟨l.toArray⟩
theorem own_strs {w : World} {base : Nat} {v : Value} {ls : List (List UInt8)} (h : w.ownsRow base 9 1 v ls.length (strs ls)) : (ls = [] ∧ ∃ a c, v = .slice a 0 c) ∨ ∃ g c, v = .slice (some ⟨g, 0, none⟩) ls.length c ∧ g < w.heap.size ∧ ls.length ≤ c ∧ ∀ (j : Nat) x, ls[j]? = some x → w.cell? ⟨g, 0 + j, none⟩ = some (.string ⟨x.toArray⟩) := by
 rcases h.2 with ⟨e, h0⟩ | ⟨g, c, cur, rfl, hb, hh, hnc, _, _, ht⟩
 ·exact .inl ⟨List.eq_nil_of_length_eq_zero h0, _, _, by rw [e]⟩
 ·refine .inr ⟨g, c, rfl, blk_lt hh, hnc, fun j x hx => ?_⟩
  rw [Nat.zero_add]
  refine (blk_cell hh j).trans ?_
  have hj : j < ls.length := by
   rcases Nat.lt_or_ge j ls.length with h' | h'
   ·exact h'
   ·rw [List.getElem?_eq_none h'] at hx; exact absurd hx (by simp)
  have e := congrArg (fun l => l[j]?) ht
  simp only [Nat.mul_one, List.getElem?_take, if_pos hj, strs, List.getElem?_map, hx, Option.map_some] at e
  simpa using e
theorem join_any {w : World} {base : Nat} {v : Value} {ls : List (List UInt8)} (h : w.ownsRow base 9 1 v ls.length (strs ls)) (hn : ls.length ≤ 140737488355328) (hl : (Lib.join ls [44, 32]).length ≤ 140737488355328) :
  Calls Tryz.prog 37 #[v, .string ⟨#[44, 32]⟩] w fun e w' => e = .returned (.string ⟨(Lib.join ls [44, 32]).toArray⟩) ∧ Below w.heap.size w w' := by
 rcases own_strs h with ⟨rfl, a, c, rfl⟩ | ⟨g, c, rfl, hg, hc, hcells⟩
 ·refine (Tryz.strings_Join_none a c _ w).mono ?_
  rintro e w' ⟨rfl, rfl⟩
  exact ⟨rfl, Below.refl _ _⟩
 ·have hm : (ls.map fun l => (⟨l.toArray⟩ : ByteArray)).map (·.data.toList) = ls := by
   rw [List.map_map]
   exact (List.map_congr_left (fun l _ => rfl)).trans (List.map_id ls)
  have := Tryz.strings_Join g 0 c (ls.map fun l => (⟨l.toArray⟩ : ByteArray)) ⟨#[44, 32]⟩ w (fun j x hx => by
   rw [List.getElem?_map] at hx
   obtain ⟨y, hy, rfl⟩ := Option.map_eq_some_iff.1 hx
   exact hcells j y hy) hg (by simpa using hn) (by simpa using hc) (by rw [hm]; exact hl)
  rw [hm, List.length_map] at this
  exact this
theorem join_len (M : Nat) (sep : List UInt8) : ∀ ls : List (List UInt8), (∀ l ∈ ls, l.length ≤ M) → (Lib.join ls sep).length ≤ ls.length * (M + sep.length)
 | [], _ => by simp [Lib.join_nil]
 | [x], h => by rw [Lib.join_one]; have := h x (by simp); simp; omega
 | x :: y :: r, h => by
  have ih := join_len M sep (y :: r) (fun l hl => h l (List.mem_cons_of_mem _ hl))
  have h1 := h x (by simp)
  have e : Lib.join (x :: y :: r) sep = x ++ sep ++ Lib.join (y :: r) sep := by simp [Lib.join_cons, Lib.joinTail]
  rw [e]
  simp only [List.length_append, List.length_cons] at ih ⊢
  rw [Nat.succ_mul]
  omega
def dimL (n : Nat) : List (List UInt8) := (List.range n).map fun i => 100 :: Lib.decDigits i
def dimsS (n : Nat) : List UInt8 := [40] ++ Lib.join (dimL n) [44, 32] ++ [41]
set_option maxHeartbeats 4000000 in
set_option maxRecDepth 100000 in
theorem dims_any (n : Nat) (w : World) (hn : n ≤ 6) :
  Calls Tryz.prog 36 #[.int .i64 n] w fun e w' => e = .returned (.string ⟨(dimsS n).toArray⟩) ∧ Below w.heap.size w w' := by
 go_enter Tryz.func36, Tryz.ntmps36
 go_wp2
 go_loopw [3, 6] (fun v3 i wr => ∃ k : Nat, k ≤ n ∧ i = .int .i64 k ∧ Aside0 (wr.ownsRow w.heap.size 9 1 v3 k (strs (dimL k))) ∧ Aside0 (Below w.heap.size w wr)) (fun _ i _ => n - (intOf i).toNat)
 case atStart => exact ⟨0, Nat.zero_le _, rfl, ⟨own_nil _ _ _ _⟩, ⟨Below.refl _ _⟩⟩
 case round =>
  obtain ⟨k, hk, rfl, HO, HB⟩ := hrel
  by_cases hlt : k < n
  ·have hi2 : ∀ W, Calls Tryz.prog 53 #[.int .i64 (k : Int)] W fun e w' => e = .returned (.string ⟨(Lib.decDigits k).toArray⟩) ∧ w' = W := fun W => Tryz.strconv_Itoa_small k (by omega) W
   have hl4 := dec_len k
   have HI := Aside0.mk hi2
   clear hi2
   go_wp2_with (first
    | (go_at_call 53; refine (HI.out _).mono ?_; rintro e w1 ⟨rfl, rfl⟩)
    | ((with_reducible refine gate_builtin (b := .append) (xs := #[.tmp 9, .tmp 13]) rfl ?_); at_builtin; refine print_append_cells w.heap.size rfl (.tmp 9) (.tmp 13) 58 9 (.string ⟨#[]⟩) 1 16 rfl Tryz.underlying58 (by kernel_rfl) rfl (by decide) (by decide) u3 k (strs (dimL k)) [.string ⟨(100 :: Lib.decDigits k).toArray⟩] rfl rfl rfl (by simp [Value.oneCell']) HO.out HB.out HB.out.size (by omega) ?_; intro v6 w6 ho hb hg hat; have HO6 := Aside0.mk ho; have HB6 := Aside0.mk hb; clear ho hb hg hat))
   go_roundw
   case rel => exact ⟨k + 1, by omega, by go_num, ⟨by unfold dimL; rw [List.range_succ, List.map_append, strs, List.map_append]; exact HO6.out⟩, HB6⟩
   case measure => simp [intOf]; omega
  ·obtain rfl : n = k := by omega
   have hjl := join_len 100 [44, 32] (dimL n) (fun l hl => by
    unfold dimL at hl
    obtain ⟨i, hi, rfl⟩ := List.mem_map.1 hl
    have := dec_len i
    have := List.mem_range.1 hi
    simp; omega)
   have hdl : (dimL n).length = n := by simp [dimL]
   rw [hdl] at hjl
   have hj := join_any (w := wr) (ls := dimL n) (by rw [hdl]; exact HO.out) (by omega) (by simp at hjl; omega)
   have hds : dimsS n = [40] ++ Lib.join (dimL n) [44, 32] ++ [41] := rfl
   have hjl2 : (Lib.join (dimL n) [44, 32]).length ≤ 1000 := by simp at hjl; omega
   generalize Lib.join (dimL n) [44, 32] = J at hj hds hjl2
   have HJ := Aside0.mk hj
   have HDS := Aside0.mk hds
   clear hj hds hjl hdl
   go_wp2_with (first
    | (go_at_call 37; refine HJ.out.mono ?_; rintro e w1 ⟨rfl, hb1⟩; have HB1 := Aside0.mk (below_then HB.out HB.out.size hb1); clear hb1))
   go_ret
   exact ⟨by rw [HDS.out]; exact congrArg (fun x => Ending.returned (.string x)) ((congrArg (· ++ _) (ba_append [40] J)).trans (ba_append ([40] ++ J) [41])), HB1.out⟩
def printS (n : Nat) (l : List (List Int)) : List UInt8 := dimsS n ++ [32, 45, 62, 32, 40] ++ Lib.join (l.map rowS) [44, 32] ++ [41]
theorem dimsS_len (n : Nat) (hn : n ≤ 6) : (dimsS n).length ≤ 1100 := by
 have hjl := join_len 100 [44, 32] (dimL n) (fun l hl => by
  unfold dimL at hl
  obtain ⟨i, hi, rfl⟩ := List.mem_map.1 hl
  have := dec_len i
  have := List.mem_range.1 hi
  simp; omega)
 rw [show (dimL n).length = n by simp [dimL]] at hjl
 unfold dimsS
 simp only [List.length_append, List.length_cons, List.length_nil] at hjl ⊢
 omega
theorem rowS_len (r : List Int) (hs : ∀ j : Nat, j < r.length → -1000000 ≤ r.getD j 0 ∧ r.getD j 0 ≤ 1000000) (hl : r.length ≤ 7) : (rowS r).length ≤ 10000000 := by
 unfold rowS
 split
 ·simp
 ·exact rowAcc_len r hs hl r.length (Nat.le_refl _)
set_option maxHeartbeats 4000000 in
set_option maxRecDepth 100000 in
theorem print_any (d : Int) (A : Option Addr) (c : Nat) (l : List (List Int)) (w : World) (ht : Tab w) (hr : Kd.C (Kd.slice 2 (Kd.int .i64)) w A l.length l) (hc : l.length ≤ c) :
  Calls Tryz.prog 18 #[.agg #[.int .i64 d, .slice A l.length c]] w fun e w' => e = .returned (if rightB d l = true then .tuple #[.string ⟨(printS d.toNat l).toArray⟩, .int .i64 0] else .tuple #[.string ⟨#[]⟩, .int .i64 190]) ∧ Below w.heap.size w w' := by
 have hm0 : l.length ≤ 9223372036854775807 := hr.2.1
 have HR := Aside0.mk hr
 have HT := Aside0.mk ht
 have HD := Aside0.mk hc
 obtain ⟨W2, hW2⟩ : ∃ W2 : World, W2 = w.alloc (.cells #[.int .i64 d, .slice A l.length c] 24) := ⟨_, rfl⟩
 have HB0 : Aside0 (Below w.heap.size w W2) := ⟨by rw [hW2]; exact below_alloc (Below.refl w.heap.size w) _⟩
 have BB0 : Aside0 (W2.heap[w.heap.size]? = some (.cells #[.int .i64 d, .slice A l.length c] 24 (0, 0))) := ⟨by rw [hW2]; exact blk_new w _⟩
 have HC : ∀ b, rightB d l = b → ∀ W, W = W2 → Calls Tryz.prog 25 #[.agg #[.int .i64 d, .slice A l.length c]] W fun e w' => e = .returned (.bool b) ∧ Below W2.heap.size W2 w' := fun b hb W hW => by
  subst hW
  exact affine_Map_right.calls d A c l b _ (Kd.C_below HR.out HB0.out) HD.out (by unfold affine_Map_right.f; rw [hb])
 have HW2 := Aside0.mk hW2
 clear hW2 hr ht hc
 cases hrt : rightB d l with
 | false =>
  have HCC := Aside0.mk (HC false hrt)
  clear HC hrt
  go_enter Tryz.func18, Tryz.ntmps18
  go_wp2_with (first
   | (go_at_call 25; refine (HCC.out _ HW2.out.symm).mono ?_; rintro e w1 ⟨rfl, hb1⟩; have HB1 := Aside0.mk (below_then HB0.out HB0.out.size hb1); clear hb1))
  go_ret2
  exact ⟨rfl, HB1.out⟩
 | true =>
  have HCC := Aside0.mk (HC true hrt)
  obtain ⟨d0, d1, d2⟩ := rightB_dims hrt
  have HRT := Aside0.mk hrt
  obtain ⟨n, rfl⟩ := Int.eq_ofNat_of_zero_le d0
  clear HC hrt d0
  go_enter Tryz.func18, Tryz.ntmps18
  go_wp2_with (first
   | (go_at_call 25; refine (HCC.out _ HW2.out.symm).mono ?_; rintro e w1 ⟨rfl, hb1⟩; have HB1 := Aside0.mk (below_then HB0.out HB0.out.size hb1); have B0 := Aside0.mk (blk_below BB0.out hb1); have p0 := blk_cell B0.out 0; have p1 := blk_cell B0.out 1; clear hb1))
  clear p0 p1
  go_loopw [4, 13] (fun v4 i wr => ∃ k : Nat, k ≤ l.length ∧ i = .int .i64 k ∧ Aside0 (wr.ownsRow w.heap.size 9 1 v4 k (strs ((l.take k).map rowS))) ∧ Aside0 (wr.heap[w.heap.size]? = some (.cells #[.int .i64 n, .slice A l.length c] 24 (0, 0))) ∧ Aside0 (Below w.heap.size w wr)) (fun _ i _ => l.length - (intOf i).toNat)
  case atStart => exact ⟨0, Nat.zero_le _, rfl, ⟨own_nil _ _ _ _⟩, B0, HB1⟩
  case round =>
   clear B0 HB1
   obtain ⟨k, hk, rfl, HO, B0, HB⟩ := hrel
   by_cases hlt : k < l.length
   ·obtain ⟨ad, A0, c0, e, hx, hl, hi⟩ := at_L1 HR.out k (by omega) (by omega)
    obtain ⟨hrn, hsm⟩ := rightB_row HRT.out k hlt
    cases e
    rw [Int.toNat_natCast] at hx
    replace hx := (HB.out.cell (World.block_lt_of_cell? w _ hx)).trans hx
    have hrow : ∀ W, Below w.heap.size w W → Calls Tryz.prog 35 #[.slice A0 (rd_L1 l (k : Int)).length c0] W fun e w' => e = .returned (.string ⟨(rowS (rd_L1 l (k : Int))).toArray⟩) ∧ Below W.heap.size W w' := fun W hW =>
     row_any A0 c0 (rd_L1 l (k : Int)) W (HT.out.below hW) (Kd.C_below hi hW) hl (by omega) hsm
    have HROW := Aside0.mk hrow
    have htk : (l.take (k + 1)).map rowS = (l.take k).map rowS ++ [rowS (rd_L1 l (k : Int))] := by
     rw [List.take_add_one, List.getElem?_eq_getElem hlt, List.map_append, rd_L1_at hlt]; rfl
    have HTK := Aside0.mk htk
    clear hi hsm hrow htk
    go_wp2_with (first
     | (go_at_call 35; refine (HROW.out _ HB.out).mono ?_; rintro e w5 ⟨rfl, hb5⟩; have HB5 := Aside0.mk (below_then HB.out HB.out.size hb5); have B05 := Aside0.mk (blk_below B0.out hb5); have HO5 := Aside0.mk (pw_own_below HO.out hb5); have HNE : Aside0 (some w.heap.size ≠ u4.ownBlock) := ⟨fun e => by obtain ⟨cells, hc⟩ := own_typed HO5.out _ e.symm; have h1 := B05.out; rw [hc] at h1; injection h1 with h1; injection h1 with _ h1; exact absurd h1 (by decide)⟩; clear hb5)
     | ((with_reducible refine gate_builtin (b := .append) (xs := #[.tmp 17, .tmp 20]) rfl ?_); at_builtin; refine print_append_cells w.heap.size rfl (.tmp 17) (.tmp 20) 58 9 (.string ⟨#[]⟩) 1 16 rfl Tryz.underlying58 (by kernel_rfl) rfl (by decide) (by decide) u4 k (strs ((l.take k).map rowS)) [.string ⟨(rowS (rd_L1 l (k : Int))).toArray⟩] rfl rfl rfl (by simp [Value.oneCell']) HO5.out HB5.out HB5.out.size (by omega) ?_; intro v6 w6 ho hb hg hat; have HO6 := Aside0.mk ho; have HB6 := Aside0.mk hb; have B06 := Aside0.mk (blk_grown B05.out hg HNE.out); clear ho hb hg hat))
    go_roundw
    case rel => exact ⟨k + 1, by omega, by go_num, ⟨by rw [HTK.out, strs, List.map_append]; exact HO6.out⟩, B06, HB6⟩
    case measure => simp [intOf]; omega
   ·obtain rfl : l.length = k := by omega
    have hown := HO.out
    rw [List.take_length] at hown
    have hlm : (l.map rowS).length = l.length := List.length_map ..
    have hjl := join_len 10000000 [44, 32] (l.map rowS) (fun x hx => by
     obtain ⟨r, hr, rfl⟩ := List.mem_map.1 hx
     obtain ⟨j, hj, rfl⟩ := List.getElem_of_mem hr
     obtain ⟨hrn, hsm⟩ := rightB_row HRT.out j hj
     rw [rd_L1_at hj] at hrn hsm
     exact rowS_len _ hsm (by omega))
    rw [hlm] at hjl
    have hjl2 : (Lib.join (l.map rowS) [44, 32]).length ≤ 100000000 := by simp at hjl; omega
    have hj : ∀ W, Below wr.heap.size wr W → Calls Tryz.prog 37 #[u4, .string ⟨#[44, 32]⟩] W fun e w' => e = .returned (.string ⟨(Lib.join (l.map rowS) [44, 32]).toArray⟩) ∧ Below W.heap.size W w' := fun W hW =>
     join_any (ls := l.map rowS) (by rw [hlm]; exact pw_own_below hown hW) (by omega) (by omega)
    have hps : printS (n : Int).toNat l = dimsS n ++ [32, 45, 62, 32, 40] ++ Lib.join (l.map rowS) [44, 32] ++ [41] := rfl
    have hdl := dimsS_len n (by omega)
    have hdims := fun W => dims_any n W (by omega)
    have p0 := blk_cell B0.out 0
    generalize Lib.join (l.map rowS) [44, 32] = J at hj hps hjl2
    generalize dimsS n = D at hps hdl hdims
    have HJ := Aside0.mk hj
    have HPS := Aside0.mk hps
    have HDM := Aside0.mk hdims
    clear hj hps hjl hown hdims
    go_wp2_with (first
     | (go_at_call 36; refine (HDM.out _).mono ?_; rintro e w5 ⟨rfl, hb5⟩; have HB5 := Aside0.mk hb5; clear hb5)
     | (go_at_call 37; refine (HJ.out _ HB5.out).mono ?_; rintro e w6 ⟨rfl, hb6⟩; have HB6 := Aside0.mk (below_then HB.out HB.out.size (below_then HB5.out HB5.out.size hb6)); clear hb6))
    go_ret2
    refine ⟨?_, HB6.out⟩
    have hfin := HPS.out
    refine Eq.trans ?_ (congrArg (fun x => Ending.returned (.tuple #[.string ⟨(x : List UInt8).toArray⟩, .int .i64 0])) hfin.symm)
    refine congrArg (fun x => Ending.returned (.tuple #[.string x, .int .i64 0])) ?_
    exact (congrArg (fun x => x ++ (⟨J.toArray⟩ : ByteArray) ++ ⟨#[41]⟩) (ba_append D [32, 45, 62, 32, 40])).trans ((congrArg (· ++ (⟨#[41]⟩ : ByteArray)) (ba_append (D ++ [32, 45, 62, 32, 40]) J)).trans (ba_append (D ++ [32, 45, 62, 32, 40] ++ J) [41]))
end Go.Proofs.YtcefaofknaeaeaaGreatDoor.X
