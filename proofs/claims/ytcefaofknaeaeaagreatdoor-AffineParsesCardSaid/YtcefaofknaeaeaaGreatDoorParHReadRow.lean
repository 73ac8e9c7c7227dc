/- demotic/affine.readRow: the row of a string, as well as it can be read: its contract. -/
import Derived.Test.YtcefaofknaeaeaaGreatDoorParHLib
import Derived.Lib.AtoiErrMem
set_option linter.unusedVariables false
set_option linter.unusedSimpArgs false
namespace Go.Proofs.YtcefaofknaeaeaaGreatDoor.X
open Go.RowKit Go.Proofs.YtcefaofknaeaeaaGreatDoorW.PrintWords Go.Proofs.YtcefaofknaeaeaaGreatDoorW.PrintLast Go.Proofs.YtcefaofknaeaeaaGreatDoorW.PrintMore
def negT (t : ByteArray) : Bool := Lib.hasPrefix t.data.toList [45]
def magT (t : ByteArray) : ByteArray := if negT t = true then bs (Lib.trimPrefix t.data.toList [45]) else t
def starT (t : ByteArray) : Bool := (Lib.cut (magT t).data.toList [42]).2.2
def dT (t : ByteArray) : Bool := Lib.hasPrefix (magT t).data.toList [100]
def okT (t : ByteArray) : Bool := starT t || dT t
def sizeT (t : ByteArray) : ByteArray := if starT t = true then bs (Lib.cut (magT t).data.toList [42]).1 else if dT t = true then ⟨#[49]⟩ else bs (Lib.cut (magT t).data.toList [42]).1
def nameT (t : ByteArray) : ByteArray := if starT t = true then bs (Lib.cut (magT t).data.toList [42]).2.1 else if dT t = true then magT t else bs (Lib.cut (magT t).data.toList [42]).2.1
def idxT (t : ByteArray) : Lib.NumEnd Int := Lib.atoiAll (Lib.trimPrefix (nameT t).data.toList [100])
def numT (t : ByteArray) : Lib.NumEnd Int := Lib.parseIntB 64 (sizeT t).data.toList
def signT (t : ByteArray) : Int := if negT t = true then -1 else 1
def tokT (n : Nat) (t : ByteArray) : Option (Nat × Int) :=
 match (if okT t = true then (match idxT t with | .ok i => if 0 ≤ i ∧ i < (n : Int) then some i.toNat else none | _ => none) else some n), numT t with
 | some a, .ok v => some (a, wrap64 (signT t * v))
 | _, _ => none
def readT (n : Nat) : List ByteArray → List Int → Option (List Int)
 | [], out => some out
 | t :: ts, out => match tokT n t with | none => none | some (a, v) => readT n ts (out.set a v)
def tidyT (s : ByteArray) : ByteArray := bs (Lib.replaceAll (bs (Lib.replaceAll s.data.toList [32, 43, 32] [32])).data.toList [32, 45, 32] [32, 45])
def toksT (s : ByteArray) : List ByteArray := Lib.splitB ⟨#[32]⟩ 0 (Lib.countB (tidyT s) ⟨#[32]⟩) (tidyT s)
def rowT (n : Nat) (s : ByteArray) : List Int := (readT n (toksT s) (List.replicate (n + 1) 0)).getD []
theorem bs_size (l : List UInt8) : (bs l).size = l.length := by rw [Lib.size_eq, bs_data]
theorem replaceK_len (old new : List UInt8) (h : new.length ≤ old.length) : ∀ (k : Nat) (s : List UInt8), (Lib.replaceK old new k s).length ≤ s.length
 | 0, s => Nat.le_refl _
 | k + 1, s => by
  unfold Lib.replaceK
  by_cases c : (Lib.index s old == -1) = true
  ·rw [if_pos c]; exact Nat.le_refl _
  ·rw [if_neg c]
   have hne : Lib.index s old ≠ -1 := fun e => c (beq_iff_eq.2 e)
   have h0 : 0 ≤ Lib.index s old := by have := Lib.index_ge s old; omega
   have hr := Lib.index_room s old h0
   have ih := replaceK_len old new h k (s.drop ((Lib.index s old).toNat + old.length))
   rw [List.length_drop] at ih
   rw [List.length_append, List.length_append, List.length_take]
   omega
theorem replaceAll_len (s old new : List UInt8) (h : new.length ≤ old.length) : (Lib.replaceAll s old new).length ≤ s.length := by
 unfold Lib.replaceAll Lib.replace
 split
 ·exact Nat.le_refl _
 ·exact replaceK_len old new h _ _
theorem splitB_size (sep : ByteArray) : ∀ (k : Nat) (s : ByteArray), ∀ x ∈ Lib.splitB sep 0 k s, x.size ≤ s.size
 | 0, s, x, h => by
  rw [Lib.splitB_zero, List.mem_singleton] at h
  subst h; exact Nat.le_refl _
 | k + 1, s, x, h => by
  unfold Lib.splitB at h
  split at h
  ·rw [List.mem_singleton] at h
   subst h; exact Nat.le_refl _
  ·rcases List.mem_cons.1 h with rfl | h
   ·rw [ByteArray.size_extract]; omega
   ·have := splitB_size sep k _ x h
    rw [ByteArray.size_extract] at this; omega
theorem trimPrefix_len (s p : List UInt8) : (Lib.trimPrefix s p).length ≤ s.length := by
 unfold Lib.trimPrefix
 split
 ·rw [List.length_drop]; omega
 ·exact Nat.le_refl _
theorem cut_len (s p : List UInt8) : (Lib.cut s p).1.length ≤ s.length ∧ (Lib.cut s p).2.1.length ≤ s.length := by
 unfold Lib.cut
 split
 ·exact ⟨by rw [List.length_take]; omega, by rw [List.length_drop]; omega⟩
 ·exact ⟨Nat.le_refl _, Nat.zero_le _⟩
theorem magT_size (t : ByteArray) : (magT t).size ≤ t.size := by
 unfold magT
 split
 ·rw [bs_size, Lib.size_eq]; exact trimPrefix_len _ _
 ·exact Nat.le_refl _
theorem sizeT_size (t : ByteArray) : (sizeT t).size ≤ t.size + 1 := by
 have h := magT_size t
 have hc := (cut_len (magT t).data.toList [42]).1
 have e := Lib.size_eq (magT t)
 unfold sizeT
 split
 ·rw [bs_size]; omega
 ·split
  ·show 1 ≤ _; omega
  ·rw [bs_size]; omega
theorem nameT_size (t : ByteArray) : (nameT t).size ≤ t.size := by
 have h := magT_size t
 have hc := (cut_len (magT t).data.toList [42]).2
 have e := Lib.size_eq (magT t)
 unfold nameT
 split
 ·rw [bs_size]; omega
 ·split
  ·exact h
  ·rw [bs_size]; omega
theorem tidyT_size (s : ByteArray) : (tidyT s).size ≤ s.size := by
 unfold tidyT
 rw [bs_size, bs_data]
 have h1 := replaceAll_len (Lib.replaceAll s.data.toList [32, 43, 32] [32]) [32, 45, 32] [32, 45] (by decide)
 have h2 := replaceAll_len s.data.toList [32, 43, 32] [32] (by decide)
 have e := Lib.size_eq s
 omega
theorem toksT_size (s : ByteArray) (x : ByteArray) (h : x ∈ toksT s) : x.size ≤ s.size := Nat.le_trans (splitB_size _ _ _ x h) (tidyT_size s)
theorem below_or {w w' : World} (h : w' = w ∨ ∃ t, w' = Lib.bytesWorld w 5 t) : Below w.heap.size w w' := by
 rcases h with rfl | ⟨t, rfl⟩
 ·exact Below.refl _ _
 ·exact Lib.bytesWorld_below _ _ _
theorem parse_ok (s : ByteArray) (v : Int) (hs : s.size ≤ 200000000) (h : Lib.parseIntB 64 s.data.toList = .ok v) (w : World) : Calls Tryz.prog 62 #[.string s, .int .i64 10, .int .i64 64] w fun e w' => e = .returned (.tuple #[.int .i64 v, .nilIface]) ∧ Below w.heap.size w w' := by
 refine (Tryz.strconv_ParseInt_10_at64_ok s (by omega) v h w).mono ?_
 rintro e w' ⟨rfl, hw⟩
 exact ⟨rfl, below_or hw⟩
theorem parse_bad (s : ByteArray) (hs : s.size ≤ 200000000) (h : ∀ v, Lib.parseIntB 64 s.data.toList ≠ .ok v) (w : World) (hg : Glob w) : Calls Tryz.prog 62 #[.string s, .int .i64 10, .int .i64 64] w fun e w' => ∃ v N, e = .returned (.tuple #[.int .i64 v, .iface 116 (.pointer (some ⟨N, 0, none⟩))]) ∧ Below w.heap.size w w' := by
 obtain ⟨_, _, ⟨t1, p1, h1⟩, t2, p2, h2⟩ := hg
 cases c : Lib.parseIntB 64 s.data.toList with
 | ok v => exact absurd c (h v)
 | «syntax» =>
  refine (Tryz.strconv_ParseInt_10_at64_syntax_var s (by omega) c t1 p1 w h1).mono ?_
  rintro e w' ⟨N, rfl, _, _, hb⟩
  exact ⟨_, N, rfl, hb⟩
 | range =>
  refine (Tryz.strconv_ParseInt_10_at64_range_var s (by omega) c t2 p2 w h2).mono ?_
  rintro e w' ⟨N, rfl, _, _, hb⟩
  exact ⟨_, N, rfl, hb⟩
theorem atoi_ok (s : ByteArray) (v : Int) (hs : s.size ≤ 200000000) (h : Lib.atoiAll s.data.toList = .ok v) (w : World) : Calls Tryz.prog 63 #[.string s] w fun e w' => e = .returned (.tuple #[.int .i64 v, .nilIface]) ∧ Below w.heap.size w w' := by
 refine (Tryz.strconv_Atoi_ok s (by omega) v h w).mono ?_
 rintro e w' ⟨rfl, hw⟩
 exact ⟨rfl, below_or hw⟩
theorem atoi_bad (s : ByteArray) (hs : s.size ≤ 200000000) (h : ∀ v, Lib.atoiAll s.data.toList ≠ .ok v) (w : World) (hg : Glob w) : Calls Tryz.prog 63 #[.string s] w fun e w' => ∃ v N, e = .returned (.tuple #[.int .i64 v, .iface 116 (.pointer (some ⟨N, 0, none⟩))]) ∧ Below w.heap.size w w' := by
 obtain ⟨_, _, ⟨t1, p1, h1⟩, t2, p2, h2⟩ := hg
 cases c : Lib.atoiAll s.data.toList with
 | ok v => exact absurd c (h v)
 | «syntax» =>
  refine (Tryz.strconv_Atoi_syntax_var s (by omega) c t1 p1 w h1).mono ?_
  rintro e w' ⟨N, rfl, _, _, hb⟩
  exact ⟨_, N, rfl, hb⟩
 | range =>
  refine (Tryz.strconv_Atoi_range_var s (by omega) c t2 p2 w h2).mono ?_
  rintro e w' ⟨N, rfl, _, _, hb⟩
  exact ⟨_, N, rfl, hb⟩
def RowL (w : World) (g : Nat) (l : List Int) : Prop := w.heap[g]? = some (.cells (nums .i64 l).toArray 2 (0, 0))
theorem RowL.made (w : World) (m : Nat) : RowL (w.alloc (.cells (madeCells #[.int .i64 0] m) 2)) w.heap.size (List.replicate m 0) := by
 have := Row.made w m
 unfold Row at this
 unfold RowL
 rw [this]
 congr 4
 rw [List.map_const', List.length_range]
theorem RowL.put {w : World} {g : Nat} {l : List Int} (h : RowL w g l) (j : Nat) (x : Int) : RowL (w.setCell ⟨g, j, none⟩ (.int .i64 x)) g (l.set j x) := by
 refine blk_put h j _ ?_
 unfold nums
 rw [List.map_set]
 simp
theorem RowL.below {w w' : World} {g : Nat} {l : List Int} (h : RowL w g l) (hb : Below w.heap.size w w') : RowL w' g l := blk_below h hb
theorem RowL.cell {w : World} {g : Nat} {l : List Int} (h : RowL w g l) (j : Nat) (hj : j < l.length) : w.cell? ⟨g, j, none⟩ = some (.int .i64 l[j]) := by
 refine (blk_cell h j).trans ?_
 simp [nums, hj]
theorem RowL.R {w0 w : World} {g : Nat} {l : List Int} (h : RowL w g l) (hg : w0.heap.size ≤ g) (hl : l.length ≤ maxLen) : Kd.R (Kd.int .i64) 2 w w0.heap.size (fun _ => True) (.slice (some ⟨g, 0, none⟩) l.length l.length) l := by
 refine Kd.R_of_own (enc := Value.int .i64) (h1 := fun _ => rfl) ⟨by rw [encs_length, Nat.mul_one], .inr ⟨g, _, _, rfl, hg, h, Nat.le_refl _, hl, by simp [nums], ?_⟩⟩ (fun _ _ => trivial)
 rw [Nat.mul_one, List.take_of_length_le (by simp [nums])]
 rfl
set_option maxHeartbeats 4000000 in
set_option maxRecDepth 100000 in
theorem readRow_any (s : ByteArray) (n : Nat) (hn : n ≤ 6) (hs : s.size ≤ 100000000) (w : World) (hg : Glob w) :
  Calls Tryz.prog 40 #[.string s, .int .i64 n] w fun e w' => ∃ v0_ : Value, e = .returned v0_ ∧ Kd.R (Kd.int .i64) 2 w' w.heap.size (fun _ => True) v0_ (rowT n s) ∧ Below w.heap.size w w' := by
 have hw1 : wrap64 ((n : Int) + 1) = (n : Int) + 1 := by unfold wrap64; omega
 have HG := Aside0.mk hg
 have hr1 : ∀ W, Below w.heap.size w W → Calls Tryz.prog 59 #[.string s, .string ⟨#[32, 43, 32]⟩, .string ⟨#[32]⟩] W fun e w' => e = .returned (.string (bs (Lib.replaceAll s.data.toList [32, 43, 32] [32]))) ∧ Below W.heap.size W w' := fun W hW => by
  obtain ⟨_, ⟨m, hm⟩, _⟩ := hg.below hW
  have hc := Lib.countB_le ⟨#[32, 43, 32]⟩ (by decide) _ s (Nat.le_refl _)
  exact Tryz.strings_ReplaceAll s ⟨#[32, 43, 32]⟩ ⟨#[32]⟩ m W (by omega) hm (by decide) (by show s.size + _ * 1 ≤ _; omega)
 have hl1 := replaceAll_len s.data.toList [32, 43, 32] [32] (by decide)
 have hs1 : (bs (Lib.replaceAll s.data.toList [32, 43, 32] [32])).size ≤ 100000000 := by rw [bs_size]; have := Lib.size_eq s; omega
 have hr2 : ∀ W, Below w.heap.size w W → Calls Tryz.prog 59 #[.string (bs (Lib.replaceAll s.data.toList [32, 43, 32] [32])), .string ⟨#[32, 45, 32]⟩, .string ⟨#[32, 45]⟩] W fun e w' => e = .returned (.string (tidyT s)) ∧ Below W.heap.size W w' := fun W hW => by
  obtain ⟨_, ⟨m, hm⟩, _⟩ := hg.below hW
  have hc := Lib.countB_le ⟨#[32, 45, 32]⟩ (by decide) _ (bs (Lib.replaceAll s.data.toList [32, 43, 32] [32])) (Nat.le_refl _)
  exact Tryz.strings_ReplaceAll (bs (Lib.replaceAll s.data.toList [32, 43, 32] [32])) ⟨#[32, 45, 32]⟩ ⟨#[32, 45]⟩ m W (by omega) hm (by decide) (by show (bs (Lib.replaceAll s.data.toList [32, 43, 32] [32])).size + _ * 2 ≤ _; omega)
 have hst := tidyT_size s
 have hsp : ∀ W, Below w.heap.size w W → Calls Tryz.prog 58 #[.string (tidyT s), .string ⟨#[32]⟩] W fun e w' => e = .returned (.slice (some ⟨W.heap.size, 0, none⟩) (toksT s).length (toksT s).length) ∧ w' = W.alloc (.cells ((toksT s).map Value.string).toArray 9) := fun W hW => by
  obtain ⟨_, ⟨m, hm⟩, _⟩ := hg.below hW
  have := Tryz.strings_Split (tidyT s) ⟨#[32]⟩ m W (by omega) hm (by decide)
  rwa [show Lib.countB (tidyT s) ⟨#[32]⟩ + 1 = (toksT s).length from (Lib.splitB_all _ (by decide) 0 _ _ rfl).symm] at this
 have htl : (toksT s).length ≤ 200000000 := by
  have h1 : (toksT s).length = _ := Lib.splitB_all ⟨#[32]⟩ (by decide) 0 _ (tidyT s) rfl
  have hc := Lib.countB_le ⟨#[32]⟩ (by decide) _ (tidyT s) (Nat.le_refl _)
  omega
 have hts : ∀ x ∈ toksT s, x.size ≤ 100000000 := fun x hx => Nat.le_trans (toksT_size s x hx) hs
 have HR1 := Aside0.mk hr1
 have HR2 := Aside0.mk hr2
 have HSP := Aside0.mk hsp
 have HTS := Aside0.mk hts
 have HRT : Aside0 (rowT n s = (readT n (toksT s) (List.replicate (n + 1) 0)).getD []) := ⟨rfl⟩
 clear hr1 hr2 hsp hts hg hl1 hs1 hst hs
 have hmk : ∀ W : World, (Instr.makeSlice 38 (.int .i64 ((n : Int) + 1)) (.int .i64 ((n : Int) + 1))).run Tryz.prog W = .ok (.slice (some ⟨W.heap.size, 0, none⟩) (n + 1) (n + 1)) (W.alloc (.cells (madeCells #[.int .i64 0] (n + 1)) 2)) := by
  have e1 : ((n : Int) + 1) = ((n + 1 : Nat) : Int) := by omega
  rw [e1]
  exact print_make 38 2 .i64 8 Tryz.underlying38 info2 (by decide) (n + 1) (by omega)
 generalize hT : toksT s = T at HSP HTS HRT htl
 generalize hQ : tidyT s = Q at HR2 HSP
 generalize hP : bs (Lib.replaceAll s.data.toList [32, 43, 32] [32]) = P at HR1 HR2
 clear hT hQ hP
 go_enter Tryz.func40, Tryz.ntmps40
 go_wp2_with (first
  | (go_at_call 59; ((with_reducible refine (HR1.out _ ?sa).mono ?_); (case sa => exact below_alloc (Below.refl _ _) _); rintro e w1 ⟨rfl, hb1⟩; have HB1 := Aside0.mk (below_then (below_alloc (Below.refl w.heap.size w) (.cells (madeCells #[.int .i64 0] (n + 1)) 2)) (below_alloc (Below.refl w.heap.size w) _).size hb1); have HW1 := Aside0.mk (RowL.below (RowL.made w (n + 1)) hb1); clear hb1))
  | (go_at_call 59; ((with_reducible refine (HR2.out _ ?sb).mono ?_); (case sb => exact HB1.out); rintro e w2 ⟨rfl, hb2⟩; have HB2 := Aside0.mk (below_then HB1.out HB1.out.size hb2); have HW2 := Aside0.mk (RowL.below HW1.out hb2); clear hb2))
  | (go_at_call 58; ((with_reducible refine (HSP.out _ ?sc).mono ?_); (case sc => exact HB2.out); rintro e w3 ⟨rfl, rfl⟩)))
 have HGT : Aside0 (w.heap.size < w2.heap.size) := ⟨blk_lt HW2.out⟩
 go_loopw [28] (fun i wr => ∃ (k : Nat) (out : List Int), k ≤ T.length ∧ i = .int .i64 k ∧ Aside0 (out.length = n + 1) ∧ Aside0 (RowL wr w.heap.size out) ∧ Aside0 (wr.heap[w2.heap.size]? = some (.cells (T.map Value.string).toArray 9 (0, 0))) ∧ Aside0 (Below w.heap.size w wr) ∧ Aside0 (readT n T (List.replicate (n + 1) 0) = readT n (T.drop k) out)) (fun i _ => T.length - (intOf i).toNat)
 case atStart => exact ⟨0, List.replicate (n + 1) 0, Nat.zero_le _, rfl, ⟨by simp⟩, ⟨blk_alloc HW2.out _⟩, ⟨blk_new w2 _⟩, ⟨below_alloc HB2.out _⟩, ⟨rfl⟩⟩
 case round =>
  obtain ⟨k, out, hk, rfl, HL, HO, HT, HB, HRD⟩ := hrel
  clear HW2 HW1 HB1 HB2 HR1 HR2 HSP
  by_cases hlt : k < T.length
  ·have hx : wr.cell? ⟨w2.heap.size, k, none⟩ = some (.string T[k]) := (blk_cell HT.out k).trans (by simp [hlt])
   have hts : T[k].size ≤ 100000000 := HTS.out _ (List.getElem_mem hlt)
   have hstep : readT n (T.drop k) out = match tokT n T[k] with | none => none | some (a, v) => readT n (T.drop (k + 1)) (out.set a v) := by rw [List.drop_eq_getElem_cons hlt]; rfl
   have hdone : k + 1 ≤ T.length := hlt
   generalize hD : T.drop (k + 1) = TD at hstep
   generalize hR : readT n (T.drop k) out = RR at hstep HRD
   generalize T[k] = t at hx hts hstep
   clear hR
   have hm1 := magT_size t
   have hm2 := sizeT_size t
   have hm3 := nameT_size t
   have hcp : ∀ W, Calls Tryz.prog 60 #[.string t, .string ⟨#[45]⟩] W fun e w' => e = .returned (.tuple #[.string (bs (Lib.trimPrefix t.data.toList [45])), .bool (negT t)]) ∧ w' = W := fun W => Tryz.strings_CutPrefix t ⟨#[45]⟩ W
   have hcut : ∀ M, M = magT t → ∀ W, Below w.heap.size w W → Calls Tryz.prog 38 #[.string M, .string ⟨#[42]⟩] W fun e w' => e = .returned (.tuple #[.string (bs (Lib.cut (magT t).data.toList [42]).1), .string (bs (Lib.cut (magT t).data.toList [42]).2.1), .bool (starT t)]) ∧ ∃ q, w' = W.drewN q := fun M hM W hW => by
    subst hM
    obtain ⟨_, ⟨m, hm⟩, _⟩ := HG.out.below hW
    exact Tryz.strings_Cut (magT t) ⟨#[42]⟩ m W (by omega) hm
   have hpre : ∀ M, M = magT t → ∀ W, Calls Tryz.prog 61 #[.string M, .string ⟨#[100]⟩] W fun e w' => e = .returned (.bool (dT t)) ∧ w' = W := fun M hM W => by
    subst hM
    exact Tryz.strings_HasPrefix (magT t) ⟨#[100]⟩ W
   have hS : sizeT t = if starT t = true then bs (Lib.cut (magT t).data.toList [42]).1 else if dT t = true then ⟨#[49]⟩ else bs (Lib.cut (magT t).data.toList [42]).1 := rfl
   have hN : nameT t = if starT t = true then bs (Lib.cut (magT t).data.toList [42]).2.1 else if dT t = true then magT t else bs (Lib.cut (magT t).data.toList [42]).2.1 := rfl
   have hpo : ∀ S v, S = sizeT t → numT t = .ok v → ∀ W, Calls Tryz.prog 62 #[.string S, .int .i64 10, .int .i64 64] W fun e w' => e = .returned (.tuple #[.int .i64 v, .nilIface]) ∧ Below W.heap.size W w' := fun S v hS hv W => by subst hS; exact parse_ok _ v (by omega) hv W
   have hpb : ∀ S, S = sizeT t → (∀ v, numT t ≠ .ok v) → ∀ W, Below w.heap.size w W → Calls Tryz.prog 62 #[.string S, .int .i64 10, .int .i64 64] W fun e w' => ∃ v N, e = .returned (.tuple #[.int .i64 v, .iface 116 (.pointer (some ⟨N, 0, none⟩))]) ∧ Below W.heap.size W w' := fun S hS hv W hW => by subst hS; exact parse_bad _ (by omega) hv W (HG.out.below hW)
   have hpa : ∀ S, S = sizeT t → ∀ W, Below w.heap.size w W → Calls Tryz.prog 62 #[.string S, .int .i64 10, .int .i64 64] W fun e w' => ∃ v ev, e = .returned (.tuple #[.int .i64 v, ev]) ∧ Below W.heap.size W w' := fun S hS W hW => by
    cases hv : numT t with
    | ok v => exact (hpo S v hS hv W).mono fun _ _ ⟨he, hb⟩ => ⟨_, _, he, hb⟩
    | «syntax» => exact (hpb S hS (fun v hv' => by rw [hv] at hv'; cases hv') W hW).mono fun _ _ ⟨_, _, he, hb⟩ => ⟨_, _, he, hb⟩
    | range => exact (hpb S hS (fun v hv' => by rw [hv] at hv'; cases hv') W hW).mono fun _ _ ⟨_, _, he, hb⟩ => ⟨_, _, he, hb⟩
   have hD1 : (bs (Lib.trimPrefix (nameT t).data.toList [100])).size ≤ 100000000 := by rw [bs_size]; have := trimPrefix_len (nameT t).data.toList [100]; have := Lib.size_eq (nameT t); omega
   have htp : ∀ N, N = nameT t → ∀ W, Calls Tryz.prog 57 #[.string N, .string ⟨#[100]⟩] W fun e w' => e = .returned (.string (bs (Lib.trimPrefix (nameT t).data.toList [100]))) ∧ w' = W := fun N hN W => by subst hN; exact Tryz.strings_TrimPrefix (nameT t) ⟨#[100]⟩ W
   have hao : ∀ v, idxT t = .ok v → ∀ W, Calls Tryz.prog 63 #[.string (bs (Lib.trimPrefix (nameT t).data.toList [100]))] W fun e w' => e = .returned (.tuple #[.int .i64 v, .nilIface]) ∧ Below W.heap.size W w' := fun v hv W => atoi_ok _ v (by omega) (by rw [bs_data]; exact hv) W
   have hab : (∀ v, idxT t ≠ .ok v) → ∀ W, Below w.heap.size w W → Calls Tryz.prog 63 #[.string (bs (Lib.trimPrefix (nameT t).data.toList [100]))] W fun e w' => ∃ v N, e = .returned (.tuple #[.int .i64 v, .iface 116 (.pointer (some ⟨N, 0, none⟩))]) ∧ Below W.heap.size W w' := fun hv W hW => atoi_bad _ (by omega) (by rw [bs_data]; exact hv) W (HG.out.below hW)
   have htok : tokT n t = match (if okT t = true then (match idxT t with | .ok i => if 0 ≤ i ∧ i < (n : Int) then some i.toNat else none | _ => none) else some n), numT t with | some a, .ok v => some (a, wrap64 (signT t * v)) | _, _ => none := rfl
   have hok : okT t = (starT t || dT t) := rfl
   have hsg : signT t = if negT t = true then -1 else 1 := rfl
   have hM : magT t = if negT t = true then bs (Lib.trimPrefix t.data.toList [45]) else t := rfl
   generalize bs (Lib.cut (magT t).data.toList [42]).1 = C1 at hcut hS hN
   generalize bs (Lib.cut (magT t).data.toList [42]).2.1 = C2 at hcut hS hN
   generalize bs (Lib.trimPrefix (nameT t).data.toList [100]) = D1 at htp hao hab
   generalize bs (Lib.trimPrefix t.data.toList [45]) = P1 at hcp hM
   cases hn : negT t with
   | true =>
    rw [hn] at hcp hM hsg
    rw [if_pos rfl] at hM hsg
    clear hn
    cases hst : starT t with
    | true =>
     rw [hst] at hcut hS hN hok
     rw [if_pos rfl] at hS hN
     clear hst
     rw [if_pos (show okT t = true by rw [hok]; simp)] at htok
     have Hcp := Aside0.mk hcp
     have Hcut := Aside0.mk (hcut _ hM.symm)
     have Htp := Aside0.mk (htp _ hN.symm)
     have hpg := fun W hW => hpa _ hS.symm W hW
     have hpo' := fun v hv => hpo _ v hS.symm hv
     have hpb' := fun hv => hpb _ hS.symm hv
     clear hcp hcut hpre htp hpa hpo hpb hM hS hN hok hm1 hm2 hm3 hD1
     cases hi : idxT t with
     | ok i =>
      rw [hi] at htok
      dsimp only at htok
      have Hat : Aside0 (∀ W, Below w.heap.size w W → _) := ⟨fun W _ => hao i hi W⟩
      clear hao hab hi
      by_cases hi0 : 0 ≤ i
      ·obtain ⟨a, rfl⟩ := Int.eq_ofNat_of_zero_le hi0
       by_cases hi1 : (a : Int) < (n : Int)
       ·have hd1 : decide ((n : Int) ≤ (a : Int)) = false := decide_eq_false (by omega)
        have hd2 : decide (n ≤ a) = false := decide_eq_false (by omega)
        have han : a < n := by omega
        have han2 : (a : Int) < (n : Int) + 1 := by omega
        rw [if_pos ⟨hi0, hi1⟩, Int.toNat_natCast] at htok
        clear hi0 hi1
        cases hv : numT t with
        | ok v =>
         rw [hv] at htok
         have Hpa : Aside0 (∀ W, Below w.heap.size w W → _) := ⟨fun W _ => hpo' v hv W⟩
         clear hpg hpo' hpb' hv
         have HYES : Aside0 (RR = readT n TD (out.set a (wrap64 (signT t * v)))) := ⟨by rw [hstep, htok]⟩
         have HSG := Aside0.mk hsg
         have HD := Aside0.mk hD
         clear hstep htok hsg hD
         go_wp2_with (first
          | (go_at_call 60; ((with_reducible refine (Hcp.out _).mono ?_); rintro e w4 ⟨rfl, rfl⟩))
          | (go_at_call 38; ((with_reducible refine (Hcut.out _ HB.out).mono ?_); rintro e w5 ⟨rfl, q5, rfl⟩; have HB5 := Aside0.mk (pw_below_drewN HB.out q5); have HO5 := Aside0.mk (blk_drewN HO.out q5); have HT5 := Aside0.mk (blk_drewN HT.out q5)))
          | (go_at_call 62; ((with_reducible refine (Hpa.out _ HB5.out).mono ?_); rintro e w7 ⟨rfl, hb7⟩; have HB7 := Aside0.mk (below_then HB5.out HB5.out.size hb7); have HO7 := Aside0.mk (blk_below HO5.out hb7); have HT7 := Aside0.mk (blk_below HT5.out hb7); clear hb7))
          | (go_at_call 57; ((with_reducible refine (Htp.out _).mono ?_); rintro e w8 ⟨rfl, rfl⟩))
          | (go_at_call 63; ((with_reducible refine (Hat.out _ HB7.out).mono ?_); rintro e w9 ⟨rfl, hb9⟩; have HB9 := Aside0.mk (below_then HB7.out HB7.out.size hb9); have HO9 := Aside0.mk (blk_below HO7.out hb9); have HT9 := Aside0.mk (blk_below HT7.out hb9); clear hb9; have fz := blk_frozen HO9.out a; have cz := RowL.cell HO9.out a (by rw [HL.out]; omega))))
         go_roundw
         case rel => exact ⟨k + 1, _, hdone, by go_num, ⟨by simp [HL.out]⟩, ⟨RowL.put HO9.out _ _⟩, ⟨blk_far HT9.out (by have h_ := HGT.out; intro e_; first | (have e2_ : w.heap.size = w2.heap.size := e_; omega) | (have e2_ : w2.heap.size = w.heap.size := e_; omega)) _⟩, ⟨below_set HB9.out (Nat.le_refl _)⟩, ⟨by rw [HRD.out, HYES.out, HSG.out, HD.out]; simp⟩⟩
         case measure => simp [intOf]; omega
        | «syntax» =>
         rw [hv] at htok
         have Hpa := Aside0.mk (hpb' (fun v hv' => by rw [hv] at hv'; cases hv'))
         clear hpg hpo' hpb' hv
         have HNO : Aside0 (rowT n s = []) := ⟨by rw [HRT.out, HRD.out, hstep, htok]; rfl⟩
         clear hstep htok HRD HRT
         go_wp2_with (first
          | (go_at_call 60; ((with_reducible refine (Hcp.out _).mono ?_); rintro e w4 ⟨rfl, rfl⟩))
          | (go_at_call 38; ((with_reducible refine (Hcut.out _ HB.out).mono ?_); rintro e w5 ⟨rfl, q5, rfl⟩; have HB5 := Aside0.mk (pw_below_drewN HB.out q5); have HO5 := Aside0.mk (blk_drewN HO.out q5); have HT5 := Aside0.mk (blk_drewN HT.out q5)))
          | (go_at_call 62; ((with_reducible refine (Hpa.out _ HB5.out).mono ?_); rintro e w7 ⟨v7, N7, rfl, hb7⟩; have HB7 := Aside0.mk (below_then HB5.out HB5.out.size hb7); have HO7 := Aside0.mk (blk_below HO5.out hb7); have HT7 := Aside0.mk (blk_below HT5.out hb7); clear hb7))
          | (go_at_call 57; ((with_reducible refine (Htp.out _).mono ?_); rintro e w8 ⟨rfl, rfl⟩))
          | (go_at_call 63; ((with_reducible refine (Hat.out _ HB7.out).mono ?_); rintro e w9 ⟨rfl, hb9⟩; have HB9 := Aside0.mk (below_then HB7.out HB7.out.size hb9); have HO9 := Aside0.mk (blk_below HO7.out hb9); have HT9 := Aside0.mk (blk_below HT7.out hb9); clear hb9)))
         go_ret
         exact ⟨_, rfl, by rw [HNO.out]; exact Kd.R_nil _ _ _ _ _, HB9.out⟩
        | range =>
         rw [hv] at htok
         have Hpa := Aside0.mk (hpb' (fun v hv' => by rw [hv] at hv'; cases hv'))
         clear hpg hpo' hpb' hv
         have HNO : Aside0 (rowT n s = []) := ⟨by rw [HRT.out, HRD.out, hstep, htok]; rfl⟩
         clear hstep htok HRD HRT
         go_wp2_with (first
          | (go_at_call 60; ((with_reducible refine (Hcp.out _).mono ?_); rintro e w4 ⟨rfl, rfl⟩))
          | (go_at_call 38; ((with_reducible refine (Hcut.out _ HB.out).mono ?_); rintro e w5 ⟨rfl, q5, rfl⟩; have HB5 := Aside0.mk (pw_below_drewN HB.out q5); have HO5 := Aside0.mk (blk_drewN HO.out q5); have HT5 := Aside0.mk (blk_drewN HT.out q5)))
          | (go_at_call 62; ((with_reducible refine (Hpa.out _ HB5.out).mono ?_); rintro e w7 ⟨v7, N7, rfl, hb7⟩; have HB7 := Aside0.mk (below_then HB5.out HB5.out.size hb7); have HO7 := Aside0.mk (blk_below HO5.out hb7); have HT7 := Aside0.mk (blk_below HT5.out hb7); clear hb7))
          | (go_at_call 57; ((with_reducible refine (Htp.out _).mono ?_); rintro e w8 ⟨rfl, rfl⟩))
          | (go_at_call 63; ((with_reducible refine (Hat.out _ HB7.out).mono ?_); rintro e w9 ⟨rfl, hb9⟩; have HB9 := Aside0.mk (below_then HB7.out HB7.out.size hb9); have HO9 := Aside0.mk (blk_below HO7.out hb9); have HT9 := Aside0.mk (blk_below HT7.out hb9); clear hb9)))
         go_ret
         exact ⟨_, rfl, by rw [HNO.out]; exact Kd.R_nil _ _ _ _ _, HB9.out⟩
       ·have hd1 : decide ((n : Int) ≤ (a : Int)) = true := decide_eq_true (by omega)
        have hd2 : decide (n ≤ a) = true := decide_eq_true (by omega)
        have han : n ≤ a := by omega
        rw [if_neg (fun h => hi1 h.2)] at htok
        have Hpa := Aside0.mk hpg
        clear hpg hpo' hpb' hi0 hi1
        have HNO : Aside0 (rowT n s = []) := ⟨by rw [HRT.out, HRD.out, hstep, htok]; rfl⟩
        clear hstep htok HRD HRT
        go_wp2_with (first
         | (go_at_call 60; ((with_reducible refine (Hcp.out _).mono ?_); rintro e w4 ⟨rfl, rfl⟩))
         | (go_at_call 38; ((with_reducible refine (Hcut.out _ HB.out).mono ?_); rintro e w5 ⟨rfl, q5, rfl⟩; have HB5 := Aside0.mk (pw_below_drewN HB.out q5); have HO5 := Aside0.mk (blk_drewN HO.out q5); have HT5 := Aside0.mk (blk_drewN HT.out q5)))
         | (go_at_call 62; ((with_reducible refine (Hpa.out _ HB5.out).mono ?_); rintro e w7 ⟨v7, ev7, rfl, hb7⟩; have HB7 := Aside0.mk (below_then HB5.out HB5.out.size hb7); have HO7 := Aside0.mk (blk_below HO5.out hb7); have HT7 := Aside0.mk (blk_below HT5.out hb7); clear hb7))
         | (go_at_call 57; ((with_reducible refine (Htp.out _).mono ?_); rintro e w8 ⟨rfl, rfl⟩))
         | (go_at_call 63; ((with_reducible refine (Hat.out _ HB7.out).mono ?_); rintro e w9 ⟨rfl, hb9⟩; have HB9 := Aside0.mk (below_then HB7.out HB7.out.size hb9); have HO9 := Aside0.mk (blk_below HO7.out hb9); have HT9 := Aside0.mk (blk_below HT7.out hb9); clear hb9)))
        go_ret
        exact ⟨_, rfl, by rw [HNO.out]; exact Kd.R_nil _ _ _ _ _, HB9.out⟩
      ·have hd0 : decide (i < 0) = true := decide_eq_true (by omega)
       rw [if_neg (fun h => hi0 h.1)] at htok
       have hi2 : i < 0 := by omega
       have Hpa := Aside0.mk hpg
       clear hpg hpo' hpb' hi0
       have HNO : Aside0 (rowT n s = []) := ⟨by rw [HRT.out, HRD.out, hstep, htok]; rfl⟩
       clear hstep htok HRD HRT
       go_wp2_with (first
        | (go_at_call 60; ((with_reducible refine (Hcp.out _).mono ?_); rintro e w4 ⟨rfl, rfl⟩))
        | (go_at_call 38; ((with_reducible refine (Hcut.out _ HB.out).mono ?_); rintro e w5 ⟨rfl, q5, rfl⟩; have HB5 := Aside0.mk (pw_below_drewN HB.out q5); have HO5 := Aside0.mk (blk_drewN HO.out q5); have HT5 := Aside0.mk (blk_drewN HT.out q5)))
        | (go_at_call 62; ((with_reducible refine (Hpa.out _ HB5.out).mono ?_); rintro e w7 ⟨v7, ev7, rfl, hb7⟩; have HB7 := Aside0.mk (below_then HB5.out HB5.out.size hb7); have HO7 := Aside0.mk (blk_below HO5.out hb7); have HT7 := Aside0.mk (blk_below HT5.out hb7); clear hb7))
        | (go_at_call 57; ((with_reducible refine (Htp.out _).mono ?_); rintro e w8 ⟨rfl, rfl⟩))
        | (go_at_call 63; ((with_reducible refine (Hat.out _ HB7.out).mono ?_); rintro e w9 ⟨rfl, hb9⟩; have HB9 := Aside0.mk (below_then HB7.out HB7.out.size hb9); have HO9 := Aside0.mk (blk_below HO7.out hb9); have HT9 := Aside0.mk (blk_below HT7.out hb9); clear hb9)))
       go_ret
       exact ⟨_, rfl, by rw [HNO.out]; exact Kd.R_nil _ _ _ _ _, HB9.out⟩
     | «syntax» =>
      rw [hi] at htok
      have Hat := Aside0.mk (hab (fun v hv' => by rw [hi] at hv'; cases hv'))
      have Hpa := Aside0.mk hpg
      clear hpg hpo' hpb' hao hab hi
      have HNO : Aside0 (rowT n s = []) := ⟨by rw [HRT.out, HRD.out, hstep, htok]; rfl⟩
      clear hstep htok HRD HRT
      go_wp2_with (first
       | (go_at_call 60; ((with_reducible refine (Hcp.out _).mono ?_); rintro e w4 ⟨rfl, rfl⟩))
       | (go_at_call 38; ((with_reducible refine (Hcut.out _ HB.out).mono ?_); rintro e w5 ⟨rfl, q5, rfl⟩; have HB5 := Aside0.mk (pw_below_drewN HB.out q5); have HO5 := Aside0.mk (blk_drewN HO.out q5); have HT5 := Aside0.mk (blk_drewN HT.out q5)))
       | (go_at_call 62; ((with_reducible refine (Hpa.out _ HB5.out).mono ?_); rintro e w7 ⟨v7, ev7, rfl, hb7⟩; have HB7 := Aside0.mk (below_then HB5.out HB5.out.size hb7); have HO7 := Aside0.mk (blk_below HO5.out hb7); have HT7 := Aside0.mk (blk_below HT5.out hb7); clear hb7))
       | (go_at_call 57; ((with_reducible refine (Htp.out _).mono ?_); rintro e w8 ⟨rfl, rfl⟩))
       | (go_at_call 63; ((with_reducible refine (Hat.out _ HB7.out).mono ?_); rintro e w9 ⟨v9, N9, rfl, hb9⟩; have HB9 := Aside0.mk (below_then HB7.out HB7.out.size hb9); have HO9 := Aside0.mk (blk_below HO7.out hb9); have HT9 := Aside0.mk (blk_below HT7.out hb9); clear hb9)))
      go_ret
      exact ⟨_, rfl, by rw [HNO.out]; exact Kd.R_nil _ _ _ _ _, HB9.out⟩
     | range =>
      rw [hi] at htok
      have Hat := Aside0.mk (hab (fun v hv' => by rw [hi] at hv'; cases hv'))
      have Hpa := Aside0.mk hpg
      clear hpg hpo' hpb' hao hab hi
      have HNO : Aside0 (rowT n s = []) := ⟨by rw [HRT.out, HRD.out, hstep, htok]; rfl⟩
      clear hstep htok HRD HRT
      go_wp2_with (first
       | (go_at_call 60; ((with_reducible refine (Hcp.out _).mono ?_); rintro e w4 ⟨rfl, rfl⟩))
       | (go_at_call 38; ((with_reducible refine (Hcut.out _ HB.out).mono ?_); rintro e w5 ⟨rfl, q5, rfl⟩; have HB5 := Aside0.mk (pw_below_drewN HB.out q5); have HO5 := Aside0.mk (blk_drewN HO.out q5); have HT5 := Aside0.mk (blk_drewN HT.out q5)))
       | (go_at_call 62; ((with_reducible refine (Hpa.out _ HB5.out).mono ?_); rintro e w7 ⟨v7, ev7, rfl, hb7⟩; have HB7 := Aside0.mk (below_then HB5.out HB5.out.size hb7); have HO7 := Aside0.mk (blk_below HO5.out hb7); have HT7 := Aside0.mk (blk_below HT5.out hb7); clear hb7))
       | (go_at_call 57; ((with_reducible refine (Htp.out _).mono ?_); rintro e w8 ⟨rfl, rfl⟩))
       | (go_at_call 63; ((with_reducible refine (Hat.out _ HB7.out).mono ?_); rintro e w9 ⟨v9, N9, rfl, hb9⟩; have HB9 := Aside0.mk (below_then HB7.out HB7.out.size hb9); have HO9 := Aside0.mk (blk_below HO7.out hb9); have HT9 := Aside0.mk (blk_below HT7.out hb9); clear hb9)))
      go_ret
      exact ⟨_, rfl, by rw [HNO.out]; exact Kd.R_nil _ _ _ _ _, HB9.out⟩
    | false =>
     rw [hst] at hcut hS hN hok
     rw [if_neg (by simp)] at hS hN
     clear hst
     cases hd : dT t with
     | true =>
      rw [hd] at hpre hS hN hok
      rw [if_pos rfl] at hS hN
      clear hd
      rw [if_pos (show okT t = true by rw [hok]; simp)] at htok
      have Hcp := Aside0.mk hcp
      have Hcut := Aside0.mk (hcut _ hM.symm)
      have Hpre := Aside0.mk (hpre _ hM.symm)
      rw [hM] at hN
      have Htp := Aside0.mk (htp _ hN.symm)
      have hpg := fun W hW => hpa _ hS.symm W hW
      have hpo' := fun v hv => hpo _ v hS.symm hv
      have hpb' := fun hv => hpb _ hS.symm hv
      clear hcp hcut hpre htp hpa hpo hpb hM hS hN hok hm1 hm2 hm3 hD1
      cases hi : idxT t with
      | ok i =>
       rw [hi] at htok
       dsimp only at htok
       have Hat : Aside0 (∀ W, Below w.heap.size w W → _) := ⟨fun W _ => hao i hi W⟩
       clear hao hab hi
       by_cases hi0 : 0 ≤ i
       ·obtain ⟨a, rfl⟩ := Int.eq_ofNat_of_zero_le hi0
        by_cases hi1 : (a : Int) < (n : Int)
        ·have hd1 : decide ((n : Int) ≤ (a : Int)) = false := decide_eq_false (by omega)
         have hd2 : decide (n ≤ a) = false := decide_eq_false (by omega)
         have han : a < n := by omega
         have han2 : (a : Int) < (n : Int) + 1 := by omega
         rw [if_pos ⟨hi0, hi1⟩, Int.toNat_natCast] at htok
         clear hi0 hi1
         cases hv : numT t with
         | ok v =>
          rw [hv] at htok
          have Hpa : Aside0 (∀ W, Below w.heap.size w W → _) := ⟨fun W _ => hpo' v hv W⟩
          clear hpg hpo' hpb' hv
          have HYES : Aside0 (RR = readT n TD (out.set a (wrap64 (signT t * v)))) := ⟨by rw [hstep, htok]⟩
          have HSG := Aside0.mk hsg
          have HD := Aside0.mk hD
          clear hstep htok hsg hD
          go_wp2_with (first
           | (go_at_call 60; ((with_reducible refine (Hcp.out _).mono ?_); rintro e w4 ⟨rfl, rfl⟩))
           | (go_at_call 38; ((with_reducible refine (Hcut.out _ HB.out).mono ?_); rintro e w5 ⟨rfl, q5, rfl⟩; have HB5 := Aside0.mk (pw_below_drewN HB.out q5); have HO5 := Aside0.mk (blk_drewN HO.out q5); have HT5 := Aside0.mk (blk_drewN HT.out q5)))
           | (go_at_call 61; ((with_reducible refine (Hpre.out _).mono ?_); rintro e w6 ⟨rfl, rfl⟩))
           | (go_at_call 62; ((with_reducible refine (Hpa.out _ HB5.out).mono ?_); rintro e w7 ⟨rfl, hb7⟩; have HB7 := Aside0.mk (below_then HB5.out HB5.out.size hb7); have HO7 := Aside0.mk (blk_below HO5.out hb7); have HT7 := Aside0.mk (blk_below HT5.out hb7); clear hb7))
           | (go_at_call 57; ((with_reducible refine (Htp.out _).mono ?_); rintro e w8 ⟨rfl, rfl⟩))
           | (go_at_call 63; ((with_reducible refine (Hat.out _ HB7.out).mono ?_); rintro e w9 ⟨rfl, hb9⟩; have HB9 := Aside0.mk (below_then HB7.out HB7.out.size hb9); have HO9 := Aside0.mk (blk_below HO7.out hb9); have HT9 := Aside0.mk (blk_below HT7.out hb9); clear hb9; have fz := blk_frozen HO9.out a; have cz := RowL.cell HO9.out a (by rw [HL.out]; omega))))
          go_roundw
          case rel => exact ⟨k + 1, _, hdone, by go_num, ⟨by simp [HL.out]⟩, ⟨RowL.put HO9.out _ _⟩, ⟨blk_far HT9.out (by have h_ := HGT.out; intro e_; first | (have e2_ : w.heap.size = w2.heap.size := e_; omega) | (have e2_ : w2.heap.size = w.heap.size := e_; omega)) _⟩, ⟨below_set HB9.out (Nat.le_refl _)⟩, ⟨by rw [HRD.out, HYES.out, HSG.out, HD.out]; simp⟩⟩
          case measure => simp [intOf]; omega
         | «syntax» =>
          rw [hv] at htok
          have Hpa := Aside0.mk (hpb' (fun v hv' => by rw [hv] at hv'; cases hv'))
          clear hpg hpo' hpb' hv
          have HNO : Aside0 (rowT n s = []) := ⟨by rw [HRT.out, HRD.out, hstep, htok]; rfl⟩
          clear hstep htok HRD HRT
          go_wp2_with (first
           | (go_at_call 60; ((with_reducible refine (Hcp.out _).mono ?_); rintro e w4 ⟨rfl, rfl⟩))
           | (go_at_call 38; ((with_reducible refine (Hcut.out _ HB.out).mono ?_); rintro e w5 ⟨rfl, q5, rfl⟩; have HB5 := Aside0.mk (pw_below_drewN HB.out q5); have HO5 := Aside0.mk (blk_drewN HO.out q5); have HT5 := Aside0.mk (blk_drewN HT.out q5)))
           | (go_at_call 61; ((with_reducible refine (Hpre.out _).mono ?_); rintro e w6 ⟨rfl, rfl⟩))
           | (go_at_call 62; ((with_reducible refine (Hpa.out _ HB5.out).mono ?_); rintro e w7 ⟨v7, N7, rfl, hb7⟩; have HB7 := Aside0.mk (below_then HB5.out HB5.out.size hb7); have HO7 := Aside0.mk (blk_below HO5.out hb7); have HT7 := Aside0.mk (blk_below HT5.out hb7); clear hb7))
           | (go_at_call 57; ((with_reducible refine (Htp.out _).mono ?_); rintro e w8 ⟨rfl, rfl⟩))
           | (go_at_call 63; ((with_reducible refine (Hat.out _ HB7.out).mono ?_); rintro e w9 ⟨rfl, hb9⟩; have HB9 := Aside0.mk (below_then HB7.out HB7.out.size hb9); have HO9 := Aside0.mk (blk_below HO7.out hb9); have HT9 := Aside0.mk (blk_below HT7.out hb9); clear hb9)))
          go_ret
          exact ⟨_, rfl, by rw [HNO.out]; exact Kd.R_nil _ _ _ _ _, HB9.out⟩
         | range =>
          rw [hv] at htok
          have Hpa := Aside0.mk (hpb' (fun v hv' => by rw [hv] at hv'; cases hv'))
          clear hpg hpo' hpb' hv
          have HNO : Aside0 (rowT n s = []) := ⟨by rw [HRT.out, HRD.out, hstep, htok]; rfl⟩
          clear hstep htok HRD HRT
          go_wp2_with (first
           | (go_at_call 60; ((with_reducible refine (Hcp.out _).mono ?_); rintro e w4 ⟨rfl, rfl⟩))
           | (go_at_call 38; ((with_reducible refine (Hcut.out _ HB.out).mono ?_); rintro e w5 ⟨rfl, q5, rfl⟩; have HB5 := Aside0.mk (pw_below_drewN HB.out q5); have HO5 := Aside0.mk (blk_drewN HO.out q5); have HT5 := Aside0.mk (blk_drewN HT.out q5)))
           | (go_at_call 61; ((with_reducible refine (Hpre.out _).mono ?_); rintro e w6 ⟨rfl, rfl⟩))
           | (go_at_call 62; ((with_reducible refine (Hpa.out _ HB5.out).mono ?_); rintro e w7 ⟨v7, N7, rfl, hb7⟩; have HB7 := Aside0.mk (below_then HB5.out HB5.out.size hb7); have HO7 := Aside0.mk (blk_below HO5.out hb7); have HT7 := Aside0.mk (blk_below HT5.out hb7); clear hb7))
           | (go_at_call 57; ((with_reducible refine (Htp.out _).mono ?_); rintro e w8 ⟨rfl, rfl⟩))
           | (go_at_call 63; ((with_reducible refine (Hat.out _ HB7.out).mono ?_); rintro e w9 ⟨rfl, hb9⟩; have HB9 := Aside0.mk (below_then HB7.out HB7.out.size hb9); have HO9 := Aside0.mk (blk_below HO7.out hb9); have HT9 := Aside0.mk (blk_below HT7.out hb9); clear hb9)))
          go_ret
          exact ⟨_, rfl, by rw [HNO.out]; exact Kd.R_nil _ _ _ _ _, HB9.out⟩
        ·have hd1 : decide ((n : Int) ≤ (a : Int)) = true := decide_eq_true (by omega)
         have hd2 : decide (n ≤ a) = true := decide_eq_true (by omega)
         have han : n ≤ a := by omega
         rw [if_neg (fun h => hi1 h.2)] at htok
         have Hpa := Aside0.mk hpg
         clear hpg hpo' hpb' hi0 hi1
         have HNO : Aside0 (rowT n s = []) := ⟨by rw [HRT.out, HRD.out, hstep, htok]; rfl⟩
         clear hstep htok HRD HRT
         go_wp2_with (first
          | (go_at_call 60; ((with_reducible refine (Hcp.out _).mono ?_); rintro e w4 ⟨rfl, rfl⟩))
          | (go_at_call 38; ((with_reducible refine (Hcut.out _ HB.out).mono ?_); rintro e w5 ⟨rfl, q5, rfl⟩; have HB5 := Aside0.mk (pw_below_drewN HB.out q5); have HO5 := Aside0.mk (blk_drewN HO.out q5); have HT5 := Aside0.mk (blk_drewN HT.out q5)))
          | (go_at_call 61; ((with_reducible refine (Hpre.out _).mono ?_); rintro e w6 ⟨rfl, rfl⟩))
          | (go_at_call 62; ((with_reducible refine (Hpa.out _ HB5.out).mono ?_); rintro e w7 ⟨v7, ev7, rfl, hb7⟩; have HB7 := Aside0.mk (below_then HB5.out HB5.out.size hb7); have HO7 := Aside0.mk (blk_below HO5.out hb7); have HT7 := Aside0.mk (blk_below HT5.out hb7); clear hb7))
          | (go_at_call 57; ((with_reducible refine (Htp.out _).mono ?_); rintro e w8 ⟨rfl, rfl⟩))
          | (go_at_call 63; ((with_reducible refine (Hat.out _ HB7.out).mono ?_); rintro e w9 ⟨rfl, hb9⟩; have HB9 := Aside0.mk (below_then HB7.out HB7.out.size hb9); have HO9 := Aside0.mk (blk_below HO7.out hb9); have HT9 := Aside0.mk (blk_below HT7.out hb9); clear hb9)))
         go_ret
         exact ⟨_, rfl, by rw [HNO.out]; exact Kd.R_nil _ _ _ _ _, HB9.out⟩
       ·have hd0 : decide (i < 0) = true := decide_eq_true (by omega)
        rw [if_neg (fun h => hi0 h.1)] at htok
        have hi2 : i < 0 := by omega
        have Hpa := Aside0.mk hpg
        clear hpg hpo' hpb' hi0
        have HNO : Aside0 (rowT n s = []) := ⟨by rw [HRT.out, HRD.out, hstep, htok]; rfl⟩
        clear hstep htok HRD HRT
        go_wp2_with (first
         | (go_at_call 60; ((with_reducible refine (Hcp.out _).mono ?_); rintro e w4 ⟨rfl, rfl⟩))
         | (go_at_call 38; ((with_reducible refine (Hcut.out _ HB.out).mono ?_); rintro e w5 ⟨rfl, q5, rfl⟩; have HB5 := Aside0.mk (pw_below_drewN HB.out q5); have HO5 := Aside0.mk (blk_drewN HO.out q5); have HT5 := Aside0.mk (blk_drewN HT.out q5)))
         | (go_at_call 61; ((with_reducible refine (Hpre.out _).mono ?_); rintro e w6 ⟨rfl, rfl⟩))
         | (go_at_call 62; ((with_reducible refine (Hpa.out _ HB5.out).mono ?_); rintro e w7 ⟨v7, ev7, rfl, hb7⟩; have HB7 := Aside0.mk (below_then HB5.out HB5.out.size hb7); have HO7 := Aside0.mk (blk_below HO5.out hb7); have HT7 := Aside0.mk (blk_below HT5.out hb7); clear hb7))
         | (go_at_call 57; ((with_reducible refine (Htp.out _).mono ?_); rintro e w8 ⟨rfl, rfl⟩))
         | (go_at_call 63; ((with_reducible refine (Hat.out _ HB7.out).mono ?_); rintro e w9 ⟨rfl, hb9⟩; have HB9 := Aside0.mk (below_then HB7.out HB7.out.size hb9); have HO9 := Aside0.mk (blk_below HO7.out hb9); have HT9 := Aside0.mk (blk_below HT7.out hb9); clear hb9)))
        go_ret
        exact ⟨_, rfl, by rw [HNO.out]; exact Kd.R_nil _ _ _ _ _, HB9.out⟩
      | «syntax» =>
       rw [hi] at htok
       have Hat := Aside0.mk (hab (fun v hv' => by rw [hi] at hv'; cases hv'))
       have Hpa := Aside0.mk hpg
       clear hpg hpo' hpb' hao hab hi
       have HNO : Aside0 (rowT n s = []) := ⟨by rw [HRT.out, HRD.out, hstep, htok]; rfl⟩
       clear hstep htok HRD HRT
       go_wp2_with (first
        | (go_at_call 60; ((with_reducible refine (Hcp.out _).mono ?_); rintro e w4 ⟨rfl, rfl⟩))
        | (go_at_call 38; ((with_reducible refine (Hcut.out _ HB.out).mono ?_); rintro e w5 ⟨rfl, q5, rfl⟩; have HB5 := Aside0.mk (pw_below_drewN HB.out q5); have HO5 := Aside0.mk (blk_drewN HO.out q5); have HT5 := Aside0.mk (blk_drewN HT.out q5)))
        | (go_at_call 61; ((with_reducible refine (Hpre.out _).mono ?_); rintro e w6 ⟨rfl, rfl⟩))
        | (go_at_call 62; ((with_reducible refine (Hpa.out _ HB5.out).mono ?_); rintro e w7 ⟨v7, ev7, rfl, hb7⟩; have HB7 := Aside0.mk (below_then HB5.out HB5.out.size hb7); have HO7 := Aside0.mk (blk_below HO5.out hb7); have HT7 := Aside0.mk (blk_below HT5.out hb7); clear hb7))
        | (go_at_call 57; ((with_reducible refine (Htp.out _).mono ?_); rintro e w8 ⟨rfl, rfl⟩))
        | (go_at_call 63; ((with_reducible refine (Hat.out _ HB7.out).mono ?_); rintro e w9 ⟨v9, N9, rfl, hb9⟩; have HB9 := Aside0.mk (below_then HB7.out HB7.out.size hb9); have HO9 := Aside0.mk (blk_below HO7.out hb9); have HT9 := Aside0.mk (blk_below HT7.out hb9); clear hb9)))
       go_ret
       exact ⟨_, rfl, by rw [HNO.out]; exact Kd.R_nil _ _ _ _ _, HB9.out⟩
      | range =>
       rw [hi] at htok
       have Hat := Aside0.mk (hab (fun v hv' => by rw [hi] at hv'; cases hv'))
       have Hpa := Aside0.mk hpg
       clear hpg hpo' hpb' hao hab hi
       have HNO : Aside0 (rowT n s = []) := ⟨by rw [HRT.out, HRD.out, hstep, htok]; rfl⟩
       clear hstep htok HRD HRT
       go_wp2_with (first
        | (go_at_call 60; ((with_reducible refine (Hcp.out _).mono ?_); rintro e w4 ⟨rfl, rfl⟩))
        | (go_at_call 38; ((with_reducible refine (Hcut.out _ HB.out).mono ?_); rintro e w5 ⟨rfl, q5, rfl⟩; have HB5 := Aside0.mk (pw_below_drewN HB.out q5); have HO5 := Aside0.mk (blk_drewN HO.out q5); have HT5 := Aside0.mk (blk_drewN HT.out q5)))
        | (go_at_call 61; ((with_reducible refine (Hpre.out _).mono ?_); rintro e w6 ⟨rfl, rfl⟩))
        | (go_at_call 62; ((with_reducible refine (Hpa.out _ HB5.out).mono ?_); rintro e w7 ⟨v7, ev7, rfl, hb7⟩; have HB7 := Aside0.mk (below_then HB5.out HB5.out.size hb7); have HO7 := Aside0.mk (blk_below HO5.out hb7); have HT7 := Aside0.mk (blk_below HT5.out hb7); clear hb7))
        | (go_at_call 57; ((with_reducible refine (Htp.out _).mono ?_); rintro e w8 ⟨rfl, rfl⟩))
        | (go_at_call 63; ((with_reducible refine (Hat.out _ HB7.out).mono ?_); rintro e w9 ⟨v9, N9, rfl, hb9⟩; have HB9 := Aside0.mk (below_then HB7.out HB7.out.size hb9); have HO9 := Aside0.mk (blk_below HO7.out hb9); have HT9 := Aside0.mk (blk_below HT7.out hb9); clear hb9)))
       go_ret
       exact ⟨_, rfl, by rw [HNO.out]; exact Kd.R_nil _ _ _ _ _, HB9.out⟩
     | false =>
      rw [hd] at hpre hS hN hok
      rw [if_neg (by simp)] at hS hN
      clear hd
      rw [if_neg (show ¬ okT t = true by rw [hok]; simp)] at htok
      have Hcp := Aside0.mk hcp
      have Hcut := Aside0.mk (hcut _ hM.symm)
      have Hpre := Aside0.mk (hpre _ hM.symm)
      have hpo' := fun v hv => hpo _ v hS.symm hv
      have hpb' := fun hv => hpb _ hS.symm hv
      clear hcp hcut hpre htp hpa hpo hpb hM hS hN hok hm1 hm2 hm3 hD1 hao hab
      have han : n < n + 1 := by omega
      have han2 : (n : Int) < (n : Int) + 1 := by omega
      cases hv : numT t with
      | ok v =>
       rw [hv] at htok
       have Hpa : Aside0 (∀ W, Below w.heap.size w W → _) := ⟨fun W _ => hpo' v hv W⟩
       clear hpo' hpb' hv
       have HYES : Aside0 (RR = readT n TD (out.set n (wrap64 (signT t * v)))) := ⟨by rw [hstep, htok]⟩
       have HSG := Aside0.mk hsg
       have HD := Aside0.mk hD
       clear hstep htok hsg hD
       go_wp2_with (first
        | (go_at_call 60; ((with_reducible refine (Hcp.out _).mono ?_); rintro e w4 ⟨rfl, rfl⟩))
        | (go_at_call 38; ((with_reducible refine (Hcut.out _ HB.out).mono ?_); rintro e w5 ⟨rfl, q5, rfl⟩; have HB5 := Aside0.mk (pw_below_drewN HB.out q5); have HO5 := Aside0.mk (blk_drewN HO.out q5); have HT5 := Aside0.mk (blk_drewN HT.out q5)))
        | (go_at_call 61; ((with_reducible refine (Hpre.out _).mono ?_); rintro e w6 ⟨rfl, rfl⟩))
        | (go_at_call 62; ((with_reducible refine (Hpa.out _ HB5.out).mono ?_); rintro e w7 ⟨rfl, hb7⟩; have HB7 := Aside0.mk (below_then HB5.out HB5.out.size hb7); have HO7 := Aside0.mk (blk_below HO5.out hb7); have HT7 := Aside0.mk (blk_below HT5.out hb7); clear hb7; have fz := blk_frozen HO7.out n; have cz := RowL.cell HO7.out n (by rw [HL.out]; omega))))
       go_roundw
       case rel => exact ⟨k + 1, _, hdone, by go_num, ⟨by simp [HL.out]⟩, ⟨RowL.put HO7.out _ _⟩, ⟨blk_far HT7.out (by have h_ := HGT.out; intro e_; first | (have e2_ : w.heap.size = w2.heap.size := e_; omega) | (have e2_ : w2.heap.size = w.heap.size := e_; omega)) _⟩, ⟨below_set HB7.out (Nat.le_refl _)⟩, ⟨by rw [HRD.out, HYES.out, HSG.out, HD.out]; simp⟩⟩
       case measure => simp [intOf]; omega
      | «syntax» =>
       rw [hv] at htok
       have Hpa := Aside0.mk (hpb' (fun v hv' => by rw [hv] at hv'; cases hv'))
       clear hpo' hpb' hv
       have HNO : Aside0 (rowT n s = []) := ⟨by rw [HRT.out, HRD.out, hstep, htok]; rfl⟩
       clear hstep htok HRD HRT
       go_wp2_with (first
        | (go_at_call 60; ((with_reducible refine (Hcp.out _).mono ?_); rintro e w4 ⟨rfl, rfl⟩))
        | (go_at_call 38; ((with_reducible refine (Hcut.out _ HB.out).mono ?_); rintro e w5 ⟨rfl, q5, rfl⟩; have HB5 := Aside0.mk (pw_below_drewN HB.out q5); have HO5 := Aside0.mk (blk_drewN HO.out q5); have HT5 := Aside0.mk (blk_drewN HT.out q5)))
        | (go_at_call 61; ((with_reducible refine (Hpre.out _).mono ?_); rintro e w6 ⟨rfl, rfl⟩))
        | (go_at_call 62; ((with_reducible refine (Hpa.out _ HB5.out).mono ?_); rintro e w7 ⟨v7, N7, rfl, hb7⟩; have HB7 := Aside0.mk (below_then HB5.out HB5.out.size hb7); have HO7 := Aside0.mk (blk_below HO5.out hb7); have HT7 := Aside0.mk (blk_below HT5.out hb7); clear hb7)))
       go_ret
       exact ⟨_, rfl, by rw [HNO.out]; exact Kd.R_nil _ _ _ _ _, HB7.out⟩
      | range =>
       rw [hv] at htok
       have Hpa := Aside0.mk (hpb' (fun v hv' => by rw [hv] at hv'; cases hv'))
       clear hpo' hpb' hv
       have HNO : Aside0 (rowT n s = []) := ⟨by rw [HRT.out, HRD.out, hstep, htok]; rfl⟩
       clear hstep htok HRD HRT
       go_wp2_with (first
        | (go_at_call 60; ((with_reducible refine (Hcp.out _).mono ?_); rintro e w4 ⟨rfl, rfl⟩))
        | (go_at_call 38; ((with_reducible refine (Hcut.out _ HB.out).mono ?_); rintro e w5 ⟨rfl, q5, rfl⟩; have HB5 := Aside0.mk (pw_below_drewN HB.out q5); have HO5 := Aside0.mk (blk_drewN HO.out q5); have HT5 := Aside0.mk (blk_drewN HT.out q5)))
        | (go_at_call 61; ((with_reducible refine (Hpre.out _).mono ?_); rintro e w6 ⟨rfl, rfl⟩))
        | (go_at_call 62; ((with_reducible refine (Hpa.out _ HB5.out).mono ?_); rintro e w7 ⟨v7, N7, rfl, hb7⟩; have HB7 := Aside0.mk (below_then HB5.out HB5.out.size hb7); have HO7 := Aside0.mk (blk_below HO5.out hb7); have HT7 := Aside0.mk (blk_below HT5.out hb7); clear hb7)))
       go_ret
       exact ⟨_, rfl, by rw [HNO.out]; exact Kd.R_nil _ _ _ _ _, HB7.out⟩
   | false =>
    rw [hn] at hcp hM hsg
    rw [if_neg (by simp)] at hM hsg
    clear hn
    cases hst : starT t with
    | true =>
     rw [hst] at hcut hS hN hok
     rw [if_pos rfl] at hS hN
     clear hst
     rw [if_pos (show okT t = true by rw [hok]; simp)] at htok
     have Hcp := Aside0.mk hcp
     have Hcut := Aside0.mk (hcut _ hM.symm)
     have Htp := Aside0.mk (htp _ hN.symm)
     have hpg := fun W hW => hpa _ hS.symm W hW
     have hpo' := fun v hv => hpo _ v hS.symm hv
     have hpb' := fun hv => hpb _ hS.symm hv
     clear hcp hcut hpre htp hpa hpo hpb hM hS hN hok hm1 hm2 hm3 hD1
     cases hi : idxT t with
     | ok i =>
      rw [hi] at htok
      dsimp only at htok
      have Hat : Aside0 (∀ W, Below w.heap.size w W → _) := ⟨fun W _ => hao i hi W⟩
      clear hao hab hi
      by_cases hi0 : 0 ≤ i
      ·obtain ⟨a, rfl⟩ := Int.eq_ofNat_of_zero_le hi0
       by_cases hi1 : (a : Int) < (n : Int)
       ·have hd1 : decide ((n : Int) ≤ (a : Int)) = false := decide_eq_false (by omega)
        have hd2 : decide (n ≤ a) = false := decide_eq_false (by omega)
        have han : a < n := by omega
        have han2 : (a : Int) < (n : Int) + 1 := by omega
        rw [if_pos ⟨hi0, hi1⟩, Int.toNat_natCast] at htok
        clear hi0 hi1
        cases hv : numT t with
        | ok v =>
         rw [hv] at htok
         have Hpa : Aside0 (∀ W, Below w.heap.size w W → _) := ⟨fun W _ => hpo' v hv W⟩
         clear hpg hpo' hpb' hv
         have HYES : Aside0 (RR = readT n TD (out.set a (wrap64 (signT t * v)))) := ⟨by rw [hstep, htok]⟩
         have HSG := Aside0.mk hsg
         have HD := Aside0.mk hD
         clear hstep htok hsg hD
         go_wp2_with (first
          | (go_at_call 60; ((with_reducible refine (Hcp.out _).mono ?_); rintro e w4 ⟨rfl, rfl⟩))
          | (go_at_call 38; ((with_reducible refine (Hcut.out _ HB.out).mono ?_); rintro e w5 ⟨rfl, q5, rfl⟩; have HB5 := Aside0.mk (pw_below_drewN HB.out q5); have HO5 := Aside0.mk (blk_drewN HO.out q5); have HT5 := Aside0.mk (blk_drewN HT.out q5)))
          | (go_at_call 62; ((with_reducible refine (Hpa.out _ HB5.out).mono ?_); rintro e w7 ⟨rfl, hb7⟩; have HB7 := Aside0.mk (below_then HB5.out HB5.out.size hb7); have HO7 := Aside0.mk (blk_below HO5.out hb7); have HT7 := Aside0.mk (blk_below HT5.out hb7); clear hb7))
          | (go_at_call 57; ((with_reducible refine (Htp.out _).mono ?_); rintro e w8 ⟨rfl, rfl⟩))
          | (go_at_call 63; ((with_reducible refine (Hat.out _ HB7.out).mono ?_); rintro e w9 ⟨rfl, hb9⟩; have HB9 := Aside0.mk (below_then HB7.out HB7.out.size hb9); have HO9 := Aside0.mk (blk_below HO7.out hb9); have HT9 := Aside0.mk (blk_below HT7.out hb9); clear hb9; have fz := blk_frozen HO9.out a; have cz := RowL.cell HO9.out a (by rw [HL.out]; omega))))
         go_roundw
         case rel => exact ⟨k + 1, _, hdone, by go_num, ⟨by simp [HL.out]⟩, ⟨RowL.put HO9.out _ _⟩, ⟨blk_far HT9.out (by have h_ := HGT.out; intro e_; first | (have e2_ : w.heap.size = w2.heap.size := e_; omega) | (have e2_ : w2.heap.size = w.heap.size := e_; omega)) _⟩, ⟨below_set HB9.out (Nat.le_refl _)⟩, ⟨by rw [HRD.out, HYES.out, HSG.out, HD.out]; simp⟩⟩
         case measure => simp [intOf]; omega
        | «syntax» =>
         rw [hv] at htok
         have Hpa := Aside0.mk (hpb' (fun v hv' => by rw [hv] at hv'; cases hv'))
         clear hpg hpo' hpb' hv
         have HNO : Aside0 (rowT n s = []) := ⟨by rw [HRT.out, HRD.out, hstep, htok]; rfl⟩
         clear hstep htok HRD HRT
         go_wp2_with (first
          | (go_at_call 60; ((with_reducible refine (Hcp.out _).mono ?_); rintro e w4 ⟨rfl, rfl⟩))
          | (go_at_call 38; ((with_reducible refine (Hcut.out _ HB.out).mono ?_); rintro e w5 ⟨rfl, q5, rfl⟩; have HB5 := Aside0.mk (pw_below_drewN HB.out q5); have HO5 := Aside0.mk (blk_drewN HO.out q5); have HT5 := Aside0.mk (blk_drewN HT.out q5)))
          | (go_at_call 62; ((with_reducible refine (Hpa.out _ HB5.out).mono ?_); rintro e w7 ⟨v7, N7, rfl, hb7⟩; have HB7 := Aside0.mk (below_then HB5.out HB5.out.size hb7); have HO7 := Aside0.mk (blk_below HO5.out hb7); have HT7 := Aside0.mk (blk_below HT5.out hb7); clear hb7))
          | (go_at_call 57; ((with_reducible refine (Htp.out _).mono ?_); rintro e w8 ⟨rfl, rfl⟩))
          | (go_at_call 63; ((with_reducible refine (Hat.out _ HB7.out).mono ?_); rintro e w9 ⟨rfl, hb9⟩; have HB9 := Aside0.mk (below_then HB7.out HB7.out.size hb9); have HO9 := Aside0.mk (blk_below HO7.out hb9); have HT9 := Aside0.mk (blk_below HT7.out hb9); clear hb9)))
         go_ret
         exact ⟨_, rfl, by rw [HNO.out]; exact Kd.R_nil _ _ _ _ _, HB9.out⟩
        | range =>
         rw [hv] at htok
         have Hpa := Aside0.mk (hpb' (fun v hv' => by rw [hv] at hv'; cases hv'))
         clear hpg hpo' hpb' hv
         have HNO : Aside0 (rowT n s = []) := ⟨by rw [HRT.out, HRD.out, hstep, htok]; rfl⟩
         clear hstep htok HRD HRT
         go_wp2_with (first
          | (go_at_call 60; ((with_reducible refine (Hcp.out _).mono ?_); rintro e w4 ⟨rfl, rfl⟩))
          | (go_at_call 38; ((with_reducible refine (Hcut.out _ HB.out).mono ?_); rintro e w5 ⟨rfl, q5, rfl⟩; have HB5 := Aside0.mk (pw_below_drewN HB.out q5); have HO5 := Aside0.mk (blk_drewN HO.out q5); have HT5 := Aside0.mk (blk_drewN HT.out q5)))
          | (go_at_call 62; ((with_reducible refine (Hpa.out _ HB5.out).mono ?_); rintro e w7 ⟨v7, N7, rfl, hb7⟩; have HB7 := Aside0.mk (below_then HB5.out HB5.out.size hb7); have HO7 := Aside0.mk (blk_below HO5.out hb7); have HT7 := Aside0.mk (blk_below HT5.out hb7); clear hb7))
          | (go_at_call 57; ((with_reducible refine (Htp.out _).mono ?_); rintro e w8 ⟨rfl, rfl⟩))
          | (go_at_call 63; ((with_reducible refine (Hat.out _ HB7.out).mono ?_); rintro e w9 ⟨rfl, hb9⟩; have HB9 := Aside0.mk (below_then HB7.out HB7.out.size hb9); have HO9 := Aside0.mk (blk_below HO7.out hb9); have HT9 := Aside0.mk (blk_below HT7.out hb9); clear hb9)))
         go_ret
         exact ⟨_, rfl, by rw [HNO.out]; exact Kd.R_nil _ _ _ _ _, HB9.out⟩
       ·have hd1 : decide ((n : Int) ≤ (a : Int)) = true := decide_eq_true (by omega)
        have hd2 : decide (n ≤ a) = true := decide_eq_true (by omega)
        have han : n ≤ a := by omega
        rw [if_neg (fun h => hi1 h.2)] at htok
        have Hpa := Aside0.mk hpg
        clear hpg hpo' hpb' hi0 hi1
        have HNO : Aside0 (rowT n s = []) := ⟨by rw [HRT.out, HRD.out, hstep, htok]; rfl⟩
        clear hstep htok HRD HRT
        go_wp2_with (first
         | (go_at_call 60; ((with_reducible refine (Hcp.out _).mono ?_); rintro e w4 ⟨rfl, rfl⟩))
         | (go_at_call 38; ((with_reducible refine (Hcut.out _ HB.out).mono ?_); rintro e w5 ⟨rfl, q5, rfl⟩; have HB5 := Aside0.mk (pw_below_drewN HB.out q5); have HO5 := Aside0.mk (blk_drewN HO.out q5); have HT5 := Aside0.mk (blk_drewN HT.out q5)))
         | (go_at_call 62; ((with_reducible refine (Hpa.out _ HB5.out).mono ?_); rintro e w7 ⟨v7, ev7, rfl, hb7⟩; have HB7 := Aside0.mk (below_then HB5.out HB5.out.size hb7); have HO7 := Aside0.mk (blk_below HO5.out hb7); have HT7 := Aside0.mk (blk_below HT5.out hb7); clear hb7))
         | (go_at_call 57; ((with_reducible refine (Htp.out _).mono ?_); rintro e w8 ⟨rfl, rfl⟩))
         | (go_at_call 63; ((with_reducible refine (Hat.out _ HB7.out).mono ?_); rintro e w9 ⟨rfl, hb9⟩; have HB9 := Aside0.mk (below_then HB7.out HB7.out.size hb9); have HO9 := Aside0.mk (blk_below HO7.out hb9); have HT9 := Aside0.mk (blk_below HT7.out hb9); clear hb9)))
        go_ret
        exact ⟨_, rfl, by rw [HNO.out]; exact Kd.R_nil _ _ _ _ _, HB9.out⟩
      ·have hd0 : decide (i < 0) = true := decide_eq_true (by omega)
       rw [if_neg (fun h => hi0 h.1)] at htok
       have hi2 : i < 0 := by omega
       have Hpa := Aside0.mk hpg
       clear hpg hpo' hpb' hi0
       have HNO : Aside0 (rowT n s = []) := ⟨by rw [HRT.out, HRD.out, hstep, htok]; rfl⟩
       clear hstep htok HRD HRT
       go_wp2_with (first
        | (go_at_call 60; ((with_reducible refine (Hcp.out _).mono ?_); rintro e w4 ⟨rfl, rfl⟩))
        | (go_at_call 38; ((with_reducible refine (Hcut.out _ HB.out).mono ?_); rintro e w5 ⟨rfl, q5, rfl⟩; have HB5 := Aside0.mk (pw_below_drewN HB.out q5); have HO5 := Aside0.mk (blk_drewN HO.out q5); have HT5 := Aside0.mk (blk_drewN HT.out q5)))
        | (go_at_call 62; ((with_reducible refine (Hpa.out _ HB5.out).mono ?_); rintro e w7 ⟨v7, ev7, rfl, hb7⟩; have HB7 := Aside0.mk (below_then HB5.out HB5.out.size hb7); have HO7 := Aside0.mk (blk_below HO5.out hb7); have HT7 := Aside0.mk (blk_below HT5.out hb7); clear hb7))
        | (go_at_call 57; ((with_reducible refine (Htp.out _).mono ?_); rintro e w8 ⟨rfl, rfl⟩))
        | (go_at_call 63; ((with_reducible refine (Hat.out _ HB7.out).mono ?_); rintro e w9 ⟨rfl, hb9⟩; have HB9 := Aside0.mk (below_then HB7.out HB7.out.size hb9); have HO9 := Aside0.mk (blk_below HO7.out hb9); have HT9 := Aside0.mk (blk_below HT7.out hb9); clear hb9)))
       go_ret
       exact ⟨_, rfl, by rw [HNO.out]; exact Kd.R_nil _ _ _ _ _, HB9.out⟩
     | «syntax» =>
      rw [hi] at htok
      have Hat := Aside0.mk (hab (fun v hv' => by rw [hi] at hv'; cases hv'))
      have Hpa := Aside0.mk hpg
      clear hpg hpo' hpb' hao hab hi
      have HNO : Aside0 (rowT n s = []) := ⟨by rw [HRT.out, HRD.out, hstep, htok]; rfl⟩
      clear hstep htok HRD HRT
      go_wp2_with (first
       | (go_at_call 60; ((with_reducible refine (Hcp.out _).mono ?_); rintro e w4 ⟨rfl, rfl⟩))
       | (go_at_call 38; ((with_reducible refine (Hcut.out _ HB.out).mono ?_); rintro e w5 ⟨rfl, q5, rfl⟩; have HB5 := Aside0.mk (pw_below_drewN HB.out q5); have HO5 := Aside0.mk (blk_drewN HO.out q5); have HT5 := Aside0.mk (blk_drewN HT.out q5)))
       | (go_at_call 62; ((with_reducible refine (Hpa.out _ HB5.out).mono ?_); rintro e w7 ⟨v7, ev7, rfl, hb7⟩; have HB7 := Aside0.mk (below_then HB5.out HB5.out.size hb7); have HO7 := Aside0.mk (blk_below HO5.out hb7); have HT7 := Aside0.mk (blk_below HT5.out hb7); clear hb7))
       | (go_at_call 57; ((with_reducible refine (Htp.out _).mono ?_); rintro e w8 ⟨rfl, rfl⟩))
       | (go_at_call 63; ((with_reducible refine (Hat.out _ HB7.out).mono ?_); rintro e w9 ⟨v9, N9, rfl, hb9⟩; have HB9 := Aside0.mk (below_then HB7.out HB7.out.size hb9); have HO9 := Aside0.mk (blk_below HO7.out hb9); have HT9 := Aside0.mk (blk_below HT7.out hb9); clear hb9)))
      go_ret
      exact ⟨_, rfl, by rw [HNO.out]; exact Kd.R_nil _ _ _ _ _, HB9.out⟩
     | range =>
      rw [hi] at htok
      have Hat := Aside0.mk (hab (fun v hv' => by rw [hi] at hv'; cases hv'))
      have Hpa := Aside0.mk hpg
      clear hpg hpo' hpb' hao hab hi
      have HNO : Aside0 (rowT n s = []) := ⟨by rw [HRT.out, HRD.out, hstep, htok]; rfl⟩
      clear hstep htok HRD HRT
      go_wp2_with (first
       | (go_at_call 60; ((with_reducible refine (Hcp.out _).mono ?_); rintro e w4 ⟨rfl, rfl⟩))
       | (go_at_call 38; ((with_reducible refine (Hcut.out _ HB.out).mono ?_); rintro e w5 ⟨rfl, q5, rfl⟩; have HB5 := Aside0.mk (pw_below_drewN HB.out q5); have HO5 := Aside0.mk (blk_drewN HO.out q5); have HT5 := Aside0.mk (blk_drewN HT.out q5)))
       | (go_at_call 62; ((with_reducible refine (Hpa.out _ HB5.out).mono ?_); rintro e w7 ⟨v7, ev7, rfl, hb7⟩; have HB7 := Aside0.mk (below_then HB5.out HB5.out.size hb7); have HO7 := Aside0.mk (blk_below HO5.out hb7); have HT7 := Aside0.mk (blk_below HT5.out hb7); clear hb7))
       | (go_at_call 57; ((with_reducible refine (Htp.out _).mono ?_); rintro e w8 ⟨rfl, rfl⟩))
       | (go_at_call 63; ((with_reducible refine (Hat.out _ HB7.out).mono ?_); rintro e w9 ⟨v9, N9, rfl, hb9⟩; have HB9 := Aside0.mk (below_then HB7.out HB7.out.size hb9); have HO9 := Aside0.mk (blk_below HO7.out hb9); have HT9 := Aside0.mk (blk_below HT7.out hb9); clear hb9)))
      go_ret
      exact ⟨_, rfl, by rw [HNO.out]; exact Kd.R_nil _ _ _ _ _, HB9.out⟩
    | false =>
     rw [hst] at hcut hS hN hok
     rw [if_neg (by simp)] at hS hN
     clear hst
     cases hd : dT t with
     | true =>
      rw [hd] at hpre hS hN hok
      rw [if_pos rfl] at hS hN
      clear hd
      rw [if_pos (show okT t = true by rw [hok]; simp)] at htok
      have Hcp := Aside0.mk hcp
      have Hcut := Aside0.mk (hcut _ hM.symm)
      have Hpre := Aside0.mk (hpre _ hM.symm)
      rw [hM] at hN
      have Htp := Aside0.mk (htp _ hN.symm)
      have hpg := fun W hW => hpa _ hS.symm W hW
      have hpo' := fun v hv => hpo _ v hS.symm hv
      have hpb' := fun hv => hpb _ hS.symm hv
      clear hcp hcut hpre htp hpa hpo hpb hM hS hN hok hm1 hm2 hm3 hD1
      cases hi : idxT t with
      | ok i =>
       rw [hi] at htok
       dsimp only at htok
       have Hat : Aside0 (∀ W, Below w.heap.size w W → _) := ⟨fun W _ => hao i hi W⟩
       clear hao hab hi
       by_cases hi0 : 0 ≤ i
       ·obtain ⟨a, rfl⟩ := Int.eq_ofNat_of_zero_le hi0
        by_cases hi1 : (a : Int) < (n : Int)
        ·have hd1 : decide ((n : Int) ≤ (a : Int)) = false := decide_eq_false (by omega)
         have hd2 : decide (n ≤ a) = false := decide_eq_false (by omega)
         have han : a < n := by omega
         have han2 : (a : Int) < (n : Int) + 1 := by omega
         rw [if_pos ⟨hi0, hi1⟩, Int.toNat_natCast] at htok
         clear hi0 hi1
         cases hv : numT t with
         | ok v =>
          rw [hv] at htok
          have Hpa : Aside0 (∀ W, Below w.heap.size w W → _) := ⟨fun W _ => hpo' v hv W⟩
          clear hpg hpo' hpb' hv
          have HYES : Aside0 (RR = readT n TD (out.set a (wrap64 (signT t * v)))) := ⟨by rw [hstep, htok]⟩
          have HSG := Aside0.mk hsg
          have HD := Aside0.mk hD
          clear hstep htok hsg hD
          go_wp2_with (first
           | (go_at_call 60; ((with_reducible refine (Hcp.out _).mono ?_); rintro e w4 ⟨rfl, rfl⟩))
           | (go_at_call 38; ((with_reducible refine (Hcut.out _ HB.out).mono ?_); rintro e w5 ⟨rfl, q5, rfl⟩; have HB5 := Aside0.mk (pw_below_drewN HB.out q5); have HO5 := Aside0.mk (blk_drewN HO.out q5); have HT5 := Aside0.mk (blk_drewN HT.out q5)))
           | (go_at_call 61; ((with_reducible refine (Hpre.out _).mono ?_); rintro e w6 ⟨rfl, rfl⟩))
           | (go_at_call 62; ((with_reducible refine (Hpa.out _ HB5.out).mono ?_); rintro e w7 ⟨rfl, hb7⟩; have HB7 := Aside0.mk (below_then HB5.out HB5.out.size hb7); have HO7 := Aside0.mk (blk_below HO5.out hb7); have HT7 := Aside0.mk (blk_below HT5.out hb7); clear hb7))
           | (go_at_call 57; ((with_reducible refine (Htp.out _).mono ?_); rintro e w8 ⟨rfl, rfl⟩))
           | (go_at_call 63; ((with_reducible refine (Hat.out _ HB7.out).mono ?_); rintro e w9 ⟨rfl, hb9⟩; have HB9 := Aside0.mk (below_then HB7.out HB7.out.size hb9); have HO9 := Aside0.mk (blk_below HO7.out hb9); have HT9 := Aside0.mk (blk_below HT7.out hb9); clear hb9; have fz := blk_frozen HO9.out a; have cz := RowL.cell HO9.out a (by rw [HL.out]; omega))))
          go_roundw
          case rel => exact ⟨k + 1, _, hdone, by go_num, ⟨by simp [HL.out]⟩, ⟨RowL.put HO9.out _ _⟩, ⟨blk_far HT9.out (by have h_ := HGT.out; intro e_; first | (have e2_ : w.heap.size = w2.heap.size := e_; omega) | (have e2_ : w2.heap.size = w.heap.size := e_; omega)) _⟩, ⟨below_set HB9.out (Nat.le_refl _)⟩, ⟨by rw [HRD.out, HYES.out, HSG.out, HD.out]; simp⟩⟩
          case measure => simp [intOf]; omega
         | «syntax» =>
          rw [hv] at htok
          have Hpa := Aside0.mk (hpb' (fun v hv' => by rw [hv] at hv'; cases hv'))
          clear hpg hpo' hpb' hv
          have HNO : Aside0 (rowT n s = []) := ⟨by rw [HRT.out, HRD.out, hstep, htok]; rfl⟩
          clear hstep htok HRD HRT
          go_wp2_with (first
           | (go_at_call 60; ((with_reducible refine (Hcp.out _).mono ?_); rintro e w4 ⟨rfl, rfl⟩))
           | (go_at_call 38; ((with_reducible refine (Hcut.out _ HB.out).mono ?_); rintro e w5 ⟨rfl, q5, rfl⟩; have HB5 := Aside0.mk (pw_below_drewN HB.out q5); have HO5 := Aside0.mk (blk_drewN HO.out q5); have HT5 := Aside0.mk (blk_drewN HT.out q5)))
           | (go_at_call 61; ((with_reducible refine (Hpre.out _).mono ?_); rintro e w6 ⟨rfl, rfl⟩))
           | (go_at_call 62; ((with_reducible refine (Hpa.out _ HB5.out).mono ?_); rintro e w7 ⟨v7, N7, rfl, hb7⟩; have HB7 := Aside0.mk (below_then HB5.out HB5.out.size hb7); have HO7 := Aside0.mk (blk_below HO5.out hb7); have HT7 := Aside0.mk (blk_below HT5.out hb7); clear hb7))
           | (go_at_call 57; ((with_reducible refine (Htp.out _).mono ?_); rintro e w8 ⟨rfl, rfl⟩))
           | (go_at_call 63; ((with_reducible refine (Hat.out _ HB7.out).mono ?_); rintro e w9 ⟨rfl, hb9⟩; have HB9 := Aside0.mk (below_then HB7.out HB7.out.size hb9); have HO9 := Aside0.mk (blk_below HO7.out hb9); have HT9 := Aside0.mk (blk_below HT7.out hb9); clear hb9)))
          go_ret
          exact ⟨_, rfl, by rw [HNO.out]; exact Kd.R_nil _ _ _ _ _, HB9.out⟩
         | range =>
          rw [hv] at htok
          have Hpa := Aside0.mk (hpb' (fun v hv' => by rw [hv] at hv'; cases hv'))
          clear hpg hpo' hpb' hv
          have HNO : Aside0 (rowT n s = []) := ⟨by rw [HRT.out, HRD.out, hstep, htok]; rfl⟩
          clear hstep htok HRD HRT
          go_wp2_with (first
           | (go_at_call 60; ((with_reducible refine (Hcp.out _).mono ?_); rintro e w4 ⟨rfl, rfl⟩))
           | (go_at_call 38; ((with_reducible refine (Hcut.out _ HB.out).mono ?_); rintro e w5 ⟨rfl, q5, rfl⟩; have HB5 := Aside0.mk (pw_below_drewN HB.out q5); have HO5 := Aside0.mk (blk_drewN HO.out q5); have HT5 := Aside0.mk (blk_drewN HT.out q5)))
           | (go_at_call 61; ((with_reducible refine (Hpre.out _).mono ?_); rintro e w6 ⟨rfl, rfl⟩))
           | (go_at_call 62; ((with_reducible refine (Hpa.out _ HB5.out).mono ?_); rintro e w7 ⟨v7, N7, rfl, hb7⟩; have HB7 := Aside0.mk (below_then HB5.out HB5.out.size hb7); have HO7 := Aside0.mk (blk_below HO5.out hb7); have HT7 := Aside0.mk (blk_below HT5.out hb7); clear hb7))
           | (go_at_call 57; ((with_reducible refine (Htp.out _).mono ?_); rintro e w8 ⟨rfl, rfl⟩))
           | (go_at_call 63; ((with_reducible refine (Hat.out _ HB7.out).mono ?_); rintro e w9 ⟨rfl, hb9⟩; have HB9 := Aside0.mk (below_then HB7.out HB7.out.size hb9); have HO9 := Aside0.mk (blk_below HO7.out hb9); have HT9 := Aside0.mk (blk_below HT7.out hb9); clear hb9)))
          go_ret
          exact ⟨_, rfl, by rw [HNO.out]; exact Kd.R_nil _ _ _ _ _, HB9.out⟩
        ·have hd1 : decide ((n : Int) ≤ (a : Int)) = true := decide_eq_true (by omega)
         have hd2 : decide (n ≤ a) = true := decide_eq_true (by omega)
         have han : n ≤ a := by omega
         rw [if_neg (fun h => hi1 h.2)] at htok
         have Hpa := Aside0.mk hpg
         clear hpg hpo' hpb' hi0 hi1
         have HNO : Aside0 (rowT n s = []) := ⟨by rw [HRT.out, HRD.out, hstep, htok]; rfl⟩
         clear hstep htok HRD HRT
         go_wp2_with (first
          | (go_at_call 60; ((with_reducible refine (Hcp.out _).mono ?_); rintro e w4 ⟨rfl, rfl⟩))
          | (go_at_call 38; ((with_reducible refine (Hcut.out _ HB.out).mono ?_); rintro e w5 ⟨rfl, q5, rfl⟩; have HB5 := Aside0.mk (pw_below_drewN HB.out q5); have HO5 := Aside0.mk (blk_drewN HO.out q5); have HT5 := Aside0.mk (blk_drewN HT.out q5)))
          | (go_at_call 61; ((with_reducible refine (Hpre.out _).mono ?_); rintro e w6 ⟨rfl, rfl⟩))
          | (go_at_call 62; ((with_reducible refine (Hpa.out _ HB5.out).mono ?_); rintro e w7 ⟨v7, ev7, rfl, hb7⟩; have HB7 := Aside0.mk (below_then HB5.out HB5.out.size hb7); have HO7 := Aside0.mk (blk_below HO5.out hb7); have HT7 := Aside0.mk (blk_below HT5.out hb7); clear hb7))
          | (go_at_call 57; ((with_reducible refine (Htp.out _).mono ?_); rintro e w8 ⟨rfl, rfl⟩))
          | (go_at_call 63; ((with_reducible refine (Hat.out _ HB7.out).mono ?_); rintro e w9 ⟨rfl, hb9⟩; have HB9 := Aside0.mk (below_then HB7.out HB7.out.size hb9); have HO9 := Aside0.mk (blk_below HO7.out hb9); have HT9 := Aside0.mk (blk_below HT7.out hb9); clear hb9)))
         go_ret
         exact ⟨_, rfl, by rw [HNO.out]; exact Kd.R_nil _ _ _ _ _, HB9.out⟩
       ·have hd0 : decide (i < 0) = true := decide_eq_true (by omega)
        rw [if_neg (fun h => hi0 h.1)] at htok
        have hi2 : i < 0 := by omega
        have Hpa := Aside0.mk hpg
        clear hpg hpo' hpb' hi0
        have HNO : Aside0 (rowT n s = []) := ⟨by rw [HRT.out, HRD.out, hstep, htok]; rfl⟩
        clear hstep htok HRD HRT
        go_wp2_with (first
         | (go_at_call 60; ((with_reducible refine (Hcp.out _).mono ?_); rintro e w4 ⟨rfl, rfl⟩))
         | (go_at_call 38; ((with_reducible refine (Hcut.out _ HB.out).mono ?_); rintro e w5 ⟨rfl, q5, rfl⟩; have HB5 := Aside0.mk (pw_below_drewN HB.out q5); have HO5 := Aside0.mk (blk_drewN HO.out q5); have HT5 := Aside0.mk (blk_drewN HT.out q5)))
         | (go_at_call 61; ((with_reducible refine (Hpre.out _).mono ?_); rintro e w6 ⟨rfl, rfl⟩))
         | (go_at_call 62; ((with_reducible refine (Hpa.out _ HB5.out).mono ?_); rintro e w7 ⟨v7, ev7, rfl, hb7⟩; have HB7 := Aside0.mk (below_then HB5.out HB5.out.size hb7); have HO7 := Aside0.mk (blk_below HO5.out hb7); have HT7 := Aside0.mk (blk_below HT5.out hb7); clear hb7))
         | (go_at_call 57; ((with_reducible refine (Htp.out _).mono ?_); rintro e w8 ⟨rfl, rfl⟩))
         | (go_at_call 63; ((with_reducible refine (Hat.out _ HB7.out).mono ?_); rintro e w9 ⟨rfl, hb9⟩; have HB9 := Aside0.mk (below_then HB7.out HB7.out.size hb9); have HO9 := Aside0.mk (blk_below HO7.out hb9); have HT9 := Aside0.mk (blk_below HT7.out hb9); clear hb9)))
        go_ret
        exact ⟨_, rfl, by rw [HNO.out]; exact Kd.R_nil _ _ _ _ _, HB9.out⟩
      | «syntax» =>
       rw [hi] at htok
       have Hat := Aside0.mk (hab (fun v hv' => by rw [hi] at hv'; cases hv'))
       have Hpa := Aside0.mk hpg
       clear hpg hpo' hpb' hao hab hi
       have HNO : Aside0 (rowT n s = []) := ⟨by rw [HRT.out, HRD.out, hstep, htok]; rfl⟩
       clear hstep htok HRD HRT
       go_wp2_with (first
        | (go_at_call 60; ((with_reducible refine (Hcp.out _).mono ?_); rintro e w4 ⟨rfl, rfl⟩))
        | (go_at_call 38; ((with_reducible refine (Hcut.out _ HB.out).mono ?_); rintro e w5 ⟨rfl, q5, rfl⟩; have HB5 := Aside0.mk (pw_below_drewN HB.out q5); have HO5 := Aside0.mk (blk_drewN HO.out q5); have HT5 := Aside0.mk (blk_drewN HT.out q5)))
        | (go_at_call 61; ((with_reducible refine (Hpre.out _).mono ?_); rintro e w6 ⟨rfl, rfl⟩))
        | (go_at_call 62; ((with_reducible refine (Hpa.out _ HB5.out).mono ?_); rintro e w7 ⟨v7, ev7, rfl, hb7⟩; have HB7 := Aside0.mk (below_then HB5.out HB5.out.size hb7); have HO7 := Aside0.mk (blk_below HO5.out hb7); have HT7 := Aside0.mk (blk_below HT5.out hb7); clear hb7))
        | (go_at_call 57; ((with_reducible refine (Htp.out _).mono ?_); rintro e w8 ⟨rfl, rfl⟩))
        | (go_at_call 63; ((with_reducible refine (Hat.out _ HB7.out).mono ?_); rintro e w9 ⟨v9, N9, rfl, hb9⟩; have HB9 := Aside0.mk (below_then HB7.out HB7.out.size hb9); have HO9 := Aside0.mk (blk_below HO7.out hb9); have HT9 := Aside0.mk (blk_below HT7.out hb9); clear hb9)))
       go_ret
       exact ⟨_, rfl, by rw [HNO.out]; exact Kd.R_nil _ _ _ _ _, HB9.out⟩
      | range =>
       rw [hi] at htok
       have Hat := Aside0.mk (hab (fun v hv' => by rw [hi] at hv'; cases hv'))
       have Hpa := Aside0.mk hpg
       clear hpg hpo' hpb' hao hab hi
       have HNO : Aside0 (rowT n s = []) := ⟨by rw [HRT.out, HRD.out, hstep, htok]; rfl⟩
       clear hstep htok HRD HRT
       go_wp2_with (first
        | (go_at_call 60; ((with_reducible refine (Hcp.out _).mono ?_); rintro e w4 ⟨rfl, rfl⟩))
        | (go_at_call 38; ((with_reducible refine (Hcut.out _ HB.out).mono ?_); rintro e w5 ⟨rfl, q5, rfl⟩; have HB5 := Aside0.mk (pw_below_drewN HB.out q5); have HO5 := Aside0.mk (blk_drewN HO.out q5); have HT5 := Aside0.mk (blk_drewN HT.out q5)))
        | (go_at_call 61; ((with_reducible refine (Hpre.out _).mono ?_); rintro e w6 ⟨rfl, rfl⟩))
        | (go_at_call 62; ((with_reducible refine (Hpa.out _ HB5.out).mono ?_); rintro e w7 ⟨v7, ev7, rfl, hb7⟩; have HB7 := Aside0.mk (below_then HB5.out HB5.out.size hb7); have HO7 := Aside0.mk (blk_below HO5.out hb7); have HT7 := Aside0.mk (blk_below HT5.out hb7); clear hb7))
        | (go_at_call 57; ((with_reducible refine (Htp.out _).mono ?_); rintro e w8 ⟨rfl, rfl⟩))
        | (go_at_call 63; ((with_reducible refine (Hat.out _ HB7.out).mono ?_); rintro e w9 ⟨v9, N9, rfl, hb9⟩; have HB9 := Aside0.mk (below_then HB7.out HB7.out.size hb9); have HO9 := Aside0.mk (blk_below HO7.out hb9); have HT9 := Aside0.mk (blk_below HT7.out hb9); clear hb9)))
       go_ret
       exact ⟨_, rfl, by rw [HNO.out]; exact Kd.R_nil _ _ _ _ _, HB9.out⟩
     | false =>
      rw [hd] at hpre hS hN hok
      rw [if_neg (by simp)] at hS hN
      clear hd
      rw [if_neg (show ¬ okT t = true by rw [hok]; simp)] at htok
      have Hcp := Aside0.mk hcp
      have Hcut := Aside0.mk (hcut _ hM.symm)
      have Hpre := Aside0.mk (hpre _ hM.symm)
      have hpo' := fun v hv => hpo _ v hS.symm hv
      have hpb' := fun hv => hpb _ hS.symm hv
      clear hcp hcut hpre htp hpa hpo hpb hM hS hN hok hm1 hm2 hm3 hD1 hao hab
      have han : n < n + 1 := by omega
      have han2 : (n : Int) < (n : Int) + 1 := by omega
      cases hv : numT t with
      | ok v =>
       rw [hv] at htok
       have Hpa : Aside0 (∀ W, Below w.heap.size w W → _) := ⟨fun W _ => hpo' v hv W⟩
       clear hpo' hpb' hv
       have HYES : Aside0 (RR = readT n TD (out.set n (wrap64 (signT t * v)))) := ⟨by rw [hstep, htok]⟩
       have HSG := Aside0.mk hsg
       have HD := Aside0.mk hD
       clear hstep htok hsg hD
       go_wp2_with (first
        | (go_at_call 60; ((with_reducible refine (Hcp.out _).mono ?_); rintro e w4 ⟨rfl, rfl⟩))
        | (go_at_call 38; ((with_reducible refine (Hcut.out _ HB.out).mono ?_); rintro e w5 ⟨rfl, q5, rfl⟩; have HB5 := Aside0.mk (pw_below_drewN HB.out q5); have HO5 := Aside0.mk (blk_drewN HO.out q5); have HT5 := Aside0.mk (blk_drewN HT.out q5)))
        | (go_at_call 61; ((with_reducible refine (Hpre.out _).mono ?_); rintro e w6 ⟨rfl, rfl⟩))
        | (go_at_call 62; ((with_reducible refine (Hpa.out _ HB5.out).mono ?_); rintro e w7 ⟨rfl, hb7⟩; have HB7 := Aside0.mk (below_then HB5.out HB5.out.size hb7); have HO7 := Aside0.mk (blk_below HO5.out hb7); have HT7 := Aside0.mk (blk_below HT5.out hb7); clear hb7; have fz := blk_frozen HO7.out n; have cz := RowL.cell HO7.out n (by rw [HL.out]; omega))))
       go_roundw
       case rel => exact ⟨k + 1, _, hdone, by go_num, ⟨by simp [HL.out]⟩, ⟨RowL.put HO7.out _ _⟩, ⟨blk_far HT7.out (by have h_ := HGT.out; intro e_; first | (have e2_ : w.heap.size = w2.heap.size := e_; omega) | (have e2_ : w2.heap.size = w.heap.size := e_; omega)) _⟩, ⟨below_set HB7.out (Nat.le_refl _)⟩, ⟨by rw [HRD.out, HYES.out, HSG.out, HD.out]; simp⟩⟩
       case measure => simp [intOf]; omega
      | «syntax» =>
       rw [hv] at htok
       have Hpa := Aside0.mk (hpb' (fun v hv' => by rw [hv] at hv'; cases hv'))
       clear hpo' hpb' hv
       have HNO : Aside0 (rowT n s = []) := ⟨by rw [HRT.out, HRD.out, hstep, htok]; rfl⟩
       clear hstep htok HRD HRT
       go_wp2_with (first
        | (go_at_call 60; ((with_reducible refine (Hcp.out _).mono ?_); rintro e w4 ⟨rfl, rfl⟩))
        | (go_at_call 38; ((with_reducible refine (Hcut.out _ HB.out).mono ?_); rintro e w5 ⟨rfl, q5, rfl⟩; have HB5 := Aside0.mk (pw_below_drewN HB.out q5); have HO5 := Aside0.mk (blk_drewN HO.out q5); have HT5 := Aside0.mk (blk_drewN HT.out q5)))
        | (go_at_call 61; ((with_reducible refine (Hpre.out _).mono ?_); rintro e w6 ⟨rfl, rfl⟩))
        | (go_at_call 62; ((with_reducible refine (Hpa.out _ HB5.out).mono ?_); rintro e w7 ⟨v7, N7, rfl, hb7⟩; have HB7 := Aside0.mk (below_then HB5.out HB5.out.size hb7); have HO7 := Aside0.mk (blk_below HO5.out hb7); have HT7 := Aside0.mk (blk_below HT5.out hb7); clear hb7)))
       go_ret
       exact ⟨_, rfl, by rw [HNO.out]; exact Kd.R_nil _ _ _ _ _, HB7.out⟩
      | range =>
       rw [hv] at htok
       have Hpa := Aside0.mk (hpb' (fun v hv' => by rw [hv] at hv'; cases hv'))
       clear hpo' hpb' hv
       have HNO : Aside0 (rowT n s = []) := ⟨by rw [HRT.out, HRD.out, hstep, htok]; rfl⟩
       clear hstep htok HRD HRT
       go_wp2_with (first
        | (go_at_call 60; ((with_reducible refine (Hcp.out _).mono ?_); rintro e w4 ⟨rfl, rfl⟩))
        | (go_at_call 38; ((with_reducible refine (Hcut.out _ HB.out).mono ?_); rintro e w5 ⟨rfl, q5, rfl⟩; have HB5 := Aside0.mk (pw_below_drewN HB.out q5); have HO5 := Aside0.mk (blk_drewN HO.out q5); have HT5 := Aside0.mk (blk_drewN HT.out q5)))
        | (go_at_call 61; ((with_reducible refine (Hpre.out _).mono ?_); rintro e w6 ⟨rfl, rfl⟩))
        | (go_at_call 62; ((with_reducible refine (Hpa.out _ HB5.out).mono ?_); rintro e w7 ⟨v7, N7, rfl, hb7⟩; have HB7 := Aside0.mk (below_then HB5.out HB5.out.size hb7); have HO7 := Aside0.mk (blk_below HO5.out hb7); have HT7 := Aside0.mk (blk_below HT5.out hb7); clear hb7)))
       go_ret
       exact ⟨_, rfl, by rw [HNO.out]; exact Kd.R_nil _ _ _ _ _, HB7.out⟩
  ·obtain rfl : k = T.length := by omega
   have HRR : Aside0 (rowT n s = out) := ⟨by rw [HRT.out, HRD.out, List.drop_length]; rfl⟩
   go_wp2
   go_ret
   exact ⟨_, rfl, by rw [HRR.out]; have := HO.out.R (w0 := w) (Nat.le_refl _) (by rw [HL.out]; unfold maxLen; omega); rwa [HL.out] at this, HB.out⟩
def affine_readRow.f (s : ByteArray) (n : Int) : Option (List Int) := if s.size ≤ 100000000 ∧ 0 ≤ n ∧ n ≤ 6 then some (rowT n.toNat s) else none
theorem affine_readRow.calls (s : ByteArray) (n : Int) (r : List Int) (w : World) (hgl : Glob w) (h : affine_readRow.f s n = some r) : Calls Tryz.prog 40 #[.string s, .int .i64 n] w fun e w' => ∃ v0_ : Value, e = .returned v0_ ∧ Kd.R (Kd.int .i64) 2 w' w.heap.size (fun _ => True) v0_ r ∧ Below w.heap.size w w' := by
 unfold affine_readRow.f at h
 by_cases c : s.size ≤ 100000000 ∧ 0 ≤ n ∧ n ≤ 6
 ·rw [if_pos c] at h
  obtain rfl := Option.some.inj h
  obtain ⟨m, rfl⟩ := Int.eq_ofNat_of_zero_le c.2.1
  rw [Int.toNat_natCast]
  exact readRow_any s m (by omega) c.1 w hgl
 ·rw [if_neg c] at h; exact absurd h (by simp)
end Go.Proofs.YtcefaofknaeaeaaGreatDoor.X
