/- The laws of layer 3: the examples, and a mind that has heard 1024 names. -/
import Derived.Test.YtdipkblmcloifaaGreatDoorLawDF
import Derived.Test.YtdipkblmcloifaaGreatDoorLawDH
import Derived.Test.YtdipkblmcloifaaGreatDoorLawDO
import Derived.Test.YtdipkblmcloifaaGreatDoorLawDQ
import Derived.Test.YtdipkblmcloifaaGreatDoorLawDR
import Derived.Test.YtdipkblmcloifaaGreatDoorDedL
import Derived.Test.YtdipkblmcloifaaGreatDoorDedY
import Derived.Test.YtdipkblmcloifaaGreatDoorDedH
import Derived.Test.YtdipkblmcloifaaGreatDoorRegI
set_option linter.unusedSimpArgs false
set_option linter.unusedVariables false
namespace Go.Proofs.YtdipkblmcloifaaGreatDoor
open Go.RowKit

set_option maxRecDepth 100000 in
set_option maxHeartbeats 2000000 in
theorem dLearnNil (t : List UInt8) (w : World) : Calls Tryz.prog 19 #[.pointer none, .string (bs t)] w fun e w' => e = .returned (.int .i64 1) ∧ w' = w := by
  go_enter Tryz.func19, Tryz.ntmps19
  go_wp2_with fail
  go_ret
  exact ⟨rfl, rfl⟩
set_option maxRecDepth 100000 in
set_option maxHeartbeats 2000000 in
theorem dKnowsNil (t : List UInt8) (w : World) : Calls Tryz.prog 12 #[.pointer none, .string (bs t)] w fun e w' => e = .returned (.bool false) ∧ w' = w := by
  go_enter Tryz.func12, Tryz.ntmps12
  go_wp2_with fail
  go_ret
  exact ⟨rfl, rfl⟩
set_option maxRecDepth 100000 in
set_option maxHeartbeats 2000000 in
theorem dHeldNil (w : World) : Calls Tryz.prog 14 #[.pointer none] w fun e w' => e = .returned (.slice none 0 0) ∧ w' = w := by
  go_enter Tryz.func14, Tryz.ntmps14
  go_wp2_with fail
  go_ret
  exact ⟨rfl, rfl⟩
set_option maxRecDepth 100000 in
set_option maxHeartbeats 2000000 in
theorem dCopyNil (w : World) : Calls Tryz.prog 18 #[.pointer none] w fun e w' => e = .returned (.pointer none) ∧ w' = w := by
  go_enter Tryz.func18, Tryz.ntmps18
  go_wp2_with fail
  go_ret
  exact ⟨rfl, rfl⟩
set_option maxRecDepth 100000 in
set_option maxHeartbeats 2000000 in
theorem lDeduceNone (t : List UInt8) (w : World) (hG : GOk w) : Calls Tryz.prog 5 #[.string (bs t)] w fun e w' => e = .returned (.bool true) ∧ Below w.heap.size w w' := by
  have HG := Lib.hid hG
  clear hG
  go_enter Tryz.func5, Tryz.ntmps5
  go_wp2_with fail
  refine (dLearnNil t _).mono ?_
  rintro e w1 ⟨rfl, rfl⟩
  go_wp2_with fail
  refine (dKnowsNil t _).mono ?_
  rintro e w2 ⟨rfl, rfl⟩
  go_wp2_with fail
  refine (dHeldNil _).mono ?_
  rintro e w3 ⟨rfl, rfl⟩
  go_wp2_with fail
  refine (dCopyNil _).mono ?_
  rintro e w4 ⟨rfl, rfl⟩
  go_wp2_with fail
  refine (lWorks03 _ HG.out).mono ?_
  rintro e w5 ⟨rfl, hb5⟩
  go_wp2_with fail
  go_ret
  exact ⟨by first | rfl | (simp; done), hb5⟩
theorem nameP_pre {a b : Nat} {r r' : List UInt8} (ha : a ≤ 9223372036854775807) (hb : b ≤ 9223372036854775807) (h : nameL a ++ r = nameL b ++ r') : a = b ∧ r = r' := by
  have h1 := num_dec 59 (by decide) a r ha
  have h2 := num_dec 59 (by decide) b r' hb
  have e : Lib.decDigits a ++ 59 :: r = Lib.decDigits b ++ 59 :: r' := by
    have := List.cons.inj (show 110 :: (Lib.decDigits a ++ 59 :: r) = 110 :: (Lib.decDigits b ++ 59 :: r') by simpa [nameL] using h)
    exact this.2
  rw [e, h2] at h1
  obtain rfl : b = a := by
    have := Option.some.inj h1
    exact (Prod.mk.inj this).1
  exact ⟨rfl, by simpa using e⟩
theorem nameP_inj {a b : Nat} (ha : a ≤ 2000) (hb : b ≤ 2000) (h : nameL a = nameL b) : a = b := by
  have : nameL a ++ [] = nameL b ++ [] := by rw [h]
  exact (nameP_pre (by omega) (by omega) this).1
theorem nameP_kids {n : Nat} (hn : n ≤ 2000) : ∃ x, rt (nameL n) = some x ∧ x.op.toNat = 110 ∧ x.kids = [] := by
  obtain ⟨r, hd⟩ := nameL_right (n := n) (by omega)
  obtain ⟨x, hx⟩ := right_some r
  have ho : x.op.toNat = 110 := by rw [head_op hx, hd]; rfl
  obtain ⟨q1, _, _⟩ := rt_rd hx
  exact ⟨x, hx, ho, ((rd_parts q1).1 ho).2.1⟩
/-- So many names. -/
def namesH (n : Nat) : List UInt8 → Bool := fun t => decide (t ∈ (List.range n).map nameL)
theorem names_iff {n : Nat} {t : List UInt8} : namesH n t = true ↔ ∃ j, j < n ∧ nameL j = t := by
  unfold namesH
  rw [decide_eq_true_eq, List.mem_map]
  simp [List.mem_range]
theorem names_right {n : Nat} (hn : n ≤ 1024) : ∀ t, namesH n t = true → right t = true := fun t h => by
  obtain ⟨j, hj, rfl⟩ := names_iff.1 h
  exact (nameL_right (n := j) (by omega)).1
theorem names_new {n : Nat} (hn : n ≤ 1024) : namesH n (nameL n) = false := by
  cases h : namesH n (nameL n) with
  | false => rfl
  | true =>
    obtain ⟨j, hj, e⟩ := names_iff.1 h
    have := nameP_inj (by omega) (by omega) e
    omega
theorem names_learn {n : Nat} (hn : n < 1024) : learnH (namesH n) n (nameL n) = namesH (n + 1) ∧ learnN (namesH n) n (nameL n) = n + 1 ∧ learnC (namesH n) n (nameL n) = 0 := by
  have r := (nameL_right (n := n) (by omega)).1
  have h := names_new (n := n) (by omega)
  refine ⟨?_, ?_, ?_⟩
  · unfold learnH
    rw [if_pos ⟨r, h, hn⟩]
    funext t
    unfold ins namesH
    rw [List.range_succ, List.map_append]
    by_cases e : t = nameL n
    · subst e; simp
    · simp [e]
  · unfold learnN; rw [if_pos ⟨r, h, hn⟩]
  · unfold learnC; rw [if_neg (by rw [r]; simp), if_neg (by rw [h]; simp), if_neg (by omega)]
theorem names_least {n : Nat} (hn : n ≤ 1024) : Least (namesH n) (namesH n) := by
  refine ⟨fun t h => h, fun t x ht hx => ?_, fun S' h _ t ht => h t ht⟩
  obtain ⟨j, hj, rfl⟩ := names_iff.1 ht
  obtain ⟨y, hy, ho, _⟩ := nameP_kids (n := j) (by omega)
  rw [hx] at hy
  injection hy with hy
  subst hy
  exact ⟨fun h => by omega, fun h => by omega⟩
theorem names_has {n j : Nat} (h : j < n) : namesH n (nameL j) = true := names_iff.2 ⟨j, h, rfl⟩
theorem names_full : learnC (namesH 1024) 1024 (72 :: nameL 5) = 3 ∧ learnH (namesH 1024) 1024 (72 :: nameL 5) = namesH 1024 ∧ learnN (namesH 1024) 1024 (72 :: nameL 5) = 1024 := by
  have r := (nameL_hash (n := 5) (by omega)).2
  have h : namesH 1024 (72 :: nameL 5) = false := by
    cases h : namesH 1024 (72 :: nameL 5) with
    | false => rfl
    | true =>
      obtain ⟨j, hj, e⟩ := names_iff.1 h
      have := (List.cons.inj e).1
      cases this
  refine ⟨?_, ?_, ?_⟩
  · unfold learnC; rw [if_neg (by rw [r]; simp), if_neg (by rw [h]; simp), if_pos (by omega)]
  · unfold learnH; rw [if_neg (by omega)]
  · unfold learnN; rw [if_neg (by omega)]
theorem names_old : learnC (namesH 1024) 1024 (nameL 5) = 0 ∧ learnH (namesH 1024) 1024 (nameL 5) = namesH 1024 ∧ learnN (namesH 1024) 1024 (nameL 5) = 1024 := by
  have r := (nameL_right (n := 5) (by omega)).1
  have h := names_has (n := 1024) (j := 5) (by omega)
  refine ⟨?_, ?_, ?_⟩
  · unfold learnC; rw [if_neg (by rw [r]; simp), if_pos h]
  · unfold learnH; rw [if_neg (by omega)]
  · unfold learnN; rw [if_neg (by omega)]
theorem names_not {S : List UInt8 → Bool} (hL : Least (namesH 1024) S) : (right (nameL 2000) && kn S (nameL 2000)) = false := by
  have := (fresh_not hL (n := 2000) (by omega) (names_right (by omega)) (fun t ht => by
    obtain ⟨j, hj, rfl⟩ := names_iff.1 ht
    obtain ⟨x, hx, _, hk⟩ := nameP_kids (n := j) (by omega)
    rw [stands_eq _ hx, hk]
    have : (nameL j == nameL 2000) = false := by
      cases h : (nameL j == nameL 2000) with
      | false => rfl
      | true => have := nameP_inj (a := j) (b := 2000) (by omega) (by omega) (by simpa using h); omega
    rw [this]; rfl)).1
  rw [this, Bool.and_false]
theorem names_hash {S : List UInt8 → Bool} (hL : Least (namesH 1024) S) : (right (72 :: nameL 5) && kn S (72 :: nameL 5)) = true := by
  obtain ⟨e, r⟩ := nameL_hash (n := 5) (by omega)
  have h5 : kn S (nameL 5) = true := kn_held (nameL_right (n := 5) (by omega)).1 (hL.1 _ (names_has (by omega)))
  have := (kn_hash (S := S) (a := nameL 5) (by rw [e]) h5).2
  rw [e] at this
  have this : kn S (72 :: nameL 5) = true := this
  rw [r, this]; rfl
theorem names_count {S : List UInt8 → Bool} {ks : List (List UInt8)} (hL : Least (namesH 1024) S) (hd : ks.Pairwise (fun a b => a ≠ b)) (hm : ∀ t, t ∈ ks ↔ S t = true) : ks.length = 1024 := by
  have e := least_one hL (names_least (n := 1024) (by omega))
  subst e
  have hn : ((List.range 1024).map nameL).Pairwise (fun a b => a ≠ b) := by
    rw [List.pairwise_map]
    refine List.Pairwise.imp_of_mem (fun {a b} ha hb hab h => hab (nameP_inj (by have := List.mem_range.1 ha; omega) (by have := List.mem_range.1 hb; omega) h)) (List.nodup_range (n := 1024))
  have := (perm_of_mem hd hn (fun x => (hm x).trans (by unfold namesH; rw [decide_eq_true_eq]))).length_eq
  simpa using this
theorem names_lit : ([72, 110, 53, 59] : List UInt8) = 72 :: nameL 5 ∧ ([110, 53, 59] : List UInt8) = nameL 5 ∧ ([110, 50, 48, 48, 48, 59] : List UInt8) = nameL 2000 := by decide +kernel
/-- Lists, laid one behind the other. -/
def bW : World → List (List (List UInt8)) → World
  | w, [] => w
  | w, l :: r => bW (w.alloc (.cells (l.map fun y => Value.string (bs y)).toArray 28)) r
theorem bW_gl : ∀ (L : List (List (List UInt8))) (w0 w : World), GL [] w0 w → GL [] w0 (bW w L)
  | [], _, _, h => h
  | _ :: r, w0, _, h => bW_gl r w0 _ (gl_alloc h _)
theorem bW_size : ∀ (L : List (List (List UInt8))) (w : World), (bW w L).heap.size = w.heap.size + L.length
  | [], w => rfl
  | l :: r, w => by rw [bW, bW_size r]; simp; omega
theorem bW_at : ∀ (L : List (List (List UInt8))) (w : World) (i : Nat) (l : List (List UInt8)), L[i]? = some l → ∀ (k : Nat) (t : List UInt8), l[k]? = some t → (bW w L).cell? ⟨w.heap.size + i, k, none⟩ = some (.string (bs t))
  | [], _, _, _, h, _, _, _ => by simp at h
  | l :: r, w, 0, m, h, k, t, hk => by
    simp only [List.getElem?_cons_zero, Option.some.injEq] at h
    subst h
    have hb := blk_new w (.cells (l.map fun y => Value.string (bs y)).toArray 28)
    have hc := blk_cell hb k
    rw [List.getElem?_toArray, List.getElem?_map, hk] at hc
    exact cell_glx hc (bW_gl r _ _ (gl_refl _ _)) (by simp)
  | l :: r, w, i + 1, m, h, k, t, hk => by
    have := bW_at r (w.alloc (.cells (l.map fun y => Value.string (bs y)).toArray 28)) i m (by simpa using h) k t hk
    rw [show (w.alloc (.cells (l.map fun y => Value.string (bs y)).toArray 28)).heap.size + i = w.heap.size + (i + 1) by simp; omega] at this
    exact this
def dkAsk : List (List UInt8) := [[110, 49, 59], [110, 50, 59], [110, 51, 59], [116, 49, 58, 97], [72, 116, 49, 58, 97], [84, 48, 58], [80, 116, 49, 58, 97], [80, 110, 49, 59], [80, 110, 50, 59], [83, 110, 50, 59, 116, 48, 58], [84, 50, 58, 110, 49, 59, 110, 50, 59], [66, 110, 49, 59, 110, 50, 59], [88, 110, 49, 59, 110, 50, 59], [88, 110, 49, 59, 110, 49, 59], [87, 80, 110, 49, 59, 80, 110, 50, 59], [86, 110, 49, 59, 110, 50, 59], [75, 110, 49, 59, 116, 48, 58], [76, 80, 110, 49, 59, 116, 48, 58], [76, 80, 110, 49, 59, 110, 50, 59], [68, 110, 49, 59, 110, 50, 59], [80, 68, 110, 49, 59, 110, 50, 59], [87, 87, 80, 110, 49, 59, 80, 110, 50, 59, 80, 110, 51, 59], [80, 72, 110, 49, 59], [], [110], [88, 86, 110, 49, 59, 110, 50, 59, 110, 51, 59], [88, 110, 51, 59, 116, 48, 58]]
def dkL : List (List (List UInt8)) := [dkAsk, [[110, 49, 59], [66, 110, 49, 59, 110, 50, 59]], [[66, 110, 49, 59, 110, 50, 59], [80, 110, 49, 59]], [[110, 49, 59], [80, 110, 50, 59]], [[66, 110, 49, 59, 110, 50, 59], [66, 110, 50, 59, 110, 49, 59], [66, 72, 116, 48, 58, 110, 50, 59]], [[86, 110, 49, 59, 110, 50, 59]], [[86, 110, 49, 59, 110, 50, 59], [80, 110, 51, 59]], [[110, 50, 59], [80, 110, 49, 59]], [[84, 50, 58, 110, 49, 59, 84, 49, 58, 110, 50, 59]], [[66, 84, 49, 58, 110, 49, 59, 110, 50, 59], [110, 49, 59]], [[66, 72, 110, 49, 59, 110, 50, 59], [72, 110, 49, 59]], [[75, 110, 49, 59, 116, 48, 58]], [[80, 110, 49, 59], [80, 110, 50, 59], [80, 110, 51, 59]], [[83, 110, 49, 59, 110, 50, 59]], [[68, 110, 49, 59, 110, 50, 59]], [[88, 110, 49, 59, 110, 50, 59]], [[66, 88, 110, 49, 59, 110, 50, 59, 110, 51, 59], [110, 49, 59], [80, 110, 50, 59]], [[110, 51, 59], [87, 80, 110, 49, 59, 80, 110, 50, 59]], [[110, 49, 59], [110, 50, 59], [110, 51, 59]], [[66, 116, 48, 58, 110, 49, 59], [110]], [[76, 80, 110, 49, 59, 110, 50, 59]]]
theorem dk_short : ∀ l ∈ dkL, l.length ≤ 27 ∧ ∀ t ∈ l, t.length ≤ 100 := by decide +kernel
theorem dk_len : dkL.length = 21 := rfl
def dkW (w : World) : World := (bW w dkL).alloc (.cells #[.slice none 0 0, .slice (some ⟨w.heap.size + 1, 0, none⟩) 2 2, .slice (some ⟨w.heap.size + 2, 0, none⟩) 2 2, .slice (some ⟨w.heap.size + 3, 0, none⟩) 2 2, .slice (some ⟨w.heap.size + 4, 0, none⟩) 3 3, .slice (some ⟨w.heap.size + 5, 0, none⟩) 1 1, .slice (some ⟨w.heap.size + 6, 0, none⟩) 2 2, .slice (some ⟨w.heap.size + 7, 0, none⟩) 2 2, .slice (some ⟨w.heap.size + 8, 0, none⟩) 1 1, .slice (some ⟨w.heap.size + 9, 0, none⟩) 2 2, .slice (some ⟨w.heap.size + 10, 0, none⟩) 2 2, .slice (some ⟨w.heap.size + 11, 0, none⟩) 1 1, .slice (some ⟨w.heap.size + 12, 0, none⟩) 3 3, .slice (some ⟨w.heap.size + 13, 0, none⟩) 1 1, .slice (some ⟨w.heap.size + 14, 0, none⟩) 1 1, .slice (some ⟨w.heap.size + 15, 0, none⟩) 1 1, .slice (some ⟨w.heap.size + 16, 0, none⟩) 3 3, .slice (some ⟨w.heap.size + 17, 0, none⟩) 2 2, .slice (some ⟨w.heap.size + 18, 0, none⟩) 3 3, .slice (some ⟨w.heap.size + 19, 0, none⟩) 2 2, .slice (some ⟨w.heap.size + 20, 0, none⟩) 1 1] 22)
theorem dk_gl (w : World) : GL [] w (dkW w) := gl_alloc (bW_gl _ _ _ (gl_refl _ _)) _
theorem dk_at (w : World) (i : Nat) (l : List (List UInt8)) (h : dkL[i]? = some l) (W : World) (hW : GL [] (dkW w) W) : ∀ (k : Nat) (t : List UInt8), l[k]? = some t → W.cell? ⟨w.heap.size + i, k, none⟩ = some (.string (bs t)) := fun k t hk =>
  cell_glx (cell_glx (bW_at dkL w i l h k t hk) (gl_alloc (gl_refl [] _) _) (by simp)) hW (by simp)
theorem dk_lt (w : World) : w.heap.size + 21 < (dkW w).heap.size := by unfold dkW; rw [World.size_alloc, bW_size, dk_len]; omega
theorem dk_terms (w : World) (i : Nat) (l : List (List UInt8)) (h : dkL[i]? = some l) (W : World) (hW : GL [] (dkW w) W) (n : Nat) (hn : n = l.length) : TermsAt (.slice (some ⟨w.heap.size + i, 0, none⟩) n n) l W := by
  subst hn
  have hi : i < 21 := (List.getElem?_eq_some_iff.1 h).1
  exact .inr ⟨w.heap.size + i, 0, l.length, rfl, by have := hW.size; have := dk_lt w; omega, fun k t hk => by rw [Nat.zero_add]; exact dk_at w i l h W hW k t hk⟩
theorem dk_outer (w : World) : ∀ i, i < 21 → ∃ (ad : Option Addr) (c : Nat) (ts : List (List UInt8)), (dkW w).cell? ⟨w.heap.size + 21, i, none⟩ = some (.slice ad ts.length c) ∧ (∀ W, GL [] (dkW w) W → TermsAt (.slice ad ts.length c) ts W) ∧ ts.length ≤ 27 ∧ ∀ t ∈ ts, t.length ≤ 100 := by
  intro i hi
  have hb := blk_new (bW w dkL) (.cells #[.slice none 0 0, .slice (some ⟨w.heap.size + 1, 0, none⟩) 2 2, .slice (some ⟨w.heap.size + 2, 0, none⟩) 2 2, .slice (some ⟨w.heap.size + 3, 0, none⟩) 2 2, .slice (some ⟨w.heap.size + 4, 0, none⟩) 3 3, .slice (some ⟨w.heap.size + 5, 0, none⟩) 1 1, .slice (some ⟨w.heap.size + 6, 0, none⟩) 2 2, .slice (some ⟨w.heap.size + 7, 0, none⟩) 2 2, .slice (some ⟨w.heap.size + 8, 0, none⟩) 1 1, .slice (some ⟨w.heap.size + 9, 0, none⟩) 2 2, .slice (some ⟨w.heap.size + 10, 0, none⟩) 2 2, .slice (some ⟨w.heap.size + 11, 0, none⟩) 1 1, .slice (some ⟨w.heap.size + 12, 0, none⟩) 3 3, .slice (some ⟨w.heap.size + 13, 0, none⟩) 1 1, .slice (some ⟨w.heap.size + 14, 0, none⟩) 1 1, .slice (some ⟨w.heap.size + 15, 0, none⟩) 1 1, .slice (some ⟨w.heap.size + 16, 0, none⟩) 3 3, .slice (some ⟨w.heap.size + 17, 0, none⟩) 2 2, .slice (some ⟨w.heap.size + 18, 0, none⟩) 3 3, .slice (some ⟨w.heap.size + 19, 0, none⟩) 2 2, .slice (some ⟨w.heap.size + 20, 0, none⟩) 1 1] 22)
  rw [bW_size, dk_len] at hb
  have hc := blk_cell hb i
  have hcs : i = 0 ∨ i = 1 ∨ i = 2 ∨ i = 3 ∨ i = 4 ∨ i = 5 ∨ i = 6 ∨ i = 7 ∨ i = 8 ∨ i = 9 ∨ i = 10 ∨ i = 11 ∨ i = 12 ∨ i = 13 ∨ i = 14 ∨ i = 15 ∨ i = 16 ∨ i = 17 ∨ i = 18 ∨ i = 19 ∨ i = 20 := by omega
  rcases hcs with rfl | rfl | rfl | rfl | rfl | rfl | rfl | rfl | rfl | rfl | rfl | rfl | rfl | rfl | rfl | rfl | rfl | rfl | rfl | rfl | rfl
  · exact ⟨none, 0, [], hc, fun W _ => .inl ⟨none, 0, rfl, rfl⟩, by simp, by simp⟩
  · exact ⟨_, 2, [[110, 49, 59], [66, 110, 49, 59, 110, 50, 59]], hc, fun W hW => dk_terms w 1 [[110, 49, 59], [66, 110, 49, 59, 110, 50, 59]] rfl W hW 2 rfl, by decide, by decide⟩
  · exact ⟨_, 2, [[66, 110, 49, 59, 110, 50, 59], [80, 110, 49, 59]], hc, fun W hW => dk_terms w 2 [[66, 110, 49, 59, 110, 50, 59], [80, 110, 49, 59]] rfl W hW 2 rfl, by decide, by decide⟩
  · exact ⟨_, 2, [[110, 49, 59], [80, 110, 50, 59]], hc, fun W hW => dk_terms w 3 [[110, 49, 59], [80, 110, 50, 59]] rfl W hW 2 rfl, by decide, by decide⟩
  · exact ⟨_, 3, [[66, 110, 49, 59, 110, 50, 59], [66, 110, 50, 59, 110, 49, 59], [66, 72, 116, 48, 58, 110, 50, 59]], hc, fun W hW => dk_terms w 4 [[66, 110, 49, 59, 110, 50, 59], [66, 110, 50, 59, 110, 49, 59], [66, 72, 116, 48, 58, 110, 50, 59]] rfl W hW 3 rfl, by decide, by decide⟩
  · exact ⟨_, 1, [[86, 110, 49, 59, 110, 50, 59]], hc, fun W hW => dk_terms w 5 [[86, 110, 49, 59, 110, 50, 59]] rfl W hW 1 rfl, by decide, by decide⟩
  · exact ⟨_, 2, [[86, 110, 49, 59, 110, 50, 59], [80, 110, 51, 59]], hc, fun W hW => dk_terms w 6 [[86, 110, 49, 59, 110, 50, 59], [80, 110, 51, 59]] rfl W hW 2 rfl, by decide, by decide⟩
  · exact ⟨_, 2, [[110, 50, 59], [80, 110, 49, 59]], hc, fun W hW => dk_terms w 7 [[110, 50, 59], [80, 110, 49, 59]] rfl W hW 2 rfl, by decide, by decide⟩
  · exact ⟨_, 1, [[84, 50, 58, 110, 49, 59, 84, 49, 58, 110, 50, 59]], hc, fun W hW => dk_terms w 8 [[84, 50, 58, 110, 49, 59, 84, 49, 58, 110, 50, 59]] rfl W hW 1 rfl, by decide, by decide⟩
  · exact ⟨_, 2, [[66, 84, 49, 58, 110, 49, 59, 110, 50, 59], [110, 49, 59]], hc, fun W hW => dk_terms w 9 [[66, 84, 49, 58, 110, 49, 59, 110, 50, 59], [110, 49, 59]] rfl W hW 2 rfl, by decide, by decide⟩
  · exact ⟨_, 2, [[66, 72, 110, 49, 59, 110, 50, 59], [72, 110, 49, 59]], hc, fun W hW => dk_terms w 10 [[66, 72, 110, 49, 59, 110, 50, 59], [72, 110, 49, 59]] rfl W hW 2 rfl, by decide, by decide⟩
  · exact ⟨_, 1, [[75, 110, 49, 59, 116, 48, 58]], hc, fun W hW => dk_terms w 11 [[75, 110, 49, 59, 116, 48, 58]] rfl W hW 1 rfl, by decide, by decide⟩
  · exact ⟨_, 3, [[80, 110, 49, 59], [80, 110, 50, 59], [80, 110, 51, 59]], hc, fun W hW => dk_terms w 12 [[80, 110, 49, 59], [80, 110, 50, 59], [80, 110, 51, 59]] rfl W hW 3 rfl, by decide, by decide⟩
  · exact ⟨_, 1, [[83, 110, 49, 59, 110, 50, 59]], hc, fun W hW => dk_terms w 13 [[83, 110, 49, 59, 110, 50, 59]] rfl W hW 1 rfl, by decide, by decide⟩
  · exact ⟨_, 1, [[68, 110, 49, 59, 110, 50, 59]], hc, fun W hW => dk_terms w 14 [[68, 110, 49, 59, 110, 50, 59]] rfl W hW 1 rfl, by decide, by decide⟩
  · exact ⟨_, 1, [[88, 110, 49, 59, 110, 50, 59]], hc, fun W hW => dk_terms w 15 [[88, 110, 49, 59, 110, 50, 59]] rfl W hW 1 rfl, by decide, by decide⟩
  · exact ⟨_, 3, [[66, 88, 110, 49, 59, 110, 50, 59, 110, 51, 59], [110, 49, 59], [80, 110, 50, 59]], hc, fun W hW => dk_terms w 16 [[66, 88, 110, 49, 59, 110, 50, 59, 110, 51, 59], [110, 49, 59], [80, 110, 50, 59]] rfl W hW 3 rfl, by decide, by decide⟩
  · exact ⟨_, 2, [[110, 51, 59], [87, 80, 110, 49, 59, 80, 110, 50, 59]], hc, fun W hW => dk_terms w 17 [[110, 51, 59], [87, 80, 110, 49, 59, 80, 110, 50, 59]] rfl W hW 2 rfl, by decide, by decide⟩
  · exact ⟨_, 3, [[110, 49, 59], [110, 50, 59], [110, 51, 59]], hc, fun W hW => dk_terms w 18 [[110, 49, 59], [110, 50, 59], [110, 51, 59]] rfl W hW 3 rfl, by decide, by decide⟩
  · exact ⟨_, 2, [[66, 116, 48, 58, 110, 49, 59], [110]], hc, fun W hW => dk_terms w 19 [[66, 116, 48, 58, 110, 49, 59], [110]] rfl W hW 2 rfl, by decide, by decide⟩
  · exact ⟨_, 1, [[76, 80, 110, 49, 59, 110, 50, 59]], hc, fun W hW => dk_terms w 20 [[76, 80, 110, 49, 59, 110, 50, 59]] rfl W hW 1 rfl, by decide, by decide⟩
theorem dk_sub (w : World) (o n c : Nat) (hn : n = ((dkAsk.drop o).take n).length) (W : World) (hW : GL [] (dkW w) W) : TermsAt (.slice (some ⟨w.heap.size, o, none⟩) n c) ((dkAsk.drop o).take n) W := by
  have h : TermsAt (.slice (some ⟨w.heap.size, o, none⟩) ((dkAsk.drop o).take n).length c) ((dkAsk.drop o).take n) W := by
    refine .inr ⟨w.heap.size, o, c, rfl, by have := hW.size; have := dk_lt w; omega, fun k t hk => ?_⟩
    rw [List.getElem?_take] at hk
    split at hk
    · rw [List.getElem?_drop] at hk
      exact dk_at w 0 dkAsk rfl W hW (o + k) t hk
    · cases hk
  rw [← hn] at h
  exact h
theorem dk_asks (o n : Nat) : ∀ t ∈ (dkAsk.drop o).take n, t.length ≤ 9000000000000000000 := fun t ht => by
  have h := (dk_short dkAsk (by simp [dkL])).2 t (List.mem_of_mem_drop (List.mem_of_mem_take ht))
  omega
theorem names_zero : namesH 0 = fun _ => false := by funext t; simp [namesH]
set_option maxRecDepth 100000 in
theorem kPick53 (w : World) : Calls Tryz.prog 27 #[.int .i64 5, .int .i64 3] w fun e w' => e = .returned (.int .i64 2) ∧ w' = w := by
  go_enter Tryz.func27, Tryz.ntmps27
  go_wp2_with fail
  go_ret
  exact ⟨rfl, rfl⟩
def z5DS : List (Option Nat) := [some 35, some 36, some 37, some 38, some 39, some 40, some 41, some 42, some 43, some 44, some 45, some 46, some 47, some 48, some 49, some 50, some 51, some 52, some 53, some 54, some 55, some 56, some 57, some 58, some 59, some 60, some 61, some 62, some 63, some 64, some 65, some 66, some 67]
def z5GS (A n c : Nat) (ad : Option Addr) : List (Option Value) := [some (.slice ad n c), some (.slice (some ⟨A, 0, none⟩) 27 27), some (.bool true), some (.bool false), some (.bool false), some (.slice ad n c), some (.slice (some ⟨A, 0, none⟩) 27 27), some (.slice (some ⟨A, 0, none⟩) 5 27), some (.slice (some ⟨A, 0, none⟩) 27 27), some (.bool true), some (.bool false), some (.bool false), some (.bool false), some (.slice ad n c), some (.slice (some ⟨A, 0, none⟩) 27 27), some (.slice (some ⟨A, 0, none⟩) 1 27), some (.slice (some ⟨A, 0, none⟩) 27 27), some (.slice (some ⟨A, 1, none⟩) 1 26), some (.slice (some ⟨A, 0, none⟩) 27 27), some (.bool true), some (.bool false), some (.bool false), some (.bool false), some (.slice ad n c), some (.slice (some ⟨A, 0, none⟩) 27 27), some (.bool true), some (.bool false), some (.bool false), some (.bool false), some (.slice ad n c), some (.bool true), some (.bool false), some (.bool false)]
section
variable {ops : Array Oper} {Q : Exit → Act → World → Prop} {a0 : Act} {I : World → Prop} {af : Array Edge} {ty : Nat} {pos : String} {at_ : Array TypeId} {A n c : Nat} {ad : Option Addr}
set_option maxRecDepth 100000 in
set_option maxHeartbeats 1000000 in
theorem z535 (o3 : a0.tmps[3]? = some (.slice ad n c)) : StepI Tryz.prog ops Q a0 z5DS I (GV (z5GS A n c ad)) 0 { dst := some 35, op := .move (.tmp 3), type := ty, pos := pos, after := af, guard := none } := by
  intro a w hout hI hdep K hK
  rw [if_pos (by simp [Region.wanted])]
  have o3w := (hout 3 (by decide)).trans o3
  clear hout hdep
  clear o3
  go_simp
  exact hK _ _ (gv_of rfl (by first | rfl | (simp; done))) hI
set_option maxRecDepth 100000 in
set_option maxHeartbeats 1000000 in
theorem z536 (o1 : a0.tmps[1]? = some (.slice (some ⟨A, 0, none⟩) 27 27)) : StepI Tryz.prog ops Q a0 z5DS I (GV (z5GS A n c ad)) 1 { dst := some 36, op := .move (.tmp 1), type := ty, pos := pos, after := af, guard := none } := by
  intro a w hout hI hdep K hK
  rw [if_pos (by simp [Region.wanted])]
  have o1w := (hout 1 (by decide)).trans o1
  clear hout hdep
  clear o1
  go_simp
  exact hK _ _ (gv_of rfl (by first | rfl | (simp; done))) hI
set_option maxRecDepth 100000 in
set_option maxHeartbeats 1000000 in
theorem z537 (h35 : (⟨0, .data⟩ : Edge) ∈ af.toList) (h36 : (⟨1, .data⟩ : Edge) ∈ af.toList) (hC : ∀ w, I w → Calls Tryz.prog 3 #[.slice ad n c, .slice (some ⟨A, 0, none⟩) 27 27] w fun e w' => e = .returned (.bool true) ∧ I w') : StepI Tryz.prog ops Q a0 z5DS I (GV (z5GS A n c ad)) 2 { dst := some 37, op := .call { callee := .value (.func 3), args := #[.tmp 35, .tmp 36], argTypes := at_ }, type := ty, pos := pos, after := af, guard := none } := by
  intro a w hout hI hdep K hK
  rw [if_pos (by simp [Region.wanted])]
  obtain ⟨v35, g35, e35⟩ := hdep ⟨0, .data⟩ h35 rfl
  have e35 := e35 35 rfl
  have g35 := g35 _ rfl
  subst g35
  obtain ⟨v36, g36, e36⟩ := hdep ⟨1, .data⟩ h36 rfl
  have e36 := e36 36 rfl
  have g36 := g36 _ rfl
  subst g36
  clear hout hdep
  go_simp
  refine (hC w hI).mono ?_
  rintro e w1 ⟨rfl, hI1⟩
  exact hK _ _ (gv_of rfl rfl) hI1
set_option maxRecDepth 100000 in
set_option maxHeartbeats 1000000 in
theorem z538 (h37 : (⟨2, .data⟩ : Edge) ∈ af.toList) : StepI Tryz.prog ops Q a0 z5DS I (GV (z5GS A n c ad)) 3 { dst := some 38, op := .unOp .not 4 (.tmp 37), type := ty, pos := pos, after := af, guard := none } := by
  intro a w hout hI hdep K hK
  rw [if_pos (by simp [Region.wanted])]
  obtain ⟨v37, g37, e37⟩ := hdep ⟨2, .data⟩ h37 rfl
  have e37 := e37 37 rfl
  have g37 := g37 _ rfl
  subst g37
  clear hout hdep
  go_simp
  exact hK _ _ (gv_of rfl (by first | rfl | (simp; done))) hI
set_option maxRecDepth 100000 in
set_option maxHeartbeats 1000000 in
theorem z539 (h38 : (⟨3, .data⟩ : Edge) ∈ af.toList) : StepI Tryz.prog ops Q a0 z5DS I (GV (z5GS A n c ad)) 4 { dst := some 39, op := .move (.tmp 38), type := ty, pos := pos, after := af, guard := none } := by
  intro a w hout hI hdep K hK
  rw [if_pos (by simp [Region.wanted])]
  obtain ⟨v38, g38, e38⟩ := hdep ⟨3, .data⟩ h38 rfl
  have e38 := e38 38 rfl
  have g38 := g38 _ rfl
  subst g38
  clear hout hdep
  go_simp
  exact hK _ _ (gv_of rfl (by first | rfl | (simp; done))) hI
set_option maxRecDepth 100000 in
set_option maxHeartbeats 1000000 in
theorem z540 (hg : (⟨4, .guard⟩ : Edge) ∈ af.toList) (hgo : ops[4]?.bind (·.dst) = some 39) (o3 : a0.tmps[3]? = some (.slice ad n c)) : StepI Tryz.prog ops Q a0 z5DS I (GV (z5GS A n c ad)) 5 { dst := some 40, op := .move (.tmp 3), type := ty, pos := pos, after := af, guard := some (4, false) } := by
  intro a w hout hI hdep K hK
  obtain ⟨vg, gg, eg⟩ := hdep ⟨4, .guard⟩ hg rfl
  have eg := eg 39 rfl
  have gg := gg _ rfl
  subst gg
  have hy := yielded_is hgo eg
  rw [if_pos (by simp [Region.wanted, hy])]
  have o3w := (hout 3 (by decide)).trans o3
  clear hout hdep hy
  clear o3
  go_simp
  exact hK _ _ (gv_of rfl (by first | rfl | (simp; done))) hI
set_option maxRecDepth 100000 in
set_option maxHeartbeats 1000000 in
theorem z541 (hg : (⟨4, .guard⟩ : Edge) ∈ af.toList) (hgo : ops[4]?.bind (·.dst) = some 39) (o1 : a0.tmps[1]? = some (.slice (some ⟨A, 0, none⟩) 27 27)) : StepI Tryz.prog ops Q a0 z5DS I (GV (z5GS A n c ad)) 6 { dst := some 41, op := .move (.tmp 1), type := ty, pos := pos, after := af, guard := some (4, false) } := by
  intro a w hout hI hdep K hK
  obtain ⟨vg, gg, eg⟩ := hdep ⟨4, .guard⟩ hg rfl
  have eg := eg 39 rfl
  have gg := gg _ rfl
  subst gg
  have hy := yielded_is hgo eg
  rw [if_pos (by simp [Region.wanted, hy])]
  have o1w := (hout 1 (by decide)).trans o1
  clear hout hdep hy
  clear o1
  go_simp
  exact hK _ _ (gv_of rfl (by first | rfl | (simp; done))) hI
set_option maxRecDepth 100000 in
set_option maxHeartbeats 1000000 in
theorem z542 (hg : (⟨4, .guard⟩ : Edge) ∈ af.toList) (hgo : ops[4]?.bind (·.dst) = some 39) (h41 : (⟨6, .data⟩ : Edge) ∈ af.toList) : StepI Tryz.prog ops Q a0 z5DS I (GV (z5GS A n c ad)) 7 { dst := some 42, op := .slice 22 (.tmp 41) none (some (.const (.int .i64 5))) none, type := ty, pos := pos, after := af, guard := some (4, false) } := by
  intro a w hout hI hdep K hK
  obtain ⟨vg, gg, eg⟩ := hdep ⟨4, .guard⟩ hg rfl
  have eg := eg 39 rfl
  have gg := gg _ rfl
  subst gg
  have hy := yielded_is hgo eg
  rw [if_pos (by simp [Region.wanted, hy])]
  obtain ⟨v41, g41, e41⟩ := hdep ⟨6, .data⟩ h41 rfl
  have e41 := e41 41 rfl
  have g41 := g41 _ rfl
  subst g41
  clear hout hdep hy
  go_simp
  exact hK _ _ (gv_of rfl (by first | rfl | (simp; done))) hI
set_option maxRecDepth 100000 in
set_option maxHeartbeats 1000000 in
theorem z543 (hg : (⟨4, .guard⟩ : Edge) ∈ af.toList) (hgo : ops[4]?.bind (·.dst) = some 39) (o1 : a0.tmps[1]? = some (.slice (some ⟨A, 0, none⟩) 27 27)) : StepI Tryz.prog ops Q a0 z5DS I (GV (z5GS A n c ad)) 8 { dst := some 43, op := .move (.tmp 1), type := ty, pos := pos, after := af, guard := some (4, false) } := by
  intro a w hout hI hdep K hK
  obtain ⟨vg, gg, eg⟩ := hdep ⟨4, .guard⟩ hg rfl
  have eg := eg 39 rfl
  have gg := gg _ rfl
  subst gg
  have hy := yielded_is hgo eg
  rw [if_pos (by simp [Region.wanted, hy])]
  have o1w := (hout 1 (by decide)).trans o1
  clear hout hdep hy
  clear o1
  go_simp
  exact hK _ _ (gv_of rfl (by first | rfl | (simp; done))) hI
set_option maxRecDepth 100000 in
set_option maxHeartbeats 1000000 in
theorem z544 (hg : (⟨4, .guard⟩ : Edge) ∈ af.toList) (hgo : ops[4]?.bind (·.dst) = some 39) (h40 : (⟨5, .data⟩ : Edge) ∈ af.toList) (h42 : (⟨7, .data⟩ : Edge) ∈ af.toList) (h43 : (⟨8, .data⟩ : Edge) ∈ af.toList) (hC : ∀ w, I w → Calls Tryz.prog 8 #[.slice ad n c, .slice (some ⟨A, 0, none⟩) 5 27, .slice (some ⟨A, 0, none⟩) 27 27] w fun e w' => e = .returned (.bool true) ∧ I w') : StepI Tryz.prog ops Q a0 z5DS I (GV (z5GS A n c ad)) 9 { dst := some 44, op := .call { callee := .value (.func 8), args := #[.tmp 40, .tmp 42, .tmp 43], argTypes := at_ }, type := ty, pos := pos, after := af, guard := some (4, false) } := by
  intro a w hout hI hdep K hK
  obtain ⟨vg, gg, eg⟩ := hdep ⟨4, .guard⟩ hg rfl
  have eg := eg 39 rfl
  have gg := gg _ rfl
  subst gg
  have hy := yielded_is hgo eg
  rw [if_pos (by simp [Region.wanted, hy])]
  obtain ⟨v40, g40, e40⟩ := hdep ⟨5, .data⟩ h40 rfl
  have e40 := e40 40 rfl
  have g40 := g40 _ rfl
  subst g40
  obtain ⟨v42, g42, e42⟩ := hdep ⟨7, .data⟩ h42 rfl
  have e42 := e42 42 rfl
  have g42 := g42 _ rfl
  subst g42
  obtain ⟨v43, g43, e43⟩ := hdep ⟨8, .data⟩ h43 rfl
  have e43 := e43 43 rfl
  have g43 := g43 _ rfl
  subst g43
  clear hout hdep hy
  go_simp
  refine (hC w hI).mono ?_
  rintro e w1 ⟨rfl, hI1⟩
  exact hK _ _ (gv_of rfl rfl) hI1
set_option maxRecDepth 100000 in
set_option maxHeartbeats 1000000 in
theorem z545 (hg : (⟨4, .guard⟩ : Edge) ∈ af.toList) (hgo : ops[4]?.bind (·.dst) = some 39) (h44 : (⟨9, .data⟩ : Edge) ∈ af.toList) : StepI Tryz.prog ops Q a0 z5DS I (GV (z5GS A n c ad)) 10 { dst := some 45, op := .unOp .not 4 (.tmp 44), type := ty, pos := pos, after := af, guard := some (4, false) } := by
  intro a w hout hI hdep K hK
  obtain ⟨vg, gg, eg⟩ := hdep ⟨4, .guard⟩ hg rfl
  have eg := eg 39 rfl
  have gg := gg _ rfl
  subst gg
  have hy := yielded_is hgo eg
  rw [if_pos (by simp [Region.wanted, hy])]
  obtain ⟨v44, g44, e44⟩ := hdep ⟨9, .data⟩ h44 rfl
  have e44 := e44 44 rfl
  have g44 := g44 _ rfl
  subst g44
  clear hout hdep hy
  go_simp
  exact hK _ _ (gv_of rfl (by first | rfl | (simp; done))) hI
set_option maxRecDepth 100000 in
set_option maxHeartbeats 1000000 in
theorem z546 (h39 : (⟨4, .data⟩ : Edge) ∈ af.toList) (h45 : (⟨10, .data⟩ : Edge) ∈ af.toList) : StepI Tryz.prog ops Q a0 z5DS I (GV (z5GS A n c ad)) 11 { dst := some 46, op := .pick (.tmp 39) (.const (.bool true)) (.tmp 45), type := ty, pos := pos, after := af, guard := none } := by
  intro a w hout hI hdep K hK
  rw [if_pos (by simp [Region.wanted])]
  obtain ⟨v39, g39, e39⟩ := hdep ⟨4, .data⟩ h39 rfl
  have e39 := e39 39 rfl
  have g39 := g39 _ rfl
  subst g39
  obtain ⟨v45, g45, e45⟩ := hdep ⟨10, .data⟩ h45 rfl
  have e45 := e45 45 rfl
  have g45 := g45 _ rfl
  subst g45
  clear hout hdep
  go_simp
  exact hK _ _ (gv_of rfl (by first | rfl | (simp; done))) hI
set_option maxRecDepth 100000 in
set_option maxHeartbeats 1000000 in
theorem z547 (h46 : (⟨11, .data⟩ : Edge) ∈ af.toList) : StepI Tryz.prog ops Q a0 z5DS I (GV (z5GS A n c ad)) 12 { dst := some 47, op := .move (.tmp 46), type := ty, pos := pos, after := af, guard := none } := by
  intro a w hout hI hdep K hK
  rw [if_pos (by simp [Region.wanted])]
  obtain ⟨v46, g46, e46⟩ := hdep ⟨11, .data⟩ h46 rfl
  have e46 := e46 46 rfl
  have g46 := g46 _ rfl
  subst g46
  clear hout hdep
  go_simp
  exact hK _ _ (gv_of rfl (by first | rfl | (simp; done))) hI
set_option maxRecDepth 100000 in
set_option maxHeartbeats 1000000 in
theorem z548 (hg : (⟨12, .guard⟩ : Edge) ∈ af.toList) (hgo : ops[12]?.bind (·.dst) = some 47) (o3 : a0.tmps[3]? = some (.slice ad n c)) : StepI Tryz.prog ops Q a0 z5DS I (GV (z5GS A n c ad)) 13 { dst := some 48, op := .move (.tmp 3), type := ty, pos := pos, after := af, guard := some (12, false) } := by
  intro a w hout hI hdep K hK
  obtain ⟨vg, gg, eg⟩ := hdep ⟨12, .guard⟩ hg rfl
  have eg := eg 47 rfl
  have gg := gg _ rfl
  subst gg
  have hy := yielded_is hgo eg
  rw [if_pos (by simp [Region.wanted, hy])]
  have o3w := (hout 3 (by decide)).trans o3
  clear hout hdep hy
  clear o3
  go_simp
  exact hK _ _ (gv_of rfl (by first | rfl | (simp; done))) hI
set_option maxRecDepth 100000 in
set_option maxHeartbeats 1000000 in
theorem z549 (hg : (⟨12, .guard⟩ : Edge) ∈ af.toList) (hgo : ops[12]?.bind (·.dst) = some 47) (o1 : a0.tmps[1]? = some (.slice (some ⟨A, 0, none⟩) 27 27)) : StepI Tryz.prog ops Q a0 z5DS I (GV (z5GS A n c ad)) 14 { dst := some 49, op := .move (.tmp 1), type := ty, pos := pos, after := af, guard := some (12, false) } := by
  intro a w hout hI hdep K hK
  obtain ⟨vg, gg, eg⟩ := hdep ⟨12, .guard⟩ hg rfl
  have eg := eg 47 rfl
  have gg := gg _ rfl
  subst gg
  have hy := yielded_is hgo eg
  rw [if_pos (by simp [Region.wanted, hy])]
  have o1w := (hout 1 (by decide)).trans o1
  clear hout hdep hy
  clear o1
  go_simp
  exact hK _ _ (gv_of rfl (by first | rfl | (simp; done))) hI
set_option maxRecDepth 100000 in
set_option maxHeartbeats 1000000 in
theorem z550 (hg : (⟨12, .guard⟩ : Edge) ∈ af.toList) (hgo : ops[12]?.bind (·.dst) = some 47) (h49 : (⟨14, .data⟩ : Edge) ∈ af.toList) : StepI Tryz.prog ops Q a0 z5DS I (GV (z5GS A n c ad)) 15 { dst := some 50, op := .slice 22 (.tmp 49) none (some (.const (.int .i64 1))) none, type := ty, pos := pos, after := af, guard := some (12, false) } := by
  intro a w hout hI hdep K hK
  obtain ⟨vg, gg, eg⟩ := hdep ⟨12, .guard⟩ hg rfl
  have eg := eg 47 rfl
  have gg := gg _ rfl
  subst gg
  have hy := yielded_is hgo eg
  rw [if_pos (by simp [Region.wanted, hy])]
  obtain ⟨v49, g49, e49⟩ := hdep ⟨14, .data⟩ h49 rfl
  have e49 := e49 49 rfl
  have g49 := g49 _ rfl
  subst g49
  clear hout hdep hy
  go_simp
  exact hK _ _ (gv_of rfl (by first | rfl | (simp; done))) hI
set_option maxRecDepth 100000 in
set_option maxHeartbeats 1000000 in
theorem z551 (hg : (⟨12, .guard⟩ : Edge) ∈ af.toList) (hgo : ops[12]?.bind (·.dst) = some 47) (o1 : a0.tmps[1]? = some (.slice (some ⟨A, 0, none⟩) 27 27)) : StepI Tryz.prog ops Q a0 z5DS I (GV (z5GS A n c ad)) 16 { dst := some 51, op := .move (.tmp 1), type := ty, pos := pos, after := af, guard := some (12, false) } := by
  intro a w hout hI hdep K hK
  obtain ⟨vg, gg, eg⟩ := hdep ⟨12, .guard⟩ hg rfl
  have eg := eg 47 rfl
  have gg := gg _ rfl
  subst gg
  have hy := yielded_is hgo eg
  rw [if_pos (by simp [Region.wanted, hy])]
  have o1w := (hout 1 (by decide)).trans o1
  clear hout hdep hy
  clear o1
  go_simp
  exact hK _ _ (gv_of rfl (by first | rfl | (simp; done))) hI
set_option maxRecDepth 100000 in
set_option maxHeartbeats 1000000 in
theorem z552 (hg : (⟨12, .guard⟩ : Edge) ∈ af.toList) (hgo : ops[12]?.bind (·.dst) = some 47) (h51 : (⟨16, .data⟩ : Edge) ∈ af.toList) : StepI Tryz.prog ops Q a0 z5DS I (GV (z5GS A n c ad)) 17 { dst := some 52, op := .slice 22 (.tmp 51) (some (.const (.int .i64 1))) (some (.const (.int .i64 2))) none, type := ty, pos := pos, after := af, guard := some (12, false) } := by
  intro a w hout hI hdep K hK
  obtain ⟨vg, gg, eg⟩ := hdep ⟨12, .guard⟩ hg rfl
  have eg := eg 47 rfl
  have gg := gg _ rfl
  subst gg
  have hy := yielded_is hgo eg
  rw [if_pos (by simp [Region.wanted, hy])]
  obtain ⟨v51, g51, e51⟩ := hdep ⟨16, .data⟩ h51 rfl
  have e51 := e51 51 rfl
  have g51 := g51 _ rfl
  subst g51
  clear hout hdep hy
  go_simp
  exact hK _ _ (gv_of rfl (by first | rfl | (simp; done))) hI
set_option maxRecDepth 100000 in
set_option maxHeartbeats 1000000 in
theorem z553 (hg : (⟨12, .guard⟩ : Edge) ∈ af.toList) (hgo : ops[12]?.bind (·.dst) = some 47) (o1 : a0.tmps[1]? = some (.slice (some ⟨A, 0, none⟩) 27 27)) : StepI Tryz.prog ops Q a0 z5DS I (GV (z5GS A n c ad)) 18 { dst := some 53, op := .move (.tmp 1), type := ty, pos := pos, after := af, guard := some (12, false) } := by
  intro a w hout hI hdep K hK
  obtain ⟨vg, gg, eg⟩ := hdep ⟨12, .guard⟩ hg rfl
  have eg := eg 47 rfl
  have gg := gg _ rfl
  subst gg
  have hy := yielded_is hgo eg
  rw [if_pos (by simp [Region.wanted, hy])]
  have o1w := (hout 1 (by decide)).trans o1
  clear hout hdep hy
  clear o1
  go_simp
  exact hK _ _ (gv_of rfl (by first | rfl | (simp; done))) hI
set_option maxRecDepth 100000 in
set_option maxHeartbeats 1000000 in
theorem z554 (hg : (⟨12, .guard⟩ : Edge) ∈ af.toList) (hgo : ops[12]?.bind (·.dst) = some 47) (h48 : (⟨13, .data⟩ : Edge) ∈ af.toList) (h50 : (⟨15, .data⟩ : Edge) ∈ af.toList) (h52 : (⟨17, .data⟩ : Edge) ∈ af.toList) (h53 : (⟨18, .data⟩ : Edge) ∈ af.toList) (hC : ∀ w, I w → Calls Tryz.prog 4 #[.slice ad n c, .slice (some ⟨A, 0, none⟩) 1 27, .slice (some ⟨A, 1, none⟩) 1 26, .slice (some ⟨A, 0, none⟩) 27 27] w fun e w' => e = .returned (.bool true) ∧ I w') : StepI Tryz.prog ops Q a0 z5DS I (GV (z5GS A n c ad)) 19 { dst := some 54, op := .call { callee := .value (.func 4), args := #[.tmp 48, .tmp 50, .tmp 52, .tmp 53], argTypes := at_ }, type := ty, pos := pos, after := af, guard := some (12, false) } := by
  intro a w hout hI hdep K hK
  obtain ⟨vg, gg, eg⟩ := hdep ⟨12, .guard⟩ hg rfl
  have eg := eg 47 rfl
  have gg := gg _ rfl
  subst gg
  have hy := yielded_is hgo eg
  rw [if_pos (by simp [Region.wanted, hy])]
  obtain ⟨v48, g48, e48⟩ := hdep ⟨13, .data⟩ h48 rfl
  have e48 := e48 48 rfl
  have g48 := g48 _ rfl
  subst g48
  obtain ⟨v50, g50, e50⟩ := hdep ⟨15, .data⟩ h50 rfl
  have e50 := e50 50 rfl
  have g50 := g50 _ rfl
  subst g50
  obtain ⟨v52, g52, e52⟩ := hdep ⟨17, .data⟩ h52 rfl
  have e52 := e52 52 rfl
  have g52 := g52 _ rfl
  subst g52
  obtain ⟨v53, g53, e53⟩ := hdep ⟨18, .data⟩ h53 rfl
  have e53 := e53 53 rfl
  have g53 := g53 _ rfl
  subst g53
  clear hout hdep hy
  go_simp
  refine (hC w hI).mono ?_
  rintro e w1 ⟨rfl, hI1⟩
  exact hK _ _ (gv_of rfl rfl) hI1
set_option maxRecDepth 100000 in
set_option maxHeartbeats 1000000 in
theorem z555 (hg : (⟨12, .guard⟩ : Edge) ∈ af.toList) (hgo : ops[12]?.bind (·.dst) = some 47) (h54 : (⟨19, .data⟩ : Edge) ∈ af.toList) : StepI Tryz.prog ops Q a0 z5DS I (GV (z5GS A n c ad)) 20 { dst := some 55, op := .unOp .not 4 (.tmp 54), type := ty, pos := pos, after := af, guard := some (12, false) } := by
  intro a w hout hI hdep K hK
  obtain ⟨vg, gg, eg⟩ := hdep ⟨12, .guard⟩ hg rfl
  have eg := eg 47 rfl
  have gg := gg _ rfl
  subst gg
  have hy := yielded_is hgo eg
  rw [if_pos (by simp [Region.wanted, hy])]
  obtain ⟨v54, g54, e54⟩ := hdep ⟨19, .data⟩ h54 rfl
  have e54 := e54 54 rfl
  have g54 := g54 _ rfl
  subst g54
  clear hout hdep hy
  go_simp
  exact hK _ _ (gv_of rfl (by first | rfl | (simp; done))) hI
set_option maxRecDepth 100000 in
set_option maxHeartbeats 1000000 in
theorem z556 (h47 : (⟨12, .data⟩ : Edge) ∈ af.toList) (h55 : (⟨20, .data⟩ : Edge) ∈ af.toList) : StepI Tryz.prog ops Q a0 z5DS I (GV (z5GS A n c ad)) 21 { dst := some 56, op := .pick (.tmp 47) (.const (.bool true)) (.tmp 55), type := ty, pos := pos, after := af, guard := none } := by
  intro a w hout hI hdep K hK
  rw [if_pos (by simp [Region.wanted])]
  obtain ⟨v47, g47, e47⟩ := hdep ⟨12, .data⟩ h47 rfl
  have e47 := e47 47 rfl
  have g47 := g47 _ rfl
  subst g47
  obtain ⟨v55, g55, e55⟩ := hdep ⟨20, .data⟩ h55 rfl
  have e55 := e55 55 rfl
  have g55 := g55 _ rfl
  subst g55
  clear hout hdep
  go_simp
  exact hK _ _ (gv_of rfl (by first | rfl | (simp; done))) hI
set_option maxRecDepth 100000 in
set_option maxHeartbeats 1000000 in
theorem z557 (h56 : (⟨21, .data⟩ : Edge) ∈ af.toList) : StepI Tryz.prog ops Q a0 z5DS I (GV (z5GS A n c ad)) 22 { dst := some 57, op := .move (.tmp 56), type := ty, pos := pos, after := af, guard := none } := by
  intro a w hout hI hdep K hK
  rw [if_pos (by simp [Region.wanted])]
  obtain ⟨v56, g56, e56⟩ := hdep ⟨21, .data⟩ h56 rfl
  have e56 := e56 56 rfl
  have g56 := g56 _ rfl
  subst g56
  clear hout hdep
  go_simp
  exact hK _ _ (gv_of rfl (by first | rfl | (simp; done))) hI
set_option maxRecDepth 100000 in
set_option maxHeartbeats 1000000 in
theorem z558 (hg : (⟨22, .guard⟩ : Edge) ∈ af.toList) (hgo : ops[22]?.bind (·.dst) = some 57) (o3 : a0.tmps[3]? = some (.slice ad n c)) : StepI Tryz.prog ops Q a0 z5DS I (GV (z5GS A n c ad)) 23 { dst := some 58, op := .move (.tmp 3), type := ty, pos := pos, after := af, guard := some (22, false) } := by
  intro a w hout hI hdep K hK
  obtain ⟨vg, gg, eg⟩ := hdep ⟨22, .guard⟩ hg rfl
  have eg := eg 57 rfl
  have gg := gg _ rfl
  subst gg
  have hy := yielded_is hgo eg
  rw [if_pos (by simp [Region.wanted, hy])]
  have o3w := (hout 3 (by decide)).trans o3
  clear hout hdep hy
  clear o3
  go_simp
  exact hK _ _ (gv_of rfl (by first | rfl | (simp; done))) hI
set_option maxRecDepth 100000 in
set_option maxHeartbeats 1000000 in
theorem z559 (hg : (⟨22, .guard⟩ : Edge) ∈ af.toList) (hgo : ops[22]?.bind (·.dst) = some 57) (o1 : a0.tmps[1]? = some (.slice (some ⟨A, 0, none⟩) 27 27)) : StepI Tryz.prog ops Q a0 z5DS I (GV (z5GS A n c ad)) 24 { dst := some 59, op := .move (.tmp 1), type := ty, pos := pos, after := af, guard := some (22, false) } := by
  intro a w hout hI hdep K hK
  obtain ⟨vg, gg, eg⟩ := hdep ⟨22, .guard⟩ hg rfl
  have eg := eg 57 rfl
  have gg := gg _ rfl
  subst gg
  have hy := yielded_is hgo eg
  rw [if_pos (by simp [Region.wanted, hy])]
  have o1w := (hout 1 (by decide)).trans o1
  clear hout hdep hy
  clear o1
  go_simp
  exact hK _ _ (gv_of rfl (by first | rfl | (simp; done))) hI
set_option maxRecDepth 100000 in
set_option maxHeartbeats 1000000 in
theorem z560 (hg : (⟨22, .guard⟩ : Edge) ∈ af.toList) (hgo : ops[22]?.bind (·.dst) = some 57) (h58 : (⟨23, .data⟩ : Edge) ∈ af.toList) (h59 : (⟨24, .data⟩ : Edge) ∈ af.toList) (hC : ∀ w, I w → Calls Tryz.prog 6 #[.slice ad n c, .slice (some ⟨A, 0, none⟩) 27 27, .int .i64 9] w fun e w' => e = .returned (.bool true) ∧ I w') : StepI Tryz.prog ops Q a0 z5DS I (GV (z5GS A n c ad)) 25 { dst := some 60, op := .call { callee := .value (.func 6), args := #[.tmp 58, .tmp 59, .const (.int .i64 9)], argTypes := at_ }, type := ty, pos := pos, after := af, guard := some (22, false) } := by
  intro a w hout hI hdep K hK
  obtain ⟨vg, gg, eg⟩ := hdep ⟨22, .guard⟩ hg rfl
  have eg := eg 57 rfl
  have gg := gg _ rfl
  subst gg
  have hy := yielded_is hgo eg
  rw [if_pos (by simp [Region.wanted, hy])]
  obtain ⟨v58, g58, e58⟩ := hdep ⟨23, .data⟩ h58 rfl
  have e58 := e58 58 rfl
  have g58 := g58 _ rfl
  subst g58
  obtain ⟨v59, g59, e59⟩ := hdep ⟨24, .data⟩ h59 rfl
  have e59 := e59 59 rfl
  have g59 := g59 _ rfl
  subst g59
  clear hout hdep hy
  go_simp
  refine (hC w hI).mono ?_
  rintro e w1 ⟨rfl, hI1⟩
  exact hK _ _ (gv_of rfl rfl) hI1
set_option maxRecDepth 100000 in
set_option maxHeartbeats 1000000 in
theorem z561 (hg : (⟨22, .guard⟩ : Edge) ∈ af.toList) (hgo : ops[22]?.bind (·.dst) = some 57) (h60 : (⟨25, .data⟩ : Edge) ∈ af.toList) : StepI Tryz.prog ops Q a0 z5DS I (GV (z5GS A n c ad)) 26 { dst := some 61, op := .unOp .not 4 (.tmp 60), type := ty, pos := pos, after := af, guard := some (22, false) } := by
  intro a w hout hI hdep K hK
  obtain ⟨vg, gg, eg⟩ := hdep ⟨22, .guard⟩ hg rfl
  have eg := eg 57 rfl
  have gg := gg _ rfl
  subst gg
  have hy := yielded_is hgo eg
  rw [if_pos (by simp [Region.wanted, hy])]
  obtain ⟨v60, g60, e60⟩ := hdep ⟨25, .data⟩ h60 rfl
  have e60 := e60 60 rfl
  have g60 := g60 _ rfl
  subst g60
  clear hout hdep hy
  go_simp
  exact hK _ _ (gv_of rfl (by first | rfl | (simp; done))) hI
set_option maxRecDepth 100000 in
set_option maxHeartbeats 1000000 in
theorem z562 (h57 : (⟨22, .data⟩ : Edge) ∈ af.toList) (h61 : (⟨26, .data⟩ : Edge) ∈ af.toList) : StepI Tryz.prog ops Q a0 z5DS I (GV (z5GS A n c ad)) 27 { dst := some 62, op := .pick (.tmp 57) (.const (.bool true)) (.tmp 61), type := ty, pos := pos, after := af, guard := none } := by
  intro a w hout hI hdep K hK
  rw [if_pos (by simp [Region.wanted])]
  obtain ⟨v57, g57, e57⟩ := hdep ⟨22, .data⟩ h57 rfl
  have e57 := e57 57 rfl
  have g57 := g57 _ rfl
  subst g57
  obtain ⟨v61, g61, e61⟩ := hdep ⟨26, .data⟩ h61 rfl
  have e61 := e61 61 rfl
  have g61 := g61 _ rfl
  subst g61
  clear hout hdep
  go_simp
  exact hK _ _ (gv_of rfl (by first | rfl | (simp; done))) hI
set_option maxRecDepth 100000 in
set_option maxHeartbeats 1000000 in
theorem z563 (h62 : (⟨27, .data⟩ : Edge) ∈ af.toList) : StepI Tryz.prog ops Q a0 z5DS I (GV (z5GS A n c ad)) 28 { dst := some 63, op := .move (.tmp 62), type := ty, pos := pos, after := af, guard := none } := by
  intro a w hout hI hdep K hK
  rw [if_pos (by simp [Region.wanted])]
  obtain ⟨v62, g62, e62⟩ := hdep ⟨27, .data⟩ h62 rfl
  have e62 := e62 62 rfl
  have g62 := g62 _ rfl
  subst g62
  clear hout hdep
  go_simp
  exact hK _ _ (gv_of rfl (by first | rfl | (simp; done))) hI
set_option maxRecDepth 100000 in
set_option maxHeartbeats 1000000 in
theorem z564 (hg : (⟨28, .guard⟩ : Edge) ∈ af.toList) (hgo : ops[28]?.bind (·.dst) = some 63) (o3 : a0.tmps[3]? = some (.slice ad n c)) : StepI Tryz.prog ops Q a0 z5DS I (GV (z5GS A n c ad)) 29 { dst := some 64, op := .move (.tmp 3), type := ty, pos := pos, after := af, guard := some (28, false) } := by
  intro a w hout hI hdep K hK
  obtain ⟨vg, gg, eg⟩ := hdep ⟨28, .guard⟩ hg rfl
  have eg := eg 63 rfl
  have gg := gg _ rfl
  subst gg
  have hy := yielded_is hgo eg
  rw [if_pos (by simp [Region.wanted, hy])]
  have o3w := (hout 3 (by decide)).trans o3
  clear hout hdep hy
  clear o3
  go_simp
  exact hK _ _ (gv_of rfl (by first | rfl | (simp; done))) hI
set_option maxRecDepth 100000 in
set_option maxHeartbeats 1000000 in
theorem z565 (hg : (⟨28, .guard⟩ : Edge) ∈ af.toList) (hgo : ops[28]?.bind (·.dst) = some 63) (h64 : (⟨29, .data⟩ : Edge) ∈ af.toList) (hC : ∀ w, I w → Calls Tryz.prog 7 #[.slice ad n c, .int .i64 8, .int .i64 9] w fun e w' => e = .returned (.bool true) ∧ I w') : StepI Tryz.prog ops Q a0 z5DS I (GV (z5GS A n c ad)) 30 { dst := some 65, op := .call { callee := .value (.func 7), args := #[.tmp 64, .const (.int .i64 8), .const (.int .i64 9)], argTypes := at_ }, type := ty, pos := pos, after := af, guard := some (28, false) } := by
  intro a w hout hI hdep K hK
  obtain ⟨vg, gg, eg⟩ := hdep ⟨28, .guard⟩ hg rfl
  have eg := eg 63 rfl
  have gg := gg _ rfl
  subst gg
  have hy := yielded_is hgo eg
  rw [if_pos (by simp [Region.wanted, hy])]
  obtain ⟨v64, g64, e64⟩ := hdep ⟨29, .data⟩ h64 rfl
  have e64 := e64 64 rfl
  have g64 := g64 _ rfl
  subst g64
  clear hout hdep hy
  go_simp
  refine (hC w hI).mono ?_
  rintro e w1 ⟨rfl, hI1⟩
  exact hK _ _ (gv_of rfl rfl) hI1
set_option maxRecDepth 100000 in
set_option maxHeartbeats 1000000 in
theorem z566 (hg : (⟨28, .guard⟩ : Edge) ∈ af.toList) (hgo : ops[28]?.bind (·.dst) = some 63) (h65 : (⟨30, .data⟩ : Edge) ∈ af.toList) : StepI Tryz.prog ops Q a0 z5DS I (GV (z5GS A n c ad)) 31 { dst := some 66, op := .unOp .not 4 (.tmp 65), type := ty, pos := pos, after := af, guard := some (28, false) } := by
  intro a w hout hI hdep K hK
  obtain ⟨vg, gg, eg⟩ := hdep ⟨28, .guard⟩ hg rfl
  have eg := eg 63 rfl
  have gg := gg _ rfl
  subst gg
  have hy := yielded_is hgo eg
  rw [if_pos (by simp [Region.wanted, hy])]
  obtain ⟨v65, g65, e65⟩ := hdep ⟨30, .data⟩ h65 rfl
  have e65 := e65 65 rfl
  have g65 := g65 _ rfl
  subst g65
  clear hout hdep hy
  go_simp
  exact hK _ _ (gv_of rfl (by first | rfl | (simp; done))) hI
set_option maxRecDepth 100000 in
set_option maxHeartbeats 1000000 in
theorem z567 (h63 : (⟨28, .data⟩ : Edge) ∈ af.toList) (h66 : (⟨31, .data⟩ : Edge) ∈ af.toList) : StepI Tryz.prog ops Q a0 z5DS I (GV (z5GS A n c ad)) 32 { dst := some 67, op := .pick (.tmp 63) (.const (.bool true)) (.tmp 66), type := ty, pos := pos, after := af, guard := none } := by
  intro a w hout hI hdep K hK
  rw [if_pos (by simp [Region.wanted])]
  obtain ⟨v63, g63, e63⟩ := hdep ⟨28, .data⟩ h63 rfl
  have e63 := e63 63 rfl
  have g63 := g63 _ rfl
  subst g63
  obtain ⟨v66, g66, e66⟩ := hdep ⟨31, .data⟩ h66 rfl
  have e66 := e66 66 rfl
  have g66 := g66 _ rfl
  subst g66
  clear hout hdep
  go_simp
  exact hK _ _ (gv_of rfl (by first | rfl | (simp; done))) hI
end

set_option maxRecDepth 100000 in
set_option maxHeartbeats 8000000 in
theorem lDeduceKnown (w : World) (hG : GOk w) :
    Calls Tryz.prog 9 #[] w fun e w' => e = .returned (.bool true) ∧ Below w.heap.size w w' := by
  have HG := Lib.hid hG
  clear hG
  go_enter Tryz.func9, Tryz.ntmps9
  go_wp2_with fail
  go_loopw [31] (fun iv wr => ∃ i : Nat, i ≤ 21 ∧ iv = .int .i64 i ∧ Hid (GL [] (dkW w) wr)) (fun iv _ => 21 - (intOf iv).toNat)
  case atStart => exact ⟨0, by omega, rfl, Lib.hid (gl_refl [] (dkW w))⟩
  case round =>
    obtain ⟨i, hi, rfl, hgr⟩ := hrel
    by_cases hlt : i < 21
    · have i1 : (i : Int) < 21 := by omega
      obtain ⟨ad, c, ts, hc, hts, hl1, hl2⟩ := dk_outer w i hlt
      have c0 : wr.cell? ⟨w.heap.size + 1 + 1 + 1 + 1 + 1 + 1 + 1 + 1 + 1 + 1 + 1 + 1 + 1 + 1 + 1 + 1 + 1 + 1 + 1 + 1 + 1, i, none⟩ = some (.slice ad ts.length c) := cell_glx hc hgr.out (by simp)
      have hGW : ∀ W, GL [] wr W → GL [] (dkW w) W := fun W hW => gl_step hW hgr.out (by simp)
      have hGG : ∀ W, GL [] wr W → GOk W := fun W hW => gok_gl HG.out (gl_step (hGW W hW) (dk_gl w) (by simp)) (by simp)
      have hA : ∀ W, GL [] wr W → TermsAt (.slice (some ⟨w.heap.size, 0, none⟩) 27 27) dkAsk W := fun W hW => dk_terms w 0 dkAsk rfl W (hGW W hW) 27 rfl
      have hAl : ∀ t ∈ dkAsk, t.length ≤ 9000000000000000000 := fun t ht => by have := (dk_short dkAsk (by simp [dkL])).2 t ht; omega
      have hAn : dkAsk.length ≤ 9000000000000000000 := by decide
      have hsn : ∀ o n, ((dkAsk.drop o).take n).length ≤ 9000000000000000000 := fun o n => by rw [List.length_take, List.length_drop]; omega
      have hTl : ∀ t ∈ ts, t.length ≤ 9000000000000000000 := fun t ht => by have := hl2 t ht; omega
      have hC1 : ∀ W, GL [] wr W → Calls Tryz.prog 3 #[.slice ad ts.length c, .slice (some ⟨w.heap.size, 0, none⟩) 27 27] W fun e W' => e = .returned (.bool true) ∧ GL [] wr W' := fun W hW => (lDeduceKnows ts dkAsk _ _ W (hts W (hGW W hW)) (hA W hW) (by omega) hAn hTl hAl (hGG W hW)).mono (fun e W' h => ⟨h.1, gl_below h.2 hW⟩)
      have hC2 : ∀ W, GL [] wr W → Calls Tryz.prog 8 #[.slice ad ts.length c, .slice (some ⟨w.heap.size, 0, none⟩) 5 27, .slice (some ⟨w.heap.size, 0, none⟩) 27 27] W fun e W' => e = .returned (.bool true) ∧ GL [] wr W' := fun W hW => (lDeduceMore ts ((dkAsk.drop 0).take 5) dkAsk _ _ _ W (hts W (hGW W hW)) (dk_sub w 0 5 27 rfl W (hGW W hW)) (hA W hW) (by omega) (hsn 0 5) hAn hTl (dk_asks 0 5) hAl (hGG W hW)).mono (fun e W' h => ⟨h.1, gl_below h.2 hW⟩)
      have hC3 : ∀ W, GL [] wr W → Calls Tryz.prog 4 #[.slice ad ts.length c, .slice (some ⟨w.heap.size, 0, none⟩) 1 27, .slice (some ⟨w.heap.size, 1, none⟩) 1 26, .slice (some ⟨w.heap.size, 0, none⟩) 27 27] W fun e W' => e = .returned (.bool true) ∧ GL [] wr W' := fun W hW => (lDeduceCopies ts ((dkAsk.drop 0).take 1) ((dkAsk.drop 1).take 1) dkAsk _ _ _ _ W (hts W (hGW W hW)) (dk_sub w 0 1 27 rfl W (hGW W hW)) (dk_sub w 1 1 26 rfl W (hGW W hW)) (hA W hW) (by omega) (hsn 0 1) (hsn 1 1) hAn hTl (dk_asks 0 1) (dk_asks 1 1) hAl (hGG W hW)).mono (fun e W' h => ⟨h.1, gl_below h.2 hW⟩)
      have hC4 : ∀ W, GL [] wr W → Calls Tryz.prog 6 #[.slice ad ts.length c, .slice (some ⟨w.heap.size, 0, none⟩) 27 27, .int .i64 9] W fun e W' => e = .returned (.bool true) ∧ GL [] wr W' := fun W hW => (lDeduceFresh ts dkAsk _ _ 9 (by omega) W (hts W (hGW W hW)) (hA W hW) (by omega) hAn hTl hAl (hGG W hW)).mono (fun e W' h => ⟨h.1, gl_below h.2 hW⟩)
      have hC5 : ∀ W, GL [] wr W → Calls Tryz.prog 7 #[.slice ad ts.length c, .int .i64 8, .int .i64 9] W fun e W' => e = .returned (.bool true) ∧ GL [] wr W' := fun W hW => (lDeduceHides ts _ 8 9 (by omega) (by omega) W (hts W (hGW W hW)) (by omega) hTl (hGG W hW)).mono (fun e W' h => ⟨h.1, gl_below h.2 hW⟩)
      clear hc hts hGG hA hAl hAn hsn hTl hl2
      generalize ts.length = n at *
      go_upto_region 5 with fail
      refine wp_region_I (ds := z5DS) (I := (fun W => GL [] wr W)) (G := GV (z5GS w.heap.size n c ad)) rfl rfl (distinct_of _ (by decide +kernel)) ?_ (by kernel_rfl) (gl_drew (gl_refl [] _)) ?_ ?_
      · intro d hd
        exact Nat.lt_of_lt_of_le (ltB_of (n := 116) z5DS (by decide +kernel) d hd) (by simp)
      · exact ⟨z535 (by simp), z536 (by simp), z537 (by simp) (by simp) hC1, z538 (by simp), z539 (by simp), z540 (by simp) rfl (by simp), z541 (by simp) rfl (by simp), z542 (by simp) rfl (by simp), z543 (by simp) rfl (by simp), z544 (by simp) rfl (by simp) (by simp) (by simp) hC2, z545 (by simp) rfl (by simp), z546 (by simp) (by simp), z547 (by simp), z548 (by simp) rfl (by simp), z549 (by simp) rfl (by simp), z550 (by simp) rfl (by simp), z551 (by simp) rfl (by simp), z552 (by simp) rfl (by simp), z553 (by simp) rfl (by simp), z554 (by simp) rfl (by simp) (by simp) (by simp) (by simp) hC3, z555 (by simp) rfl (by simp), z556 (by simp) (by simp), z557 (by simp), z558 (by simp) rfl (by simp), z559 (by simp) rfl (by simp), z560 (by simp) rfl (by simp) (by simp) hC4, z561 (by simp) rfl (by simp), z562 (by simp) (by simp), z563 (by simp), z564 (by simp) rfl (by simp), z565 (by simp) rfl (by simp) hC5, z566 (by simp) rfl (by simp), z567 (by simp) (by simp), trivial⟩
      · intro vs w' hl hv hI
        have hl0 : vs.length = 33 := hl
        clear hl
        obtain ⟨x0, r0, rfl, hl1⟩ := cons_of hl0
        clear hl0
        obtain ⟨x1, r1, rfl, hl2⟩ := cons_of hl1
        clear hl1
        obtain ⟨x2, r2, rfl, hl3⟩ := cons_of hl2
        clear hl2
        obtain ⟨x3, r3, rfl, hl4⟩ := cons_of hl3
        clear hl3
        obtain ⟨x4, r4, rfl, hl5⟩ := cons_of hl4
        clear hl4
        obtain ⟨x5, r5, rfl, hl6⟩ := cons_of hl5
        clear hl5
        obtain ⟨x6, r6, rfl, hl7⟩ := cons_of hl6
        clear hl6
        obtain ⟨x7, r7, rfl, hl8⟩ := cons_of hl7
        clear hl7
        obtain ⟨x8, r8, rfl, hl9⟩ := cons_of hl8
        clear hl8
        obtain ⟨x9, r9, rfl, hl10⟩ := cons_of hl9
        clear hl9
        obtain ⟨x10, r10, rfl, hl11⟩ := cons_of hl10
        clear hl10
        obtain ⟨x11, r11, rfl, hl12⟩ := cons_of hl11
        clear hl11
        obtain ⟨x12, r12, rfl, hl13⟩ := cons_of hl12
        clear hl12
        obtain ⟨x13, r13, rfl, hl14⟩ := cons_of hl13
        clear hl13
        obtain ⟨x14, r14, rfl, hl15⟩ := cons_of hl14
        clear hl14
        obtain ⟨x15, r15, rfl, hl16⟩ := cons_of hl15
        clear hl15
        obtain ⟨x16, r16, rfl, hl17⟩ := cons_of hl16
        clear hl16
        obtain ⟨x17, r17, rfl, hl18⟩ := cons_of hl17
        clear hl17
        obtain ⟨x18, r18, rfl, hl19⟩ := cons_of hl18
        clear hl18
        obtain ⟨x19, r19, rfl, hl20⟩ := cons_of hl19
        clear hl19
        obtain ⟨x20, r20, rfl, hl21⟩ := cons_of hl20
        clear hl20
        obtain ⟨x21, r21, rfl, hl22⟩ := cons_of hl21
        clear hl21
        obtain ⟨x22, r22, rfl, hl23⟩ := cons_of hl22
        clear hl22
        obtain ⟨x23, r23, rfl, hl24⟩ := cons_of hl23
        clear hl23
        obtain ⟨x24, r24, rfl, hl25⟩ := cons_of hl24
        clear hl24
        obtain ⟨x25, r25, rfl, hl26⟩ := cons_of hl25
        clear hl25
        obtain ⟨x26, r26, rfl, hl27⟩ := cons_of hl26
        clear hl26
        obtain ⟨x27, r27, rfl, hl28⟩ := cons_of hl27
        clear hl27
        obtain ⟨x28, r28, rfl, hl29⟩ := cons_of hl28
        clear hl28
        obtain ⟨x29, r29, rfl, hl30⟩ := cons_of hl29
        clear hl29
        obtain ⟨x30, r30, rfl, hl31⟩ := cons_of hl30
        clear hl30
        obtain ⟨x31, r31, rfl, hl32⟩ := cons_of hl31
        clear hl31
        obtain ⟨x32, r32, rfl, hl33⟩ := cons_of hl32
        clear hl32
        have e32 : x32 = .bool false := hv 32 x32 (by simp) _ rfl
        subst e32
        obtain rfl : r32 = [] := List.eq_nil_of_length_eq_zero hl33
        clear hv
        simp only [z5DS, setAll, List.setIfInBounds_toArray, List.set_cons_zero, List.set_cons_succ]
        have hgw := hGW w' hI
        clear hI hC1 hC2 hC3 hC4 hC5 c0 hGW
        go_wp2_with fail
        go_roundw
        case rel => exact ⟨i + 1, by omega, by go_num, Lib.hid hgw⟩
        case measure => simp [intOf]; omega
    · obtain rfl : i = 21 := by omega
      have hgw : GL [] w wr := gl_step hgr.out (dk_gl w) (by simp)
      clear hgr hi
      go_wp2_with fail
      refine (dNew _ (gok_gl HG.out hgw (by simp))).mono ?_
      rintro e w1 ⟨M, bh, be, rfl, hM1, hq1, hq2, hq3, hb1⟩
      rw [← names_zero] at hM1
      have HM1 := Lib.hid hM1
      have hg1 : GL [] w w1 := gl_below hb1 hgw
      have hszw := hgw.size
      have hRS : ∀ r ∈ [bh, be], r ∈ ([] : List Nat) ∨ w.heap.size ≤ r := fun r hr => .inr (by simp at hr; omega)
      have HRS := Lib.hid hRS
      clear hM1 hb1 hRS
      go_wp2_with fail
      go_loopw [5] (fun iv wr => ∃ (k : Nat) (S : List UInt8 → Bool), k ≤ 1024 ∧ iv = .int .i64 k ∧ Hid (GL [] w wr) ∧ Hid (MindAt wr M bh be (namesH k) S k)) (fun iv _ => 1024 - (intOf iv).toNat)
      case atStart => exact ⟨0, _, by omega, rfl, Lib.hid hg1, HM1⟩
      case round =>
        obtain ⟨k, S, hk, rfl, hgr, HMr⟩ := hrel
        by_cases hlt : k < 1024
        · have i1 : (k : Int) < 1024 := by omega
          obtain ⟨e1, e2, e3⟩ := names_learn hlt
          have HE := Lib.hid (And.intro e1 (And.intro e2 e3))
          have NK := Lib.hid (nameT_ok k)
          have hnl := nameL_len (n := k) (by omega)
          clear e1 e2 e3
          go_wp2_with fail
          refine (tMkName k (by omega) (by omega) _ (gok_gl HG.out hgr.out (by simp))).mono ?_
          rintro e w2 ⟨rfl, hb2⟩
          rw [NK.out]
          have hg2 : GL [] w w2 := gl_below hb2 hgr.out
          have HM2 := Lib.hid (mind_below HMr.out hb2)
          clear hb2 NK
          generalize nameL k = nm at *
          go_wp2_with fail
          refine (dLearn M bh be k _ S nm (by omega) _ (gok_gl HG.out hg2 (by simp)) HM2.out).mono ?_
          rintro e w3 ⟨S3, rfl, hM3, hg3⟩
          rw [HE.out.1, HE.out.2.1] at hM3
          rw [HE.out.2.2]
          have HM3 := Lib.hid hM3
          have hgw3 : GL [] w w3 := gl_step hg3 hg2 HRS.out
          clear hM3 hg3
          go_wp2_with fail
          go_roundw
          case rel => exact ⟨k + 1, S3, by omega, by go_num, Lib.hid hgw3, HM3⟩
          case measure => simp [intOf]; omega
        · obtain rfl : k = 1024 := by omega
          obtain ⟨y1, y2, y3⟩ := names_lit
          obtain ⟨f1, f2, f3⟩ := names_full
          obtain ⟨f4, f5, f6⟩ := names_old
          rw [← y1] at f1 f2 f3
          rw [← y2] at f4 f5 f6
          have HF := Lib.hid (And.intro f1 (And.intro f2 (And.intro f3 (And.intro f4 (And.intro f5 f6)))))
          have HNOT := Lib.hid (show ∀ S, Least (namesH 1024) S → (right [110, 50, 48, 48, 48, 59] && kn S [110, 50, 48, 48, 48, 59]) = false from fun S hL => by rw [y3]; exact names_not hL)
          have HHAS := Lib.hid (show ∀ S, Least (namesH 1024) S → (right [72, 110, 53, 59] && kn S [72, 110, 53, 59]) = true from fun S hL => by rw [y1]; exact names_hash hL)
          clear y1 y2 y3 f1 f2 f3 f4 f5 f6
          go_wp2_with fail
          refine (dLearn M bh be 1024 _ S [72, 110, 53, 59] (by decide) _ (gok_gl HG.out hgr.out (by simp)) HMr.out).mono ?_
          rintro e w2 ⟨S2, rfl, hM2, hg2⟩
          rw [HF.out.2.1, HF.out.2.2.1] at hM2
          rw [HF.out.1]
          have HM2 := Lib.hid hM2
          have hgw2 : GL [] w w2 := gl_step hg2 hgr.out HRS.out
          clear hM2 hg2
          go_wp2_with fail
          refine (dLearn M bh be 1024 _ S2 [110, 53, 59] (by decide) _ (gok_gl HG.out hgw2 (by simp)) HM2.out).mono ?_
          rintro e w3 ⟨S3, rfl, hM3, hg3⟩
          rw [HF.out.2.2.2.2.1, HF.out.2.2.2.2.2] at hM3
          rw [HF.out.2.2.2.1]
          have HM3 := Lib.hid hM3
          have hgw3 : GL [] w w3 := gl_step hg3 hgw2 HRS.out
          clear hM3 hg3
          go_wp2_with fail
          refine (dKnows M bh be 1024 _ S3 [110, 50, 48, 48, 48, 59] (by decide) _ (gok_gl HG.out hgw3 (by simp)) HM3.out).mono ?_
          rintro e w4 ⟨rfl, hb4⟩
          rw [HNOT.out S3 HM3.out.least]
          have hgw4 : GL [] w w4 := gl_below hb4 hgw3
          have HM4 := Lib.hid (mind_below HM3.out hb4)
          clear hb4
          go_wp2_with fail
          refine (dKnows M bh be 1024 _ S3 [72, 110, 53, 59] (by decide) _ (gok_gl HG.out hgw4 (by simp)) HM4.out).mono ?_
          rintro e w5 ⟨rfl, hb5⟩
          rw [HHAS.out S3 HM4.out.least]
          have hgw5 : GL [] w w5 := gl_below hb5 hgw4
          have HM5 := Lib.hid (mind_below HM4.out hb5)
          clear hb5
          go_wp2_with fail
          refine (dHeld M bh be 1024 _ S3 _ HM5.out).mono ?_
          rintro e w6 ⟨v6, ks, rfl, hk1, hk2, _, hO6, hb6⟩
          obtain ⟨va, m, vc, rfl⟩ := own_slice hO6
          have hm := own_len hO6
          rw [names_count HM5.out.least hk1 hk2] at hm
          subst hm
          have hgw6 : GL [] w w6 := gl_below hb6 hgw5
          clear hO6 hk1 hk2 hb6
          go_wp2_with fail
          refine (lDeduceNone [110, 49, 59] _ (gok_gl HG.out hgw6 (by simp))).mono ?_
          rintro e w7 ⟨rfl, hb7⟩
          have hgw7 : GL [] w w7 := gl_below hb7 hgw6
          clear hb7
          go_wp2_with fail
          refine (kPick53 _).mono ?_
          rintro e w8 ⟨rfl, hw8⟩
          subst hw8
          go_wp2_with fail
          refine (lWorks03 _ (gok_gl HG.out hgw7 (by simp))).mono ?_
          rintro e w9 ⟨rfl, hb9⟩
          go_wp2_with fail
          go_ret
          exact ⟨by first | rfl | (simp; done), gl_to_below (gl_below hb9 hgw7)⟩
end Go.Proofs.YtdipkblmcloifaaGreatDoor
