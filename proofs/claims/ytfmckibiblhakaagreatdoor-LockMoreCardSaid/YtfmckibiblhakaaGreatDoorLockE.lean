/- The program's locks: written. -/
import Derived.Test.YtfmckibiblhakaaGreatDoorLockX
import Derived.Lib.FrozenHead2
set_option linter.unusedSimpArgs false
set_option linter.unusedVariables false
namespace Go.Proofs.YtfmckibiblhakaaGreatDoor
open Go.RowKit

/-- Blocks that are no bytes' stay, but for the builder's own. -/
def KeepT (b : Nat) (w w' : World) : Prop := ∀ (k T : Nat) (cs : Array Value) (fz : Nat × Nat), w.heap[k]? = some (.cells cs T fz) → T ≠ 5 → k ≠ b → w'.heap[k]? = some (.cells cs T fz)
theorem own_sliceF {w : World} {base e size n : Nat} {v : Value} {xs : List Value} (h : w.ownsRowF base e size v n xs) : ∃ ad m c, v = .slice ad m c := by
  rcases h.2 with ⟨h, _⟩ | ⟨g, cap, _, _, h, _⟩ <;> exact ⟨_, _, _, h⟩
theorem isB_lt {B b : Nat} {l : List UInt8} {w : World} (h : IsB B b l w) : b < w.heap.size ∧ B ≤ b := by
  rcases h with h | h
  · exact ⟨h.lt, h.1⟩
  · exact ⟨h.lt, h.1⟩
theorem tCopyCheckK (B b : Nat) (l : List UInt8) (w : World) (h : IsB B b l w) :
    Calls Tryz.prog 138 #[.pointer (some ⟨b, 0, none⟩)] w fun e w' => e = .returned (.tuple #[]) ∧ Lib.BuilderAtF 102 5 B b (.pointer (some ⟨b, 0, none⟩)) (Lib.byteCells l) w' ∧ Below B w w' ∧ KeepT b w w' := by
  rcases h with h | h
  · refine (copyFresh b w h.cell0 h.shape h.frozen0).mono ?_
    rintro e w' ⟨rfl, rfl⟩
    exact ⟨rfl, h.used _, (Below.refl B w).setCell (p := ⟨b, 0, none⟩) h.1 _, fun k T cs fz hk _ hne => blk_ne hk hne _⟩
  · refine (copyUsed b w h.cell0).mono ?_
    rintro e w' ⟨rfl, rfl⟩
    exact ⟨rfl, h, Below.refl B _, fun k T cs fz hk _ _ => hk⟩

set_option maxRecDepth 100000 in
set_option maxHeartbeats 2000000 in
theorem tWriteStringK (B b : Nat) (l s : List UInt8) (w : World) (h : IsB B b l w) (hlen : l.length + s.length ≤ 140737488355328) (hBw : B ≤ w.heap.size) :
    Calls Tryz.prog 101 #[.pointer (some ⟨b, 0, none⟩), .string (bs s)] w fun e w' => e = .returned (.tuple #[.int .i64 s.length, .nilIface]) ∧ IsB B b (l ++ s) w' ∧ Below B w w' ∧ KeepT b w w' := by
  obtain ⟨i0, hi, hz0, hz1, hz2⟩ := info_parts Tryz.infoByte
  go_enter Tryz.func101, Tryz.ntmps101
  go_wp2_with (go_at_call 138; refine (tCopyCheckK B b l _ h).mono ?_)
  rintro e w1 ⟨rfl, h1, hb1, hk1⟩
  obtain ⟨hB, v, hbk, hown, hne⟩ := h1
  have c0 := blk_cell hbk
  have c1 := blk_free hbk
  go_wp2_with (at_builtin; refine Lib.wpList_append_own_stringF _ rfl _ _ 100 9 rfl B 5 i0 Tryz.underlying100 Tryz.underlying9 hi hz0 hz1 hz2 _ _ _ rfl hown (bs s) rfl ?c3 ?c4 ?c5 ?_)
  case c3 => rw [Lib.byteCells_length, bs_size]; unfold maxLen; omega
  case c4 => rw [Lib.byteCells_length, bs_size]; omega
  case c5 => have := hb1.size; omega
  intro v' w2 hown' hgrow _
  have hb2 := blk_grown hbk hgrow (Ne.symm hne)
  have d0 := blk_cell hb2
  have d1 := blk_free hb2
  obtain ⟨ao, n', cap, rfl⟩ : ∃ ao n' cap, v' = .slice ao n' cap := by
    rcases hown'.2 with ⟨hv, _⟩ | ⟨g, cap, cur, fz, hv, _⟩
    · exact ⟨_, _, _, hv⟩
    · exact ⟨_, _, _, hv⟩
  go_wp2
  go_ret2
  refine ⟨rfl, .inr ?_, ?_, ?_⟩
  · have e : Lib.byteCells l ++ Lib.strCells (bs s) = Lib.byteCells (l ++ s) := by simp [Lib.byteCells, Lib.strCells]
    have e2 : (Lib.byteCells l).length + s.length = (Lib.byteCells (l ++ s)).length := by simp [Lib.byteCells_length]
    rw [e, e2] at hown'
    exact Lib.BuilderAtF.put hB hb2 hown' (by decide)
  · exact (hb1.grown hgrow (by have := hb1.size; omega) (fun k hk => (hown.lt k hk).1)).setCell (p := ⟨b, 1, none⟩) hB _
  · intro k T cs fz hk hT hkb
    have q1 := hk1 k T cs fz hk hT hkb
    exact blk_ne (blk_grown q1 hgrow (Ne.symm (Lib.ownBlock_neF hown q1 hT))) hkb _

set_option maxRecDepth 100000 in
set_option maxHeartbeats 2000000 in
theorem tWriteByteK (B b : Nat) (l : List UInt8) (ch : UInt8) (x : Int) (hx : x = ch.toNat) (w : World) (h : IsB B b l w) (hlen : l.length + 1 ≤ 140737488355328) (hBw : B ≤ w.heap.size) :
    Calls Tryz.prog 100 #[.pointer (some ⟨b, 0, none⟩), .int .u8 x] w fun e w' => e = .returned .nilIface ∧ IsB B b (l ++ [ch]) w' ∧ Below B w w' ∧ KeepT b w w' := by
  subst hx
  obtain ⟨i0, hi, hz0, hz1, hz2⟩ := info_parts Tryz.infoByte
  go_enter Tryz.func100, Tryz.ntmps100
  go_wp2_with (go_at_call 138; refine (tCopyCheckK B b l _ h).mono ?_)
  rintro e w1 ⟨rfl, h1, hb1, hk1⟩
  obtain ⟨hB, v, hbk, hown, hne⟩ := h1
  have c0 := blk_cell hbk
  have c1 := blk_free hbk
  obtain ⟨av, nv, cv, hvv⟩ : ∃ ao n' cap, v = .slice ao n' cap := by
    rcases hown.2 with ⟨hv, _⟩ | ⟨g, cap, cur, fz, hv, _⟩
    · exact ⟨_, _, _, hv⟩
    · exact ⟨_, _, _, hv⟩
  subst hvv
  go_wp2_with (at_builtin; go_must (refine wpList_append_ownF _ rfl _ _ 100 rfl B 5 i0 (.int .u8 0) 1 1 Tryz.underlying100 hi hz0 hz1 hz2 rfl (by decide) _ _ _ rfl (hown.alloc _) ⟨w1.heap.size, 0, none⟩ 1 1 [.int .u8 ch.toNat] rfl rfl ?c1 ?c2 ?c3 ?c4 ?c5 ?_; (case c1 => exact cell_one_at rfl); (case c2 => exact one1 rfl); (case c3 => (rw [Lib.byteCells_length]; unfold maxLen; omega)); (case c4 => (rw [Lib.byteCells_length]; omega)); (case c5 => (have := hb1.size; simp; omega)); (intro v' w2 hown' hgrow _); (have hb2 := blk_grown (blk_alloc hbk _) hgrow (Ne.symm hne)); (have d0 := blk_cell hb2); (have d1 := blk_free hb2); (obtain ⟨ao, n', cap, hv'⟩ := own_sliceF hown'); (subst hv')))
  go_wp2
  go_ret
  refine ⟨rfl, .inr ?_, ?_, ?_⟩
  · have e : Lib.byteCells l ++ [Value.int .u8 ch.toNat] = Lib.byteCells (l ++ [ch]) := by simp [Lib.byteCells]
    have e2 : (Lib.byteCells l).length + 1 = (Lib.byteCells (l ++ [ch])).length := by simp [Lib.byteCells_length]
    rw [e, e2] at hown'
    exact Lib.BuilderAtF.put hB hb2 hown' (by decide)
  · exact ((hb1.alloc (by have := hb1.size; omega) _).grown hgrow (by have := hb1.size; simp; omega) (fun k hk => (hown.lt k hk).1)).setCell (p := ⟨b, 1, none⟩) hB _
  · intro k T cs fz hk hT hkb
    have q1 := hk1 k T cs fz hk hT hkb
    exact blk_ne (blk_grown (blk_alloc q1 _) hgrow (Ne.symm (Lib.ownBlock_neF hown q1 hT))) hkb _

theorem gok_belowB {B : Nat} {w w' : World} (h : GOk w) (hb : Below B w w') (hB : gN ≤ B) : GOk w' := gok_keep h (fun k hk => hb.block k (by omega)) hb.size
theorem stay_belowB {B : Nat} {w w' : World} (h : Below B w w') : Stay (fun k => k < B) w w' := ⟨h.size, fun b _ hp => h.block b hp⟩
def WriteIH (N : Nat) : Prop := ∀ (x : LT) (B b : Nat) (acc : List UInt8) (v : Value) (w : World), countL x ≤ N → rightsL x = true → LockIn (fun k => k < B) w x v → IsB B b acc w → acc.length + (lockT x).length ≤ 100000000000 → GOk w → gN ≤ B → B ≤ w.heap.size →
    Calls Tryz.prog 71 #[.pointer (some ⟨b, 0, none⟩), v] w fun e w' => e = .returned (.tuple #[]) ∧ IsB B b (acc ++ lockT x) w' ∧ Below B w w'

set_option maxRecDepth 100000 in
set_option maxHeartbeats 2000000 in
theorem lkWrite1 (B b : Nat) (acc t : List UInt8) (n : Int) (ad : Option Addr) (m c : Nat) (w : World) (hI : IsB B b acc w) (hlen : acc.length + t.length ≤ 100000000000) (hG : GOk w) (hgB : gN ≤ B) (hBw : B ≤ w.heap.size) :
    Calls Tryz.prog 71 #[.pointer (some ⟨b, 0, none⟩), .agg #[.int .u8 1, .string (bs t), .int .i64 n, .slice ad m c]] w fun e w' => e = .returned (.tuple #[]) ∧ IsB B b (acc ++ (115 :: t)) w' ∧ Below B w w' := by
  have hlt := (isB_lt hI).1
  have HG := Lib.hid hG
  have HI := Lib.hid hI
  clear hI hG
  go_enter Tryz.func71, Tryz.ntmps71
  go_wp2_with fail
  refine (tWriteByteK B b acc 115 _ rfl _ (isB_below HI.out ((Below.refl _ w).alloc (Nat.le_refl _) (.cells #[.int .u8 1, .string (bs t), .int .i64 n, .slice ad m c] 25))) (by omega) (by simp; omega)).mono ?_
  rintro e w1 ⟨rfl, h1, hb1, hk1⟩
  have HB1 := Lib.hid (hk1 _ _ _ _ (blk_new w (.cells #[.int .u8 1, .string (bs t), .int .i64 n, .slice ad m c] 25)) (by decide) (by omega))
  have f1 := blk_cell HB1.out
  have e1 := blk_free HB1.out
  have hs1 := hb1.size
  simp only [World.size_alloc] at hs1
  have hbb1 : Below B w w1 := ((Below.refl B w).alloc hBw (.cells #[.int .u8 1, .string (bs t), .int .i64 n, .slice ad m c] 25)).trans hb1
  go_wp2_with fail
  refine (tWriteStringK B b (acc ++ [115]) t _ h1 (by simp; omega) (by omega)).mono ?_
  rintro e w2 ⟨rfl, h2, hb2, hk2⟩
  go_wp2_with fail
  go_end0
  exact ⟨rfl, by simpa using h2, hbb1.trans hb2⟩

set_option maxRecDepth 100000 in
set_option maxHeartbeats 2000000 in
theorem lkWrite2 (B b : Nat) (acc t : List UInt8) (n : Int) (ad : Option Addr) (m c : Nat) (w : World) (hI : IsB B b acc w) (hlen : acc.length + t.length ≤ 100000000000) (hG : GOk w) (hgB : gN ≤ B) (hBw : B ≤ w.heap.size) :
    Calls Tryz.prog 71 #[.pointer (some ⟨b, 0, none⟩), .agg #[.int .u8 2, .string (bs t), .int .i64 n, .slice ad m c]] w fun e w' => e = .returned (.tuple #[]) ∧ IsB B b (acc ++ (112 :: t)) w' ∧ Below B w w' := by
  have hlt := (isB_lt hI).1
  have HG := Lib.hid hG
  have HI := Lib.hid hI
  clear hI hG
  go_enter Tryz.func71, Tryz.ntmps71
  go_wp2_with fail
  refine (tWriteByteK B b acc 112 _ rfl _ (isB_below HI.out ((Below.refl _ w).alloc (Nat.le_refl _) (.cells #[.int .u8 2, .string (bs t), .int .i64 n, .slice ad m c] 25))) (by omega) (by simp; omega)).mono ?_
  rintro e w1 ⟨rfl, h1, hb1, hk1⟩
  have HB1 := Lib.hid (hk1 _ _ _ _ (blk_new w (.cells #[.int .u8 2, .string (bs t), .int .i64 n, .slice ad m c] 25)) (by decide) (by omega))
  have f1 := blk_cell HB1.out
  have e1 := blk_free HB1.out
  have hs1 := hb1.size
  simp only [World.size_alloc] at hs1
  have hbb1 : Below B w w1 := ((Below.refl B w).alloc hBw (.cells #[.int .u8 2, .string (bs t), .int .i64 n, .slice ad m c] 25)).trans hb1
  go_wp2_with fail
  refine (tWriteStringK B b (acc ++ [112]) t _ h1 (by simp; omega) (by omega)).mono ?_
  rintro e w2 ⟨rfl, h2, hb2, hk2⟩
  go_wp2_with fail
  go_end0
  exact ⟨rfl, by simpa using h2, hbb1.trans hb2⟩

set_option maxRecDepth 100000 in
set_option maxHeartbeats 2000000 in
theorem lkWrite3 (B b : Nat) (acc t : List UInt8) (n : Int) (hn0 : 0 ≤ n) (hn1 : n < 1073741824) (ad : Option Addr) (m c : Nat) (w : World) (hI : IsB B b acc w) (hlen : acc.length ≤ 100000000000) (hG : GOk w) (hgB : gN ≤ B) (hBw : B ≤ w.heap.size) :
    Calls Tryz.prog 71 #[.pointer (some ⟨b, 0, none⟩), .agg #[.int .u8 3, .string (bs t), .int .i64 n, .slice ad m c]] w fun e w' => e = .returned (.tuple #[]) ∧ IsB B b (acc ++ (97 :: (Lib.decDigits n.toNat ++ [59]))) w' ∧ Below B w w' := by
  have hdl := dec_len20 n.toNat (by omega)
  have hlt := (isB_lt hI).1
  have HG := Lib.hid hG
  have HI := Lib.hid hI
  clear hI hG
  go_enter Tryz.func71, Tryz.ntmps71
  go_wp2_with fail
  refine (tWriteByteK B b acc 97 _ rfl _ (isB_below HI.out ((Below.refl _ w).alloc (Nat.le_refl _) (.cells #[.int .u8 3, .string (bs t), .int .i64 n, .slice ad m c] 25))) (by omega) (by simp; omega)).mono ?_
  rintro e w1 ⟨rfl, h1, hb1, hk1⟩
  have HB1 := Lib.hid (hk1 _ _ _ _ (blk_new w (.cells #[.int .u8 3, .string (bs t), .int .i64 n, .slice ad m c] 25)) (by decide) (by omega))
  have f1 := blk_cell HB1.out
  have e1 := blk_free HB1.out
  have hs1 := hb1.size
  simp only [World.size_alloc] at hs1
  have hbb1 : Below B w w1 := ((Below.refl B w).alloc hBw (.cells #[.int .u8 3, .string (bs t), .int .i64 n, .slice ad m c] 25)).trans hb1
  go_wp2_with fail
  refine (tItoa n (by omega) (by omega) _ (gok_belowB HG.out hbb1 hgB)).mono ?_
  rintro e w2 ⟨rfl, hb2⟩
  go_wp2_with fail
  refine (tWriteStringK B b (acc ++ [97]) (Lib.decDigits n.toNat ++ [59]) _ (isB_below h1 hb2) (by simp; omega) (by have := hb2.size; omega)).mono ?_
  rintro e w3 ⟨rfl, h3, hb3, hk3⟩
  go_wp2_with fail
  go_end0
  exact ⟨rfl, by simpa using h3, (hbb1.trans (hb2.mono (by omega))).trans hb3⟩

set_option maxRecDepth 100000 in
set_option maxHeartbeats 2000000 in
theorem lkWrite4 (B b : Nat) (acc t : List UInt8) (n : Int) (hn0 : 0 ≤ n) (hn1 : n < 1073741824) (ad : Option Addr) (m c : Nat) (w : World) (hI : IsB B b acc w) (hlen : acc.length ≤ 100000000000) (hG : GOk w) (hgB : gN ≤ B) (hBw : B ≤ w.heap.size) :
    Calls Tryz.prog 71 #[.pointer (some ⟨b, 0, none⟩), .agg #[.int .u8 4, .string (bs t), .int .i64 n, .slice ad m c]] w fun e w' => e = .returned (.tuple #[]) ∧ IsB B b (acc ++ (111 :: (Lib.decDigits n.toNat ++ [59]))) w' ∧ Below B w w' := by
  have hdl := dec_len20 n.toNat (by omega)
  have hlt := (isB_lt hI).1
  have HG := Lib.hid hG
  have HI := Lib.hid hI
  clear hI hG
  go_enter Tryz.func71, Tryz.ntmps71
  go_wp2_with fail
  refine (tWriteByteK B b acc 111 _ rfl _ (isB_below HI.out ((Below.refl _ w).alloc (Nat.le_refl _) (.cells #[.int .u8 4, .string (bs t), .int .i64 n, .slice ad m c] 25))) (by omega) (by simp; omega)).mono ?_
  rintro e w1 ⟨rfl, h1, hb1, hk1⟩
  have HB1 := Lib.hid (hk1 _ _ _ _ (blk_new w (.cells #[.int .u8 4, .string (bs t), .int .i64 n, .slice ad m c] 25)) (by decide) (by omega))
  have f1 := blk_cell HB1.out
  have e1 := blk_free HB1.out
  have hs1 := hb1.size
  simp only [World.size_alloc] at hs1
  have hbb1 : Below B w w1 := ((Below.refl B w).alloc hBw (.cells #[.int .u8 4, .string (bs t), .int .i64 n, .slice ad m c] 25)).trans hb1
  go_wp2_with fail
  refine (tItoa n (by omega) (by omega) _ (gok_belowB HG.out hbb1 hgB)).mono ?_
  rintro e w2 ⟨rfl, hb2⟩
  go_wp2_with fail
  refine (tWriteStringK B b (acc ++ [111]) (Lib.decDigits n.toNat ++ [59]) _ (isB_below h1 hb2) (by simp; omega) (by have := hb2.size; omega)).mono ?_
  rintro e w3 ⟨rfl, h3, hb3, hk3⟩
  go_wp2_with fail
  go_end0
  exact ⟨rfl, by simpa using h3, (hbb1.trans (hb2.mono (by omega))).trans hb3⟩

theorem lockRow_append : ∀ (l m : List LT), lockRow (l ++ m) = lockRow l ++ lockRow m
  | [], m => by rw [lockRow_nil]; rfl
  | x :: r, m => by rw [List.cons_append, lockRow_cons, lockRow_cons, lockRow_append r m, List.append_assoc]
theorem lockRow_take (l : List LT) (j : Nat) (h : j < l.length) : lockRow (l.take (j + 1)) = lockRow (l.take j) ++ lockT l[j] := by
  rw [List.take_succ_eq_append_getElem h, lockRow_append, lockRow_cons, lockRow_nil, List.append_nil]
theorem lockRow_le (l : List LT) (j : Nat) : (lockRow (l.take j)).length ≤ (lockRow l).length := by
  have : lockRow l = lockRow (l.take j) ++ lockRow (l.drop j) := by rw [← lockRow_append, List.take_append_drop]
  rw [this]; simp

set_option maxRecDepth 100000 in
set_option maxHeartbeats 4000000 in
theorem lkWrite5 (N : Nat) (ih : WriteIH N) (B b : Nat) (acc t : List UInt8) (n : Int) (kids : List LT) (ad : Option Addr) (c : Nat) (hm : kids.length ≤ 8) (hcN : countRow kids ≤ N) (hrr : rightsRow kids = true) (w : World) (hd : kids = [] ∨ ∃ b o, ad = some ⟨b, o, none⟩ ∧ b < w.heap.size ∧ b < B ∧ RowIn (fun k => k < B) w kids b o)
    (hI : IsB B b acc w) (hlen : acc.length + (Lib.decDigits kids.length).length + 2 + (lockRow kids).length ≤ 100000000000) (hG : GOk w) (hgB : gN ≤ B) (hBw : B ≤ w.heap.size) :
    Calls Tryz.prog 71 #[.pointer (some ⟨b, 0, none⟩), .agg #[.int .u8 5, .string (bs t), .int .i64 n, .slice ad kids.length c]] w fun e w' => e = .returned (.tuple #[]) ∧ IsB B b (acc ++ (38 :: (Lib.decDigits kids.length ++ 58 :: lockRow kids))) w' ∧ Below B w w' := by
  have hdl := dec_len20 kids.length (by omega)
  have HD := Lib.hid hd
  have IH := Lib.hid ih
  have HR := Lib.hid hrr
  clear hd ih hrr
  have hlt := (isB_lt hI).1
  have HG := Lib.hid hG
  have HI := Lib.hid hI
  clear hI hG
  go_enter Tryz.func71, Tryz.ntmps71
  go_wp2_with fail
  refine (tWriteByteK B b acc 38 _ rfl _ (isB_below HI.out ((Below.refl _ w).alloc (Nat.le_refl _) (.cells #[.int .u8 5, .string (bs t), .int .i64 n, .slice ad kids.length c] 25))) (by omega) (by simp; omega)).mono ?_
  rintro e w1 ⟨rfl, h1, hb1, hk1⟩
  have HB1 := Lib.hid (hk1 _ _ _ _ (blk_new w (.cells #[.int .u8 5, .string (bs t), .int .i64 n, .slice ad kids.length c] 25)) (by decide) (by omega))
  have f1 := blk_cell HB1.out
  have e1 := blk_free HB1.out
  have hs1 := hb1.size
  simp only [World.size_alloc] at hs1
  have hbb1 : Below B w w1 := ((Below.refl B w).alloc hBw (.cells #[.int .u8 5, .string (bs t), .int .i64 n, .slice ad kids.length c] 25)).trans hb1
  go_wp2_with fail
  refine (tItoa (kids.length : Int) (by omega) (by omega) _ (gok_belowB HG.out hbb1 hgB)).mono ?_
  rintro e w2 ⟨rfl, hb2⟩
  rw [Int.toNat_natCast]
  have HB2 := Lib.hid (blk_below HB1.out hb2 (blk_lt HB1.out))
  go_wp2_with fail
  refine (tWriteStringK B b (acc ++ [38]) (Lib.decDigits kids.length ++ [58]) _ (isB_below h1 hb2) (by simp; omega) (by have := hb2.size; omega)).mono ?_
  rintro e w3 ⟨rfl, h3, hb3, hk3⟩
  have HB3 := Lib.hid (hk3 _ _ _ _ HB2.out (by decide) (by omega))
  have hbb3 : Below B w w3 := (hbb1.trans (hb2.mono (by omega))).trans hb3
  have H3 : Hid (IsB B b (acc ++ (38 :: (Lib.decDigits kids.length ++ 58 :: lockRow (kids.take 0)))) w3) := by
    show IsB _ _ _ _
    rw [List.take_zero, lockRow_nil]
    simpa using h3
  clear f1 e1
  have f3 := blk_cell HB3.out
  have e3 := blk_free HB3.out
  clear h1 h3 hk1 hk3 hb1 hb2 hb3 hbb1 HB1 HB2
  go_wp2_with fail
  go_loopw [5, 23] (fun _ iv wr => ∃ j : Nat, j ≤ kids.length ∧ iv = .int .i64 j ∧ Hid (Below B w wr) ∧ Hid (IsB B b (acc ++ (38 :: (Lib.decDigits kids.length ++ 58 :: lockRow (kids.take j)))) wr)) (fun _ iv _ => kids.length - (intOf iv).toNat)
  case atStart => exact ⟨0, by omega, rfl, Lib.hid hbb3, H3⟩
  case round =>
    obtain ⟨j, hj, rfl, hbr, hir⟩ := hrel
    by_cases hlt : j < kids.length
    · have i3 : (j : Int) < kids.length := by omega
      rcases HD.out with h0 | ⟨g, o, rfl, hg, hgb, hrow⟩
      · subst h0; simp at hlt
      have hrow2 := rowIn_stay (stay_belowB hbr.out) (fun _ _ h => h) kids g o hg hgb hrow
      obtain ⟨u0, u1, u2, u3, hx, c0, c1, c2, c3⟩ := rowIn_get kids g o j kids[j] hrow2 (List.getElem?_eq_getElem hlt)
      obtain ⟨ku, nu, tu, au, mu, cu, rfl, rfl, rfl, rfl⟩ := lockIn_cells hx
      have hcx : countL kids[j] ≤ N := by have := countL_mem kids kids[j] (List.getElem_mem hlt); omega
      have hrx := rights_mem kids kids[j] HR.out (List.getElem_mem hlt)
      have htk : lockRow (kids.take (j + 1)) = lockRow (kids.take j) ++ lockT kids[j] := lockRow_take kids j hlt
      have hle := lockRow_le kids (j + 1)
      have hcall := fun (W : World) (hW : Below B w W) (hgr : GL [] wr W) (hIW : IsB B b (acc ++ (38 :: (Lib.decDigits kids.length ++ 58 :: lockRow (kids.take j)))) W) => IH.out kids[j] B b _ _ W hcx hrx (lockIn_gl hgr _ _ hx) hIW (by rw [htk] at hle; simp at hle ⊢; omega) (gok_belowB HG.out hW hgB) hgB (Nat.le_trans hBw hW.size)
      have HTK := Lib.hid htk
      generalize lockT kids[j] = lx at *
      have HC := Lib.hid hcall
      have hbs := hbr.out.size
      clear hcall hx hrow hrow2 hcx hrx htk HD
      go_wp2_with fail
      refine (HC.out _ (hbr.out.alloc (by omega) _) (gl_alloc (gl_refl _ _) _) (isB_below hir.out ((Below.refl _ wr).alloc (Nat.le_refl _) _))).mono ?_
      rintro e w4 ⟨rfl, h4, hb4⟩
      go_wp2_with fail
      go_roundw
      case rel => exact ⟨j + 1, by omega, by go_num, Lib.hid ((hbr.out.alloc (by omega) _).trans hb4), Lib.hid (by rw [HTK.out]; simpa using h4)⟩
      case measure => simp [intOf]; omega
    · obtain rfl : j = kids.length := by omega
      have hz := hir.out
      rw [List.take_length] at hz
      go_wp2
      go_end0
      exact ⟨rfl, hz, hbr.out⟩

set_option maxRecDepth 100000 in
set_option maxHeartbeats 4000000 in
theorem lkWrite6 (N : Nat) (ih : WriteIH N) (B b : Nat) (acc t : List UInt8) (n : Int) (kids : List LT) (ad : Option Addr) (c : Nat) (hm : kids.length ≤ 8) (hcN : countRow kids ≤ N) (hrr : rightsRow kids = true) (w : World) (hd : kids = [] ∨ ∃ b o, ad = some ⟨b, o, none⟩ ∧ b < w.heap.size ∧ b < B ∧ RowIn (fun k => k < B) w kids b o)
    (hI : IsB B b acc w) (hlen : acc.length + (Lib.decDigits kids.length).length + 2 + (lockRow kids).length ≤ 100000000000) (hG : GOk w) (hgB : gN ≤ B) (hBw : B ≤ w.heap.size) :
    Calls Tryz.prog 71 #[.pointer (some ⟨b, 0, none⟩), .agg #[.int .u8 6, .string (bs t), .int .i64 n, .slice ad kids.length c]] w fun e w' => e = .returned (.tuple #[]) ∧ IsB B b (acc ++ (124 :: (Lib.decDigits kids.length ++ 58 :: lockRow kids))) w' ∧ Below B w w' := by
  have hdl := dec_len20 kids.length (by omega)
  have HD := Lib.hid hd
  have IH := Lib.hid ih
  have HR := Lib.hid hrr
  clear hd ih hrr
  have hlt := (isB_lt hI).1
  have HG := Lib.hid hG
  have HI := Lib.hid hI
  clear hI hG
  go_enter Tryz.func71, Tryz.ntmps71
  go_wp2_with fail
  refine (tWriteByteK B b acc 124 _ rfl _ (isB_below HI.out ((Below.refl _ w).alloc (Nat.le_refl _) (.cells #[.int .u8 6, .string (bs t), .int .i64 n, .slice ad kids.length c] 25))) (by omega) (by simp; omega)).mono ?_
  rintro e w1 ⟨rfl, h1, hb1, hk1⟩
  have HB1 := Lib.hid (hk1 _ _ _ _ (blk_new w (.cells #[.int .u8 6, .string (bs t), .int .i64 n, .slice ad kids.length c] 25)) (by decide) (by omega))
  have f1 := blk_cell HB1.out
  have e1 := blk_free HB1.out
  have hs1 := hb1.size
  simp only [World.size_alloc] at hs1
  have hbb1 : Below B w w1 := ((Below.refl B w).alloc hBw (.cells #[.int .u8 6, .string (bs t), .int .i64 n, .slice ad kids.length c] 25)).trans hb1
  go_wp2_with fail
  refine (tItoa (kids.length : Int) (by omega) (by omega) _ (gok_belowB HG.out hbb1 hgB)).mono ?_
  rintro e w2 ⟨rfl, hb2⟩
  rw [Int.toNat_natCast]
  have HB2 := Lib.hid (blk_below HB1.out hb2 (blk_lt HB1.out))
  go_wp2_with fail
  refine (tWriteStringK B b (acc ++ [124]) (Lib.decDigits kids.length ++ [58]) _ (isB_below h1 hb2) (by simp; omega) (by have := hb2.size; omega)).mono ?_
  rintro e w3 ⟨rfl, h3, hb3, hk3⟩
  have HB3 := Lib.hid (hk3 _ _ _ _ HB2.out (by decide) (by omega))
  have hbb3 : Below B w w3 := (hbb1.trans (hb2.mono (by omega))).trans hb3
  have H3 : Hid (IsB B b (acc ++ (124 :: (Lib.decDigits kids.length ++ 58 :: lockRow (kids.take 0)))) w3) := by
    show IsB _ _ _ _
    rw [List.take_zero, lockRow_nil]
    simpa using h3
  clear f1 e1
  have f3 := blk_cell HB3.out
  have e3 := blk_free HB3.out
  clear h1 h3 hk1 hk3 hb1 hb2 hb3 hbb1 HB1 HB2
  go_wp2_with fail
  go_loopw [5, 23] (fun _ iv wr => ∃ j : Nat, j ≤ kids.length ∧ iv = .int .i64 j ∧ Hid (Below B w wr) ∧ Hid (IsB B b (acc ++ (124 :: (Lib.decDigits kids.length ++ 58 :: lockRow (kids.take j)))) wr)) (fun _ iv _ => kids.length - (intOf iv).toNat)
  case atStart => exact ⟨0, by omega, rfl, Lib.hid hbb3, H3⟩
  case round =>
    obtain ⟨j, hj, rfl, hbr, hir⟩ := hrel
    by_cases hlt : j < kids.length
    · have i3 : (j : Int) < kids.length := by omega
      rcases HD.out with h0 | ⟨g, o, rfl, hg, hgb, hrow⟩
      · subst h0; simp at hlt
      have hrow2 := rowIn_stay (stay_belowB hbr.out) (fun _ _ h => h) kids g o hg hgb hrow
      obtain ⟨u0, u1, u2, u3, hx, c0, c1, c2, c3⟩ := rowIn_get kids g o j kids[j] hrow2 (List.getElem?_eq_getElem hlt)
      obtain ⟨ku, nu, tu, au, mu, cu, rfl, rfl, rfl, rfl⟩ := lockIn_cells hx
      have hcx : countL kids[j] ≤ N := by have := countL_mem kids kids[j] (List.getElem_mem hlt); omega
      have hrx := rights_mem kids kids[j] HR.out (List.getElem_mem hlt)
      have htk : lockRow (kids.take (j + 1)) = lockRow (kids.take j) ++ lockT kids[j] := lockRow_take kids j hlt
      have hle := lockRow_le kids (j + 1)
      have hcall := fun (W : World) (hW : Below B w W) (hgr : GL [] wr W) (hIW : IsB B b (acc ++ (124 :: (Lib.decDigits kids.length ++ 58 :: lockRow (kids.take j)))) W) => IH.out kids[j] B b _ _ W hcx hrx (lockIn_gl hgr _ _ hx) hIW (by rw [htk] at hle; simp at hle ⊢; omega) (gok_belowB HG.out hW hgB) hgB (Nat.le_trans hBw hW.size)
      have HTK := Lib.hid htk
      generalize lockT kids[j] = lx at *
      have HC := Lib.hid hcall
      have hbs := hbr.out.size
      clear hcall hx hrow hrow2 hcx hrx htk HD
      go_wp2_with fail
      refine (HC.out _ (hbr.out.alloc (by omega) _) (gl_alloc (gl_refl _ _) _) (isB_below hir.out ((Below.refl _ wr).alloc (Nat.le_refl _) _))).mono ?_
      rintro e w4 ⟨rfl, h4, hb4⟩
      go_wp2_with fail
      go_roundw
      case rel => exact ⟨j + 1, by omega, by go_num, Lib.hid ((hbr.out.alloc (by omega) _).trans hb4), Lib.hid (by rw [HTK.out]; simpa using h4)⟩
      case measure => simp [intOf]; omega
    · obtain rfl : j = kids.length := by omega
      have hz := hir.out
      rw [List.take_length] at hz
      go_wp2
      go_end0
      exact ⟨rfl, hz, hbr.out⟩

theorem lkWriteN : ∀ N, WriteIH N
  | 0 => fun x B b acc v w hN _ _ _ _ _ _ _ => by have := count_pos x; omega
  | N + 1 => fun x B b acc v w hN hr hL hI hlen hG hgB hBw => by
    obtain ⟨k, t, n, kids⟩ := x
    obtain ⟨ad, c, rfl, ⟨hk0, hk1⟩, hn, ht, hkl, hd⟩ := lockIn_open hL
    rw [countL] at hN
    rw [rightsL, Bool.and_eq_true] at hr
    obtain ⟨hb, hrr⟩ := hr
    rw [lockT] at hlen ⊢
    unfold bareR at hb
    by_cases h1 : k = 1
    · subst h1
      simp [kindChar] at hlen
      exact lkWrite1 B b acc t n ad _ c w hI (by omega) hG hgB hBw
    rw [if_neg h1] at hb
    by_cases h2 : k = 2
    · subst h2
      simp [kindChar] at hlen
      exact lkWrite2 B b acc t n ad _ c w hI (by omega) hG hgB hBw
    rw [if_neg h2] at hb
    by_cases h3 : k = 3
    · subst h3
      simp only [Bool.and_eq_true, decide_eq_true_eq] at hb
      simp [kindChar] at hb hlen
      exact lkWrite3 B b acc t n (by omega) (by omega) ad _ c w hI (by omega) hG hgB hBw
    by_cases h4 : k = 4
    · subst h4
      simp only [Bool.and_eq_true, decide_eq_true_eq] at hb
      simp [kindChar] at hb hlen
      exact lkWrite4 B b acc t n (by omega) (by omega) ad _ c w hI (by omega) hG hgB hBw
    rw [if_neg (by omega)] at hb
    by_cases h5 : k = 5
    · subst h5
      simp at hb
      simp [kindChar] at hlen
      exact lkWrite5 N (lkWriteN N) B b acc t n kids ad c (by omega) (by omega) hrr w hd hI (by omega) hG hgB hBw
    by_cases h6 : k = 6
    · subst h6
      simp at hb
      simp [kindChar] at hlen
      exact lkWrite6 N (lkWriteN N) B b acc t n kids ad c (by omega) (by omega) hrr w hd hI (by omega) hG hgB hBw
    rw [if_neg (by omega)] at hb
    cases hb
end Go.Proofs.YtfmckibiblhakaaGreatDoor
