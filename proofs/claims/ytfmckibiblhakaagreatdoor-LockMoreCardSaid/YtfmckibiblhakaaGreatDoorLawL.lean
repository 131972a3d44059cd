/- The laws of layer 11: the chapter's lock; a great witness. -/
import Derived.Test.YtfmckibiblhakaaGreatDoorLockH
import Derived.Test.YtfmckibiblhakaaGreatDoorLockK
import Derived.Test.YtfmckibiblhakaaGreatDoorLockN
set_option linter.unusedSimpArgs false
set_option linter.unusedVariables false
namespace Go.Proofs.YtfmckibiblhakaaGreatDoor
open Go.RowKit

def IsBool (e : Ending) : Prop := ∃ b : Bool, e = .returned (.bool b)
theorem alloc_row {p : Nat → Prop} {w : World} {l : List LT} {cs : List Value} {T : Nat} (h : RowV p (w.alloc (.cells cs.toArray T)) l cs) : RowIn p (w.alloc (.cells cs.toArray T)) l w.heap.size 0 :=
  rowV_in l cs 0 h fun j v hj => by
    rw [blk_cell (blk_new w (.cells cs.toArray T)), Nat.zero_add]
    simpa using hj
theorem rowV2 {p : Nat → Prop} {w : World} {x y : LT} {a0 a1 a2 a3 b0 b1 b2 b3 : Value} (hx : LockIn p w x (.agg #[a0, a1, a2, a3])) (hy : LockIn p w y (.agg #[b0, b1, b2, b3])) : RowV p w [x, y] [a0, a1, a2, a3, b0, b1, b2, b3] :=
  ⟨a0, a1, a2, a3, _, rfl, hx, b0, b1, b2, b3, [], rfl, hy, rfl⟩
theorem rowV4 {p : Nat → Prop} {w : World} {x y z u : LT} {a0 a1 a2 a3 b0 b1 b2 b3 c0 c1 c2 c3 d0 d1 d2 d3 : Value} (hx : LockIn p w x (.agg #[a0, a1, a2, a3])) (hy : LockIn p w y (.agg #[b0, b1, b2, b3])) (hz : LockIn p w z (.agg #[c0, c1, c2, c3])) (hu : LockIn p w u (.agg #[d0, d1, d2, d3])) :
    RowV p w [x, y, z, u] [a0, a1, a2, a3, b0, b1, b2, b3, c0, c1, c2, c3, d0, d1, d2, d3] :=
  ⟨a0, a1, a2, a3, _, rfl, hx, b0, b1, b2, b3, _, rfl, hy, c0, c1, c2, c3, _, rfl, hz, d0, d1, d2, d3, [], rfl, hu, rfl⟩
theorem terms_one (w : World) (t : List UInt8) (T : Nat) (c : Nat) : TermsAt (.slice (some ⟨w.heap.size, 0, none⟩) 1 c) [t] (w.alloc (.cells #[.string (bs t)] T)) :=
  .inr ⟨w.heap.size, 0, c, rfl, by simp, fun k u hk => by
    match k, hk with
    | 0, hk =>
      simp at hk
      subst hk
      rw [blk_cell (blk_new w _)]
      rfl
    | k + 1, hk => simp at hk⟩

def xPre : LT := .mk 2 [72, 110, 50, 59] 0 []
def xOld : LT := .mk 4 [] 6 []
def xSig : LT := .mk 1 [80, 110, 49, 59] 0 []
def xAll : LT := .mk 5 [] 0 [xPre, xOld]
def xAny : LT := .mk 6 [] 0 [xSig, xAll]
def txt11 : List UInt8 := [124, 50, 58, 115, 80, 110, 49, 59, 38, 50, 58, 112, 72, 110, 50, 59, 111, 54, 59]
theorem x_right : rightL xAny = true := by decide +kernel
theorem x_text : lockT xAny = txt11 := by decide +kernel
theorem x_write : writeV xAny = .tuple #[.string (bs txt11), .int .i64 0] := by
  unfold writeV; rw [x_right, x_text]; rfl
theorem x_read : readP cutP limP txt11 = some xAny := (readP_iff txt11 xAny).2 ⟨x_right, x_text⟩
theorem x_keys : keysP xAny = [[80, 110, 49, 59]] := by
  unfold keysP; rw [if_pos x_right]; decide +kernel
theorem x_open1 : opensP [[83, 110, 49, 59, 116, 49, 58, 120]] [] [116, 49, 58, 120] 0 0 xAny = true := by decide +kernel
theorem x_open2 : opensP [[83, 110, 49, 59, 116, 49, 58, 120]] [] [116, 49, 58, 121] 0 0 xAny = false := by decide +kernel
theorem x_open3 : opensP [] [[110, 50, 59]] [116, 49, 58, 120] 0 6 xAny = true := by decide +kernel
theorem x_open4 : opensP [] [[110, 50, 59]] [116, 49, 58, 120] 0 5 xAny = false := by decide +kernel

set_option maxRecDepth 100000 in
set_option maxHeartbeats 8000000 in
theorem lWorks11 (w : World) (hG : GOk w) : Calls Tryz.prog 23 #[] w fun e w' => e = .returned (.bool true) ∧ Below w.heap.size w w' := by
  have HG0 := Lib.hid hG
  clear hG
  go_enter Tryz.func23, Tryz.ntmps23
  have hg0 : GL [] w w := gl_refl _ _
  have hs0 : w.heap.size ≤ w.heap.size := Nat.le_refl _
  go_wp2_with fail
  refine (lkSig [80, 110, 49, 59] _).mono ?_
  rintro e w1 ⟨rfl, hb1⟩
  have HG1 := Lib.hid (gok_below HG0.out hb1)
  have hg1 : GL [] w w1 := gl_below hb1 hg0
  have hs1 : w.heap.size ≤ w1.heap.size := hg1.size
  go_wp2_with fail
  refine (lkPre [72, 110, 50, 59] _).mono ?_
  rintro e w2 ⟨rfl, hb2⟩
  have HG2 := Lib.hid (gok_below HG1.out hb2)
  have hg2 : GL [] w w2 := gl_below hb2 hg1
  have hs2 : w.heap.size ≤ w2.heap.size := hg2.size
  go_wp2_with fail
  refine (lkOlder 6 _).mono ?_
  rintro e w3 ⟨rfl, hb3⟩
  have HG3 := Lib.hid (gok_below HG2.out hb3)
  have hg3 : GL [] w w3 := gl_below hb3 hg2
  have hs3 : w.heap.size ≤ w3.heap.size := hg3.size
  go_wp2_with fail
  have hrow4 : RowIn (fun _ => True) (w3.alloc (.cells #[.int .u8 2, .string (bs [72, 110, 50, 59]), .int .i64 0, .slice none 0 0, .int .u8 4, .string (bs []), .int .i64 6, .slice none 0 0] 25)) [xPre, xOld] w3.heap.size 0 := alloc_row (rowV2 (inPre [72, 110, 50, 59] (by simp) _ _) (inOlder 6 (by omega) (by omega) _ _))
  have HA44 : Hid ((w3.alloc (.cells #[.int .u8 2, .string (bs [72, 110, 50, 59]), .int .i64 0, .slice none 0 0, .int .u8 4, .string (bs []), .int .i64 6, .slice none 0 0] 25)).heap[w3.heap.size]? = some (.cells #[.int .u8 2, .string (bs [72, 110, 50, 59]), .int .i64 0, .slice none 0 0, .int .u8 4, .string (bs []), .int .i64 6, .slice none 0 0] 25 (0, 0))) := by
    have h := blk_new w3 (.cells #[.int .u8 2, .string (bs [72, 110, 50, 59]), .int .i64 0, .slice none 0 0, .int .u8 4, .string (bs []), .int .i64 6, .slice none 0 0] 25)
    exact h
  have HG4 := Lib.hid (gok_alloc HG3.out (.cells #[.int .u8 2, .string (bs [72, 110, 50, 59]), .int .i64 0, .slice none 0 0, .int .u8 4, .string (bs []), .int .i64 6, .slice none 0 0] 25))
  have hg4 : GL [] w (w3.alloc (.cells #[.int .u8 2, .string (bs [72, 110, 50, 59]), .int .i64 0, .slice none 0 0, .int .u8 4, .string (bs []), .int .i64 6, .slice none 0 0] 25)) := (gl_alloc hg3 (.cells #[.int .u8 2, .string (bs [72, 110, 50, 59]), .int .i64 0, .slice none 0 0, .int .u8 4, .string (bs []), .int .i64 6, .slice none 0 0] 25))
  have geA4 : w.heap.size ≤ w3.heap.size := by have := hg3.size; omega
  have gnA4 : gN ≤ w3.heap.size := by have := HG3.out.size; omega
  generalize (w3.alloc (.cells #[.int .u8 2, .string (bs [72, 110, 50, 59]), .int .i64 0, .slice none 0 0, .int .u8 4, .string (bs []), .int .i64 6, .slice none 0 0] 25)) = w4 at *
  generalize w3.heap.size = A4 at *
  have hs4 : w.heap.size ≤ w4.heap.size := hg4.size
  refine (lkAll [xPre, xOld] A4 0 _ _ (by decide) (by decide) _ (blk_lt HA44.out) trivial hrow4).mono ?_
  rintro e w5 ⟨hb5, v5, rfl, hl5⟩
  obtain ⟨ad5, c5, rfl, _⟩ := lockIn_open hl5
  have HL5 := Lib.hid (lockIn_mono (q := fun _ => True) (fun _ _ _ => trivial) _ _ hl5)
  clear hl5 hrow4
  have HG5 := Lib.hid (gok_below HG4.out hb5)
  have hg5 : GL [] w w5 := gl_below hb5 hg4
  have hs5 := hg5.size
  go_wp2_with fail
  have hrow6 : RowIn (fun _ => True) (w5.alloc (.cells #[.int .u8 1, .string (bs [80, 110, 49, 59]), .int .i64 0, .slice none 0 0, .int .u8 5, .string (bs []), .int .i64 0, .slice ad5 [xPre, xOld].length c5] 25)) [xSig, xAll] w5.heap.size 0 := alloc_row (rowV2 (inSig [80, 110, 49, 59] (by simp) _ _) (lockIn_gl (gl_alloc (gl_refl _ _) _) _ _ HL5.out))
  have HA66 : Hid ((w5.alloc (.cells #[.int .u8 1, .string (bs [80, 110, 49, 59]), .int .i64 0, .slice none 0 0, .int .u8 5, .string (bs []), .int .i64 0, .slice ad5 [xPre, xOld].length c5] 25)).heap[w5.heap.size]? = some (.cells #[.int .u8 1, .string (bs [80, 110, 49, 59]), .int .i64 0, .slice none 0 0, .int .u8 5, .string (bs []), .int .i64 0, .slice ad5 [xPre, xOld].length c5] 25 (0, 0))) := by
    have h := blk_new w5 (.cells #[.int .u8 1, .string (bs [80, 110, 49, 59]), .int .i64 0, .slice none 0 0, .int .u8 5, .string (bs []), .int .i64 0, .slice ad5 [xPre, xOld].length c5] 25)
    exact h
  have HG6 := Lib.hid (gok_alloc HG5.out (.cells #[.int .u8 1, .string (bs [80, 110, 49, 59]), .int .i64 0, .slice none 0 0, .int .u8 5, .string (bs []), .int .i64 0, .slice ad5 [xPre, xOld].length c5] 25))
  have hg6 : GL [] w (w5.alloc (.cells #[.int .u8 1, .string (bs [80, 110, 49, 59]), .int .i64 0, .slice none 0 0, .int .u8 5, .string (bs []), .int .i64 0, .slice ad5 [xPre, xOld].length c5] 25)) := (gl_alloc hg5 (.cells #[.int .u8 1, .string (bs [80, 110, 49, 59]), .int .i64 0, .slice none 0 0, .int .u8 5, .string (bs []), .int .i64 0, .slice ad5 [xPre, xOld].length c5] 25))
  have geA6 : w.heap.size ≤ w5.heap.size := by have := hg5.size; omega
  have gnA6 : gN ≤ w5.heap.size := by have := HG5.out.size; omega
  generalize (w5.alloc (.cells #[.int .u8 1, .string (bs [80, 110, 49, 59]), .int .i64 0, .slice none 0 0, .int .u8 5, .string (bs []), .int .i64 0, .slice ad5 [xPre, xOld].length c5] 25)) = w6 at *
  generalize w5.heap.size = A6 at *
  have hs6 : w.heap.size ≤ w6.heap.size := hg6.size
  refine (lkAny [xSig, xAll] A6 0 _ _ (by decide) (by decide) _ (blk_lt HA66.out) trivial hrow6).mono ?_
  rintro e w7 ⟨hb7, v7, rfl, hl7⟩
  obtain ⟨ad7, c7, rfl, _⟩ := lockIn_open hl7
  have HX7 := Lib.hid (lockIn_mono (q := fun _ => True) (fun _ _ _ => trivial) _ _ hl7)
  clear hl7 hrow6
  have HG7 := Lib.hid (gok_below HG6.out hb7)
  have hg7 : GL [] w w7 := gl_below hb7 hg6
  have hs7 := hg7.size
  go_wp2_with fail
  have HX8 := Lib.hid (lockIn_gl (gl_alloc (gl_refl _ _) (.cells #[.int .u8 6, .string (bs []), .int .i64 0, .slice ad7 [xSig, xAll].length c7] 25)) _ _ HX7.out)
  have HL8 : Hid ((w7.alloc (.cells #[.int .u8 6, .string (bs []), .int .i64 0, .slice ad7 [xSig, xAll].length c7] 25)).heap[w7.heap.size]? = some (.cells #[.int .u8 6, .string (bs []), .int .i64 0, .slice ad7 [xSig, xAll].length c7] 25 (0, 0))) := by
    have h := blk_new w7 (.cells #[.int .u8 6, .string (bs []), .int .i64 0, .slice ad7 [xSig, xAll].length c7] 25)
    exact h
  have HG8 := Lib.hid (gok_alloc HG7.out (.cells #[.int .u8 6, .string (bs []), .int .i64 0, .slice ad7 [xSig, xAll].length c7] 25))
  have hg8 : GL [] w (w7.alloc (.cells #[.int .u8 6, .string (bs []), .int .i64 0, .slice ad7 [xSig, xAll].length c7] 25)) := (gl_alloc hg7 (.cells #[.int .u8 6, .string (bs []), .int .i64 0, .slice ad7 [xSig, xAll].length c7] 25))
  have geL : w.heap.size ≤ w7.heap.size := by have := hg7.size; omega
  have gnL : gN ≤ w7.heap.size := by have := HG7.out.size; omega
  generalize (w7.alloc (.cells #[.int .u8 6, .string (bs []), .int .i64 0, .slice ad7 [xSig, xAll].length c7] 25)) = w8 at *
  generalize w7.heap.size = L at *
  have hs8 : w.heap.size ≤ w8.heap.size := hg8.size
  refine (lkWrite xAny _ _ _ HX8.out HG8.out).mono ?_
  rintro e w9 ⟨rfl, hb9⟩
  rw [x_write]
  have HL9 := Lib.hid (blk_below HL8.out hb9 (blk_lt HL8.out))
  have HG9 := Lib.hid (gok_below HG8.out hb9)
  have hg9 : GL [] w w9 := gl_below hb9 hg8
  have hs9 : w.heap.size ≤ w9.heap.size := hg9.size
  have HX9 := Lib.hid (lockIn_gl (gl_below hb9 (gl_refl _ _)) _ _ HX8.out)
  go_wp2_with fail
  refine (lkRead txt11 (by decide) _ HG9.out).mono ?_
  intro e w10 hp
  rw [x_read] at hp
  obtain ⟨hb10, v10, rfl, hl10⟩ := hp
  obtain ⟨ad10, c10, rfl, _⟩ := lockIn_open hl10
  have HM10 := Lib.hid (lockIn_mono (q := fun _ => True) (fun _ _ _ => trivial) _ _ hl10)
  clear hl10
  have HX10 := Lib.hid (lockIn_gl (gl_below hb10 (gl_refl _ _)) _ _ HX9.out)
  have HL10 := Lib.hid (blk_below HL9.out hb10 (blk_lt HL9.out))
  have HG10 := Lib.hid (gok_below HG9.out hb10)
  have hg10 : GL [] w w10 := gl_below hb10 hg9
  have hs10 := hg10.size
  have fa1 := blk_cell HL10.out
  have fb1 := blk_free HL10.out
  have fl1 := blk_lt HL10.out
  have flx1 : L < w10.heap.size + 1 := by omega
  have flx2 : L < w10.heap.size + 1 + 1 := by omega
  have flx3 : L < w10.heap.size + 1 + 1 + 1 := by omega
  have flx4 : L < w10.heap.size + 1 + 1 + 1 + 1 := by omega
  have flx5 : L < w10.heap.size + 1 + 1 + 1 + 1 + 1 := by omega
  go_wp2_with fail
  clear fa1 fb1 fl1
  clear flx1 flx2 flx3 flx4 flx5
  have hts := termsAt_gl (terms_one (w10.alloc (.cells #[.int .u8 6, .string (bs []), .int .i64 0, .slice ad10 [xSig, xAll].length c10] 25)) [83, 110, 49, 59, 116, 49, 58, 120] 22 1) (gl_alloc (gl_alloc (gl_alloc (gl_refl _ _) (.cells #[.slice (some ⟨w10.heap.size + 1, 0, none⟩) 1 1, .slice none 0 0] 40)) (.cells #[.string (bs [110, 50, 59])] 22)) (.cells #[.slice none 0 0, .slice (some ⟨w10.heap.size + 1 + 1 + 1, 0, none⟩) 1 1] 40))
  have htp := termsAt_gl (terms_one (((w10.alloc (.cells #[.int .u8 6, .string (bs []), .int .i64 0, .slice ad10 [xSig, xAll].length c10] 25)).alloc (.cells #[.string (bs [83, 110, 49, 59, 116, 49, 58, 120])] 22)).alloc (.cells #[.slice (some ⟨w10.heap.size + 1, 0, none⟩) 1 1, .slice none 0 0] 40)) [110, 50, 59] 22 1) (gl_alloc (gl_refl _ _) (.cells #[.slice none 0 0, .slice (some ⟨w10.heap.size + 1 + 1 + 1, 0, none⟩) 1 1] 40))
  rw [show (w10.alloc (.cells #[.int .u8 6, .string (bs []), .int .i64 0, .slice ad10 [xSig, xAll].length c10] 25)).heap.size = w10.heap.size + 1 by simp] at hts
  rw [show (((w10.alloc (.cells #[.int .u8 6, .string (bs []), .int .i64 0, .slice ad10 [xSig, xAll].length c10] 25)).alloc (.cells #[.string (bs [83, 110, 49, 59, 116, 49, 58, 120])] 22)).alloc (.cells #[.slice (some ⟨w10.heap.size + 1, 0, none⟩) 1 1, .slice none 0 0] 40)).heap.size = w10.heap.size + 1 + 1 + 1 by simp] at htp
  have HS11 := Lib.hid hts
  have HP11 := Lib.hid htp
  clear hts htp
  have HX11 := Lib.hid (lockIn_gl (gl_alloc (gl_alloc (gl_alloc (gl_alloc (gl_alloc (gl_refl _ _) (.cells #[.int .u8 6, .string (bs []), .int .i64 0, .slice ad10 [xSig, xAll].length c10] 25)) (.cells #[.string (bs [83, 110, 49, 59, 116, 49, 58, 120])] 22)) (.cells #[.slice (some ⟨w10.heap.size + 1, 0, none⟩) 1 1, .slice none 0 0] 40)) (.cells #[.string (bs [110, 50, 59])] 22)) (.cells #[.slice none 0 0, .slice (some ⟨w10.heap.size + 1 + 1 + 1, 0, none⟩) 1 1] 40)) _ _ HX10.out)
  have HM11 := Lib.hid (lockIn_gl (gl_alloc (gl_alloc (gl_alloc (gl_alloc (gl_alloc (gl_refl _ _) (.cells #[.int .u8 6, .string (bs []), .int .i64 0, .slice ad10 [xSig, xAll].length c10] 25)) (.cells #[.string (bs [83, 110, 49, 59, 116, 49, 58, 120])] 22)) (.cells #[.slice (some ⟨w10.heap.size + 1, 0, none⟩) 1 1, .slice none 0 0] 40)) (.cells #[.string (bs [110, 50, 59])] 22)) (.cells #[.slice none 0 0, .slice (some ⟨w10.heap.size + 1 + 1 + 1, 0, none⟩) 1 1] 40)) _ _ HM10.out)
  have HL11 := Lib.hid (blk_alloc (blk_alloc (blk_alloc (blk_alloc (blk_alloc HL10.out (.cells #[.int .u8 6, .string (bs []), .int .i64 0, .slice ad10 [xSig, xAll].length c10] 25)) (.cells #[.string (bs [83, 110, 49, 59, 116, 49, 58, 120])] 22)) (.cells #[.slice (some ⟨w10.heap.size + 1, 0, none⟩) 1 1, .slice none 0 0] 40)) (.cells #[.string (bs [110, 50, 59])] 22)) (.cells #[.slice none 0 0, .slice (some ⟨w10.heap.size + 1 + 1 + 1, 0, none⟩) 1 1] 40))
  have ltLMB : L < w10.heap.size := by have := blk_lt HL10.out; omega
  have neLMB : L ≠ w10.heap.size := by omega
  have neMBL : w10.heap.size ≠ L := by omega
  have ltLSB : L < w10.heap.size + 1 := by have := blk_lt HL10.out; omega
  have neLSB : L ≠ w10.heap.size + 1 := by omega
  have neSBL : w10.heap.size + 1 ≠ L := by omega
  have ltLW1 : L < w10.heap.size + 1 + 1 := by have := blk_lt HL10.out; omega
  have neLW1 : L ≠ w10.heap.size + 1 + 1 := by omega
  have neW1L : w10.heap.size + 1 + 1 ≠ L := by omega
  have ltLPB : L < w10.heap.size + 1 + 1 + 1 := by have := blk_lt HL10.out; omega
  have neLPB : L ≠ w10.heap.size + 1 + 1 + 1 := by omega
  have nePBL : w10.heap.size + 1 + 1 + 1 ≠ L := by omega
  have ltLW2 : L < w10.heap.size + 1 + 1 + 1 + 1 := by have := blk_lt HL10.out; omega
  have neLW2 : L ≠ w10.heap.size + 1 + 1 + 1 + 1 := by omega
  have neW2L : w10.heap.size + 1 + 1 + 1 + 1 ≠ L := by omega
  have HMB11 : Hid ((((((w10.alloc (.cells #[.int .u8 6, .string (bs []), .int .i64 0, .slice ad10 [xSig, xAll].length c10] 25)).alloc (.cells #[.string (bs [83, 110, 49, 59, 116, 49, 58, 120])] 22)).alloc (.cells #[.slice (some ⟨w10.heap.size + 1, 0, none⟩) 1 1, .slice none 0 0] 40)).alloc (.cells #[.string (bs [110, 50, 59])] 22)).alloc (.cells #[.slice none 0 0, .slice (some ⟨w10.heap.size + 1 + 1 + 1, 0, none⟩) 1 1] 40)).heap[w10.heap.size]? = some (.cells #[.int .u8 6, .string (bs []), .int .i64 0, .slice ad10 [xSig, xAll].length c10] 25 (0, 0))) := by
    have h := blk_new w10 (.cells #[.int .u8 6, .string (bs []), .int .i64 0, .slice ad10 [xSig, xAll].length c10] 25)
    exact (blk_alloc (blk_alloc (blk_alloc (blk_alloc h (.cells #[.string (bs [83, 110, 49, 59, 116, 49, 58, 120])] 22)) (.cells #[.slice (some ⟨w10.heap.size + 1, 0, none⟩) 1 1, .slice none 0 0] 40)) (.cells #[.string (bs [110, 50, 59])] 22)) (.cells #[.slice none 0 0, .slice (some ⟨w10.heap.size + 1 + 1 + 1, 0, none⟩) 1 1] 40))
  have HSB11 : Hid ((((((w10.alloc (.cells #[.int .u8 6, .string (bs []), .int .i64 0, .slice ad10 [xSig, xAll].length c10] 25)).alloc (.cells #[.string (bs [83, 110, 49, 59, 116, 49, 58, 120])] 22)).alloc (.cells #[.slice (some ⟨w10.heap.size + 1, 0, none⟩) 1 1, .slice none 0 0] 40)).alloc (.cells #[.string (bs [110, 50, 59])] 22)).alloc (.cells #[.slice none 0 0, .slice (some ⟨w10.heap.size + 1 + 1 + 1, 0, none⟩) 1 1] 40)).heap[w10.heap.size + 1]? = some (.cells #[.string (bs [83, 110, 49, 59, 116, 49, 58, 120])] 22 (0, 0))) := by
    have h := blk_new (w10.alloc (.cells #[.int .u8 6, .string (bs []), .int .i64 0, .slice ad10 [xSig, xAll].length c10] 25)) (.cells #[.string (bs [83, 110, 49, 59, 116, 49, 58, 120])] 22)
    rw [show (w10.alloc (.cells #[.int .u8 6, .string (bs []), .int .i64 0, .slice ad10 [xSig, xAll].length c10] 25)).heap.size = w10.heap.size + 1 by simp] at h
    exact (blk_alloc (blk_alloc (blk_alloc h (.cells #[.slice (some ⟨w10.heap.size + 1, 0, none⟩) 1 1, .slice none 0 0] 40)) (.cells #[.string (bs [110, 50, 59])] 22)) (.cells #[.slice none 0 0, .slice (some ⟨w10.heap.size + 1 + 1 + 1, 0, none⟩) 1 1] 40))
  have HW111 : Hid ((((((w10.alloc (.cells #[.int .u8 6, .string (bs []), .int .i64 0, .slice ad10 [xSig, xAll].length c10] 25)).alloc (.cells #[.string (bs [83, 110, 49, 59, 116, 49, 58, 120])] 22)).alloc (.cells #[.slice (some ⟨w10.heap.size + 1, 0, none⟩) 1 1, .slice none 0 0] 40)).alloc (.cells #[.string (bs [110, 50, 59])] 22)).alloc (.cells #[.slice none 0 0, .slice (some ⟨w10.heap.size + 1 + 1 + 1, 0, none⟩) 1 1] 40)).heap[w10.heap.size + 1 + 1]? = some (.cells #[.slice (some ⟨w10.heap.size + 1, 0, none⟩) 1 1, .slice none 0 0] 40 (0, 0))) := by
    have h := blk_new ((w10.alloc (.cells #[.int .u8 6, .string (bs []), .int .i64 0, .slice ad10 [xSig, xAll].length c10] 25)).alloc (.cells #[.string (bs [83, 110, 49, 59, 116, 49, 58, 120])] 22)) (.cells #[.slice (some ⟨w10.heap.size + 1, 0, none⟩) 1 1, .slice none 0 0] 40)
    rw [show ((w10.alloc (.cells #[.int .u8 6, .string (bs []), .int .i64 0, .slice ad10 [xSig, xAll].length c10] 25)).alloc (.cells #[.string (bs [83, 110, 49, 59, 116, 49, 58, 120])] 22)).heap.size = w10.heap.size + 1 + 1 by simp] at h
    exact (blk_alloc (blk_alloc h (.cells #[.string (bs [110, 50, 59])] 22)) (.cells #[.slice none 0 0, .slice (some ⟨w10.heap.size + 1 + 1 + 1, 0, none⟩) 1 1] 40))
  have HPB11 : Hid ((((((w10.alloc (.cells #[.int .u8 6, .string (bs []), .int .i64 0, .slice ad10 [xSig, xAll].length c10] 25)).alloc (.cells #[.string (bs [83, 110, 49, 59, 116, 49, 58, 120])] 22)).alloc (.cells #[.slice (some ⟨w10.heap.size + 1, 0, none⟩) 1 1, .slice none 0 0] 40)).alloc (.cells #[.string (bs [110, 50, 59])] 22)).alloc (.cells #[.slice none 0 0, .slice (some ⟨w10.heap.size + 1 + 1 + 1, 0, none⟩) 1 1] 40)).heap[w10.heap.size + 1 + 1 + 1]? = some (.cells #[.string (bs [110, 50, 59])] 22 (0, 0))) := by
    have h := blk_new (((w10.alloc (.cells #[.int .u8 6, .string (bs []), .int .i64 0, .slice ad10 [xSig, xAll].length c10] 25)).alloc (.cells #[.string (bs [83, 110, 49, 59, 116, 49, 58, 120])] 22)).alloc (.cells #[.slice (some ⟨w10.heap.size + 1, 0, none⟩) 1 1, .slice none 0 0] 40)) (.cells #[.string (bs [110, 50, 59])] 22)
    rw [show (((w10.alloc (.cells #[.int .u8 6, .string (bs []), .int .i64 0, .slice ad10 [xSig, xAll].length c10] 25)).alloc (.cells #[.string (bs [83, 110, 49, 59, 116, 49, 58, 120])] 22)).alloc (.cells #[.slice (some ⟨w10.heap.size + 1, 0, none⟩) 1 1, .slice none 0 0] 40)).heap.size = w10.heap.size + 1 + 1 + 1 by simp] at h
    exact (blk_alloc h (.cells #[.slice none 0 0, .slice (some ⟨w10.heap.size + 1 + 1 + 1, 0, none⟩) 1 1] 40))
  have HW211 : Hid ((((((w10.alloc (.cells #[.int .u8 6, .string (bs []), .int .i64 0, .slice ad10 [xSig, xAll].length c10] 25)).alloc (.cells #[.string (bs [83, 110, 49, 59, 116, 49, 58, 120])] 22)).alloc (.cells #[.slice (some ⟨w10.heap.size + 1, 0, none⟩) 1 1, .slice none 0 0] 40)).alloc (.cells #[.string (bs [110, 50, 59])] 22)).alloc (.cells #[.slice none 0 0, .slice (some ⟨w10.heap.size + 1 + 1 + 1, 0, none⟩) 1 1] 40)).heap[w10.heap.size + 1 + 1 + 1 + 1]? = some (.cells #[.slice none 0 0, .slice (some ⟨w10.heap.size + 1 + 1 + 1, 0, none⟩) 1 1] 40 (0, 0))) := by
    have h := blk_new ((((w10.alloc (.cells #[.int .u8 6, .string (bs []), .int .i64 0, .slice ad10 [xSig, xAll].length c10] 25)).alloc (.cells #[.string (bs [83, 110, 49, 59, 116, 49, 58, 120])] 22)).alloc (.cells #[.slice (some ⟨w10.heap.size + 1, 0, none⟩) 1 1, .slice none 0 0] 40)).alloc (.cells #[.string (bs [110, 50, 59])] 22)) (.cells #[.slice none 0 0, .slice (some ⟨w10.heap.size + 1 + 1 + 1, 0, none⟩) 1 1] 40)
    rw [show ((((w10.alloc (.cells #[.int .u8 6, .string (bs []), .int .i64 0, .slice ad10 [xSig, xAll].length c10] 25)).alloc (.cells #[.string (bs [83, 110, 49, 59, 116, 49, 58, 120])] 22)).alloc (.cells #[.slice (some ⟨w10.heap.size + 1, 0, none⟩) 1 1, .slice none 0 0] 40)).alloc (.cells #[.string (bs [110, 50, 59])] 22)).heap.size = w10.heap.size + 1 + 1 + 1 + 1 by simp] at h
    exact h
  have HG11 := Lib.hid (gok_alloc (gok_alloc (gok_alloc (gok_alloc (gok_alloc HG10.out (.cells #[.int .u8 6, .string (bs []), .int .i64 0, .slice ad10 [xSig, xAll].length c10] 25)) (.cells #[.string (bs [83, 110, 49, 59, 116, 49, 58, 120])] 22)) (.cells #[.slice (some ⟨w10.heap.size + 1, 0, none⟩) 1 1, .slice none 0 0] 40)) (.cells #[.string (bs [110, 50, 59])] 22)) (.cells #[.slice none 0 0, .slice (some ⟨w10.heap.size + 1 + 1 + 1, 0, none⟩) 1 1] 40))
  have hg11 : GL [] w (((((w10.alloc (.cells #[.int .u8 6, .string (bs []), .int .i64 0, .slice ad10 [xSig, xAll].length c10] 25)).alloc (.cells #[.string (bs [83, 110, 49, 59, 116, 49, 58, 120])] 22)).alloc (.cells #[.slice (some ⟨w10.heap.size + 1, 0, none⟩) 1 1, .slice none 0 0] 40)).alloc (.cells #[.string (bs [110, 50, 59])] 22)).alloc (.cells #[.slice none 0 0, .slice (some ⟨w10.heap.size + 1 + 1 + 1, 0, none⟩) 1 1] 40)) := (gl_alloc (gl_alloc (gl_alloc (gl_alloc (gl_alloc hg10 (.cells #[.int .u8 6, .string (bs []), .int .i64 0, .slice ad10 [xSig, xAll].length c10] 25)) (.cells #[.string (bs [83, 110, 49, 59, 116, 49, 58, 120])] 22)) (.cells #[.slice (some ⟨w10.heap.size + 1, 0, none⟩) 1 1, .slice none 0 0] 40)) (.cells #[.string (bs [110, 50, 59])] 22)) (.cells #[.slice none 0 0, .slice (some ⟨w10.heap.size + 1 + 1 + 1, 0, none⟩) 1 1] 40))
  have geMB : w.heap.size ≤ w10.heap.size := by have := hg10.size; omega
  have gnMB : gN ≤ w10.heap.size := by have := HG10.out.size; omega
  have geSB : w.heap.size ≤ w10.heap.size + 1 := by have := hg10.size; omega
  have gnSB : gN ≤ w10.heap.size + 1 := by have := HG10.out.size; omega
  have ltMBSB : w10.heap.size < w10.heap.size + 1 := by omega
  have neMBSB : w10.heap.size ≠ w10.heap.size + 1 := by omega
  have neSBMB : w10.heap.size + 1 ≠ w10.heap.size := by omega
  have geW1 : w.heap.size ≤ w10.heap.size + 1 + 1 := by have := hg10.size; omega
  have gnW1 : gN ≤ w10.heap.size + 1 + 1 := by have := HG10.out.size; omega
  have ltMBW1 : w10.heap.size < w10.heap.size + 1 + 1 := by omega
  have neMBW1 : w10.heap.size ≠ w10.heap.size + 1 + 1 := by omega
  have neW1MB : w10.heap.size + 1 + 1 ≠ w10.heap.size := by omega
  have ltSBW1 : w10.heap.size + 1 < w10.heap.size + 1 + 1 := by omega
  have neSBW1 : w10.heap.size + 1 ≠ w10.heap.size + 1 + 1 := by omega
  have neW1SB : w10.heap.size + 1 + 1 ≠ w10.heap.size + 1 := by omega
  have gePB : w.heap.size ≤ w10.heap.size + 1 + 1 + 1 := by have := hg10.size; omega
  have gnPB : gN ≤ w10.heap.size + 1 + 1 + 1 := by have := HG10.out.size; omega
  have ltMBPB : w10.heap.size < w10.heap.size + 1 + 1 + 1 := by omega
  have neMBPB : w10.heap.size ≠ w10.heap.size + 1 + 1 + 1 := by omega
  have nePBMB : w10.heap.size + 1 + 1 + 1 ≠ w10.heap.size := by omega
  have ltSBPB : w10.heap.size + 1 < w10.heap.size + 1 + 1 + 1 := by omega
  have neSBPB : w10.heap.size + 1 ≠ w10.heap.size + 1 + 1 + 1 := by omega
  have nePBSB : w10.heap.size + 1 + 1 + 1 ≠ w10.heap.size + 1 := by omega
  have ltW1PB : w10.heap.size + 1 + 1 < w10.heap.size + 1 + 1 + 1 := by omega
  have neW1PB : w10.heap.size + 1 + 1 ≠ w10.heap.size + 1 + 1 + 1 := by omega
  have nePBW1 : w10.heap.size + 1 + 1 + 1 ≠ w10.heap.size + 1 + 1 := by omega
  have geW2 : w.heap.size ≤ w10.heap.size + 1 + 1 + 1 + 1 := by have := hg10.size; omega
  have gnW2 : gN ≤ w10.heap.size + 1 + 1 + 1 + 1 := by have := HG10.out.size; omega
  have ltMBW2 : w10.heap.size < w10.heap.size + 1 + 1 + 1 + 1 := by omega
  have neMBW2 : w10.heap.size ≠ w10.heap.size + 1 + 1 + 1 + 1 := by omega
  have neW2MB : w10.heap.size + 1 + 1 + 1 + 1 ≠ w10.heap.size := by omega
  have ltSBW2 : w10.heap.size + 1 < w10.heap.size + 1 + 1 + 1 + 1 := by omega
  have neSBW2 : w10.heap.size + 1 ≠ w10.heap.size + 1 + 1 + 1 + 1 := by omega
  have neW2SB : w10.heap.size + 1 + 1 + 1 + 1 ≠ w10.heap.size + 1 := by omega
  have ltW1W2 : w10.heap.size + 1 + 1 < w10.heap.size + 1 + 1 + 1 + 1 := by omega
  have neW1W2 : w10.heap.size + 1 + 1 ≠ w10.heap.size + 1 + 1 + 1 + 1 := by omega
  have neW2W1 : w10.heap.size + 1 + 1 + 1 + 1 ≠ w10.heap.size + 1 + 1 := by omega
  have ltPBW2 : w10.heap.size + 1 + 1 + 1 < w10.heap.size + 1 + 1 + 1 + 1 := by omega
  have nePBW2 : w10.heap.size + 1 + 1 + 1 ≠ w10.heap.size + 1 + 1 + 1 + 1 := by omega
  have neW2PB : w10.heap.size + 1 + 1 + 1 + 1 ≠ w10.heap.size + 1 + 1 + 1 := by omega
  generalize (((((w10.alloc (.cells #[.int .u8 6, .string (bs []), .int .i64 0, .slice ad10 [xSig, xAll].length c10] 25)).alloc (.cells #[.string (bs [83, 110, 49, 59, 116, 49, 58, 120])] 22)).alloc (.cells #[.slice (some ⟨w10.heap.size + 1, 0, none⟩) 1 1, .slice none 0 0] 40)).alloc (.cells #[.string (bs [110, 50, 59])] 22)).alloc (.cells #[.slice none 0 0, .slice (some ⟨w10.heap.size + 1 + 1 + 1, 0, none⟩) 1 1] 40)) = w11 at *
  generalize w10.heap.size + 1 + 1 + 1 + 1 = W2 at *
  generalize w10.heap.size + 1 + 1 + 1 = PB at *
  generalize w10.heap.size + 1 + 1 = W1 at *
  generalize w10.heap.size + 1 = SB at *
  generalize w10.heap.size = MB at *
  have hs11 : w.heap.size ≤ w11.heap.size := hg11.size
  refine (lkSame xAny xAny _ _ _ _ _ HX11.out HM11.out).mono ?_
  rintro e w12 ⟨rfl, hb12⟩
  rw [sameL_self]
  have HL12 := Lib.hid (blk_below HL11.out hb12 (blk_lt HL11.out))
  have HW212 := Lib.hid (blk_below HW211.out hb12 (blk_lt HW211.out))
  have HPB12 := Lib.hid (blk_below HPB11.out hb12 (blk_lt HPB11.out))
  have HW112 := Lib.hid (blk_below HW111.out hb12 (blk_lt HW111.out))
  have HSB12 := Lib.hid (blk_below HSB11.out hb12 (blk_lt HSB11.out))
  have HMB12 := Lib.hid (blk_below HMB11.out hb12 (blk_lt HMB11.out))
  have HG12 := Lib.hid (gok_below HG11.out hb12)
  have hg12 : GL [] w w12 := gl_below hb12 hg11
  have hs12 : w.heap.size ≤ w12.heap.size := hg12.size
  have HX12 := Lib.hid (lockIn_gl (gl_below hb12 (gl_refl _ _)) _ _ HX11.out)
  have HM12 := Lib.hid (lockIn_gl (gl_below hb12 (gl_refl _ _)) _ _ HM11.out)
  have HS12 := Lib.hid (termsAt_gl HS11.out (gl_below hb12 (gl_refl _ _)))
  have HP12 := Lib.hid (termsAt_gl HP11.out (gl_below hb12 (gl_refl _ _)))
  have fa2 := blk_cell HL12.out
  have fb2 := blk_free HL12.out
  have fl2 := blk_lt HL12.out
  have fa3 := blk_cell HW112.out
  have fb3 := blk_free HW112.out
  have fl3 := blk_lt HW112.out
  go_wp2_with fail
  refine (lkOpens xAny _ _ _ _ [[83, 110, 49, 59, 116, 49, 58, 120]] [] [116, 49, 58, 120] 0 0 _ HX12.out HS12.out (.inl ⟨none, 0, rfl, rfl⟩) (by simp) (by simp) (by simp) (by simp) (by omega) (by omega) HG12.out).mono ?_
  rintro e w13 ⟨rfl, hb13⟩
  rw [x_open1]
  clear fa2 fb2 fl2 fa3 fb3 fl3
  have HL13 := Lib.hid (blk_below HL12.out hb13 (blk_lt HL12.out))
  have HW213 := Lib.hid (blk_below HW212.out hb13 (blk_lt HW212.out))
  have HPB13 := Lib.hid (blk_below HPB12.out hb13 (blk_lt HPB12.out))
  have HW113 := Lib.hid (blk_below HW112.out hb13 (blk_lt HW112.out))
  have HSB13 := Lib.hid (blk_below HSB12.out hb13 (blk_lt HSB12.out))
  have HMB13 := Lib.hid (blk_below HMB12.out hb13 (blk_lt HMB12.out))
  have HG13 := Lib.hid (gok_below HG12.out hb13)
  have hg13 : GL [] w w13 := gl_below hb13 hg12
  have hs13 : w.heap.size ≤ w13.heap.size := hg13.size
  have HX13 := Lib.hid (lockIn_gl (gl_below hb13 (gl_refl _ _)) _ _ HX12.out)
  have HM13 := Lib.hid (lockIn_gl (gl_below hb13 (gl_refl _ _)) _ _ HM12.out)
  have HS13 := Lib.hid (termsAt_gl HS12.out (gl_below hb13 (gl_refl _ _)))
  have HP13 := Lib.hid (termsAt_gl HP12.out (gl_below hb13 (gl_refl _ _)))
  have fa4 := blk_cell HL13.out
  have fb4 := blk_free HL13.out
  have fl4 := blk_lt HL13.out
  have fa5 := blk_cell HW113.out
  have fb5 := blk_free HW113.out
  have fl5 := blk_lt HW113.out
  go_wp2_with fail
  refine (lkOpens xAny _ _ _ _ [[83, 110, 49, 59, 116, 49, 58, 120]] [] [116, 49, 58, 121] 0 0 _ HX13.out HS13.out (.inl ⟨none, 0, rfl, rfl⟩) (by simp) (by simp) (by simp) (by simp) (by omega) (by omega) HG13.out).mono ?_
  rintro e w14 ⟨rfl, hb14⟩
  rw [x_open2]
  clear fa4 fb4 fl4 fa5 fb5 fl5
  have HL14 := Lib.hid (blk_below HL13.out hb14 (blk_lt HL13.out))
  have HW214 := Lib.hid (blk_below HW213.out hb14 (blk_lt HW213.out))
  have HPB14 := Lib.hid (blk_below HPB13.out hb14 (blk_lt HPB13.out))
  have HW114 := Lib.hid (blk_below HW113.out hb14 (blk_lt HW113.out))
  have HSB14 := Lib.hid (blk_below HSB13.out hb14 (blk_lt HSB13.out))
  have HMB14 := Lib.hid (blk_below HMB13.out hb14 (blk_lt HMB13.out))
  have HG14 := Lib.hid (gok_below HG13.out hb14)
  have hg14 : GL [] w w14 := gl_below hb14 hg13
  have hs14 : w.heap.size ≤ w14.heap.size := hg14.size
  have HX14 := Lib.hid (lockIn_gl (gl_below hb14 (gl_refl _ _)) _ _ HX13.out)
  have HM14 := Lib.hid (lockIn_gl (gl_below hb14 (gl_refl _ _)) _ _ HM13.out)
  have HS14 := Lib.hid (termsAt_gl HS13.out (gl_below hb14 (gl_refl _ _)))
  have HP14 := Lib.hid (termsAt_gl HP13.out (gl_below hb14 (gl_refl _ _)))
  have fa6 := blk_cell HL14.out
  have fb6 := blk_free HL14.out
  have fl6 := blk_lt HL14.out
  have fa7 := blk_cell HW214.out
  have fb7 := blk_free HW214.out
  have fl7 := blk_lt HW214.out
  go_wp2_with fail
  refine (lkOpens xAny _ _ _ _ [] [[110, 50, 59]] [116, 49, 58, 120] 0 6 _ HX14.out (.inl ⟨none, 0, rfl, rfl⟩) HP14.out (by simp) (by simp) (by simp) (by simp) (by omega) (by omega) HG14.out).mono ?_
  rintro e w15 ⟨rfl, hb15⟩
  rw [x_open3]
  clear fa6 fb6 fl6 fa7 fb7 fl7
  have HL15 := Lib.hid (blk_below HL14.out hb15 (blk_lt HL14.out))
  have HW215 := Lib.hid (blk_below HW214.out hb15 (blk_lt HW214.out))
  have HPB15 := Lib.hid (blk_below HPB14.out hb15 (blk_lt HPB14.out))
  have HW115 := Lib.hid (blk_below HW114.out hb15 (blk_lt HW114.out))
  have HSB15 := Lib.hid (blk_below HSB14.out hb15 (blk_lt HSB14.out))
  have HMB15 := Lib.hid (blk_below HMB14.out hb15 (blk_lt HMB14.out))
  have HG15 := Lib.hid (gok_below HG14.out hb15)
  have hg15 : GL [] w w15 := gl_below hb15 hg14
  have hs15 : w.heap.size ≤ w15.heap.size := hg15.size
  have HX15 := Lib.hid (lockIn_gl (gl_below hb15 (gl_refl _ _)) _ _ HX14.out)
  have HM15 := Lib.hid (lockIn_gl (gl_below hb15 (gl_refl _ _)) _ _ HM14.out)
  have HS15 := Lib.hid (termsAt_gl HS14.out (gl_below hb15 (gl_refl _ _)))
  have HP15 := Lib.hid (termsAt_gl HP14.out (gl_below hb15 (gl_refl _ _)))
  have fa8 := blk_cell HL15.out
  have fb8 := blk_free HL15.out
  have fl8 := blk_lt HL15.out
  have fa9 := blk_cell HW215.out
  have fb9 := blk_free HW215.out
  have fl9 := blk_lt HW215.out
  go_wp2_with fail
  refine (lkOpens xAny _ _ _ _ [] [[110, 50, 59]] [116, 49, 58, 120] 0 5 _ HX15.out (.inl ⟨none, 0, rfl, rfl⟩) HP15.out (by simp) (by simp) (by simp) (by simp) (by omega) (by omega) HG15.out).mono ?_
  rintro e w16 ⟨rfl, hb16⟩
  rw [x_open4]
  clear fa8 fb8 fl8 fa9 fb9 fl9
  have HL16 := Lib.hid (blk_below HL15.out hb16 (blk_lt HL15.out))
  have HW216 := Lib.hid (blk_below HW215.out hb16 (blk_lt HW215.out))
  have HPB16 := Lib.hid (blk_below HPB15.out hb16 (blk_lt HPB15.out))
  have HW116 := Lib.hid (blk_below HW115.out hb16 (blk_lt HW115.out))
  have HSB16 := Lib.hid (blk_below HSB15.out hb16 (blk_lt HSB15.out))
  have HMB16 := Lib.hid (blk_below HMB15.out hb16 (blk_lt HMB15.out))
  have HG16 := Lib.hid (gok_below HG15.out hb16)
  have hg16 : GL [] w w16 := gl_below hb16 hg15
  have hs16 : w.heap.size ≤ w16.heap.size := hg16.size
  have HX16 := Lib.hid (lockIn_gl (gl_below hb16 (gl_refl _ _)) _ _ HX15.out)
  have HM16 := Lib.hid (lockIn_gl (gl_below hb16 (gl_refl _ _)) _ _ HM15.out)
  have HS16 := Lib.hid (termsAt_gl HS15.out (gl_below hb16 (gl_refl _ _)))
  have HP16 := Lib.hid (termsAt_gl HP15.out (gl_below hb16 (gl_refl _ _)))
  have fa10 := blk_cell HL16.out
  have fb10 := blk_free HL16.out
  have fl10 := blk_lt HL16.out
  go_wp2_with fail
  refine (lkKeys xAny _ _ _ HX16.out HG16.out).mono ?_
  rintro e w17 ⟨hb17, u, rfl, hu⟩
  rw [x_keys] at hu
  obtain ⟨ua, uc, rfl, _⟩ := termsAt_open hu
  clear hu
  go_wp2_with fail
  go_ret
  exact ⟨rfl, gl_to_below (gl_below hb17 hg16)⟩

set_option maxRecDepth 100000 in
set_option maxHeartbeats 4000000 in
theorem lLarge (sa pa : Option Addr) (sc pc : Nat) (sigs pres : List (List UInt8)) (msg : List UInt8) (w : World) (hS : TermsAt (.slice sa sigs.length sc) sigs w) (hP : TermsAt (.slice pa pres.length pc) pres w) (hsn : sigs.length ≤ 9000000000000000000) (hpn : pres.length ≤ 9000000000000000000) :
    Calls Tryz.prog 27 #[.agg #[.slice sa sigs.length sc, .slice pa pres.length pc], .string (bs msg)] w fun e w' => Below w.heap.size w w' ∧ IsBool e := by
  have HS := Lib.hid hS
  have HP := Lib.hid hP
  clear hS hP
  go_enter Tryz.func27, Tryz.ntmps27
  go_wp2
  go_loopw [5, 6] (fun nv iv wr => ∃ (j : Nat) (s : Int), j ≤ sigs.length ∧ iv = .int .i64 j ∧ nv = .int .i64 s ∧ Hid (wr.heap[w.heap.size]? = some (.cells #[.slice sa sigs.length sc, .slice pa pres.length pc] 40 (0, 0))) ∧ Hid (GL [] w wr)) (fun _ iv _ => sigs.length - (intOf iv).toNat)
  case atStart => exact ⟨0, _, by omega, rfl, rfl, Lib.hid (blk_new w _), Lib.hid (by (repeat' (first | with_reducible exact gl_refl _ _ | with_reducible assumption | with_reducible refine gl_alloc ?_ _ | with_reducible refine gl_drewN ?_ _ | with_reducible refine gl_drew ?_ | (with_reducible refine gl_setn ?_ ?_ _; · (first | exact Nat.le_refl _ | (simp; done) | (simp; omega) | omega)) | (with_reducible refine gl_seti ?_ ?_ _; · (simp; done)) | with_reducible refine gl_below (by with_reducible assumption) ?_ | with_reducible refine gl_step (by with_reducible assumption) ?_ (by first | (simp; done) | (simp; omega)) | with_reducible refine gl_grown (by with_reducible assumption) ?_ (by first | (simp; done) | (simp; omega)))))⟩
  case round =>
    obtain ⟨j, s, hj, rfl, rfl, H1, hgr⟩ := hrel
    have f1 := blk_cell H1.out
    have e1 := blk_free H1.out
    by_cases hlt : j < sigs.length
    · have i1 : (j : Int) < sigs.length := by omega
      rcases HS.out with ⟨_, _, h0, h1⟩ | ⟨b, o, c, h0, hb, hc⟩
      · subst h1; simp at hlt
      injection h0 with h01 h02 h03
      subst h01 h03
      have hx : sigs[j]? = some sigs[j] := List.getElem?_eq_getElem hlt
      have c0 : wr.cell? ⟨b, o + j, none⟩ = some (.string (bs sigs[j])) := by
        have := hc j _ hx
        simp only [World.cell?, hgr.out.block b hb (by simp)] at this ⊢
        exact this
      generalize sigs[j] = tt at *
      clear hc hx HS h02
      go_wp2
      go_roundw
      case rel => exact ⟨j + 1, _, by omega, by go_num, rfl, H1, hgr⟩
      case measure => simp [intOf]; omega
    · obtain rfl : j = sigs.length := by omega
      have i4 : decide ((sigs.length : Int) < sigs.length) = false := by simp
      go_wp2
      go_loopw [5, 7] (fun nv iv wr => ∃ (j : Nat) (s : Int), j ≤ pres.length ∧ iv = .int .i64 j ∧ nv = .int .i64 s ∧ Hid (wr.heap[w.heap.size]? = some (.cells #[.slice sa sigs.length sc, .slice pa pres.length pc] 40 (0, 0))) ∧ Hid (GL [] w wr)) (fun _ iv _ => pres.length - (intOf iv).toNat)
      case atStart => exact ⟨0, _, by omega, rfl, rfl, H1, hgr⟩
      case round =>
        obtain ⟨j, s, hj, rfl, rfl, H1, hgr⟩ := hrel
        have f1 := blk_cell H1.out
        have e1 := blk_free H1.out
        by_cases hlt : j < pres.length
        · have i1 : (j : Int) < pres.length := by omega
          rcases HP.out with ⟨_, _, h0, h1⟩ | ⟨b, o, c, h0, hb, hc⟩
          · subst h1; simp at hlt
          injection h0 with h01 h02 h03
          subst h01 h03
          have hx : pres[j]? = some pres[j] := List.getElem?_eq_getElem hlt
          have c0 : wr.cell? ⟨b, o + j, none⟩ = some (.string (bs pres[j])) := by
            have := hc j _ hx
            simp only [World.cell?, hgr.out.block b hb (by simp)] at this ⊢
            exact this
          generalize pres[j] = tt at *
          clear hc hx HP h02
          go_wp2
          go_roundw
          case rel => exact ⟨j + 1, _, by omega, by go_num, rfl, H1, hgr⟩
          case measure => simp [intOf]; omega
        · obtain rfl : j = pres.length := by omega
          have i4 : decide ((pres.length : Int) < pres.length) = false := by simp
          go_wp2
          all_goals
            go_ret
            exact ⟨gl_to_below hgr.out, ⟨_, rfl⟩⟩

end Go.Proofs.YtfmckibiblhakaaGreatDoor
