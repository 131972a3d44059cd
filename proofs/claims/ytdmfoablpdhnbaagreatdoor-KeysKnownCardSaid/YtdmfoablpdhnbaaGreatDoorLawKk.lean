/- The laws of layer 16: the examples, and about each bound. -/
import Derived.Test.YtdmfoablpdhnbaaGreatDoorKsD
import Derived.Test.YtdmfoablpdhnbaaGreatDoorLawC
import Derived.Test.YtdmfoablpdhnbaaGreatDoorRegI
set_option linter.unusedSimpArgs false
set_option linter.unusedVariables false
namespace Go.Proofs.YtdmfoablpdhnbaaGreatDoor
open Go.RowKit

def kkX : List (List UInt8) := [[110, 49, 59], [], [110], [80, 110, 49, 59], [116, 49, 58, 97], [87, 80, 110, 49, 59, 80, 110, 50, 59], [72, 110, 49, 59]]
def kkN : List Int := [(-9223372036854775808), (-1), 0, 1, 7, 1048574, 1048575, 1048576, 9223372036854775807]
theorem kkX_short : ∀ x ∈ kkX, x.length ≤ 100 := by decide +kernel
theorem kkN_in : ∀ n ∈ kkN, -9223372036854775808 ≤ n ∧ n ≤ 9223372036854775807 := by decide +kernel
theorem kk_pub : ∃ p0 p1 p2 p3 p4, publicT [110, 49, 59] [110, 50, 59] [110, 51, 59] [86, 110, 49, 59, 110, 50, 59] [75, 110, 49, 59, 116, 48, 58] = ([p0, p1, p2, p3, p4], 0) ∧ p0.length ≤ 100 ∧ p1.length ≤ 100 ∧ p2.length ≤ 100 ∧ p3.length ≤ 100 ∧ p4.length ≤ 100 :=
  ⟨[80, 110, 49, 59], [80, 110, 50, 59], [80, 110, 51, 59], [87, 80, 110, 49, 59, 80, 110, 50, 59], [76, 80, 110, 49, 59, 116, 48, 58], by decide +kernel, by decide, by decide, by decide, by decide, by decide⟩
theorem kkPick (w : World) : Calls Tryz.prog 17 #[.int .i64 1, .int .i64 2] w fun e w' => e = .returned (.int .i64 1) ∧ w' = w := by
  go_enter Tryz.func17, Tryz.ntmps17
  go_wp2_with fail
  go_ret
  exact ⟨rfl, rfl⟩
set_option maxRecDepth 100000 in
set_option maxHeartbeats 8000000 in
theorem lKeysKnown (w : World) (hG : GOk w) (hW : WordsOk w) :
    Calls Tryz.prog 4 #[] w fun e w' => e = .returned (.bool true) ∧ Below w.heap.size w w' := by
  have HG0 := Lib.hid hG
  have HW := Lib.hid hW
  have hs := hG.size
  obtain ⟨p0, p1, p2, p3, p4, hpe, l0, l1, l2, l3, l4⟩ := kk_pub
  have HPE := Lib.hid hpe
  clear hG hW hpe
  go_enter Tryz.func4, Tryz.ntmps4
  have hg0 : GL [] w w := gl_refl _ _
  have hs0 : w.heap.size ≤ w.heap.size := Nat.le_refl _
  go_wp2_with fail
  have HA1 : Hid ((w.alloc (.cells #[.string (bs [110, 49, 59]), .string (bs [110, 50, 59]), .string (bs [110, 51, 59]), .string (bs [86, 110, 49, 59, 110, 50, 59]), .string (bs [75, 110, 49, 59, 116, 48, 58]), .string (bs [110, 54, 59])] 44)).heap[w.heap.size]? = some (.cells #[.string (bs [110, 49, 59]), .string (bs [110, 50, 59]), .string (bs [110, 51, 59]), .string (bs [86, 110, 49, 59, 110, 50, 59]), .string (bs [75, 110, 49, 59, 116, 48, 58]), .string (bs [110, 54, 59])] 44 (0, 0))) := by
    have h := blk_new w (.cells #[.string (bs [110, 49, 59]), .string (bs [110, 50, 59]), .string (bs [110, 51, 59]), .string (bs [86, 110, 49, 59, 110, 50, 59]), .string (bs [75, 110, 49, 59, 116, 48, 58]), .string (bs [110, 54, 59])] 44)
    exact h
  have HG1 := Lib.hid (gok_alloc HG0.out (.cells #[.string (bs [110, 49, 59]), .string (bs [110, 50, 59]), .string (bs [110, 51, 59]), .string (bs [86, 110, 49, 59, 110, 50, 59]), .string (bs [75, 110, 49, 59, 116, 48, 58]), .string (bs [110, 54, 59])] 44))
  have hg1 : GL [] w (w.alloc (.cells #[.string (bs [110, 49, 59]), .string (bs [110, 50, 59]), .string (bs [110, 51, 59]), .string (bs [86, 110, 49, 59, 110, 50, 59]), .string (bs [75, 110, 49, 59, 116, 48, 58]), .string (bs [110, 54, 59])] 44)) := (gl_alloc hg0 (.cells #[.string (bs [110, 49, 59]), .string (bs [110, 50, 59]), .string (bs [110, 51, 59]), .string (bs [86, 110, 49, 59, 110, 50, 59]), .string (bs [75, 110, 49, 59, 116, 48, 58]), .string (bs [110, 54, 59])] 44))
  have geA : w.heap.size ≤ w.heap.size := by have := hg0.size; omega
  have gnA : gN ≤ w.heap.size := by have := HG0.out.size; omega
  generalize (w.alloc (.cells #[.string (bs [110, 49, 59]), .string (bs [110, 50, 59]), .string (bs [110, 51, 59]), .string (bs [86, 110, 49, 59, 110, 50, 59]), .string (bs [75, 110, 49, 59, 116, 48, 58]), .string (bs [110, 54, 59])] 44)) = w1 at *
  generalize w.heap.size = A at *
  have hs1 : w.heap.size ≤ w1.heap.size := hg1.size
  have fa1 := blk_cell HA1.out
  have fb1 := blk_free HA1.out
  have fl1 := blk_lt HA1.out
  go_wp2_with fail
  refine (kPublic [110, 49, 59] [110, 50, 59] [110, 51, 59] [86, 110, 49, 59, 110, 50, 59] [75, 110, 49, 59, 116, 48, 58] [110, 54, 59] (by simp) (by simp) (by simp) (by simp) (by simp) _ HG1.out).mono ?_
  rintro e w2 ⟨rfl, hb2⟩
  rw [HPE.out]
  simp only [keysV, List.getD_cons_zero, List.getD_cons_succ]
  clear fa1 fb1 fl1
  have HA2 := Lib.hid (blk_below HA1.out hb2 (blk_lt HA1.out))
  have HG2 := Lib.hid (gok_below HG1.out hb2)
  have hg2 : GL [] w w2 := gl_below hb2 hg1
  have hs2 : w.heap.size ≤ w2.heap.size := hg2.size
  go_wp2_with fail
  have HA3 := Lib.hid (blk_alloc (blk_alloc HA2.out (.cells #[.string (bs p0), .string (bs p1), .string (bs p2), .string (bs p3), .string (bs p4)] 46)) (.cells #[.string (bs [110, 49, 59]), .string (bs []), .string (bs [110]), .string (bs [80, 110, 49, 59]), .string (bs [116, 49, 58, 97]), .string (bs [87, 80, 110, 49, 59, 80, 110, 50, 59]), .string (bs [72, 110, 49, 59])] 22))
  have ltAB : A < w2.heap.size := by have := blk_lt HA2.out; omega
  have neAB : A ≠ w2.heap.size := by omega
  have neBA : w2.heap.size ≠ A := by omega
  have ltAC : A < w2.heap.size + 1 := by have := blk_lt HA2.out; omega
  have neAC : A ≠ w2.heap.size + 1 := by omega
  have neCA : w2.heap.size + 1 ≠ A := by omega
  have HB3 : Hid (((w2.alloc (.cells #[.string (bs p0), .string (bs p1), .string (bs p2), .string (bs p3), .string (bs p4)] 46)).alloc (.cells #[.string (bs [110, 49, 59]), .string (bs []), .string (bs [110]), .string (bs [80, 110, 49, 59]), .string (bs [116, 49, 58, 97]), .string (bs [87, 80, 110, 49, 59, 80, 110, 50, 59]), .string (bs [72, 110, 49, 59])] 22)).heap[w2.heap.size]? = some (.cells #[.string (bs p0), .string (bs p1), .string (bs p2), .string (bs p3), .string (bs p4)] 46 (0, 0))) := by
    have h := blk_new w2 (.cells #[.string (bs p0), .string (bs p1), .string (bs p2), .string (bs p3), .string (bs p4)] 46)
    exact (blk_alloc h (.cells #[.string (bs [110, 49, 59]), .string (bs []), .string (bs [110]), .string (bs [80, 110, 49, 59]), .string (bs [116, 49, 58, 97]), .string (bs [87, 80, 110, 49, 59, 80, 110, 50, 59]), .string (bs [72, 110, 49, 59])] 22))
  have HC3 : Hid (((w2.alloc (.cells #[.string (bs p0), .string (bs p1), .string (bs p2), .string (bs p3), .string (bs p4)] 46)).alloc (.cells #[.string (bs [110, 49, 59]), .string (bs []), .string (bs [110]), .string (bs [80, 110, 49, 59]), .string (bs [116, 49, 58, 97]), .string (bs [87, 80, 110, 49, 59, 80, 110, 50, 59]), .string (bs [72, 110, 49, 59])] 22)).heap[w2.heap.size + 1]? = some (.cells #[.string (bs [110, 49, 59]), .string (bs []), .string (bs [110]), .string (bs [80, 110, 49, 59]), .string (bs [116, 49, 58, 97]), .string (bs [87, 80, 110, 49, 59, 80, 110, 50, 59]), .string (bs [72, 110, 49, 59])] 22 (0, 0))) := by
    have h := blk_new (w2.alloc (.cells #[.string (bs p0), .string (bs p1), .string (bs p2), .string (bs p3), .string (bs p4)] 46)) (.cells #[.string (bs [110, 49, 59]), .string (bs []), .string (bs [110]), .string (bs [80, 110, 49, 59]), .string (bs [116, 49, 58, 97]), .string (bs [87, 80, 110, 49, 59, 80, 110, 50, 59]), .string (bs [72, 110, 49, 59])] 22)
    rw [show (w2.alloc (.cells #[.string (bs p0), .string (bs p1), .string (bs p2), .string (bs p3), .string (bs p4)] 46)).heap.size = w2.heap.size + 1 by simp] at h
    exact h
  have HG3 := Lib.hid (gok_alloc (gok_alloc HG2.out (.cells #[.string (bs p0), .string (bs p1), .string (bs p2), .string (bs p3), .string (bs p4)] 46)) (.cells #[.string (bs [110, 49, 59]), .string (bs []), .string (bs [110]), .string (bs [80, 110, 49, 59]), .string (bs [116, 49, 58, 97]), .string (bs [87, 80, 110, 49, 59, 80, 110, 50, 59]), .string (bs [72, 110, 49, 59])] 22))
  have hg3 : GL [] w ((w2.alloc (.cells #[.string (bs p0), .string (bs p1), .string (bs p2), .string (bs p3), .string (bs p4)] 46)).alloc (.cells #[.string (bs [110, 49, 59]), .string (bs []), .string (bs [110]), .string (bs [80, 110, 49, 59]), .string (bs [116, 49, 58, 97]), .string (bs [87, 80, 110, 49, 59, 80, 110, 50, 59]), .string (bs [72, 110, 49, 59])] 22)) := (gl_alloc (gl_alloc hg2 (.cells #[.string (bs p0), .string (bs p1), .string (bs p2), .string (bs p3), .string (bs p4)] 46)) (.cells #[.string (bs [110, 49, 59]), .string (bs []), .string (bs [110]), .string (bs [80, 110, 49, 59]), .string (bs [116, 49, 58, 97]), .string (bs [87, 80, 110, 49, 59, 80, 110, 50, 59]), .string (bs [72, 110, 49, 59])] 22))
  have geB : w.heap.size ≤ w2.heap.size := by have := hg2.size; omega
  have gnB : gN ≤ w2.heap.size := by have := HG2.out.size; omega
  have geC : w.heap.size ≤ w2.heap.size + 1 := by have := hg2.size; omega
  have gnC : gN ≤ w2.heap.size + 1 := by have := HG2.out.size; omega
  have ltBC : w2.heap.size < w2.heap.size + 1 := by omega
  have neBC : w2.heap.size ≠ w2.heap.size + 1 := by omega
  have neCB : w2.heap.size + 1 ≠ w2.heap.size := by omega
  generalize ((w2.alloc (.cells #[.string (bs p0), .string (bs p1), .string (bs p2), .string (bs p3), .string (bs p4)] 46)).alloc (.cells #[.string (bs [110, 49, 59]), .string (bs []), .string (bs [110]), .string (bs [80, 110, 49, 59]), .string (bs [116, 49, 58, 97]), .string (bs [87, 80, 110, 49, 59, 80, 110, 50, 59]), .string (bs [72, 110, 49, 59])] 22)) = w3 at *
  generalize w2.heap.size + 1 = C at *
  generalize w2.heap.size = B at *
  have hs3 : w.heap.size ≤ w3.heap.size := hg3.size
  have HX := Lib.hid (show ∀ (k : Nat) (x : List UInt8), kkX[k]? = some x → w3.cell? ⟨C, k, none⟩ = some (.string (bs x)) from fun k x hx => by
    refine (blk_cell HC3.out k).trans ?_
    rw [show (#[.string (bs [110, 49, 59]), .string (bs []), .string (bs [110]), .string (bs [80, 110, 49, 59]), .string (bs [116, 49, 58, 97]), .string (bs [87, 80, 110, 49, 59, 80, 110, 50, 59]), .string (bs [72, 110, 49, 59])] : Array Value) = (kkX.map fun y => Value.string (bs y)).toArray from rfl, List.getElem?_toArray, List.getElem?_map, hx]
    rfl)
  have hlA := blk_lt HA3.out
  have hlB := blk_lt HB3.out
  have hlC := blk_lt HC3.out
  clear HC3 HA1 HA2 HG1 HG2
  go_loopw [21] (fun iv wr => ∃ i : Nat, i ≤ 7 ∧ iv = .int .i64 i ∧ Hid (GL [] w3 wr)) (fun iv _ => 7 - (intOf iv).toNat)
  case atStart => exact ⟨0, by omega, rfl, Lib.hid (gl_refl _ _)⟩
  case round =>
    obtain ⟨i, hi, rfl, hgr⟩ := hrel
    have hgw : GL [] w wr := gl_step hgr.out hg3 (by simp)
    by_cases hlt : i < 7
    · have i1 : (i : Int) < 7 := by omega
      have hiL : i < kkX.length := hlt
      have hx : kkX[i]? = some kkX[i] := List.getElem?_eq_getElem hiL
      have c0 := cell_glx (HX.out i _ hx) hgr.out (by simp)
      have hxl := kkX_short kkX[i] (List.getElem_mem _)
      clear hx
      generalize kkX[i] = x at *
      go_wp2_with fail
      have HN := Lib.hid (show ∀ (k : Nat) (n : Int), kkN[k]? = some n → (wr.alloc (.cells #[.int .i64 (-9223372036854775808), .int .i64 (-1), .int .i64 0, .int .i64 1, .int .i64 7, .int .i64 1048574, .int .i64 1048575, .int .i64 1048576, .int .i64 9223372036854775807] 2)).cell? ⟨wr.heap.size, k, none⟩ = some (.int .i64 n) from fun k n hn => by
        refine (blk_cell (blk_new wr (.cells #[.int .i64 (-9223372036854775808), .int .i64 (-1), .int .i64 0, .int .i64 1, .int .i64 7, .int .i64 1048574, .int .i64 1048575, .int .i64 1048576, .int .i64 9223372036854775807] 2)) k).trans ?_
        rw [show (#[.int .i64 (-9223372036854775808), .int .i64 (-1), .int .i64 0, .int .i64 1, .int .i64 7, .int .i64 1048574, .int .i64 1048575, .int .i64 1048576, .int .i64 9223372036854775807] : Array Value) = (kkN.map fun y => Value.int .i64 y).toArray from rfl, List.getElem?_toArray, List.getElem?_map, hn]
        rfl)
      have hgD : GL [] w3 (wr.alloc (.cells #[.int .i64 (-9223372036854775808), .int .i64 (-1), .int .i64 0, .int .i64 1, .int .i64 7, .int .i64 1048574, .int .i64 1048575, .int .i64 1048576, .int .i64 9223372036854775807] 2)) := gl_alloc hgr.out _
      have hszD : wr.heap.size < (wr.alloc (.cells #[.int .i64 (-9223372036854775808), .int .i64 (-1), .int .i64 0, .int .i64 1, .int .i64 7, .int .i64 1048574, .int .i64 1048575, .int .i64 1048576, .int .i64 9223372036854775807] 2)).heap.size := by simp
      clear c0
      generalize wr.alloc (.cells #[.int .i64 (-9223372036854775808), .int .i64 (-1), .int .i64 0, .int .i64 1, .int .i64 7, .int .i64 1048574, .int .i64 1048575, .int .i64 1048576, .int .i64 9223372036854775807] 2) = wD at *
      generalize wr.heap.size = D at *
      go_loopw [27] (fun jv wq => ∃ j : Nat, j ≤ 9 ∧ jv = .int .i64 j ∧ Hid (GL [] wD wq)) (fun jv _ => 9 - (intOf jv).toNat)
      case atStart => exact ⟨0, by omega, rfl, Lib.hid (gl_refl _ _)⟩
      case round =>
        obtain ⟨j, hj, rfl, hgq⟩ := hrel
        have hg3q : GL [] w3 wr := gl_step hgq.out hgD (by simp)
        have hgwq : GL [] w wr := gl_step hg3q hg3 (by simp)
        by_cases hltj : j < 9
        · have j1 : (j : Int) < 9 := by omega
          have hjL : j < kkN.length := hltj
          have hn : kkN[j]? = some kkN[j] := List.getElem?_eq_getElem hjL
          have c0 := cell_glx (HN.out j _ hn) hgq.out (by simp)
          obtain ⟨n0, n1⟩ := kkN_in kkN[j] (List.getElem_mem _)
          clear hn
          generalize kkN[j] = n at *
          have hGG : ∀ W, GL [] wr W → GOk W ∧ WordsOk W := fun W hW => ⟨gok_gl HG0.out (gl_step hW hgwq (by simp)) (by simp), words_gl HW.out HG0.out.size (gl_step hW hgwq (by simp)) (by simp)⟩
          have hC1 : ∀ W, GL [] wr W → Calls Tryz.prog 12 #[.string (bs x), .int .i64 n] W fun e W' => e = .returned (.bool true) ∧ GL [] wr W' := fun W hW => (lKeysMakes x n n0 n1 (by omega) W (hGG W hW).1 (hGG W hW).2).mono (fun e W' h => ⟨h.1, gl_below h.2 hW⟩)
          have hC2 : ∀ W, GL [] wr W → Calls Tryz.prog 13 #[.agg #[.string (bs [110, 49, 59]), .string (bs [110, 50, 59]), .string (bs [110, 51, 59]), .string (bs [86, 110, 49, 59, 110, 50, 59]), .string (bs [75, 110, 49, 59, 116, 48, 58]), .string (bs [110, 54, 59])], .int .i64 n] W fun e W' => e = .returned (.bool true) ∧ GL [] wr W' := fun W hW => (lKeysPoints [110, 49, 59] [110, 50, 59] [110, 51, 59] [86, 110, 49, 59, 110, 50, 59] [75, 110, 49, 59, 116, 48, 58] [110, 54, 59] n n0 n1 (by decide) (by decide) (by decide) (by decide) (by decide) (by decide) W (hGG W hW).1 (hGG W hW).2).mono (fun e W' h => ⟨h.1, gl_below h.2 hW⟩)
          have hC3 : ∀ W, GL [] wr W → Calls Tryz.prog 13 #[.agg #[.string (bs x), .string (bs [110, 50, 59]), .string (bs x), .string (bs [110, 52, 59]), .string (bs [110, 53, 59]), .string (bs x)], .int .i64 n] W fun e W' => e = .returned (.bool true) ∧ GL [] wr W' := fun W hW => (lKeysPoints x [110, 50, 59] x [110, 52, 59] [110, 53, 59] x n n0 n1 (by omega) (by decide) (by omega) (by decide) (by decide) (by omega) W (hGG W hW).1 (hGG W hW).2).mono (fun e W' h => ⟨h.1, gl_below h.2 hW⟩)
          have hA : ∀ W, GL [] wr W → W.heap[A]? = some (.cells #[.string (bs [110, 49, 59]), .string (bs [110, 50, 59]), .string (bs [110, 51, 59]), .string (bs [86, 110, 49, 59, 110, 50, 59]), .string (bs [75, 110, 49, 59, 116, 48, 58]), .string (bs [110, 54, 59])] 44 (0, 0)) := fun W hW => blk_gl HA3.out (gl_step hW hg3q (by simp)) (by simp)
          clear hGG

          have hy0 : GL [] wr wr := gl_refl _ _
          go_wp2_with fail
          refine (hC1 _ hy0).mono ?_
          rintro e y1 ⟨rfl, hy1⟩
          have q1hA := hA _ hy1
          have qa1hA := blk_cell q1hA
          have qb1hA := blk_free q1hA
          have qc1hA := blk_lt q1hA
          clear q1hA
          go_wp2_with fail
          refine (hC2 _ hy1).mono ?_
          rintro e y2 ⟨rfl, hy2⟩
          clear qa1hA qb1hA qc1hA
          go_wp2_with fail
          refine (hC3 _ hy2).mono ?_
          rintro e y3 ⟨rfl, hy3⟩
          have hI := hy3
          have hgn : GL [] wD y3 := gl_step hI hgq.out (by simp)
          clear hI hC1 hC2 hC3 hA c0
          go_wp2_with fail
          go_roundw
          case rel => first | exact ⟨j + 1, by omega, by go_num, Lib.hid hgn⟩ | ((repeat apply Exists.intro); refine ⟨?_, rfl⟩; exact ⟨j + 1, by omega, by go_num, Lib.hid hgn⟩)
          case measure => simp [intOf]; omega
        · obtain rfl : j = 9 := by omega
          obtain ⟨v0, hv0⟩ : ∃ x : World, x = wr := ⟨_, rfl⟩
          subst hv0
          have hB := blk_gl HB3.out hg3q (by simp)
          have HBv0 := Lib.hid hB
          have HGv0 := Lib.hid (gl_refl [] v0)
          have hlAv := hg3q.size
          clear hgr hgD hszD HN hgq hB
          have ba0 := blk_cell HBv0.out
          have bb0 := blk_free HBv0.out
          have bc0 := blk_lt HBv0.out
          have ba1 := blk_cell (blk_alloc HBv0.out (.cells #[.string (bs p0), .string (bs p1), .string (bs x), .string (bs p3), .string (bs p4)] 46))
          have bb1 := blk_free (blk_alloc HBv0.out (.cells #[.string (bs p0), .string (bs p1), .string (bs x), .string (bs p3), .string (bs p4)] 46))
          have bc1 := blk_lt (blk_alloc HBv0.out (.cells #[.string (bs p0), .string (bs p1), .string (bs x), .string (bs p3), .string (bs p4)] 46))
          have ba2 := blk_cell (blk_alloc (blk_alloc HBv0.out (.cells #[.string (bs p0), .string (bs p1), .string (bs x), .string (bs p3), .string (bs p4)] 46)) (.cells #[.string (bs p0), .string (bs x), .string (bs p2), .string (bs p3), .string (bs p4)] 46))
          have bb2 := blk_free (blk_alloc (blk_alloc HBv0.out (.cells #[.string (bs p0), .string (bs p1), .string (bs x), .string (bs p3), .string (bs p4)] 46)) (.cells #[.string (bs p0), .string (bs x), .string (bs p2), .string (bs p3), .string (bs p4)] 46))
          have bc2 := blk_lt (blk_alloc (blk_alloc HBv0.out (.cells #[.string (bs p0), .string (bs p1), .string (bs x), .string (bs p3), .string (bs p4)] 46)) (.cells #[.string (bs p0), .string (bs x), .string (bs p2), .string (bs p3), .string (bs p4)] 46))
          have ba3 := blk_cell (blk_alloc (blk_alloc (blk_alloc HBv0.out (.cells #[.string (bs p0), .string (bs p1), .string (bs x), .string (bs p3), .string (bs p4)] 46)) (.cells #[.string (bs p0), .string (bs x), .string (bs p2), .string (bs p3), .string (bs p4)] 46)) (.cells #[.string (bs p0), .string (bs p1), .string (bs p2), .string (bs p3), .string (bs x)] 46))
          have bb3 := blk_free (blk_alloc (blk_alloc (blk_alloc HBv0.out (.cells #[.string (bs p0), .string (bs p1), .string (bs x), .string (bs p3), .string (bs p4)] 46)) (.cells #[.string (bs p0), .string (bs x), .string (bs p2), .string (bs p3), .string (bs p4)] 46)) (.cells #[.string (bs p0), .string (bs p1), .string (bs p2), .string (bs p3), .string (bs x)] 46))
          have bc3 := blk_lt (blk_alloc (blk_alloc (blk_alloc HBv0.out (.cells #[.string (bs p0), .string (bs p1), .string (bs x), .string (bs p3), .string (bs p4)] 46)) (.cells #[.string (bs p0), .string (bs x), .string (bs p2), .string (bs p3), .string (bs p4)] 46)) (.cells #[.string (bs p0), .string (bs p1), .string (bs p2), .string (bs p3), .string (bs x)] 46))
          have ba4 := blk_cell (blk_alloc (blk_alloc (blk_alloc (blk_alloc HBv0.out (.cells #[.string (bs p0), .string (bs p1), .string (bs x), .string (bs p3), .string (bs p4)] 46)) (.cells #[.string (bs p0), .string (bs x), .string (bs p2), .string (bs p3), .string (bs p4)] 46)) (.cells #[.string (bs p0), .string (bs p1), .string (bs p2), .string (bs p3), .string (bs x)] 46)) (.cells #[.string (bs p0), .string (bs p1), .string (bs p2), .string (bs x), .string (bs p4)] 46))
          have bb4 := blk_free (blk_alloc (blk_alloc (blk_alloc (blk_alloc HBv0.out (.cells #[.string (bs p0), .string (bs p1), .string (bs x), .string (bs p3), .string (bs p4)] 46)) (.cells #[.string (bs p0), .string (bs x), .string (bs p2), .string (bs p3), .string (bs p4)] 46)) (.cells #[.string (bs p0), .string (bs p1), .string (bs p2), .string (bs p3), .string (bs x)] 46)) (.cells #[.string (bs p0), .string (bs p1), .string (bs p2), .string (bs x), .string (bs p4)] 46))
          have bc4 := blk_lt (blk_alloc (blk_alloc (blk_alloc (blk_alloc HBv0.out (.cells #[.string (bs p0), .string (bs p1), .string (bs x), .string (bs p3), .string (bs p4)] 46)) (.cells #[.string (bs p0), .string (bs x), .string (bs p2), .string (bs p3), .string (bs p4)] 46)) (.cells #[.string (bs p0), .string (bs p1), .string (bs p2), .string (bs p3), .string (bs x)] 46)) (.cells #[.string (bs p0), .string (bs p1), .string (bs p2), .string (bs x), .string (bs p4)] 46))
          go_wp2_with fail
          clear ba0 bb0 bc0 ba1 bb1 bc1 ba2 bb2 bc2 ba3 bb3 bc3 ba4 bb4 bc4
          have HBv4 := Lib.hid (blk_alloc (blk_alloc (blk_alloc (blk_alloc HBv0.out (.cells #[.string (bs p0), .string (bs p1), .string (bs x), .string (bs p3), .string (bs p4)] 46)) (.cells #[.string (bs p0), .string (bs x), .string (bs p2), .string (bs p3), .string (bs p4)] 46)) (.cells #[.string (bs p0), .string (bs p1), .string (bs p2), .string (bs p3), .string (bs x)] 46)) (.cells #[.string (bs p0), .string (bs p1), .string (bs p2), .string (bs x), .string (bs p4)] 46))
          have HGv4 : Hid (GL [] v0 ((((v0.alloc (.cells #[.string (bs p0), .string (bs p1), .string (bs x), .string (bs p3), .string (bs p4)] 46)).alloc (.cells #[.string (bs p0), .string (bs x), .string (bs p2), .string (bs p3), .string (bs p4)] 46)).alloc (.cells #[.string (bs p0), .string (bs p1), .string (bs p2), .string (bs p3), .string (bs x)] 46)).alloc (.cells #[.string (bs p0), .string (bs p1), .string (bs p2), .string (bs x), .string (bs p4)] 46))) := (gl_alloc (gl_alloc (gl_alloc (gl_alloc HGv0.out (.cells #[.string (bs p0), .string (bs p1), .string (bs x), .string (bs p3), .string (bs p4)] 46)) (.cells #[.string (bs p0), .string (bs x), .string (bs p2), .string (bs p3), .string (bs p4)] 46)) (.cells #[.string (bs p0), .string (bs p1), .string (bs p2), .string (bs p3), .string (bs x)] 46)) (.cells #[.string (bs p0), .string (bs p1), .string (bs p2), .string (bs x), .string (bs p4)] 46))
          have HKav4 : Hid (((((v0.alloc (.cells #[.string (bs p0), .string (bs p1), .string (bs x), .string (bs p3), .string (bs p4)] 46)).alloc (.cells #[.string (bs p0), .string (bs x), .string (bs p2), .string (bs p3), .string (bs p4)] 46)).alloc (.cells #[.string (bs p0), .string (bs p1), .string (bs p2), .string (bs p3), .string (bs x)] 46)).alloc (.cells #[.string (bs p0), .string (bs p1), .string (bs p2), .string (bs x), .string (bs p4)] 46)).heap[v0.heap.size]? = some (.cells #[.string (bs p0), .string (bs p1), .string (bs x), .string (bs p3), .string (bs p4)] 46 (0, 0))) := by
            have h := blk_new v0 (.cells #[.string (bs p0), .string (bs p1), .string (bs x), .string (bs p3), .string (bs p4)] 46)
            exact (blk_alloc (blk_alloc (blk_alloc h (.cells #[.string (bs p0), .string (bs x), .string (bs p2), .string (bs p3), .string (bs p4)] 46)) (.cells #[.string (bs p0), .string (bs p1), .string (bs p2), .string (bs p3), .string (bs x)] 46)) (.cells #[.string (bs p0), .string (bs p1), .string (bs p2), .string (bs x), .string (bs p4)] 46))
          have HMav4 : Hid (((((v0.alloc (.cells #[.string (bs p0), .string (bs p1), .string (bs x), .string (bs p3), .string (bs p4)] 46)).alloc (.cells #[.string (bs p0), .string (bs x), .string (bs p2), .string (bs p3), .string (bs p4)] 46)).alloc (.cells #[.string (bs p0), .string (bs p1), .string (bs p2), .string (bs p3), .string (bs x)] 46)).alloc (.cells #[.string (bs p0), .string (bs p1), .string (bs p2), .string (bs x), .string (bs p4)] 46)).heap[v0.heap.size + 1]? = some (.cells #[.string (bs p0), .string (bs x), .string (bs p2), .string (bs p3), .string (bs p4)] 46 (0, 0))) := by
            have h := blk_new (v0.alloc (.cells #[.string (bs p0), .string (bs p1), .string (bs x), .string (bs p3), .string (bs p4)] 46)) (.cells #[.string (bs p0), .string (bs x), .string (bs p2), .string (bs p3), .string (bs p4)] 46)
            rw [show (v0.alloc (.cells #[.string (bs p0), .string (bs p1), .string (bs x), .string (bs p3), .string (bs p4)] 46)).heap.size = v0.heap.size + 1 by simp] at h
            exact (blk_alloc (blk_alloc h (.cells #[.string (bs p0), .string (bs p1), .string (bs p2), .string (bs p3), .string (bs x)] 46)) (.cells #[.string (bs p0), .string (bs p1), .string (bs p2), .string (bs x), .string (bs p4)] 46))
          have HOav4 : Hid (((((v0.alloc (.cells #[.string (bs p0), .string (bs p1), .string (bs x), .string (bs p3), .string (bs p4)] 46)).alloc (.cells #[.string (bs p0), .string (bs x), .string (bs p2), .string (bs p3), .string (bs p4)] 46)).alloc (.cells #[.string (bs p0), .string (bs p1), .string (bs p2), .string (bs p3), .string (bs x)] 46)).alloc (.cells #[.string (bs p0), .string (bs p1), .string (bs p2), .string (bs x), .string (bs p4)] 46)).heap[v0.heap.size + 1 + 1]? = some (.cells #[.string (bs p0), .string (bs p1), .string (bs p2), .string (bs p3), .string (bs x)] 46 (0, 0))) := by
            have h := blk_new ((v0.alloc (.cells #[.string (bs p0), .string (bs p1), .string (bs x), .string (bs p3), .string (bs p4)] 46)).alloc (.cells #[.string (bs p0), .string (bs x), .string (bs p2), .string (bs p3), .string (bs p4)] 46)) (.cells #[.string (bs p0), .string (bs p1), .string (bs p2), .string (bs p3), .string (bs x)] 46)
            rw [show ((v0.alloc (.cells #[.string (bs p0), .string (bs p1), .string (bs x), .string (bs p3), .string (bs p4)] 46)).alloc (.cells #[.string (bs p0), .string (bs x), .string (bs p2), .string (bs p3), .string (bs p4)] 46)).heap.size = v0.heap.size + 1 + 1 by simp] at h
            exact (blk_alloc h (.cells #[.string (bs p0), .string (bs p1), .string (bs p2), .string (bs x), .string (bs p4)] 46))
          have HQav4 : Hid (((((v0.alloc (.cells #[.string (bs p0), .string (bs p1), .string (bs x), .string (bs p3), .string (bs p4)] 46)).alloc (.cells #[.string (bs p0), .string (bs x), .string (bs p2), .string (bs p3), .string (bs p4)] 46)).alloc (.cells #[.string (bs p0), .string (bs p1), .string (bs p2), .string (bs p3), .string (bs x)] 46)).alloc (.cells #[.string (bs p0), .string (bs p1), .string (bs p2), .string (bs x), .string (bs p4)] 46)).heap[v0.heap.size + 1 + 1 + 1]? = some (.cells #[.string (bs p0), .string (bs p1), .string (bs p2), .string (bs x), .string (bs p4)] 46 (0, 0))) := by
            have h := blk_new (((v0.alloc (.cells #[.string (bs p0), .string (bs p1), .string (bs x), .string (bs p3), .string (bs p4)] 46)).alloc (.cells #[.string (bs p0), .string (bs x), .string (bs p2), .string (bs p3), .string (bs p4)] 46)).alloc (.cells #[.string (bs p0), .string (bs p1), .string (bs p2), .string (bs p3), .string (bs x)] 46)) (.cells #[.string (bs p0), .string (bs p1), .string (bs p2), .string (bs x), .string (bs p4)] 46)
            rw [show (((v0.alloc (.cells #[.string (bs p0), .string (bs p1), .string (bs x), .string (bs p3), .string (bs p4)] 46)).alloc (.cells #[.string (bs p0), .string (bs x), .string (bs p2), .string (bs p3), .string (bs p4)] 46)).alloc (.cells #[.string (bs p0), .string (bs p1), .string (bs p2), .string (bs p3), .string (bs x)] 46)).heap.size = v0.heap.size + 1 + 1 + 1 by simp] at h
            exact h
          generalize ((((v0.alloc (.cells #[.string (bs p0), .string (bs p1), .string (bs x), .string (bs p3), .string (bs p4)] 46)).alloc (.cells #[.string (bs p0), .string (bs x), .string (bs p2), .string (bs p3), .string (bs p4)] 46)).alloc (.cells #[.string (bs p0), .string (bs p1), .string (bs p2), .string (bs p3), .string (bs x)] 46)).alloc (.cells #[.string (bs p0), .string (bs p1), .string (bs p2), .string (bs x), .string (bs p4)] 46)) = v4 at *
          generalize v0.heap.size + 1 + 1 + 1 = Qa at *
          generalize v0.heap.size + 1 + 1 = Oa at *
          generalize v0.heap.size + 1 = Ma at *
          generalize v0.heap.size = Ka at *
          have hGG : ∀ W, GL [] v4 W → GOk W ∧ WordsOk W := fun W hW => ⟨gok_gl HG0.out (gl_step hW (gl_step HGv4.out hgwq (by simp)) (by simp)) (by simp), words_gl HW.out HG0.out.size (gl_step hW (gl_step HGv4.out hgwq (by simp)) (by simp)) (by simp)⟩
          have hgwV : GL [] w v4 := gl_step HGv4.out hgwq (by simp)
          have hg3V : GL [] w3 v4 := gl_step HGv4.out hg3q (by simp)
          have hS1 : ∀ W, GL [] v4 W → Calls Tryz.prog 14 #[.agg #[.string (bs p0), .string (bs p1), .string (bs p2), .string (bs p3), .string (bs p4)], .agg #[.string (bs p0), .string (bs p1), .string (bs p2), .string (bs p3), .string (bs p4)], .string (bs x)] W fun e W' => e = .returned (.bool true) ∧ GL [] v4 W' := fun W hW => (lKeysSets p0 p1 p2 p3 p4 p0 p1 p2 p3 p4 x (by omega) (by omega) (by omega) (by omega) (by omega) (by omega) (by omega) (by omega) (by omega) (by omega) (by omega) W (hGG W hW).1 (hGG W hW).2).mono (fun e W' h => ⟨h.1, gl_below h.2 hW⟩)
          have hS2 : ∀ W, GL [] v4 W → Calls Tryz.prog 14 #[.agg #[.string (bs p0), .string (bs p1), .string (bs p2), .string (bs p3), .string (bs p4)], .agg #[.string (bs p0), .string (bs p1), .string (bs x), .string (bs p3), .string (bs p4)], .string (bs [80, 110, 49, 59])] W fun e W' => e = .returned (.bool true) ∧ GL [] v4 W' := fun W hW => (lKeysSets p0 p1 p2 p3 p4 p0 p1 x p3 p4 [80, 110, 49, 59] (by omega) (by omega) (by omega) (by omega) (by omega) (by omega) (by omega) (by omega) (by omega) (by omega) (by decide) W (hGG W hW).1 (hGG W hW).2).mono (fun e W' h => ⟨h.1, gl_below h.2 hW⟩)
          have hS3 : ∀ W, GL [] v4 W → Calls Tryz.prog 14 #[.agg #[.string (bs p0), .string (bs p1), .string (bs p2), .string (bs p3), .string (bs p4)], .agg #[.string (bs p0), .string (bs x), .string (bs p2), .string (bs p3), .string (bs p4)], .string (bs [80, 110, 49, 59])] W fun e W' => e = .returned (.bool true) ∧ GL [] v4 W' := fun W hW => (lKeysSets p0 p1 p2 p3 p4 p0 x p2 p3 p4 [80, 110, 49, 59] (by omega) (by omega) (by omega) (by omega) (by omega) (by omega) (by omega) (by omega) (by omega) (by omega) (by decide) W (hGG W hW).1 (hGG W hW).2).mono (fun e W' h => ⟨h.1, gl_below h.2 hW⟩)
          have hS4 : ∀ W, GL [] v4 W → Calls Tryz.prog 14 #[.agg #[.string (bs p0), .string (bs p1), .string (bs p2), .string (bs p3), .string (bs x)], .agg #[.string (bs p0), .string (bs p1), .string (bs p2), .string (bs p3), .string (bs p4)], .string (bs [80, 110, 49, 59])] W fun e W' => e = .returned (.bool true) ∧ GL [] v4 W' := fun W hW => (lKeysSets p0 p1 p2 p3 x p0 p1 p2 p3 p4 [80, 110, 49, 59] (by omega) (by omega) (by omega) (by omega) (by omega) (by omega) (by omega) (by omega) (by omega) (by omega) (by decide) W (hGG W hW).1 (hGG W hW).2).mono (fun e W' h => ⟨h.1, gl_below h.2 hW⟩)
          have hS5 : ∀ W, GL [] v4 W → Calls Tryz.prog 14 #[.agg #[.string (bs p0), .string (bs p1), .string (bs p2), .string (bs p3), .string (bs p4)], .agg #[.string (bs p0), .string (bs p1), .string (bs p2), .string (bs p3), .string (bs x)], .string (bs [80, 110, 49, 59])] W fun e W' => e = .returned (.bool true) ∧ GL [] v4 W' := fun W hW => (lKeysSets p0 p1 p2 p3 p4 p0 p1 p2 p3 x [80, 110, 49, 59] (by omega) (by omega) (by omega) (by omega) (by omega) (by omega) (by omega) (by omega) (by omega) (by omega) (by decide) W (hGG W hW).1 (hGG W hW).2).mono (fun e W' h => ⟨h.1, gl_below h.2 hW⟩)
          have hS6 : ∀ W, GL [] v4 W → Calls Tryz.prog 14 #[.agg #[.string (bs p0), .string (bs p1), .string (bs p2), .string (bs x), .string (bs p4)], .agg #[.string (bs p0), .string (bs p1), .string (bs p2), .string (bs p3), .string (bs p4)], .string (bs [87, 80, 110, 49, 59, 80, 110, 50, 59])] W fun e W' => e = .returned (.bool true) ∧ GL [] v4 W' := fun W hW => (lKeysSets p0 p1 p2 x p4 p0 p1 p2 p3 p4 [87, 80, 110, 49, 59, 80, 110, 50, 59] (by omega) (by omega) (by omega) (by omega) (by omega) (by omega) (by omega) (by omega) (by omega) (by omega) (by decide) W (hGG W hW).1 (hGG W hW).2).mono (fun e W' h => ⟨h.1, gl_below h.2 hW⟩)
          have hS7 : ∀ W, GL [] v4 W → Calls Tryz.prog 14 #[.agg #[.string (bs x), .string (bs []), .string (bs []), .string (bs []), .string (bs [])], .agg #[.string (bs p0), .string (bs p1), .string (bs p2), .string (bs p3), .string (bs p4)], .string (bs [110, 49, 59])] W fun e W' => e = .returned (.bool true) ∧ GL [] v4 W' := fun W hW => (lKeysSets x [] [] [] [] p0 p1 p2 p3 p4 [110, 49, 59] (by omega) (by simp) (by simp) (by simp) (by simp) (by omega) (by omega) (by omega) (by omega) (by omega) (by decide) W (hGG W hW).1 (hGG W hW).2).mono (fun e W' h => ⟨h.1, gl_below h.2 hW⟩)
          have hB : ∀ W, GL [] v4 W → W.heap[B]? = some (.cells #[.string (bs p0), .string (bs p1), .string (bs p2), .string (bs p3), .string (bs p4)] 46 (0, 0)) := fun W hW => blk_gl HBv4.out hW (by simp)
          have hK : ∀ W, GL [] v4 W → W.heap[Ka]? = some (.cells #[.string (bs p0), .string (bs p1), .string (bs x), .string (bs p3), .string (bs p4)] 46 (0, 0)) := fun W hW => blk_gl HKav4.out hW (by simp)
          have hM : ∀ W, GL [] v4 W → W.heap[Ma]? = some (.cells #[.string (bs p0), .string (bs x), .string (bs p2), .string (bs p3), .string (bs p4)] 46 (0, 0)) := fun W hW => blk_gl HMav4.out hW (by simp)
          have hO : ∀ W, GL [] v4 W → W.heap[Oa]? = some (.cells #[.string (bs p0), .string (bs p1), .string (bs p2), .string (bs p3), .string (bs x)] 46 (0, 0)) := fun W hW => blk_gl HOav4.out hW (by simp)
          have hQ : ∀ W, GL [] v4 W → W.heap[Qa]? = some (.cells #[.string (bs p0), .string (bs p1), .string (bs p2), .string (bs x), .string (bs p4)] 46 (0, 0)) := fun W hW => blk_gl HQav4.out hW (by simp)
          clear hGG
          have hy0 : GL [] v4 v4 := gl_refl _ _
          have q0hB := hB _ hy0
          have qa0hB := blk_cell q0hB
          have qb0hB := blk_free q0hB
          have qc0hB := blk_lt q0hB
          clear q0hB
          go_wp2_with fail
          refine (hS1 _ hy0).mono ?_
          rintro e y1 ⟨rfl, hy1⟩
          clear qa0hB qb0hB qc0hB
          have q1hB := hB _ hy1
          have qa1hB := blk_cell q1hB
          have qb1hB := blk_free q1hB
          have qc1hB := blk_lt q1hB
          clear q1hB
          have q1hK := hK _ hy1
          have qa1hK := blk_cell q1hK
          have qb1hK := blk_free q1hK
          have qc1hK := blk_lt q1hK
          clear q1hK
          go_wp2_with fail
          refine (hS2 _ hy1).mono ?_
          rintro e y2 ⟨rfl, hy2⟩
          clear qa1hB qb1hB qc1hB qa1hK qb1hK qc1hK
          have q2hB := hB _ hy2
          have qa2hB := blk_cell q2hB
          have qb2hB := blk_free q2hB
          have qc2hB := blk_lt q2hB
          clear q2hB
          have q2hM := hM _ hy2
          have qa2hM := blk_cell q2hM
          have qb2hM := blk_free q2hM
          have qc2hM := blk_lt q2hM
          clear q2hM
          go_wp2_with fail
          refine (hS3 _ hy2).mono ?_
          rintro e y3 ⟨rfl, hy3⟩
          clear qa2hB qb2hB qc2hB qa2hM qb2hM qc2hM
          have q3hB := hB _ hy3
          have qa3hB := blk_cell q3hB
          have qb3hB := blk_free q3hB
          have qc3hB := blk_lt q3hB
          clear q3hB
          have q3hO := hO _ hy3
          have qa3hO := blk_cell q3hO
          have qb3hO := blk_free q3hO
          have qc3hO := blk_lt q3hO
          clear q3hO
          go_wp2_with fail
          refine (hS4 _ hy3).mono ?_
          rintro e y4 ⟨rfl, hy4⟩
          clear qa3hB qb3hB qc3hB qa3hO qb3hO qc3hO
          have q4hB := hB _ hy4
          have qa4hB := blk_cell q4hB
          have qb4hB := blk_free q4hB
          have qc4hB := blk_lt q4hB
          clear q4hB
          have q4hO := hO _ hy4
          have qa4hO := blk_cell q4hO
          have qb4hO := blk_free q4hO
          have qc4hO := blk_lt q4hO
          clear q4hO
          go_wp2_with fail
          refine (hS5 _ hy4).mono ?_
          rintro e y5 ⟨rfl, hy5⟩
          clear qa4hB qb4hB qc4hB qa4hO qb4hO qc4hO
          have q5hB := hB _ hy5
          have qa5hB := blk_cell q5hB
          have qb5hB := blk_free q5hB
          have qc5hB := blk_lt q5hB
          clear q5hB
          have q5hQ := hQ _ hy5
          have qa5hQ := blk_cell q5hQ
          have qb5hQ := blk_free q5hQ
          have qc5hQ := blk_lt q5hQ
          clear q5hQ
          go_wp2_with fail
          refine (hS6 _ hy5).mono ?_
          rintro e y6 ⟨rfl, hy6⟩
          clear qa5hB qb5hB qc5hB qa5hQ qb5hQ qc5hQ
          have q6hB := hB _ hy6
          have qa6hB := blk_cell q6hB
          have qb6hB := blk_free q6hB
          have qc6hB := blk_lt q6hB
          clear q6hB
          go_wp2_with fail
          refine (hS7 _ hy6).mono ?_
          rintro e y7 ⟨rfl, hy7⟩
          clear qa6hB qb6hB qc6hB
          have hI := hy7
          have hgn : GL [] w3 y7 := gl_step hI hg3V (by simp)
          clear hI hS1 hS2 hS3 hS4 hS5 hS6 hS7 hB hK hM hO hQ
          go_wp2_with fail
          go_roundw
          case rel => first | exact ⟨i + 1, by omega, by go_num, Lib.hid hgn⟩ | ((repeat apply Exists.intro); refine ⟨?_, rfl⟩; exact ⟨i + 1, by omega, by go_num, Lib.hid hgn⟩)
          case measure => first | (simp [intOf]; omega) | ((show 7 - ((i : Int) + 1).toNat < 7 - (i : Int).toNat); omega)
    · obtain rfl : i = 7 := by omega
      clear hgr HX
      have hgw9 := Lib.hid hgw
      clear hgw
      obtain ⟨v9, hv9⟩ : ∃ x : World, x = wr := ⟨_, rfl⟩
      subst hv9
      go_wp2_with fail
      go_loopw [12] (fun iv wr => ∃ z : Int, (z = 0 ∨ z = 1 ∨ z = 2 ∨ z = 3 ∨ z = 4 ∨ z = 5) ∧ iv = .int .i64 z ∧ Hid (GL [] w wr)) (fun iv _ => 5 - (intOf iv).toNat)
      case atStart => exact ⟨0, by omega, rfl, hgw9⟩
      case round =>
        obtain ⟨z, hz, rfl, hgr⟩ := hrel
        have hGG : ∀ W, GL [] wr W → GOk W ∧ WordsOk W := fun W hW => ⟨gok_gl HG0.out (gl_step hW hgr.out (by simp)) (by simp), words_gl HW.out HG0.out.size (gl_step hW hgr.out (by simp)) (by simp)⟩
        have hy0 : GL [] wr wr := gl_refl _ _
        rcases hz with rfl | rfl | rfl | rfl | rfl | rfl
        · go_wp2_with fail
          refine (lKeysFit 0 3 0 (by omega) (by omega) (by omega) (by omega) (by omega) (by omega) _ (hGG _ hy0).1 (hGG _ hy0).2).mono ?_
          rintro e y1 ⟨rfl, hb1⟩
          have hy1 : GL [] wr y1 := gl_below hb1 hy0
          go_wp2_with fail
          refine (lKeysSecret 0 9 1048575 (by omega) (by omega) (by omega) (by omega) (by omega) (by omega) _ (hGG _ hy1).1 (hGG _ hy1).2).mono ?_
          rintro e y2 ⟨rfl, hb2⟩
          have hy2 := Lib.hid (gl_step (gl_below hb2 hy1) hgr.out (by simp))
          clear hb1 hb2
          go_wp2_with fail
          go_roundw
          case rel => first | exact ⟨1, by omega, rfl, hy2⟩ | ((repeat apply Exists.intro); refine ⟨?_, rfl⟩; exact ⟨1, by omega, rfl, hy2⟩)
          case measure => first | (simp [intOf]; done) | decide
        · go_wp2_with fail
          refine (lKeysFit 1 3 1 (by omega) (by omega) (by omega) (by omega) (by omega) (by omega) _ (hGG _ hy0).1 (hGG _ hy0).2).mono ?_
          rintro e y1 ⟨rfl, hb1⟩
          have hy1 : GL [] wr y1 := gl_below hb1 hy0
          go_wp2_with fail
          refine (lKeysSecret 1 9 1048574 (by omega) (by omega) (by omega) (by omega) (by omega) (by omega) _ (hGG _ hy1).1 (hGG _ hy1).2).mono ?_
          rintro e y2 ⟨rfl, hb2⟩
          have hy2 := Lib.hid (gl_step (gl_below hb2 hy1) hgr.out (by simp))
          clear hb1 hb2
          go_wp2_with fail
          go_roundw
          case rel => first | exact ⟨2, by omega, rfl, hy2⟩ | ((repeat apply Exists.intro); refine ⟨?_, rfl⟩; exact ⟨2, by omega, rfl, hy2⟩)
          case measure => first | (simp [intOf]; done) | decide
        · go_wp2_with fail
          refine (lKeysFit 2 3 4 (by omega) (by omega) (by omega) (by omega) (by omega) (by omega) _ (hGG _ hy0).1 (hGG _ hy0).2).mono ?_
          rintro e y1 ⟨rfl, hb1⟩
          have hy1 : GL [] wr y1 := gl_below hb1 hy0
          go_wp2_with fail
          refine (lKeysSecret 2 9 1048573 (by omega) (by omega) (by omega) (by omega) (by omega) (by omega) _ (hGG _ hy1).1 (hGG _ hy1).2).mono ?_
          rintro e y2 ⟨rfl, hb2⟩
          have hy2 := Lib.hid (gl_step (gl_below hb2 hy1) hgr.out (by simp))
          clear hb1 hb2
          go_wp2_with fail
          go_roundw
          case rel => first | exact ⟨3, by omega, rfl, hy2⟩ | ((repeat apply Exists.intro); refine ⟨?_, rfl⟩; exact ⟨3, by omega, rfl, hy2⟩)
          case measure => first | (simp [intOf]; done) | decide
        · go_wp2_with fail
          refine (lKeysFit 3 3 9 (by omega) (by omega) (by omega) (by omega) (by omega) (by omega) _ (hGG _ hy0).1 (hGG _ hy0).2).mono ?_
          rintro e y1 ⟨rfl, hb1⟩
          have hy1 : GL [] wr y1 := gl_below hb1 hy0
          go_wp2_with fail
          refine (lKeysSecret 3 9 1048572 (by omega) (by omega) (by omega) (by omega) (by omega) (by omega) _ (hGG _ hy1).1 (hGG _ hy1).2).mono ?_
          rintro e y2 ⟨rfl, hb2⟩
          have hy2 := Lib.hid (gl_step (gl_below hb2 hy1) hgr.out (by simp))
          clear hb1 hb2
          go_wp2_with fail
          go_roundw
          case rel => first | exact ⟨4, by omega, rfl, hy2⟩ | ((repeat apply Exists.intro); refine ⟨?_, rfl⟩; exact ⟨4, by omega, rfl, hy2⟩)
          case measure => first | (simp [intOf]; done) | decide
        · go_wp2_with fail
          refine (lKeysFit 4 3 16 (by omega) (by omega) (by omega) (by omega) (by omega) (by omega) _ (hGG _ hy0).1 (hGG _ hy0).2).mono ?_
          rintro e y1 ⟨rfl, hb1⟩
          have hy1 : GL [] wr y1 := gl_below hb1 hy0
          go_wp2_with fail
          refine (lKeysSecret 4 9 1048571 (by omega) (by omega) (by omega) (by omega) (by omega) (by omega) _ (hGG _ hy1).1 (hGG _ hy1).2).mono ?_
          rintro e y2 ⟨rfl, hb2⟩
          have hy2 := Lib.hid (gl_step (gl_below hb2 hy1) hgr.out (by simp))
          clear hb1 hb2
          go_wp2_with fail
          go_roundw
          case rel => first | exact ⟨5, by omega, rfl, hy2⟩ | ((repeat apply Exists.intro); refine ⟨?_, rfl⟩; exact ⟨5, by omega, rfl, hy2⟩)
          case measure => first | (simp [intOf]; done) | decide
        · skip
          go_wp2_with fail
          refine (kkPick _).mono ?_
          rintro e y1 ⟨rfl, rfl⟩
          go_wp2_with fail
          refine (lWorks _ (hGG _ hy0).1 (hGG _ hy0).2).mono ?_
          rintro e y2 ⟨rfl, hb⟩
          go_wp2_with fail
          go_ret
          exact ⟨by first | rfl | (simp; done), gl_to_below (gl_below hb hgr.out)⟩
end Go.Proofs.YtdmfoablpdhnbaaGreatDoor
