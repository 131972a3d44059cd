/- The laws of layer 16: whatever names two sides have, each side's secrets fit the commitment's keys. -/
import Derived.Test.YtdmfoablpdhnbaaGreatDoorLawC
import Derived.Test.YtdmfoablpdhnbaaGreatDoorMSpec
set_option linter.unusedSimpArgs false
set_option linter.unusedVariables false
namespace Go.Proofs.YtdmfoablpdhnbaaGreatDoor
open Go.RowKit

/-- Two sides of names, a commitment: their secrets, its secret, its keys. -/
structure Pair (a b n : Int) (s0 s1 s2 s3 s4 s5 o0 o1 o2 o3 o4 o5 sc r0 r1 r2 r3 r4 : List UInt8) : Prop where
  na : nameT a = (nameL a.toNat, 0)
  nb : nameT b = (nameL b.toNat, 0)
  ca : channelT (nameL a.toNat) 1 = ([s0, s1, s2, s3, s4, s5], 0)
  cb : channelT (nameL b.toNat) 2 = ([o0, o1, o2, o3, o4, o5], 0)
  pa : publicT s0 s1 s2 s3 s4 = ([80 :: s0, 80 :: s1, 80 :: s2, 80 :: s3, 80 :: s4], 0)
  pb : publicT o0 o1 o2 o3 o4 = ([80 :: o0, 80 :: o1, 80 :: o2, 80 :: o3, 80 :: o4], 0)
  rv : revealT s5 n = (sc, 0)
  pt : pointT s5 n = (80 :: sc, 0)
  st : setT (80 :: s3) (80 :: s4) (80 :: o1) (80 :: o2) (80 :: o4) (80 :: sc) = ([r0, r1, r2, r3, r4], 0)
  qs : ∀ x ∈ [s0, s1, s2, s3, s4, s5, o0, o1, o2, o3, o4, o5], Q 4 500 x ∧ head x = 68
  qc : Q 24 1100 sc ∧ head sc = 68
  b1 : twoT 75 s3 (80 :: sc) = (75 :: (s3 ++ (80 :: sc)), 0) ∧ pubT (75 :: (s3 ++ (80 :: sc))) = (r1, 0)
  b2 : twoT 75 s4 (80 :: sc) = (75 :: (s4 ++ (80 :: sc)), 0) ∧ pubT (75 :: (s4 ++ (80 :: sc))) = (r2, 0)
  b3 : twoT 75 o4 (80 :: sc) = (75 :: (o4 ++ (80 :: sc)), 0) ∧ pubT (75 :: (o4 ++ (80 :: sc))) = (r3, 0)
  b4 : twoT 86 o1 sc = (86 :: (o1 ++ sc), 0) ∧ pubT (86 :: (o1 ++ sc)) = (r0, 0)
  b5 : pubT o2 = (r4, 0)
  l0 : r4 = 80 :: o2

theorem pair_is (a b n : Int) (ha : 0 ≤ a) (ha2 : a ≤ 9223372036854775807) (hb : 0 ≤ b) (hb2 : b ≤ 9223372036854775807) (hn : 0 ≤ n) (hn2 : n ≤ 1048575) :
    ∃ s0 s1 s2 s3 s4 s5 o0 o1 o2 o3 o4 o5 sc r0 r1 r2 r3 r4 : List UInt8, Pair a b n s0 s1 s2 s3 s4 s5 o0 o1 o2 o3 o4 o5 sc r0 r1 r2 r3 r4 := by
  have hqa := q_name a.toNat (by omega)
  have hqb := q_name b.toNat (by omega)
  have hs : ∀ w ∈ wordsT, Q 4 500 (chS (nameL a.toNat) 1 w) ∧ head (chS (nameL a.toNat) 1 w) = 68 := by
    intro w hw
    refine chS_ok _ w 1 hqa ?_ (by omega)
    simp [wordsT] at hw
    rcases hw with rfl | rfl | rfl | rfl | rfl | rfl <;> simp
  have ho : ∀ w ∈ wordsT, Q 4 500 (chS (nameL b.toNat) 2 w) ∧ head (chS (nameL b.toNat) 2 w) = 68 := by
    intro w hw
    refine chS_ok _ w 2 hqb ?_ (by omega)
    simp [wordsT] at hw
    rcases hw with rfl | rfl | rfl | rfl | rfl | rfl <;> simp
  have h1 := channelT_at (nameL a.toNat) 1 hqa (by omega)
  have h2 := channelT_at (nameL b.toNat) 2 hqb (by omega)
  simp only [wordsT, List.map_cons, List.map_nil] at h1 h2
  simp only [wordsT, List.forall_mem_cons] at hs ho
  obtain ⟨q0, q1, q2, q3, q4, q5, _⟩ := hs
  obtain ⟨u0, u1, u2, u3, u4, u5, _⟩ := ho
  generalize chS (nameL a.toNat) 1 [102, 117, 110, 100] = s0 at *
  generalize chS (nameL a.toNat) 1 [114, 101, 118] = s1 at *
  generalize chS (nameL a.toNat) 1 [112, 97, 121] = s2 at *
  generalize chS (nameL a.toNat) 1 [108, 97, 116, 101, 114] = s3 at *
  generalize chS (nameL a.toNat) 1 [104, 116, 108, 99] = s4 at *
  generalize chS (nameL a.toNat) 1 [115, 101, 101, 100] = s5 at *
  generalize chS (nameL b.toNat) 2 [102, 117, 110, 100] = o0 at *
  generalize chS (nameL b.toNat) 2 [114, 101, 118] = o1 at *
  generalize chS (nameL b.toNat) 2 [112, 97, 121] = o2 at *
  generalize chS (nameL b.toNat) 2 [108, 97, 116, 101, 114] = o3 at *
  generalize chS (nameL b.toNat) 2 [104, 116, 108, 99] = o4 at *
  generalize chS (nameL b.toNat) 2 [115, 101, 101, 100] = o5 at *
  obtain ⟨sc, hr, hpt, hq, hh⟩ := revealT_at q5.1 q5.2 n hn hn2
  refine ⟨s0, s1, s2, s3, s4, s5, o0, o1, o2, o3, o4, o5, sc, _, _, _, _, _, ⟨?_, ?_, h1, h2, ?_, ?_, hr, hpt, set_at q3 q4 u1 u2 u4 ⟨hq, hh⟩, ?_, ⟨hq, hh⟩, pub_bind (sec_up q3) (q_pt ⟨hq, hh⟩), pub_bind (sec_up q4) (q_pt ⟨hq, hh⟩), pub_bind (sec_up u4) (q_pt ⟨hq, hh⟩), pub_join (sec_up u1) ⟨hq, hh⟩, ?_, rfl⟩⟩
  · have := nameT_ok a.toNat
    rwa [show ((a.toNat : Nat) : Int) = a by omega] at this
  · have := nameT_ok b.toNat
    rwa [show ((b.toNat : Nat) : Int) = b by omega] at this
  · refine publicT_at ?_
    simp only [List.forall_mem_cons]
    exact ⟨q0, q1, q2, q3, q4, by simp⟩
  · refine publicT_at ?_
    simp only [List.forall_mem_cons]
    exact ⟨u0, u1, u2, u3, u4, by simp⟩
  · simp only [List.forall_mem_cons]
    exact ⟨q0, q1, q2, q3, q4, q5, u0, u1, u2, u3, u4, u5, by simp⟩
  · exact pubT_plain u2.1 (by rw [u2.2]; decide) (by rw [u2.2]; decide) (by omega) (by omega)

set_option maxRecDepth 100000 in
set_option maxHeartbeats 8000000 in
theorem lPair (a b n : Int) (s0 s1 s2 s3 s4 s5 o0 o1 o2 o3 o4 o5 sc r0 r1 r2 r3 r4 : List UInt8) (hP : Pair a b n s0 s1 s2 s3 s4 s5 o0 o1 o2 o3 o4 o5 sc r0 r1 r2 r3 r4) (ha : 0 ≤ a) (ha2 : a ≤ 9223372036854775807) (hb : 0 ≤ b) (hb2 : b ≤ 9223372036854775807) (hn : 0 ≤ n) (hn2 : n ≤ 1048575) (w : World) (hG : GOk w) (hW : WordsOk w) :
    Calls Tryz.prog 58 #[.int .i64 a, .int .i64 b, .int .i64 n] w fun e w' => e = .returned (.tuple #[.agg #[.string (bs s0), .string (bs s1), .string (bs s2), .string (bs s3), .string (bs s4), .string (bs s5)], .agg #[.string (bs o0), .string (bs o1), .string (bs o2), .string (bs o3), .string (bs o4), .string (bs o5)], .agg #[.string (bs r0), .string (bs r1), .string (bs r2), .string (bs r3), .string (bs r4)], .string (bs sc), .bool true]) ∧ Below w.heap.size w w' := by
  have HP := Lib.hid hP
  have HG0 := Lib.hid hG
  have HW := Lib.hid hW
  have hs := hG.size
  clear hP hG hW
  have QL : ∀ x ∈ [s0, s1, s2, s3, s4, s5, o0, o1, o2, o3, o4, o5], x.length ≤ 500 := fun x hx => (HP.out.qs x hx).1.2
  have ls0 : s0.length ≤ 500 := QL s0 (by simp)
  have lo0 : o0.length ≤ 500 := QL o0 (by simp)
  have ls1 : s1.length ≤ 500 := QL s1 (by simp)
  have lo1 : o1.length ≤ 500 := QL o1 (by simp)
  have ls2 : s2.length ≤ 500 := QL s2 (by simp)
  have lo2 : o2.length ≤ 500 := QL o2 (by simp)
  have ls3 : s3.length ≤ 500 := QL s3 (by simp)
  have lo3 : o3.length ≤ 500 := QL o3 (by simp)
  have ls4 : s4.length ≤ 500 := QL s4 (by simp)
  have lo4 : o4.length ≤ 500 := QL o4 (by simp)
  have ls5 : s5.length ≤ 500 := QL s5 (by simp)
  have lo5 : o5.length ≤ 500 := QL o5 (by simp)
  have lsc : sc.length ≤ 1100 := HP.out.qc.1.2
  clear QL
  have la : (nameL a.toNat).length ≤ 25 := (q_name a.toNat (by omega)).2
  have lb : (nameL b.toNat).length ≤ 25 := (q_name b.toNat (by omega)).2
  go_enter Tryz.func58, Tryz.ntmps58
  have hg0 : GL [] w w := gl_refl _ _
  have hs0 : w.heap.size ≤ w.heap.size := Nat.le_refl _
  go_wp2_with fail
  have HRar : Hid ((((w.alloc (.cells #[.string (bs []), .string (bs []), .string (bs []), .string (bs []), .string (bs []), .string (bs [])] 44)).alloc (.cells #[.string (bs []), .string (bs []), .string (bs []), .string (bs []), .string (bs []), .string (bs [])] 44)).alloc (.cells #[.string (bs []), .string (bs []), .string (bs []), .string (bs []), .string (bs [])] 102)).heap[w.heap.size]? = some (.cells #[.string (bs []), .string (bs []), .string (bs []), .string (bs []), .string (bs []), .string (bs [])] 44 (0, 0))) := by
    have h := blk_new w (.cells #[.string (bs []), .string (bs []), .string (bs []), .string (bs []), .string (bs []), .string (bs [])] 44)
    exact (blk_alloc (blk_alloc h (.cells #[.string (bs []), .string (bs []), .string (bs []), .string (bs []), .string (bs []), .string (bs [])] 44)) (.cells #[.string (bs []), .string (bs []), .string (bs []), .string (bs []), .string (bs [])] 102))
  have HRbr : Hid ((((w.alloc (.cells #[.string (bs []), .string (bs []), .string (bs []), .string (bs []), .string (bs []), .string (bs [])] 44)).alloc (.cells #[.string (bs []), .string (bs []), .string (bs []), .string (bs []), .string (bs []), .string (bs [])] 44)).alloc (.cells #[.string (bs []), .string (bs []), .string (bs []), .string (bs []), .string (bs [])] 102)).heap[w.heap.size + 1]? = some (.cells #[.string (bs []), .string (bs []), .string (bs []), .string (bs []), .string (bs []), .string (bs [])] 44 (0, 0))) := by
    have h := blk_new (w.alloc (.cells #[.string (bs []), .string (bs []), .string (bs []), .string (bs []), .string (bs []), .string (bs [])] 44)) (.cells #[.string (bs []), .string (bs []), .string (bs []), .string (bs []), .string (bs []), .string (bs [])] 44)
    rw [show (w.alloc (.cells #[.string (bs []), .string (bs []), .string (bs []), .string (bs []), .string (bs []), .string (bs [])] 44)).heap.size = w.heap.size + 1 by simp] at h
    exact (blk_alloc h (.cells #[.string (bs []), .string (bs []), .string (bs []), .string (bs []), .string (bs [])] 102))
  have HRcr : Hid ((((w.alloc (.cells #[.string (bs []), .string (bs []), .string (bs []), .string (bs []), .string (bs []), .string (bs [])] 44)).alloc (.cells #[.string (bs []), .string (bs []), .string (bs []), .string (bs []), .string (bs []), .string (bs [])] 44)).alloc (.cells #[.string (bs []), .string (bs []), .string (bs []), .string (bs []), .string (bs [])] 102)).heap[w.heap.size + 1 + 1]? = some (.cells #[.string (bs []), .string (bs []), .string (bs []), .string (bs []), .string (bs [])] 102 (0, 0))) := by
    have h := blk_new ((w.alloc (.cells #[.string (bs []), .string (bs []), .string (bs []), .string (bs []), .string (bs []), .string (bs [])] 44)).alloc (.cells #[.string (bs []), .string (bs []), .string (bs []), .string (bs []), .string (bs []), .string (bs [])] 44)) (.cells #[.string (bs []), .string (bs []), .string (bs []), .string (bs []), .string (bs [])] 102)
    rw [show ((w.alloc (.cells #[.string (bs []), .string (bs []), .string (bs []), .string (bs []), .string (bs []), .string (bs [])] 44)).alloc (.cells #[.string (bs []), .string (bs []), .string (bs []), .string (bs []), .string (bs []), .string (bs [])] 44)).heap.size = w.heap.size + 1 + 1 by simp] at h
    exact h
  have HGr := Lib.hid (gok_alloc (gok_alloc (gok_alloc HG0.out (.cells #[.string (bs []), .string (bs []), .string (bs []), .string (bs []), .string (bs []), .string (bs [])] 44)) (.cells #[.string (bs []), .string (bs []), .string (bs []), .string (bs []), .string (bs []), .string (bs [])] 44)) (.cells #[.string (bs []), .string (bs []), .string (bs []), .string (bs []), .string (bs [])] 102))
  have hgr : GL [] w (((w.alloc (.cells #[.string (bs []), .string (bs []), .string (bs []), .string (bs []), .string (bs []), .string (bs [])] 44)).alloc (.cells #[.string (bs []), .string (bs []), .string (bs []), .string (bs []), .string (bs []), .string (bs [])] 44)).alloc (.cells #[.string (bs []), .string (bs []), .string (bs []), .string (bs []), .string (bs [])] 102)) := (gl_alloc (gl_alloc (gl_alloc hg0 (.cells #[.string (bs []), .string (bs []), .string (bs []), .string (bs []), .string (bs []), .string (bs [])] 44)) (.cells #[.string (bs []), .string (bs []), .string (bs []), .string (bs []), .string (bs []), .string (bs [])] 44)) (.cells #[.string (bs []), .string (bs []), .string (bs []), .string (bs []), .string (bs [])] 102))
  generalize (((w.alloc (.cells #[.string (bs []), .string (bs []), .string (bs []), .string (bs []), .string (bs []), .string (bs [])] 44)).alloc (.cells #[.string (bs []), .string (bs []), .string (bs []), .string (bs []), .string (bs []), .string (bs [])] 44)).alloc (.cells #[.string (bs []), .string (bs []), .string (bs []), .string (bs []), .string (bs [])] 102)) = wr at *
  have hsr : w.heap.size ≤ wr.heap.size := hgr.size
  refine (tMkName a (by omega) (by omega) _ HGr.out).mono ?_
  rintro e w1 ⟨rfl, hb1⟩
  rw [HP.out.na]
  have HRc1 := Lib.hid (blk_below HRcr.out hb1 (blk_lt HRcr.out))
  have HRb1 := Lib.hid (blk_below HRbr.out hb1 (blk_lt HRbr.out))
  have HRa1 := Lib.hid (blk_below HRar.out hb1 (blk_lt HRar.out))
  have HG1 := Lib.hid (gok_below HGr.out hb1)
  have hg1 : GL [] w w1 := gl_below hb1 hgr
  have hs1 : w.heap.size ≤ w1.heap.size := hg1.size
  go_wp2_with fail
  refine (tMkName b (by omega) (by omega) _ HG1.out).mono ?_
  rintro e w2 ⟨rfl, hb2⟩
  rw [HP.out.nb]
  have HRc2 := Lib.hid (blk_below HRc1.out hb2 (blk_lt HRc1.out))
  have HRb2 := Lib.hid (blk_below HRb1.out hb2 (blk_lt HRb1.out))
  have HRa2 := Lib.hid (blk_below HRa1.out hb2 (blk_lt HRa1.out))
  have HG2 := Lib.hid (gok_below HG1.out hb2)
  have hg2 : GL [] w w2 := gl_below hb2 hg1
  have hs2 : w.heap.size ≤ w2.heap.size := hg2.size
  go_wp2_with fail
  refine (kChannel (nameL a.toNat) 1 (by omega) (by omega) (by omega) _ HG2.out (words_gl HW.out hs hg2 (by simp))).mono ?_
  rintro e w3 ⟨rfl, hb3⟩
  rw [HP.out.ca]
  simp only [secV, List.getD_cons_zero, List.getD_cons_succ]
  have HRc3 := Lib.hid (blk_below HRc2.out hb3 (blk_lt HRc2.out))
  have HRb3 := Lib.hid (blk_below HRb2.out hb3 (blk_lt HRb2.out))
  have HRa3 := Lib.hid (blk_below HRa2.out hb3 (blk_lt HRa2.out))
  have HG3 := Lib.hid (gok_below HG2.out hb3)
  have hg3 : GL [] w w3 := gl_below hb3 hg2
  have hs3 : w.heap.size ≤ w3.heap.size := hg3.size
  go_wp2_with fail
  have HRc3k := Lib.hid (blk_alloc HRc3.out (.cells #[.string (bs s0), .string (bs s1), .string (bs s2), .string (bs s3), .string (bs s4), .string (bs s5)] 44))
  have ltRcA : (w.heap.size + 1 + 1) < w3.heap.size := by have := blk_lt HRc3.out; omega
  have neRcA : (w.heap.size + 1 + 1) ≠ w3.heap.size := by omega
  have neARc : w3.heap.size ≠ (w.heap.size + 1 + 1) := by omega
  have HRb3k := Lib.hid (blk_alloc HRb3.out (.cells #[.string (bs s0), .string (bs s1), .string (bs s2), .string (bs s3), .string (bs s4), .string (bs s5)] 44))
  have ltRbA : (w.heap.size + 1) < w3.heap.size := by have := blk_lt HRb3.out; omega
  have neRbA : (w.heap.size + 1) ≠ w3.heap.size := by omega
  have neARb : w3.heap.size ≠ (w.heap.size + 1) := by omega
  have HRa3k := Lib.hid (blk_alloc HRa3.out (.cells #[.string (bs s0), .string (bs s1), .string (bs s2), .string (bs s3), .string (bs s4), .string (bs s5)] 44))
  have ltRaA : w.heap.size < w3.heap.size := by have := blk_lt HRa3.out; omega
  have neRaA : w.heap.size ≠ w3.heap.size := by omega
  have neARa : w3.heap.size ≠ w.heap.size := by omega
  have HA3k : Hid ((w3.alloc (.cells #[.string (bs s0), .string (bs s1), .string (bs s2), .string (bs s3), .string (bs s4), .string (bs s5)] 44)).heap[w3.heap.size]? = some (.cells #[.string (bs s0), .string (bs s1), .string (bs s2), .string (bs s3), .string (bs s4), .string (bs s5)] 44 (0, 0))) := by
    have h := blk_new w3 (.cells #[.string (bs s0), .string (bs s1), .string (bs s2), .string (bs s3), .string (bs s4), .string (bs s5)] 44)
    exact h
  have HG3k := Lib.hid (gok_alloc HG3.out (.cells #[.string (bs s0), .string (bs s1), .string (bs s2), .string (bs s3), .string (bs s4), .string (bs s5)] 44))
  have hg3k : GL [] w (w3.alloc (.cells #[.string (bs s0), .string (bs s1), .string (bs s2), .string (bs s3), .string (bs s4), .string (bs s5)] 44)) := (gl_alloc hg3 (.cells #[.string (bs s0), .string (bs s1), .string (bs s2), .string (bs s3), .string (bs s4), .string (bs s5)] 44))
  have geA : w.heap.size ≤ w3.heap.size := by have := hg3.size; omega
  have gnA : gN ≤ w3.heap.size := by have := HG3.out.size; omega
  generalize (w3.alloc (.cells #[.string (bs s0), .string (bs s1), .string (bs s2), .string (bs s3), .string (bs s4), .string (bs s5)] 44)) = w3k at *
  generalize w3.heap.size = A at *
  have hs3k : w.heap.size ≤ w3k.heap.size := hg3k.size
  refine (kChannel (nameL b.toNat) 2 (by omega) (by omega) (by omega) _ HG3k.out (words_gl HW.out hs hg3k (by simp))).mono ?_
  rintro e w4 ⟨rfl, hb4⟩
  rw [HP.out.cb]
  simp only [secV, List.getD_cons_zero, List.getD_cons_succ]
  have HRc4 := Lib.hid (blk_below HRc3k.out hb4 (blk_lt HRc3k.out))
  have HRb4 := Lib.hid (blk_below HRb3k.out hb4 (blk_lt HRb3k.out))
  have HRa4 := Lib.hid (blk_below HRa3k.out hb4 (blk_lt HRa3k.out))
  have HA4 := Lib.hid (blk_below HA3k.out hb4 (blk_lt HA3k.out))
  have HG4 := Lib.hid (gok_below HG3k.out hb4)
  have hg4 : GL [] w w4 := gl_below hb4 hg3k
  have hs4 : w.heap.size ≤ w4.heap.size := hg4.size
  have fa1 := blk_cell HA4.out
  have fb1 := blk_free HA4.out
  have fl1 := blk_lt HA4.out
  go_wp2_with fail
  clear fa1 fb1 fl1
  have HRc4k := Lib.hid (blk_alloc HRc4.out (.cells #[.string (bs o0), .string (bs o1), .string (bs o2), .string (bs o3), .string (bs o4), .string (bs o5)] 44))
  have ltRcB : (w.heap.size + 1 + 1) < w4.heap.size := by have := blk_lt HRc4.out; omega
  have neRcB : (w.heap.size + 1 + 1) ≠ w4.heap.size := by omega
  have neBRc : w4.heap.size ≠ (w.heap.size + 1 + 1) := by omega
  have HRb4k := Lib.hid (blk_alloc HRb4.out (.cells #[.string (bs o0), .string (bs o1), .string (bs o2), .string (bs o3), .string (bs o4), .string (bs o5)] 44))
  have ltRbB : (w.heap.size + 1) < w4.heap.size := by have := blk_lt HRb4.out; omega
  have neRbB : (w.heap.size + 1) ≠ w4.heap.size := by omega
  have neBRb : w4.heap.size ≠ (w.heap.size + 1) := by omega
  have HRa4k := Lib.hid (blk_alloc HRa4.out (.cells #[.string (bs o0), .string (bs o1), .string (bs o2), .string (bs o3), .string (bs o4), .string (bs o5)] 44))
  have ltRaB : w.heap.size < w4.heap.size := by have := blk_lt HRa4.out; omega
  have neRaB : w.heap.size ≠ w4.heap.size := by omega
  have neBRa : w4.heap.size ≠ w.heap.size := by omega
  have HA4k := Lib.hid (blk_alloc HA4.out (.cells #[.string (bs o0), .string (bs o1), .string (bs o2), .string (bs o3), .string (bs o4), .string (bs o5)] 44))
  have ltAB : A < w4.heap.size := by have := blk_lt HA4.out; omega
  have neAB : A ≠ w4.heap.size := by omega
  have neBA : w4.heap.size ≠ A := by omega
  have HB4k : Hid ((w4.alloc (.cells #[.string (bs o0), .string (bs o1), .string (bs o2), .string (bs o3), .string (bs o4), .string (bs o5)] 44)).heap[w4.heap.size]? = some (.cells #[.string (bs o0), .string (bs o1), .string (bs o2), .string (bs o3), .string (bs o4), .string (bs o5)] 44 (0, 0))) := by
    have h := blk_new w4 (.cells #[.string (bs o0), .string (bs o1), .string (bs o2), .string (bs o3), .string (bs o4), .string (bs o5)] 44)
    exact h
  have HG4k := Lib.hid (gok_alloc HG4.out (.cells #[.string (bs o0), .string (bs o1), .string (bs o2), .string (bs o3), .string (bs o4), .string (bs o5)] 44))
  have hg4k : GL [] w (w4.alloc (.cells #[.string (bs o0), .string (bs o1), .string (bs o2), .string (bs o3), .string (bs o4), .string (bs o5)] 44)) := (gl_alloc hg4 (.cells #[.string (bs o0), .string (bs o1), .string (bs o2), .string (bs o3), .string (bs o4), .string (bs o5)] 44))
  have geB : w.heap.size ≤ w4.heap.size := by have := hg4.size; omega
  have gnB : gN ≤ w4.heap.size := by have := HG4.out.size; omega
  generalize (w4.alloc (.cells #[.string (bs o0), .string (bs o1), .string (bs o2), .string (bs o3), .string (bs o4), .string (bs o5)] 44)) = w4k at *
  generalize w4.heap.size = B at *
  have hs4k : w.heap.size ≤ w4k.heap.size := hg4k.size
  refine (kPublic s0 s1 s2 s3 s4 s5 (by omega) (by omega) (by omega) (by omega) (by omega) _ HG4k.out).mono ?_
  rintro e w5 ⟨rfl, hb5⟩
  rw [HP.out.pa]
  simp only [keysV, List.getD_cons_zero, List.getD_cons_succ]
  have HRc5 := Lib.hid (blk_below HRc4k.out hb5 (blk_lt HRc4k.out))
  have HRb5 := Lib.hid (blk_below HRb4k.out hb5 (blk_lt HRb4k.out))
  have HRa5 := Lib.hid (blk_below HRa4k.out hb5 (blk_lt HRa4k.out))
  have HA5 := Lib.hid (blk_below HA4k.out hb5 (blk_lt HA4k.out))
  have HB5 := Lib.hid (blk_below HB4k.out hb5 (blk_lt HB4k.out))
  have HG5 := Lib.hid (gok_below HG4k.out hb5)
  have hg5 : GL [] w w5 := gl_below hb5 hg4k
  have hs5 : w.heap.size ≤ w5.heap.size := hg5.size
  have fa2 := blk_cell HB5.out
  have fb2 := blk_free HB5.out
  have fl2 := blk_lt HB5.out
  go_wp2_with fail
  clear fa2 fb2 fl2
  have HRc5k := Lib.hid (blk_alloc HRc5.out (.cells #[.string (bs (80 :: s0)), .string (bs (80 :: s1)), .string (bs (80 :: s2)), .string (bs (80 :: s3)), .string (bs (80 :: s4))] 46))
  have ltRcC : (w.heap.size + 1 + 1) < w5.heap.size := by have := blk_lt HRc5.out; omega
  have neRcC : (w.heap.size + 1 + 1) ≠ w5.heap.size := by omega
  have neCRc : w5.heap.size ≠ (w.heap.size + 1 + 1) := by omega
  have HRb5k := Lib.hid (blk_alloc HRb5.out (.cells #[.string (bs (80 :: s0)), .string (bs (80 :: s1)), .string (bs (80 :: s2)), .string (bs (80 :: s3)), .string (bs (80 :: s4))] 46))
  have ltRbC : (w.heap.size + 1) < w5.heap.size := by have := blk_lt HRb5.out; omega
  have neRbC : (w.heap.size + 1) ≠ w5.heap.size := by omega
  have neCRb : w5.heap.size ≠ (w.heap.size + 1) := by omega
  have HRa5k := Lib.hid (blk_alloc HRa5.out (.cells #[.string (bs (80 :: s0)), .string (bs (80 :: s1)), .string (bs (80 :: s2)), .string (bs (80 :: s3)), .string (bs (80 :: s4))] 46))
  have ltRaC : w.heap.size < w5.heap.size := by have := blk_lt HRa5.out; omega
  have neRaC : w.heap.size ≠ w5.heap.size := by omega
  have neCRa : w5.heap.size ≠ w.heap.size := by omega
  have HA5k := Lib.hid (blk_alloc HA5.out (.cells #[.string (bs (80 :: s0)), .string (bs (80 :: s1)), .string (bs (80 :: s2)), .string (bs (80 :: s3)), .string (bs (80 :: s4))] 46))
  have ltAC : A < w5.heap.size := by have := blk_lt HA5.out; omega
  have neAC : A ≠ w5.heap.size := by omega
  have neCA : w5.heap.size ≠ A := by omega
  have HB5k := Lib.hid (blk_alloc HB5.out (.cells #[.string (bs (80 :: s0)), .string (bs (80 :: s1)), .string (bs (80 :: s2)), .string (bs (80 :: s3)), .string (bs (80 :: s4))] 46))
  have ltBC : B < w5.heap.size := by have := blk_lt HB5.out; omega
  have neBC : B ≠ w5.heap.size := by omega
  have neCB : w5.heap.size ≠ B := by omega
  have HC5k : Hid ((w5.alloc (.cells #[.string (bs (80 :: s0)), .string (bs (80 :: s1)), .string (bs (80 :: s2)), .string (bs (80 :: s3)), .string (bs (80 :: s4))] 46)).heap[w5.heap.size]? = some (.cells #[.string (bs (80 :: s0)), .string (bs (80 :: s1)), .string (bs (80 :: s2)), .string (bs (80 :: s3)), .string (bs (80 :: s4))] 46 (0, 0))) := by
    have h := blk_new w5 (.cells #[.string (bs (80 :: s0)), .string (bs (80 :: s1)), .string (bs (80 :: s2)), .string (bs (80 :: s3)), .string (bs (80 :: s4))] 46)
    exact h
  have HG5k := Lib.hid (gok_alloc HG5.out (.cells #[.string (bs (80 :: s0)), .string (bs (80 :: s1)), .string (bs (80 :: s2)), .string (bs (80 :: s3)), .string (bs (80 :: s4))] 46))
  have hg5k : GL [] w (w5.alloc (.cells #[.string (bs (80 :: s0)), .string (bs (80 :: s1)), .string (bs (80 :: s2)), .string (bs (80 :: s3)), .string (bs (80 :: s4))] 46)) := (gl_alloc hg5 (.cells #[.string (bs (80 :: s0)), .string (bs (80 :: s1)), .string (bs (80 :: s2)), .string (bs (80 :: s3)), .string (bs (80 :: s4))] 46))
  have geC : w.heap.size ≤ w5.heap.size := by have := hg5.size; omega
  have gnC : gN ≤ w5.heap.size := by have := HG5.out.size; omega
  generalize (w5.alloc (.cells #[.string (bs (80 :: s0)), .string (bs (80 :: s1)), .string (bs (80 :: s2)), .string (bs (80 :: s3)), .string (bs (80 :: s4))] 46)) = w5k at *
  generalize w5.heap.size = C at *
  have hs5k : w.heap.size ≤ w5k.heap.size := hg5k.size
  refine (kPublic o0 o1 o2 o3 o4 o5 (by omega) (by omega) (by omega) (by omega) (by omega) _ HG5k.out).mono ?_
  rintro e w6 ⟨rfl, hb6⟩
  rw [HP.out.pb]
  simp only [keysV, List.getD_cons_zero, List.getD_cons_succ]
  have HRc6 := Lib.hid (blk_below HRc5k.out hb6 (blk_lt HRc5k.out))
  have HRb6 := Lib.hid (blk_below HRb5k.out hb6 (blk_lt HRb5k.out))
  have HRa6 := Lib.hid (blk_below HRa5k.out hb6 (blk_lt HRa5k.out))
  have HA6 := Lib.hid (blk_below HA5k.out hb6 (blk_lt HA5k.out))
  have HB6 := Lib.hid (blk_below HB5k.out hb6 (blk_lt HB5k.out))
  have HC6 := Lib.hid (blk_below HC5k.out hb6 (blk_lt HC5k.out))
  have HG6 := Lib.hid (gok_below HG5k.out hb6)
  have hg6 : GL [] w w6 := gl_below hb6 hg5k
  have hs6 : w.heap.size ≤ w6.heap.size := hg6.size
  have fa3 := blk_cell HA6.out
  have fb3 := blk_free HA6.out
  have fl3 := blk_lt HA6.out
  go_wp2_with fail
  clear fa3 fb3 fl3
  have HRc6k := Lib.hid (blk_alloc HRc6.out (.cells #[.string (bs (80 :: o0)), .string (bs (80 :: o1)), .string (bs (80 :: o2)), .string (bs (80 :: o3)), .string (bs (80 :: o4))] 46))
  have ltRcD : (w.heap.size + 1 + 1) < w6.heap.size := by have := blk_lt HRc6.out; omega
  have neRcD : (w.heap.size + 1 + 1) ≠ w6.heap.size := by omega
  have neDRc : w6.heap.size ≠ (w.heap.size + 1 + 1) := by omega
  have HRb6k := Lib.hid (blk_alloc HRb6.out (.cells #[.string (bs (80 :: o0)), .string (bs (80 :: o1)), .string (bs (80 :: o2)), .string (bs (80 :: o3)), .string (bs (80 :: o4))] 46))
  have ltRbD : (w.heap.size + 1) < w6.heap.size := by have := blk_lt HRb6.out; omega
  have neRbD : (w.heap.size + 1) ≠ w6.heap.size := by omega
  have neDRb : w6.heap.size ≠ (w.heap.size + 1) := by omega
  have HRa6k := Lib.hid (blk_alloc HRa6.out (.cells #[.string (bs (80 :: o0)), .string (bs (80 :: o1)), .string (bs (80 :: o2)), .string (bs (80 :: o3)), .string (bs (80 :: o4))] 46))
  have ltRaD : w.heap.size < w6.heap.size := by have := blk_lt HRa6.out; omega
  have neRaD : w.heap.size ≠ w6.heap.size := by omega
  have neDRa : w6.heap.size ≠ w.heap.size := by omega
  have HA6k := Lib.hid (blk_alloc HA6.out (.cells #[.string (bs (80 :: o0)), .string (bs (80 :: o1)), .string (bs (80 :: o2)), .string (bs (80 :: o3)), .string (bs (80 :: o4))] 46))
  have ltAD : A < w6.heap.size := by have := blk_lt HA6.out; omega
  have neAD : A ≠ w6.heap.size := by omega
  have neDA : w6.heap.size ≠ A := by omega
  have HB6k := Lib.hid (blk_alloc HB6.out (.cells #[.string (bs (80 :: o0)), .string (bs (80 :: o1)), .string (bs (80 :: o2)), .string (bs (80 :: o3)), .string (bs (80 :: o4))] 46))
  have ltBD : B < w6.heap.size := by have := blk_lt HB6.out; omega
  have neBD : B ≠ w6.heap.size := by omega
  have neDB : w6.heap.size ≠ B := by omega
  have HC6k := Lib.hid (blk_alloc HC6.out (.cells #[.string (bs (80 :: o0)), .string (bs (80 :: o1)), .string (bs (80 :: o2)), .string (bs (80 :: o3)), .string (bs (80 :: o4))] 46))
  have ltCD : C < w6.heap.size := by have := blk_lt HC6.out; omega
  have neCD : C ≠ w6.heap.size := by omega
  have neDC : w6.heap.size ≠ C := by omega
  have HD6k : Hid ((w6.alloc (.cells #[.string (bs (80 :: o0)), .string (bs (80 :: o1)), .string (bs (80 :: o2)), .string (bs (80 :: o3)), .string (bs (80 :: o4))] 46)).heap[w6.heap.size]? = some (.cells #[.string (bs (80 :: o0)), .string (bs (80 :: o1)), .string (bs (80 :: o2)), .string (bs (80 :: o3)), .string (bs (80 :: o4))] 46 (0, 0))) := by
    have h := blk_new w6 (.cells #[.string (bs (80 :: o0)), .string (bs (80 :: o1)), .string (bs (80 :: o2)), .string (bs (80 :: o3)), .string (bs (80 :: o4))] 46)
    exact h
  have HG6k := Lib.hid (gok_alloc HG6.out (.cells #[.string (bs (80 :: o0)), .string (bs (80 :: o1)), .string (bs (80 :: o2)), .string (bs (80 :: o3)), .string (bs (80 :: o4))] 46))
  have hg6k : GL [] w (w6.alloc (.cells #[.string (bs (80 :: o0)), .string (bs (80 :: o1)), .string (bs (80 :: o2)), .string (bs (80 :: o3)), .string (bs (80 :: o4))] 46)) := (gl_alloc hg6 (.cells #[.string (bs (80 :: o0)), .string (bs (80 :: o1)), .string (bs (80 :: o2)), .string (bs (80 :: o3)), .string (bs (80 :: o4))] 46))
  have geD : w.heap.size ≤ w6.heap.size := by have := hg6.size; omega
  have gnD : gN ≤ w6.heap.size := by have := HG6.out.size; omega
  generalize (w6.alloc (.cells #[.string (bs (80 :: o0)), .string (bs (80 :: o1)), .string (bs (80 :: o2)), .string (bs (80 :: o3)), .string (bs (80 :: o4))] 46)) = w6k at *
  generalize w6.heap.size = D at *
  have hs6k : w.heap.size ≤ w6k.heap.size := hg6k.size
  refine (kReveal s0 s1 s2 s3 s4 s5 n (by omega) (by omega) (by omega) _ HG6k.out).mono ?_
  rintro e w7 ⟨rfl, hb7⟩
  rw [HP.out.rv]
  have HRc7 := Lib.hid (blk_below HRc6k.out hb7 (blk_lt HRc6k.out))
  have HRb7 := Lib.hid (blk_below HRb6k.out hb7 (blk_lt HRb6k.out))
  have HRa7 := Lib.hid (blk_below HRa6k.out hb7 (blk_lt HRa6k.out))
  have HA7 := Lib.hid (blk_below HA6k.out hb7 (blk_lt HA6k.out))
  have HB7 := Lib.hid (blk_below HB6k.out hb7 (blk_lt HB6k.out))
  have HC7 := Lib.hid (blk_below HC6k.out hb7 (blk_lt HC6k.out))
  have HD7 := Lib.hid (blk_below HD6k.out hb7 (blk_lt HD6k.out))
  have HG7 := Lib.hid (gok_below HG6k.out hb7)
  have hg7 : GL [] w w7 := gl_below hb7 hg6k
  have hs7 : w.heap.size ≤ w7.heap.size := hg7.size
  have fa4 := blk_cell HA7.out
  have fb4 := blk_free HA7.out
  have fl4 := blk_lt HA7.out
  go_wp2_with fail
  refine (kPoint s0 s1 s2 s3 s4 s5 n (by omega) (by omega) (by omega) _ HG7.out).mono ?_
  rintro e w8 ⟨rfl, hb8⟩
  rw [HP.out.pt]
  clear fa4 fb4 fl4
  have HRc8 := Lib.hid (blk_below HRc7.out hb8 (blk_lt HRc7.out))
  have HRb8 := Lib.hid (blk_below HRb7.out hb8 (blk_lt HRb7.out))
  have HRa8 := Lib.hid (blk_below HRa7.out hb8 (blk_lt HRa7.out))
  have HA8 := Lib.hid (blk_below HA7.out hb8 (blk_lt HA7.out))
  have HB8 := Lib.hid (blk_below HB7.out hb8 (blk_lt HB7.out))
  have HC8 := Lib.hid (blk_below HC7.out hb8 (blk_lt HC7.out))
  have HD8 := Lib.hid (blk_below HD7.out hb8 (blk_lt HD7.out))
  have HG8 := Lib.hid (gok_below HG7.out hb8)
  have hg8 : GL [] w w8 := gl_below hb8 hg7
  have hs8 : w.heap.size ≤ w8.heap.size := hg8.size
  have fa5 := blk_cell HC8.out
  have fb5 := blk_free HC8.out
  have fl5 := blk_lt HC8.out
  have fa6 := blk_cell HD8.out
  have fb6 := blk_free HD8.out
  have fl6 := blk_lt HD8.out
  go_wp2_with fail
  refine (kSet (80 :: s0) (80 :: s1) (80 :: s2) (80 :: s3) (80 :: s4) (80 :: o0) (80 :: o1) (80 :: o2) (80 :: o3) (80 :: o4) (80 :: sc) (by simp; omega) (by simp; omega) (by simp; omega) (by simp; omega) (by simp; omega) (by simp; omega) _ HG8.out).mono ?_
  rintro e w9 ⟨rfl, hb9⟩
  rw [HP.out.st]
  simp only [keysV, List.getD_cons_zero, List.getD_cons_succ]
  clear fa5 fb5 fl5 fa6 fb6 fl6
  have HRc9 := Lib.hid (blk_below HRc8.out hb9 (blk_lt HRc8.out))
  have HRb9 := Lib.hid (blk_below HRb8.out hb9 (blk_lt HRb8.out))
  have HRa9 := Lib.hid (blk_below HRa8.out hb9 (blk_lt HRa8.out))
  have HA9 := Lib.hid (blk_below HA8.out hb9 (blk_lt HA8.out))
  have HB9 := Lib.hid (blk_below HB8.out hb9 (blk_lt HB8.out))
  have HC9 := Lib.hid (blk_below HC8.out hb9 (blk_lt HC8.out))
  have HD9 := Lib.hid (blk_below HD8.out hb9 (blk_lt HD8.out))
  have HG9 := Lib.hid (gok_below HG8.out hb9)
  have hg9 : GL [] w w9 := gl_below hb9 hg8
  have hs9 : w.heap.size ≤ w9.heap.size := hg9.size
  go_wp2_with fail
  have HRcz := Lib.hid (blk_alloc (blk_alloc HRc9.out (.cells #[.string (bs r0), .string (bs r1), .string (bs r2), .string (bs r3), .string (bs r4)] 102)) (.cells #[.int .i64 0, .int .i64 0, .int .i64 0, .int .i64 0, .int .i64 0, .int .i64 0, .int .i64 0, .int .i64 0, .int .i64 0] 47))
  have ltRcE : (w.heap.size + 1 + 1) < w9.heap.size := by have := blk_lt HRc9.out; omega
  have neRcE : (w.heap.size + 1 + 1) ≠ w9.heap.size := by omega
  have neERc : w9.heap.size ≠ (w.heap.size + 1 + 1) := by omega
  have ltRcZ : (w.heap.size + 1 + 1) < w9.heap.size + 1 := by have := blk_lt HRc9.out; omega
  have neRcZ : (w.heap.size + 1 + 1) ≠ w9.heap.size + 1 := by omega
  have neZRc : w9.heap.size + 1 ≠ (w.heap.size + 1 + 1) := by omega
  have HRbz := Lib.hid (blk_alloc (blk_alloc HRb9.out (.cells #[.string (bs r0), .string (bs r1), .string (bs r2), .string (bs r3), .string (bs r4)] 102)) (.cells #[.int .i64 0, .int .i64 0, .int .i64 0, .int .i64 0, .int .i64 0, .int .i64 0, .int .i64 0, .int .i64 0, .int .i64 0] 47))
  have ltRbE : (w.heap.size + 1) < w9.heap.size := by have := blk_lt HRb9.out; omega
  have neRbE : (w.heap.size + 1) ≠ w9.heap.size := by omega
  have neERb : w9.heap.size ≠ (w.heap.size + 1) := by omega
  have ltRbZ : (w.heap.size + 1) < w9.heap.size + 1 := by have := blk_lt HRb9.out; omega
  have neRbZ : (w.heap.size + 1) ≠ w9.heap.size + 1 := by omega
  have neZRb : w9.heap.size + 1 ≠ (w.heap.size + 1) := by omega
  have HRaz := Lib.hid (blk_alloc (blk_alloc HRa9.out (.cells #[.string (bs r0), .string (bs r1), .string (bs r2), .string (bs r3), .string (bs r4)] 102)) (.cells #[.int .i64 0, .int .i64 0, .int .i64 0, .int .i64 0, .int .i64 0, .int .i64 0, .int .i64 0, .int .i64 0, .int .i64 0] 47))
  have ltRaE : w.heap.size < w9.heap.size := by have := blk_lt HRa9.out; omega
  have neRaE : w.heap.size ≠ w9.heap.size := by omega
  have neERa : w9.heap.size ≠ w.heap.size := by omega
  have ltRaZ : w.heap.size < w9.heap.size + 1 := by have := blk_lt HRa9.out; omega
  have neRaZ : w.heap.size ≠ w9.heap.size + 1 := by omega
  have neZRa : w9.heap.size + 1 ≠ w.heap.size := by omega
  have HAz := Lib.hid (blk_alloc (blk_alloc HA9.out (.cells #[.string (bs r0), .string (bs r1), .string (bs r2), .string (bs r3), .string (bs r4)] 102)) (.cells #[.int .i64 0, .int .i64 0, .int .i64 0, .int .i64 0, .int .i64 0, .int .i64 0, .int .i64 0, .int .i64 0, .int .i64 0] 47))
  have ltAE : A < w9.heap.size := by have := blk_lt HA9.out; omega
  have neAE : A ≠ w9.heap.size := by omega
  have neEA : w9.heap.size ≠ A := by omega
  have ltAZ : A < w9.heap.size + 1 := by have := blk_lt HA9.out; omega
  have neAZ : A ≠ w9.heap.size + 1 := by omega
  have neZA : w9.heap.size + 1 ≠ A := by omega
  have HBz := Lib.hid (blk_alloc (blk_alloc HB9.out (.cells #[.string (bs r0), .string (bs r1), .string (bs r2), .string (bs r3), .string (bs r4)] 102)) (.cells #[.int .i64 0, .int .i64 0, .int .i64 0, .int .i64 0, .int .i64 0, .int .i64 0, .int .i64 0, .int .i64 0, .int .i64 0] 47))
  have ltBE : B < w9.heap.size := by have := blk_lt HB9.out; omega
  have neBE : B ≠ w9.heap.size := by omega
  have neEB : w9.heap.size ≠ B := by omega
  have ltBZ : B < w9.heap.size + 1 := by have := blk_lt HB9.out; omega
  have neBZ : B ≠ w9.heap.size + 1 := by omega
  have neZB : w9.heap.size + 1 ≠ B := by omega
  have HCz := Lib.hid (blk_alloc (blk_alloc HC9.out (.cells #[.string (bs r0), .string (bs r1), .string (bs r2), .string (bs r3), .string (bs r4)] 102)) (.cells #[.int .i64 0, .int .i64 0, .int .i64 0, .int .i64 0, .int .i64 0, .int .i64 0, .int .i64 0, .int .i64 0, .int .i64 0] 47))
  have ltCE : C < w9.heap.size := by have := blk_lt HC9.out; omega
  have neCE : C ≠ w9.heap.size := by omega
  have neEC : w9.heap.size ≠ C := by omega
  have ltCZ : C < w9.heap.size + 1 := by have := blk_lt HC9.out; omega
  have neCZ : C ≠ w9.heap.size + 1 := by omega
  have neZC : w9.heap.size + 1 ≠ C := by omega
  have HDz := Lib.hid (blk_alloc (blk_alloc HD9.out (.cells #[.string (bs r0), .string (bs r1), .string (bs r2), .string (bs r3), .string (bs r4)] 102)) (.cells #[.int .i64 0, .int .i64 0, .int .i64 0, .int .i64 0, .int .i64 0, .int .i64 0, .int .i64 0, .int .i64 0, .int .i64 0] 47))
  have ltDE : D < w9.heap.size := by have := blk_lt HD9.out; omega
  have neDE : D ≠ w9.heap.size := by omega
  have neED : w9.heap.size ≠ D := by omega
  have ltDZ : D < w9.heap.size + 1 := by have := blk_lt HD9.out; omega
  have neDZ : D ≠ w9.heap.size + 1 := by omega
  have neZD : w9.heap.size + 1 ≠ D := by omega
  have HEz : Hid (((w9.alloc (.cells #[.string (bs r0), .string (bs r1), .string (bs r2), .string (bs r3), .string (bs r4)] 102)).alloc (.cells #[.int .i64 0, .int .i64 0, .int .i64 0, .int .i64 0, .int .i64 0, .int .i64 0, .int .i64 0, .int .i64 0, .int .i64 0] 47)).heap[w9.heap.size]? = some (.cells #[.string (bs r0), .string (bs r1), .string (bs r2), .string (bs r3), .string (bs r4)] 102 (0, 0))) := by
    have h := blk_new w9 (.cells #[.string (bs r0), .string (bs r1), .string (bs r2), .string (bs r3), .string (bs r4)] 102)
    exact (blk_alloc h (.cells #[.int .i64 0, .int .i64 0, .int .i64 0, .int .i64 0, .int .i64 0, .int .i64 0, .int .i64 0, .int .i64 0, .int .i64 0] 47))
  have HZz : Hid (((w9.alloc (.cells #[.string (bs r0), .string (bs r1), .string (bs r2), .string (bs r3), .string (bs r4)] 102)).alloc (.cells #[.int .i64 0, .int .i64 0, .int .i64 0, .int .i64 0, .int .i64 0, .int .i64 0, .int .i64 0, .int .i64 0, .int .i64 0] 47)).heap[w9.heap.size + 1]? = some (.cells #[.int .i64 0, .int .i64 0, .int .i64 0, .int .i64 0, .int .i64 0, .int .i64 0, .int .i64 0, .int .i64 0, .int .i64 0] 47 (0, 0))) := by
    have h := blk_new (w9.alloc (.cells #[.string (bs r0), .string (bs r1), .string (bs r2), .string (bs r3), .string (bs r4)] 102)) (.cells #[.int .i64 0, .int .i64 0, .int .i64 0, .int .i64 0, .int .i64 0, .int .i64 0, .int .i64 0, .int .i64 0, .int .i64 0] 47)
    rw [show (w9.alloc (.cells #[.string (bs r0), .string (bs r1), .string (bs r2), .string (bs r3), .string (bs r4)] 102)).heap.size = w9.heap.size + 1 by simp] at h
    exact h
  have HGz := Lib.hid (gok_alloc (gok_alloc HG9.out (.cells #[.string (bs r0), .string (bs r1), .string (bs r2), .string (bs r3), .string (bs r4)] 102)) (.cells #[.int .i64 0, .int .i64 0, .int .i64 0, .int .i64 0, .int .i64 0, .int .i64 0, .int .i64 0, .int .i64 0, .int .i64 0] 47))
  have hgz : GL [] w ((w9.alloc (.cells #[.string (bs r0), .string (bs r1), .string (bs r2), .string (bs r3), .string (bs r4)] 102)).alloc (.cells #[.int .i64 0, .int .i64 0, .int .i64 0, .int .i64 0, .int .i64 0, .int .i64 0, .int .i64 0, .int .i64 0, .int .i64 0] 47)) := (gl_alloc (gl_alloc hg9 (.cells #[.string (bs r0), .string (bs r1), .string (bs r2), .string (bs r3), .string (bs r4)] 102)) (.cells #[.int .i64 0, .int .i64 0, .int .i64 0, .int .i64 0, .int .i64 0, .int .i64 0, .int .i64 0, .int .i64 0, .int .i64 0] 47))
  have geE : w.heap.size ≤ w9.heap.size := by have := hg9.size; omega
  have gnE : gN ≤ w9.heap.size := by have := HG9.out.size; omega
  have geZ : w.heap.size ≤ w9.heap.size + 1 := by have := hg9.size; omega
  have gnZ : gN ≤ w9.heap.size + 1 := by have := HG9.out.size; omega
  have ltEZ : w9.heap.size < w9.heap.size + 1 := by omega
  have neEZ : w9.heap.size ≠ w9.heap.size + 1 := by omega
  have neZE : w9.heap.size + 1 ≠ w9.heap.size := by omega
  generalize ((w9.alloc (.cells #[.string (bs r0), .string (bs r1), .string (bs r2), .string (bs r3), .string (bs r4)] 102)).alloc (.cells #[.int .i64 0, .int .i64 0, .int .i64 0, .int .i64 0, .int .i64 0, .int .i64 0, .int .i64 0, .int .i64 0, .int .i64 0] 47)) = wz at *
  generalize w9.heap.size + 1 = Z at *
  generalize w9.heap.size = E at *
  have hsz : w.heap.size ≤ wz.heap.size := hgz.size
  have v0 := blk_cell HZz.out
  have v1 := blk_free HZz.out
  go_loopw [91] (fun iv wr => ∃ k : Nat, k ≤ 9 ∧ iv = .int .i64 k ∧ wr = wz) (fun iv _ => 9 - (intOf iv).toNat)
  case atStart => exact ⟨0, by omega, rfl, rfl⟩
  case round =>
    obtain ⟨k, hk, rfl, hwr⟩ := hrel
    subst hwr
    by_cases hlt : k < 9
    · have i1 : (k : Int) < 9 := by omega
      have c0 : wr.cell? ⟨Z, k, none⟩ = some (.int .i64 0) := by
        rw [v0 k]
        match k, hlt with
        | 0, _ => rfl
        | 1, _ => rfl
        | 2, _ => rfl
        | 3, _ => rfl
        | 4, _ => rfl
        | 5, _ => rfl
        | 6, _ => rfl
        | 7, _ => rfl
        | 8, _ => rfl
      clear v0
      go_wp2
      go_roundw
      case rel => exact ⟨k + 1, by omega, by go_num, by first | rfl | trivial⟩
      case measure => (show 9 - ((k : Int) + 1).toNat < 9 - (k : Int).toNat); omega
    · obtain rfl : k = 9 := by omega
      clear v0 v1
      have fa7 := blk_cell HAz.out
      have fb7 := blk_free HAz.out
      have fl7 := blk_lt HAz.out
      have fa8 := blk_cell HBz.out
      have fb8 := blk_free HBz.out
      have fl8 := blk_lt HBz.out
      have fa9 := blk_cell HEz.out
      have fb9 := blk_free HEz.out
      have fl9 := blk_lt HEz.out
      have fa10 := blk_cell HRaz.out
      have fb10 := blk_free HRaz.out
      have fl10 := blk_lt HRaz.out
      have fa11 := blk_cell HRbz.out
      have fb11 := blk_free HRbz.out
      have fl11 := blk_lt HRbz.out
      have fa12 := blk_cell HRcz.out
      have fb12 := blk_free HRcz.out
      have fl12 := blk_lt HRcz.out
      go_wp2_with fail
      go_region
      all_goals
        go_wp2_with fail
        refine bodyPost_ret (v := .tuple #[.agg #[.string (bs s0), .string (bs s1), .string (bs s2), .string (bs s3), .string (bs s4), .string (bs s5)], .agg #[.string (bs o0), .string (bs o1), .string (bs o2), .string (bs o3), .string (bs o4), .string (bs o5)], .agg #[.string (bs r0), .string (bs r1), .string (bs r2), .string (bs r3), .string (bs r4)], .string (bs sc), .bool true]) (by simp [results, Tryz.results58, go_sem, fa7, fb7, fl7, fa8, fb8, fl8, fa9, fb9, fl9, fa10, fb10, fl10, fa11, fb11, fl11, fa12, fb12, fl12]) rfl ⟨rfl, gl_to_below (by (repeat' (first | with_reducible exact gl_refl _ _ | with_reducible assumption | with_reducible refine gl_alloc ?_ _ | with_reducible refine gl_drewN ?_ _ | with_reducible refine gl_drew ?_ | (with_reducible refine gl_setn ?_ ?_ _; · (first | exact Nat.le_refl _ | (simp; done) | (simp; omega) | omega)) | (with_reducible refine gl_seti ?_ ?_ _; · (simp; done)) | with_reducible refine gl_below (by with_reducible assumption) ?_ | with_reducible refine gl_step (by with_reducible assumption) ?_ (by first | (simp; done) | (simp; omega)) | with_reducible refine gl_grown (by with_reducible assumption) ?_ (by first | (simp; done) | (simp; omega)))))⟩
end Go.Proofs.YtdmfoablpdhnbaaGreatDoor
