/- The laws of layer 16: each side's secrets fit the commitment's public keys. -/
import Derived.Test.YtdmfoablpdhnbaaGreatDoorLawD
set_option linter.unusedSimpArgs false
set_option linter.unusedVariables false
namespace Go.Proofs.YtdmfoablpdhnbaaGreatDoor
open Go.RowKit

theorem and_top (n : Int) : bits .and .i64 n 1048575 = n % 1048576 := by
  have h1 : (BitVec.ofInt 64 1048575).toNat = 2 ^ 20 - 1 := by decide
  have key : (BitVec.ofInt 64 n &&& BitVec.ofInt 64 1048575).toNat = (n % ((2 ^ 64 : Nat) : Int)).toNat % 2 ^ 20 := by
    rw [BitVec.toNat_and, BitVec.toNat_ofInt, h1, Nat.and_two_pow_sub_one_eq_mod]
  show IntKind.i64.wrap ((BitVec.ofInt 64 n &&& BitVec.ofInt 64 1048575).toNat : Nat) = n % 1048576
  rw [key, IntKind.wrap_i64]
  omega
theorem fit_at {x0 x1 x2 x3 o2 r0 r1 r2 r3 r4 : List UInt8} (h0 : pubT x0 = (r1, 0)) (h1 : pubT x1 = (r2, 0)) (h2 : pubT x2 = (r3, 0)) (h3 : pubT x3 = (r0, 0)) (h4 : pubT o2 = (r4, 0))
    (hl : ∀ x ∈ [x0, x1, x2, x3, o2], x.length ≤ 9000) (k : Nat) (hk : k < 5) :
    ∃ x y, (#[.string (bs x0), .string (bs x1), .string (bs x2), .string (bs x3), .string (bs o2)] : Array Value)[k]? = some (.string (bs x)) ∧ (#[.string (bs r1), .string (bs r2), .string (bs r3), .string (bs r0), .string (bs r4)] : Array Value)[k]? = some (.string (bs y)) ∧ (#[.int .i64 0, .int .i64 0, .int .i64 0, .int .i64 0, .int .i64 0] : Array Value)[k]? = some (.int .i64 0) ∧ pubT x = (y, 0) ∧ x.length ≤ 9000 := by
  match k, hk with
  | 0, _ => exact ⟨x0, r1, rfl, rfl, rfl, h0, hl _ (by simp)⟩
  | 1, _ => exact ⟨x1, r2, rfl, rfl, rfl, h1, hl _ (by simp)⟩
  | 2, _ => exact ⟨x2, r3, rfl, rfl, rfl, h2, hl _ (by simp)⟩
  | 3, _ => exact ⟨x3, r0, rfl, rfl, rfl, h3, hl _ (by simp)⟩
  | 4, _ => exact ⟨o2, r4, rfl, rfl, rfl, h4, hl _ (by simp)⟩

set_option maxRecDepth 100000 in
set_option maxHeartbeats 4000000 in
theorem lKeysFit (a b n : Int) (ha : -9223372036854775808 ≤ a) (ha2 : a ≤ 9223372036854775807) (hb : -9223372036854775808 ≤ b) (hb2 : b ≤ 9223372036854775807) (hn : -9223372036854775808 ≤ n) (hn2 : n ≤ 9223372036854775807) (w : World) (hG : GOk w) (hW : WordsOk w) :
    Calls Tryz.prog 15 #[.int .i64 a, .int .i64 b, .int .i64 n] w fun e w' => e = .returned (.bool true) ∧ Below w.heap.size w w' := by
  by_cases hna : a < 0
  · go_enter Tryz.func15, Tryz.ntmps15
    go_wp2
    go_ret
    exact ⟨rfl, by (repeat' (first | with_reducible exact Below.refl _ _ | with_reducible assumption | with_reducible refine below_alloc ?_ ?_ _ | with_reducible refine Below.setCell ?_ ?_ _ | with_reducible refine Below.drew ?_ | with_reducible refine below_drewN ?_ _ | with_reducible refine below_step (by assumption) ?_ ?_ | (with_reducible refine Below.trans ?_ (Below.mono (by assumption) ?_)) | exact Nat.le_refl _ | (simp; done) | (simp; omega) | omega))⟩
  · by_cases hnb : b < 0
    · go_enter Tryz.func15, Tryz.ntmps15
      go_wp2
      go_ret
      exact ⟨rfl, by (repeat' (first | with_reducible exact Below.refl _ _ | with_reducible assumption | with_reducible refine below_alloc ?_ ?_ _ | with_reducible refine Below.setCell ?_ ?_ _ | with_reducible refine Below.drew ?_ | with_reducible refine below_drewN ?_ _ | with_reducible refine below_step (by assumption) ?_ ?_ | (with_reducible refine Below.trans ?_ (Below.mono (by assumption) ?_)) | exact Nat.le_refl _ | (simp; done) | (simp; omega) | omega))⟩
    · have g1 : decide (a < 0) = false := by simpa using hna
      have g2 : decide (b < 0) = false := by simpa using hnb
      have pa : 0 ≤ a := by omega
      have pb : 0 ≤ b := by omega
      obtain ⟨m, hm⟩ : ∃ m, n % 1048576 = m := ⟨_, rfl⟩
      have hm0 : 0 ≤ m := by omega
      have hm1 : m ≤ 1048575 := by omega
      have eTop : bits BinOp.and IntKind.i64 n 1048575 = m := by rw [and_top, hm]
      clear hm hna hnb
      obtain ⟨s0, s1, s2, s3, s4, s5, o0, o1, o2, o3, o4, o5, sc, r0, r1, r2, r3, r4, hP⟩ := pair_is a b m pa ha2 pb hb2 hm0 hm1
      have HP := Lib.hid hP
      have HG0 := Lib.hid hG
      have HW := Lib.hid hW
      have hs := hG.size
      have QL : ∀ x ∈ [s0, s1, s2, s3, s4, s5, o0, o1, o2, o3, o4, o5], x.length ≤ 500 := fun x hx => (HP.out.qs x hx).1.2
      have lsc : sc.length ≤ 1100 := HP.out.qc.1.2
      clear hP hG hW
      have ls0 : s0.length ≤ 500 := QL s0 (by simp)
      have lo0 : o0.length ≤ 500 := QL o0 (by simp)
      have ls1 : s1.length ≤ 500 := QL s1 (by simp)
      have lo1 : o1.length ≤ 500 := QL o1 (by simp)
      have ls2 : s2.length ≤ 500 := QL s2 (by simp)
      have lo2 : o2.length ≤ 500 := QL o2 (by simp)
      have ls3 : s3.length ≤ 500 := QL s3 (by simp)
      have lo3 : o3.length ≤ 500 := QL o3 (by simp)
      have ls4 : s4.length ≤ 500 := QL s4 (by simp)
      have lo4 : o4.length ≤ 500 := QL o4 (by simp)
      have ls5 : s5.length ≤ 500 := QL s5 (by simp)
      have lo5 : o5.length ≤ 500 := QL o5 (by simp)
      clear QL
      obtain ⟨x0, hx0⟩ : ∃ x, (75 :: (s3 ++ (80 :: sc))) = x := ⟨_, rfl⟩
      obtain ⟨x1, hx1⟩ : ∃ x, (75 :: (s4 ++ (80 :: sc))) = x := ⟨_, rfl⟩
      obtain ⟨x2, hx2⟩ : ∃ x, (75 :: (o4 ++ (80 :: sc))) = x := ⟨_, rfl⟩
      obtain ⟨x3, hx3⟩ : ∃ x, (86 :: (o1 ++ sc)) = x := ⟨_, rfl⟩
      have B0 := HP.out.b1
      rw [hx0] at B0
      have HFB0 := Lib.hid B0
      clear B0
      have B1 := HP.out.b2
      rw [hx1] at B1
      have HFB1 := Lib.hid B1
      clear B1
      have B2 := HP.out.b3
      rw [hx2] at B2
      have HFB2 := Lib.hid B2
      clear B2
      have B3 := HP.out.b4
      rw [hx3] at B3
      have HFB3 := Lib.hid B3
      clear B3
      have HFit := Lib.hid (fit_at HFB0.out.2 HFB1.out.2 HFB2.out.2 HFB3.out.2 HP.out.b5 (by intro x hx; simp only [List.mem_cons, List.not_mem_nil, or_false] at hx; rcases hx with rfl | rfl | rfl | rfl | rfl; (rw [← hx0]; simp; omega); (rw [← hx1]; simp; omega); (rw [← hx2]; simp; omega); (rw [← hx3]; simp; omega); omega))
      clear hx0 hx1 hx2 hx3
      go_enter Tryz.func15, Tryz.ntmps15
      have hg0 : GL [] w w := gl_refl _ _
      have hs0 : w.heap.size ≤ w.heap.size := Nat.le_refl _
      go_wp2_with fail
      refine (lPair a b m s0 s1 s2 s3 s4 s5 o0 o1 o2 o3 o4 o5 sc r0 r1 r2 r3 r4 HP.out pa ha2 pb hb2 hm0 hm1 _ HG0.out HW.out).mono ?_
      rintro e w1 ⟨rfl, hb1⟩
      have HG1 := Lib.hid (gok_below HG0.out hb1)
      have hg1 : GL [] w w1 := gl_below hb1 hg0
      have hs1 : w.heap.size ≤ w1.heap.size := hg1.size
      go_wp2_with fail
      have HA2 : Hid ((((w1.alloc (.cells #[.string (bs s0), .string (bs s1), .string (bs s2), .string (bs s3), .string (bs s4), .string (bs s5)] 44)).alloc (.cells #[.string (bs o0), .string (bs o1), .string (bs o2), .string (bs o3), .string (bs o4), .string (bs o5)] 44)).alloc (.cells #[.string (bs r0), .string (bs r1), .string (bs r2), .string (bs r3), .string (bs r4)] 102)).heap[w1.heap.size]? = some (.cells #[.string (bs s0), .string (bs s1), .string (bs s2), .string (bs s3), .string (bs s4), .string (bs s5)] 44 (0, 0))) := by
        have h := blk_new w1 (.cells #[.string (bs s0), .string (bs s1), .string (bs s2), .string (bs s3), .string (bs s4), .string (bs s5)] 44)
        exact (blk_alloc (blk_alloc h (.cells #[.string (bs o0), .string (bs o1), .string (bs o2), .string (bs o3), .string (bs o4), .string (bs o5)] 44)) (.cells #[.string (bs r0), .string (bs r1), .string (bs r2), .string (bs r3), .string (bs r4)] 102))
      have HB2 : Hid ((((w1.alloc (.cells #[.string (bs s0), .string (bs s1), .string (bs s2), .string (bs s3), .string (bs s4), .string (bs s5)] 44)).alloc (.cells #[.string (bs o0), .string (bs o1), .string (bs o2), .string (bs o3), .string (bs o4), .string (bs o5)] 44)).alloc (.cells #[.string (bs r0), .string (bs r1), .string (bs r2), .string (bs r3), .string (bs r4)] 102)).heap[w1.heap.size + 1]? = some (.cells #[.string (bs o0), .string (bs o1), .string (bs o2), .string (bs o3), .string (bs o4), .string (bs o5)] 44 (0, 0))) := by
        have h := blk_new (w1.alloc (.cells #[.string (bs s0), .string (bs s1), .string (bs s2), .string (bs s3), .string (bs s4), .string (bs s5)] 44)) (.cells #[.string (bs o0), .string (bs o1), .string (bs o2), .string (bs o3), .string (bs o4), .string (bs o5)] 44)
        rw [show (w1.alloc (.cells #[.string (bs s0), .string (bs s1), .string (bs s2), .string (bs s3), .string (bs s4), .string (bs s5)] 44)).heap.size = w1.heap.size + 1 by simp] at h
        exact (blk_alloc h (.cells #[.string (bs r0), .string (bs r1), .string (bs r2), .string (bs r3), .string (bs r4)] 102))
      have HC2 : Hid ((((w1.alloc (.cells #[.string (bs s0), .string (bs s1), .string (bs s2), .string (bs s3), .string (bs s4), .string (bs s5)] 44)).alloc (.cells #[.string (bs o0), .string (bs o1), .string (bs o2), .string (bs o3), .string (bs o4), .string (bs o5)] 44)).alloc (.cells #[.string (bs r0), .string (bs r1), .string (bs r2), .string (bs r3), .string (bs r4)] 102)).heap[w1.heap.size + 1 + 1]? = some (.cells #[.string (bs r0), .string (bs r1), .string (bs r2), .string (bs r3), .string (bs r4)] 102 (0, 0))) := by
        have h := blk_new ((w1.alloc (.cells #[.string (bs s0), .string (bs s1), .string (bs s2), .string (bs s3), .string (bs s4), .string (bs s5)] 44)).alloc (.cells #[.string (bs o0), .string (bs o1), .string (bs o2), .string (bs o3), .string (bs o4), .string (bs o5)] 44)) (.cells #[.string (bs r0), .string (bs r1), .string (bs r2), .string (bs r3), .string (bs r4)] 102)
        rw [show ((w1.alloc (.cells #[.string (bs s0), .string (bs s1), .string (bs s2), .string (bs s3), .string (bs s4), .string (bs s5)] 44)).alloc (.cells #[.string (bs o0), .string (bs o1), .string (bs o2), .string (bs o3), .string (bs o4), .string (bs o5)] 44)).heap.size = w1.heap.size + 1 + 1 by simp] at h
        exact h
      have HG2 := Lib.hid (gok_alloc (gok_alloc (gok_alloc HG1.out (.cells #[.string (bs s0), .string (bs s1), .string (bs s2), .string (bs s3), .string (bs s4), .string (bs s5)] 44)) (.cells #[.string (bs o0), .string (bs o1), .string (bs o2), .string (bs o3), .string (bs o4), .string (bs o5)] 44)) (.cells #[.string (bs r0), .string (bs r1), .string (bs r2), .string (bs r3), .string (bs r4)] 102))
      have hg2 : GL [] w (((w1.alloc (.cells #[.string (bs s0), .string (bs s1), .string (bs s2), .string (bs s3), .string (bs s4), .string (bs s5)] 44)).alloc (.cells #[.string (bs o0), .string (bs o1), .string (bs o2), .string (bs o3), .string (bs o4), .string (bs o5)] 44)).alloc (.cells #[.string (bs r0), .string (bs r1), .string (bs r2), .string (bs r3), .string (bs r4)] 102)) := (gl_alloc (gl_alloc (gl_alloc hg1 (.cells #[.string (bs s0), .string (bs s1), .string (bs s2), .string (bs s3), .string (bs s4), .string (bs s5)] 44)) (.cells #[.string (bs o0), .string (bs o1), .string (bs o2), .string (bs o3), .string (bs o4), .string (bs o5)] 44)) (.cells #[.string (bs r0), .string (bs r1), .string (bs r2), .string (bs r3), .string (bs r4)] 102))
      have geA : w.heap.size ≤ w1.heap.size := by have := hg1.size; omega
      have gnA : gN ≤ w1.heap.size := by have := HG1.out.size; omega
      have geB : w.heap.size ≤ w1.heap.size + 1 := by have := hg1.size; omega
      have gnB : gN ≤ w1.heap.size + 1 := by have := HG1.out.size; omega
      have ltAB : w1.heap.size < w1.heap.size + 1 := by omega
      have neAB : w1.heap.size ≠ w1.heap.size + 1 := by omega
      have neBA : w1.heap.size + 1 ≠ w1.heap.size := by omega
      have geC : w.heap.size ≤ w1.heap.size + 1 + 1 := by have := hg1.size; omega
      have gnC : gN ≤ w1.heap.size + 1 + 1 := by have := HG1.out.size; omega
      have ltAC : w1.heap.size < w1.heap.size + 1 + 1 := by omega
      have neAC : w1.heap.size ≠ w1.heap.size + 1 + 1 := by omega
      have neCA : w1.heap.size + 1 + 1 ≠ w1.heap.size := by omega
      have ltBC : w1.heap.size + 1 < w1.heap.size + 1 + 1 := by omega
      have neBC : w1.heap.size + 1 ≠ w1.heap.size + 1 + 1 := by omega
      have neCB : w1.heap.size + 1 + 1 ≠ w1.heap.size + 1 := by omega
      generalize (((w1.alloc (.cells #[.string (bs s0), .string (bs s1), .string (bs s2), .string (bs s3), .string (bs s4), .string (bs s5)] 44)).alloc (.cells #[.string (bs o0), .string (bs o1), .string (bs o2), .string (bs o3), .string (bs o4), .string (bs o5)] 44)).alloc (.cells #[.string (bs r0), .string (bs r1), .string (bs r2), .string (bs r3), .string (bs r4)] 102)) = w2 at *
      generalize w1.heap.size + 1 + 1 = C at *
      generalize w1.heap.size + 1 = B at *
      generalize w1.heap.size = A at *
      have hs2 : w.heap.size ≤ w2.heap.size := hg2.size
      have fa1 := blk_cell HA2.out
      have fb1 := blk_free HA2.out
      have fl1 := blk_lt HA2.out
      go_wp2_with fail
      refine (kPoint s0 s1 s2 s3 s4 s5 m (by omega) (by omega) (by omega) _ HG2.out).mono ?_
      rintro e w3 ⟨rfl, hb3⟩
      rw [HP.out.pt]
      clear fa1 fb1 fl1
      have HC3 := Lib.hid (blk_below HC2.out hb3 (blk_lt HC2.out))
      have HB3 := Lib.hid (blk_below HB2.out hb3 (blk_lt HB2.out))
      have HA3 := Lib.hid (blk_below HA2.out hb3 (blk_lt HA2.out))
      have HG3 := Lib.hid (gok_below HG2.out hb3)
      have hg3 : GL [] w w3 := gl_below hb3 hg2
      have hs3 : w.heap.size ≤ w3.heap.size := hg3.size
      have fa2 := blk_cell HA3.out
      have fb2 := blk_free HA3.out
      have fl2 := blk_lt HA3.out
      go_wp2_with fail
      refine (kBind s3 (80 :: sc) (by omega) (by simp; omega) _ HG3.out).mono ?_
      rintro e w4 ⟨rfl, hb4⟩
      rw [HFB0.out.1]
      clear fa2 fb2 fl2
      have HC4 := Lib.hid (blk_below HC3.out hb4 (blk_lt HC3.out))
      have HB4 := Lib.hid (blk_below HB3.out hb4 (blk_lt HB3.out))
      have HA4 := Lib.hid (blk_below HA3.out hb4 (blk_lt HA3.out))
      have HG4 := Lib.hid (gok_below HG3.out hb4)
      have hg4 : GL [] w w4 := gl_below hb4 hg3
      have hs4 : w.heap.size ≤ w4.heap.size := hg4.size
      have fa3 := blk_cell HA4.out
      have fb3 := blk_free HA4.out
      have fl3 := blk_lt HA4.out
      go_wp2_with fail
      refine (kBind s4 (80 :: sc) (by omega) (by simp; omega) _ HG4.out).mono ?_
      rintro e w5 ⟨rfl, hb5⟩
      rw [HFB1.out.1]
      clear fa3 fb3 fl3
      have HC5 := Lib.hid (blk_below HC4.out hb5 (blk_lt HC4.out))
      have HB5 := Lib.hid (blk_below HB4.out hb5 (blk_lt HB4.out))
      have HA5 := Lib.hid (blk_below HA4.out hb5 (blk_lt HA4.out))
      have HG5 := Lib.hid (gok_below HG4.out hb5)
      have hg5 : GL [] w w5 := gl_below hb5 hg4
      have hs5 : w.heap.size ≤ w5.heap.size := hg5.size
      have fa4 := blk_cell HB5.out
      have fb4 := blk_free HB5.out
      have fl4 := blk_lt HB5.out
      go_wp2_with fail
      refine (kBind o4 (80 :: sc) (by omega) (by simp; omega) _ HG5.out).mono ?_
      rintro e w6 ⟨rfl, hb6⟩
      rw [HFB2.out.1]
      clear fa4 fb4 fl4
      have HC6 := Lib.hid (blk_below HC5.out hb6 (blk_lt HC5.out))
      have HB6 := Lib.hid (blk_below HB5.out hb6 (blk_lt HB5.out))
      have HA6 := Lib.hid (blk_below HA5.out hb6 (blk_lt HA5.out))
      have HG6 := Lib.hid (gok_below HG5.out hb6)
      have hg6 : GL [] w w6 := gl_below hb6 hg5
      have hs6 : w.heap.size ≤ w6.heap.size := hg6.size
      have fa5 := blk_cell HB6.out
      have fb5 := blk_free HB6.out
      have fl5 := blk_lt HB6.out
      go_wp2_with fail
      refine (kRevoke o1 sc (by omega) (by omega) _ HG6.out).mono ?_
      rintro e w7 ⟨rfl, hb7⟩
      rw [HFB3.out.1]
      clear fa5 fb5 fl5
      have HC7 := Lib.hid (blk_below HC6.out hb7 (blk_lt HC6.out))
      have HB7 := Lib.hid (blk_below HB6.out hb7 (blk_lt HB6.out))
      have HA7 := Lib.hid (blk_below HA6.out hb7 (blk_lt HA6.out))
      have HG7 := Lib.hid (gok_below HG6.out hb7)
      have hg7 : GL [] w w7 := gl_below hb7 hg6
      have hs7 : w.heap.size ≤ w7.heap.size := hg7.size
      have fa6 := blk_cell HA7.out
      have fb6 := blk_free HA7.out
      have fl6 := blk_lt HA7.out
      have fa7 := blk_cell HB7.out
      have fb7 := blk_free HB7.out
      have fl7 := blk_lt HB7.out
      have fa8 := blk_cell HC7.out
      have fb8 := blk_free HC7.out
      have fl8 := blk_lt HC7.out
      go_wp2_with fail
      clear fa6 fb6 fl6 fa7 fb7 fl7 fa8 fb8 fl8
      have HC8 := Lib.hid (blk_alloc (blk_alloc (blk_alloc HC7.out (.cells #[.string (bs x0), .string (bs x1), .string (bs x2), .string (bs x3), .string (bs o2)] 22)) (.cells #[.string (bs r1), .string (bs r2), .string (bs r3), .string (bs r0), .string (bs r4)] 22)) (.cells #[.int .i64 0, .int .i64 0, .int .i64 0, .int .i64 0, .int .i64 0] 47))
      have ltCH : C < w7.heap.size := by have := blk_lt HC7.out; omega
      have neCH : C ≠ w7.heap.size := by omega
      have neHC : w7.heap.size ≠ C := by omega
      have ltCV : C < w7.heap.size + 1 := by have := blk_lt HC7.out; omega
      have neCV : C ≠ w7.heap.size + 1 := by omega
      have neVC : w7.heap.size + 1 ≠ C := by omega
      have ltCZ : C < w7.heap.size + 1 + 1 := by have := blk_lt HC7.out; omega
      have neCZ : C ≠ w7.heap.size + 1 + 1 := by omega
      have neZC : w7.heap.size + 1 + 1 ≠ C := by omega
      have HB8 := Lib.hid (blk_alloc (blk_alloc (blk_alloc HB7.out (.cells #[.string (bs x0), .string (bs x1), .string (bs x2), .string (bs x3), .string (bs o2)] 22)) (.cells #[.string (bs r1), .string (bs r2), .string (bs r3), .string (bs r0), .string (bs r4)] 22)) (.cells #[.int .i64 0, .int .i64 0, .int .i64 0, .int .i64 0, .int .i64 0] 47))
      have ltBH : B < w7.heap.size := by have := blk_lt HB7.out; omega
      have neBH : B ≠ w7.heap.size := by omega
      have neHB : w7.heap.size ≠ B := by omega
      have ltBV : B < w7.heap.size + 1 := by have := blk_lt HB7.out; omega
      have neBV : B ≠ w7.heap.size + 1 := by omega
      have neVB : w7.heap.size + 1 ≠ B := by omega
      have ltBZ : B < w7.heap.size + 1 + 1 := by have := blk_lt HB7.out; omega
      have neBZ : B ≠ w7.heap.size + 1 + 1 := by omega
      have neZB : w7.heap.size + 1 + 1 ≠ B := by omega
      have HA8 := Lib.hid (blk_alloc (blk_alloc (blk_alloc HA7.out (.cells #[.string (bs x0), .string (bs x1), .string (bs x2), .string (bs x3), .string (bs o2)] 22)) (.cells #[.string (bs r1), .string (bs r2), .string (bs r3), .string (bs r0), .string (bs r4)] 22)) (.cells #[.int .i64 0, .int .i64 0, .int .i64 0, .int .i64 0, .int .i64 0] 47))
      have ltAH : A < w7.heap.size := by have := blk_lt HA7.out; omega
      have neAH : A ≠ w7.heap.size := by omega
      have neHA : w7.heap.size ≠ A := by omega
      have ltAV : A < w7.heap.size + 1 := by have := blk_lt HA7.out; omega
      have neAV : A ≠ w7.heap.size + 1 := by omega
      have neVA : w7.heap.size + 1 ≠ A := by omega
      have ltAZ : A < w7.heap.size + 1 + 1 := by have := blk_lt HA7.out; omega
      have neAZ : A ≠ w7.heap.size + 1 + 1 := by omega
      have neZA : w7.heap.size + 1 + 1 ≠ A := by omega
      have HH8 : Hid ((((w7.alloc (.cells #[.string (bs x0), .string (bs x1), .string (bs x2), .string (bs x3), .string (bs o2)] 22)).alloc (.cells #[.string (bs r1), .string (bs r2), .string (bs r3), .string (bs r0), .string (bs r4)] 22)).alloc (.cells #[.int .i64 0, .int .i64 0, .int .i64 0, .int .i64 0, .int .i64 0] 47)).heap[w7.heap.size]? = some (.cells #[.string (bs x0), .string (bs x1), .string (bs x2), .string (bs x3), .string (bs o2)] 22 (0, 0))) := by
        have h := blk_new w7 (.cells #[.string (bs x0), .string (bs x1), .string (bs x2), .string (bs x3), .string (bs o2)] 22)
        exact (blk_alloc (blk_alloc h (.cells #[.string (bs r1), .string (bs r2), .string (bs r3), .string (bs r0), .string (bs r4)] 22)) (.cells #[.int .i64 0, .int .i64 0, .int .i64 0, .int .i64 0, .int .i64 0] 47))
      have HV8 : Hid ((((w7.alloc (.cells #[.string (bs x0), .string (bs x1), .string (bs x2), .string (bs x3), .string (bs o2)] 22)).alloc (.cells #[.string (bs r1), .string (bs r2), .string (bs r3), .string (bs r0), .string (bs r4)] 22)).alloc (.cells #[.int .i64 0, .int .i64 0, .int .i64 0, .int .i64 0, .int .i64 0] 47)).heap[w7.heap.size + 1]? = some (.cells #[.string (bs r1), .string (bs r2), .string (bs r3), .string (bs r0), .string (bs r4)] 22 (0, 0))) := by
        have h := blk_new (w7.alloc (.cells #[.string (bs x0), .string (bs x1), .string (bs x2), .string (bs x3), .string (bs o2)] 22)) (.cells #[.string (bs r1), .string (bs r2), .string (bs r3), .string (bs r0), .string (bs r4)] 22)
        rw [show (w7.alloc (.cells #[.string (bs x0), .string (bs x1), .string (bs x2), .string (bs x3), .string (bs o2)] 22)).heap.size = w7.heap.size + 1 by simp] at h
        exact (blk_alloc h (.cells #[.int .i64 0, .int .i64 0, .int .i64 0, .int .i64 0, .int .i64 0] 47))
      have HZ8 : Hid ((((w7.alloc (.cells #[.string (bs x0), .string (bs x1), .string (bs x2), .string (bs x3), .string (bs o2)] 22)).alloc (.cells #[.string (bs r1), .string (bs r2), .string (bs r3), .string (bs r0), .string (bs r4)] 22)).alloc (.cells #[.int .i64 0, .int .i64 0, .int .i64 0, .int .i64 0, .int .i64 0] 47)).heap[w7.heap.size + 1 + 1]? = some (.cells #[.int .i64 0, .int .i64 0, .int .i64 0, .int .i64 0, .int .i64 0] 47 (0, 0))) := by
        have h := blk_new ((w7.alloc (.cells #[.string (bs x0), .string (bs x1), .string (bs x2), .string (bs x3), .string (bs o2)] 22)).alloc (.cells #[.string (bs r1), .string (bs r2), .string (bs r3), .string (bs r0), .string (bs r4)] 22)) (.cells #[.int .i64 0, .int .i64 0, .int .i64 0, .int .i64 0, .int .i64 0] 47)
        rw [show ((w7.alloc (.cells #[.string (bs x0), .string (bs x1), .string (bs x2), .string (bs x3), .string (bs o2)] 22)).alloc (.cells #[.string (bs r1), .string (bs r2), .string (bs r3), .string (bs r0), .string (bs r4)] 22)).heap.size = w7.heap.size + 1 + 1 by simp] at h
        exact h
      have HG8 := Lib.hid (gok_alloc (gok_alloc (gok_alloc HG7.out (.cells #[.string (bs x0), .string (bs x1), .string (bs x2), .string (bs x3), .string (bs o2)] 22)) (.cells #[.string (bs r1), .string (bs r2), .string (bs r3), .string (bs r0), .string (bs r4)] 22)) (.cells #[.int .i64 0, .int .i64 0, .int .i64 0, .int .i64 0, .int .i64 0] 47))
      have hg8 : GL [] w (((w7.alloc (.cells #[.string (bs x0), .string (bs x1), .string (bs x2), .string (bs x3), .string (bs o2)] 22)).alloc (.cells #[.string (bs r1), .string (bs r2), .string (bs r3), .string (bs r0), .string (bs r4)] 22)).alloc (.cells #[.int .i64 0, .int .i64 0, .int .i64 0, .int .i64 0, .int .i64 0] 47)) := (gl_alloc (gl_alloc (gl_alloc hg7 (.cells #[.string (bs x0), .string (bs x1), .string (bs x2), .string (bs x3), .string (bs o2)] 22)) (.cells #[.string (bs r1), .string (bs r2), .string (bs r3), .string (bs r0), .string (bs r4)] 22)) (.cells #[.int .i64 0, .int .i64 0, .int .i64 0, .int .i64 0, .int .i64 0] 47))
      have geH : w.heap.size ≤ w7.heap.size := by have := hg7.size; omega
      have gnH : gN ≤ w7.heap.size := by have := HG7.out.size; omega
      have geV : w.heap.size ≤ w7.heap.size + 1 := by have := hg7.size; omega
      have gnV : gN ≤ w7.heap.size + 1 := by have := HG7.out.size; omega
      have ltHV : w7.heap.size < w7.heap.size + 1 := by omega
      have neHV : w7.heap.size ≠ w7.heap.size + 1 := by omega
      have neVH : w7.heap.size + 1 ≠ w7.heap.size := by omega
      have geZ : w.heap.size ≤ w7.heap.size + 1 + 1 := by have := hg7.size; omega
      have gnZ : gN ≤ w7.heap.size + 1 + 1 := by have := HG7.out.size; omega
      have ltHZ : w7.heap.size < w7.heap.size + 1 + 1 := by omega
      have neHZ : w7.heap.size ≠ w7.heap.size + 1 + 1 := by omega
      have neZH : w7.heap.size + 1 + 1 ≠ w7.heap.size := by omega
      have ltVZ : w7.heap.size + 1 < w7.heap.size + 1 + 1 := by omega
      have neVZ : w7.heap.size + 1 ≠ w7.heap.size + 1 + 1 := by omega
      have neZV : w7.heap.size + 1 + 1 ≠ w7.heap.size + 1 := by omega
      generalize (((w7.alloc (.cells #[.string (bs x0), .string (bs x1), .string (bs x2), .string (bs x3), .string (bs o2)] 22)).alloc (.cells #[.string (bs r1), .string (bs r2), .string (bs r3), .string (bs r0), .string (bs r4)] 22)).alloc (.cells #[.int .i64 0, .int .i64 0, .int .i64 0, .int .i64 0, .int .i64 0] 47)) = w8 at *
      generalize w7.heap.size + 1 + 1 = Z at *
      generalize w7.heap.size + 1 = V at *
      generalize w7.heap.size = H at *
      have hs8 : w.heap.size ≤ w8.heap.size := hg8.size
      go_loopw [110] (fun iv wr => ∃ k : Nat, k ≤ 5 ∧ iv = .int .i64 k ∧ Below w8.heap.size w8 wr) (fun iv _ => 5 - (intOf iv).toNat)
      case atStart => exact ⟨0, by omega, rfl, Below.refl _ _⟩
      case round =>
        obtain ⟨k, hk, rfl, hbel⟩ := hrel
        have HHr := Lib.hid (blk_below HH8.out hbel (blk_lt HH8.out))
        have HVr := Lib.hid (blk_below HV8.out hbel (blk_lt HV8.out))
        have HZr := Lib.hid (blk_below HZ8.out hbel (blk_lt HZ8.out))
        have HGr := Lib.hid (gok_below HG8.out hbel)
        have hgr : GL [] w wr := gl_below hbel hg8
        by_cases hlt : k < 5
        · have i1 : (k : Int) < 5 := by omega
          obtain ⟨x, y, f0, f1, f2, f3, f4⟩ := HFit.out k hlt
          have c0 : wr.cell? ⟨Z, k, none⟩ = some (.int .i64 0) := (blk_cell HZr.out k).trans f2
          have c1 : wr.cell? ⟨H, k, none⟩ = some (.string (bs x)) := (blk_cell HHr.out k).trans f0
          have F3 := Lib.hid f3
          have F1 := Lib.hid f1
          clear f0 f1 f2 f3
          go_wp2_with fail
          refine (tPub x (by omega) _ HGr.out).mono ?_
          rintro e w9 ⟨rfl, hb9⟩
          rw [F3.out]
          have HV9 := Lib.hid (blk_below HVr.out hb9 (blk_lt HVr.out))
          have c2 : w9.cell? ⟨V, k, none⟩ = some (.string (bs y)) := (blk_cell HV9.out k).trans F1.out
          clear c0 c1
          go_wp2_with fail
          go_roundw
          case rel => first | exact ⟨k + 1, by omega, by go_num, hbel.trans (hb9.mono hbel.size)⟩ | ((repeat apply Exists.intro); refine ⟨?_, rfl⟩; exact ⟨k + 1, by omega, by go_num, hbel.trans (hb9.mono hbel.size)⟩)
          case measure => (show 5 - ((k : Int) + 1).toNat < 5 - (k : Int).toNat); omega
        · obtain rfl : k = 5 := by omega
          go_wp2_with fail
          refine (lWorks _ HGr.out (words_gl HW.out hs hgr (by simp))).mono ?_
          rintro e w10 ⟨rfl, hb10⟩
          go_wp2_with fail
          go_ret
          exact ⟨rfl, gl_to_below (gl_below hb10 hgr)⟩
end Go.Proofs.YtdmfoablpdhnbaaGreatDoor
