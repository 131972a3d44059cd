/- The laws of layer 16: nobody makes the other side's secrets. -/
import Derived.Test.YtdmfoablpdhnbaaGreatDoorLawE
import Derived.Test.YtdmfoablpdhnbaaGreatDoorDedZ
import Derived.Test.YtdmfoablpdhnbaaGreatDoorDedO
import Derived.Test.YtdmfoablpdhnbaaGreatDoorDedF
set_option linter.unusedSimpArgs false
set_option linter.unusedVariables false
namespace Go.Proofs.YtdmfoablpdhnbaaGreatDoor
open Go.RowKit

theorem pub_hd {x r : List UInt8} (h : pubT x = (r, 0)) : right r = true ∧ KeyHd r := by
  unfold pubT at h
  split at h
  · rename_i hx
    unfold made at h
    split at h
    · rename_i hk
      injection h with h _
      obtain ⟨_, hp⟩ := key_rtD x.length x (Nat.le_refl _) hx
      rw [h] at hp hk
      refine ⟨hk, ?_⟩
      unfold KeyHd
      unfold pubC at hp
      simpa [Bool.or_eq_true, or_assoc] using hp
    · cases h
  · cases h
/-- What the law asks, of a pair. -/
theorem pair_plain {a b n : Int} {s0 s1 s2 s3 s4 s5 o0 o1 o2 o3 o4 o5 sc r0 r1 r2 r3 r4 : List UInt8} (hP : Pair a b n s0 s1 s2 s3 s4 s5 o0 o1 o2 o3 o4 o5 sc r0 r1 r2 r3 r4) (ha : 0 ≤ a) (ha2 : a ≤ 9223372036854775807) (hb : 0 ≤ b) (hb2 : b ≤ 9223372036854775807) (hab : a ≠ b) :
    ((∀ t ∈ [(80 :: s0), (80 :: s1), (80 :: s2), (80 :: s3), (80 :: s4), (80 :: o0), (80 :: o1), (80 :: o2), (80 :: o3), (80 :: o4), (80 :: sc), r0, r1, r2, r3], right t = true ∧ KeyHd t) ∧ (∀ t ∈ [s0, s1, s2, s3, s4, s5, o0, o1, o2, o3, o4, o5], right t = true) ∧ right sc = true ∧ right (86 :: (o1 ++ sc)) = true ∧ right (75 :: (s4 ++ (80 :: sc))) = true ∧ right (75 :: (o4 ++ (80 :: sc))) = true)
    ∧ (∀ S, Least (heardP [(80 :: s0), (80 :: s1), (80 :: s2), (80 :: s3), (80 :: s4), (80 :: o0), (80 :: o1), (80 :: o2), (80 :: o3), (80 :: o4), (80 :: sc), r0, r1, r2, r3]) S → kn S (86 :: (o1 ++ sc)) = false ∧ kn S (75 :: (s4 ++ (80 :: sc))) = false ∧ kn S (75 :: (o4 ++ (80 :: sc))) = false)
    ∧ (∀ S, Least (heardP ([(80 :: s0), (80 :: s1), (80 :: s2), (80 :: s3), (80 :: s4), (80 :: o0), (80 :: o1), (80 :: o2), (80 :: o3), (80 :: o4), (80 :: sc), r0, r1, r2, r3] ++ [s0, s1, s2, s3, s4, s5])) S → kn S (86 :: (o1 ++ sc)) = false ∧ kn S (75 :: (o4 ++ (80 :: sc))) = false ∧ kn S (75 :: (s4 ++ (80 :: sc))) = true ∧ kn S o2 = false)
    ∧ (∀ S, Least (heardP ([(80 :: s0), (80 :: s1), (80 :: s2), (80 :: s3), (80 :: s4), (80 :: o0), (80 :: o1), (80 :: o2), (80 :: o3), (80 :: o4), (80 :: sc), r0, r1, r2, r3] ++ [o0, o1, o2, o3, o4, o5])) S → kn S (86 :: (o1 ++ sc)) = false ∧ kn S (75 :: (s4 ++ (80 :: sc))) = false ∧ kn S (75 :: (o4 ++ (80 :: sc))) = true ∧ kn S s3 = false)
    ∧ (∀ S, Least (heardP ([(80 :: s0), (80 :: s1), (80 :: s2), (80 :: s3), (80 :: s4), (80 :: o0), (80 :: o1), (80 :: o2), (80 :: o3), (80 :: o4), (80 :: sc), r0, r1, r2, r3] ++ [o0, o1, o2, o3, o4, o5] ++ [sc])) S → kn S (86 :: (o1 ++ sc)) = true ∧ kn S (75 :: (s4 ++ (80 :: sc))) = false) := by
  have hA : a.toNat ≤ 9223372036854775807 := by omega
  have hB : b.toNat ≤ 9223372036854775807 := by omega
  have e1 := channelT_at (nameL a.toNat) 1 (q_name _ hA) (by omega)
  have e2 := channelT_at (nameL b.toNat) 2 (q_name _ hB) (by omega)
  rw [show ((1 : Nat) : Int) = 1 from rfl, hP.ca] at e1
  rw [show ((2 : Nat) : Int) = 2 from rfl, hP.cb] at e2
  simp only [wordsT, List.map_cons, List.map_nil, Prod.mk.injEq, List.cons.injEq, and_true] at e1 e2
  obtain ⟨f0, f1, f2, f3, f4, f5⟩ := e1
  obtain ⟨g0, g1, g2, g3, g4, g5⟩ := e2
  have hsc := q_right hP.qc.1 (by omega) (by omega)
  have hqr : ∀ x ∈ [s0, s1, s2, s3, s4, s5, o0, o1, o2, o3, o4, o5], right x = true := fun x hx => q_right (hP.qs x hx).1 (by omega) (by omega)
  have hp80 : ∀ x ∈ [s0, s1, s2, s3, s4, s5, o0, o1, o2, o3, o4, o5], right (80 :: x) = true ∧ KeyHd (80 :: x) := fun x hx => ⟨q_right (q_P (hP.qs x hx)) (by omega) (by omega), .inl rfl⟩
  have hL : ∀ t ∈ [(80 :: s0), (80 :: s1), (80 :: s2), (80 :: s3), (80 :: s4), (80 :: o0), (80 :: o1), (80 :: o2), (80 :: o3), (80 :: o4), (80 :: sc), r0, r1, r2, r3], right t = true ∧ KeyHd t := by
    have hps : right (80 :: sc) = true ∧ KeyHd (80 :: sc) := ⟨q_right (q_pt hP.qc) (by omega) (by omega), .inl rfl⟩
    simp only [List.forall_mem_cons] at hp80 ⊢
    obtain ⟨p0, p1, p2, p3, p4, p5, u0, u1, u2, u3, u4, u5, _⟩ := hp80
    exact ⟨p0, p1, p2, p3, p4, u0, u1, u2, u3, u4, hps, pub_hd hP.b4.2, pub_hd hP.b1.2, pub_hd hP.b2.2, pub_hd hP.b3.2, by simp⟩
  have hrt : ∀ {c : UInt8} {x y t : List UInt8}, twoT c x y = (t, 0) → right t = true := fun {c x y t} h => by
    have := (two_right (c := c) (a := x) (b := y) (by rw [h])).1
    rwa [h] at this
  have key := ks_plain hA hB (fun h => hab (by omega)) (N := n) (sR := s1) (sP := s2) (by rw [← f5]; exact hP.rv) hsc f3 f4 g1 g2 g4 hP.b4.1 hP.b2.1 hP.b3.1 (L := [(80 :: s0), (80 :: s1), (80 :: s2), (80 :: s3), (80 :: s4), (80 :: o0), (80 :: o1), (80 :: o2), (80 :: o3), (80 :: o4), (80 :: sc), r0, r1, r2, r3]) (fun t ht => (hL t ht).2) (by simp)
  have sA : ∀ t ∈ [s0, s1, s2, s3, s4, s5], Spn a.toNat 2 t := by
    rw [f0, f1, f2, f3, f4, f5]
    simp only [List.forall_mem_cons]
    exact ⟨chS_spn _ _ _, chS_spn _ _ _, chS_spn _ _ _, chS_spn _ _ _, chS_spn _ _ _, chS_spn _ _ _, by simp⟩
  have sB : ∀ t ∈ [o0, o1, o2, o3, o4, o5], Spn b.toNat 2 t := by
    rw [g0, g1, g2, g3, g4, g5]
    simp only [List.forall_mem_cons]
    exact ⟨chS_spn _ _ _, chS_spn _ _ _, chS_spn _ _ _, chS_spn _ _ _, chS_spn _ _ _, chS_spn _ _ _, by simp⟩
  refine ⟨⟨hL, hqr, hsc, hrt hP.b4.1, hrt hP.b2.1, hrt hP.b3.1⟩, key.1, fun S hS => key.2.1 _ S sA (by simp) hS, fun S hS => key.2.2.1 _ S sB (by simp) hS, fun S hS => key.2.2.2 _ S sB (by simp) hS⟩

set_option maxRecDepth 100000 in
set_option maxHeartbeats 8000000 in
theorem lKeysSecret (a b n : Int) (ha : -9223372036854775808 ≤ a) (ha2 : a ≤ 9223372036854775807) (hb : -9223372036854775808 ≤ b) (hb2 : b ≤ 9223372036854775807) (hn : -9223372036854775808 ≤ n) (hn2 : n ≤ 9223372036854775807) (w : World) (hG : GOk w) (hW : WordsOk w) :
    Calls Tryz.prog 16 #[.int .i64 a, .int .i64 b, .int .i64 n] w fun e w' => e = .returned (.bool true) ∧ Below w.heap.size w w' := by
  by_cases hna : a < 0
  · go_enter Tryz.func16, Tryz.ntmps16
    go_wp2
    go_ret
    exact ⟨by first | rfl | (simp; done), by (repeat' (first | with_reducible exact Below.refl _ _ | with_reducible assumption | with_reducible refine below_alloc ?_ ?_ _ | with_reducible refine Below.setCell ?_ ?_ _ | with_reducible refine Below.drew ?_ | with_reducible refine below_drewN ?_ _ | with_reducible refine below_step (by assumption) ?_ ?_ | (with_reducible refine Below.trans ?_ (Below.mono (by assumption) ?_)) | exact Nat.le_refl _ | (simp; done) | (simp; omega) | omega))⟩
  by_cases hnb : b < 0
  · go_enter Tryz.func16, Tryz.ntmps16
    go_wp2
    go_ret
    exact ⟨by first | rfl | (simp; done), by (repeat' (first | with_reducible exact Below.refl _ _ | with_reducible assumption | with_reducible refine below_alloc ?_ ?_ _ | with_reducible refine Below.setCell ?_ ?_ _ | with_reducible refine Below.drew ?_ | with_reducible refine below_drewN ?_ _ | with_reducible refine below_step (by assumption) ?_ ?_ | (with_reducible refine Below.trans ?_ (Below.mono (by assumption) ?_)) | exact Nat.le_refl _ | (simp; done) | (simp; omega) | omega))⟩
  by_cases hab : a = b
  · have g3 : (a == b) = true := by simp [hab]
    go_enter Tryz.func16, Tryz.ntmps16
    go_wp2
    go_ret
    exact ⟨by first | rfl | (simp; done), by (repeat' (first | with_reducible exact Below.refl _ _ | with_reducible assumption | with_reducible refine below_alloc ?_ ?_ _ | with_reducible refine Below.setCell ?_ ?_ _ | with_reducible refine Below.drew ?_ | with_reducible refine below_drewN ?_ _ | with_reducible refine below_step (by assumption) ?_ ?_ | (with_reducible refine Below.trans ?_ (Below.mono (by assumption) ?_)) | exact Nat.le_refl _ | (simp; done) | (simp; omega) | omega))⟩
  have g1 : decide (a < 0) = false := by simpa using hna
  have g2 : decide (b < 0) = false := by simpa using hnb
  have g3 : (a == b) = false := by simp [hab]
  have pa : 0 ≤ a := by omega
  have pb : 0 ≤ b := by omega
  obtain ⟨m, hm⟩ : ∃ m, n % 1048576 = m := ⟨_, rfl⟩
  have hm0 : 0 ≤ m := by omega
  have hm1 : m ≤ 1048575 := by omega
  have eTop : bits BinOp.and IntKind.i64 n 1048575 = m := by rw [and_top, hm]
  obtain ⟨s0, s1, s2, s3, s4, s5, o0, o1, o2, o3, o4, o5, sc, r0, r1, r2, r3, r4, hP⟩ := pair_is a b m pa ha2 pb hb2 hm0 hm1
  have HP := Lib.hid hP
  have hpl := pair_plain hP pa ha2 pb hb2 hab
  clear hm hna hnb hab
  have HG0 := Lib.hid hG
  have HW := Lib.hid hW
  have hs := hG.size
  have QL : ∀ x ∈ [s0, s1, s2, s3, s4, s5, o0, o1, o2, o3, o4, o5], x.length ≤ 500 := fun x hx => (HP.out.qs x hx).1.2
  have lsc : sc.length ≤ 1100 := HP.out.qc.1.2
  clear hP hG hW
  have ls0 : s0.length ≤ 500 := QL s0 (by simp)
  have lo0 : o0.length ≤ 500 := QL o0 (by simp)
  have ls1 : s1.length ≤ 500 := QL s1 (by simp)
  have lo1 : o1.length ≤ 500 := QL o1 (by simp)
  have ls2 : s2.length ≤ 500 := QL s2 (by simp)
  have lo2 : o2.length ≤ 500 := QL o2 (by simp)
  have ls3 : s3.length ≤ 500 := QL s3 (by simp)
  have lo3 : o3.length ≤ 500 := QL o3 (by simp)
  have ls4 : s4.length ≤ 500 := QL s4 (by simp)
  have lo4 : o4.length ≤ 500 := QL o4 (by simp)
  have ls5 : s5.length ≤ 500 := QL s5 (by simp)
  have lo5 : o5.length ≤ 500 := QL o5 (by simp)
  clear QL
  obtain ⟨mi, hmi⟩ : ∃ x, (75 :: (s4 ++ (80 :: sc))) = x := ⟨_, rfl⟩
  obtain ⟨th, hth⟩ : ∃ x, (75 :: (o4 ++ (80 :: sc))) = x := ⟨_, rfl⟩
  obtain ⟨rv, hrv⟩ : ∃ x, (86 :: (o1 ++ sc)) = x := ⟨_, rfl⟩
  simp only [hmi, hth, hrv] at hpl
  have B1 := HP.out.b2.1
  rw [hmi] at B1
  have HTWa := Lib.hid B1
  have B2 := HP.out.b3.1
  rw [hth] at B2
  have HTWb := Lib.hid B2
  have B3 := HP.out.b4.1
  rw [hrv] at B3
  have HTWc := Lib.hid B3
  clear B1 B2 B3 hmi hth hrv
  obtain ⟨LL, hLL⟩ : ∃ LL : List (List UInt8), LL = [(80 :: s0), (80 :: s1), (80 :: s2), (80 :: s3), (80 :: s4), (80 :: o0), (80 :: o1), (80 :: o2), (80 :: o3), (80 :: o4), (80 :: sc), r0, r1, r2, r3] := ⟨_, rfl⟩
  rw [← hLL] at hpl
  have HLL := Lib.hid hLL
  have HLN := Lib.hid (show LL.length = 15 by rw [hLL]; rfl)
  have HPL := Lib.hid hpl
  clear hpl hLL
  go_enter Tryz.func16, Tryz.ntmps16
  have hg0 : GL [] w w := gl_refl _ _
  have hs0 : w.heap.size ≤ w.heap.size := Nat.le_refl _
  go_wp2_with fail
  refine (lPair a b m s0 s1 s2 s3 s4 s5 o0 o1 o2 o3 o4 o5 sc r0 r1 r2 r3 r4 HP.out pa ha2 pb hb2 hm0 hm1 _ HG0.out HW.out).mono ?_
  rintro e w1 ⟨rfl, hb1⟩
  have HG1 := Lib.hid (gok_below HG0.out hb1)
  have hg1 : GL [] w w1 := gl_below hb1 hg0
  have hs1 : w.heap.size ≤ w1.heap.size := hg1.size
  go_wp2_with fail
  have HA2 : Hid ((((w1.alloc (.cells #[.string (bs s0), .string (bs s1), .string (bs s2), .string (bs s3), .string (bs s4), .string (bs s5)] 44)).alloc (.cells #[.string (bs o0), .string (bs o1), .string (bs o2), .string (bs o3), .string (bs o4), .string (bs o5)] 44)).alloc (.cells #[.string (bs r0), .string (bs r1), .string (bs r2), .string (bs r3), .string (bs r4)] 102)).heap[w1.heap.size]? = some (.cells #[.string (bs s0), .string (bs s1), .string (bs s2), .string (bs s3), .string (bs s4), .string (bs s5)] 44 (0, 0))) := by
    have h := blk_new w1 (.cells #[.string (bs s0), .string (bs s1), .string (bs s2), .string (bs s3), .string (bs s4), .string (bs s5)] 44)
    exact (blk_alloc (blk_alloc h (.cells #[.string (bs o0), .string (bs o1), .string (bs o2), .string (bs o3), .string (bs o4), .string (bs o5)] 44)) (.cells #[.string (bs r0), .string (bs r1), .string (bs r2), .string (bs r3), .string (bs r4)] 102))
  have HB2 : Hid ((((w1.alloc (.cells #[.string (bs s0), .string (bs s1), .string (bs s2), .string (bs s3), .string (bs s4), .string (bs s5)] 44)).alloc (.cells #[.string (bs o0), .string (bs o1), .string (bs o2), .string (bs o3), .string (bs o4), .string (bs o5)] 44)).alloc (.cells #[.string (bs r0), .string (bs r1), .string (bs r2), .string (bs r3), .string (bs r4)] 102)).heap[w1.heap.size + 1]? = some (.cells #[.string (bs o0), .string (bs o1), .string (bs o2), .string (bs o3), .string (bs o4), .string (bs o5)] 44 (0, 0))) := by
    have h := blk_new (w1.alloc (.cells #[.string (bs s0), .string (bs s1), .string (bs s2), .string (bs s3), .string (bs s4), .string (bs s5)] 44)) (.cells #[.string (bs o0), .string (bs o1), .string (bs o2), .string (bs o3), .string (bs o4), .string (bs o5)] 44)
    rw [show (w1.alloc (.cells #[.string (bs s0), .string (bs s1), .string (bs s2), .string (bs s3), .string (bs s4), .string (bs s5)] 44)).heap.size = w1.heap.size + 1 by simp] at h
    exact (blk_alloc h (.cells #[.string (bs r0), .string (bs r1), .string (bs r2), .string (bs r3), .string (bs r4)] 102))
  have HC2 : Hid ((((w1.alloc (.cells #[.string (bs s0), .string (bs s1), .string (bs s2), .string (bs s3), .string (bs s4), .string (bs s5)] 44)).alloc (.cells #[.string (bs o0), .string (bs o1), .string (bs o2), .string (bs o3), .string (bs o4), .string (bs o5)] 44)).alloc (.cells #[.string (bs r0), .string (bs r1), .string (bs r2), .string (bs r3), .string (bs r4)] 102)).heap[w1.heap.size + 1 + 1]? = some (.cells #[.string (bs r0), .string (bs r1), .string (bs r2), .string (bs r3), .string (bs r4)] 102 (0, 0))) := by
    have h := blk_new ((w1.alloc (.cells #[.string (bs s0), .string (bs s1), .string (bs s2), .string (bs s3), .string (bs s4), .string (bs s5)] 44)).alloc (.cells #[.string (bs o0), .string (bs o1), .string (bs o2), .string (bs o3), .string (bs o4), .string (bs o5)] 44)) (.cells #[.string (bs r0), .string (bs r1), .string (bs r2), .string (bs r3), .string (bs r4)] 102)
    rw [show ((w1.alloc (.cells #[.string (bs s0), .string (bs s1), .string (bs s2), .string (bs s3), .string (bs s4), .string (bs s5)] 44)).alloc (.cells #[.string (bs o0), .string (bs o1), .string (bs o2), .string (bs o3), .string (bs o4), .string (bs o5)] 44)).heap.size = w1.heap.size + 1 + 1 by simp] at h
    exact h
  have HG2 := Lib.hid (gok_alloc (gok_alloc (gok_alloc HG1.out (.cells #[.string (bs s0), .string (bs s1), .string (bs s2), .string (bs s3), .string (bs s4), .string (bs s5)] 44)) (.cells #[.string (bs o0), .string (bs o1), .string (bs o2), .string (bs o3), .string (bs o4), .string (bs o5)] 44)) (.cells #[.string (bs r0), .string (bs r1), .string (bs r2), .string (bs r3), .string (bs r4)] 102))
  have hg2 : GL [] w (((w1.alloc (.cells #[.string (bs s0), .string (bs s1), .string (bs s2), .string (bs s3), .string (bs s4), .string (bs s5)] 44)).alloc (.cells #[.string (bs o0), .string (bs o1), .string (bs o2), .string (bs o3), .string (bs o4), .string (bs o5)] 44)).alloc (.cells #[.string (bs r0), .string (bs r1), .string (bs r2), .string (bs r3), .string (bs r4)] 102)) := (gl_alloc (gl_alloc (gl_alloc hg1 (.cells #[.string (bs s0), .string (bs s1), .string (bs s2), .string (bs s3), .string (bs s4), .string (bs s5)] 44)) (.cells #[.string (bs o0), .string (bs o1), .string (bs o2), .string (bs o3), .string (bs o4), .string (bs o5)] 44)) (.cells #[.string (bs r0), .string (bs r1), .string (bs r2), .string (bs r3), .string (bs r4)] 102))
  have geA : w.heap.size ≤ w1.heap.size := by have := hg1.size; omega
  have gnA : gN ≤ w1.heap.size := by have := HG1.out.size; omega
  have geB : w.heap.size ≤ w1.heap.size + 1 := by have := hg1.size; omega
  have gnB : gN ≤ w1.heap.size + 1 := by have := HG1.out.size; omega
  have ltAB : w1.heap.size < w1.heap.size + 1 := by omega
  have neAB : w1.heap.size ≠ w1.heap.size + 1 := by omega
  have neBA : w1.heap.size + 1 ≠ w1.heap.size := by omega
  have geC : w.heap.size ≤ w1.heap.size + 1 + 1 := by have := hg1.size; omega
  have gnC : gN ≤ w1.heap.size + 1 + 1 := by have := HG1.out.size; omega
  have ltAC : w1.heap.size < w1.heap.size + 1 + 1 := by omega
  have neAC : w1.heap.size ≠ w1.heap.size + 1 + 1 := by omega
  have neCA : w1.heap.size + 1 + 1 ≠ w1.heap.size := by omega
  have ltBC : w1.heap.size + 1 < w1.heap.size + 1 + 1 := by omega
  have neBC : w1.heap.size + 1 ≠ w1.heap.size + 1 + 1 := by omega
  have neCB : w1.heap.size + 1 + 1 ≠ w1.heap.size + 1 := by omega
  generalize (((w1.alloc (.cells #[.string (bs s0), .string (bs s1), .string (bs s2), .string (bs s3), .string (bs s4), .string (bs s5)] 44)).alloc (.cells #[.string (bs o0), .string (bs o1), .string (bs o2), .string (bs o3), .string (bs o4), .string (bs o5)] 44)).alloc (.cells #[.string (bs r0), .string (bs r1), .string (bs r2), .string (bs r3), .string (bs r4)] 102)) = w2 at *
  generalize w1.heap.size + 1 + 1 = C at *
  generalize w1.heap.size + 1 = B at *
  generalize w1.heap.size = A at *
  have hs2 : w.heap.size ≤ w2.heap.size := hg2.size
  have fa1 := blk_cell HA2.out
  have fb1 := blk_free HA2.out
  have fl1 := blk_lt HA2.out
  go_wp2_with fail
  refine (kPoint s0 s1 s2 s3 s4 s5 m (by omega) (by omega) (by omega) _ HG2.out).mono ?_
  rintro e w3 ⟨rfl, hb3⟩
  rw [HP.out.pt]
  clear fa1 fb1 fl1
  have HC3 := Lib.hid (blk_below HC2.out hb3 (blk_lt HC2.out))
  have HB3 := Lib.hid (blk_below HB2.out hb3 (blk_lt HB2.out))
  have HA3 := Lib.hid (blk_below HA2.out hb3 (blk_lt HA2.out))
  have HG3 := Lib.hid (gok_below HG2.out hb3)
  have hg3 : GL [] w w3 := gl_below hb3 hg2
  have hs3 : w.heap.size ≤ w3.heap.size := hg3.size
  have fa2 := blk_cell HA3.out
  have fb2 := blk_free HA3.out
  have fl2 := blk_lt HA3.out
  go_wp2_with fail
  refine (kPublic s0 s1 s2 s3 s4 s5 (by omega) (by omega) (by omega) (by omega) (by omega) _ HG3.out).mono ?_
  rintro e w4 ⟨rfl, hb4⟩
  rw [HP.out.pa]
  simp only [keysV, List.getD_cons_zero, List.getD_cons_succ]
  clear fa2 fb2 fl2
  have HC4 := Lib.hid (blk_below HC3.out hb4 (blk_lt HC3.out))
  have HB4 := Lib.hid (blk_below HB3.out hb4 (blk_lt HB3.out))
  have HA4 := Lib.hid (blk_below HA3.out hb4 (blk_lt HA3.out))
  have HG4 := Lib.hid (gok_below HG3.out hb4)
  have hg4 : GL [] w w4 := gl_below hb4 hg3
  have hs4 : w.heap.size ≤ w4.heap.size := hg4.size
  have fa3 := blk_cell HB4.out
  have fb3 := blk_free HB4.out
  have fl3 := blk_lt HB4.out
  go_wp2_with fail
  clear fa3 fb3 fl3
  have HC4k := Lib.hid (blk_alloc HC4.out (.cells #[.string (bs (80 :: s0)), .string (bs (80 :: s1)), .string (bs (80 :: s2)), .string (bs (80 :: s3)), .string (bs (80 :: s4))] 46))
  have ltCD : C < w4.heap.size := by have := blk_lt HC4.out; omega
  have neCD : C ≠ w4.heap.size := by omega
  have neDC : w4.heap.size ≠ C := by omega
  have HB4k := Lib.hid (blk_alloc HB4.out (.cells #[.string (bs (80 :: s0)), .string (bs (80 :: s1)), .string (bs (80 :: s2)), .string (bs (80 :: s3)), .string (bs (80 :: s4))] 46))
  have ltBD : B < w4.heap.size := by have := blk_lt HB4.out; omega
  have neBD : B ≠ w4.heap.size := by omega
  have neDB : w4.heap.size ≠ B := by omega
  have HA4k := Lib.hid (blk_alloc HA4.out (.cells #[.string (bs (80 :: s0)), .string (bs (80 :: s1)), .string (bs (80 :: s2)), .string (bs (80 :: s3)), .string (bs (80 :: s4))] 46))
  have ltAD : A < w4.heap.size := by have := blk_lt HA4.out; omega
  have neAD : A ≠ w4.heap.size := by omega
  have neDA : w4.heap.size ≠ A := by omega
  have HD4k : Hid ((w4.alloc (.cells #[.string (bs (80 :: s0)), .string (bs (80 :: s1)), .string (bs (80 :: s2)), .string (bs (80 :: s3)), .string (bs (80 :: s4))] 46)).heap[w4.heap.size]? = some (.cells #[.string (bs (80 :: s0)), .string (bs (80 :: s1)), .string (bs (80 :: s2)), .string (bs (80 :: s3)), .string (bs (80 :: s4))] 46 (0, 0))) := by
    have h := blk_new w4 (.cells #[.string (bs (80 :: s0)), .string (bs (80 :: s1)), .string (bs (80 :: s2)), .string (bs (80 :: s3)), .string (bs (80 :: s4))] 46)
    exact h
  have HG4k := Lib.hid (gok_alloc HG4.out (.cells #[.string (bs (80 :: s0)), .string (bs (80 :: s1)), .string (bs (80 :: s2)), .string (bs (80 :: s3)), .string (bs (80 :: s4))] 46))
  have hg4k : GL [] w (w4.alloc (.cells #[.string (bs (80 :: s0)), .string (bs (80 :: s1)), .string (bs (80 :: s2)), .string (bs (80 :: s3)), .string (bs (80 :: s4))] 46)) := (gl_alloc hg4 (.cells #[.string (bs (80 :: s0)), .string (bs (80 :: s1)), .string (bs (80 :: s2)), .string (bs (80 :: s3)), .string (bs (80 :: s4))] 46))
  have geD : w.heap.size ≤ w4.heap.size := by have := hg4.size; omega
  have gnD : gN ≤ w4.heap.size := by have := HG4.out.size; omega
  generalize (w4.alloc (.cells #[.string (bs (80 :: s0)), .string (bs (80 :: s1)), .string (bs (80 :: s2)), .string (bs (80 :: s3)), .string (bs (80 :: s4))] 46)) = w4k at *
  generalize w4.heap.size = D at *
  have hs4k : w.heap.size ≤ w4k.heap.size := hg4k.size
  refine (kPublic o0 o1 o2 o3 o4 o5 (by omega) (by omega) (by omega) (by omega) (by omega) _ HG4k.out).mono ?_
  rintro e w5 ⟨rfl, hb5⟩
  rw [HP.out.pb]
  simp only [keysV, List.getD_cons_zero, List.getD_cons_succ]
  have HC5 := Lib.hid (blk_below HC4k.out hb5 (blk_lt HC4k.out))
  have HB5 := Lib.hid (blk_below HB4k.out hb5 (blk_lt HB4k.out))
  have HA5 := Lib.hid (blk_below HA4k.out hb5 (blk_lt HA4k.out))
  have HD5 := Lib.hid (blk_below HD4k.out hb5 (blk_lt HD4k.out))
  have HG5 := Lib.hid (gok_below HG4k.out hb5)
  have hg5 : GL [] w w5 := gl_below hb5 hg4k
  have hs5 : w.heap.size ≤ w5.heap.size := hg5.size
  have fa4 := blk_cell HB5.out
  have fb4 := blk_free HB5.out
  have fl4 := blk_lt HB5.out
  go_wp2_with fail
  clear fa4 fb4 fl4
  have HC5k := Lib.hid (blk_alloc HC5.out (.cells #[.string (bs (80 :: o0)), .string (bs (80 :: o1)), .string (bs (80 :: o2)), .string (bs (80 :: o3)), .string (bs (80 :: o4))] 46))
  have ltCE : C < w5.heap.size := by have := blk_lt HC5.out; omega
  have neCE : C ≠ w5.heap.size := by omega
  have neEC : w5.heap.size ≠ C := by omega
  have HB5k := Lib.hid (blk_alloc HB5.out (.cells #[.string (bs (80 :: o0)), .string (bs (80 :: o1)), .string (bs (80 :: o2)), .string (bs (80 :: o3)), .string (bs (80 :: o4))] 46))
  have ltBE : B < w5.heap.size := by have := blk_lt HB5.out; omega
  have neBE : B ≠ w5.heap.size := by omega
  have neEB : w5.heap.size ≠ B := by omega
  have HA5k := Lib.hid (blk_alloc HA5.out (.cells #[.string (bs (80 :: o0)), .string (bs (80 :: o1)), .string (bs (80 :: o2)), .string (bs (80 :: o3)), .string (bs (80 :: o4))] 46))
  have ltAE : A < w5.heap.size := by have := blk_lt HA5.out; omega
  have neAE : A ≠ w5.heap.size := by omega
  have neEA : w5.heap.size ≠ A := by omega
  have HD5k := Lib.hid (blk_alloc HD5.out (.cells #[.string (bs (80 :: o0)), .string (bs (80 :: o1)), .string (bs (80 :: o2)), .string (bs (80 :: o3)), .string (bs (80 :: o4))] 46))
  have ltDE : D < w5.heap.size := by have := blk_lt HD5.out; omega
  have neDE : D ≠ w5.heap.size := by omega
  have neED : w5.heap.size ≠ D := by omega
  have HE5k : Hid ((w5.alloc (.cells #[.string (bs (80 :: o0)), .string (bs (80 :: o1)), .string (bs (80 :: o2)), .string (bs (80 :: o3)), .string (bs (80 :: o4))] 46)).heap[w5.heap.size]? = some (.cells #[.string (bs (80 :: o0)), .string (bs (80 :: o1)), .string (bs (80 :: o2)), .string (bs (80 :: o3)), .string (bs (80 :: o4))] 46 (0, 0))) := by
    have h := blk_new w5 (.cells #[.string (bs (80 :: o0)), .string (bs (80 :: o1)), .string (bs (80 :: o2)), .string (bs (80 :: o3)), .string (bs (80 :: o4))] 46)
    exact h
  have HG5k := Lib.hid (gok_alloc HG5.out (.cells #[.string (bs (80 :: o0)), .string (bs (80 :: o1)), .string (bs (80 :: o2)), .string (bs (80 :: o3)), .string (bs (80 :: o4))] 46))
  have hg5k : GL [] w (w5.alloc (.cells #[.string (bs (80 :: o0)), .string (bs (80 :: o1)), .string (bs (80 :: o2)), .string (bs (80 :: o3)), .string (bs (80 :: o4))] 46)) := (gl_alloc hg5 (.cells #[.string (bs (80 :: o0)), .string (bs (80 :: o1)), .string (bs (80 :: o2)), .string (bs (80 :: o3)), .string (bs (80 :: o4))] 46))
  have geE : w.heap.size ≤ w5.heap.size := by have := hg5.size; omega
  have gnE : gN ≤ w5.heap.size := by have := HG5.out.size; omega
  generalize (w5.alloc (.cells #[.string (bs (80 :: o0)), .string (bs (80 :: o1)), .string (bs (80 :: o2)), .string (bs (80 :: o3)), .string (bs (80 :: o4))] 46)) = w5k at *
  generalize w5.heap.size = E at *
  have hs5k : w.heap.size ≤ w5k.heap.size := hg5k.size
  refine (kRevoke o1 sc (by omega) (by omega) _ HG5k.out).mono ?_
  rintro e w6 ⟨rfl, hb6⟩
  rw [HTWc.out]
  have HC6 := Lib.hid (blk_below HC5k.out hb6 (blk_lt HC5k.out))
  have HB6 := Lib.hid (blk_below HB5k.out hb6 (blk_lt HB5k.out))
  have HA6 := Lib.hid (blk_below HA5k.out hb6 (blk_lt HA5k.out))
  have HD6 := Lib.hid (blk_below HD5k.out hb6 (blk_lt HD5k.out))
  have HE6 := Lib.hid (blk_below HE5k.out hb6 (blk_lt HE5k.out))
  have HG6 := Lib.hid (gok_below HG5k.out hb6)
  have hg6 : GL [] w w6 := gl_below hb6 hg5k
  have hs6 : w.heap.size ≤ w6.heap.size := hg6.size
  have fa5 := blk_cell HA6.out
  have fb5 := blk_free HA6.out
  have fl5 := blk_lt HA6.out
  go_wp2_with fail
  refine (kBind s4 (80 :: sc) (by omega) (by simp; omega) _ HG6.out).mono ?_
  rintro e w7 ⟨rfl, hb7⟩
  rw [HTWa.out]
  clear fa5 fb5 fl5
  have HC7 := Lib.hid (blk_below HC6.out hb7 (blk_lt HC6.out))
  have HB7 := Lib.hid (blk_below HB6.out hb7 (blk_lt HB6.out))
  have HA7 := Lib.hid (blk_below HA6.out hb7 (blk_lt HA6.out))
  have HD7 := Lib.hid (blk_below HD6.out hb7 (blk_lt HD6.out))
  have HE7 := Lib.hid (blk_below HE6.out hb7 (blk_lt HE6.out))
  have HG7 := Lib.hid (gok_below HG6.out hb7)
  have hg7 : GL [] w w7 := gl_below hb7 hg6
  have hs7 : w.heap.size ≤ w7.heap.size := hg7.size
  have fa6 := blk_cell HB7.out
  have fb6 := blk_free HB7.out
  have fl6 := blk_lt HB7.out
  go_wp2_with fail
  refine (kBind o4 (80 :: sc) (by omega) (by simp; omega) _ HG7.out).mono ?_
  rintro e w8 ⟨rfl, hb8⟩
  rw [HTWb.out]
  clear fa6 fb6 fl6
  have HC8 := Lib.hid (blk_below HC7.out hb8 (blk_lt HC7.out))
  have HB8 := Lib.hid (blk_below HB7.out hb8 (blk_lt HB7.out))
  have HA8 := Lib.hid (blk_below HA7.out hb8 (blk_lt HA7.out))
  have HD8 := Lib.hid (blk_below HD7.out hb8 (blk_lt HD7.out))
  have HE8 := Lib.hid (blk_below HE7.out hb8 (blk_lt HE7.out))
  have HG8 := Lib.hid (gok_below HG7.out hb8)
  have hg8 : GL [] w w8 := gl_below hb8 hg7
  have hs8 : w.heap.size ≤ w8.heap.size := hg8.size
  go_wp2_with fail
  refine (dNew _ HG8.out).mono ?_
  rintro e w9 ⟨M, bh, be, rfl, hM9, hq1, hq2, hq3, hb9⟩
  have HC9 := Lib.hid (blk_below HC8.out hb9 (blk_lt HC8.out))
  have HB9 := Lib.hid (blk_below HB8.out hb9 (blk_lt HB8.out))
  have HA9 := Lib.hid (blk_below HA8.out hb9 (blk_lt HA8.out))
  have HD9 := Lib.hid (blk_below HD8.out hb9 (blk_lt HD8.out))
  have HE9 := Lib.hid (blk_below HE8.out hb9 (blk_lt HE8.out))
  have HG9 := Lib.hid (gok_below HG8.out hb9)
  have hg9 : GL [] w w9 := gl_below hb9 hg8
  have hs9 : w.heap.size ≤ w9.heap.size := hg9.size
  have fa7 := blk_cell HD9.out
  have fb7 := blk_free HD9.out
  have fl7 := blk_lt HD9.out
  have fa8 := blk_cell HE9.out
  have fb8 := blk_free HE9.out
  have fl8 := blk_lt HE9.out
  have fa9 := blk_cell HC9.out
  have fb9 := blk_free HC9.out
  have fl9 := blk_lt HC9.out
  go_wp2_with fail
  clear fa7 fb7 fl7 fa8 fb8 fl8 fa9 fb9 fl9
  have hml := mind_lt hM9
  rw [← heardP_nil] at hM9
  have HMT := Lib.hid (mind_gl hM9 (gl_alloc (gl_refl [] _) (.cells #[.string (bs (80 :: s0)), .string (bs (80 :: s1)), .string (bs (80 :: s2)), .string (bs (80 :: s3)), .string (bs (80 :: s4)), .string (bs (80 :: o0)), .string (bs (80 :: o1)), .string (bs (80 :: o2)), .string (bs (80 :: o3)), .string (bs (80 :: o4)), .string (bs (80 :: sc)), .string (bs r0), .string (bs r1), .string (bs r2), .string (bs r3)] 22)) (by simp) (by simp) (by simp))
  have HTC := Lib.hid (show ∀ (k : Nat) (x : List UInt8), LL[k]? = some x → (w9.alloc (.cells #[.string (bs (80 :: s0)), .string (bs (80 :: s1)), .string (bs (80 :: s2)), .string (bs (80 :: s3)), .string (bs (80 :: s4)), .string (bs (80 :: o0)), .string (bs (80 :: o1)), .string (bs (80 :: o2)), .string (bs (80 :: o3)), .string (bs (80 :: o4)), .string (bs (80 :: sc)), .string (bs r0), .string (bs r1), .string (bs r2), .string (bs r3)] 22)).cell? ⟨w9.heap.size, k, none⟩ = some (.string (bs x)) from fun k x hx => by
    refine (blk_cell (blk_new w9 (.cells #[.string (bs (80 :: s0)), .string (bs (80 :: s1)), .string (bs (80 :: s2)), .string (bs (80 :: s3)), .string (bs (80 :: s4)), .string (bs (80 :: o0)), .string (bs (80 :: o1)), .string (bs (80 :: o2)), .string (bs (80 :: o3)), .string (bs (80 :: o4)), .string (bs (80 :: sc)), .string (bs r0), .string (bs r1), .string (bs r2), .string (bs r3)] 22)) k).trans ?_
    rw [show (#[.string (bs (80 :: s0)), .string (bs (80 :: s1)), .string (bs (80 :: s2)), .string (bs (80 :: s3)), .string (bs (80 :: s4)), .string (bs (80 :: o0)), .string (bs (80 :: o1)), .string (bs (80 :: o2)), .string (bs (80 :: o3)), .string (bs (80 :: o4)), .string (bs (80 :: sc)), .string (bs r0), .string (bs r1), .string (bs r2), .string (bs r3)] : Array Value) = (LL.map fun y => Value.string (bs y)).toArray by rw [HLL.out]; rfl, List.getElem?_toArray, List.getElem?_map, hx]
    rfl)
  have HAT := Lib.hid (blk_alloc HA9.out (.cells #[.string (bs (80 :: s0)), .string (bs (80 :: s1)), .string (bs (80 :: s2)), .string (bs (80 :: s3)), .string (bs (80 :: s4)), .string (bs (80 :: o0)), .string (bs (80 :: o1)), .string (bs (80 :: o2)), .string (bs (80 :: o3)), .string (bs (80 :: o4)), .string (bs (80 :: sc)), .string (bs r0), .string (bs r1), .string (bs r2), .string (bs r3)] 22))
  have HBT := Lib.hid (blk_alloc HB9.out (.cells #[.string (bs (80 :: s0)), .string (bs (80 :: s1)), .string (bs (80 :: s2)), .string (bs (80 :: s3)), .string (bs (80 :: s4)), .string (bs (80 :: o0)), .string (bs (80 :: o1)), .string (bs (80 :: o2)), .string (bs (80 :: o3)), .string (bs (80 :: o4)), .string (bs (80 :: sc)), .string (bs r0), .string (bs r1), .string (bs r2), .string (bs r3)] 22))
  have hlA := blk_lt HA8.out
  have hlB := blk_lt HB8.out
  have hgT : GL [] w (w9.alloc (.cells #[.string (bs (80 :: s0)), .string (bs (80 :: s1)), .string (bs (80 :: s2)), .string (bs (80 :: s3)), .string (bs (80 :: s4)), .string (bs (80 :: o0)), .string (bs (80 :: o1)), .string (bs (80 :: o2)), .string (bs (80 :: o3)), .string (bs (80 :: o4)), .string (bs (80 :: sc)), .string (bs r0), .string (bs r1), .string (bs r2), .string (bs r3)] 22)) := gl_alloc hg9 _
  have hszT : w9.heap.size < (w9.alloc (.cells #[.string (bs (80 :: s0)), .string (bs (80 :: s1)), .string (bs (80 :: s2)), .string (bs (80 :: s3)), .string (bs (80 :: s4)), .string (bs (80 :: o0)), .string (bs (80 :: o1)), .string (bs (80 :: o2)), .string (bs (80 :: o3)), .string (bs (80 :: o4)), .string (bs (80 :: sc)), .string (bs r0), .string (bs r1), .string (bs r2), .string (bs r3)] 22)).heap.size := by simp
  have hlow : w.heap.size ≤ bh ∧ w.heap.size ≤ be ∧ w.heap.size ≤ M := by have := hg8.size; omega
  generalize w9.alloc (.cells #[.string (bs (80 :: s0)), .string (bs (80 :: s1)), .string (bs (80 :: s2)), .string (bs (80 :: s3)), .string (bs (80 :: s4)), .string (bs (80 :: o0)), .string (bs (80 :: o1)), .string (bs (80 :: o2)), .string (bs (80 :: o3)), .string (bs (80 :: o4)), .string (bs (80 :: sc)), .string (bs r0), .string (bs r1), .string (bs r2), .string (bs r3)] 22) = wT at *
  generalize w9.heap.size = T at *
  have hnb : A ∉ [bh, be] ∧ B ∉ [bh, be] ∧ T ∉ [bh, be] := by simp; omega
  have HNB := Lib.hid hnb
  clear hM9 hnb HLL
  go_loopw [127] (fun iv wr => ∃ (k n : Nat) (S : List UInt8 → Bool), k ≤ 15 ∧ iv = .int .i64 k ∧ n ≤ k ∧ Hid (MindAt wr M bh be (heardP (LL.take k)) S n) ∧ Hid (GL [bh, be] wT wr)) (fun iv _ => 15 - (intOf iv).toNat)
  case atStart => exact ⟨0, 0, _, by omega, rfl, by omega, HMT, Lib.hid (gl_refl _ _)⟩
  case round =>
    obtain ⟨k, n9, S, hk, rfl, hnk, HMr, hgr⟩ := hrel
    have hgw : GL [] w wr := gl_step hgr.out hgT (fun r hr => .inr (by simp at hr; omega))
    by_cases hlt : k < 15
    · have i1 : (k : Int) < 15 := by omega
      have hkL : k < LL.length := by have := HLN.out; omega
      have hx : LL[k]? = some LL[k] := List.getElem?_eq_getElem hkL
      have c0 := cell_glx (HTC.out k _ hx) hgr.out HNB.out.2.2
      have hr := (HPL.out.1.1 LL[k] (List.getElem_mem _)).1
      have hxl := (right_len hr).2
      have HT := Lib.hid (show LL.take (k + 1) = LL.take k ++ [LL[k]] by rw [List.take_add_one, hx]; rfl)
      have HRX := Lib.hid hr
      clear hx hr
      generalize LL[k] = x at *
      go_wp2_with fail
      refine (dLearn M bh be n9 _ S x (by omega) _ (gok_gl HG0.out hgw (by simp)) HMr.out).mono ?_
      rintro e w11 ⟨S4, rfl, hM4, hg4⟩
      rw [heardP_add _ _ _ (by omega), ← HT.out] at hM4
      rw [show learnC (heardP (LL.take k)) n9 x = 0 by rw [learnC_few _ _ _ (by omega), if_pos HRX.out]]
      have HM4 := Lib.hid hM4
      have hn4 := (learnN_le (heardP (LL.take k)) n9 x).2.1
      have hgw4 : GL [bh, be] wT w11 := gl_step hg4 hgr.out (fun r hr => .inl hr)
      clear hM4 hg4 c0
      generalize learnN (heardP (LL.take k)) n9 x = n4 at *
      go_wp2_with fail
      go_roundw
      case rel => exact ⟨k + 1, n4, S4, by omega, by go_num, by omega, HM4, Lib.hid hgw4⟩
      case measure => simp [intOf]; omega
    · obtain rfl : k = 15 := by omega
      have hM5 := HMr.out
      rw [List.take_of_length_le (by have := HLN.out; omega)] at hM5
      have HM5 := Lib.hid hM5
      have hszr := hgr.out.size
      clear hM5 HMr HTC HMT
      go_wp2_with fail
      refine (dCopy M bh be n9 _ S _ HM5.out (gok_gl HG0.out hgw (by simp))).mono ?_
      rintro e w12 ⟨C1, ch1, ce1, rfl, hC1, hr1, hr2, hr3, hb12⟩
      have HC1 := Lib.hid hC1
      have hl1 := mind_lt hC1
      have HM6 := Lib.hid (mind_below HM5.out hb12)
      have hg12 : GL [] w w12 := gl_below hb12 hgw
      have hgT12 : GL [bh, be] wT w12 := gl_below hb12 hgr.out
      clear hC1 hb12
      go_wp2_with fail
      refine (dCopy M bh be n9 _ S _ HM6.out (gok_gl HG0.out hg12 (by simp))).mono ?_
      rintro e w13 ⟨C2, ch2, ce2, rfl, hC2, hr4, hr5, hr6, hb13⟩
      have HC2 := Lib.hid hC2
      have HC1b := Lib.hid (mind_below HC1.out hb13)
      have HM7 := Lib.hid (mind_below HM6.out hb13)
      have hg13 : GL [] w w13 := gl_below hb13 hg12
      have hgT13 : GL [bh, be] wT w13 := gl_below hb13 hgT12
      have hl2 := mind_lt hC2
      have hsz13 := hb13.size
      have HA13 := Lib.hid (blk_gl HAT.out hgT13 HNB.out.1)
      have HB13 := Lib.hid (blk_gl HBT.out hgT13 HNB.out.2.1)
      clear hC2 hb13 HC1 HM6
      have a1 := blk_cell HA13.out
      have a2 := blk_free HA13.out
      have a3 := blk_lt HA13.out
      go_wp2_with fail
      clear a1 a2 a3
      obtain ⟨SL, hSL⟩ : ∃ l : List (List UInt8), l = [s0, s1, s2, s3, s4, s5] := ⟨_, rfl⟩
      have HLu := Lib.hid hSL
      have HNu := Lib.hid (show SL.length = 6 by rw [hSL]; rfl)
      have HRu := Lib.hid (show ∀ t ∈ SL, right t = true from fun t ht => HPL.out.1.2.1 t (by rw [hSL] at ht; exact (show t ∈ [s0, s1, s2, s3, s4, s5] ++ [o0, o1, o2, o3, o4, o5] from List.mem_append_left _ ht)))
      have HXu := Lib.hid (show ∀ (k : Nat) (x : List UInt8), SL[k]? = some x → (w13.alloc (.cells #[.string (bs s0), .string (bs s1), .string (bs s2), .string (bs s3), .string (bs s4), .string (bs s5)] 22)).cell? ⟨w13.heap.size, k, none⟩ = some (.string (bs x)) from fun k x hx => by
        refine (blk_cell (blk_new w13 (.cells #[.string (bs s0), .string (bs s1), .string (bs s2), .string (bs s3), .string (bs s4), .string (bs s5)] 22)) k).trans ?_
        rw [show (#[.string (bs s0), .string (bs s1), .string (bs s2), .string (bs s3), .string (bs s4), .string (bs s5)] : Array Value) = (SL.map fun y => Value.string (bs y)).toArray by rw [hSL]; rfl, List.getElem?_toArray, List.getElem?_map, hx]
        rfl)
      have hszu : w13.heap.size < (w13.alloc (.cells #[.string (bs s0), .string (bs s1), .string (bs s2), .string (bs s3), .string (bs s4), .string (bs s5)] 22)).heap.size := by simp
      have hgu : GL [] w (w13.alloc (.cells #[.string (bs s0), .string (bs s1), .string (bs s2), .string (bs s3), .string (bs s4), .string (bs s5)] 22)) := gl_alloc hg13 _
      have HM7u := Lib.hid (mind_gl HM7.out (gl_alloc (gl_refl [] _) (.cells #[.string (bs s0), .string (bs s1), .string (bs s2), .string (bs s3), .string (bs s4), .string (bs s5)] 22)) (by simp) (by simp) (by simp))
      have HC1bu := Lib.hid (mind_gl HC1b.out (gl_alloc (gl_refl [] _) (.cells #[.string (bs s0), .string (bs s1), .string (bs s2), .string (bs s3), .string (bs s4), .string (bs s5)] 22)) (by simp) (by simp) (by simp))
      have HC2u := Lib.hid (mind_gl HC2.out (gl_alloc (gl_refl [] _) (.cells #[.string (bs s0), .string (bs s1), .string (bs s2), .string (bs s3), .string (bs s4), .string (bs s5)] 22)) (by simp) (by simp) (by simp))
      have HA13u := Lib.hid (blk_alloc HA13.out (.cells #[.string (bs s0), .string (bs s1), .string (bs s2), .string (bs s3), .string (bs s4), .string (bs s5)] 22))
      have HB13u := Lib.hid (blk_alloc HB13.out (.cells #[.string (bs s0), .string (bs s1), .string (bs s2), .string (bs s3), .string (bs s4), .string (bs s5)] 22))
      clear hSL
      generalize w13.alloc (.cells #[.string (bs s0), .string (bs s1), .string (bs s2), .string (bs s3), .string (bs s4), .string (bs s5)] 22) = wu at *
      generalize w13.heap.size = Tu at *
      have HNOu := Lib.hid (show Tu ∉ [ch1, ce1] ∧ A ∉ [ch1, ce1] ∧ B ∉ [ch1, ce1] by simp; omega)
      go_loopw [154] (fun iv wr => ∃ (k n1 : Nat) (S1 : List UInt8 → Bool), k ≤ 6 ∧ iv = .int .i64 k ∧ n1 ≤ n9 + k ∧ Hid (MindAt wr C1 ch1 ce1 (heardP (LL ++ SL.take k)) S1 n1) ∧ Hid (GL [ch1, ce1] wu wr)) (fun iv _ => 6 - (intOf iv).toNat)
      case atStart => exact ⟨0, n9, S, by omega, rfl, by omega, by rw [List.take_zero, List.append_nil]; exact HC1bu, Lib.hid (gl_refl _ _)⟩
      case round =>
        obtain ⟨k, n1, S1, hk, rfl, hnk1, HMr, hgr⟩ := hrel
        have hgw : GL [] w wr := gl_step hgr.out hgu (fun r hr => .inr (by simp at hr; omega))
        by_cases hlt : k < 6
        · have i1 : (k : Int) < 6 := by omega
          have hkL : k < SL.length := by have := HNu.out; omega
          have hx : SL[k]? = some SL[k] := List.getElem?_eq_getElem hkL
          have c0 := cell_glx (HXu.out k _ hx) hgr.out HNOu.out.1
          have hr := HRu.out SL[k] (List.getElem_mem _)
          have hxl := (right_len hr).2
          have HT := Lib.hid (show LL ++ SL.take (k + 1) = LL ++ SL.take k ++ [SL[k]] by rw [List.take_add_one, hx, List.append_assoc]; rfl)
          clear hx hr
          generalize SL[k] = x at *
          go_wp2_with fail
          refine (dLearn C1 ch1 ce1 n1 _ S1 x (by omega) _ (gok_gl HG0.out hgw (by simp)) HMr.out).mono ?_
          rintro e w11 ⟨S4, rfl, hM4, hg4⟩
          rw [heardP_add _ _ _ (by omega), ← HT.out] at hM4
          have HM4 := Lib.hid hM4
          have hn4 := (learnN_le (heardP (LL ++ SL.take k)) n1 x).2.1
          have hgw4 : GL [ch1, ce1] wu w11 := gl_step hg4 hgr.out (fun r hr => .inl hr)
          clear hM4 hg4 c0
          generalize learnN (heardP (LL ++ SL.take k)) n1 x = n4 at *
          generalize learnC (heardP (LL ++ SL.take k)) n1 x = z4 at *
          go_wp2_with fail
          go_roundw
          case rel => first | exact ⟨k + 1, n4, S4, by omega, by go_num, by omega, HM4, Lib.hid hgw4⟩ | ((repeat apply Exists.intro); refine ⟨?_, rfl⟩; exact ⟨k + 1, n4, S4, by omega, by go_num, by omega, HM4, Lib.hid hgw4⟩)
          case measure => first | (simp [intOf]; omega) | ((show 6 - ((k : Int) + 1).toNat < 6 - (k : Int).toNat); omega)
        · obtain rfl : k = 6 := by omega
          have hM5 := HMr.out
          rw [List.take_of_length_le (by have := HNu.out; omega)] at hM5
          have HONE := Lib.hid hM5
          have hszr := hgr.out.size
          clear hM5 HMr HXu
          have HM8 := Lib.hid (mind_gl HM7u.out hgr.out (by simp; omega) (by simp; omega) (by simp; omega))
          have HC28 := Lib.hid (mind_gl HC2u.out hgr.out (by simp; omega) (by simp; omega) (by simp; omega))
          have HA14 := Lib.hid (blk_gl HA13u.out hgr.out HNOu.out.2.1)
          have HB14 := Lib.hid (blk_gl HB13u.out hgr.out HNOu.out.2.2)
          obtain ⟨nOne, hnOne⟩ : ∃ x, x = n1 := ⟨_, rfl⟩
          rw [← hnOne] at HONE
          obtain ⟨SOne, hSOne⟩ : ∃ x, x = S1 := ⟨_, rfl⟩
          rw [← hSOne] at HONE
          have hgX := hgw
          obtain ⟨wX, hwX⟩ : ∃ x, x = wr := ⟨_, rfl⟩
          rw [← hwX] at HM8 HC28 HA14 HB14 HONE hgX hszr ⊢
          clear HM7 HM7u HC1b HC1bu HC2 HC2u HA13u HB13u hgr hgw hwX hnOne hSOne hnk1
          have a1 := blk_cell HB14.out
          have a2 := blk_free HB14.out
          have a3 := blk_lt HB14.out
          have l8 := mind_lt HM8.out
          have l9 := mind_lt HC28.out
          have l10 := mind_lt HONE.out
          go_wp2_with fail
          clear a1 a2 a3
          obtain ⟨OL, hOL⟩ : ∃ l : List (List UInt8), l = [o0, o1, o2, o3, o4, o5] := ⟨_, rfl⟩
          have HLv := Lib.hid hOL
          have HNv := Lib.hid (show OL.length = 6 by rw [hOL]; rfl)
          have HRv := Lib.hid (show ∀ t ∈ OL, right t = true from fun t ht => HPL.out.1.2.1 t (by rw [hOL] at ht; exact (show t ∈ [s0, s1, s2, s3, s4, s5] ++ [o0, o1, o2, o3, o4, o5] from List.mem_append_right _ ht)))
          have HXv := Lib.hid (show ∀ (k : Nat) (x : List UInt8), OL[k]? = some x → (wX.alloc (.cells #[.string (bs o0), .string (bs o1), .string (bs o2), .string (bs o3), .string (bs o4), .string (bs o5)] 22)).cell? ⟨wX.heap.size, k, none⟩ = some (.string (bs x)) from fun k x hx => by
            refine (blk_cell (blk_new wX (.cells #[.string (bs o0), .string (bs o1), .string (bs o2), .string (bs o3), .string (bs o4), .string (bs o5)] 22)) k).trans ?_
            rw [show (#[.string (bs o0), .string (bs o1), .string (bs o2), .string (bs o3), .string (bs o4), .string (bs o5)] : Array Value) = (OL.map fun y => Value.string (bs y)).toArray by rw [hOL]; rfl, List.getElem?_toArray, List.getElem?_map, hx]
            rfl)
          have hszv : wX.heap.size < (wX.alloc (.cells #[.string (bs o0), .string (bs o1), .string (bs o2), .string (bs o3), .string (bs o4), .string (bs o5)] 22)).heap.size := by simp
          have hgv : GL [] w (wX.alloc (.cells #[.string (bs o0), .string (bs o1), .string (bs o2), .string (bs o3), .string (bs o4), .string (bs o5)] 22)) := gl_alloc hgX _
          have HM8v := Lib.hid (mind_gl HM8.out (gl_alloc (gl_refl [] _) (.cells #[.string (bs o0), .string (bs o1), .string (bs o2), .string (bs o3), .string (bs o4), .string (bs o5)] 22)) (by simp) (by simp) (by simp))
          have HC28v := Lib.hid (mind_gl HC28.out (gl_alloc (gl_refl [] _) (.cells #[.string (bs o0), .string (bs o1), .string (bs o2), .string (bs o3), .string (bs o4), .string (bs o5)] 22)) (by simp) (by simp) (by simp))
          have HONEv := Lib.hid (mind_gl HONE.out (gl_alloc (gl_refl [] _) (.cells #[.string (bs o0), .string (bs o1), .string (bs o2), .string (bs o3), .string (bs o4), .string (bs o5)] 22)) (by simp) (by simp) (by simp))
          have HA14v := Lib.hid (blk_alloc HA14.out (.cells #[.string (bs o0), .string (bs o1), .string (bs o2), .string (bs o3), .string (bs o4), .string (bs o5)] 22))
          have HB14v := Lib.hid (blk_alloc HB14.out (.cells #[.string (bs o0), .string (bs o1), .string (bs o2), .string (bs o3), .string (bs o4), .string (bs o5)] 22))
          clear hOL
          generalize wX.alloc (.cells #[.string (bs o0), .string (bs o1), .string (bs o2), .string (bs o3), .string (bs o4), .string (bs o5)] 22) = wv at *
          generalize wX.heap.size = Tv at *
          have HNOv := Lib.hid (show Tv ∉ [ch2, ce2] ∧ A ∉ [ch2, ce2] ∧ B ∉ [ch2, ce2] by simp; omega)
          go_loopw [176] (fun iv wr => ∃ (k n1 : Nat) (S1 : List UInt8 → Bool), k ≤ 6 ∧ iv = .int .i64 k ∧ n1 ≤ n9 + k ∧ Hid (MindAt wr C2 ch2 ce2 (heardP (LL ++ OL.take k)) S1 n1) ∧ Hid (GL [ch2, ce2] wv wr)) (fun iv _ => 6 - (intOf iv).toNat)
          case atStart => exact ⟨0, n9, S, by omega, rfl, by omega, by rw [List.take_zero, List.append_nil]; exact HC28v, Lib.hid (gl_refl _ _)⟩
          case round =>
            obtain ⟨k, n1, S1, hk, rfl, hnk1, HMr, hgr⟩ := hrel
            have hgw : GL [] w wr := gl_step hgr.out hgv (fun r hr => .inr (by simp at hr; omega))
            by_cases hlt : k < 6
            · have i1 : (k : Int) < 6 := by omega
              have hkL : k < OL.length := by have := HNv.out; omega
              have hx : OL[k]? = some OL[k] := List.getElem?_eq_getElem hkL
              have c0 := cell_glx (HXv.out k _ hx) hgr.out HNOv.out.1
              have hr := HRv.out OL[k] (List.getElem_mem _)
              have hxl := (right_len hr).2
              have HT := Lib.hid (show LL ++ OL.take (k + 1) = LL ++ OL.take k ++ [OL[k]] by rw [List.take_add_one, hx, List.append_assoc]; rfl)
              clear hx hr
              generalize OL[k] = x at *
              go_wp2_with fail
              refine (dLearn C2 ch2 ce2 n1 _ S1 x (by omega) _ (gok_gl HG0.out hgw (by simp)) HMr.out).mono ?_
              rintro e w11 ⟨S4, rfl, hM4, hg4⟩
              rw [heardP_add _ _ _ (by omega), ← HT.out] at hM4
              have HM4 := Lib.hid hM4
              have hn4 := (learnN_le (heardP (LL ++ OL.take k)) n1 x).2.1
              have hgw4 : GL [ch2, ce2] wv w11 := gl_step hg4 hgr.out (fun r hr => .inl hr)
              clear hM4 hg4 c0
              generalize learnN (heardP (LL ++ OL.take k)) n1 x = n4 at *
              generalize learnC (heardP (LL ++ OL.take k)) n1 x = z4 at *
              go_wp2_with fail
              go_roundw
              case rel => first | exact ⟨k + 1, n4, S4, by omega, by go_num, by omega, HM4, Lib.hid hgw4⟩ | ((repeat apply Exists.intro); refine ⟨?_, rfl⟩; exact ⟨k + 1, n4, S4, by omega, by go_num, by omega, HM4, Lib.hid hgw4⟩)
              case measure => first | (simp [intOf]; omega) | ((show 6 - ((k : Int) + 1).toNat < 6 - (k : Int).toNat); omega)
            · obtain rfl : k = 6 := by omega
              have hM5 := HMr.out
              rw [List.take_of_length_le (by have := HNv.out; omega)] at hM5
              have HOTHER := Lib.hid hM5
              have hszr := hgr.out.size
              clear hM5 HMr HXv
              have HMZ := Lib.hid (mind_gl HM8v.out hgr.out (by simp; omega) (by simp; omega) (by simp; omega))
              have HONZ := Lib.hid (mind_gl HONEv.out hgr.out (by simp; omega) (by simp; omega) (by simp; omega))
              have HAZ := Lib.hid (blk_gl HA14v.out hgr.out HNOv.out.2.1)
              have HBZ := Lib.hid (blk_gl HB14v.out hgr.out HNOv.out.2.2)
              have hgZ := hgw
              have F1 := Lib.hid (HPL.out.2.1 S HMZ.out.least)
              have F2 := Lib.hid (HPL.out.2.2.1 SOne (by rw [← HLu.out]; exact HONZ.out.least))
              have F3 := Lib.hid (HPL.out.2.2.2.1 S1 (by rw [← HLv.out]; exact HOTHER.out.least))
              have lrv := (right_len HPL.out.1.2.2.2.1).2
              have lmi := (right_len HPL.out.1.2.2.2.2.1).2
              have lth := (right_len HPL.out.1.2.2.2.2.2).2
              have hz0 : GL [] wr wr := gl_refl _ _
              have a0 : w.heap.size ≤ w.heap.size := Nat.le_refl _
              go_wp2_with fail
              refine (dKnows M bh be n9 _ S rv (by omega) _ (gok_gl HG0.out (gl_step hz0 hgZ (by simp)) (by simp)) (mind_gl HMZ.out hz0 (by simp) (by simp) (by simp))).mono ?_
              rintro e y1 ⟨rfl, hy1⟩
              rw [show (right rv && kn S rv) = false by rw [HPL.out.1.2.2.2.1, F1.out.1]; rfl]
              have hz1 : GL [] wr y1 := gl_below hy1 hz0
              clear hy1
              go_wp2_with fail
              refine (dKnows M bh be n9 _ S mi (by omega) _ (gok_gl HG0.out (gl_step hz1 hgZ (by simp)) (by simp)) (mind_gl HMZ.out hz1 (by simp) (by simp) (by simp))).mono ?_
              rintro e y2 ⟨rfl, hy2⟩
              rw [show (right mi && kn S mi) = false by rw [HPL.out.1.2.2.2.2.1, F1.out.2.1]; rfl]
              have hz2 : GL [] wr y2 := gl_below hy2 hz1
              clear hy2
              go_wp2_with fail
              refine (dKnows M bh be n9 _ S th (by omega) _ (gok_gl HG0.out (gl_step hz2 hgZ (by simp)) (by simp)) (mind_gl HMZ.out hz2 (by simp) (by simp) (by simp))).mono ?_
              rintro e y3 ⟨rfl, hy3⟩
              rw [show (right th && kn S th) = false by rw [HPL.out.1.2.2.2.2.2, F1.out.2.2]; rfl]
              have hz3 : GL [] wr y3 := gl_below hy3 hz2
              clear hy3
              go_wp2_with fail
              refine (dKnows C1 ch1 ce1 nOne _ SOne rv (by omega) _ (gok_gl HG0.out (gl_step hz3 hgZ (by simp)) (by simp)) (mind_gl HONZ.out hz3 (by simp) (by simp) (by simp))).mono ?_
              rintro e y4 ⟨rfl, hy4⟩
              rw [show (right rv && kn SOne rv) = false by rw [HPL.out.1.2.2.2.1, F2.out.1]; rfl]
              have hz4 : GL [] wr y4 := gl_below hy4 hz3
              clear hy4
              go_wp2_with fail
              refine (dKnows C1 ch1 ce1 nOne _ SOne th (by omega) _ (gok_gl HG0.out (gl_step hz4 hgZ (by simp)) (by simp)) (mind_gl HONZ.out hz4 (by simp) (by simp) (by simp))).mono ?_
              rintro e y5 ⟨rfl, hy5⟩
              rw [show (right th && kn SOne th) = false by rw [HPL.out.1.2.2.2.2.2, F2.out.2.1]; rfl]
              have hz5 : GL [] wr y5 := gl_below hy5 hz4
              clear hy5
              go_wp2_with fail
              refine (dKnows C1 ch1 ce1 nOne _ SOne mi (by omega) _ (gok_gl HG0.out (gl_step hz5 hgZ (by simp)) (by simp)) (mind_gl HONZ.out hz5 (by simp) (by simp) (by simp))).mono ?_
              rintro e y6 ⟨rfl, hy6⟩
              rw [show (right mi && kn SOne mi) = true by rw [HPL.out.1.2.2.2.2.1, F2.out.2.2.1]; rfl]
              have hz6 : GL [] wr y6 := gl_below hy6 hz5
              clear hy6
              go_wp2_with fail
              refine (dKnows C2 ch2 ce2 n1 _ S1 rv (by omega) _ (gok_gl HG0.out (gl_step hz6 hgZ (by simp)) (by simp)) (mind_gl HOTHER.out hz6 (by simp) (by simp) (by simp))).mono ?_
              rintro e y7 ⟨rfl, hy7⟩
              rw [show (right rv && kn S1 rv) = false by rw [HPL.out.1.2.2.2.1, F3.out.1]; rfl]
              have hz7 : GL [] wr y7 := gl_below hy7 hz6
              clear hy7
              go_wp2_with fail
              refine (dKnows C2 ch2 ce2 n1 _ S1 mi (by omega) _ (gok_gl HG0.out (gl_step hz7 hgZ (by simp)) (by simp)) (mind_gl HOTHER.out hz7 (by simp) (by simp) (by simp))).mono ?_
              rintro e y8 ⟨rfl, hy8⟩
              rw [show (right mi && kn S1 mi) = false by rw [HPL.out.1.2.2.2.2.1, F3.out.2.1]; rfl]
              have hz8 : GL [] wr y8 := gl_below hy8 hz7
              clear hy8
              go_wp2_with fail
              refine (dKnows C2 ch2 ce2 n1 _ S1 th (by omega) _ (gok_gl HG0.out (gl_step hz8 hgZ (by simp)) (by simp)) (mind_gl HOTHER.out hz8 (by simp) (by simp) (by simp))).mono ?_
              rintro e y9 ⟨rfl, hy9⟩
              rw [show (right th && kn S1 th) = true by rw [HPL.out.1.2.2.2.2.2, F3.out.2.2.1]; rfl]
              have hz9 : GL [] wr y9 := gl_below hy9 hz8
              clear hy9
              have hq9 := blk_gl HBZ.out hz9 (by simp)
              have a1 := blk_cell hq9
              have a2 := blk_free hq9
              have a3 := blk_lt hq9
              clear hq9
              go_wp2_with fail
              refine (dKnows C1 ch1 ce1 nOne _ SOne o2 (by omega) _ (gok_gl HG0.out (gl_step hz9 hgZ (by simp)) (by simp)) (mind_gl HONZ.out hz9 (by simp) (by simp) (by simp))).mono ?_
              rintro e y10 ⟨rfl, hy10⟩
              rw [show (right o2 && kn SOne o2) = false by rw [(HPL.out.1.2.1 o2 (by simp)), F2.out.2.2.2]; rfl]
              have hz10 : GL [] wr y10 := gl_below hy10 hz9
              clear hy10
              clear a1 a2 a3
              have hq10 := blk_gl HAZ.out hz10 (by simp)
              have a1 := blk_cell hq10
              have a2 := blk_free hq10
              have a3 := blk_lt hq10
              clear hq10
              go_wp2_with fail
              refine (dKnows C2 ch2 ce2 n1 _ S1 s3 (by omega) _ (gok_gl HG0.out (gl_step hz10 hgZ (by simp)) (by simp)) (mind_gl HOTHER.out hz10 (by simp) (by simp) (by simp))).mono ?_
              rintro e y11 ⟨rfl, hy11⟩
              rw [show (right s3 && kn S1 s3) = false by rw [(HPL.out.1.2.1 s3 (by simp)), F3.out.2.2.2]; rfl]
              have hz11 : GL [] wr y11 := gl_below hy11 hz10
              clear hy11
              clear a1 a2 a3
              go_wp2_with fail
              refine (dLearn C2 ch2 ce2 n1 _ S1 sc (by omega) _ (gok_gl HG0.out (gl_step hz11 hgZ (by simp)) (by simp)) (mind_gl HOTHER.out hz11 (by simp) (by simp) (by simp))).mono ?_
              rintro e v1 ⟨S5, rfl, hM5, hg5⟩
              rw [heardP_add _ _ _ (by omega)] at hM5
              rw [show learnC (heardP (LL ++ OL)) n1 sc = 0 by rw [learnC_few _ _ _ (by omega), if_pos HPL.out.1.2.2.1]]
              have F4 := Lib.hid (HPL.out.2.2.2.2 S5 (by rw [← HLv.out]; exact hM5.least))
              have HM5z := Lib.hid hM5
              have hgv1 : GL [] w v1 := gl_step hg5 (gl_step hz11 hgZ (by simp)) (fun r hr => .inr (by have := hgX.size; have := hlow; simp at hr; omega))
              generalize learnN (heardP (LL ++ OL)) n1 sc = n5 at *
              clear hM5 hg5
              go_wp2_with fail
              refine (dKnows C2 ch2 ce2 n5 _ S5 rv (by omega) _ (gok_gl HG0.out hgv1 (by simp)) HM5z.out).mono ?_
              rintro e v2 ⟨rfl, hb2v⟩
              rw [show (right rv && kn S5 rv) = true by rw [HPL.out.1.2.2.2.1, F4.out.1]; rfl]
              have hgv2 : GL [] w v2 := gl_below hb2v hgv1
              have HM6z := Lib.hid (mind_below HM5z.out hb2v)
              clear hb2v
              go_wp2_with fail
              refine (dKnows C2 ch2 ce2 n5 _ S5 mi (by omega) _ (gok_gl HG0.out hgv2 (by simp)) HM6z.out).mono ?_
              rintro e v3 ⟨rfl, hb3v⟩
              rw [show (right mi && kn S5 mi) = false by rw [HPL.out.1.2.2.2.2.1, F4.out.2]; rfl]
              have hgv3 : GL [] w v3 := gl_below hb3v hgv2
              clear hb3v
              go_wp2_with fail
              refine (lWorks _ (gok_gl HG0.out hgv3 (by simp)) (words_gl HW.out hs hgv3 (by simp))).mono ?_
              rintro e v4 ⟨rfl, hb4v⟩
              go_wp2_with fail
              go_ret
              exact ⟨by first | rfl | (simp; done), gl_to_below (gl_below hb4v hgv3)⟩
end Go.Proofs.YtdmfoablpdhnbaaGreatDoor
