/- The laws of layer 16: public keys, commitments' secrets and points. -/
import Derived.Test.YtdmfoablpdhnbaaGreatDoorLawA
import Derived.Test.YtdmfoablpdhnbaaGreatDoorMKey
import Derived.Test.YtdmfoablpdhnbaaGreatDoorMRefK
set_option linter.unusedSimpArgs false
set_option linter.unusedVariables false
namespace Go.Proofs.YtdmfoablpdhnbaaGreatDoor
open Go.RowKit

theorem words_below {w w' : World} (h : WordsOk w) (hs : gN ≤ w.heap.size) (hb : Below w.heap.size w w') : WordsOk w' := words_keep h fun k hk => hb.block k (Nat.lt_of_lt_of_le hk hs)
theorem words_alloc {w : World} (h : WordsOk w) (hs : gN ≤ w.heap.size) (x : Obj) : WordsOk (w.alloc x) := words_keep h fun k hk => Below.heap_alloc w x k (Nat.lt_of_lt_of_le hk hs)

set_option maxRecDepth 100000 in
set_option maxHeartbeats 4000000 in
theorem lKeysPoints (a b c d e f : List UInt8) (n : Int) (h0 : -9223372036854775808 ≤ n) (h1 : n ≤ 9223372036854775807)
    (ha : a.length ≤ 140737488355328) (hb : b.length ≤ 140737488355328) (hc : c.length ≤ 140737488355328) (hd : d.length ≤ 140737488355328) (he : e.length ≤ 140737488355328) (hf : f.length ≤ 140737488355328) (w : World) (hG : GOk w) (hW : WordsOk w) :
    Calls Tryz.prog 13 #[.agg #[.string (bs a), .string (bs b), .string (bs c), .string (bs d), .string (bs e), .string (bs f)], .int .i64 n] w fun r w' => r = .returned (.bool true) ∧ Below w.heap.size w w' := by
  by_cases h2 : (20000 : Int) < (a.length : Int) + b.length + c.length + d.length + e.length + f.length
  · go_enter Tryz.func13, Tryz.ntmps13
    go_wp2
    go_ret
    exact ⟨rfl, by (repeat' (first | with_reducible exact Below.refl _ _ | with_reducible assumption | with_reducible refine below_alloc ?_ ?_ _ | with_reducible refine Below.setCell ?_ ?_ _ | with_reducible refine Below.drew ?_ | with_reducible refine below_drewN ?_ _ | with_reducible refine below_step (by assumption) ?_ ?_ | (with_reducible refine Below.trans ?_ (Below.mono (by assumption) ?_)) | exact Nat.le_refl _ | (simp; done) | (simp; omega) | omega))⟩
  · have la : a.length ≤ 9000000000000000000 := by omega
    have lb : b.length ≤ 9000000000000000000 := by omega
    have lc : c.length ≤ 9000000000000000000 := by omega
    have ld : d.length ≤ 9000000000000000000 := by omega
    have le : e.length ≤ 9000000000000000000 := by omega
    have lf : f.length ≤ 9000000000000000000 := by omega
    have HG := Lib.hid hG
    have HW := Lib.hid hW
    have hs := hG.size
    clear hG hW
    obtain ⟨a1, e1, hn⟩ : ∃ x g, publicT a b c d e = (x, g) := ⟨_, _, rfl⟩
    obtain ⟨a2, e2, hr⟩ : ∃ x g, revealT f n = (x, g) := ⟨_, _, rfl⟩
    obtain ⟨a3, e3, hp⟩ : ∃ x g, pointT f n = (x, g) := ⟨_, _, rfl⟩
    have HN := Lib.hid hn
    have HC := Lib.hid hr
    have HP := Lib.hid hp
    clear hn hr hp
    obtain ⟨s0, hs0⟩ : ∃ s, a1.getD 0 [] = s := ⟨_, rfl⟩
    obtain ⟨s1, hs1⟩ : ∃ s, a1.getD 1 [] = s := ⟨_, rfl⟩
    obtain ⟨s2, hs2⟩ : ∃ s, a1.getD 2 [] = s := ⟨_, rfl⟩
    obtain ⟨s3, hs3⟩ : ∃ s, a1.getD 3 [] = s := ⟨_, rfl⟩
    obtain ⟨s4, hs4⟩ : ∃ s, a1.getD 4 [] = s := ⟨_, rfl⟩
    have HV : Hid (keysV a1 = .agg #[.string (bs s0), .string (bs s1), .string (bs s2), .string (bs s3), .string (bs s4)]) := by show keysV a1 = _; rw [← hs0, ← hs1, ← hs2, ← hs3, ← hs4]; rfl
    clear hs0 hs1 hs2 hs3 hs4
    have HS0 := Lib.hid (blk_new w (.cells #[.string (bs a), .string (bs b), .string (bs c), .string (bs d), .string (bs e), .string (bs f)] 44))
    have HG0 := Lib.hid (gok_alloc HG.out (.cells #[.string (bs a), .string (bs b), .string (bs c), .string (bs d), .string (bs e), .string (bs f)] 44))
    have HW0 := Lib.hid (words_alloc HW.out hs (.cells #[.string (bs a), .string (bs b), .string (bs c), .string (bs d), .string (bs e), .string (bs f)] 44))
    have hb0 : Below w.heap.size w (w.alloc (.cells #[.string (bs a), .string (bs b), .string (bs c), .string (bs d), .string (bs e), .string (bs f)] 44)) := by (repeat' (first | with_reducible exact Below.refl _ _ | with_reducible assumption | with_reducible refine below_alloc ?_ ?_ _ | with_reducible refine Below.setCell ?_ ?_ _ | with_reducible refine Below.drew ?_ | with_reducible refine below_drewN ?_ _ | with_reducible refine below_step (by assumption) ?_ ?_ | (with_reducible refine Below.trans ?_ (Below.mono (by assumption) ?_)) | exact Nat.le_refl _ | (simp; done) | (simp; omega) | omega))
    go_enter Tryz.func13, Tryz.ntmps13
    go_wp2_with fail
    generalize w.alloc (.cells #[.string (bs a), .string (bs b), .string (bs c), .string (bs d), .string (bs e), .string (bs f)] 44) = w0 at *
    have f1a := blk_cell HS0.out
    have f1b := blk_free HS0.out
    refine (kPublic a b c d e f la lb lc ld le _ HG0.out).mono ?_
    rintro r w1 ⟨rfl, hb1⟩
    rw [HN.out]
    simp only []
    rw [HV.out]
    have HS1 := Lib.hid (blk_below HS0.out hb1 (blk_lt HS0.out))
    have HG1 := Lib.hid (gok_below HG0.out hb1)
    have HW1 := Lib.hid (words_below HW0.out HG0.out.size hb1)
    clear f1a f1b
    have HS1k := Lib.hid (blk_alloc HS1.out (.cells #[.string (bs s0), .string (bs s1), .string (bs s2), .string (bs s3), .string (bs s4)] 46))
    have HG1k := Lib.hid (gok_alloc HG1.out (.cells #[.string (bs s0), .string (bs s1), .string (bs s2), .string (bs s3), .string (bs s4)] 46))
    have HW1k := Lib.hid (words_alloc HW1.out HG1.out.size (.cells #[.string (bs s0), .string (bs s1), .string (bs s2), .string (bs s3), .string (bs s4)] 46))
    have HB1_1k := Lib.hid (blk_new w1 (.cells #[.string (bs s0), .string (bs s1), .string (bs s2), .string (bs s3), .string (bs s4)] 46))
    have hb1k : Below w1.heap.size w1 (w1.alloc (.cells #[.string (bs s0), .string (bs s1), .string (bs s2), .string (bs s3), .string (bs s4)] 46)) := by (repeat' (first | with_reducible exact Below.refl _ _ | with_reducible assumption | with_reducible refine below_alloc ?_ ?_ _ | with_reducible refine Below.setCell ?_ ?_ _ | with_reducible refine Below.drew ?_ | with_reducible refine below_drewN ?_ _ | with_reducible refine below_step (by assumption) ?_ ?_ | (with_reducible refine Below.trans ?_ (Below.mono (by assumption) ?_)) | exact Nat.le_refl _ | (simp; done) | (simp; omega) | omega))
    have f2a := blk_cell HS1k.out
    have f2b := blk_free HS1k.out
    go_wp2_with fail
    refine (rPublic a b c d e f la lb lc ld le _).mono ?_
    rintro r w2 ⟨rfl, hb2⟩
    rw [HN.out]
    simp only []
    rw [HV.out]
    have HS2 := Lib.hid (blk_below HS1k.out hb2 (blk_lt HS1k.out))
    have HG2 := Lib.hid (gok_below HG1k.out hb2)
    have HW2 := Lib.hid (words_below HW1k.out HG1k.out.size hb2)
    have HB1_2 := Lib.hid (blk_below HB1_1k.out hb2 (blk_lt HB1_1k.out))
    clear f2a f2b
    have HS2k := Lib.hid (blk_alloc HS2.out (.cells #[.string (bs s0), .string (bs s1), .string (bs s2), .string (bs s3), .string (bs s4)] 46))
    have HG2k := Lib.hid (gok_alloc HG2.out (.cells #[.string (bs s0), .string (bs s1), .string (bs s2), .string (bs s3), .string (bs s4)] 46))
    have HW2k := Lib.hid (words_alloc HW2.out HG2.out.size (.cells #[.string (bs s0), .string (bs s1), .string (bs s2), .string (bs s3), .string (bs s4)] 46))
    have HB1_2k := Lib.hid (blk_alloc HB1_2.out (.cells #[.string (bs s0), .string (bs s1), .string (bs s2), .string (bs s3), .string (bs s4)] 46))
    have HB2_2k := Lib.hid (blk_new w2 (.cells #[.string (bs s0), .string (bs s1), .string (bs s2), .string (bs s3), .string (bs s4)] 46))
    have hb2k : Below w2.heap.size w2 (w2.alloc (.cells #[.string (bs s0), .string (bs s1), .string (bs s2), .string (bs s3), .string (bs s4)] 46)) := by (repeat' (first | with_reducible exact Below.refl _ _ | with_reducible assumption | with_reducible refine below_alloc ?_ ?_ _ | with_reducible refine Below.setCell ?_ ?_ _ | with_reducible refine Below.drew ?_ | with_reducible refine below_drewN ?_ _ | with_reducible refine below_step (by assumption) ?_ ?_ | (with_reducible refine Below.trans ?_ (Below.mono (by assumption) ?_)) | exact Nat.le_refl _ | (simp; done) | (simp; omega) | omega))
    have f3a := blk_cell HS2k.out
    have f3b := blk_free HS2k.out
    go_wp2_with fail
    refine (kReveal a b c d e f n h0 h1 lf _ HG2k.out).mono ?_
    rintro r w3 ⟨rfl, hb3⟩
    rw [HC.out]
    have HS3 := Lib.hid (blk_below HS2k.out hb3 (blk_lt HS2k.out))
    have HG3 := Lib.hid (gok_below HG2k.out hb3)
    have HW3 := Lib.hid (words_below HW2k.out HG2k.out.size hb3)
    have HB1_3 := Lib.hid (blk_below HB1_2k.out hb3 (blk_lt HB1_2k.out))
    have HB2_3 := Lib.hid (blk_below HB2_2k.out hb3 (blk_lt HB2_2k.out))
    clear f3a f3b
    have f4a := blk_cell HS3.out
    have f4b := blk_free HS3.out
    go_wp2_with fail
    refine (rReveal a b c d e f n h0 h1 lf _).mono ?_
    rintro r w4 ⟨rfl, hb4⟩
    rw [HC.out]
    have HS4 := Lib.hid (blk_below HS3.out hb4 (blk_lt HS3.out))
    have HG4 := Lib.hid (gok_below HG3.out hb4)
    have HW4 := Lib.hid (words_below HW3.out HG3.out.size hb4)
    have HB1_4 := Lib.hid (blk_below HB1_3.out hb4 (blk_lt HB1_3.out))
    have HB2_4 := Lib.hid (blk_below HB2_3.out hb4 (blk_lt HB2_3.out))
    clear f4a f4b
    have f5a := blk_cell HS4.out
    have f5b := blk_free HS4.out
    go_wp2_with fail
    refine (kPoint a b c d e f n h0 h1 lf _ HG4.out).mono ?_
    rintro r w5 ⟨rfl, hb5⟩
    rw [HP.out]
    have HS5 := Lib.hid (blk_below HS4.out hb5 (blk_lt HS4.out))
    have HG5 := Lib.hid (gok_below HG4.out hb5)
    have HW5 := Lib.hid (words_below HW4.out HG4.out.size hb5)
    have HB1_5 := Lib.hid (blk_below HB1_4.out hb5 (blk_lt HB1_4.out))
    have HB2_5 := Lib.hid (blk_below HB2_4.out hb5 (blk_lt HB2_4.out))
    clear f5a f5b
    have f6a := blk_cell HS5.out
    have f6b := blk_free HS5.out
    go_wp2_with fail
    refine (rPoint a b c d e f n h0 h1 lf _).mono ?_
    rintro r w6 ⟨rfl, hb6⟩
    rw [HP.out]
    have HS6 := Lib.hid (blk_below HS5.out hb6 (blk_lt HS5.out))
    have HG6 := Lib.hid (gok_below HG5.out hb6)
    have HW6 := Lib.hid (words_below HW5.out HG5.out.size hb6)
    have HB1_6 := Lib.hid (blk_below HB1_5.out hb6 (blk_lt HB1_5.out))
    have HB2_6 := Lib.hid (blk_below HB2_5.out hb6 (blk_lt HB2_5.out))
    clear f6a f6b
    have q1 := blk_cell HB1_6.out
    have q2 := blk_free HB1_6.out
    have q3 := blk_cell HB2_6.out
    have q4 := blk_free HB2_6.out
    have z1 := blk_lt HB1_6.out
    have z2 := blk_lt HB2_6.out
    go_wp2_with fail
    refine (lWorks _ HG6.out HW6.out).mono ?_
    rintro r w7 ⟨rfl, hb7⟩
    go_wp2
    go_ret
    exact ⟨rfl, by (repeat' (first | with_reducible exact Below.refl _ _ | with_reducible assumption | with_reducible refine below_alloc ?_ ?_ _ | with_reducible refine Below.setCell ?_ ?_ _ | with_reducible refine Below.drew ?_ | with_reducible refine below_drewN ?_ _ | with_reducible refine below_step (by assumption) ?_ ?_ | (with_reducible refine Below.trans ?_ (Below.mono (by assumption) ?_)) | exact Nat.le_refl _ | (simp; done) | (simp; omega) | omega))⟩
end Go.Proofs.YtdmfoablpdhnbaaGreatDoor
