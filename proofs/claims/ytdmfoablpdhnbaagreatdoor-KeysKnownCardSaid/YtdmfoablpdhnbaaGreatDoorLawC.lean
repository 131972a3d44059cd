/- The laws of layer 16: a commitment's keys, what is bound and joined. -/
import Derived.Test.YtdmfoablpdhnbaaGreatDoorLawB
import Derived.Test.YtdmfoablpdhnbaaGreatDoorMKey
import Derived.Test.YtdmfoablpdhnbaaGreatDoorRefT
set_option linter.unusedSimpArgs false
set_option linter.unusedVariables false
namespace Go.Proofs.YtdmfoablpdhnbaaGreatDoor
open Go.RowKit

set_option maxRecDepth 100000 in
set_option maxHeartbeats 1000000 in
theorem rBind (x y : List UInt8) (hx : x.length ≤ 9000000000000000000) (hy : y.length ≤ 9000000000000000000) (w : World) :
    Calls Tryz.prog 55 #[.string (bs x), .string (bs y)] w fun e w' => e = .returned (.tuple #[.string (bs (twoT 75 x y).1), .int .i64 (twoT 75 x y).2]) ∧ Below w.heap.size w w' := by
  go_enter Tryz.func55, Tryz.ntmps55
  go_wp2_with (go_at_call 97; refine (refTwo 75 x y hx hy _).mono ?_; rintro e w1 ⟨rfl, hb1⟩)
  go_ret2
  exact ⟨rfl, by (repeat' (first | with_reducible exact Below.refl _ _ | with_reducible assumption | with_reducible refine below_alloc ?_ ?_ _ | with_reducible refine Below.setCell ?_ ?_ _ | with_reducible refine Below.drew ?_ | with_reducible refine below_drewN ?_ _ | with_reducible refine below_step (by assumption) ?_ ?_ | (with_reducible refine Below.trans ?_ (Below.mono (by assumption) ?_)) | exact Nat.le_refl _ | (simp; done) | (simp; omega) | omega))⟩
set_option maxRecDepth 100000 in
set_option maxHeartbeats 1000000 in
theorem rRevoke (x y : List UInt8) (hx : x.length ≤ 9000000000000000000) (hy : y.length ≤ 9000000000000000000) (w : World) :
    Calls Tryz.prog 57 #[.string (bs x), .string (bs y)] w fun e w' => e = .returned (.tuple #[.string (bs (twoT 86 x y).1), .int .i64 (twoT 86 x y).2]) ∧ Below w.heap.size w w' := by
  go_enter Tryz.func57, Tryz.ntmps57
  go_wp2_with (go_at_call 97; refine (refTwo 86 x y hx hy _).mono ?_; rintro e w1 ⟨rfl, hb1⟩)
  go_ret2
  exact ⟨rfl, by (repeat' (first | with_reducible exact Below.refl _ _ | with_reducible assumption | with_reducible refine below_alloc ?_ ?_ _ | with_reducible refine Below.setCell ?_ ?_ _ | with_reducible refine Below.drew ?_ | with_reducible refine below_drewN ?_ _ | with_reducible refine below_step (by assumption) ?_ ?_ | (with_reducible refine Below.trans ?_ (Below.mono (by assumption) ?_)) | exact Nat.le_refl _ | (simp; done) | (simp; omega) | omega))⟩

set_option maxRecDepth 100000 in
set_option maxHeartbeats 8000000 in
theorem lKeysSets (oF oR oP oL oH tF tR tP tL tH pt : List UInt8)
    (hoF : oF.length ≤ 140737488355328) (hoR : oR.length ≤ 140737488355328) (hoP : oP.length ≤ 140737488355328) (hoL : oL.length ≤ 140737488355328) (hoH : oH.length ≤ 140737488355328) (htF : tF.length ≤ 140737488355328) (htR : tR.length ≤ 140737488355328) (htP : tP.length ≤ 140737488355328) (htL : tL.length ≤ 140737488355328) (htH : tH.length ≤ 140737488355328) (hpt : pt.length ≤ 140737488355328) (w : World) (hG : GOk w) (hW : WordsOk w) :
    Calls Tryz.prog 14 #[.agg #[.string (bs oF), .string (bs oR), .string (bs oP), .string (bs oL), .string (bs oH)], .agg #[.string (bs tF), .string (bs tR), .string (bs tP), .string (bs tL), .string (bs tH)], .string (bs pt)] w fun r w' => r = .returned (.bool true) ∧ Below w.heap.size w w' := by
  by_cases h2 : (20000 : Int) < (oL.length : Int) + oH.length + oF.length + tR.length + tP.length + tH.length + pt.length
  · go_enter Tryz.func14, Tryz.ntmps14
    go_wp2
    go_ret
    exact ⟨rfl, by (repeat' (first | with_reducible exact Below.refl _ _ | with_reducible assumption | with_reducible refine below_alloc ?_ ?_ _ | with_reducible refine Below.setCell ?_ ?_ _ | with_reducible refine Below.drew ?_ | with_reducible refine below_drewN ?_ _ | with_reducible refine below_step (by assumption) ?_ ?_ | (with_reducible refine Below.trans ?_ (Below.mono (by assumption) ?_)) | exact Nat.le_refl _ | (simp; done) | (simp; omega) | omega))⟩
  · have loL : oL.length ≤ 9000000000000000000 := by omega
    have loH : oH.length ≤ 9000000000000000000 := by omega
    have loF : oF.length ≤ 9000000000000000000 := by omega
    have ltR : tR.length ≤ 9000000000000000000 := by omega
    have ltP : tP.length ≤ 9000000000000000000 := by omega
    have ltH : tH.length ≤ 9000000000000000000 := by omega
    have lpt : pt.length ≤ 9000000000000000000 := by omega
    have HG := Lib.hid hG
    have HW := Lib.hid hW
    have hs := hG.size
    clear hG hW
    obtain ⟨a1, e1, hn⟩ : ∃ x g, setT oL oH tR tP tH pt = (x, g) := ⟨_, _, rfl⟩
    obtain ⟨a2, e2, hr⟩ : ∃ x g, twoT 75 oF pt = (x, g) := ⟨_, _, rfl⟩
    obtain ⟨a3, e3, hp⟩ : ∃ x g, twoT 86 pt oF = (x, g) := ⟨_, _, rfl⟩
    have HN := Lib.hid hn
    have HC := Lib.hid hr
    have HP := Lib.hid hp
    clear hn hr hp
    obtain ⟨s0, hs0⟩ : ∃ s, a1.getD 0 [] = s := ⟨_, rfl⟩
    obtain ⟨s1, hs1⟩ : ∃ s, a1.getD 1 [] = s := ⟨_, rfl⟩
    obtain ⟨s2, hs2⟩ : ∃ s, a1.getD 2 [] = s := ⟨_, rfl⟩
    obtain ⟨s3, hs3⟩ : ∃ s, a1.getD 3 [] = s := ⟨_, rfl⟩
    obtain ⟨s4, hs4⟩ : ∃ s, a1.getD 4 [] = s := ⟨_, rfl⟩
    have HV : Hid (keysV a1 = .agg #[.string (bs s0), .string (bs s1), .string (bs s2), .string (bs s3), .string (bs s4)]) := by show keysV a1 = _; rw [← hs0, ← hs1, ← hs2, ← hs3, ← hs4]; rfl
    clear hs0 hs1 hs2 hs3 hs4
    have HS0 := Lib.hid (blk_alloc (blk_new w (.cells #[.string (bs oF), .string (bs oR), .string (bs oP), .string (bs oL), .string (bs oH)] 46)) (.cells #[.string (bs tF), .string (bs tR), .string (bs tP), .string (bs tL), .string (bs tH)] 46))
    have HT0 : Hid (((w.alloc (.cells #[.string (bs oF), .string (bs oR), .string (bs oP), .string (bs oL), .string (bs oH)] 46)).alloc (.cells #[.string (bs tF), .string (bs tR), .string (bs tP), .string (bs tL), .string (bs tH)] 46)).heap[w.heap.size + 1]? = some (.cells #[.string (bs tF), .string (bs tR), .string (bs tP), .string (bs tL), .string (bs tH)] 46 (0, 0))) := by
      have h := blk_new (w.alloc (.cells #[.string (bs oF), .string (bs oR), .string (bs oP), .string (bs oL), .string (bs oH)] 46)) (.cells #[.string (bs tF), .string (bs tR), .string (bs tP), .string (bs tL), .string (bs tH)] 46)
      rw [show (w.alloc (.cells #[.string (bs oF), .string (bs oR), .string (bs oP), .string (bs oL), .string (bs oH)] 46)).heap.size = w.heap.size + 1 by simp] at h
      exact h
    have HG0 := Lib.hid (gok_alloc (gok_alloc HG.out (.cells #[.string (bs oF), .string (bs oR), .string (bs oP), .string (bs oL), .string (bs oH)] 46)) (.cells #[.string (bs tF), .string (bs tR), .string (bs tP), .string (bs tL), .string (bs tH)] 46))
    have HW0 := Lib.hid (words_alloc (words_alloc HW.out hs (.cells #[.string (bs oF), .string (bs oR), .string (bs oP), .string (bs oL), .string (bs oH)] 46)) (gok_alloc HG.out (.cells #[.string (bs oF), .string (bs oR), .string (bs oP), .string (bs oL), .string (bs oH)] 46)).size (.cells #[.string (bs tF), .string (bs tR), .string (bs tP), .string (bs tL), .string (bs tH)] 46))
    have hb0 : Below w.heap.size w ((w.alloc (.cells #[.string (bs oF), .string (bs oR), .string (bs oP), .string (bs oL), .string (bs oH)] 46)).alloc (.cells #[.string (bs tF), .string (bs tR), .string (bs tP), .string (bs tL), .string (bs tH)] 46)) := by (repeat' (first | with_reducible exact Below.refl _ _ | with_reducible assumption | with_reducible refine below_alloc ?_ ?_ _ | with_reducible refine Below.setCell ?_ ?_ _ | with_reducible refine Below.drew ?_ | with_reducible refine below_drewN ?_ _ | with_reducible refine below_step (by assumption) ?_ ?_ | (with_reducible refine Below.trans ?_ (Below.mono (by assumption) ?_)) | exact Nat.le_refl _ | (simp; done) | (simp; omega) | omega))
    go_enter Tryz.func14, Tryz.ntmps14
    go_wp2_with fail
    generalize ((w.alloc (.cells #[.string (bs oF), .string (bs oR), .string (bs oP), .string (bs oL), .string (bs oH)] 46)).alloc (.cells #[.string (bs tF), .string (bs tR), .string (bs tP), .string (bs tL), .string (bs tH)] 46)) = w0 at *
    have fHS1a := blk_cell HS0.out
    have fHS1b := blk_free HS0.out
    have fHT1a := blk_cell HT0.out
    have fHT1b := blk_free HT0.out
    go_wp2_with fail
    refine (kSet oF oR oP oL oH tF tR tP tL tH pt loL loH ltR ltP ltH lpt _ HG0.out).mono ?_
    rintro r w1 ⟨rfl, hb1⟩
    rw [HN.out]
    simp only []
    rw [HV.out]
    have HS1 := Lib.hid (blk_below HS0.out hb1 (blk_lt HS0.out))
    have HT1 := Lib.hid (blk_below HT0.out hb1 (blk_lt HT0.out))
    have HG1 := Lib.hid (gok_below HG0.out hb1)
    have HW1 := Lib.hid (words_below HW0.out HG0.out.size hb1)
    clear fHS1a fHS1b fHT1a fHT1b
    have HS1k := Lib.hid (blk_alloc HS1.out (.cells #[.string (bs s0), .string (bs s1), .string (bs s2), .string (bs s3), .string (bs s4)] 102))
    have HT1k := Lib.hid (blk_alloc HT1.out (.cells #[.string (bs s0), .string (bs s1), .string (bs s2), .string (bs s3), .string (bs s4)] 102))
    have HG1k := Lib.hid (gok_alloc HG1.out (.cells #[.string (bs s0), .string (bs s1), .string (bs s2), .string (bs s3), .string (bs s4)] 102))
    have HW1k := Lib.hid (words_alloc HW1.out HG1.out.size (.cells #[.string (bs s0), .string (bs s1), .string (bs s2), .string (bs s3), .string (bs s4)] 102))
    have HB1_1k := Lib.hid (blk_new w1 (.cells #[.string (bs s0), .string (bs s1), .string (bs s2), .string (bs s3), .string (bs s4)] 102))
    have hb1k : Below w1.heap.size w1 (w1.alloc (.cells #[.string (bs s0), .string (bs s1), .string (bs s2), .string (bs s3), .string (bs s4)] 102)) := by (repeat' (first | with_reducible exact Below.refl _ _ | with_reducible assumption | with_reducible refine below_alloc ?_ ?_ _ | with_reducible refine Below.setCell ?_ ?_ _ | with_reducible refine Below.drew ?_ | with_reducible refine below_drewN ?_ _ | with_reducible refine below_step (by assumption) ?_ ?_ | (with_reducible refine Below.trans ?_ (Below.mono (by assumption) ?_)) | exact Nat.le_refl _ | (simp; done) | (simp; omega) | omega))
    have fHS2a := blk_cell HS1k.out
    have fHS2b := blk_free HS1k.out
    have fHT2a := blk_cell HT1k.out
    have fHT2b := blk_free HT1k.out
    go_wp2_with fail
    refine (rSet oF oR oP oL oH tF tR tP tL tH pt loL loH ltR ltP ltH lpt _).mono ?_
    rintro r w2 ⟨rfl, hb2⟩
    rw [HN.out]
    simp only []
    rw [HV.out]
    have HS2 := Lib.hid (blk_below HS1k.out hb2 (blk_lt HS1k.out))
    have HT2 := Lib.hid (blk_below HT1k.out hb2 (blk_lt HT1k.out))
    have HG2 := Lib.hid (gok_below HG1k.out hb2)
    have HW2 := Lib.hid (words_below HW1k.out HG1k.out.size hb2)
    have HB1_2 := Lib.hid (blk_below HB1_1k.out hb2 (blk_lt HB1_1k.out))
    clear fHS2a fHS2b fHT2a fHT2b
    have HS2k := Lib.hid (blk_alloc HS2.out (.cells #[.string (bs s0), .string (bs s1), .string (bs s2), .string (bs s3), .string (bs s4)] 102))
    have HT2k := Lib.hid (blk_alloc HT2.out (.cells #[.string (bs s0), .string (bs s1), .string (bs s2), .string (bs s3), .string (bs s4)] 102))
    have HG2k := Lib.hid (gok_alloc HG2.out (.cells #[.string (bs s0), .string (bs s1), .string (bs s2), .string (bs s3), .string (bs s4)] 102))
    have HW2k := Lib.hid (words_alloc HW2.out HG2.out.size (.cells #[.string (bs s0), .string (bs s1), .string (bs s2), .string (bs s3), .string (bs s4)] 102))
    have HB1_2k := Lib.hid (blk_alloc HB1_2.out (.cells #[.string (bs s0), .string (bs s1), .string (bs s2), .string (bs s3), .string (bs s4)] 102))
    have HB2_2k := Lib.hid (blk_new w2 (.cells #[.string (bs s0), .string (bs s1), .string (bs s2), .string (bs s3), .string (bs s4)] 102))
    have hb2k : Below w2.heap.size w2 (w2.alloc (.cells #[.string (bs s0), .string (bs s1), .string (bs s2), .string (bs s3), .string (bs s4)] 102)) := by (repeat' (first | with_reducible exact Below.refl _ _ | with_reducible assumption | with_reducible refine below_alloc ?_ ?_ _ | with_reducible refine Below.setCell ?_ ?_ _ | with_reducible refine Below.drew ?_ | with_reducible refine below_drewN ?_ _ | with_reducible refine below_step (by assumption) ?_ ?_ | (with_reducible refine Below.trans ?_ (Below.mono (by assumption) ?_)) | exact Nat.le_refl _ | (simp; done) | (simp; omega) | omega))
    have fHS3a := blk_cell HS2k.out
    have fHS3b := blk_free HS2k.out
    have fHT3a := blk_cell HT2k.out
    have fHT3b := blk_free HT2k.out
    go_wp2_with fail
    refine (kBind oF pt loF lpt _ HG2k.out).mono ?_
    rintro r w3 ⟨rfl, hb3⟩
    rw [HC.out]
    have HS3 := Lib.hid (blk_below HS2k.out hb3 (blk_lt HS2k.out))
    have HT3 := Lib.hid (blk_below HT2k.out hb3 (blk_lt HT2k.out))
    have HG3 := Lib.hid (gok_below HG2k.out hb3)
    have HW3 := Lib.hid (words_below HW2k.out HG2k.out.size hb3)
    have HB1_3 := Lib.hid (blk_below HB1_2k.out hb3 (blk_lt HB1_2k.out))
    have HB2_3 := Lib.hid (blk_below HB2_2k.out hb3 (blk_lt HB2_2k.out))
    clear fHS3a fHS3b fHT3a fHT3b
    have fHS4a := blk_cell HS3.out
    have fHS4b := blk_free HS3.out
    have fHT4a := blk_cell HT3.out
    have fHT4b := blk_free HT3.out
    go_wp2_with fail
    refine (rBind oF pt loF lpt _).mono ?_
    rintro r w4 ⟨rfl, hb4⟩
    rw [HC.out]
    have HS4 := Lib.hid (blk_below HS3.out hb4 (blk_lt HS3.out))
    have HT4 := Lib.hid (blk_below HT3.out hb4 (blk_lt HT3.out))
    have HG4 := Lib.hid (gok_below HG3.out hb4)
    have HW4 := Lib.hid (words_below HW3.out HG3.out.size hb4)
    have HB1_4 := Lib.hid (blk_below HB1_3.out hb4 (blk_lt HB1_3.out))
    have HB2_4 := Lib.hid (blk_below HB2_3.out hb4 (blk_lt HB2_3.out))
    clear fHS4a fHS4b fHT4a fHT4b
    have fHS5a := blk_cell HS4.out
    have fHS5b := blk_free HS4.out
    have fHT5a := blk_cell HT4.out
    have fHT5b := blk_free HT4.out
    go_wp2_with fail
    refine (kRevoke pt oF lpt loF _ HG4.out).mono ?_
    rintro r w5 ⟨rfl, hb5⟩
    rw [HP.out]
    have HS5 := Lib.hid (blk_below HS4.out hb5 (blk_lt HS4.out))
    have HT5 := Lib.hid (blk_below HT4.out hb5 (blk_lt HT4.out))
    have HG5 := Lib.hid (gok_below HG4.out hb5)
    have HW5 := Lib.hid (words_below HW4.out HG4.out.size hb5)
    have HB1_5 := Lib.hid (blk_below HB1_4.out hb5 (blk_lt HB1_4.out))
    have HB2_5 := Lib.hid (blk_below HB2_4.out hb5 (blk_lt HB2_4.out))
    clear fHS5a fHS5b fHT5a fHT5b
    have fHS6a := blk_cell HS5.out
    have fHS6b := blk_free HS5.out
    have fHT6a := blk_cell HT5.out
    have fHT6b := blk_free HT5.out
    go_wp2_with fail
    refine (rRevoke pt oF lpt loF _).mono ?_
    rintro r w6 ⟨rfl, hb6⟩
    rw [HP.out]
    have HS6 := Lib.hid (blk_below HS5.out hb6 (blk_lt HS5.out))
    have HT6 := Lib.hid (blk_below HT5.out hb6 (blk_lt HT5.out))
    have HG6 := Lib.hid (gok_below HG5.out hb6)
    have HW6 := Lib.hid (words_below HW5.out HG5.out.size hb6)
    have HB1_6 := Lib.hid (blk_below HB1_5.out hb6 (blk_lt HB1_5.out))
    have HB2_6 := Lib.hid (blk_below HB2_5.out hb6 (blk_lt HB2_5.out))
    clear fHS6a fHS6b fHT6a fHT6b
    have q1 := blk_cell HB1_6.out
    have q2 := blk_free HB1_6.out
    have q3 := blk_cell HB2_6.out
    have q4 := blk_free HB2_6.out
    have z1 := blk_lt HB1_6.out
    have z2 := blk_lt HB2_6.out
    go_wp2_with fail
    refine (lWorks _ HG6.out HW6.out).mono ?_
    rintro r w7 ⟨rfl, hb7⟩
    go_wp2
    go_ret
    exact ⟨rfl, by (repeat' (first | with_reducible exact Below.refl _ _ | with_reducible assumption | with_reducible refine below_alloc ?_ ?_ _ | with_reducible refine Below.setCell ?_ ?_ _ | with_reducible refine Below.drew ?_ | with_reducible refine below_drewN ?_ _ | with_reducible refine below_step (by assumption) ?_ ?_ | (with_reducible refine Below.trans ?_ (Below.mono (by assumption) ?_)) | exact Nat.le_refl _ | (simp; done) | (simp; omega) | omega))⟩
end Go.Proofs.YtdmfoablpdhnbaaGreatDoor
