/- The laws of layer 16: what each computes is true. -/
import Derived.Test.YtdmfoablpdhnbaaGreatDoorMKey
import Derived.Test.YtdmfoablpdhnbaaGreatDoorMRefK
set_option linter.unusedSimpArgs false
set_option linter.unusedVariables false
namespace Go.Proofs.YtdmfoablpdhnbaaGreatDoor
open Go.RowKit

theorem wWorksRow : ∃ l, channelT [110, 49, 59] 2 = (l, 0) ∧ l.getD 2 [] = [68, 68, 110, 49, 59, 84, 50, 58, 116, 55, 58, 99, 104, 97, 110, 110, 101, 108, 116, 49, 58, 50, 84, 50, 58, 116, 51, 58, 112, 97, 121, 116, 49, 58, 48] :=
  ⟨_, Prod.ext rfl ev_channel.1, ev_channel.2⟩

set_option maxRecDepth 100000 in
set_option maxHeartbeats 4000000 in
theorem lWorks (w : World) (hG : GOk w) (hW : WordsOk w) :
    Calls Tryz.prog 18 #[] w fun e w' => e = .returned (.bool true) ∧ Below w.heap.size w w' := by
  obtain ⟨l, hl, hl2⟩ := wWorksRow
  obtain ⟨l2, hl2'⟩ : ∃ x, l.getD 2 [] = x := ⟨_, rfl⟩
  rw [hl2'] at hl2
  have HL := Lib.hid hl
  have HL2' := Lib.hid hl2'
  have HL2 := Lib.hid hl2
  have HG := Lib.hid hG
  have HW := Lib.hid hW
  have hs := hG.size
  clear hl hl2' hl2 hG hW
  go_enter Tryz.func18, Tryz.ntmps18
  go_wp2_with fail
  refine (kNode _ (by simp) _ HG.out).mono ?_
  rintro e w1 ⟨rfl, hb1⟩
  rw [ev_node]
  have HG1 := Lib.hid (gok_below HG.out hb1)
  have HW1 := Lib.hid (words_keep HW.out fun k hk => hb1.block k (Nat.lt_of_lt_of_le hk hs))
  go_wp2_with fail
  refine (kChannel _ 2 (by omega) (by omega) (by simp) _ HG1.out HW1.out).mono ?_
  rintro e w2 ⟨rfl, hb2⟩
  rw [HL.out]
  simp only [secV]
  rw [HL2'.out, HL2.out]
  have HG2 := Lib.hid (gok_below HG1.out hb2)
  have hsz2 := hb2.size
  go_wp2_with fail
  refine (kRevoke _ _ (by simp) (by simp) _ (gok_alloc HG2.out _)).mono ?_
  rintro e w3 ⟨rfl, hb3⟩
  rw [ev_join]
  have HG3 := Lib.hid (gok_below (gok_alloc HG2.out _) hb3)
  have HS3 := Lib.hid (blk_below (blk_new w2 _) hb3 (by simp))
  go_wp2_with fail
  refine (tPub _ (by simp) _ HG3.out).mono ?_
  rintro e w4 ⟨rfl, hb4⟩
  rw [ev_pub]
  have HG4 := Lib.hid (gok_below HG3.out hb4)
  have HS4 := Lib.hid (blk_below HS3.out hb4 (blk_lt HS3.out))
  go_wp2_with fail
  refine (kCoin _ _ (by omega) (by omega) (by simp) _ HG4.out).mono ?_
  rintro e w5 ⟨rfl, hb5⟩
  rw [ev_coin]
  have HS5 := Lib.hid (blk_below HS4.out hb5 (blk_lt HS4.out))
  have f0 := blk_cell HS5.out
  have f1 := blk_free HS5.out
  go_wp2
  go_ret
  exact ⟨rfl, by (repeat' (first | with_reducible exact Below.refl _ _ | with_reducible assumption | with_reducible refine below_alloc ?_ ?_ _ | with_reducible refine Below.setCell ?_ ?_ _ | with_reducible refine Below.drew ?_ | with_reducible refine below_drewN ?_ _ | with_reducible refine below_step (by assumption) ?_ ?_ | (with_reducible refine Below.trans ?_ (Below.mono (by assumption) ?_)) | exact Nat.le_refl _ | (simp; done) | (simp; omega) | omega))⟩

set_option maxRecDepth 100000 in
set_option maxHeartbeats 4000000 in
theorem lKeysMakes (root : List UInt8) (n : Int) (h0 : -9223372036854775808 ≤ n) (h1 : n ≤ 9223372036854775807) (hrw : root.length ≤ 9223372036854775807) (w : World) (hG : GOk w) (hW : WordsOk w) :
    Calls Tryz.prog 12 #[.string (bs root), .int .i64 n] w fun e w' => e = .returned (.bool true) ∧ Below w.heap.size w w' := by
  by_cases h2 : (20000 : Int) < root.length
  · go_enter Tryz.func12, Tryz.ntmps12
    go_wp2
    go_ret
    exact ⟨rfl, by (repeat' (first | with_reducible exact Below.refl _ _ | with_reducible assumption | with_reducible refine below_alloc ?_ ?_ _ | with_reducible refine Below.setCell ?_ ?_ _ | with_reducible refine Below.drew ?_ | with_reducible refine below_drewN ?_ _ | with_reducible refine below_step (by assumption) ?_ ?_ | (with_reducible refine Below.trans ?_ (Below.mono (by assumption) ?_)) | exact Nat.le_refl _ | (simp; done) | (simp; omega) | omega))⟩
  · have hr : root.length ≤ 9000000000000000000 := by omega
    have HG := Lib.hid hG
    have HW := Lib.hid hW
    have hs := hG.size
    clear hG hW
    obtain ⟨a1, e1, hn⟩ : ∃ a e, nodeT root = (a, e) := ⟨_, _, rfl⟩
    obtain ⟨a2, e2, hc⟩ : ∃ a e, coinT root n = (a, e) := ⟨_, _, rfl⟩
    obtain ⟨a3, e3, hch⟩ : ∃ a e, channelT root n = (a, e) := ⟨_, _, rfl⟩
    have HN := Lib.hid hn
    have HC := Lib.hid hc
    have HCH := Lib.hid hch
    clear hn hc hch
    obtain ⟨s0, hs0⟩ : ∃ s, a3.getD 0 [] = s := ⟨_, rfl⟩
    obtain ⟨s1, hs1⟩ : ∃ s, a3.getD 1 [] = s := ⟨_, rfl⟩
    obtain ⟨s2, hs2⟩ : ∃ s, a3.getD 2 [] = s := ⟨_, rfl⟩
    obtain ⟨s3, hs3⟩ : ∃ s, a3.getD 3 [] = s := ⟨_, rfl⟩
    obtain ⟨s4, hs4⟩ : ∃ s, a3.getD 4 [] = s := ⟨_, rfl⟩
    obtain ⟨s5, hs5⟩ : ∃ s, a3.getD 5 [] = s := ⟨_, rfl⟩
    have HV : Hid (secV a3 = .agg #[.string (bs s0), .string (bs s1), .string (bs s2), .string (bs s3), .string (bs s4), .string (bs s5)]) := by show secV a3 = _; rw [← hs0, ← hs1, ← hs2, ← hs3, ← hs4, ← hs5]; rfl
    clear hs0 hs1 hs2 hs3 hs4 hs5
    go_enter Tryz.func12, Tryz.ntmps12
    go_wp2_with fail
    refine (kNode _ hr _ HG.out).mono ?_
    rintro e w1 ⟨rfl, hb1⟩
    rw [HN.out]
    have HG1 := Lib.hid (gok_below HG.out hb1)
    have HW1 := Lib.hid (words_keep HW.out fun k hk => hb1.block k (Nat.lt_of_lt_of_le hk hs))
    have hs1 := HG1.out.size
    go_wp2_with fail
    refine (rNode _ hr _).mono ?_
    rintro e w2 ⟨rfl, hb2⟩
    rw [HN.out]
    have HG2 := Lib.hid (gok_below HG1.out hb2)
    have HW2 := Lib.hid (words_keep HW1.out fun k hk => hb2.block k (Nat.lt_of_lt_of_le hk hs1))
    have hs2 := HG2.out.size
    go_wp2_with fail
    refine (kCoin _ n h0 h1 hr _ HG2.out).mono ?_
    rintro e w3 ⟨rfl, hb3⟩
    rw [HC.out]
    have HG3 := Lib.hid (gok_below HG2.out hb3)
    have HW3 := Lib.hid (words_keep HW2.out fun k hk => hb3.block k (Nat.lt_of_lt_of_le hk hs2))
    have hs3 := HG3.out.size
    go_wp2_with fail
    refine (rCoin _ n h0 h1 hr _).mono ?_
    rintro e w4 ⟨rfl, hb4⟩
    rw [HC.out]
    have HG4 := Lib.hid (gok_below HG3.out hb4)
    have HW4 := Lib.hid (words_keep HW3.out fun k hk => hb4.block k (Nat.lt_of_lt_of_le hk hs3))
    have hs4 := HG4.out.size
    go_wp2_with fail
    refine (kChannel _ n h0 h1 hr _ HG4.out HW4.out).mono ?_
    rintro e w5 ⟨rfl, hb5⟩
    rw [HCH.out]
    simp only []
    rw [HV.out]
    have HG5 := Lib.hid (gok_below HG4.out hb5)
    have HW5 := Lib.hid (words_keep HW4.out fun k hk => hb5.block k (Nat.lt_of_lt_of_le hk hs4))
    have hs5 := HG5.out.size
    go_wp2_with fail
    refine (rChannel _ n h0 h1 hr _).mono ?_
    rintro e w6 ⟨rfl, hb6⟩
    rw [HCH.out]
    simp only []
    rw [HV.out]
    have HA6 := Lib.hid (blk_below (blk_new w5 _) hb6 (by simp))
    have HG6 := Lib.hid (gok_below (gok_alloc HG5.out _) hb6)
    have HW6 := Lib.hid (words_keep HW5.out fun k hk => (hb6.block k (by simp; omega)).trans (Below.heap_alloc w5 _ k (by omega)))
    have hs6 := HG6.out.size
    have f0 := blk_cell HA6.out
    have f1 := blk_free HA6.out
    have hsz := blk_lt HA6.out
    go_wp2_with fail
    refine (lWorks _ (gok_alloc HG6.out _) (words_keep HW6.out fun k hk => Below.heap_alloc w6 _ k (by omega))).mono ?_
    rintro e w7 ⟨rfl, hb7⟩
    go_wp2
    go_ret
    exact ⟨rfl, by (repeat' (first | with_reducible exact Below.refl _ _ | with_reducible assumption | with_reducible refine below_alloc ?_ ?_ _ | with_reducible refine Below.setCell ?_ ?_ _ | with_reducible refine Below.drew ?_ | with_reducible refine below_drewN ?_ _ | with_reducible refine below_step (by assumption) ?_ ?_ | (with_reducible refine Below.trans ?_ (Below.mono (by assumption) ?_)) | exact Nat.le_refl _ | (simp; done) | (simp; omega) | omega))⟩
end Go.Proofs.YtdmfoablpdhnbaaGreatDoor
