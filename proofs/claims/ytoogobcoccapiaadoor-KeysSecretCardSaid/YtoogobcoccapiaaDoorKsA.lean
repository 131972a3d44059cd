/- The laws of layer 16: the short calls. -/
import Derived.Test.YtoogobcoccapiaaDoorMKey
set_option linter.unusedSimpArgs false
set_option linter.unusedVariables false
namespace Go.Proofs.YtoogobcoccapiaaDoor
open Go.RowKit

theorem wWorksRow : ∃ l, channelT [110, 49, 59] 2 = (l, 0) ∧ l.getD 2 [] = [68, 68, 110, 49, 59, 84, 50, 58, 116, 55, 58, 99, 104, 97, 110, 110, 101, 108, 116, 49, 58, 50, 84, 50, 58, 116, 51, 58, 112, 97, 121, 116, 49, 58, 48] :=
  ⟨_, Prod.ext rfl ev_channel.1, ev_channel.2⟩

set_option maxRecDepth 100000 in
set_option maxHeartbeats 4000000 in
theorem lWorks (w : World) (hG : GOk w) (hW : WordsOk w) :
    Calls Tryd.prog 13 #[] w fun e w' => e = .returned (.bool true) ∧ Below w.heap.size w w' := by
  obtain ⟨l, hl, hl2⟩ := wWorksRow
  obtain ⟨l2, hl2'⟩ : ∃ x, l.getD 2 [] = x := ⟨_, rfl⟩
  rw [hl2'] at hl2
  have HL := Lib.hid hl
  have HL2' := Lib.hid hl2'
  have HL2 := Lib.hid hl2
  have HG := Lib.hid hG
  have HW := Lib.hid hW
  have hs := hG.size
  clear hl hl2' hl2 hG hW
  go_enter Tryd.func13, Tryd.ntmps13
  go_wp2_with fail
  refine (kNode _ (by simp) _ HG.out).mono ?_
  rintro e w1 ⟨rfl, hb1⟩
  rw [ev_node]
  have HG1 := Lib.hid (gok_below HG.out hb1)
  have HW1 := Lib.hid (words_keep HW.out fun k hk => hb1.block k (Nat.lt_of_lt_of_le hk hs))
  go_wp2_with fail
  refine (kChannel _ 2 (by omega) (by omega) (by simp) _ HG1.out HW1.out).mono ?_
  rintro e w2 ⟨rfl, hb2⟩
  rw [HL.out]
  simp only [secV]
  rw [HL2'.out, HL2.out]
  have HG2 := Lib.hid (gok_below HG1.out hb2)
  have hsz2 := hb2.size
  go_wp2_with fail
  refine (kRevoke _ _ (by simp) (by simp) _ (gok_alloc HG2.out _)).mono ?_
  rintro e w3 ⟨rfl, hb3⟩
  rw [ev_join]
  have HG3 := Lib.hid (gok_below (gok_alloc HG2.out _) hb3)
  have HS3 := Lib.hid (blk_below (blk_new w2 _) hb3 (by simp))
  go_wp2_with fail
  refine (tPub _ (by simp) _ HG3.out).mono ?_
  rintro e w4 ⟨rfl, hb4⟩
  rw [ev_pub]
  have HG4 := Lib.hid (gok_below HG3.out hb4)
  have HS4 := Lib.hid (blk_below HS3.out hb4 (blk_lt HS3.out))
  go_wp2_with fail
  refine (kCoin _ _ (by omega) (by omega) (by simp) _ HG4.out).mono ?_
  rintro e w5 ⟨rfl, hb5⟩
  rw [ev_coin]
  have HS5 := Lib.hid (blk_below HS4.out hb5 (blk_lt HS4.out))
  have f0 := blk_cell HS5.out
  have f1 := blk_free HS5.out
  go_wp2
  go_ret
  exact ⟨rfl, by (repeat' (first | with_reducible exact Below.refl _ _ | with_reducible assumption | with_reducible refine below_alloc ?_ ?_ _ | with_reducible refine Below.setCell ?_ ?_ _ | with_reducible refine Below.drew ?_ | with_reducible refine below_drewN ?_ _ | with_reducible refine below_step (by assumption) ?_ ?_ | (with_reducible refine Below.trans ?_ (Below.mono (by assumption) ?_)) | exact Nat.le_refl _ | (simp; done) | (simp; omega) | omega))⟩

theorem words_below {w w' : World} (h : WordsOk w) (hs : gN ≤ w.heap.size) (hb : Below w.heap.size w w') : WordsOk w' := words_keep h fun k hk => hb.block k (Nat.lt_of_lt_of_le hk hs)
theorem words_alloc {w : World} (h : WordsOk w) (hs : gN ≤ w.heap.size) (x : Obj) : WordsOk (w.alloc x) := words_keep h fun k hk => Below.heap_alloc w x k (Nat.lt_of_lt_of_le hk hs)
theorem and_top (n : Int) : bits .and .i64 n 1048575 = n % 1048576 := by
  have h1 : (BitVec.ofInt 64 1048575).toNat = 2 ^ 20 - 1 := by decide
  have key : (BitVec.ofInt 64 n &&& BitVec.ofInt 64 1048575).toNat = (n % ((2 ^ 64 : Nat) : Int)).toNat % 2 ^ 20 := by
    rw [BitVec.toNat_and, BitVec.toNat_ofInt, h1, Nat.and_two_pow_sub_one_eq_mod]
  show IntKind.i64.wrap ((BitVec.ofInt 64 n &&& BitVec.ofInt 64 1048575).toNat : Nat) = n % 1048576
  rw [key, IntKind.wrap_i64]
  omega
end Go.Proofs.YtoogobcoccapiaaDoor
