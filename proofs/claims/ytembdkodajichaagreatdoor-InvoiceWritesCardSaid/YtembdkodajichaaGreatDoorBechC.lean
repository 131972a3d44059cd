/- The program's bech: heads. -/
import Derived.Test.YtembdkodajichaaGreatDoorBechB
import Derived.Test.YtembdkodajichaaGreatDoorShelfI
import Derived.Lib.DecodeN
set_option maxRecDepth 100000
set_option maxHeartbeats 1000000
set_option linter.unusedSimpArgs false
set_option linter.unusedVariables false
namespace Go.Proofs.YtembdkodajichaaGreatDoor
open Go.RowKit
theorem decodeU_low (s : ByteArray) (i : Nat) (h : (s.get! i).toNat < 128) : Utf8.decode s i = ((s.get! i).toNat, 1) := by
 rw [Lib.decode_at]
 unfold Lib.decodeN
 rw [if_pos h]
theorem decodeU_high (s : ByteArray) (i : Nat) (h : ¬ (s.get! i).toNat < 128) : 128 ≤ (Utf8.decode s i).1 := by
 rw [Lib.decode_at]
 unfold Lib.decodeN
 rw [if_neg h]
 repeat' split
 all_goals first | omega | (simp only; omega)
theorem bsU_get (l : List UInt8) (i : Nat) (h : i < l.length) : (bs l).get! i = l[i] := by
 show l.toArray[i]! = l[i]
 simp [h]
def badR (r : Nat) : Bool := decide (r < 33) || decide (126 < r) || (decide (65 ≤ r) && decide (r ≤ 90))
theorem badR_hrp (c : UInt8) : badR c.toNat = !(hrpC c) := by
 unfold badR hrpC isUp
 rw [Bool.eq_iff_iff]
 simp only [Bool.or_eq_true, Bool.and_eq_true, decide_eq_true_eq, Bool.not_eq_true', Bool.and_eq_false_iff, decide_eq_false_iff_not, Bool.not_eq_false', decide_eq_true_eq]
 omega
theorem idxR_any (p : Nat → Bool) (hp : ∀ r, 128 ≤ r → p r = true) (l : List UInt8) : ∀ (f pos : Nat), l.length ≤ pos + f → decide (0 ≤ Lib.idxFuncFrom p true (bs l) f pos) = (l.drop pos).any (fun c => p c.toNat)
 | 0, pos, h => by
   rw [List.drop_of_length_le om_]
   simp [Lib.idxFuncFrom]
 | f + 1, pos, h => by
   rw [Lib.idxFuncFrom]
   by_cases hpos : pos < (bs l).size
   · rw [if_pos hpos]
     rw [bs_size] at hpos
     rw [List.drop_eq_getElem_cons hpos, List.any_cons]
     have e := bsU_get l pos hpos
     by_cases hb : l[pos].toNat < 128
     · have hd := decodeU_low (bs l) pos (by rw [e]; exact hb)
       rw [hd, e]
       simp only
       cases hc : p l[pos].toNat with
       | true => simp
       | false =>
         simp only [Bool.false_eq_true, if_false, Bool.false_or]
         exact idxR_any p hp l f (pos + 1) om_
     · have hd := decodeU_high (bs l) pos (by rw [e]; exact hb)
       have h1 := hp _ hd
       have h2 := hp l[pos].toNat om_
       rw [h2]
       simp [h1]
   · rw [if_neg hpos]
     rw [bs_size] at hpos
     rw [List.drop_of_length_le om_]
     simp
theorem idxR_hrp (l : List UInt8) : decide (0 ≤ Lib.idxFunc badR true (bs l)) = !(l.all hrpC) := by
 unfold Lib.idxFunc
 rw [idxR_any badR (fun r hr => by simp [badR]; omega) l _ 0 (by rw [bs_size]; omega), List.drop_zero, List.all_eq_not_any_not, Bool.not_not]
 congr 1
 funext c
 rw [badR_hrp]
theorem bBadC (r : Nat) (w : World) : Calls Tryz.prog 82 #[.int .i32 r] w fun e w' => e = .returned (.bool (badR r)) ∧ w = w' := by
 by_cases h1 : r < 33
 · have H : Hid (badR r = true) := Lib.hid (by simp [badR, h1])
   have b1 : decide ((r : Int) < 33) = true := by simp; omega
   clear h1
   go_enter Tryz.func82, Tryz.ntmps82
   go_wp2
   go_ret
   exact ⟨by first | (rw [H.out]; done) | (rw [H.out]; rfl), rfl⟩
 · have b1 : decide ((r : Int) < 33) = false := by simp; omega
   by_cases h2 : 126 < r
   · have H : Hid (badR r = true) := Lib.hid (by simp [badR, h2])
     have b2 : decide (126 < (r : Int)) = true := by simp; omega
     clear h1 h2
     go_enter Tryz.func82, Tryz.ntmps82
     go_wp2
     go_ret
     exact ⟨by first | (rw [H.out]; done) | (rw [H.out]; rfl), rfl⟩
   · have b2 : decide (126 < (r : Int)) = false := by simp; omega
     by_cases h3 : 65 ≤ r
     · have b3 : decide (65 ≤ (r : Int)) = true := by simp; omega
       by_cases h4 : r ≤ 90
       · have H : Hid (badR r = true) := Lib.hid (by simp [badR, h3, h4])
         have b4 : decide ((r : Int) ≤ 90) = true := by simp; omega
         clear h1 h2 h3 h4
         go_enter Tryz.func82, Tryz.ntmps82
         go_wp2
         go_ret
         exact ⟨by first | (rw [H.out]; done) | (rw [H.out]; rfl), rfl⟩
       · have H : Hid (badR r = false) := Lib.hid (by simp [badR, h1, h2, h4])
         have b4 : decide ((r : Int) ≤ 90) = false := by simp; omega
         clear h1 h2 h3 h4
         go_enter Tryz.func82, Tryz.ntmps82
         go_wp2
         go_ret
         exact ⟨by first | (rw [H.out]; done) | (rw [H.out]; rfl), rfl⟩
     · have b3 : decide (65 ≤ (r : Int)) = false := by simp; omega
       have H : Hid (badR r = false) := Lib.hid (by simp [badR, h1, h2, h3])
       clear h1 h2 h3
       go_enter Tryz.func82, Tryz.ntmps82
       go_wp2
       go_ret
       exact ⟨by first | (rw [H.out]; done) | (rw [H.out]; rfl), rfl⟩
theorem bBads (l : List UInt8) (w : World) :
  Calls Tryz.prog 81 #[.string (bs l), .func (.func 82) #[] #[]] w fun e w' => ∃ I : Int, e = .returned (.int .i64 I) ∧ Hid (decide (0 ≤ I) = !(l.all hrpC)) ∧ Below w.heap.size w w' := by
 refine (Tryz.strings_IndexFunc_runes 82 #[] (fun _ _ => by kernel_rfl) badR (bs l) w (fun W x _ _ => (bBadC x W).mono fun e w' ⟨he, hw⟩ => ⟨he, 0, by rw [← hw]; rfl⟩)).mono ?_
 rintro e w' ⟨rfl, hb⟩
 exact ⟨_, rfl, Lib.hid (idxR_hrp l), hb⟩
end Go.Proofs.YtembdkodajichaaGreatDoor
