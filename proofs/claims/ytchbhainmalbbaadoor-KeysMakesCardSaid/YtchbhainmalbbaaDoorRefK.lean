/- The reference: terms side by side. -/
import Derived.Test.YtchbhainmalbbaaDoorRefJ
namespace Go.Proofs.YtchbhainmalbbaaDoor
open Go.RowKit

set_option maxRecDepth 100000 in
set_option maxHeartbeats 2000000 in
theorem refTuple (ls : List (List UInt8)) (g o cap : Nat) (hls : ∀ x ∈ ls, x.length ≤ 9000000000000000000) (hn : ls.length ≤ 9000000000000000000) (w : World) (hg : g < w.heap.size)
    (hc : ∀ j x, ls[j]? = some x → w.cell? ⟨g, o + j, none⟩ = some (.string (bs x))) :
    Calls Tryd.prog 82 #[.slice (some ⟨g, o, none⟩) ls.length cap] w fun e w' => e = .returned (.tuple #[.string (bs (tupleT ls).1), .int .i64 (tupleT ls).2]) ∧ Below w.heap.size w w' := by
  have HC := Lib.hid hc
  clear hc
  by_cases h32 : 32 < ls.length
  · have H : Hid (tupleT ls = ([], 3)) := by show tupleT ls = _; simp [tupleT, h32]
    go_enter Tryd.func82, Tryd.ntmps82
    go_wp2_with fail
    go_ret2
    exact ⟨by rw [H.out]; rfl, by (repeat' (first | with_reducible exact Below.refl _ _ | with_reducible assumption | with_reducible refine below_alloc ?_ ?_ _ | with_reducible refine Below.setCell ?_ ?_ _ | with_reducible refine Below.drew ?_ | with_reducible refine below_drewN ?_ _ | with_reducible refine below_step (by assumption) ?_ ?_ | (with_reducible refine Below.trans ?_ (Below.mono (by assumption) ?_)) | exact Nat.le_refl _ | (simp; done) | (simp; omega) | omega))⟩
  · have hd := dec_len20 ls.length (by omega)
    go_enter Tryd.func82, Tryd.ntmps82
    go_wp2_with (go_at_call 106; refine (refDigits _ (by omega) (by omega) _).mono ?_; rintro e w1 ⟨rfl, hb1⟩; rw [Int.toNat_natCast])
    go_loopw [4, 5] (fun sv iv wr => ∃ k : Nat, k ≤ ls.length ∧ iv = .int .i64 k ∧ sv = .string (bs (84 :: (Lib.decDigits ls.length ++ 58 :: cat (ls.take k)))) ∧ Hid ((ls.take k).all right = true) ∧ Below w.heap.size w wr) (fun _ iv _ => ls.length - (intOf iv).toNat)
    case atStart => exact ⟨0, by omega, rfl, by simp [cat], rfl, hb1⟩
    case round =>
      obtain ⟨k, hk, rfl, rfl, hall, hbel⟩ := hrel
      have hfl := flat_len _ hall.out
      have hfl2 : (cat (ls.take k)).length ≤ 600000 := by rw [List.length_take] at hfl; omega
      clear hfl
      by_cases hlt : k < ls.length
      · obtain ⟨x, hx⟩ : ∃ x, ls[k]? = some x := ⟨ls[k], by simp [hlt]⟩
        have hxl := hls x (List.mem_of_getElem? hx)
        have c0 := (hbel.cell (p := ⟨g, o + k, none⟩) hg).trans (HC.out k x hx)
        have HX := Lib.hid hx
        clear hx
        cases hr : right x with
        | false =>
          have HR := Lib.hid hr
          clear hr
          go_wp2_with (go_at_call 56; refine (refRight x hxl _).mono ?_; rintro e w2 ⟨rfl, hb2⟩; rw [HR.out])
          go_ret2
          exact ⟨by rw [show tupleT ls = ([], 10) by simp [tupleT, h32, not_all ls k x HX.out HR.out]]; rfl, by (repeat' (first | with_reducible exact Below.refl _ _ | with_reducible assumption | with_reducible refine below_alloc ?_ ?_ _ | with_reducible refine Below.setCell ?_ ?_ _ | with_reducible refine Below.drew ?_ | with_reducible refine below_drewN ?_ _ | with_reducible refine below_step (by assumption) ?_ ?_ | (with_reducible refine Below.trans ?_ (Below.mono (by assumption) ?_)) | exact Nat.le_refl _ | (simp; done) | (simp; omega) | omega))⟩
        | true =>
          have hxr := right_len hr
          have HR := Lib.hid hr
          clear hr
          go_wp2_with (go_at_call 56; refine (refRight x hxl _).mono ?_; rintro e w2 ⟨rfl, hb2⟩; rw [HR.out]; have c1 := (hb2.cell (p := ⟨g, o + k, none⟩) (Nat.lt_of_lt_of_le hg hbel.size)).trans c0)
          go_roundw
          case rel => exact ⟨k + 1, by omega, by go_num, by rw [take_flat ls k x HX.out], take_all ls k x HX.out hall.out HR.out, by (repeat' (first | with_reducible exact Below.refl _ _ | with_reducible assumption | with_reducible refine below_alloc ?_ ?_ _ | with_reducible refine Below.setCell ?_ ?_ _ | with_reducible refine Below.drew ?_ | with_reducible refine below_drewN ?_ _ | with_reducible refine below_step (by assumption) ?_ ?_ | (with_reducible refine Below.trans ?_ (Below.mono (by assumption) ?_)) | exact Nat.le_refl _ | (simp; done) | (simp; omega) | omega))⟩
          case measure => (show ls.length - ((k : Int) + 1).toNat < ls.length - (k : Int).toNat); omega
      · obtain rfl : k = ls.length := by omega
        have H : Hid (tupleT ls = made (84 :: (Lib.decDigits ls.length ++ 58 :: cat ls))) := by
          show tupleT ls = _
          have := hall.out
          rw [List.take_length] at this
          simp [tupleT, h32, this]
        rw [List.take_length] at hfl2
        go_wp2_with (go_at_call 88; rw [List.take_length]; refine (refMade _ (by simp; omega) _).mono ?_; rintro e w2 ⟨rfl, hb2⟩)
        go_ret2
        exact ⟨by rw [H.out]; rfl, by (repeat' (first | with_reducible exact Below.refl _ _ | with_reducible assumption | with_reducible refine below_alloc ?_ ?_ _ | with_reducible refine Below.setCell ?_ ?_ _ | with_reducible refine Below.drew ?_ | with_reducible refine below_drewN ?_ _ | with_reducible refine below_step (by assumption) ?_ ?_ | (with_reducible refine Below.trans ?_ (Below.mono (by assumption) ?_)) | exact Nat.le_refl _ | (simp; done) | (simp; omega) | omega))⟩
end Go.Proofs.YtchbhainmalbbaaDoor
