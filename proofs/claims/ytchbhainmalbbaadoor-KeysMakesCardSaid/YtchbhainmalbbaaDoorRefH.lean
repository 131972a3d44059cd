/- The reference: right terms, and what is made of them. -/
import Derived.Test.YtchbhainmalbbaaDoorRefG
namespace Go.Proofs.YtchbhainmalbbaaDoor
open Go.RowKit

theorem fieldEnd (a b c d : Int) (e : Value) (w : World) : (Instr.field 114 (.agg #[.int .i64 a, .int .i64 b, .int .u64 c, .int .i64 d, e]) 0).run Tryd.prog w = .ok (.int .i64 a) w := by kernel_rfl

set_option maxRecDepth 100000 in
set_option maxHeartbeats 1000000 in
theorem refRight (l : List UInt8) (hl : l.length ≤ 9000000000000000000) (w : World) :
    Calls Tryd.prog 56 #[.string (bs l)] w fun e w' => e = .returned (.bool (right l)) ∧ Below w.heap.size w w' := by
  by_cases h : l.length ≤ 16384
  · cases hr : rd 64 l with
    | none =>
      have H : Hid (right l = false) := by show right l = false; simp [right, rt, h, hr]
      have kf := fieldEnd
      have HR := Lib.hid hr
      clear hr
      go_enter Tryd.func56, Tryd.ntmps56
      go_wp2_with (go_at_call 87; refine (refReadAll l hl 64 (by omega) _ _ _ (by omega) (by omega) rfl).mono ?_; rintro e w1 hp; rw [show (0 : Int).toNat = 0 from rfl, List.drop_zero, HR.out] at hp; obtain ⟨v1, v2, v3, rfl, hb1⟩ := hp)
      go_ret
      exact ⟨by rw [H.out]; first | rfl | (refine congrArg (fun b : Bool => Ending.returned (.bool b)) ?_; rw [Bool.eq_iff_iff]; simp only [beq_iff_eq, beq_eq_false_iff_ne, bne_iff_ne, bne_eq_false_iff_eq, ne_eq, Bool.or_eq_true, Bool.and_eq_true, Bool.not_eq_true', decide_eq_true_eq, decide_eq_false_iff_not, Bool.or_eq_false_iff, Bool.and_eq_false_iff, eq_self, true_iff, iff_true, Bool.false_eq_true, Bool.true_eq_false, false_iff, iff_false] at *; omega), by (repeat' (first | with_reducible exact Below.refl _ _ | with_reducible assumption | with_reducible refine below_alloc ?_ ?_ _ | with_reducible refine Below.setCell ?_ ?_ _ | with_reducible refine Below.drew ?_ | with_reducible refine below_drewN ?_ _ | with_reducible refine below_step (by assumption) ?_ ?_ | (with_reducible refine Below.trans ?_ (Below.mono (by assumption) ?_)) | exact Nat.le_refl _ | (simp; done) | (simp; omega) | omega))⟩
    | some x =>
      have H : Hid (right l = decide (x.len = l.length)) := by
        show right l = _
        simp only [right, rt, h, hr, if_true]
        split
        · simp [*]
        · simp [*]
      have kf := fieldEnd
      have HR := Lib.hid hr
      clear hr
      go_enter Tryd.func56, Tryd.ntmps56
      go_wp2_with (go_at_call 87; refine (refReadAll l hl 64 (by omega) _ _ _ (by omega) (by omega) rfl).mono ?_; rintro e w1 hp; rw [show (0 : Int).toNat = 0 from rfl, List.drop_zero, HR.out] at hp; obtain ⟨xa, xn, xc, rfl, _, hb1⟩ := hp)
      go_ret
      exact ⟨by rw [H.out]; first | rfl | (refine congrArg (fun b : Bool => Ending.returned (.bool b)) ?_; rw [Bool.eq_iff_iff]; simp only [beq_iff_eq, beq_eq_false_iff_ne, bne_iff_ne, bne_eq_false_iff_eq, ne_eq, Bool.or_eq_true, Bool.and_eq_true, Bool.not_eq_true', decide_eq_true_eq, decide_eq_false_iff_not, Bool.or_eq_false_iff, Bool.and_eq_false_iff, eq_self, true_iff, iff_true, Bool.false_eq_true, Bool.true_eq_false, false_iff, iff_false] at *; omega), by (repeat' (first | with_reducible exact Below.refl _ _ | with_reducible assumption | with_reducible refine below_alloc ?_ ?_ _ | with_reducible refine Below.setCell ?_ ?_ _ | with_reducible refine Below.drew ?_ | with_reducible refine below_drewN ?_ _ | with_reducible refine below_step (by assumption) ?_ ?_ | (with_reducible refine Below.trans ?_ (Below.mono (by assumption) ?_)) | exact Nat.le_refl _ | (simp; done) | (simp; omega) | omega))⟩
  · have H : Hid (right l = false) := by show right l = false; simp [right, rt, h]
    go_enter Tryd.func56, Tryd.ntmps56
    go_wp2_with fail
    go_ret
    exact ⟨by rw [H.out]; first | rfl | (refine congrArg (fun b : Bool => Ending.returned (.bool b)) ?_; rw [Bool.eq_iff_iff]; simp only [beq_iff_eq, beq_eq_false_iff_ne, bne_iff_ne, bne_eq_false_iff_eq, ne_eq, Bool.or_eq_true, Bool.and_eq_true, Bool.not_eq_true', decide_eq_true_eq, decide_eq_false_iff_not, Bool.or_eq_false_iff, Bool.and_eq_false_iff, eq_self, true_iff, iff_true, Bool.false_eq_true, Bool.true_eq_false, false_iff, iff_false] at *; omega), by (repeat' (first | with_reducible exact Below.refl _ _ | with_reducible assumption | with_reducible refine below_alloc ?_ ?_ _ | with_reducible refine Below.setCell ?_ ?_ _ | with_reducible refine Below.drew ?_ | with_reducible refine below_drewN ?_ _ | with_reducible refine below_step (by assumption) ?_ ?_ | (with_reducible refine Below.trans ?_ (Below.mono (by assumption) ?_)) | exact Nat.le_refl _ | (simp; done) | (simp; omega) | omega))⟩

set_option maxRecDepth 100000 in
set_option maxHeartbeats 1000000 in
theorem refMade (l : List UInt8) (hl : l.length ≤ 9000000000000000000) (w : World) :
    Calls Tryd.prog 88 #[.string (bs l)] w fun e w' => e = .returned (.tuple #[.string (bs (made l).1), .int .i64 (made l).2]) ∧ Below w.heap.size w w' := by
  cases h : right l with
  | true =>
    have H : Hid (made l = (l, 0)) := by show made l = _; simp [made, h]
    have HR := Lib.hid h
    clear h
    go_enter Tryd.func88, Tryd.ntmps88
    go_wp2_with (go_at_call 56; refine (refRight l hl _).mono ?_; rintro e w1 ⟨rfl, hb1⟩; rw [HR.out])
    go_ret2
    exact ⟨by rw [H.out]; rfl, by (repeat' (first | with_reducible exact Below.refl _ _ | with_reducible assumption | with_reducible refine below_alloc ?_ ?_ _ | with_reducible refine Below.setCell ?_ ?_ _ | with_reducible refine Below.drew ?_ | with_reducible refine below_drewN ?_ _ | with_reducible refine below_step (by assumption) ?_ ?_ | (with_reducible refine Below.trans ?_ (Below.mono (by assumption) ?_)) | exact Nat.le_refl _ | (simp; done) | (simp; omega) | omega))⟩
  | false =>
    have H : Hid (made l = ([], 3)) := by show made l = _; simp [made, h]
    have HR := Lib.hid h
    clear h
    go_enter Tryd.func88, Tryd.ntmps88
    go_wp2_with (go_at_call 56; refine (refRight l hl _).mono ?_; rintro e w1 ⟨rfl, hb1⟩; rw [HR.out])
    go_ret2
    exact ⟨by rw [H.out]; rfl, by (repeat' (first | with_reducible exact Below.refl _ _ | with_reducible assumption | with_reducible refine below_alloc ?_ ?_ _ | with_reducible refine Below.setCell ?_ ?_ _ | with_reducible refine Below.drew ?_ | with_reducible refine below_drewN ?_ _ | with_reducible refine below_step (by assumption) ?_ ?_ | (with_reducible refine Below.trans ?_ (Below.mono (by assumption) ?_)) | exact Nat.le_refl _ | (simp; done) | (simp; omega) | omega))⟩

set_option maxRecDepth 100000 in
set_option maxHeartbeats 1000000 in
theorem refText (l : List UInt8) (hl : l.length ≤ 9000000000000000000) (w : World) :
    Calls Tryd.prog 80 #[.string (bs l)] w fun e w' => e = .returned (.tuple #[.string (bs (textT l).1), .int .i64 (textT l).2]) ∧ Below w.heap.size w w' := by
  by_cases h : 4096 < l.length
  · have H : Hid (textT l = ([], 3)) := by show textT l = _; simp [textT, h]
    go_enter Tryd.func80, Tryd.ntmps80
    go_wp2_with fail
    go_ret2
    exact ⟨by rw [H.out]; rfl, by (repeat' (first | with_reducible exact Below.refl _ _ | with_reducible assumption | with_reducible refine below_alloc ?_ ?_ _ | with_reducible refine Below.setCell ?_ ?_ _ | with_reducible refine Below.drew ?_ | with_reducible refine below_drewN ?_ _ | with_reducible refine below_step (by assumption) ?_ ?_ | (with_reducible refine Below.trans ?_ (Below.mono (by assumption) ?_)) | exact Nat.le_refl _ | (simp; done) | (simp; omega) | omega))⟩
  · have H : Hid (textT l = (116 :: (Lib.decDigits l.length ++ 58 :: l), 0)) := by show textT l = _; simp [textT, h]
    have hd := dec_len20 l.length (by omega)
    go_enter Tryd.func80, Tryd.ntmps80
    go_wp2_with (go_at_call 106; refine (refDigits _ (by omega) (by omega) _).mono ?_; rintro e w1 ⟨rfl, hb1⟩; rw [Int.toNat_natCast])
    go_ret2
    refine ⟨?_, by (repeat' (first | with_reducible exact Below.refl _ _ | with_reducible assumption | with_reducible refine below_alloc ?_ ?_ _ | with_reducible refine Below.setCell ?_ ?_ _ | with_reducible refine Below.drew ?_ | with_reducible refine below_drewN ?_ _ | with_reducible refine below_step (by assumption) ?_ ?_ | (with_reducible refine Below.trans ?_ (Below.mono (by assumption) ?_)) | exact Nat.le_refl _ | (simp; done) | (simp; omega) | omega))⟩
    rw [H.out]
    simp

set_option maxRecDepth 100000 in
set_option maxHeartbeats 2000000 in
theorem refTwo (c : UInt8) (x y : List UInt8) (hlx : x.length ≤ 9000000000000000000) (hly : y.length ≤ 9000000000000000000) (w : World) :
    Calls Tryd.prog 58 #[.int .u8 c.toNat, .string (bs x), .string (bs y)] w fun e w' => e = .returned (.tuple #[.string (bs (twoT c x y).1), .int .i64 (twoT c x y).2]) ∧ Below w.heap.size w w' := by
  have kc := fun (w : World) => run_conv1 (P := Tryd.prog) w 116 9 5 (c.toNat : Int) Tryd.underlying116 Tryd.underlying5 Tryd.underlying9 (by omega) (by have := c.toNat_lt; omega)
  cases h : right x with
  | false =>
    have H : Hid (twoT c x y = ([], 10)) := by show twoT c x y = _; simp [twoT, h]
    have HR := Lib.hid h
    clear h
    go_enter Tryd.func58, Tryd.ntmps58
    go_wp2_with (go_at_call 56; refine (refRight x hlx _).mono ?_; rintro e w1 ⟨rfl, hb1⟩; rw [HR.out])
    go_ret2
    exact ⟨by rw [H.out]; rfl, by (repeat' (first | with_reducible exact Below.refl _ _ | with_reducible assumption | with_reducible refine below_alloc ?_ ?_ _ | with_reducible refine Below.setCell ?_ ?_ _ | with_reducible refine Below.drew ?_ | with_reducible refine below_drewN ?_ _ | with_reducible refine below_step (by assumption) ?_ ?_ | (with_reducible refine Below.trans ?_ (Below.mono (by assumption) ?_)) | exact Nat.le_refl _ | (simp; done) | (simp; omega) | omega))⟩
  | true =>
    have hx := right_len h
    cases h2 : right y with
    | false =>
      have H : Hid (twoT c x y = ([], 10)) := by show twoT c x y = _; simp [twoT, h, h2]
      have HR := Lib.hid h
      have HR2 := Lib.hid h2
      clear h h2
      go_enter Tryd.func58, Tryd.ntmps58
      go_wp2_with fail
      refine (refRight x hlx _).mono ?_
      rintro e w1 ⟨rfl, hb1⟩
      rw [HR.out]
      go_wp2_with fail
      refine (refRight y hly _).mono ?_
      rintro e w2 ⟨rfl, hb2⟩
      rw [HR2.out]
      go_wp2_with fail
      go_ret2
      exact ⟨by rw [H.out]; rfl, by (repeat' (first | with_reducible exact Below.refl _ _ | with_reducible assumption | with_reducible refine below_alloc ?_ ?_ _ | with_reducible refine Below.setCell ?_ ?_ _ | with_reducible refine Below.drew ?_ | with_reducible refine below_drewN ?_ _ | with_reducible refine below_step (by assumption) ?_ ?_ | (with_reducible refine Below.trans ?_ (Below.mono (by assumption) ?_)) | exact Nat.le_refl _ | (simp; done) | (simp; omega) | omega))⟩
    | true =>
      have H : Hid (twoT c x y = made (c :: (x ++ y))) := by show twoT c x y = _; simp [twoT, h, h2]
      have hy := right_len h2
      have HR := Lib.hid h
      have HR2 := Lib.hid h2
      clear h h2
      go_enter Tryd.func58, Tryd.ntmps58
      go_wp2_with fail
      refine (refRight x hlx _).mono ?_
      rintro e w1 ⟨rfl, hb1⟩
      rw [HR.out]
      go_wp2_with fail
      refine (refRight y hly _).mono ?_
      rintro e w2 ⟨rfl, hb2⟩
      rw [HR2.out]
      go_wp2_with fail
      refine (refMade (c :: (x ++ y)) (by simp; omega) _).mono ?_
      rintro e w3 ⟨rfl, hb3⟩
      go_wp2_with fail
      go_ret2
      exact ⟨by rw [H.out]; rfl, by (repeat' (first | with_reducible exact Below.refl _ _ | with_reducible assumption | with_reducible refine below_alloc ?_ ?_ _ | with_reducible refine Below.setCell ?_ ?_ _ | with_reducible refine Below.drew ?_ | with_reducible refine below_drewN ?_ _ | with_reducible refine below_step (by assumption) ?_ ?_ | (with_reducible refine Below.trans ?_ (Below.mono (by assumption) ?_)) | exact Nat.le_refl _ | (simp; done) | (simp; omega) | omega))⟩
end Go.Proofs.YtchbhainmalbbaaDoor
