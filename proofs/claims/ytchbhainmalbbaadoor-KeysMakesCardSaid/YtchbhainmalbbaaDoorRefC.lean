/- The reference: do the parts of a term fit its op? -/
import Derived.Test.YtchbhainmalbbaaDoorRefB
import Derived.Deep.QuietTactic
import Derived.BigQuiet
namespace Go.Proofs.YtchbhainmalbbaaDoor
open Go.RowKit

set_option maxHeartbeats 1000000 in
theorem refFitsOther (l : List UInt8) (i : Nat) (hi : i < l.length) (x0 x1 x2 x3 : Int) (kv : Value) (ks : List (List UInt8)) (hl : l.length ≤ 9000000000000000000)
    (h1 : l[i].toNat ≠ 80) (h2 : l[i].toNat ≠ 88) (h3 : l[i].toNat ≠ 87) (h4 : l[i].toNat ≠ 76) (w : World) :
    Calls Tryd.prog 113 #[.string (bs l), .int .i64 i, .agg #[.int .i64 x0, .int .i64 x1, .int .u64 x2, .int .i64 x3, kv]] w fun e w' =>
      e = .returned (.bool (fitsB l[i] ks)) ∧ Below w.heap.size w w' := by
  have H : fitsB l[i] ks = true := by
    simp only [fitsB, ← UInt8.toNat_inj, UInt8.reduceToNat]
    rw [if_neg h1, if_neg h2, if_neg h3, if_neg h4]
  rw [H]; clear H
  go_enter Tryd.func113, Tryd.ntmps113
  go_wp2
  go_ret
  exact ⟨rfl, by (repeat' (first | with_reducible exact Below.refl _ _ | with_reducible assumption | with_reducible refine below_alloc ?_ ?_ _ | with_reducible refine Below.setCell ?_ ?_ _ | with_reducible refine Below.drew ?_ | with_reducible refine below_drewN ?_ _ | with_reducible refine below_step (by assumption) ?_ ?_ | (with_reducible refine Below.trans ?_ (Below.mono (by assumption) ?_)) | exact Nat.le_refl _ | (simp; done) | (simp; omega) | omega))⟩

set_option maxHeartbeats 1000000 in
theorem refFitsOne (l : List UInt8) (i o : Nat) (hi : i < l.length) (ho : o < l.length) (x0 x1 x2 x3 : Int) (g n cap : Nat) (k : List UInt8) (ks : List (List UInt8)) (hl : l.length ≤ 9000000000000000000)
    (h1 : l[i].toNat = 80 ∨ l[i].toNat = 76) (hk : head k = l[o]) (w : World) (hn : 1 ≤ n) (hc : w.cell? ⟨g, 0, none⟩ = some (.int .i64 o)) (hg : g < w.heap.size) :
    Calls Tryd.prog 113 #[.string (bs l), .int .i64 i, .agg #[.int .i64 x0, .int .i64 x1, .int .u64 x2, .int .i64 x3, .slice (some ⟨g, 0, none⟩) n cap]] w fun e w' =>
      e = .returned (.bool (fitsB l[i] (k :: ks))) ∧ Below w.heap.size w w' := by
  have H : Hid (fitsB l[i] (k :: ks) = if l[i].toNat = 80 then decide (l[o].toNat ≠ 86 ∧ l[o].toNat ≠ 75) else pubC l[o]) := by
    show fitsB _ _ = _
    simp only [fitsB, ← UInt8.toNat_inj, UInt8.reduceToNat, List.getD_cons_zero, hk]
    rcases h1 with h | h <;> simp [h]
    rw [Bool.eq_iff_iff]; simp [← UInt8.toNat_inj]
  clear hk
  rcases h1 with h | h
  all_goals
    go_enter Tryd.func113, Tryd.ntmps113
    go_wp2_with (go_at_call 86; refine (refPublic _ _).mono ?_; rintro e w1 ⟨rfl, rfl⟩)
    all_goals
      go_ret
      refine ⟨?_, by (repeat' (first | with_reducible exact Below.refl _ _ | with_reducible assumption | with_reducible refine below_alloc ?_ ?_ _ | with_reducible refine Below.setCell ?_ ?_ _ | with_reducible refine Below.drew ?_ | with_reducible refine below_drewN ?_ _ | with_reducible refine below_step (by assumption) ?_ ?_ | (with_reducible refine Below.trans ?_ (Below.mono (by assumption) ?_)) | exact Nat.le_refl _ | (simp; done) | (simp; omega) | omega))⟩
      rw [H.out]
      first | (rw [if_pos h]; (refine congrArg (fun b : Bool => Ending.returned (.bool b)) ?_; rw [Bool.eq_iff_iff]; simp only [beq_iff_eq, beq_eq_false_iff_ne, bne_iff_ne, bne_eq_false_iff_eq, ne_eq, Bool.or_eq_true, Bool.and_eq_true, Bool.not_eq_true', decide_eq_true_eq, decide_eq_false_iff_not, Bool.or_eq_false_iff, Bool.and_eq_false_iff, eq_self, true_iff, iff_true, Bool.false_eq_true, Bool.true_eq_false, false_iff, iff_false] at *; omega)) | (rw [if_neg (by omega)]; rfl)

set_option maxHeartbeats 2000000 in
theorem refFitsTwo (l : List UInt8) (i o0 o1 o2 : Nat) (hi : i < l.length) (ho0 : o0 < o1) (ho1 : o1 < o2) (ho2 : o2 ≤ l.length) (x0 x1 x2 x3 : Int) (g n cap : Nat) (hl : l.length ≤ 9000000000000000000)
    (h1 : l[i].toNat = 88 ∨ l[i].toNat = 87) (w : World) (hn : 3 ≤ n) (hc0 : w.cell? ⟨g, 0, none⟩ = some (.int .i64 o0)) (hc1 : w.cell? ⟨g, 1, none⟩ = some (.int .i64 o1)) (hc2 : w.cell? ⟨g, 2, none⟩ = some (.int .i64 o2)) (hg : g < w.heap.size) :
    Calls Tryd.prog 113 #[.string (bs l), .int .i64 i, .agg #[.int .i64 x0, .int .i64 x1, .int .u64 x2, .int .i64 x3, .slice (some ⟨g, 0, none⟩) n cap]] w fun e w' =>
      e = .returned (.bool (fitsB l[i] [(l.drop o0).take (o1 - o0), (l.drop o1).take (o2 - o1)])) ∧ Below w.heap.size w w' := by
  have hk0 : head ((l.drop o0).take (o1 - o0)) = l[o0] := by
    rw [List.drop_eq_getElem_cons (by omega), show o1 - o0 = (o1 - o0 - 1) + 1 by omega]; rfl
  have hk1 : head ((l.drop o1).take (o2 - o1)) = l[o1] := by
    rw [List.drop_eq_getElem_cons (by omega), show o2 - o1 = (o2 - o1 - 1) + 1 by omega]; rfl
  have H : Hid (fitsB l[i] [(l.drop o0).take (o1 - o0), (l.drop o1).take (o2 - o1)] = if l[i].toNat = 88 then leB ((l.drop o0).take (o1 - o0)) ((l.drop o1).take (o2 - o1)) else pubC l[o0] && pubC l[o1]) := by
    show fitsB _ _ = _
    simp only [fitsB, ← UInt8.toNat_inj, UInt8.reduceToNat, List.getD_cons_zero, List.getD_cons_succ, hk0, hk1]
    rcases h1 with h | h <;> simp [h]
  clear hk0 hk1
  rcases h1 with h | h
  · have i0 : ((0 : Nat) : Int) ≤ o0 := by omega
    have i1 : (o0 : Int) ≤ o1 := by omega
    have i2 : (o1 : Int) ≤ o2 := by omega
    have i3 : (o2 : Int) ≤ l.length := by omega
    have i4 : (o1 : Int) ≤ l.length := by omega
    go_enter Tryd.func113, Tryd.ntmps113
    go_wp2
    go_quiet (fail)
    go_wp2
    go_ret
    refine ⟨?_, by (repeat' (first | with_reducible exact Below.refl _ _ | with_reducible assumption | with_reducible refine below_alloc ?_ ?_ _ | with_reducible refine Below.setCell ?_ ?_ _ | with_reducible refine Below.drew ?_ | with_reducible refine below_drewN ?_ _ | with_reducible refine below_step (by assumption) ?_ ?_ | (with_reducible refine Below.trans ?_ (Below.mono (by assumption) ?_)) | exact Nat.le_refl _ | (simp; done) | (simp; omega) | omega))⟩
    rw [H.out, if_pos h]
    rfl
  · cases hp : pubC l[o0]
    all_goals
      have Hp := Lib.hid hp
      clear hp
      go_enter Tryd.func113, Tryd.ntmps113
      go_wp2_with fail
      refine (refPublic _ _).mono ?_
      rintro e w1 ⟨rfl, rfl⟩
      rw [Hp.out]
      go_wp2_with (go_at_call 86; refine (refPublic _ _).mono ?_; rintro e w1 ⟨rfl, rfl⟩)
      go_ret
      refine ⟨?_, by (repeat' (first | with_reducible exact Below.refl _ _ | with_reducible assumption | with_reducible refine below_alloc ?_ ?_ _ | with_reducible refine Below.setCell ?_ ?_ _ | with_reducible refine Below.drew ?_ | with_reducible refine below_drewN ?_ _ | with_reducible refine below_step (by assumption) ?_ ?_ | (with_reducible refine Below.trans ?_ (Below.mono (by assumption) ?_)) | exact Nat.le_refl _ | (simp; done) | (simp; omega) | omega))⟩
      rw [H.out, if_neg (by omega), Hp.out]
      rfl
end Go.Proofs.YtchbhainmalbbaaDoor
