/- The program's reader of terms: do the parts fit the op? how the rest is read. -/
import Derived.Test.YtchbhainmalbbaaDoorTermT
namespace Go.Proofs.YtchbhainmalbbaaDoor
open Go.RowKit

set_option maxHeartbeats 400000 in
theorem tPublic (c : UInt8) (r : List UInt8) (w : World) :
    Calls Tryd.prog 83 #[.string (bs (c :: r))] w fun e w' => e = .returned (.bool (pubC c)) ∧ w = w' := by
  have H := Lib.hid (pubC_nat c)
  have hr0 : (0 : Int) ≤ (r.length : Int) := by omega
  go_enter Tryd.func83, Tryd.ntmps83
  go_wp2
  all_goals
    go_ret
    refine ⟨?_, rfl⟩
    rw [H.out]
    (refine congrArg (fun b : Bool => Ending.returned (.bool b)) ?_; rw [Bool.eq_iff_iff]; simp only [beq_iff_eq, beq_eq_false_iff_ne, bne_iff_ne, bne_eq_false_iff_eq, ne_eq, Bool.or_eq_true, Bool.and_eq_true, Bool.not_eq_true', decide_eq_true_eq, decide_eq_false_iff_not, Bool.or_eq_false_iff, Bool.and_eq_false_iff, eq_self, true_iff, iff_true, Bool.false_eq_true, Bool.true_eq_false, false_iff, iff_false] at *; omega)

set_option maxRecDepth 100000 in
set_option maxHeartbeats 1000000 in
theorem tFitsOther (op : UInt8) (n dp : Int) (t : List UInt8) (ad : Option Addr) (kn kc : Nat) (ks : List (List UInt8))
    (h1 : op.toNat ≠ 80) (h2 : op.toNat ≠ 88) (h3 : op.toNat ≠ 87) (h4 : op.toNat ≠ 76) (w : World) :
    Calls Tryd.prog 129 #[.agg #[.int .u8 op.toNat, .int .i64 n, .string (bs t), .slice ad kn kc, .int .i64 dp]] w fun e w' =>
      e = .returned (.bool (fitsB op ks)) ∧ Below w.heap.size w w' := by
  have H : fitsB op ks = true := by
    simp only [fitsB, ← UInt8.toNat_inj, UInt8.reduceToNat]
    rw [if_neg h1, if_neg h2, if_neg h3, if_neg h4]
  rw [H]; clear H
  go_enter Tryd.func129, Tryd.ntmps129
  go_wp2
  go_ret
  exact ⟨rfl, by (repeat' (first | with_reducible exact Below.refl _ _ | with_reducible assumption | with_reducible refine below_alloc ?_ ?_ _ | with_reducible refine Below.setCell ?_ ?_ _ | with_reducible refine Below.drew ?_ | with_reducible refine below_drewN ?_ _ | with_reducible refine below_step (by assumption) ?_ ?_ | (with_reducible refine Below.trans ?_ (Below.mono (by assumption) ?_)) | exact Nat.le_refl _ | (simp; done) | (simp; omega) | omega))⟩

set_option maxRecDepth 100000 in
set_option maxHeartbeats 1000000 in
theorem tFitsOne (op : UInt8) (n dp : Int) (t : List UInt8) (g kn kc : Nat) (c : UInt8) (r : List UInt8) (ks : List (List UInt8))
    (h1 : op.toNat = 80 ∨ op.toNat = 76) (w : World) (hn : 1 ≤ kn) (hc : w.cell? ⟨g, 0, none⟩ = some (.string (bs (c :: r)))) (hg : g < w.heap.size) :
    Calls Tryd.prog 129 #[.agg #[.int .u8 op.toNat, .int .i64 n, .string (bs t), .slice (some ⟨g, 0, none⟩) kn kc, .int .i64 dp]] w fun e w' =>
      e = .returned (.bool (fitsB op ((c :: r) :: ks))) ∧ Below w.heap.size w w' := by
  have H : Hid (fitsB op ((c :: r) :: ks) = if op.toNat = 80 then decide (c.toNat ≠ 86 ∧ c.toNat ≠ 75) else pubC c) := by
    show fitsB _ _ = _
    simp only [fitsB, ← UInt8.toNat_inj, UInt8.reduceToNat, List.getD_cons_zero, head, List.headD_cons]
    rcases h1 with h | h <;> simp [h]
    rw [Bool.eq_iff_iff]; simp [← UInt8.toNat_inj]
  have hr0 : (0 : Int) ≤ (r.length : Int) := by omega
  rcases h1 with h | h
  all_goals
    go_enter Tryd.func129, Tryd.ntmps129
    go_wp2_with (go_at_call 83; refine (tPublic _ _ _).mono ?_; rintro e w1 ⟨rfl, rfl⟩)
    all_goals
      go_ret
      refine ⟨?_, by (repeat' (first | with_reducible exact Below.refl _ _ | with_reducible assumption | with_reducible refine below_alloc ?_ ?_ _ | with_reducible refine Below.setCell ?_ ?_ _ | with_reducible refine Below.drew ?_ | with_reducible refine below_drewN ?_ _ | with_reducible refine below_step (by assumption) ?_ ?_ | (with_reducible refine Below.trans ?_ (Below.mono (by assumption) ?_)) | exact Nat.le_refl _ | (simp; done) | (simp; omega) | omega))⟩
      rw [H.out]
      first | (rw [if_pos h]; (refine congrArg (fun b : Bool => Ending.returned (.bool b)) ?_; rw [Bool.eq_iff_iff]; simp only [beq_iff_eq, beq_eq_false_iff_ne, bne_iff_ne, bne_eq_false_iff_eq, ne_eq, Bool.or_eq_true, Bool.and_eq_true, Bool.not_eq_true', decide_eq_true_eq, decide_eq_false_iff_not, Bool.or_eq_false_iff, Bool.and_eq_false_iff, eq_self, true_iff, iff_true, Bool.false_eq_true, Bool.true_eq_false, false_iff, iff_false] at *; omega)) | (rw [if_neg (by omega)]; rfl)

set_option maxRecDepth 100000 in
set_option maxHeartbeats 2000000 in
theorem tFitsTwo (op : UInt8) (n dp : Int) (t : List UInt8) (g kn kc : Nat) (c c' : UInt8) (r r' : List UInt8) (ks : List (List UInt8))
    (h1 : op.toNat = 88 ∨ op.toNat = 87) (w : World) (hn : 2 ≤ kn) (hc : w.cell? ⟨g, 0, none⟩ = some (.string (bs (c :: r)))) (hc' : w.cell? ⟨g, 1, none⟩ = some (.string (bs (c' :: r')))) (hg : g < w.heap.size) :
    Calls Tryd.prog 129 #[.agg #[.int .u8 op.toNat, .int .i64 n, .string (bs t), .slice (some ⟨g, 0, none⟩) kn kc, .int .i64 dp]] w fun e w' =>
      e = .returned (.bool (fitsB op ((c :: r) :: (c' :: r') :: ks))) ∧ Below w.heap.size w w' := by
  have H : Hid (fitsB op ((c :: r) :: (c' :: r') :: ks) = if op.toNat = 88 then leB (c :: r) (c' :: r') else pubC c && pubC c') := by
    show fitsB _ _ = _
    simp only [fitsB, ← UInt8.toNat_inj, UInt8.reduceToNat, List.getD_cons_zero, List.getD_cons_succ, head, List.headD_cons]
    rcases h1 with h | h <;> simp [h]
  have hr0 : (0 : Int) ≤ (r.length : Int) := by omega
  have hr1 : (0 : Int) ≤ (r'.length : Int) := by omega
  rcases h1 with h | h
  · have k0 : (0 : Int) < (kn : Int) := by omega
    have k1 : (1 : Int) < (kn : Int) := by omega
    go_enter Tryd.func129, Tryd.ntmps129
    go_wp2
    go_quiet (fail)
    go_wp2
    go_ret
    refine ⟨?_, by (repeat' (first | with_reducible exact Below.refl _ _ | with_reducible assumption | with_reducible refine below_alloc ?_ ?_ _ | with_reducible refine Below.setCell ?_ ?_ _ | with_reducible refine Below.drew ?_ | with_reducible refine below_drewN ?_ _ | with_reducible refine below_step (by assumption) ?_ ?_ | (with_reducible refine Below.trans ?_ (Below.mono (by assumption) ?_)) | exact Nat.le_refl _ | (simp; done) | (simp; omega) | omega))⟩
    rw [H.out, if_pos h]
    rfl
  · cases hp : pubC c
    all_goals
      have Hp := Lib.hid hp
      clear hp
      go_enter Tryd.func129, Tryd.ntmps129
      go_wp2_with fail
      refine (tPublic _ _ _).mono ?_
      rintro e w1 ⟨rfl, rfl⟩
      rw [Hp.out]
      go_wp2_with (go_at_call 83; refine (tPublic _ _ _).mono ?_; rintro e w1 ⟨rfl, rfl⟩)
      go_ret
      refine ⟨?_, by (repeat' (first | with_reducible exact Below.refl _ _ | with_reducible assumption | with_reducible refine below_alloc ?_ ?_ _ | with_reducible refine Below.setCell ?_ ?_ _ | with_reducible refine Below.drew ?_ | with_reducible refine below_drewN ?_ _ | with_reducible refine below_step (by assumption) ?_ ?_ | (with_reducible refine Below.trans ?_ (Below.mono (by assumption) ?_)) | exact Nat.le_refl _ | (simp; done) | (simp; omega) | omega))⟩
      rw [H.out, if_neg (by omega), Hp.out]
      rfl

theorem tFits (op : UInt8) (n dp : Int) (t : List UInt8) (ad : Option Addr) (kn kc : Nat) (ks : List (List UInt8)) (m : Nat) (hm : ks.length = m) (hcnt : ∃ r k, cnt op r = some (m, k)) (hne : ∀ k ∈ ks, k ≠ []) (w : World) (base : Nat)
    (hown : w.ownsRow base 22 1 (.slice ad kn kc) m (ks.map fun k => .string (bs k))) :
    Calls Tryd.prog 129 #[.agg #[.int .u8 op.toNat, .int .i64 n, .string (bs t), .slice ad kn kc, .int .i64 dp]] w fun e w' =>
      e = .returned (.bool (fitsB op ks)) ∧ Below w.heap.size w w' := by
  by_cases hA : op.toNat = 80 ∨ op.toNat = 76 ∨ op.toNat = 88 ∨ op.toNat = 87
  · have hm1 : (op.toNat = 80 → m = 1) ∧ (op.toNat ≠ 80 → m = 2) := by
      obtain ⟨r, k, hcnt⟩ := hcnt
      simp only [cnt, arity, ← UInt8.toNat_inj, UInt8.reduceToNat] at hcnt
      rw [if_neg (by omega)] at hcnt
      split at hcnt
      · simp at hcnt; omega
      · rw [if_pos (by omega)] at hcnt; simp at hcnt; omega
    obtain ⟨g, cap, hv, hg, hgw, hcap, hcap2, hcell⟩ := own_cells hown (by omega)
    injection hv with hv1 hv2 hv3
    subst hv1 hv2 hv3
    match ks, hm, hne with
    | [], hm, _ => simp at hm; omega
    | [] :: _, _, hne => exact absurd rfl (hne [] (by simp))
    | (c :: r) :: ks', hm, hne =>
      have c0 := hcell 0 (.string (bs (c :: r))) (by simp)
      by_cases hB : op.toNat = 80 ∨ op.toNat = 76
      · exact tFitsOne op n dp t g kn kc c r ks' hB w (by omega) c0 hgw
      · match ks', hm, hne with
        | [], hm, _ => simp at hm; omega
        | [] :: _, _, hne => exact absurd rfl (hne [] (by simp))
        | (c' :: r') :: ks'', hm, hne =>
          have c1 := hcell 1 (.string (bs (c' :: r'))) (by simp)
          exact tFitsTwo op n dp t g kn kc c c' r r' ks'' (by omega) w (by omega) c0 c1 hgw
  · exact tFitsOther op n dp t ad kn kc ks (by omega) (by omega) (by omega) (by omega) w

/-! How the rest is read. -/
def formFn (c : Nat) : Option Nat :=
  if c = 110 then some 139 else if c = 116 then some 140 else if c = 84 then some 141
  else if c = 80 ∨ c = 72 then some 142
  else if c = 83 ∨ c = 66 ∨ c = 88 ∨ c = 68 ∨ c = 86 ∨ c = 87 ∨ c = 75 ∨ c = 76 then some 143 else none

def formV (p : Option Addr) : Option Nat → Value
  | some f => .func (.func f) #[.pointer p] #[]
  | none => .nilFunc

set_option maxRecDepth 100000 in
set_option maxHeartbeats 1000000 in
theorem tForm (p : Option Addr) (c : UInt8) (w : World) :
    Calls Tryd.prog 128 #[.pointer p, .int .u8 c.toNat] w fun e w' =>
      e = .returned (formV p (formFn c.toNat)) ∧ w = w' := by
  have hmf : ∀ (fn : Fn) (first cap : Array Value) (w : World), (Instr.makeFunc fn first cap).run Tryd.prog w = .ok (.func fn first cap) w := fun _ _ _ _ => rfl
  have H : Hid (∀ n, formFn n = if n = 110 then some 139 else if n = 116 then some 140 else if n = 84 then some 141
    else if n = 80 ∨ n = 72 then some 142
    else if n = 83 ∨ n = 66 ∨ n = 88 ∨ n = 68 ∨ n = 86 ∨ n = 87 ∨ n = 75 ∨ n = 76 then some 143 else none) := fun _ => rfl
  go_enter Tryd.func128, Tryd.ntmps128
  go_wp2
  all_goals
    go_ret
    refine ⟨?_, rfl⟩
    simp only [beq_iff_eq, beq_eq_false_iff_ne, ne_eq] at *
    rw [H.out]
    repeat (first | rw [if_pos (by omega)] | rw [if_neg (by omega)])
    rfl
end Go.Proofs.YtchbhainmalbbaaDoor
