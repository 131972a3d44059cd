/- The reference: a commitment's keys. -/
import Derived.Test.YtdmfoablpdhnbaaGreatDoorMRefK
import Derived.Test.YtdmfoablpdhnbaaGreatDoorMSpec
import Derived.Deep.DeepCutAuto
set_option linter.unusedSimpArgs false
set_option linter.unusedVariables false
namespace Go.Proofs.YtdmfoablpdhnbaaGreatDoor
open Go.RowKit

/-- The first answer that refuses. -/
def firstE : List Int → Int
  | [] => 0
  | g :: r => if g = 0 then firstE r else g
theorem firstE_at : ∀ (gs : List Int) (k : Nat) (g : Int), (∀ j x, j < k → gs[j]? = some x → x = 0) → gs[k]? = some g → g ≠ 0 → firstE gs = g
  | [], k, g, _, h, _ => by simp at h
  | x :: r, 0, g, _, h, hg => by
    simp at h
    subst h
    simp [firstE, hg]
  | x :: r, k + 1, g, h0, h, hg => by
    have hx : x = 0 := h0 0 x (by omega) rfl
    simp only [firstE, hx, if_true]
    exact firstE_at r k g (fun j y hj hy => h0 (j + 1) y (by omega) (by simpa using hy)) (by simpa using h) hg
theorem firstE_zero : ∀ (gs : List Int), (∀ j x, j < gs.length → gs[j]? = some x → x = 0) → firstE gs = 0
  | [], _ => rfl
  | x :: r, h => by
    have hx : x = 0 := h 0 x (by simp) rfl
    simp only [firstE, hx, if_true]
    exact firstE_zero r (fun j y hj hy => h (j + 1) y (by simp; omega) (by simpa using hy))
theorem set_first (oL oH tR tP tH pt : List UInt8) {r1 r2 r3 r4 : List UInt8} {g1 g2 g3 g4 : Int} (h1 : jointT tR pt = (r1, g1)) (h2 : boundT oL pt = (r2, g2)) (h3 : boundT oH pt = (r3, g3)) (h4 : boundT tH pt = (r4, g4)) :
    setT oL oH tR tP tH pt = if firstE [g1, g2, g3, g4, payOk tP] = 0 then ([r1, r2, r3, r4, tP], 0) else ([], firstE [g1, g2, g3, g4, payOk tP]) := by
  unfold setT
  rw [h1, h2, h3, h4]
  simp only [firstE]
  by_cases q1 : g1 = 0
  · by_cases q2 : g2 = 0
    · by_cases q3 : g3 = 0
      · by_cases q4 : g4 = 0
        · by_cases q5 : payOk tP = 0 <;> simp [q1, q2, q3, q4, q5]
        · simp [q1, q2, q3, q4]
      · simp [q1, q2, q3]
    · simp [q1, q2]
  · simp [q1]
theorem errs_at (g1 g2 g3 g4 g5 : Int) (k : Nat) (hk : k < 5) : ∃ g, [g1, g2, g3, g4, g5][k]? = some g ∧ (#[.int .i64 g1, .int .i64 g2, .int .i64 g3, .int .i64 g4, .int .i64 g5] : Array Value)[k]? = some (.int .i64 g) := by
  match k, hk with
  | 0, _ => exact ⟨g1, rfl, rfl⟩
  | 1, _ => exact ⟨g2, rfl, rfl⟩
  | 2, _ => exact ⟨g3, rfl, rfl⟩
  | 3, _ => exact ⟨g4, rfl, rfl⟩
  | 4, _ => exact ⟨g5, rfl, rfl⟩

set_option maxRecDepth 100000 in
set_option maxHeartbeats 8000000 in
theorem rSet (oF oR oP oL oH tF tR tP tL tH pt : List UInt8) (hoL : oL.length ≤ 9000000000000000000) (hoH : oH.length ≤ 9000000000000000000) (htR : tR.length ≤ 9000000000000000000) (htP : tP.length ≤ 9000000000000000000) (htH : tH.length ≤ 9000000000000000000) (hpt : pt.length ≤ 9000000000000000000) (w : World) :
    Calls Tryz.prog 53 #[.agg #[.string (bs oF), .string (bs oR), .string (bs oP), .string (bs oL), .string (bs oH)], .agg #[.string (bs tF), .string (bs tR), .string (bs tP), .string (bs tL), .string (bs tH)], .string (bs pt)] w fun e w' => e = .returned (.tuple #[keysV (setT oL oH tR tP tH pt).1, .int .i64 (setT oL oH tR tP tH pt).2]) ∧ Below w.heap.size w w' := by
  obtain ⟨r1, g1, h1⟩ : ∃ x g, jointT tR pt = (x, g) := ⟨_, _, rfl⟩
  obtain ⟨r2, g2, h2⟩ : ∃ x g, boundT oL pt = (x, g) := ⟨_, _, rfl⟩
  obtain ⟨r3, g3, h3⟩ : ∃ x g, boundT oH pt = (x, g) := ⟨_, _, rfl⟩
  obtain ⟨r4, g4, h4⟩ : ∃ x g, boundT tH pt = (x, g) := ⟨_, _, rfl⟩
  have HE := Lib.hid (set_first oL oH tR tP tH pt h1 h2 h3 h4)
  have HX1 := Lib.hid h1
  have HX2 := Lib.hid h2
  have HX3 := Lib.hid h3
  have HX4 := Lib.hid h4
  clear h1 h2 h3 h4
  have HA0 : Hid ((((w.alloc (.cells #[.string (bs oF), .string (bs oR), .string (bs oP), .string (bs oL), .string (bs oH)] 46)).alloc (.cells #[.string (bs tF), .string (bs tR), .string (bs tP), .string (bs tL), .string (bs tH)] 46)).alloc (.cells #[.string (bs []), .string (bs []), .string (bs []), .string (bs []), .string (bs [])] 102)).heap[w.heap.size]? = some (.cells #[.string (bs oF), .string (bs oR), .string (bs oP), .string (bs oL), .string (bs oH)] 46 (0, 0))) := blk_alloc (blk_alloc (blk_new _ _) _) _
  have HB0 : Hid ((((w.alloc (.cells #[.string (bs oF), .string (bs oR), .string (bs oP), .string (bs oL), .string (bs oH)] 46)).alloc (.cells #[.string (bs tF), .string (bs tR), .string (bs tP), .string (bs tL), .string (bs tH)] 46)).alloc (.cells #[.string (bs []), .string (bs []), .string (bs []), .string (bs []), .string (bs [])] 102)).heap[w.heap.size + 1]? = some (.cells #[.string (bs tF), .string (bs tR), .string (bs tP), .string (bs tL), .string (bs tH)] 46 (0, 0))) := by
    have h := blk_alloc (blk_new (w.alloc (.cells #[.string (bs oF), .string (bs oR), .string (bs oP), .string (bs oL), .string (bs oH)] 46)) (.cells #[.string (bs tF), .string (bs tR), .string (bs tP), .string (bs tL), .string (bs tH)] 46)) (.cells #[.string (bs []), .string (bs []), .string (bs []), .string (bs []), .string (bs [])] 102)
    rw [show (w.alloc (.cells #[.string (bs oF), .string (bs oR), .string (bs oP), .string (bs oL), .string (bs oH)] 46)).heap.size = w.heap.size + 1 by simp] at h
    exact h
  have HR0 : Hid ((((w.alloc (.cells #[.string (bs oF), .string (bs oR), .string (bs oP), .string (bs oL), .string (bs oH)] 46)).alloc (.cells #[.string (bs tF), .string (bs tR), .string (bs tP), .string (bs tL), .string (bs tH)] 46)).alloc (.cells #[.string (bs []), .string (bs []), .string (bs []), .string (bs []), .string (bs [])] 102)).heap[w.heap.size + 1 + 1]? = some (.cells #[.string (bs []), .string (bs []), .string (bs []), .string (bs []), .string (bs [])] 102 (0, 0))) := by
    have h := blk_new ((w.alloc (.cells #[.string (bs oF), .string (bs oR), .string (bs oP), .string (bs oL), .string (bs oH)] 46)).alloc (.cells #[.string (bs tF), .string (bs tR), .string (bs tP), .string (bs tL), .string (bs tH)] 46)) (.cells #[.string (bs []), .string (bs []), .string (bs []), .string (bs []), .string (bs [])] 102)
    rw [show ((w.alloc (.cells #[.string (bs oF), .string (bs oR), .string (bs oP), .string (bs oL), .string (bs oH)] 46)).alloc (.cells #[.string (bs tF), .string (bs tR), .string (bs tP), .string (bs tL), .string (bs tH)] 46)).heap.size = w.heap.size + 1 + 1 by simp] at h
    exact h
  have hb0 : Below w.heap.size w (((w.alloc (.cells #[.string (bs oF), .string (bs oR), .string (bs oP), .string (bs oL), .string (bs oH)] 46)).alloc (.cells #[.string (bs tF), .string (bs tR), .string (bs tP), .string (bs tL), .string (bs tH)] 46)).alloc (.cells #[.string (bs []), .string (bs []), .string (bs []), .string (bs []), .string (bs [])] 102)) := by (repeat' (first | with_reducible exact Below.refl _ _ | with_reducible assumption | with_reducible refine below_alloc ?_ ?_ _ | with_reducible refine Below.setCell ?_ ?_ _ | with_reducible refine Below.drew ?_ | with_reducible refine below_drewN ?_ _ | with_reducible refine below_step (by assumption) ?_ ?_ | (with_reducible refine Below.trans ?_ (Below.mono (by assumption) ?_)) | exact Nat.le_refl _ | (simp; done) | (simp; omega) | omega))
  go_enter Tryz.func53, Tryz.ntmps53
  go_wp2_with fail
  generalize (((w.alloc (.cells #[.string (bs oF), .string (bs oR), .string (bs oP), .string (bs oL), .string (bs oH)] 46)).alloc (.cells #[.string (bs tF), .string (bs tR), .string (bs tP), .string (bs tL), .string (bs tH)] 46)).alloc (.cells #[.string (bs []), .string (bs []), .string (bs []), .string (bs []), .string (bs [])] 102)) = v0 at *
  refine (refJoint tR pt htR hpt _).mono ?_
  rintro e v1 ⟨rfl, hx1⟩
  rw [HX1.out]
  have HA1 := Lib.hid (blk_below HA0.out hx1 (blk_lt HA0.out))
  have HB1 := Lib.hid (blk_below HB0.out hx1 (blk_lt HB0.out))
  have HR1 := Lib.hid (blk_below HR0.out hx1 (blk_lt HR0.out))
  have hb1 : Below w.heap.size w v1 := hb0.trans (hx1.mono hb0.size)
  have c0 := blk_cell HA1.out
  have c1 := blk_free HA1.out
  go_wp2_with fail
  refine (refBound oL pt hoL hpt _).mono ?_
  rintro e v2 ⟨rfl, hx2⟩
  rw [HX2.out]
  clear c0 c1
  have HA2 := Lib.hid (blk_below HA1.out hx2 (blk_lt HA1.out))
  have HB2 := Lib.hid (blk_below HB1.out hx2 (blk_lt HB1.out))
  have HR2 := Lib.hid (blk_below HR1.out hx2 (blk_lt HR1.out))
  have hb2 : Below w.heap.size w v2 := hb1.trans (hx2.mono hb1.size)
  have c0 := blk_cell HA2.out
  have c1 := blk_free HA2.out
  go_wp2_with fail
  refine (refBound oH pt hoH hpt _).mono ?_
  rintro e v3 ⟨rfl, hx3⟩
  rw [HX3.out]
  clear c0 c1
  have HA3 := Lib.hid (blk_below HA2.out hx3 (blk_lt HA2.out))
  have HB3 := Lib.hid (blk_below HB2.out hx3 (blk_lt HB2.out))
  have HR3 := Lib.hid (blk_below HR2.out hx3 (blk_lt HR2.out))
  have hb3 : Below w.heap.size w v3 := hb2.trans (hx3.mono hb2.size)
  have c0 := blk_cell HB3.out
  have c1 := blk_free HB3.out
  go_wp2_with fail
  refine (refBound tH pt htH hpt _).mono ?_
  rintro e v4 ⟨rfl, hx4⟩
  rw [HX4.out]
  clear c0 c1
  have HA4 := Lib.hid (blk_below HA3.out hx4 (blk_lt HA3.out))
  have HB4 := Lib.hid (blk_below HB3.out hx4 (blk_lt HB3.out))
  have HR4 := Lib.hid (blk_below HR3.out hx4 (blk_lt HR3.out))
  have hb4 : Below w.heap.size w v4 := hb3.trans (hx4.mono hb3.size)
  go_upto_region 6 with fail
  go_cut [67] (fun kv wx => kv = .bool (payOk tP == 0) ∧ Below v4.heap.size v4 wx)
  case first =>
    have c0 := blk_cell HB4.out
    have c1 := blk_free HB4.out
    cases hr : right tP with
    | false =>
      have PAY : Hid (payOk tP = 10) := by show payOk tP = 10; simp [payOk, hr]
      have HR := Lib.hid hr
      clear hr
      go_wp2_with fail
      refine (refRight tP htP _).mono ?_
      rintro e v5 ⟨rfl, hx5⟩
      rw [HR.out]
      go_wp2_with fail
      go_meet
      exact ⟨by rw [PAY.out]; rfl, by (repeat' (first | with_reducible exact Below.refl _ _ | with_reducible assumption | with_reducible refine below_alloc ?_ ?_ _ | with_reducible refine Below.setCell ?_ ?_ _ | with_reducible refine Below.drew ?_ | with_reducible refine below_drewN ?_ _ | with_reducible refine below_step (by assumption) ?_ ?_ | (with_reducible refine Below.trans ?_ (Below.mono (by assumption) ?_)) | exact Nat.le_refl _ | (simp; done) | (simp; omega) | omega))⟩
    | true =>
      obtain ⟨c, r, rfl⟩ := right_cons hr
      have hr0 : (0 : Int) ≤ (r.length : Int) := by omega
      have PAY : Hid (payOk (c :: r) = if pubC c = true then 0 else 10) := by show payOk _ = _; simp [payOk, hr, head]
      have HR := Lib.hid hr
      clear hr c0 c1
      cases hc : pubC c with
      | false =>
        have hn : c.toNat ≠ 80 ∧ c.toNat ≠ 87 ∧ c.toNat ≠ 76 := by
          simp only [pubC, Bool.or_eq_false_iff, beq_eq_false_iff_ne, ne_eq, ← UInt8.toNat_inj, UInt8.reduceToNat] at hc
          exact ⟨hc.1.1, hc.1.2, hc.2⟩
        have b1 : (((c.toNat : Nat) : Int) == 80) = false := by have := hn.1; simp; omega
        have b2 : (((c.toNat : Nat) : Int) == 87) = false := by have := hn.2.1; simp; omega
        have b3 : (((c.toNat : Nat) : Int) == 76) = false := by have := hn.2.2; simp; omega
        have PAY2 : Hid (payOk (c :: r) = 10) := by show _ = _; rw [PAY.out]; simp [hc]
        clear hn hc PAY
        have c0 := blk_cell HB4.out
        have c1 := blk_free HB4.out
        go_wp2_with fail
        refine (refRight (c :: r) htP _).mono ?_
        rintro e v5 ⟨rfl, hx5⟩
        rw [HR.out]
        clear c0 c1
        have HB5 := Lib.hid (blk_below HB4.out hx5 (blk_lt HB4.out))
        have c0 := blk_cell HB5.out
        have c1 := blk_free HB5.out
        go_wp2_with fail
        go_meet
        exact ⟨by rw [PAY2.out]; rfl, by (repeat' (first | with_reducible exact Below.refl _ _ | with_reducible assumption | with_reducible refine below_alloc ?_ ?_ _ | with_reducible refine Below.setCell ?_ ?_ _ | with_reducible refine Below.drew ?_ | with_reducible refine below_drewN ?_ _ | with_reducible refine below_step (by assumption) ?_ ?_ | (with_reducible refine Below.trans ?_ (Below.mono (by assumption) ?_)) | exact Nat.le_refl _ | (simp; done) | (simp; omega) | omega))⟩
      | true =>
        have hn : c.toNat = 80 ∨ c.toNat = 87 ∨ c.toNat = 76 := by
          simp only [pubC, Bool.or_eq_true, beq_iff_eq, ← UInt8.toNat_inj, UInt8.reduceToNat] at hc
          omega
        have PAY2 : Hid (payOk (c :: r) = 0) := by show _ = _; rw [PAY.out]; simp [hc]
        clear hc PAY
        rcases hn with hn | hn | hn
        · have b1 : (((c.toNat : Nat) : Int) == 80) = true := by simp [hn]
          have b2 : (((c.toNat : Nat) : Int) == 87) = false := by simp [hn]
          have b3 : (((c.toNat : Nat) : Int) == 76) = false := by simp [hn]
          clear hn
          have c0 := blk_cell HB4.out
          have c1 := blk_free HB4.out
          go_wp2_with fail
          refine (refRight (c :: r) htP _).mono ?_
          rintro e v5 ⟨rfl, hx5⟩
          rw [HR.out]
          clear c0 c1
          have HB5 := Lib.hid (blk_below HB4.out hx5 (blk_lt HB4.out))
          have c0 := blk_cell HB5.out
          have c1 := blk_free HB5.out
          go_wp2_with fail
          go_meet
          exact ⟨by rw [PAY2.out]; rfl, by (repeat' (first | with_reducible exact Below.refl _ _ | with_reducible assumption | with_reducible refine below_alloc ?_ ?_ _ | with_reducible refine Below.setCell ?_ ?_ _ | with_reducible refine Below.drew ?_ | with_reducible refine below_drewN ?_ _ | with_reducible refine below_step (by assumption) ?_ ?_ | (with_reducible refine Below.trans ?_ (Below.mono (by assumption) ?_)) | exact Nat.le_refl _ | (simp; done) | (simp; omega) | omega))⟩
        · have b1 : (((c.toNat : Nat) : Int) == 80) = false := by simp [hn]
          have b2 : (((c.toNat : Nat) : Int) == 87) = true := by simp [hn]
          have b3 : (((c.toNat : Nat) : Int) == 76) = false := by simp [hn]
          clear hn
          have c0 := blk_cell HB4.out
          have c1 := blk_free HB4.out
          go_wp2_with fail
          refine (refRight (c :: r) htP _).mono ?_
          rintro e v5 ⟨rfl, hx5⟩
          rw [HR.out]
          clear c0 c1
          have HB5 := Lib.hid (blk_below HB4.out hx5 (blk_lt HB4.out))
          have c0 := blk_cell HB5.out
          have c1 := blk_free HB5.out
          go_wp2_with fail
          go_meet
          exact ⟨by rw [PAY2.out]; rfl, by (repeat' (first | with_reducible exact Below.refl _ _ | with_reducible assumption | with_reducible refine below_alloc ?_ ?_ _ | with_reducible refine Below.setCell ?_ ?_ _ | with_reducible refine Below.drew ?_ | with_reducible refine below_drewN ?_ _ | with_reducible refine below_step (by assumption) ?_ ?_ | (with_reducible refine Below.trans ?_ (Below.mono (by assumption) ?_)) | exact Nat.le_refl _ | (simp; done) | (simp; omega) | omega))⟩
        · have b1 : (((c.toNat : Nat) : Int) == 80) = false := by simp [hn]
          have b2 : (((c.toNat : Nat) : Int) == 87) = false := by simp [hn]
          have b3 : (((c.toNat : Nat) : Int) == 76) = true := by simp [hn]
          clear hn
          have c0 := blk_cell HB4.out
          have c1 := blk_free HB4.out
          go_wp2_with fail
          refine (refRight (c :: r) htP _).mono ?_
          rintro e v5 ⟨rfl, hx5⟩
          rw [HR.out]
          clear c0 c1
          have HB5 := Lib.hid (blk_below HB4.out hx5 (blk_lt HB4.out))
          have c0 := blk_cell HB5.out
          have c1 := blk_free HB5.out
          go_wp2_with fail
          go_meet
          exact ⟨by rw [PAY2.out]; rfl, by (repeat' (first | with_reducible exact Below.refl _ _ | with_reducible assumption | with_reducible refine below_alloc ?_ ?_ _ | with_reducible refine Below.setCell ?_ ?_ _ | with_reducible refine Below.drew ?_ | with_reducible refine below_drewN ?_ _ | with_reducible refine below_step (by assumption) ?_ ?_ | (with_reducible refine Below.trans ?_ (Below.mono (by assumption) ?_)) | exact Nat.le_refl _ | (simp; done) | (simp; omega) | omega))⟩
  case rest =>
    obtain ⟨rfl, hx5⟩ := hcut
    have HB5 := Lib.hid (blk_below HB4.out hx5 (blk_lt HB4.out))
    have HR5 := Lib.hid (blk_below HR4.out hx5 (blk_lt HR4.out))
    have hb5 : Below w.heap.size w wc := hb4.trans (hx5.mono hb4.size)
    have hor : payOk tP = 0 ∨ payOk tP = 10 := by unfold payOk; split <;> simp
    clear HA0 HB0 HR0 hb0 HA1 HB1 HR1 hb1 HA2 HB2 HR2 hb2 HA3 HB3 HR3 hb3 HA4 HB4 HR4 hb4 hx1 hx2 hx3 hx4 hx5 HX1 HX2 HX3 HX4
    generalize payOk tP = g5 at *
    go_upto_if 67 with fail
    go_cut [16] (fun kv wx => kv = .int .i64 g5 ∧ wx = wc)
    case first =>
      rcases hor with h | h
      · subst h
        go_wp2_with fail
        go_meet
        exact ⟨rfl, rfl⟩
      · subst h
        go_wp2_with fail
        go_meet
        exact ⟨rfl, rfl⟩
    case rest =>
      obtain ⟨rfl, rfl⟩ := hcut
      have HB6 := Lib.hid (blk_alloc HB5.out (.cells #[.int .i64 g1, .int .i64 g2, .int .i64 g3, .int .i64 g4, .int .i64 g5] 47))
      have HR6 := Lib.hid (blk_alloc HR5.out (.cells #[.int .i64 g1, .int .i64 g2, .int .i64 g3, .int .i64 g4, .int .i64 g5] 47))
      have HV6 := Lib.hid (blk_new wc (.cells #[.int .i64 g1, .int .i64 g2, .int .i64 g3, .int .i64 g4, .int .i64 g5] 47))
      have hb6 : Below w.heap.size w (wc.alloc (.cells #[.int .i64 g1, .int .i64 g2, .int .i64 g3, .int .i64 g4, .int .i64 g5] 47)) := hb5.alloc hb5.size _
      go_wp2_with fail
      generalize hvv : wc.alloc (.cells #[.int .i64 g1, .int .i64 g2, .int .i64 g3, .int .i64 g4, .int .i64 g5] 47) = vv at *
      obtain ⟨V, hV⟩ : ∃ V, wc.heap.size = V := ⟨_, rfl⟩
      rw [hV] at HV6 ⊢
      have b0 := blk_cell HB6.out
      have b1 := blk_free HB6.out
      have z0 := blk_cell HR6.out
      have z1 := blk_free HR6.out
      have v0 := blk_cell HV6.out
      have v1 := blk_free HV6.out
      have hlR := blk_lt HR6.out
      clear HB5 HR5 hb5 hvv
      go_loopw [75] (fun iv wr => ∃ k : Nat, k ≤ 5 ∧ iv = .int .i64 k ∧ Hid (∀ j x, j < k → [g1, g2, g3, g4, g5][j]? = some x → x = 0) ∧ wr = vv) (fun iv _ => 5 - (intOf iv).toNat)
      case atStart => exact ⟨0, by omega, rfl, fun j x hj => absurd hj (by omega), rfl⟩
      case round =>
        obtain ⟨k, hk, rfl, hz, rfl⟩ := hrel
        by_cases hlt : k < 5
        · obtain ⟨g, hg, hc⟩ := errs_at g1 g2 g3 g4 g5 k hlt
          have c0 := (v0 k).trans hc
          have i1 : (k : Int) < 5 := by omega
          have HGG := Lib.hid hg
          clear hg hc v0
          by_cases h : g = 0
          · subst h
            go_wp2
            go_roundw
            case rel => exact ⟨k + 1, by omega, by go_num, (fun j x hj hx => by
              by_cases hjk : j < k
              · exact hz.out j x hjk hx
              · obtain rfl : j = k := by omega
                exact (Option.some.inj (HGG.out.symm.trans hx)).symm), by first | rfl | trivial⟩
            case measure => (show 5 - ((k : Int) + 1).toNat < 5 - (k : Int).toNat); omega
          · have q1 : (g != 0) = true := by simp [h]
            have H : Hid (setT oL oH tR tP tH pt = ([], g)) := by
              show setT oL oH tR tP tH pt = _
              have e := firstE_at _ k g hz.out HGG.out h
              rw [HE.out, e, if_neg h]
            clear h HE
            go_wp2
            refine bodyPost_ret (v := .tuple #[.agg #[.string (bs []), .string (bs []), .string (bs []), .string (bs []), .string (bs [])], .int .i64 g]) (by simp [results, Tryz.results53, go_sem, z0, z1, hlR]) rfl ⟨by rw [H.out]; rfl, by (repeat' (first | with_reducible exact Below.refl _ _ | with_reducible assumption | with_reducible refine below_alloc ?_ ?_ _ | with_reducible refine Below.setCell ?_ ?_ _ | with_reducible refine Below.drew ?_ | with_reducible refine below_drewN ?_ _ | with_reducible refine below_step (by assumption) ?_ ?_ | (with_reducible refine Below.trans ?_ (Below.mono (by assumption) ?_)) | exact Nat.le_refl _ | (simp; done) | (simp; omega) | omega))⟩
        · obtain rfl : k = 5 := by omega
          have H : Hid (setT oL oH tR tP tH pt = ([r1, r2, r3, r4, tP], 0)) := by
            show setT oL oH tR tP tH pt = _
            have e := firstE_zero [g1, g2, g3, g4, g5] hz.out
            rw [HE.out, e, if_pos rfl]
          clear HE v0
          go_wp2
          refine bodyPost_ret (v := .tuple #[.agg #[.string (bs r1), .string (bs r2), .string (bs r3), .string (bs r4), .string (bs tP)], .int .i64 0]) (by simp [results, Tryz.results53, go_sem, z0, z1, hlR]) rfl ⟨by rw [H.out]; rfl, by (repeat' (first | with_reducible exact Below.refl _ _ | with_reducible assumption | with_reducible refine below_alloc ?_ ?_ _ | with_reducible refine Below.setCell ?_ ?_ _ | with_reducible refine Below.drew ?_ | with_reducible refine below_drewN ?_ _ | with_reducible refine below_step (by assumption) ?_ ?_ | (with_reducible refine Below.trans ?_ (Below.mono (by assumption) ?_)) | exact Nat.le_refl _ | (simp; done) | (simp; omega) | omega))⟩
end Go.Proofs.YtdmfoablpdhnbaaGreatDoor
