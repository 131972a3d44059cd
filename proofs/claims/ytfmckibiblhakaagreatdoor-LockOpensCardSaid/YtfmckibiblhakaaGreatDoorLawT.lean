/- The laws of layer 11: LockOpens. -/
import Derived.Test.YtfmckibiblhakaaGreatDoorLawL
import Derived.Test.YtfmckibiblhakaaGreatDoorLRefB
set_option linter.unusedSimpArgs false
set_option linter.unusedVariables false
namespace Go.Proofs.YtfmckibiblhakaaGreatDoor
open Go.RowKit

set_option maxRecDepth 100000 in
set_option maxHeartbeats 4000000 in
theorem rlOpens (x : LT) (q : Nat → Prop) (v sv pv : Value) (sigs pres : List (List UInt8)) (msg : List UInt8) (after age : Int) (w : World) (hL : LockIn q w x v) (hS : TermsAt sv sigs w) (hP : TermsAt pv pres w)
    (hsn : sigs.length ≤ 9000000000000000000) (hpn : pres.length ≤ 9000000000000000000) (hst : ∀ s ∈ sigs, s.length ≤ 9000000000000000000) (hpt : ∀ s ∈ pres, s.length ≤ 9000000000000000000)
    :
    Calls Tryz.prog 29 #[v, .agg #[sv, pv], .string (bs msg), .int .i64 after, .int .i64 age] w fun e w' => e = .returned (.bool (opensP sigs pres msg after age x)) ∧ Below w.heap.size w w' := by
  have hc := fun (hri : rightL x = true) (W : World) (hgw : GL [] w W) => rlOpensN (countL x).toNat x q v sv pv sigs pres msg after age W (by have := count_pos x; omega) (by unfold rightL at hri; rw [Bool.and_eq_true] at hri; exact hri.2) (lockIn_gl hgw _ _ hL) (termsAt_gl hS hgw) (termsAt_gl hP hgw) hsn hpn hst hpt
  have hr := fun (W : World) (hgw : GL [] w W) => rlRight x q v W (lockIn_gl hgw _ _ hL)
  obtain ⟨sa, sc, rfl, _⟩ := termsAt_open hS
  obtain ⟨pa, pc, rfl, _⟩ := termsAt_open hP
  have H : Hid (opensP sigs pres msg after age x = (rightL x && decide (sigs.length ≤ 16) && decide (pres.length ≤ 16) && opensL (sgP sigs msg) (prP pres) after age x)) := rfl
  generalize opensL (sgP sigs msg) (prP pres) after age x = z at *
  generalize rightL x = y at *
  obtain ⟨k, t, n, kids⟩ := x
  obtain ⟨ad, c, rfl, _⟩ := lockIn_open hL
  have HC := Lib.hid hc
  have HR := Lib.hid hr
  clear hc hr hL hS hP hst hpt
  have hg0 : GL [] w w := gl_refl _ _
  cases y with
  | false =>
    go_enter Tryz.func29, Tryz.ntmps29
    go_wp2_with fail
    refine (HR.out _ (by (repeat' (first | with_reducible exact gl_refl _ _ | with_reducible assumption | with_reducible refine gl_alloc ?_ _ | with_reducible refine gl_drewN ?_ _ | with_reducible refine gl_drew ?_ | (with_reducible refine gl_setn ?_ ?_ _; · (first | exact Nat.le_refl _ | (simp; done) | (simp; omega) | omega)) | (with_reducible refine gl_seti ?_ ?_ _; · (simp; done)) | with_reducible refine gl_below (by with_reducible assumption) ?_ | with_reducible refine gl_step (by with_reducible assumption) ?_ (by first | (simp; done) | (simp; omega)) | with_reducible refine gl_grown (by with_reducible assumption) ?_ (by first | (simp; done) | (simp; omega)))))).mono ?_
    rintro e w1 ⟨rfl, hb1⟩
    go_wp2_with fail
    go_ret
    exact ⟨by rw [H.out]; rfl, by (repeat' (first | with_reducible exact Below.refl _ _ | with_reducible assumption | with_reducible refine below_alloc ?_ ?_ _ | with_reducible refine Below.setCell ?_ ?_ _ | with_reducible refine Below.drew ?_ | with_reducible refine below_drewN ?_ _ | with_reducible refine below_step (by assumption) ?_ ?_ | (with_reducible refine Below.trans ?_ (Below.mono (by assumption) ?_)) | exact Nat.le_refl _ | (simp; done) | (simp; omega) | omega))⟩
  | true =>
    by_cases h1 : sigs.length ≤ 16
    · have b1 : decide ((sigs.length : Int) ≤ 16) = true := by simp; omega
      by_cases h2 : pres.length ≤ 16
      · have b2 : decide ((pres.length : Int) ≤ 16) = true := by simp; omega
        have HH : Hid (opensP sigs pres msg after age (.mk k t n kids) = z) := by show _ = _; rw [H.out]; simp [h1, h2]
        go_enter Tryz.func29, Tryz.ntmps29
        go_wp2_with fail
        refine (HR.out _ (by (repeat' (first | with_reducible exact gl_refl _ _ | with_reducible assumption | with_reducible refine gl_alloc ?_ _ | with_reducible refine gl_drewN ?_ _ | with_reducible refine gl_drew ?_ | (with_reducible refine gl_setn ?_ ?_ _; · (first | exact Nat.le_refl _ | (simp; done) | (simp; omega) | omega)) | (with_reducible refine gl_seti ?_ ?_ _; · (simp; done)) | with_reducible refine gl_below (by with_reducible assumption) ?_ | with_reducible refine gl_step (by with_reducible assumption) ?_ (by first | (simp; done) | (simp; omega)) | with_reducible refine gl_grown (by with_reducible assumption) ?_ (by first | (simp; done) | (simp; omega)))))).mono ?_
        rintro e w1 ⟨rfl, hb1⟩
        have g1 := blk_below (blk_alloc (blk_new w (.cells #[.int .u8 k, .string (bs t), .int .i64 n, .slice ad kids.length c] 25)) (.cells #[.slice sa sigs.length sc, .slice pa pres.length pc] 40)) hb1 (by simp; omega)
        have g2 := blk_below (blk_new (w.alloc (.cells #[.int .u8 k, .string (bs t), .int .i64 n, .slice ad kids.length c] 25)) (.cells #[.slice sa sigs.length sc, .slice pa pres.length pc] 40)) hb1 (by simp)
        rw [show (w.alloc (.cells #[.int .u8 k, .string (bs t), .int .i64 n, .slice ad kids.length c] 25)).heap.size = w.heap.size + 1 by simp] at g2
        have f1 := blk_cell g1
        have e1 := blk_free g1
        have f2 := blk_cell g2
        have e2 := blk_free g2
        clear g1 g2
        go_wp2_with fail
        refine (HC.out (by first | rfl | trivial) _ (gl_below hb1 (by (repeat' (first | with_reducible exact gl_refl _ _ | with_reducible assumption | with_reducible refine gl_alloc ?_ _ | with_reducible refine gl_drewN ?_ _ | with_reducible refine gl_drew ?_ | (with_reducible refine gl_setn ?_ ?_ _; · (first | exact Nat.le_refl _ | (simp; done) | (simp; omega) | omega)) | (with_reducible refine gl_seti ?_ ?_ _; · (simp; done)) | with_reducible refine gl_below (by with_reducible assumption) ?_ | with_reducible refine gl_step (by with_reducible assumption) ?_ (by first | (simp; done) | (simp; omega)) | with_reducible refine gl_grown (by with_reducible assumption) ?_ (by first | (simp; done) | (simp; omega))))))).mono ?_
        rintro e w2 ⟨rfl, hb2⟩
        go_wp2_with fail
        go_ret
        exact ⟨by rw [HH.out]; rfl, by (repeat' (first | with_reducible exact Below.refl _ _ | with_reducible assumption | with_reducible refine below_alloc ?_ ?_ _ | with_reducible refine Below.setCell ?_ ?_ _ | with_reducible refine Below.drew ?_ | with_reducible refine below_drewN ?_ _ | with_reducible refine below_step (by assumption) ?_ ?_ | (with_reducible refine Below.trans ?_ (Below.mono (by assumption) ?_)) | exact Nat.le_refl _ | (simp; done) | (simp; omega) | omega))⟩
      · have b2 : decide ((pres.length : Int) ≤ 16) = false := by simp; omega
        have HH : Hid (opensP sigs pres msg after age (.mk k t n kids) = false) := by show _ = _; rw [H.out]; simp [h2]
        go_enter Tryz.func29, Tryz.ntmps29
        go_wp2_with fail
        refine (HR.out _ (by (repeat' (first | with_reducible exact gl_refl _ _ | with_reducible assumption | with_reducible refine gl_alloc ?_ _ | with_reducible refine gl_drewN ?_ _ | with_reducible refine gl_drew ?_ | (with_reducible refine gl_setn ?_ ?_ _; · (first | exact Nat.le_refl _ | (simp; done) | (simp; omega) | omega)) | (with_reducible refine gl_seti ?_ ?_ _; · (simp; done)) | with_reducible refine gl_below (by with_reducible assumption) ?_ | with_reducible refine gl_step (by with_reducible assumption) ?_ (by first | (simp; done) | (simp; omega)) | with_reducible refine gl_grown (by with_reducible assumption) ?_ (by first | (simp; done) | (simp; omega)))))).mono ?_
        rintro e w1 ⟨rfl, hb1⟩
        have g2 := blk_below (blk_new (w.alloc (.cells #[.int .u8 k, .string (bs t), .int .i64 n, .slice ad kids.length c] 25)) (.cells #[.slice sa sigs.length sc, .slice pa pres.length pc] 40)) hb1 (by simp)
        rw [show (w.alloc (.cells #[.int .u8 k, .string (bs t), .int .i64 n, .slice ad kids.length c] 25)).heap.size = w.heap.size + 1 by simp] at g2
        have f2 := blk_cell g2
        have e2 := blk_free g2
        clear g2
        go_wp2_with fail
        go_ret
        exact ⟨by rw [HH.out]; rfl, by (repeat' (first | with_reducible exact Below.refl _ _ | with_reducible assumption | with_reducible refine below_alloc ?_ ?_ _ | with_reducible refine Below.setCell ?_ ?_ _ | with_reducible refine Below.drew ?_ | with_reducible refine below_drewN ?_ _ | with_reducible refine below_step (by assumption) ?_ ?_ | (with_reducible refine Below.trans ?_ (Below.mono (by assumption) ?_)) | exact Nat.le_refl _ | (simp; done) | (simp; omega) | omega))⟩
    · have b1 : decide ((sigs.length : Int) ≤ 16) = false := by simp; omega
      have HH : Hid (opensP sigs pres msg after age (.mk k t n kids) = false) := by show _ = _; rw [H.out]; simp [h1]
      go_enter Tryz.func29, Tryz.ntmps29
      go_wp2_with fail
      refine (HR.out _ (by (repeat' (first | with_reducible exact gl_refl _ _ | with_reducible assumption | with_reducible refine gl_alloc ?_ _ | with_reducible refine gl_drewN ?_ _ | with_reducible refine gl_drew ?_ | (with_reducible refine gl_setn ?_ ?_ _; · (first | exact Nat.le_refl _ | (simp; done) | (simp; omega) | omega)) | (with_reducible refine gl_seti ?_ ?_ _; · (simp; done)) | with_reducible refine gl_below (by with_reducible assumption) ?_ | with_reducible refine gl_step (by with_reducible assumption) ?_ (by first | (simp; done) | (simp; omega)) | with_reducible refine gl_grown (by with_reducible assumption) ?_ (by first | (simp; done) | (simp; omega)))))).mono ?_
      rintro e w1 ⟨rfl, hb1⟩
      have g2 := blk_below (blk_new (w.alloc (.cells #[.int .u8 k, .string (bs t), .int .i64 n, .slice ad kids.length c] 25)) (.cells #[.slice sa sigs.length sc, .slice pa pres.length pc] 40)) hb1 (by simp)
      rw [show (w.alloc (.cells #[.int .u8 k, .string (bs t), .int .i64 n, .slice ad kids.length c] 25)).heap.size = w.heap.size + 1 by simp] at g2
      have f2 := blk_cell g2
      have e2 := blk_free g2
      clear g2
      go_wp2_with fail
      go_ret
      exact ⟨by rw [HH.out]; rfl, by (repeat' (first | with_reducible exact Below.refl _ _ | with_reducible assumption | with_reducible refine below_alloc ?_ ?_ _ | with_reducible refine Below.setCell ?_ ?_ _ | with_reducible refine Below.drew ?_ | with_reducible refine below_drewN ?_ _ | with_reducible refine below_step (by assumption) ?_ ?_ | (with_reducible refine Below.trans ?_ (Below.mono (by assumption) ?_)) | exact Nat.le_refl _ | (simp; done) | (simp; omega) | omega))⟩

set_option maxRecDepth 100000 in
set_option maxHeartbeats 16000000 in
theorem lLockOpens (x : LT) (v : Value) (q : Nat → Prop) (sa pa : Option Addr) (sc pc : Nat) (sigs pres : List (List UInt8)) (msg : List UInt8) (after age : Int) (hmsg : msg.length ≤ 9000000000000000000)
    (ra : -9223372036854775808 ≤ after ∧ after ≤ 9223372036854775807) (rg : -9223372036854775808 ≤ age ∧ age ≤ 9223372036854775807) (w : World) (hX : LockIn q w x v) (hS : TermsAt (.slice sa sigs.length sc) sigs w) (hP : TermsAt (.slice pa pres.length pc) pres w)
    (hsn : sigs.length ≤ 9000000000000000000) (hpn : pres.length ≤ 9000000000000000000) (hst : ∀ s ∈ sigs, s.length ≤ 9000000000000000000) (hpt : ∀ s ∈ pres, s.length ≤ 9000000000000000000) (hG : GOk w) :
    Calls Tryz.prog 5 #[v, .agg #[.slice sa sigs.length sc, .slice pa pres.length pc], .string (bs msg), .int .i64 after, .int .i64 age] w fun e w' => e = .returned (.bool true) ∧ Below w.heap.size w w' := by
  have HG0 := Lib.hid hG
  have HX0 := Lib.hid hX
  have HS0 := Lib.hid hS
  have HP0 := Lib.hid hP
  have HST := Lib.hid hst
  have HPT := Lib.hid hpt
  obtain ⟨k, t, n, ks⟩ := x
  obtain ⟨ad, c, rfl, _⟩ := lockIn_open hX
  clear hG hX hS hP hst hpt
  go_enter Tryz.func5, Tryz.ntmps5
  have hg0 : GL [] w w := gl_refl _ _
  have hs0 : w.heap.size ≤ w.heap.size := Nat.le_refl _
  go_wp2_with fail
  have HX1 := Lib.hid (lockIn_gl (gl_alloc (gl_alloc (gl_refl _ _) (.cells #[.int .u8 k, .string (bs t), .int .i64 n, .slice ad ks.length c] 25)) (.cells #[.slice sa sigs.length sc, .slice pa pres.length pc] 40)) _ _ HX0.out)
  have HS1 := Lib.hid (termsAt_gl HS0.out (gl_alloc (gl_alloc (gl_refl _ _) (.cells #[.int .u8 k, .string (bs t), .int .i64 n, .slice ad ks.length c] 25)) (.cells #[.slice sa sigs.length sc, .slice pa pres.length pc] 40)))
  have HP1 := Lib.hid (termsAt_gl HP0.out (gl_alloc (gl_alloc (gl_refl _ _) (.cells #[.int .u8 k, .string (bs t), .int .i64 n, .slice ad ks.length c] 25)) (.cells #[.slice sa sigs.length sc, .slice pa pres.length pc] 40)))
  have HA1 : Hid (((w.alloc (.cells #[.int .u8 k, .string (bs t), .int .i64 n, .slice ad ks.length c] 25)).alloc (.cells #[.slice sa sigs.length sc, .slice pa pres.length pc] 40)).heap[w.heap.size]? = some (.cells #[.int .u8 k, .string (bs t), .int .i64 n, .slice ad ks.length c] 25 (0, 0))) := by
    have h := blk_new w (.cells #[.int .u8 k, .string (bs t), .int .i64 n, .slice ad ks.length c] 25)
    exact (blk_alloc h (.cells #[.slice sa sigs.length sc, .slice pa pres.length pc] 40))
  have HWB1 : Hid (((w.alloc (.cells #[.int .u8 k, .string (bs t), .int .i64 n, .slice ad ks.length c] 25)).alloc (.cells #[.slice sa sigs.length sc, .slice pa pres.length pc] 40)).heap[w.heap.size + 1]? = some (.cells #[.slice sa sigs.length sc, .slice pa pres.length pc] 40 (0, 0))) := by
    have h := blk_new (w.alloc (.cells #[.int .u8 k, .string (bs t), .int .i64 n, .slice ad ks.length c] 25)) (.cells #[.slice sa sigs.length sc, .slice pa pres.length pc] 40)
    rw [show (w.alloc (.cells #[.int .u8 k, .string (bs t), .int .i64 n, .slice ad ks.length c] 25)).heap.size = w.heap.size + 1 by simp] at h
    exact h
  have HG1 := Lib.hid (gok_alloc (gok_alloc HG0.out (.cells #[.int .u8 k, .string (bs t), .int .i64 n, .slice ad ks.length c] 25)) (.cells #[.slice sa sigs.length sc, .slice pa pres.length pc] 40))
  have hg1 : GL [] w ((w.alloc (.cells #[.int .u8 k, .string (bs t), .int .i64 n, .slice ad ks.length c] 25)).alloc (.cells #[.slice sa sigs.length sc, .slice pa pres.length pc] 40)) := (gl_alloc (gl_alloc hg0 (.cells #[.int .u8 k, .string (bs t), .int .i64 n, .slice ad ks.length c] 25)) (.cells #[.slice sa sigs.length sc, .slice pa pres.length pc] 40))
  have geA : w.heap.size ≤ w.heap.size := by have := hg0.size; omega
  have gnA : gN ≤ w.heap.size := by have := HG0.out.size; omega
  have geWB : w.heap.size ≤ w.heap.size + 1 := by have := hg0.size; omega
  have gnWB : gN ≤ w.heap.size + 1 := by have := HG0.out.size; omega
  have ltAWB : w.heap.size < w.heap.size + 1 := by omega
  have neAWB : w.heap.size ≠ w.heap.size + 1 := by omega
  have neWBA : w.heap.size + 1 ≠ w.heap.size := by omega
  generalize ((w.alloc (.cells #[.int .u8 k, .string (bs t), .int .i64 n, .slice ad ks.length c] 25)).alloc (.cells #[.slice sa sigs.length sc, .slice pa pres.length pc] 40)) = w1 at *
  generalize w.heap.size + 1 = WB at *
  generalize w.heap.size = A at *
  have hs1 : w.heap.size ≤ w1.heap.size := hg1.size
  refine (lkSize 300 (by omega) (by omega) (.mk k t n ks) _ _ _ HX1.out).mono ?_
  rintro e w2 ⟨hb2, z1, rfl, hz10, hz11⟩
  have HWB2 := Lib.hid (blk_below HWB1.out hb2 (blk_lt HWB1.out))
  have HA2 := Lib.hid (blk_below HA1.out hb2 (blk_lt HA1.out))
  have HG2 := Lib.hid (gok_below HG1.out hb2)
  have hg2 : GL [] w w2 := gl_below hb2 hg1
  have hs2 : w.heap.size ≤ w2.heap.size := hg2.size
  have HX2 := Lib.hid (lockIn_gl (gl_below hb2 (gl_refl _ _)) _ _ HX1.out)
  have HS2 := Lib.hid (termsAt_gl HS1.out (gl_below hb2 (gl_refl _ _)))
  have HP2 := Lib.hid (termsAt_gl HP1.out (gl_below hb2 (gl_refl _ _)))
  by_cases h1 : z1 ≤ 300
  · skip
    have b1 : decide (300 < z1) = false := by simp; omega
    have fa1 := blk_cell HWB2.out
    have fb1 := blk_free HWB2.out
    have fl1 := blk_lt HWB2.out
    go_wp2_with fail
    refine (lLarge sa pa sc pc sigs pres msg _ HS2.out HP2.out hsn hpn).mono ?_
    rintro e w3 ⟨hb3, bl, rfl⟩
    clear fa1 fb1 fl1
    have HWB3 := Lib.hid (blk_below HWB2.out hb3 (blk_lt HWB2.out))
    have HA3 := Lib.hid (blk_below HA2.out hb3 (blk_lt HA2.out))
    have HG3 := Lib.hid (gok_below HG2.out hb3)
    have hg3 : GL [] w w3 := gl_below hb3 hg2
    have hs3 : w.heap.size ≤ w3.heap.size := hg3.size
    have HX3 := Lib.hid (lockIn_gl (gl_below hb3 (gl_refl _ _)) _ _ HX2.out)
    have HS3 := Lib.hid (termsAt_gl HS2.out (gl_below hb3 (gl_refl _ _)))
    have HP3 := Lib.hid (termsAt_gl HP2.out (gl_below hb3 (gl_refl _ _)))
    cases bl with
    | true =>
      go_wp2_with fail
      go_ret
      exact ⟨rfl, gl_to_below hg3⟩
    | false =>
      have hc1 := fun (W : World) (hgw : GL [] w3 W) => lkOpens (.mk k t n ks) _ _ _ _ sigs pres msg after age W (lockIn_gl hgw _ _ HX3.out) (termsAt_gl HS3.out hgw) (termsAt_gl HP3.out hgw) hsn hpn HST.out HPT.out ra rg (gok_gl HG3.out hgw (by simp))
      have hc2 := fun (W : World) (hgw : GL [] w3 W) => rlOpens (.mk k t n ks) _ _ _ _ sigs pres msg after age W (lockIn_gl hgw _ _ HX3.out) (termsAt_gl HS3.out hgw) (termsAt_gl HP3.out hgw) hsn hpn HST.out HPT.out
      have hw := fun (W : World) (hgw : GL [] w3 W) => lWorks11 W (gok_gl HG3.out hgw (by simp))
      generalize opensP sigs pres msg after age (.mk k t n ks) = zo at *
      have HC1 := Lib.hid hc1
      have HC2 := Lib.hid hc2
      have HW := Lib.hid hw
      clear hc1 hc2 hw
      have hg33 : GL [] w3 w3 := gl_refl _ _
      have fa2 := blk_cell HA3.out
      have fb2 := blk_free HA3.out
      have fl2 := blk_lt HA3.out
      have fa3 := blk_cell HWB3.out
      have fb3 := blk_free HWB3.out
      have fl3 := blk_lt HWB3.out
      cases zo
      all_goals
        go_wp2
        go_region_held3 (fun w' => w'.cell? ⟨A, 0, none⟩ = some (.int .u8 k) ∧ w'.cell? ⟨A, 1, none⟩ = some (.string (bs t)) ∧ w'.cell? ⟨A, 2, none⟩ = some (.int .i64 n) ∧ w'.cell? ⟨A, 3, none⟩ = some (.slice ad ks.length c) ∧ w'.cell? ⟨WB, 0, none⟩ = some (.slice sa sigs.length sc) ∧ w'.cell? ⟨WB, 1, none⟩ = some (.slice pa pres.length pc) ∧ GL [] w3 w')
          (first
            | (refine ⟨?_, ?_, ?_, ?_, ?_, ?_, ?_⟩
               · go_keep
               · go_keep
               · go_keep
               · go_keep
               · go_keep
               · go_keep
               · exact gl_drew hg33)
            | (go_split_ands
               refine ⟨?_, ?_, ?_, ?_, ?_, ?_, ?_⟩
               · exact (hbk.cell (World.block_lt_of_cell? _ _ (by assumption))).trans (by assumption)
               · exact (hbk.cell (World.block_lt_of_cell? _ _ (by assumption))).trans (by assumption)
               · exact (hbk.cell (World.block_lt_of_cell? _ _ (by assumption))).trans (by assumption)
               · exact (hbk.cell (World.block_lt_of_cell? _ _ (by assumption))).trans (by assumption)
               · exact (hbk.cell (World.block_lt_of_cell? _ _ (by assumption))).trans (by assumption)
               · exact (hbk.cell (World.block_lt_of_cell? _ _ (by assumption))).trans (by assumption)
               · exact gl_below hbk (by assumption)))
          ((first
            | (go_at_call 28; go_split_ands; refine (HC1.out _ (by assumption)).mono ?_; rintro e wk ⟨rfl, hbk⟩)
            | (go_at_call 29; go_split_ands; refine (HC2.out _ (by assumption)).mono ?_; rintro e wk ⟨rfl, hbk⟩)
            | (go_at_call 23; go_split_ands; refine (HW.out _ (by assumption)).mono ?_; rintro e wk ⟨rfl, hbk⟩)))
        all_goals
          go_wp2
          go_ret
          exact ⟨rfl, gl_to_below (gl_step (gl_below hbk (by assumption)) hg3 (by simp))⟩
  · skip
    have b1 : decide (300 < z1) = true := by simp; omega
    go_wp2_with fail
    go_ret
    exact ⟨rfl, gl_to_below hg2⟩

end Go.Proofs.YtfmckibiblhakaaGreatDoor
