/- The laws of layer 11: LockWrites. -/
import Derived.Test.YtfmckibiblhakaaGreatDoorLawL
import Derived.Test.YtfmckibiblhakaaGreatDoorLRefC
set_option linter.unusedSimpArgs false
set_option linter.unusedVariables false
namespace Go.Proofs.YtfmckibiblhakaaGreatDoor
open Go.RowKit

theorem lkSameTermsEq (xs : List (List UInt8)) (u v : Value) (w : World) (hn : xs.length ≤ 9000000000000000000) (hu : TermsAt u xs w) (hv : TermsAt v xs w) :
    Calls Tryz.prog 20 #[u, v] w fun e w' => e = .returned (.bool true) ∧ Below w.heap.size w w' := by
  have h := lkSameTerms xs xs u v w hn hu hv
  have e : decide (xs = xs) = true := by simp
  rw [e] at h
  exact h
theorem keysP_len (x : LT) : (keysP x).length ≤ 9000000000000000000 := by
  unfold keysP
  split
  · rename_i h
    unfold rightL at h
    rw [Bool.and_eq_true, decide_eq_true_eq] at h
    have := keysL_len x
    omega
  · simp

set_option maxRecDepth 100000 in
set_option maxHeartbeats 16000000 in
theorem lLockWrites (x : LT) (v : Value) (q : Nat → Prop) (w : World) (hX : LockIn q w x v) (hG : GOk w) :
    Calls Tryz.prog 3 #[v] w fun e w' => e = .returned (.bool true) ∧ Below w.heap.size w w' := by
  obtain ⟨y, ee, hw⟩ : ∃ y ee, writeV x = .tuple #[.string (bs y), .int .i64 ee] := by unfold writeV; split <;> exact ⟨_, _, rfl⟩
  have HW := Lib.hid hw
  have HG0 := Lib.hid hG
  have HX0 := Lib.hid hX
  obtain ⟨k, t, n, ks⟩ := x
  obtain ⟨ad, c, rfl, _⟩ := lockIn_open hX
  clear hG hX hw
  go_enter Tryz.func3, Tryz.ntmps3
  have hg0 : GL [] w w := gl_refl _ _
  have hs0 : w.heap.size ≤ w.heap.size := Nat.le_refl _
  go_wp2_with fail
  have HX1 := Lib.hid (lockIn_gl (gl_alloc (gl_refl _ _) (.cells #[.int .u8 k, .string (bs t), .int .i64 n, .slice ad ks.length c] 25)) _ _ HX0.out)
  have HA1 : Hid ((w.alloc (.cells #[.int .u8 k, .string (bs t), .int .i64 n, .slice ad ks.length c] 25)).heap[w.heap.size]? = some (.cells #[.int .u8 k, .string (bs t), .int .i64 n, .slice ad ks.length c] 25 (0, 0))) := by
    have h := blk_new w (.cells #[.int .u8 k, .string (bs t), .int .i64 n, .slice ad ks.length c] 25)
    exact h
  have HG1 := Lib.hid (gok_alloc HG0.out (.cells #[.int .u8 k, .string (bs t), .int .i64 n, .slice ad ks.length c] 25))
  have hg1 : GL [] w (w.alloc (.cells #[.int .u8 k, .string (bs t), .int .i64 n, .slice ad ks.length c] 25)) := (gl_alloc hg0 (.cells #[.int .u8 k, .string (bs t), .int .i64 n, .slice ad ks.length c] 25))
  have geA : w.heap.size ≤ w.heap.size := by have := hg0.size; omega
  have gnA : gN ≤ w.heap.size := by have := HG0.out.size; omega
  generalize (w.alloc (.cells #[.int .u8 k, .string (bs t), .int .i64 n, .slice ad ks.length c] 25)) = w1 at *
  generalize w.heap.size = A at *
  have hs1 : w.heap.size ≤ w1.heap.size := hg1.size
  refine (lkSize 300 (by omega) (by omega) (.mk k t n ks) _ _ _ HX1.out).mono ?_
  rintro e w2 ⟨hb2, z1, rfl, hz10, hz11⟩
  have HA2 := Lib.hid (blk_below HA1.out hb2 (blk_lt HA1.out))
  have HG2 := Lib.hid (gok_below HG1.out hb2)
  have hg2 : GL [] w w2 := gl_below hb2 hg1
  have hs2 : w.heap.size ≤ w2.heap.size := hg2.size
  have HX2 := Lib.hid (lockIn_gl (gl_below hb2 (gl_refl _ _)) _ _ HX1.out)
  by_cases h1 : z1 ≤ 300
  · skip
    have b1 : decide (300 < z1) = false := by simp; omega
    have fa1 := blk_cell HA2.out
    have fb1 := blk_free HA2.out
    have fl1 := blk_lt HA2.out
    go_wp2_with fail
    refine (lkWrite (.mk k t n ks) _ _ _ HX2.out HG2.out).mono ?_
    rintro e w3 ⟨rfl, hb3⟩
    rw [HW.out]
    clear fa1 fb1 fl1
    have HA3 := Lib.hid (blk_below HA2.out hb3 (blk_lt HA2.out))
    have HG3 := Lib.hid (gok_below HG2.out hb3)
    have hg3 : GL [] w w3 := gl_below hb3 hg2
    have hs3 : w.heap.size ≤ w3.heap.size := hg3.size
    have HX3 := Lib.hid (lockIn_gl (gl_below hb3 (gl_refl _ _)) _ _ HX2.out)
    have fa2 := blk_cell HA3.out
    have fb2 := blk_free HA3.out
    have fl2 := blk_lt HA3.out
    go_wp2_with fail
    refine (rlWrite (.mk k t n ks) _ _ _ HX3.out).mono ?_
    rintro e w4 ⟨rfl, hb4⟩
    rw [HW.out]
    clear fa2 fb2 fl2
    have HA4 := Lib.hid (blk_below HA3.out hb4 (blk_lt HA3.out))
    have HG4 := Lib.hid (gok_below HG3.out hb4)
    have hg4 : GL [] w w4 := gl_below hb4 hg3
    have hs4 : w.heap.size ≤ w4.heap.size := hg4.size
    have HX4 := Lib.hid (lockIn_gl (gl_below hb4 (gl_refl _ _)) _ _ HX3.out)
    have hc1 := fun (W : World) (hgw : GL [] w4 W) => lkRight (.mk k t n ks) _ _ W (lockIn_gl hgw _ _ HX4.out) (gok_gl HG4.out hgw (by simp))
    have hc2 := fun (W : World) (hgw : GL [] w4 W) => rlRight (.mk k t n ks) _ _ W (lockIn_gl hgw _ _ HX4.out)
    have hc3 := fun (W : World) (hgw : GL [] w4 W) => lkKeys (.mk k t n ks) _ _ W (lockIn_gl hgw _ _ HX4.out) (gok_gl HG4.out hgw (by simp))
    have hc4 := fun (W : World) (hgw : GL [] w4 W) => rlKeys (.mk k t n ks) _ _ W (lockIn_gl hgw _ _ HX4.out)
    have hkl : (keysP (.mk k t n ks)).length ≤ 9000000000000000000 := keysP_len _
    have hw := fun (W : World) (hgw : GL [] w4 W) => lWorks11 W (gok_gl HG4.out hgw (by simp))
    generalize rightL (.mk k t n ks) = zo at *
    generalize keysP (.mk k t n ks) = kz at *
    have HC1 := Lib.hid hc1
    have HC2 := Lib.hid hc2
    have HC3 := Lib.hid hc3
    have HC4 := Lib.hid hc4
    have HWW := Lib.hid hw
    clear hc1 hc2 hc3 hc4 hw
    have hg44 : GL [] w4 w4 := gl_refl _ _
    have fa3 := blk_cell HA4.out
    have fb3 := blk_free HA4.out
    have fl3 := blk_lt HA4.out
    cases zo
    all_goals
      go_wp2
      go_region_held3 (fun w' => w'.cell? ⟨A, 0, none⟩ = some (.int .u8 k) ∧ w'.cell? ⟨A, 1, none⟩ = some (.string (bs t)) ∧ w'.cell? ⟨A, 2, none⟩ = some (.int .i64 n) ∧ w'.cell? ⟨A, 3, none⟩ = some (.slice ad ks.length c) ∧ GL [] w4 w')
        (first
          | (refine ⟨?_, ?_, ?_, ?_, ?_⟩
             · go_keep
             · go_keep
             · go_keep
             · go_keep
             · exact gl_drew hg44)
          | (go_split_ands
             refine ⟨?_, ?_, ?_, ?_, ?_⟩
             · exact (hbk.cell (World.block_lt_of_cell? _ _ (by assumption))).trans (by assumption)
             · exact (hbk.cell (World.block_lt_of_cell? _ _ (by assumption))).trans (by assumption)
             · exact (hbk.cell (World.block_lt_of_cell? _ _ (by assumption))).trans (by assumption)
             · exact (hbk.cell (World.block_lt_of_cell? _ _ (by assumption))).trans (by assumption)
             · exact gl_below hbk (by assumption)))
        ((first
          | (go_at_call 18; go_split_ands; refine (HC1.out _ (by assumption)).mono ?_; rintro e wk ⟨rfl, hbk⟩)
          | (go_at_call 19; go_split_ands; refine (HC2.out _ (by assumption)).mono ?_; rintro e wk ⟨rfl, hbk⟩)
          | (go_at_call 21; go_split_ands; refine (HC3.out _ (by assumption)).mono ?_; rintro e wk ⟨hbk, uk, rfl, huk⟩; obtain ⟨ak, ck, hvk, _⟩ := termsAt_open huk; subst hvk; have HUK := Lib.hid huk; clear huk)
          | (go_at_call 22; go_split_ands; refine (HC4.out _ (by assumption)).mono ?_; rintro e wk ⟨hbk, um, rfl, hum⟩; obtain ⟨am, cm, hvm, _⟩ := termsAt_open hum; subst hvm; have HUM := Lib.hid hum; clear hum; have HUK2 := Lib.hid (termsAt_gl HUK.out (gl_below hbk (by first | exact gl_refl _ _ | exact gl_drew (gl_refl _ _) | exact gl_drewN (gl_refl _ _) _))))
          | (go_at_call 23; go_split_ands; refine (HWW.out _ (by assumption)).mono ?_; rintro e wk ⟨rfl, hbk⟩)
          | (go_at_call 20; go_split_ands; refine (lkSameTermsEq kz _ _ _ hkl (termsAt_gl HUK2.out (by first | exact gl_refl _ _ | exact gl_drew (gl_refl _ _) | exact gl_drewN (gl_refl _ _) _)) (termsAt_gl HUM.out (by first | exact gl_refl _ _ | exact gl_drew (gl_refl _ _) | exact gl_drewN (gl_refl _ _) _))).mono ?_; rintro e wk ⟨rfl, hbk⟩)))
      all_goals
        go_wp2
        go_ret
        exact ⟨rfl, gl_to_below (gl_step (gl_below hbk (by assumption)) hg4 (by simp))⟩
  · skip
    have b1 : decide (300 < z1) = true := by simp; omega
    go_wp2_with fail
    go_ret
    exact ⟨rfl, gl_to_below hg2⟩

end Go.Proofs.YtfmckibiblhakaaGreatDoor
