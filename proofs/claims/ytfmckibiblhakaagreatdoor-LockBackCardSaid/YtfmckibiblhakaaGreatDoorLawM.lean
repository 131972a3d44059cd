/- The laws of layer 11: LockBack. -/
import Derived.Test.YtfmckibiblhakaaGreatDoorLawL
set_option linter.unusedSimpArgs false
set_option linter.unusedVariables false
namespace Go.Proofs.YtfmckibiblhakaaGreatDoor
open Go.RowKit

theorem option_two {α : Type} (o : Option α) : o = none ∨ ∃ y, o = some y := by
  cases o with
  | none => exact .inl rfl
  | some y => exact .inr ⟨y, rfl⟩

set_option maxRecDepth 100000 in
set_option maxHeartbeats 16000000 in
theorem lLockBack (a b : LT) (va vb : Value) (s : List UInt8) (hsl : s.length ≤ 9000000000000000000) (q q2 : Nat → Prop) (w : World) (ha : LockIn q w a va) (hb : LockIn q2 w b vb) (hG : GOk w) :
    Calls Tryz.prog 6 #[va, vb, .string (bs s)] w fun e w' => e = .returned (.bool true) ∧ Below w.heap.size w w' := by
  have HG0 := Lib.hid hG
  have HX0 := Lib.hid (lockIn_mono (q := fun _ => True) (fun _ _ _ => trivial) _ _ ha)
  have HY0 := Lib.hid (lockIn_mono (q := fun _ => True) (fun _ _ _ => trivial) _ _ hb)
  obtain ⟨ka, ta, na, ksa⟩ := a
  obtain ⟨ada, ca, rfl, _⟩ := lockIn_open ha
  obtain ⟨kb, tb, nb, ksb⟩ := b
  obtain ⟨adb, cb, rfl, _⟩ := lockIn_open hb
  clear hG ha hb
  go_enter Tryz.func6, Tryz.ntmps6
  have hg0 : GL [] w w := gl_refl _ _
  have hs0 : w.heap.size ≤ w.heap.size := Nat.le_refl _
  go_wp2_with fail
  have HX1 := Lib.hid (lockIn_gl (gl_alloc (gl_alloc (gl_refl _ _) (.cells #[.int .u8 ka, .string (bs ta), .int .i64 na, .slice ada ksa.length ca] 25)) (.cells #[.int .u8 kb, .string (bs tb), .int .i64 nb, .slice adb ksb.length cb] 25)) _ _ HX0.out)
  have HY1 := Lib.hid (lockIn_gl (gl_alloc (gl_alloc (gl_refl _ _) (.cells #[.int .u8 ka, .string (bs ta), .int .i64 na, .slice ada ksa.length ca] 25)) (.cells #[.int .u8 kb, .string (bs tb), .int .i64 nb, .slice adb ksb.length cb] 25)) _ _ HY0.out)
  have HA1 : Hid (((w.alloc (.cells #[.int .u8 ka, .string (bs ta), .int .i64 na, .slice ada ksa.length ca] 25)).alloc (.cells #[.int .u8 kb, .string (bs tb), .int .i64 nb, .slice adb ksb.length cb] 25)).heap[w.heap.size]? = some (.cells #[.int .u8 ka, .string (bs ta), .int .i64 na, .slice ada ksa.length ca] 25 (0, 0))) := by
    have h := blk_new w (.cells #[.int .u8 ka, .string (bs ta), .int .i64 na, .slice ada ksa.length ca] 25)
    exact (blk_alloc h (.cells #[.int .u8 kb, .string (bs tb), .int .i64 nb, .slice adb ksb.length cb] 25))
  have HB1 : Hid (((w.alloc (.cells #[.int .u8 ka, .string (bs ta), .int .i64 na, .slice ada ksa.length ca] 25)).alloc (.cells #[.int .u8 kb, .string (bs tb), .int .i64 nb, .slice adb ksb.length cb] 25)).heap[w.heap.size + 1]? = some (.cells #[.int .u8 kb, .string (bs tb), .int .i64 nb, .slice adb ksb.length cb] 25 (0, 0))) := by
    have h := blk_new (w.alloc (.cells #[.int .u8 ka, .string (bs ta), .int .i64 na, .slice ada ksa.length ca] 25)) (.cells #[.int .u8 kb, .string (bs tb), .int .i64 nb, .slice adb ksb.length cb] 25)
    rw [show (w.alloc (.cells #[.int .u8 ka, .string (bs ta), .int .i64 na, .slice ada ksa.length ca] 25)).heap.size = w.heap.size + 1 by simp] at h
    exact h
  have HG1 := Lib.hid (gok_alloc (gok_alloc HG0.out (.cells #[.int .u8 ka, .string (bs ta), .int .i64 na, .slice ada ksa.length ca] 25)) (.cells #[.int .u8 kb, .string (bs tb), .int .i64 nb, .slice adb ksb.length cb] 25))
  have hg1 : GL [] w ((w.alloc (.cells #[.int .u8 ka, .string (bs ta), .int .i64 na, .slice ada ksa.length ca] 25)).alloc (.cells #[.int .u8 kb, .string (bs tb), .int .i64 nb, .slice adb ksb.length cb] 25)) := (gl_alloc (gl_alloc hg0 (.cells #[.int .u8 ka, .string (bs ta), .int .i64 na, .slice ada ksa.length ca] 25)) (.cells #[.int .u8 kb, .string (bs tb), .int .i64 nb, .slice adb ksb.length cb] 25))
  have geA : w.heap.size ≤ w.heap.size := by have := hg0.size; omega
  have gnA : gN ≤ w.heap.size := by have := HG0.out.size; omega
  have geB : w.heap.size ≤ w.heap.size + 1 := by have := hg0.size; omega
  have gnB : gN ≤ w.heap.size + 1 := by have := HG0.out.size; omega
  have ltAB : w.heap.size < w.heap.size + 1 := by omega
  have neAB : w.heap.size ≠ w.heap.size + 1 := by omega
  have neBA : w.heap.size + 1 ≠ w.heap.size := by omega
  generalize ((w.alloc (.cells #[.int .u8 ka, .string (bs ta), .int .i64 na, .slice ada ksa.length ca] 25)).alloc (.cells #[.int .u8 kb, .string (bs tb), .int .i64 nb, .slice adb ksb.length cb] 25)) = w1 at *
  generalize w.heap.size + 1 = B at *
  generalize w.heap.size = A at *
  have hs1 : w.heap.size ≤ w1.heap.size := hg1.size
  refine (lkSize 300 (by omega) (by omega) (.mk ka ta na ksa) _ _ _ HX1.out).mono ?_
  rintro e w2 ⟨hb2, z1, rfl, hz10, hz11⟩
  have HB2 := Lib.hid (blk_below HB1.out hb2 (blk_lt HB1.out))
  have HA2 := Lib.hid (blk_below HA1.out hb2 (blk_lt HA1.out))
  have HG2 := Lib.hid (gok_below HG1.out hb2)
  have hg2 : GL [] w w2 := gl_below hb2 hg1
  have hs2 : w.heap.size ≤ w2.heap.size := hg2.size
  have HX2 := Lib.hid (lockIn_gl (gl_below hb2 (gl_refl _ _)) _ _ HX1.out)
  have HY2 := Lib.hid (lockIn_gl (gl_below hb2 (gl_refl _ _)) _ _ HY1.out)
  by_cases h1 : z1 ≤ 300
  · skip
    have b1 : decide (300 < z1) = false := by simp; omega
    have fa1 := blk_cell HB2.out
    have fb1 := blk_free HB2.out
    have fl1 := blk_lt HB2.out
    go_wp2_with fail
    refine (lkSize 300 (by omega) (by omega) (.mk kb tb nb ksb) _ _ _ HY2.out).mono ?_
    rintro e w3 ⟨hb3, z2, rfl, hz20, hz21⟩
    clear fa1 fb1 fl1
    have HB3 := Lib.hid (blk_below HB2.out hb3 (blk_lt HB2.out))
    have HA3 := Lib.hid (blk_below HA2.out hb3 (blk_lt HA2.out))
    have HG3 := Lib.hid (gok_below HG2.out hb3)
    have hg3 : GL [] w w3 := gl_below hb3 hg2
    have hs3 : w.heap.size ≤ w3.heap.size := hg3.size
    have HX3 := Lib.hid (lockIn_gl (gl_below hb3 (gl_refl _ _)) _ _ HX2.out)
    have HY3 := Lib.hid (lockIn_gl (gl_below hb3 (gl_refl _ _)) _ _ HY2.out)
    by_cases h2 : z2 ≤ 300
    · skip
      have b2 : decide (300 < z2) = false := by simp; omega
      by_cases h3 : s.length ≤ 3000
      · skip
        have b3 : decide (3000 < (s.length : Int)) = false := by simp; omega
        by_cases ha : rightL (.mk ka ta na ksa) = true
        · skip
          have hwa : writeV (.mk ka ta na ksa) = .tuple #[.string (bs (lockT (.mk ka ta na ksa))), .int .i64 0] := by unfold writeV; rw [if_pos ha]
          have hra := (readP_iff (lockT (.mk ka ta na ksa)) (.mk ka ta na ksa)).2 ⟨ha, rfl⟩
          have hla : (lockT (.mk ka ta na ksa)).length ≤ 100000000000 := by
            have hx := ha
            unfold rightL at hx
            rw [Bool.and_eq_true, decide_eq_true_eq] at hx
            have := lockT_len _ hx.2
            omega
          have HWA := Lib.hid hwa
          have HRA0 := Lib.hid hra
          have HA1 := Lib.hid ha
          clear hwa hra ha
          have fa2 := blk_cell HA3.out
          have fb2 := blk_free HA3.out
          have fl2 := blk_lt HA3.out
          go_wp2_with fail
          refine (lkWrite (.mk ka ta na ksa) _ _ _ HX3.out HG3.out).mono ?_
          rintro e w4 ⟨rfl, hb4⟩
          rw [HWA.out]
          clear fa2 fb2 fl2
          have HB4 := Lib.hid (blk_below HB3.out hb4 (blk_lt HB3.out))
          have HA4 := Lib.hid (blk_below HA3.out hb4 (blk_lt HA3.out))
          have HG4 := Lib.hid (gok_below HG3.out hb4)
          have hg4 : GL [] w w4 := gl_below hb4 hg3
          have hs4 : w.heap.size ≤ w4.heap.size := hg4.size
          have HX4 := Lib.hid (lockIn_gl (gl_below hb4 (gl_refl _ _)) _ _ HX3.out)
          have HY4 := Lib.hid (lockIn_gl (gl_below hb4 (gl_refl _ _)) _ _ HY3.out)
          have fa3 := blk_cell HB4.out
          have fb3 := blk_free HB4.out
          have fl3 := blk_lt HB4.out
          go_wp2_with fail
          clear fa3 fb3 fl3
          have ha := HA1.out
          have hra := HRA0.out
          clear HWA HRA0 HA1
          by_cases hb : rightL (.mk kb tb nb ksb) = true
          · skip
            have hwb : writeV (.mk kb tb nb ksb) = .tuple #[.string (bs (lockT (.mk kb tb nb ksb))), .int .i64 0] := by unfold writeV; rw [if_pos hb]
            have hinj := lockT_inj ha hb
            rcases Bool.eq_false_or_eq_true (sameL (.mk ka ta na ksa) (.mk kb tb nb ksb)) with hab | hab
            · skip
              have hxy : lockT (.mk ka ta na ksa) = lockT (.mk kb tb nb ksb) := hinj.2 (sameL_eq _ _ hab)
              rw [← hxy] at hwb
              clear hxy
              clear hinj ha hb
              have HRA := Lib.hid hra
              have HWB := Lib.hid hwb
              have HAB := Lib.hid hab
              clear hra hwb hab
              generalize lockT (.mk ka ta na ksa) = xa at *
              refine (lkWrite (.mk kb tb nb ksb) _ _ _ HY4.out HG4.out).mono ?_
              rintro e w5 ⟨rfl, hb5⟩
              rw [HWB.out]
              have HB5 := Lib.hid (blk_below HB4.out hb5 (blk_lt HB4.out))
              have HA5 := Lib.hid (blk_below HA4.out hb5 (blk_lt HA4.out))
              have HG5 := Lib.hid (gok_below HG4.out hb5)
              have hg5 : GL [] w w5 := gl_below hb5 hg4
              have hs5 : w.heap.size ≤ w5.heap.size := hg5.size
              have HX5 := Lib.hid (lockIn_gl (gl_below hb5 (gl_refl _ _)) _ _ HX4.out)
              have HY5 := Lib.hid (lockIn_gl (gl_below hb5 (gl_refl _ _)) _ _ HY4.out)
              go_wp2_with fail
              refine (lkRead xa hla _ HG5.out).mono ?_
              intro e w6 hp
              rw [HRA.out] at hp
              obtain ⟨hb6, v6, rfl, hl6⟩ := hp
              obtain ⟨adc, cc, rfl, _⟩ := lockIn_open hl6
              have HC6 := Lib.hid (lockIn_mono (q := fun _ => True) (fun _ _ _ => trivial) _ _ hl6)
              clear hl6
              have HX6 := Lib.hid (lockIn_gl (gl_below hb6 (gl_refl _ _)) _ _ HX5.out)
              have HY6 := Lib.hid (lockIn_gl (gl_below hb6 (gl_refl _ _)) _ _ HY5.out)
              have HA6 := Lib.hid (blk_below HA5.out hb6 (blk_lt HA5.out))
              have HB6 := Lib.hid (blk_below HB5.out hb6 (blk_lt HB5.out))
              have HG6 := Lib.hid (gok_below HG5.out hb6)
              have hg6 : GL [] w w6 := gl_below hb6 hg5
              have hs6 := hg6.size
              have fa4 := blk_cell HA6.out
              have fb4 := blk_free HA6.out
              have fl4 := blk_lt HA6.out
              have flx1 : A < w6.heap.size + 1 := by omega
              go_wp2_with fail
              clear fa4 fb4 fl4
              clear flx1
              have HX7 := Lib.hid (lockIn_gl (gl_alloc (gl_refl _ _) (.cells #[.int .u8 ka, .string (bs ta), .int .i64 na, .slice adc ksa.length cc] 25)) _ _ HX6.out)
              have HY7 := Lib.hid (lockIn_gl (gl_alloc (gl_refl _ _) (.cells #[.int .u8 ka, .string (bs ta), .int .i64 na, .slice adc ksa.length cc] 25)) _ _ HY6.out)
              have HC7 := Lib.hid (lockIn_gl (gl_alloc (gl_refl _ _) (.cells #[.int .u8 ka, .string (bs ta), .int .i64 na, .slice adc ksa.length cc] 25)) _ _ HC6.out)
              have HB7 := Lib.hid (blk_alloc HB6.out (.cells #[.int .u8 ka, .string (bs ta), .int .i64 na, .slice adc ksa.length cc] 25))
              have ltBCB : B < w6.heap.size := by have := blk_lt HB6.out; omega
              have neBCB : B ≠ w6.heap.size := by omega
              have neCBB : w6.heap.size ≠ B := by omega
              have HA7 := Lib.hid (blk_alloc HA6.out (.cells #[.int .u8 ka, .string (bs ta), .int .i64 na, .slice adc ksa.length cc] 25))
              have ltACB : A < w6.heap.size := by have := blk_lt HA6.out; omega
              have neACB : A ≠ w6.heap.size := by omega
              have neCBA : w6.heap.size ≠ A := by omega
              have HCB7 : Hid ((w6.alloc (.cells #[.int .u8 ka, .string (bs ta), .int .i64 na, .slice adc ksa.length cc] 25)).heap[w6.heap.size]? = some (.cells #[.int .u8 ka, .string (bs ta), .int .i64 na, .slice adc ksa.length cc] 25 (0, 0))) := by
                have h := blk_new w6 (.cells #[.int .u8 ka, .string (bs ta), .int .i64 na, .slice adc ksa.length cc] 25)
                exact h
              have HG7 := Lib.hid (gok_alloc HG6.out (.cells #[.int .u8 ka, .string (bs ta), .int .i64 na, .slice adc ksa.length cc] 25))
              have hg7 : GL [] w (w6.alloc (.cells #[.int .u8 ka, .string (bs ta), .int .i64 na, .slice adc ksa.length cc] 25)) := (gl_alloc hg6 (.cells #[.int .u8 ka, .string (bs ta), .int .i64 na, .slice adc ksa.length cc] 25))
              have geCB : w.heap.size ≤ w6.heap.size := by have := hg6.size; omega
              have gnCB : gN ≤ w6.heap.size := by have := HG6.out.size; omega
              generalize (w6.alloc (.cells #[.int .u8 ka, .string (bs ta), .int .i64 na, .slice adc ksa.length cc] 25)) = w7 at *
              generalize w6.heap.size = CB at *
              have hs7 : w.heap.size ≤ w7.heap.size := hg7.size
              refine (lkSame (.mk ka ta na ksa) (.mk ka ta na ksa) _ _ _ _ _ HX7.out HC7.out).mono ?_
              rintro e w8 ⟨rfl, hb8⟩
              rw [sameL_self]
              have HB8 := Lib.hid (blk_below HB7.out hb8 (blk_lt HB7.out))
              have HA8 := Lib.hid (blk_below HA7.out hb8 (blk_lt HA7.out))
              have HCB8 := Lib.hid (blk_below HCB7.out hb8 (blk_lt HCB7.out))
              have HG8 := Lib.hid (gok_below HG7.out hb8)
              have hg8 : GL [] w w8 := gl_below hb8 hg7
              have hs8 : w.heap.size ≤ w8.heap.size := hg8.size
              have HX8 := Lib.hid (lockIn_gl (gl_below hb8 (gl_refl _ _)) _ _ HX7.out)
              have HY8 := Lib.hid (lockIn_gl (gl_below hb8 (gl_refl _ _)) _ _ HY7.out)
              have HC8 := Lib.hid (lockIn_gl (gl_below hb8 (gl_refl _ _)) _ _ HC7.out)
              have fa5 := blk_cell HA8.out
              have fb5 := blk_free HA8.out
              have fl5 := blk_lt HA8.out
              have fa6 := blk_cell HB8.out
              have fb6 := blk_free HB8.out
              have fl6 := blk_lt HB8.out
              go_wp2_with fail
              refine (lkSame (.mk ka ta na ksa) (.mk kb tb nb ksb) _ _ _ _ _ HX8.out HY8.out).mono ?_
              rintro e w9 ⟨rfl, hb9⟩
              rw [HAB.out]
              clear fa5 fb5 fl5 fa6 fb6 fl6
              have HB9 := Lib.hid (blk_below HB8.out hb9 (blk_lt HB8.out))
              have HA9 := Lib.hid (blk_below HA8.out hb9 (blk_lt HA8.out))
              have HCB9 := Lib.hid (blk_below HCB8.out hb9 (blk_lt HCB8.out))
              have HG9 := Lib.hid (gok_below HG8.out hb9)
              have hg9 : GL [] w w9 := gl_below hb9 hg8
              have hs9 : w.heap.size ≤ w9.heap.size := hg9.size
              have HX9 := Lib.hid (lockIn_gl (gl_below hb9 (gl_refl _ _)) _ _ HX8.out)
              have HY9 := Lib.hid (lockIn_gl (gl_below hb9 (gl_refl _ _)) _ _ HY8.out)
              have HC9 := Lib.hid (lockIn_gl (gl_below hb9 (gl_refl _ _)) _ _ HC8.out)
              go_wp2_with fail
              rcases option_two (readP cutP limP s) with hs | ⟨y, hs⟩
              · skip
                have HRS := Lib.hid hs
                clear hs
                refine (lkRead s (by omega) _ HG9.out).mono ?_
                intro e wr hp
                rw [HRS.out] at hp
                obtain ⟨hbr, rfl⟩ := hp
                have HGr := Lib.hid (gok_below HG9.out hbr)
                have hgr : GL [] w wr := gl_below hbr hg9
                have hsr := hgr.size
                go_wp2_with fail
                have HCCq : Hid ((wr.alloc (.cells #[.int .u8 0, .string (bs []), .int .i64 0, .slice none 0 0] 25)).heap[wr.heap.size]? = some (.cells #[.int .u8 0, .string (bs []), .int .i64 0, .slice none 0 0] 25 (0, 0))) := by
                  have h := blk_new wr (.cells #[.int .u8 0, .string (bs []), .int .i64 0, .slice none 0 0] 25)
                  exact h
                have HGq := Lib.hid (gok_alloc HGr.out (.cells #[.int .u8 0, .string (bs []), .int .i64 0, .slice none 0 0] 25))
                have hgq : GL [] w (wr.alloc (.cells #[.int .u8 0, .string (bs []), .int .i64 0, .slice none 0 0] 25)) := (gl_alloc hgr (.cells #[.int .u8 0, .string (bs []), .int .i64 0, .slice none 0 0] 25))
                have geCC : w.heap.size ≤ wr.heap.size := by have := hgr.size; omega
                have gnCC : gN ≤ wr.heap.size := by have := HGr.out.size; omega
                generalize (wr.alloc (.cells #[.int .u8 0, .string (bs []), .int .i64 0, .slice none 0 0] 25)) = wq at *
                generalize wr.heap.size = CC at *
                have hsq : w.heap.size ≤ wq.heap.size := hgq.size
                refine (lWorks11 _ HGq.out).mono ?_
                rintro e wz ⟨rfl, hbz⟩
                have HCCz := Lib.hid (blk_below HCCq.out hbz (blk_lt HCCq.out))
                have HGz := Lib.hid (gok_below HGq.out hbz)
                have hgz : GL [] w wz := gl_below hbz hgq
                have hsz : w.heap.size ≤ wz.heap.size := hgz.size
                go_wp2_with fail
                go_ret
                exact ⟨rfl, gl_to_below hgz⟩
              · skip
                obtain ⟨hsr1, hsr2⟩ := (readP_iff s y).1 hs
                have hwy : writeV y = .tuple #[.string (bs s), .int .i64 0] := by unfold writeV; rw [if_pos hsr1, hsr2]
                have HRS := Lib.hid hs
                have HWY := Lib.hid hwy
                have HRY := Lib.hid hsr1
                clear hs hsr1 hsr2 hwy
                obtain ⟨ky, ty, ny, ksy⟩ := y
                refine (lkRead s (by omega) _ HG9.out).mono ?_
                intro e wr hp
                rw [HRS.out] at hp
                obtain ⟨hbr, vr, rfl, hlr⟩ := hp
                obtain ⟨ady, cy, rfl, _⟩ := lockIn_open hlr
                have HCr := Lib.hid hlr
                clear hlr
                have HGr := Lib.hid (gok_below HG9.out hbr)
                have hgr : GL [] w wr := gl_below hbr hg9
                have hsr := hgr.size
                go_wp2_with fail
                have HCq := Lib.hid (lockIn_gl (gl_alloc (gl_refl _ _) (.cells #[.int .u8 ky, .string (bs ty), .int .i64 ny, .slice ady ksy.length cy] 25)) _ _ HCr.out)
                have HCCq : Hid ((wr.alloc (.cells #[.int .u8 ky, .string (bs ty), .int .i64 ny, .slice ady ksy.length cy] 25)).heap[wr.heap.size]? = some (.cells #[.int .u8 ky, .string (bs ty), .int .i64 ny, .slice ady ksy.length cy] 25 (0, 0))) := by
                  have h := blk_new wr (.cells #[.int .u8 ky, .string (bs ty), .int .i64 ny, .slice ady ksy.length cy] 25)
                  exact h
                have HGq := Lib.hid (gok_alloc HGr.out (.cells #[.int .u8 ky, .string (bs ty), .int .i64 ny, .slice ady ksy.length cy] 25))
                have hgq : GL [] w (wr.alloc (.cells #[.int .u8 ky, .string (bs ty), .int .i64 ny, .slice ady ksy.length cy] 25)) := (gl_alloc hgr (.cells #[.int .u8 ky, .string (bs ty), .int .i64 ny, .slice ady ksy.length cy] 25))
                have geCC : w.heap.size ≤ wr.heap.size := by have := hgr.size; omega
                have gnCC : gN ≤ wr.heap.size := by have := HGr.out.size; omega
                generalize (wr.alloc (.cells #[.int .u8 ky, .string (bs ty), .int .i64 ny, .slice ady ksy.length cy] 25)) = wq at *
                generalize wr.heap.size = CC at *
                have hsq : w.heap.size ≤ wq.heap.size := hgq.size
                refine (lkWrite (.mk ky ty ny ksy) _ _ _ HCq.out HGq.out).mono ?_
                rintro e wu ⟨rfl, hbu⟩
                rw [HWY.out]
                have HCCu := Lib.hid (blk_below HCCq.out hbu (blk_lt HCCq.out))
                have HGu := Lib.hid (gok_below HGq.out hbu)
                have hgu : GL [] w wu := gl_below hbu hgq
                have hsu : w.heap.size ≤ wu.heap.size := hgu.size
                have HCu := Lib.hid (lockIn_gl (gl_below hbu (gl_refl _ _)) _ _ HCq.out)
                have fa7 := blk_cell HCCu.out
                have fb7 := blk_free HCCu.out
                have fl7 := blk_lt HCCu.out
                go_wp2_with fail
                refine (lkRight (.mk ky ty ny ksy) _ _ _ HCu.out HGu.out).mono ?_
                rintro e wv ⟨rfl, hbv⟩
                rw [HRY.out]
                clear fa7 fb7 fl7
                have HCCv := Lib.hid (blk_below HCCu.out hbv (blk_lt HCCu.out))
                have HGv := Lib.hid (gok_below HGu.out hbv)
                have hgv : GL [] w wv := gl_below hbv hgu
                have hsv : w.heap.size ≤ wv.heap.size := hgv.size
                have HCv := Lib.hid (lockIn_gl (gl_below hbv (gl_refl _ _)) _ _ HCu.out)
                go_wp2_with fail
                refine (lWorks11 _ HGv.out).mono ?_
                rintro e wz ⟨rfl, hbz⟩
                have HCCz := Lib.hid (blk_below HCCv.out hbz (blk_lt HCCv.out))
                have HGz := Lib.hid (gok_below HGv.out hbz)
                have hgz : GL [] w wz := gl_below hbz hgv
                have hsz : w.heap.size ≤ wz.heap.size := hgz.size
                have HCz := Lib.hid (lockIn_gl (gl_below hbz (gl_refl _ _)) _ _ HCv.out)
                go_wp2_with fail
                go_ret
                exact ⟨rfl, gl_to_below hgz⟩
            · skip
              have hxy : ¬ lockT (.mk ka ta na ksa) = lockT (.mk kb tb nb ksb) := fun h => by
                have h2 := hinj.1 h
                rw [h2, sameL_self] at hab
                cases hab
              have hxy2 : (lockT (.mk ka ta na ksa) == lockT (.mk kb tb nb ksb)) = false := by simpa using hxy
              clear hinj ha hb
              have HRA := Lib.hid hra
              have HWB := Lib.hid hwb
              have HAB := Lib.hid hab
              clear hra hwb hab
              generalize lockT (.mk ka ta na ksa) = xa at *
              generalize lockT (.mk kb tb nb ksb) = xb at *
              refine (lkWrite (.mk kb tb nb ksb) _ _ _ HY4.out HG4.out).mono ?_
              rintro e w5 ⟨rfl, hb5⟩
              rw [HWB.out]
              have HB5 := Lib.hid (blk_below HB4.out hb5 (blk_lt HB4.out))
              have HA5 := Lib.hid (blk_below HA4.out hb5 (blk_lt HA4.out))
              have HG5 := Lib.hid (gok_below HG4.out hb5)
              have hg5 : GL [] w w5 := gl_below hb5 hg4
              have hs5 : w.heap.size ≤ w5.heap.size := hg5.size
              have HX5 := Lib.hid (lockIn_gl (gl_below hb5 (gl_refl _ _)) _ _ HX4.out)
              have HY5 := Lib.hid (lockIn_gl (gl_below hb5 (gl_refl _ _)) _ _ HY4.out)
              go_wp2_with fail
              refine (lkRead xa hla _ HG5.out).mono ?_
              intro e w6 hp
              rw [HRA.out] at hp
              obtain ⟨hb6, v6, rfl, hl6⟩ := hp
              obtain ⟨adc, cc, rfl, _⟩ := lockIn_open hl6
              have HC6 := Lib.hid (lockIn_mono (q := fun _ => True) (fun _ _ _ => trivial) _ _ hl6)
              clear hl6
              have HX6 := Lib.hid (lockIn_gl (gl_below hb6 (gl_refl _ _)) _ _ HX5.out)
              have HY6 := Lib.hid (lockIn_gl (gl_below hb6 (gl_refl _ _)) _ _ HY5.out)
              have HA6 := Lib.hid (blk_below HA5.out hb6 (blk_lt HA5.out))
              have HB6 := Lib.hid (blk_below HB5.out hb6 (blk_lt HB5.out))
              have HG6 := Lib.hid (gok_below HG5.out hb6)
              have hg6 : GL [] w w6 := gl_below hb6 hg5
              have hs6 := hg6.size
              have fa4 := blk_cell HA6.out
              have fb4 := blk_free HA6.out
              have fl4 := blk_lt HA6.out
              have flx1 : A < w6.heap.size + 1 := by omega
              go_wp2_with fail
              clear fa4 fb4 fl4
              clear flx1
              have HX7 := Lib.hid (lockIn_gl (gl_alloc (gl_refl _ _) (.cells #[.int .u8 ka, .string (bs ta), .int .i64 na, .slice adc ksa.length cc] 25)) _ _ HX6.out)
              have HY7 := Lib.hid (lockIn_gl (gl_alloc (gl_refl _ _) (.cells #[.int .u8 ka, .string (bs ta), .int .i64 na, .slice adc ksa.length cc] 25)) _ _ HY6.out)
              have HC7 := Lib.hid (lockIn_gl (gl_alloc (gl_refl _ _) (.cells #[.int .u8 ka, .string (bs ta), .int .i64 na, .slice adc ksa.length cc] 25)) _ _ HC6.out)
              have HB7 := Lib.hid (blk_alloc HB6.out (.cells #[.int .u8 ka, .string (bs ta), .int .i64 na, .slice adc ksa.length cc] 25))
              have ltBCB : B < w6.heap.size := by have := blk_lt HB6.out; omega
              have neBCB : B ≠ w6.heap.size := by omega
              have neCBB : w6.heap.size ≠ B := by omega
              have HA7 := Lib.hid (blk_alloc HA6.out (.cells #[.int .u8 ka, .string (bs ta), .int .i64 na, .slice adc ksa.length cc] 25))
              have ltACB : A < w6.heap.size := by have := blk_lt HA6.out; omega
              have neACB : A ≠ w6.heap.size := by omega
              have neCBA : w6.heap.size ≠ A := by omega
              have HCB7 : Hid ((w6.alloc (.cells #[.int .u8 ka, .string (bs ta), .int .i64 na, .slice adc ksa.length cc] 25)).heap[w6.heap.size]? = some (.cells #[.int .u8 ka, .string (bs ta), .int .i64 na, .slice adc ksa.length cc] 25 (0, 0))) := by
                have h := blk_new w6 (.cells #[.int .u8 ka, .string (bs ta), .int .i64 na, .slice adc ksa.length cc] 25)
                exact h
              have HG7 := Lib.hid (gok_alloc HG6.out (.cells #[.int .u8 ka, .string (bs ta), .int .i64 na, .slice adc ksa.length cc] 25))
              have hg7 : GL [] w (w6.alloc (.cells #[.int .u8 ka, .string (bs ta), .int .i64 na, .slice adc ksa.length cc] 25)) := (gl_alloc hg6 (.cells #[.int .u8 ka, .string (bs ta), .int .i64 na, .slice adc ksa.length cc] 25))
              have geCB : w.heap.size ≤ w6.heap.size := by have := hg6.size; omega
              have gnCB : gN ≤ w6.heap.size := by have := HG6.out.size; omega
              generalize (w6.alloc (.cells #[.int .u8 ka, .string (bs ta), .int .i64 na, .slice adc ksa.length cc] 25)) = w7 at *
              generalize w6.heap.size = CB at *
              have hs7 : w.heap.size ≤ w7.heap.size := hg7.size
              refine (lkSame (.mk ka ta na ksa) (.mk ka ta na ksa) _ _ _ _ _ HX7.out HC7.out).mono ?_
              rintro e w8 ⟨rfl, hb8⟩
              rw [sameL_self]
              have HB8 := Lib.hid (blk_below HB7.out hb8 (blk_lt HB7.out))
              have HA8 := Lib.hid (blk_below HA7.out hb8 (blk_lt HA7.out))
              have HCB8 := Lib.hid (blk_below HCB7.out hb8 (blk_lt HCB7.out))
              have HG8 := Lib.hid (gok_below HG7.out hb8)
              have hg8 : GL [] w w8 := gl_below hb8 hg7
              have hs8 : w.heap.size ≤ w8.heap.size := hg8.size
              have HX8 := Lib.hid (lockIn_gl (gl_below hb8 (gl_refl _ _)) _ _ HX7.out)
              have HY8 := Lib.hid (lockIn_gl (gl_below hb8 (gl_refl _ _)) _ _ HY7.out)
              have HC8 := Lib.hid (lockIn_gl (gl_below hb8 (gl_refl _ _)) _ _ HC7.out)
              have fa5 := blk_cell HA8.out
              have fb5 := blk_free HA8.out
              have fl5 := blk_lt HA8.out
              have fa6 := blk_cell HB8.out
              have fb6 := blk_free HB8.out
              have fl6 := blk_lt HB8.out
              go_wp2_with fail
              refine (lkSame (.mk ka ta na ksa) (.mk kb tb nb ksb) _ _ _ _ _ HX8.out HY8.out).mono ?_
              rintro e w9 ⟨rfl, hb9⟩
              rw [HAB.out]
              clear fa5 fb5 fl5 fa6 fb6 fl6
              have HB9 := Lib.hid (blk_below HB8.out hb9 (blk_lt HB8.out))
              have HA9 := Lib.hid (blk_below HA8.out hb9 (blk_lt HA8.out))
              have HCB9 := Lib.hid (blk_below HCB8.out hb9 (blk_lt HCB8.out))
              have HG9 := Lib.hid (gok_below HG8.out hb9)
              have hg9 : GL [] w w9 := gl_below hb9 hg8
              have hs9 : w.heap.size ≤ w9.heap.size := hg9.size
              have HX9 := Lib.hid (lockIn_gl (gl_below hb9 (gl_refl _ _)) _ _ HX8.out)
              have HY9 := Lib.hid (lockIn_gl (gl_below hb9 (gl_refl _ _)) _ _ HY8.out)
              have HC9 := Lib.hid (lockIn_gl (gl_below hb9 (gl_refl _ _)) _ _ HC8.out)
              go_wp2_with fail
              rcases option_two (readP cutP limP s) with hs | ⟨y, hs⟩
              · skip
                have HRS := Lib.hid hs
                clear hs
                refine (lkRead s (by omega) _ HG9.out).mono ?_
                intro e wr hp
                rw [HRS.out] at hp
                obtain ⟨hbr, rfl⟩ := hp
                have HGr := Lib.hid (gok_below HG9.out hbr)
                have hgr : GL [] w wr := gl_below hbr hg9
                have hsr := hgr.size
                go_wp2_with fail
                have HCCq : Hid ((wr.alloc (.cells #[.int .u8 0, .string (bs []), .int .i64 0, .slice none 0 0] 25)).heap[wr.heap.size]? = some (.cells #[.int .u8 0, .string (bs []), .int .i64 0, .slice none 0 0] 25 (0, 0))) := by
                  have h := blk_new wr (.cells #[.int .u8 0, .string (bs []), .int .i64 0, .slice none 0 0] 25)
                  exact h
                have HGq := Lib.hid (gok_alloc HGr.out (.cells #[.int .u8 0, .string (bs []), .int .i64 0, .slice none 0 0] 25))
                have hgq : GL [] w (wr.alloc (.cells #[.int .u8 0, .string (bs []), .int .i64 0, .slice none 0 0] 25)) := (gl_alloc hgr (.cells #[.int .u8 0, .string (bs []), .int .i64 0, .slice none 0 0] 25))
                have geCC : w.heap.size ≤ wr.heap.size := by have := hgr.size; omega
                have gnCC : gN ≤ wr.heap.size := by have := HGr.out.size; omega
                generalize (wr.alloc (.cells #[.int .u8 0, .string (bs []), .int .i64 0, .slice none 0 0] 25)) = wq at *
                generalize wr.heap.size = CC at *
                have hsq : w.heap.size ≤ wq.heap.size := hgq.size
                refine (lWorks11 _ HGq.out).mono ?_
                rintro e wz ⟨rfl, hbz⟩
                have HCCz := Lib.hid (blk_below HCCq.out hbz (blk_lt HCCq.out))
                have HGz := Lib.hid (gok_below HGq.out hbz)
                have hgz : GL [] w wz := gl_below hbz hgq
                have hsz : w.heap.size ≤ wz.heap.size := hgz.size
                go_wp2_with fail
                go_ret
                exact ⟨rfl, gl_to_below hgz⟩
              · skip
                obtain ⟨hsr1, hsr2⟩ := (readP_iff s y).1 hs
                have hwy : writeV y = .tuple #[.string (bs s), .int .i64 0] := by unfold writeV; rw [if_pos hsr1, hsr2]
                have HRS := Lib.hid hs
                have HWY := Lib.hid hwy
                have HRY := Lib.hid hsr1
                clear hs hsr1 hsr2 hwy
                obtain ⟨ky, ty, ny, ksy⟩ := y
                refine (lkRead s (by omega) _ HG9.out).mono ?_
                intro e wr hp
                rw [HRS.out] at hp
                obtain ⟨hbr, vr, rfl, hlr⟩ := hp
                obtain ⟨ady, cy, rfl, _⟩ := lockIn_open hlr
                have HCr := Lib.hid hlr
                clear hlr
                have HGr := Lib.hid (gok_below HG9.out hbr)
                have hgr : GL [] w wr := gl_below hbr hg9
                have hsr := hgr.size
                go_wp2_with fail
                have HCq := Lib.hid (lockIn_gl (gl_alloc (gl_refl _ _) (.cells #[.int .u8 ky, .string (bs ty), .int .i64 ny, .slice ady ksy.length cy] 25)) _ _ HCr.out)
                have HCCq : Hid ((wr.alloc (.cells #[.int .u8 ky, .string (bs ty), .int .i64 ny, .slice ady ksy.length cy] 25)).heap[wr.heap.size]? = some (.cells #[.int .u8 ky, .string (bs ty), .int .i64 ny, .slice ady ksy.length cy] 25 (0, 0))) := by
                  have h := blk_new wr (.cells #[.int .u8 ky, .string (bs ty), .int .i64 ny, .slice ady ksy.length cy] 25)
                  exact h
                have HGq := Lib.hid (gok_alloc HGr.out (.cells #[.int .u8 ky, .string (bs ty), .int .i64 ny, .slice ady ksy.length cy] 25))
                have hgq : GL [] w (wr.alloc (.cells #[.int .u8 ky, .string (bs ty), .int .i64 ny, .slice ady ksy.length cy] 25)) := (gl_alloc hgr (.cells #[.int .u8 ky, .string (bs ty), .int .i64 ny, .slice ady ksy.length cy] 25))
                have geCC : w.heap.size ≤ wr.heap.size := by have := hgr.size; omega
                have gnCC : gN ≤ wr.heap.size := by have := HGr.out.size; omega
                generalize (wr.alloc (.cells #[.int .u8 ky, .string (bs ty), .int .i64 ny, .slice ady ksy.length cy] 25)) = wq at *
                generalize wr.heap.size = CC at *
                have hsq : w.heap.size ≤ wq.heap.size := hgq.size
                refine (lkWrite (.mk ky ty ny ksy) _ _ _ HCq.out HGq.out).mono ?_
                rintro e wu ⟨rfl, hbu⟩
                rw [HWY.out]
                have HCCu := Lib.hid (blk_below HCCq.out hbu (blk_lt HCCq.out))
                have HGu := Lib.hid (gok_below HGq.out hbu)
                have hgu : GL [] w wu := gl_below hbu hgq
                have hsu : w.heap.size ≤ wu.heap.size := hgu.size
                have HCu := Lib.hid (lockIn_gl (gl_below hbu (gl_refl _ _)) _ _ HCq.out)
                have fa7 := blk_cell HCCu.out
                have fb7 := blk_free HCCu.out
                have fl7 := blk_lt HCCu.out
                go_wp2_with fail
                refine (lkRight (.mk ky ty ny ksy) _ _ _ HCu.out HGu.out).mono ?_
                rintro e wv ⟨rfl, hbv⟩
                rw [HRY.out]
                clear fa7 fb7 fl7
                have HCCv := Lib.hid (blk_below HCCu.out hbv (blk_lt HCCu.out))
                have HGv := Lib.hid (gok_below HGu.out hbv)
                have hgv : GL [] w wv := gl_below hbv hgu
                have hsv : w.heap.size ≤ wv.heap.size := hgv.size
                have HCv := Lib.hid (lockIn_gl (gl_below hbv (gl_refl _ _)) _ _ HCu.out)
                go_wp2_with fail
                refine (lWorks11 _ HGv.out).mono ?_
                rintro e wz ⟨rfl, hbz⟩
                have HCCz := Lib.hid (blk_below HCCv.out hbz (blk_lt HCCv.out))
                have HGz := Lib.hid (gok_below HGv.out hbz)
                have hgz : GL [] w wz := gl_below hbz hgv
                have hsz : w.heap.size ≤ wz.heap.size := hgz.size
                have HCz := Lib.hid (lockIn_gl (gl_below hbz (gl_refl _ _)) _ _ HCv.out)
                go_wp2_with fail
                go_ret
                exact ⟨rfl, gl_to_below hgz⟩
          · skip
            have hwb : writeV (.mk kb tb nb ksb) = .tuple #[.string (bs []), .int .i64 110] := by unfold writeV; rw [if_neg hb]
            clear hb ha
            have HRA := Lib.hid hra
            have HWB := Lib.hid hwb
            clear hra hwb
            generalize lockT (.mk ka ta na ksa) = xa at *
            refine (lkWrite (.mk kb tb nb ksb) _ _ _ HY4.out HG4.out).mono ?_
            rintro e w5 ⟨rfl, hb5⟩
            rw [HWB.out]
            have HB5 := Lib.hid (blk_below HB4.out hb5 (blk_lt HB4.out))
            have HA5 := Lib.hid (blk_below HA4.out hb5 (blk_lt HA4.out))
            have HG5 := Lib.hid (gok_below HG4.out hb5)
            have hg5 : GL [] w w5 := gl_below hb5 hg4
            have hs5 : w.heap.size ≤ w5.heap.size := hg5.size
            have HX5 := Lib.hid (lockIn_gl (gl_below hb5 (gl_refl _ _)) _ _ HX4.out)
            have HY5 := Lib.hid (lockIn_gl (gl_below hb5 (gl_refl _ _)) _ _ HY4.out)
            go_wp2_with fail
            refine (lkRead xa hla _ HG5.out).mono ?_
            intro e w6 hp
            rw [HRA.out] at hp
            obtain ⟨hb6, v6, rfl, hl6⟩ := hp
            obtain ⟨adc, cc, rfl, _⟩ := lockIn_open hl6
            have HC6 := Lib.hid (lockIn_mono (q := fun _ => True) (fun _ _ _ => trivial) _ _ hl6)
            clear hl6
            have HX6 := Lib.hid (lockIn_gl (gl_below hb6 (gl_refl _ _)) _ _ HX5.out)
            have HY6 := Lib.hid (lockIn_gl (gl_below hb6 (gl_refl _ _)) _ _ HY5.out)
            have HA6 := Lib.hid (blk_below HA5.out hb6 (blk_lt HA5.out))
            have HB6 := Lib.hid (blk_below HB5.out hb6 (blk_lt HB5.out))
            have HG6 := Lib.hid (gok_below HG5.out hb6)
            have hg6 : GL [] w w6 := gl_below hb6 hg5
            have hs6 := hg6.size
            have fa4 := blk_cell HA6.out
            have fb4 := blk_free HA6.out
            have fl4 := blk_lt HA6.out
            have flx1 : A < w6.heap.size + 1 := by omega
            go_wp2_with fail
            clear fa4 fb4 fl4
            clear flx1
            have HX7 := Lib.hid (lockIn_gl (gl_alloc (gl_refl _ _) (.cells #[.int .u8 ka, .string (bs ta), .int .i64 na, .slice adc ksa.length cc] 25)) _ _ HX6.out)
            have HY7 := Lib.hid (lockIn_gl (gl_alloc (gl_refl _ _) (.cells #[.int .u8 ka, .string (bs ta), .int .i64 na, .slice adc ksa.length cc] 25)) _ _ HY6.out)
            have HC7 := Lib.hid (lockIn_gl (gl_alloc (gl_refl _ _) (.cells #[.int .u8 ka, .string (bs ta), .int .i64 na, .slice adc ksa.length cc] 25)) _ _ HC6.out)
            have HB7 := Lib.hid (blk_alloc HB6.out (.cells #[.int .u8 ka, .string (bs ta), .int .i64 na, .slice adc ksa.length cc] 25))
            have ltBCB : B < w6.heap.size := by have := blk_lt HB6.out; omega
            have neBCB : B ≠ w6.heap.size := by omega
            have neCBB : w6.heap.size ≠ B := by omega
            have HA7 := Lib.hid (blk_alloc HA6.out (.cells #[.int .u8 ka, .string (bs ta), .int .i64 na, .slice adc ksa.length cc] 25))
            have ltACB : A < w6.heap.size := by have := blk_lt HA6.out; omega
            have neACB : A ≠ w6.heap.size := by omega
            have neCBA : w6.heap.size ≠ A := by omega
            have HCB7 : Hid ((w6.alloc (.cells #[.int .u8 ka, .string (bs ta), .int .i64 na, .slice adc ksa.length cc] 25)).heap[w6.heap.size]? = some (.cells #[.int .u8 ka, .string (bs ta), .int .i64 na, .slice adc ksa.length cc] 25 (0, 0))) := by
              have h := blk_new w6 (.cells #[.int .u8 ka, .string (bs ta), .int .i64 na, .slice adc ksa.length cc] 25)
              exact h
            have HG7 := Lib.hid (gok_alloc HG6.out (.cells #[.int .u8 ka, .string (bs ta), .int .i64 na, .slice adc ksa.length cc] 25))
            have hg7 : GL [] w (w6.alloc (.cells #[.int .u8 ka, .string (bs ta), .int .i64 na, .slice adc ksa.length cc] 25)) := (gl_alloc hg6 (.cells #[.int .u8 ka, .string (bs ta), .int .i64 na, .slice adc ksa.length cc] 25))
            have geCB : w.heap.size ≤ w6.heap.size := by have := hg6.size; omega
            have gnCB : gN ≤ w6.heap.size := by have := HG6.out.size; omega
            generalize (w6.alloc (.cells #[.int .u8 ka, .string (bs ta), .int .i64 na, .slice adc ksa.length cc] 25)) = w7 at *
            generalize w6.heap.size = CB at *
            have hs7 : w.heap.size ≤ w7.heap.size := hg7.size
            refine (lkSame (.mk ka ta na ksa) (.mk ka ta na ksa) _ _ _ _ _ HX7.out HC7.out).mono ?_
            rintro e w8 ⟨rfl, hb8⟩
            rw [sameL_self]
            have HB8 := Lib.hid (blk_below HB7.out hb8 (blk_lt HB7.out))
            have HA8 := Lib.hid (blk_below HA7.out hb8 (blk_lt HA7.out))
            have HCB8 := Lib.hid (blk_below HCB7.out hb8 (blk_lt HCB7.out))
            have HG8 := Lib.hid (gok_below HG7.out hb8)
            have hg8 : GL [] w w8 := gl_below hb8 hg7
            have hs8 : w.heap.size ≤ w8.heap.size := hg8.size
            have HX8 := Lib.hid (lockIn_gl (gl_below hb8 (gl_refl _ _)) _ _ HX7.out)
            have HY8 := Lib.hid (lockIn_gl (gl_below hb8 (gl_refl _ _)) _ _ HY7.out)
            have HC8 := Lib.hid (lockIn_gl (gl_below hb8 (gl_refl _ _)) _ _ HC7.out)
            go_wp2_with fail
            rcases option_two (readP cutP limP s) with hs | ⟨y, hs⟩
            · skip
              have HRS := Lib.hid hs
              clear hs
              refine (lkRead s (by omega) _ HG8.out).mono ?_
              intro e wr hp
              rw [HRS.out] at hp
              obtain ⟨hbr, rfl⟩ := hp
              have HGr := Lib.hid (gok_below HG8.out hbr)
              have hgr : GL [] w wr := gl_below hbr hg8
              have hsr := hgr.size
              go_wp2_with fail
              have HCCq : Hid ((wr.alloc (.cells #[.int .u8 0, .string (bs []), .int .i64 0, .slice none 0 0] 25)).heap[wr.heap.size]? = some (.cells #[.int .u8 0, .string (bs []), .int .i64 0, .slice none 0 0] 25 (0, 0))) := by
                have h := blk_new wr (.cells #[.int .u8 0, .string (bs []), .int .i64 0, .slice none 0 0] 25)
                exact h
              have HGq := Lib.hid (gok_alloc HGr.out (.cells #[.int .u8 0, .string (bs []), .int .i64 0, .slice none 0 0] 25))
              have hgq : GL [] w (wr.alloc (.cells #[.int .u8 0, .string (bs []), .int .i64 0, .slice none 0 0] 25)) := (gl_alloc hgr (.cells #[.int .u8 0, .string (bs []), .int .i64 0, .slice none 0 0] 25))
              have geCC : w.heap.size ≤ wr.heap.size := by have := hgr.size; omega
              have gnCC : gN ≤ wr.heap.size := by have := HGr.out.size; omega
              generalize (wr.alloc (.cells #[.int .u8 0, .string (bs []), .int .i64 0, .slice none 0 0] 25)) = wq at *
              generalize wr.heap.size = CC at *
              have hsq : w.heap.size ≤ wq.heap.size := hgq.size
              refine (lWorks11 _ HGq.out).mono ?_
              rintro e wz ⟨rfl, hbz⟩
              have HCCz := Lib.hid (blk_below HCCq.out hbz (blk_lt HCCq.out))
              have HGz := Lib.hid (gok_below HGq.out hbz)
              have hgz : GL [] w wz := gl_below hbz hgq
              have hsz : w.heap.size ≤ wz.heap.size := hgz.size
              go_wp2_with fail
              go_ret
              exact ⟨rfl, gl_to_below hgz⟩
            · skip
              obtain ⟨hsr1, hsr2⟩ := (readP_iff s y).1 hs
              have hwy : writeV y = .tuple #[.string (bs s), .int .i64 0] := by unfold writeV; rw [if_pos hsr1, hsr2]
              have HRS := Lib.hid hs
              have HWY := Lib.hid hwy
              have HRY := Lib.hid hsr1
              clear hs hsr1 hsr2 hwy
              obtain ⟨ky, ty, ny, ksy⟩ := y
              refine (lkRead s (by omega) _ HG8.out).mono ?_
              intro e wr hp
              rw [HRS.out] at hp
              obtain ⟨hbr, vr, rfl, hlr⟩ := hp
              obtain ⟨ady, cy, rfl, _⟩ := lockIn_open hlr
              have HCr := Lib.hid hlr
              clear hlr
              have HGr := Lib.hid (gok_below HG8.out hbr)
              have hgr : GL [] w wr := gl_below hbr hg8
              have hsr := hgr.size
              go_wp2_with fail
              have HCq := Lib.hid (lockIn_gl (gl_alloc (gl_refl _ _) (.cells #[.int .u8 ky, .string (bs ty), .int .i64 ny, .slice ady ksy.length cy] 25)) _ _ HCr.out)
              have HCCq : Hid ((wr.alloc (.cells #[.int .u8 ky, .string (bs ty), .int .i64 ny, .slice ady ksy.length cy] 25)).heap[wr.heap.size]? = some (.cells #[.int .u8 ky, .string (bs ty), .int .i64 ny, .slice ady ksy.length cy] 25 (0, 0))) := by
                have h := blk_new wr (.cells #[.int .u8 ky, .string (bs ty), .int .i64 ny, .slice ady ksy.length cy] 25)
                exact h
              have HGq := Lib.hid (gok_alloc HGr.out (.cells #[.int .u8 ky, .string (bs ty), .int .i64 ny, .slice ady ksy.length cy] 25))
              have hgq : GL [] w (wr.alloc (.cells #[.int .u8 ky, .string (bs ty), .int .i64 ny, .slice ady ksy.length cy] 25)) := (gl_alloc hgr (.cells #[.int .u8 ky, .string (bs ty), .int .i64 ny, .slice ady ksy.length cy] 25))
              have geCC : w.heap.size ≤ wr.heap.size := by have := hgr.size; omega
              have gnCC : gN ≤ wr.heap.size := by have := HGr.out.size; omega
              generalize (wr.alloc (.cells #[.int .u8 ky, .string (bs ty), .int .i64 ny, .slice ady ksy.length cy] 25)) = wq at *
              generalize wr.heap.size = CC at *
              have hsq : w.heap.size ≤ wq.heap.size := hgq.size
              refine (lkWrite (.mk ky ty ny ksy) _ _ _ HCq.out HGq.out).mono ?_
              rintro e wu ⟨rfl, hbu⟩
              rw [HWY.out]
              have HCCu := Lib.hid (blk_below HCCq.out hbu (blk_lt HCCq.out))
              have HGu := Lib.hid (gok_below HGq.out hbu)
              have hgu : GL [] w wu := gl_below hbu hgq
              have hsu : w.heap.size ≤ wu.heap.size := hgu.size
              have HCu := Lib.hid (lockIn_gl (gl_below hbu (gl_refl _ _)) _ _ HCq.out)
              have fa5 := blk_cell HCCu.out
              have fb5 := blk_free HCCu.out
              have fl5 := blk_lt HCCu.out
              go_wp2_with fail
              refine (lkRight (.mk ky ty ny ksy) _ _ _ HCu.out HGu.out).mono ?_
              rintro e wv ⟨rfl, hbv⟩
              rw [HRY.out]
              clear fa5 fb5 fl5
              have HCCv := Lib.hid (blk_below HCCu.out hbv (blk_lt HCCu.out))
              have HGv := Lib.hid (gok_below HGu.out hbv)
              have hgv : GL [] w wv := gl_below hbv hgu
              have hsv : w.heap.size ≤ wv.heap.size := hgv.size
              have HCv := Lib.hid (lockIn_gl (gl_below hbv (gl_refl _ _)) _ _ HCu.out)
              go_wp2_with fail
              refine (lWorks11 _ HGv.out).mono ?_
              rintro e wz ⟨rfl, hbz⟩
              have HCCz := Lib.hid (blk_below HCCv.out hbz (blk_lt HCCv.out))
              have HGz := Lib.hid (gok_below HGv.out hbz)
              have hgz : GL [] w wz := gl_below hbz hgv
              have hsz : w.heap.size ≤ wz.heap.size := hgz.size
              have HCz := Lib.hid (lockIn_gl (gl_below hbz (gl_refl _ _)) _ _ HCv.out)
              go_wp2_with fail
              go_ret
              exact ⟨rfl, gl_to_below hgz⟩
        · skip
          have hwa : writeV (.mk ka ta na ksa) = .tuple #[.string (bs []), .int .i64 110] := by unfold writeV; rw [if_neg ha]
          obtain ⟨yb, eb, hwb⟩ : ∃ yb eb, writeV (.mk kb tb nb ksb) = .tuple #[.string (bs yb), .int .i64 eb] := by unfold writeV; split <;> exact ⟨_, _, rfl⟩
          have HWB := Lib.hid hwb
          have HWA := Lib.hid hwa
          clear ha hwb hwa
          have fa2 := blk_cell HA3.out
          have fb2 := blk_free HA3.out
          have fl2 := blk_lt HA3.out
          go_wp2_with fail
          refine (lkWrite (.mk ka ta na ksa) _ _ _ HX3.out HG3.out).mono ?_
          rintro e w4 ⟨rfl, hb4⟩
          rw [HWA.out]
          clear fa2 fb2 fl2
          have HB4 := Lib.hid (blk_below HB3.out hb4 (blk_lt HB3.out))
          have HA4 := Lib.hid (blk_below HA3.out hb4 (blk_lt HA3.out))
          have HG4 := Lib.hid (gok_below HG3.out hb4)
          have hg4 : GL [] w w4 := gl_below hb4 hg3
          have hs4 : w.heap.size ≤ w4.heap.size := hg4.size
          have HX4 := Lib.hid (lockIn_gl (gl_below hb4 (gl_refl _ _)) _ _ HX3.out)
          have HY4 := Lib.hid (lockIn_gl (gl_below hb4 (gl_refl _ _)) _ _ HY3.out)
          have fa3 := blk_cell HB4.out
          have fb3 := blk_free HB4.out
          have fl3 := blk_lt HB4.out
          go_wp2_with fail
          refine (lkWrite (.mk kb tb nb ksb) _ _ _ HY4.out HG4.out).mono ?_
          rintro e w5 ⟨rfl, hb5⟩
          rw [HWB.out]
          clear fa3 fb3 fl3
          have HB5 := Lib.hid (blk_below HB4.out hb5 (blk_lt HB4.out))
          have HA5 := Lib.hid (blk_below HA4.out hb5 (blk_lt HA4.out))
          have HG5 := Lib.hid (gok_below HG4.out hb5)
          have hg5 : GL [] w w5 := gl_below hb5 hg4
          have hs5 : w.heap.size ≤ w5.heap.size := hg5.size
          have HX5 := Lib.hid (lockIn_gl (gl_below hb5 (gl_refl _ _)) _ _ HX4.out)
          have HY5 := Lib.hid (lockIn_gl (gl_below hb5 (gl_refl _ _)) _ _ HY4.out)
          go_wp2_with fail
          rcases option_two (readP cutP limP s) with hs | ⟨y, hs⟩
          · skip
            have HRS := Lib.hid hs
            clear hs
            refine (lkRead s (by omega) _ HG5.out).mono ?_
            intro e wr hp
            rw [HRS.out] at hp
            obtain ⟨hbr, rfl⟩ := hp
            have HGr := Lib.hid (gok_below HG5.out hbr)
            have hgr : GL [] w wr := gl_below hbr hg5
            have hsr := hgr.size
            go_wp2_with fail
            have HCCq : Hid ((wr.alloc (.cells #[.int .u8 0, .string (bs []), .int .i64 0, .slice none 0 0] 25)).heap[wr.heap.size]? = some (.cells #[.int .u8 0, .string (bs []), .int .i64 0, .slice none 0 0] 25 (0, 0))) := by
              have h := blk_new wr (.cells #[.int .u8 0, .string (bs []), .int .i64 0, .slice none 0 0] 25)
              exact h
            have HGq := Lib.hid (gok_alloc HGr.out (.cells #[.int .u8 0, .string (bs []), .int .i64 0, .slice none 0 0] 25))
            have hgq : GL [] w (wr.alloc (.cells #[.int .u8 0, .string (bs []), .int .i64 0, .slice none 0 0] 25)) := (gl_alloc hgr (.cells #[.int .u8 0, .string (bs []), .int .i64 0, .slice none 0 0] 25))
            have geCC : w.heap.size ≤ wr.heap.size := by have := hgr.size; omega
            have gnCC : gN ≤ wr.heap.size := by have := HGr.out.size; omega
            generalize (wr.alloc (.cells #[.int .u8 0, .string (bs []), .int .i64 0, .slice none 0 0] 25)) = wq at *
            generalize wr.heap.size = CC at *
            have hsq : w.heap.size ≤ wq.heap.size := hgq.size
            refine (lWorks11 _ HGq.out).mono ?_
            rintro e wz ⟨rfl, hbz⟩
            have HCCz := Lib.hid (blk_below HCCq.out hbz (blk_lt HCCq.out))
            have HGz := Lib.hid (gok_below HGq.out hbz)
            have hgz : GL [] w wz := gl_below hbz hgq
            have hsz : w.heap.size ≤ wz.heap.size := hgz.size
            go_wp2_with fail
            go_ret
            exact ⟨rfl, gl_to_below hgz⟩
          · skip
            obtain ⟨hsr1, hsr2⟩ := (readP_iff s y).1 hs
            have hwy : writeV y = .tuple #[.string (bs s), .int .i64 0] := by unfold writeV; rw [if_pos hsr1, hsr2]
            have HRS := Lib.hid hs
            have HWY := Lib.hid hwy
            have HRY := Lib.hid hsr1
            clear hs hsr1 hsr2 hwy
            obtain ⟨ky, ty, ny, ksy⟩ := y
            refine (lkRead s (by omega) _ HG5.out).mono ?_
            intro e wr hp
            rw [HRS.out] at hp
            obtain ⟨hbr, vr, rfl, hlr⟩ := hp
            obtain ⟨ady, cy, rfl, _⟩ := lockIn_open hlr
            have HCr := Lib.hid hlr
            clear hlr
            have HGr := Lib.hid (gok_below HG5.out hbr)
            have hgr : GL [] w wr := gl_below hbr hg5
            have hsr := hgr.size
            go_wp2_with fail
            have HCq := Lib.hid (lockIn_gl (gl_alloc (gl_refl _ _) (.cells #[.int .u8 ky, .string (bs ty), .int .i64 ny, .slice ady ksy.length cy] 25)) _ _ HCr.out)
            have HCCq : Hid ((wr.alloc (.cells #[.int .u8 ky, .string (bs ty), .int .i64 ny, .slice ady ksy.length cy] 25)).heap[wr.heap.size]? = some (.cells #[.int .u8 ky, .string (bs ty), .int .i64 ny, .slice ady ksy.length cy] 25 (0, 0))) := by
              have h := blk_new wr (.cells #[.int .u8 ky, .string (bs ty), .int .i64 ny, .slice ady ksy.length cy] 25)
              exact h
            have HGq := Lib.hid (gok_alloc HGr.out (.cells #[.int .u8 ky, .string (bs ty), .int .i64 ny, .slice ady ksy.length cy] 25))
            have hgq : GL [] w (wr.alloc (.cells #[.int .u8 ky, .string (bs ty), .int .i64 ny, .slice ady ksy.length cy] 25)) := (gl_alloc hgr (.cells #[.int .u8 ky, .string (bs ty), .int .i64 ny, .slice ady ksy.length cy] 25))
            have geCC : w.heap.size ≤ wr.heap.size := by have := hgr.size; omega
            have gnCC : gN ≤ wr.heap.size := by have := HGr.out.size; omega
            generalize (wr.alloc (.cells #[.int .u8 ky, .string (bs ty), .int .i64 ny, .slice ady ksy.length cy] 25)) = wq at *
            generalize wr.heap.size = CC at *
            have hsq : w.heap.size ≤ wq.heap.size := hgq.size
            refine (lkWrite (.mk ky ty ny ksy) _ _ _ HCq.out HGq.out).mono ?_
            rintro e wu ⟨rfl, hbu⟩
            rw [HWY.out]
            have HCCu := Lib.hid (blk_below HCCq.out hbu (blk_lt HCCq.out))
            have HGu := Lib.hid (gok_below HGq.out hbu)
            have hgu : GL [] w wu := gl_below hbu hgq
            have hsu : w.heap.size ≤ wu.heap.size := hgu.size
            have HCu := Lib.hid (lockIn_gl (gl_below hbu (gl_refl _ _)) _ _ HCq.out)
            have fa4 := blk_cell HCCu.out
            have fb4 := blk_free HCCu.out
            have fl4 := blk_lt HCCu.out
            go_wp2_with fail
            refine (lkRight (.mk ky ty ny ksy) _ _ _ HCu.out HGu.out).mono ?_
            rintro e wv ⟨rfl, hbv⟩
            rw [HRY.out]
            clear fa4 fb4 fl4
            have HCCv := Lib.hid (blk_below HCCu.out hbv (blk_lt HCCu.out))
            have HGv := Lib.hid (gok_below HGu.out hbv)
            have hgv : GL [] w wv := gl_below hbv hgu
            have hsv : w.heap.size ≤ wv.heap.size := hgv.size
            have HCv := Lib.hid (lockIn_gl (gl_below hbv (gl_refl _ _)) _ _ HCu.out)
            go_wp2_with fail
            refine (lWorks11 _ HGv.out).mono ?_
            rintro e wz ⟨rfl, hbz⟩
            have HCCz := Lib.hid (blk_below HCCv.out hbz (blk_lt HCCv.out))
            have HGz := Lib.hid (gok_below HGv.out hbz)
            have hgz : GL [] w wz := gl_below hbz hgv
            have hsz : w.heap.size ≤ wz.heap.size := hgz.size
            have HCz := Lib.hid (lockIn_gl (gl_below hbz (gl_refl _ _)) _ _ HCv.out)
            go_wp2_with fail
            go_ret
            exact ⟨rfl, gl_to_below hgz⟩
      · skip
        have b3 : decide (3000 < (s.length : Int)) = true := by simp; omega
        go_wp2_with fail
        go_ret
        exact ⟨rfl, gl_to_below hg3⟩
    · skip
      have b2 : decide (300 < z2) = true := by simp; omega
      go_wp2_with fail
      go_ret
      exact ⟨rfl, gl_to_below hg3⟩
  · skip
    have b1 : decide (300 < z1) = true := by simp; omega
    go_wp2_with fail
    go_ret
    exact ⟨rfl, gl_to_below hg2⟩

end Go.Proofs.YtfmckibiblhakaaGreatDoor
