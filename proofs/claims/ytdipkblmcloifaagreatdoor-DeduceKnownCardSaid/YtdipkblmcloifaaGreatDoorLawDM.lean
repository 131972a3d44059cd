/- The laws of layer 3: what is made of what is known is known. -/
import Derived.Test.YtdipkblmcloifaaGreatDoorDedW
import Derived.Test.YtdipkblmcloifaaGreatDoorDedO
import Derived.Test.YtdipkblmcloifaaGreatDoorDedJ
set_option linter.unusedSimpArgs false
set_option linter.unusedVariables false
namespace Go.Proofs.YtdipkblmcloifaaGreatDoor
open Go.RowKit

set_option maxRecDepth 100000 in
set_option maxHeartbeats 8000000 in
theorem lMakes03 (M bh be n : Nat) (H S : List UInt8 → Bool) (a b : List UInt8) (hla : a.length ≤ 4000000000000000000) (hlb : b.length ≤ 4000000000000000000) (hra : right a = true) (hrb : right b = true) (ha : kn S a = true) (hb : kn S b = true) (w : World) (hG : GOk w) (hM : MindAt w M bh be H S n) :
    Calls Tryz.prog 25 #[.pointer (some ⟨M, 0, none⟩), .string (bs a), .string (bs b)] w fun e w' => e = .returned (.bool true) ∧ Below w.heap.size w w' := by
  have HG := Lib.hid hG
  have HM := Lib.hid hM
  have hg0 : GL [] w w := gl_refl _ _
  have h1 := Lib.hid (fun h0 => kn_hash (S := S) (a := a) h0 ha)
  have h2 := Lib.hid (fun c (hc : arity c = some 2) (h88 : c ≠ 88) h0 => kn_two (S := S) (c := c) (a := a) (b := b) hc h88 h0 ha hb)
  have h7 := Lib.hid (fun h0 => kn_pub (S := S) (a := a) h0 ha)
  have h8 := Lib.hid (fun h0 => kn_joint (S := S) (a := a) (b := b) h0 ha hb)
  have h9 := Lib.hid (fun h0 => kn_bound (S := S) (a := a) (b := b) h0 ha hb)
  have h10 := Lib.hid (fun h0 => kn_agree (S := S) (k := a) (l := b) h0 ha hb)
  have h11 := Lib.hid (fun h0 => kn_pair (S := S) (ls := [a, b]) h0 (by simp [ha, hb]))
  have h12 := Lib.hid (fun h0 => kn_unbox (S := S) hM.least.2.1 (k := a) (c := b) h0 ha hb)
  clear hG hM ha hb
  go_enter Tryz.func25, Tryz.ntmps25
  go_wp2_with fail
  refine (tHash a (by omega) _ HG.out).mono ?_
  rintro e w1 ⟨rfl, hb1⟩
  have hg1 : GL [] w w1 := gl_below hb1 hg0
  have HM1 := Lib.hid (mind_below HM.out hb1)
  have HG1 := Lib.hid (gok_below HG.out hb1)
  clear hb1
  go_wp2_with fail
  refine (tSign a b (by omega) (by omega) _ HG1.out).mono ?_
  rintro e w2 ⟨rfl, hb2⟩
  have hg2 : GL [] w w2 := gl_below hb2 hg1
  have HM2 := Lib.hid (mind_below HM1.out hb2)
  have HG2 := Lib.hid (gok_below HG1.out hb2)
  clear hb2
  go_wp2_with fail
  refine (tBox a b (by omega) (by omega) _ HG2.out).mono ?_
  rintro e w3 ⟨rfl, hb3⟩
  have hg3 : GL [] w w3 := gl_below hb3 hg2
  have HM3 := Lib.hid (mind_below HM2.out hb3)
  have HG3 := Lib.hid (gok_below HG2.out hb3)
  clear hb3
  go_wp2_with fail
  refine (tChild a b (by omega) (by omega) _ HG3.out).mono ?_
  rintro e w4 ⟨rfl, hb4⟩
  have hg4 : GL [] w w4 := gl_below hb4 hg3
  have HM4 := Lib.hid (mind_below HM3.out hb4)
  have HG4 := Lib.hid (gok_below HG3.out hb4)
  clear hb4
  go_wp2_with fail
  refine (tJoin a b (by omega) (by omega) _ HG4.out).mono ?_
  rintro e w5 ⟨rfl, hb5⟩
  have hg5 : GL [] w w5 := gl_below hb5 hg4
  have HM5 := Lib.hid (mind_below HM4.out hb5)
  have HG5 := Lib.hid (gok_below HG4.out hb5)
  clear hb5
  go_wp2_with fail
  refine (tBind a b (by omega) (by omega) _ HG5.out).mono ?_
  rintro e w6 ⟨rfl, hb6⟩
  have hg6 : GL [] w w6 := gl_below hb6 hg5
  have HM6 := Lib.hid (mind_below HM5.out hb6)
  have HG6 := Lib.hid (gok_below HG5.out hb6)
  clear hb6
  go_wp2_with fail
  refine (tPub a (by omega) _ HG6.out).mono ?_
  rintro e w7 ⟨rfl, hb7⟩
  have hg7 : GL [] w w7 := gl_below hb7 hg6
  have HM7 := Lib.hid (mind_below HM6.out hb7)
  have HG7 := Lib.hid (gok_below HG6.out hb7)
  clear hb7
  go_wp2_with fail
  refine (tJoint a b (by omega) (by omega) _ HG7.out).mono ?_
  rintro e w8 ⟨rfl, hb8⟩
  have hg8 : GL [] w w8 := gl_below hb8 hg7
  have HM8 := Lib.hid (mind_below HM7.out hb8)
  have HG8 := Lib.hid (gok_below HG7.out hb8)
  clear hb8
  go_wp2_with fail
  refine (tBound a b (by omega) (by omega) _ HG8.out).mono ?_
  rintro e w9 ⟨rfl, hb9⟩
  have hg9 : GL [] w w9 := gl_below hb9 hg8
  have HM9 := Lib.hid (mind_below HM8.out hb9)
  have HG9 := Lib.hid (gok_below HG8.out hb9)
  clear hb9
  go_wp2_with fail
  refine (tAgree a b (by omega) (by omega) _ HG9.out).mono ?_
  rintro e w10 ⟨rfl, hb10⟩
  have hg10 : GL [] w w10 := gl_below hb10 hg9
  have HM10 := Lib.hid (mind_below HM9.out hb10)
  have HG10 := Lib.hid (gok_below HG9.out hb10)
  clear hb10
  go_wp2_with fail
  have HT2 := Lib.hid (two_cells (w := w10) (x := a) (y := b) (T := 28))
  refine (tMkTuple [a, b] w10.heap.size 2 (by intro x hx; simp at hx; rcases hx with rfl | rfl <;> omega) (by simp) _ (by simp) HT2.out (gok_alloc HG10.out _)).mono ?_
  rintro e w11 ⟨rfl, hb11⟩
  have hg11 : GL [] w w11 := gl_below hb11 (gl_alloc hg10 _)
  have HM11 := Lib.hid (mind_below (mind_gl HM10.out (gl_alloc (gl_refl [] _) (.cells #[.string (bs a), .string (bs b)] 28)) (by simp) (by simp) (by simp)) hb11)
  have HG11 := Lib.hid (gok_below (gok_alloc HG10.out _) hb11)
  clear hb11 HT2 hg1 hg2 hg3 hg4 hg5 hg6 hg7 hg8 hg9 hg10 HM1 HM2 HM3 HM4 HM5 HM6 HM7 HM8 HM9 HM10 HG1 HG2 HG3 HG4 HG5 HG6 HG7 HG8 HG9 HG10
  have k2 := Lib.hid (h2.out 83 rfl (by decide))
  have k3 := Lib.hid (h2.out 66 rfl (by decide))
  have k4 := Lib.hid (h2.out 68 rfl (by decide))
  have k5 := Lib.hid (h2.out 86 rfl (by decide))
  have k6 := Lib.hid (h2.out 75 rfl (by decide))
  clear h2
  generalize oneT 72 a = r1 at *
  generalize twoT 83 a b = r2 at *
  generalize twoT 66 a b = r3 at *
  generalize twoT 68 a b = r4 at *
  generalize twoT 86 a b = r5 at *
  generalize twoT 75 a b = r6 at *
  generalize pubT a = r7 at *
  generalize jointT a b = r8 at *
  generalize boundT a b = r9 at *
  generalize agreeT a b = r10 at *
  generalize tupleT [a, b] = r11 at *
  have hA := blk_alloc (blk_new w11 (.cells #[.string (bs r1.1), .string (bs r2.1), .string (bs r3.1), .string (bs r4.1), .string (bs r5.1), .string (bs r6.1), .string (bs r7.1), .string (bs r8.1), .string (bs r9.1), .string (bs r10.1), .string (bs r11.1)] 28)) (.cells #[.int .i64 r1.2, .int .i64 r2.2, .int .i64 r3.2, .int .i64 r4.2, .int .i64 r5.2, .int .i64 r6.2, .int .i64 r7.2, .int .i64 r8.2, .int .i64 r9.2, .int .i64 r10.2, .int .i64 r11.2] 35)
  have hB := blk_new (w11.alloc (.cells #[.string (bs r1.1), .string (bs r2.1), .string (bs r3.1), .string (bs r4.1), .string (bs r5.1), .string (bs r6.1), .string (bs r7.1), .string (bs r8.1), .string (bs r9.1), .string (bs r10.1), .string (bs r11.1)] 28)) (.cells #[.int .i64 r1.2, .int .i64 r2.2, .int .i64 r3.2, .int .i64 r4.2, .int .i64 r5.2, .int .i64 r6.2, .int .i64 r7.2, .int .i64 r8.2, .int .i64 r9.2, .int .i64 r10.2, .int .i64 r11.2] 35)
  have HAB := Lib.hid (And.intro hA hB)
  clear hA hB
  go_wp2_with fail
  have hg12 : GL [] w ((w11.alloc (.cells #[.string (bs r1.1), .string (bs r2.1), .string (bs r3.1), .string (bs r4.1), .string (bs r5.1), .string (bs r6.1), .string (bs r7.1), .string (bs r8.1), .string (bs r9.1), .string (bs r10.1), .string (bs r11.1)] 28)).alloc (.cells #[.int .i64 r1.2, .int .i64 r2.2, .int .i64 r3.2, .int .i64 r4.2, .int .i64 r5.2, .int .i64 r6.2, .int .i64 r7.2, .int .i64 r8.2, .int .i64 r9.2, .int .i64 r10.2, .int .i64 r11.2] 35)) := gl_alloc (gl_alloc hg11 _) _
  have HM12 := Lib.hid (mind_gl HM11.out (gl_alloc (gl_alloc (gl_refl [] _) (.cells #[.string (bs r1.1), .string (bs r2.1), .string (bs r3.1), .string (bs r4.1), .string (bs r5.1), .string (bs r6.1), .string (bs r7.1), .string (bs r8.1), .string (bs r9.1), .string (bs r10.1), .string (bs r11.1)] 28)) (.cells #[.int .i64 r1.2, .int .i64 r2.2, .int .i64 r3.2, .int .i64 r4.2, .int .i64 r5.2, .int .i64 r6.2, .int .i64 r7.2, .int .i64 r8.2, .int .i64 r9.2, .int .i64 r10.2, .int .i64 r11.2] 35)) (by simp) (by simp) (by simp))
  have HG12 := Lib.hid (gok_alloc (gok_alloc HG11.out (.cells #[.string (bs r1.1), .string (bs r2.1), .string (bs r3.1), .string (bs r4.1), .string (bs r5.1), .string (bs r6.1), .string (bs r7.1), .string (bs r8.1), .string (bs r9.1), .string (bs r10.1), .string (bs r11.1)] 28)) (.cells #[.int .i64 r1.2, .int .i64 r2.2, .int .i64 r3.2, .int .i64 r4.2, .int .i64 r5.2, .int .i64 r6.2, .int .i64 r7.2, .int .i64 r8.2, .int .i64 r9.2, .int .i64 r10.2, .int .i64 r11.2] 35))
  generalize (w11.alloc (.cells #[.string (bs r1.1), .string (bs r2.1), .string (bs r3.1), .string (bs r4.1), .string (bs r5.1), .string (bs r6.1), .string (bs r7.1), .string (bs r8.1), .string (bs r9.1), .string (bs r10.1), .string (bs r11.1)] 28)).alloc (.cells #[.int .i64 r1.2, .int .i64 r2.2, .int .i64 r3.2, .int .i64 r4.2, .int .i64 r5.2, .int .i64 r6.2, .int .i64 r7.2, .int .i64 r8.2, .int .i64 r9.2, .int .i64 r10.2, .int .i64 r11.2] 35) = w12 at *
  have HX : Hid (∀ j : Nat, j < 11 → ∃ (x : List UInt8) (e : Int), w12.cell? ⟨w11.heap.size, j, none⟩ = some (.string (bs x)) ∧ w12.cell? ⟨(w11.alloc (.cells #[.string (bs r1.1), .string (bs r2.1), .string (bs r3.1), .string (bs r4.1), .string (bs r5.1), .string (bs r6.1), .string (bs r7.1), .string (bs r8.1), .string (bs r9.1), .string (bs r10.1), .string (bs r11.1)] 28)).heap.size, j, none⟩ = some (.int .i64 e) ∧ (e = 0 → right x = true ∧ kn S x = true)) := by
    intro j hj
    have c1 := blk_cell HAB.out.1 j
    have c2 := blk_cell HAB.out.2 j
    have hcs : j = 0 ∨ j = 1 ∨ j = 2 ∨ j = 3 ∨ j = 4 ∨ j = 5 ∨ j = 6 ∨ j = 7 ∨ j = 8 ∨ j = 9 ∨ j = 10 := by omega
    rcases hcs with rfl | rfl | rfl | rfl | rfl | rfl | rfl | rfl | rfl | rfl | rfl
    · exact ⟨r1.1, r1.2, by rw [c1]; rfl, by rw [c2]; rfl, h1.out⟩
    · exact ⟨r2.1, r2.2, by rw [c1]; rfl, by rw [c2]; rfl, k2.out⟩
    · exact ⟨r3.1, r3.2, by rw [c1]; rfl, by rw [c2]; rfl, k3.out⟩
    · exact ⟨r4.1, r4.2, by rw [c1]; rfl, by rw [c2]; rfl, k4.out⟩
    · exact ⟨r5.1, r5.2, by rw [c1]; rfl, by rw [c2]; rfl, k5.out⟩
    · exact ⟨r6.1, r6.2, by rw [c1]; rfl, by rw [c2]; rfl, k6.out⟩
    · exact ⟨r7.1, r7.2, by rw [c1]; rfl, by rw [c2]; rfl, h7.out⟩
    · exact ⟨r8.1, r8.2, by rw [c1]; rfl, by rw [c2]; rfl, h8.out⟩
    · exact ⟨r9.1, r9.2, by rw [c1]; rfl, by rw [c2]; rfl, h9.out⟩
    · exact ⟨r10.1, r10.2, by rw [c1]; rfl, by rw [c2]; rfl, h10.out⟩
    · exact ⟨r11.1, r11.2, by rw [c1]; rfl, by rw [c2]; rfl, h11.out⟩
  clear HAB h1 k2 k3 k4 k5 k6 h7 h8 h9 h10 h11 HM11 HG11 hg11
  simp only [World.size_alloc] at HX
  go_loopw [124] (fun iv wr => ∃ i : Nat, i ≤ 11 ∧ iv = .int .i64 i ∧ Hid (GL [] w12 wr) ∧ Hid (MindAt wr M bh be H S n) ∧ Hid (GOk wr)) (fun iv _ => 11 - (intOf iv).toNat)
  case atStart => exact ⟨0, by omega, rfl, Lib.hid (gl_refl _ _), HM12, HG12⟩
  case round =>
    obtain ⟨i, hi, rfl, hgr, HMr, HGr⟩ := hrel
    by_cases hlt : i < 11
    · have i1 : (i : Int) < 11 := by omega
      obtain ⟨x, e, hc, he, hk⟩ := HX.out i hlt
      have c0 := cell_glx hc hgr.out (by simp)
      have c1 := cell_glx he hgr.out (by simp)
      by_cases h0 : e = 0
      · subst h0
        obtain ⟨hr, hkn⟩ := hk rfl
        have hxl := (right_len hr).2
        have HRK := Lib.hid (show (right x && kn S x) = true by rw [hr, hkn]; rfl)
        clear hc he hk hr hkn
        go_wp2_with fail
        refine (dKnows M bh be n H S x (by omega) _ HGr.out HMr.out).mono ?_
        rintro e w13 ⟨rfl, hb13⟩
        rw [HRK.out]
        have hg13 : GL [] w12 w13 := gl_below hb13 hgr.out
        have HM13 := Lib.hid (mind_below HMr.out hb13)
        have HG13 := Lib.hid (gok_below HGr.out hb13)
        clear hb13 c0 c1
        go_wp2_with fail
        go_roundw
        case rel => exact ⟨i + 1, by omega, by go_num, Lib.hid hg13, HM13, HG13⟩
        case measure => simp [intOf]; omega
      · have h0b : (e == 0) = false := by simp [h0]
        clear hc he hk h0
        go_wp2_with fail
        go_roundw
        case rel => exact ⟨i + 1, by omega, by go_num, hgr, HMr, HGr⟩
        case measure => simp [intOf]; omega
    · obtain rfl : i = 11 := by omega
      have hg14 : GL [] w wr := gl_step hgr.out hg12 (by simp)
      go_wp2_with fail
      refine (tUnbox a b (by omega) _ HGr.out).mono ?_
      rintro e w15 ⟨rfl, hb15⟩
      have hg15 : GL [] w w15 := gl_below hb15 hg14
      have HM15 := Lib.hid (mind_below HMr.out hb15)
      have HG15 := Lib.hid (gok_below HGr.out hb15)
      clear hb15
      generalize unboxT a b = r12 at *
      obtain ⟨y, o⟩ := r12
      cases o with
      | false =>
        go_wp2_with fail
        go_ret
        exact ⟨by first | rfl | (simp; done), gl_to_below hg15⟩
      | true =>
        obtain ⟨hr, hkn⟩ := h12.out rfl
        have hr : right y = true := hr
        have hkn : kn S y = true := hkn
        have hxl := (right_len hr).2
        have HRK := Lib.hid (show (right y && kn S y) = true by rw [hr, hkn]; rfl)
        clear hr hkn
        go_wp2_with fail
        refine (dKnows M bh be n H S y (by omega) _ HG15.out HM15.out).mono ?_
        rintro e w16 ⟨rfl, hb16⟩
        rw [HRK.out]
        go_wp2_with fail
        go_ret
        exact ⟨by first | rfl | (simp; done), gl_to_below (gl_below hb16 hg15)⟩
end Go.Proofs.YtdipkblmcloifaaGreatDoor
