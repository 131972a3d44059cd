/- The reference of layer 7: what is signed. -/
import Derived.Test.YtembdkodajichaaGreatDoorR2D
import Derived.Test.YtembdkodajichaaGreatDoorRegT
import Derived.Test.YtembdkodajichaaGreatDoorDigE
import Derived.StillTactics
import Derived.Test.YtembdkodajichaaGreatDoorAmtQ
import Derived.Test.YtembdkodajichaaGreatDoorR7W
set_option maxRecDepth 100000
set_option maxHeartbeats 4000000
set_option linter.unusedSimpArgs false
set_option linter.unusedVariables false
namespace Go.Proofs.YtembdkodajichaaGreatDoor
open Go.RowKit
theorem zsj_ (s : S8) (i : Nat) (h : i < 32) : (q5_ s).getD i 0 = UInt8.ofNat ((s8L s).getD (i / 4) 0 / 2 ^ (24 - 8 * (i % 4))).toNat := by
 rcases (by omega : i = 0 ∨ i = 1 ∨ i = 2 ∨ i = 3 ∨ i = 4 ∨ i = 5 ∨ i = 6 ∨ i = 7 ∨ i = 8 ∨ i = 9 ∨ i = 10 ∨ i = 11 ∨ i = 12 ∨ i = 13 ∨ i = 14 ∨ i = 15 ∨ i = 16 ∨ i = 17 ∨ i = 18 ∨ i = 19 ∨ i = 20 ∨ i = 21 ∨ i = 22 ∨ i = 23 ∨ i = 24 ∨ i = 25 ∨ i = 26 ∨ i = 27 ∨ i = 28 ∨ i = 29 ∨ i = 30 ∨ i = 31) with rfl | rfl | rfl | rfl | rfl | rfl | rfl | rfl | rfl | rfl | rfl | rfl | rfl | rfl | rfl | rfl | rfl | rfl | rfl | rfl | rfl | rfl | rfl | rfl | rfl | rfl | rfl | rfl | rfl | rfl | rfl | rfl <;> simp [q5_, s8L]
theorem j7_ (s : S8) (h : 0 ≤ s.a ∧ 0 ≤ s.b ∧ 0 ≤ s.c ∧ 0 ≤ s.d ∧ 0 ≤ s.e ∧ 0 ≤ s.f ∧ 0 ≤ s.g ∧ 0 ≤ s.h) (i : Nat) (hi : i < 32) : (((q5_ s).getD i 0).toNat : Int) = (s8L s).getD (i / 4) 0 / 2 ^ (24 - 8 * (i % 4)) % 256 := by
 rw [zsj_ s i hi]
 refine zaw_ _ ?_ _
 rcases (by omega : i / 4 = 0 ∨ i / 4 = 1 ∨ i / 4 = 2 ∨ i / 4 = 3 ∨ i / 4 = 4 ∨ i / 4 = 5 ∨ i / 4 = 6 ∨ i / 4 = 7) with e | e | e | e | e | e | e | e <;> rw [e] <;> simp [s8L] <;> omega
theorem zsk_ (l : List UInt8) (hl : l.length ≤ 100000000) (bv : Value) (w : World) (hin : x8_ bv l w) :
  Calls Tryz.prog 79 #[bv] w fun e w' => e = .returned (.agg (u8L (q5_ (z9_ l))).toArray) ∧ Below w.heap.size w w' := by
 have HIN := Lib.hid hin
 obtain ⟨ba, bc, hbv, _, _⟩ := j6_ hin
 subst hbv
 clear hin
 go_enter Tryz.func79, Tryz.ntmps79
 go_wp2_with fail
 have HR1 : Hid (((w.alloc (.cells #[.int .u8 0, .int .u8 0, .int .u8 0, .int .u8 0, .int .u8 0, .int .u8 0, .int .u8 0, .int .u8 0, .int .u8 0, .int .u8 0, .int .u8 0, .int .u8 0, .int .u8 0, .int .u8 0, .int .u8 0, .int .u8 0, .int .u8 0, .int .u8 0, .int .u8 0, .int .u8 0, .int .u8 0, .int .u8 0, .int .u8 0, .int .u8 0, .int .u8 0, .int .u8 0, .int .u8 0, .int .u8 0, .int .u8 0, .int .u8 0, .int .u8 0, .int .u8 0] 104)).alloc (.cells #[.int .u32 1779033703, .int .u32 3144134277, .int .u32 1013904242, .int .u32 2773480762, .int .u32 1359893119, .int .u32 2600822924, .int .u32 528734635, .int .u32 1541459225] 121)).heap[w.heap.size]? = some (.cells #[.int .u8 0, .int .u8 0, .int .u8 0, .int .u8 0, .int .u8 0, .int .u8 0, .int .u8 0, .int .u8 0, .int .u8 0, .int .u8 0, .int .u8 0, .int .u8 0, .int .u8 0, .int .u8 0, .int .u8 0, .int .u8 0, .int .u8 0, .int .u8 0, .int .u8 0, .int .u8 0, .int .u8 0, .int .u8 0, .int .u8 0, .int .u8 0, .int .u8 0, .int .u8 0, .int .u8 0, .int .u8 0, .int .u8 0, .int .u8 0, .int .u8 0, .int .u8 0] 104 (0, 0))) := Lib.hid (x3_ (y8_ w _) _)
 have HI1 : Hid (InW (.slice (some ⟨w.heap.size + 1, 0, none⟩) 8 8) (s8L zbd_) ((w.alloc (.cells #[.int .u8 0, .int .u8 0, .int .u8 0, .int .u8 0, .int .u8 0, .int .u8 0, .int .u8 0, .int .u8 0, .int .u8 0, .int .u8 0, .int .u8 0, .int .u8 0, .int .u8 0, .int .u8 0, .int .u8 0, .int .u8 0, .int .u8 0, .int .u8 0, .int .u8 0, .int .u8 0, .int .u8 0, .int .u8 0, .int .u8 0, .int .u8 0, .int .u8 0, .int .u8 0, .int .u8 0, .int .u8 0, .int .u8 0, .int .u8 0, .int .u8 0, .int .u8 0] 104)).alloc (.cells #[.int .u32 1779033703, .int .u32 3144134277, .int .u32 1013904242, .int .u32 2773480762, .int .u32 1359893119, .int .u32 2600822924, .int .u32 528734635, .int .u32 1541459225] 121))) := Lib.hid (by
  have hb8 := y8_ (w.alloc (.cells #[.int .u8 0, .int .u8 0, .int .u8 0, .int .u8 0, .int .u8 0, .int .u8 0, .int .u8 0, .int .u8 0, .int .u8 0, .int .u8 0, .int .u8 0, .int .u8 0, .int .u8 0, .int .u8 0, .int .u8 0, .int .u8 0, .int .u8 0, .int .u8 0, .int .u8 0, .int .u8 0, .int .u8 0, .int .u8 0, .int .u8 0, .int .u8 0, .int .u8 0, .int .u8 0, .int .u8 0, .int .u8 0, .int .u8 0, .int .u8 0, .int .u8 0, .int .u8 0] 104)) (.cells (wL (s8L zbd_)).toArray 121)
  rw [World.size_alloc] at hb8
  exact zhy_ (l := s8L zbd_) hb8 (Nat.le_refl _))
 have HL1 : Hid (GL [] w ((w.alloc (.cells #[.int .u8 0, .int .u8 0, .int .u8 0, .int .u8 0, .int .u8 0, .int .u8 0, .int .u8 0, .int .u8 0, .int .u8 0, .int .u8 0, .int .u8 0, .int .u8 0, .int .u8 0, .int .u8 0, .int .u8 0, .int .u8 0, .int .u8 0, .int .u8 0, .int .u8 0, .int .u8 0, .int .u8 0, .int .u8 0, .int .u8 0, .int .u8 0, .int .u8 0, .int .u8 0, .int .u8 0, .int .u8 0, .int .u8 0, .int .u8 0, .int .u8 0, .int .u8 0] 104)).alloc (.cells #[.int .u32 1779033703, .int .u32 3144134277, .int .u32 1013904242, .int .u32 2773480762, .int .u32 1359893119, .int .u32 2600822924, .int .u32 528734635, .int .u32 1541459225] 121))) := Lib.hid (y2_ (y2_ (y1_ _ _) _) _)
 generalize (w.alloc (.cells #[.int .u8 0, .int .u8 0, .int .u8 0, .int .u8 0, .int .u8 0, .int .u8 0, .int .u8 0, .int .u8 0, .int .u8 0, .int .u8 0, .int .u8 0, .int .u8 0, .int .u8 0, .int .u8 0, .int .u8 0, .int .u8 0, .int .u8 0, .int .u8 0, .int .u8 0, .int .u8 0, .int .u8 0, .int .u8 0, .int .u8 0, .int .u8 0, .int .u8 0, .int .u8 0, .int .u8 0, .int .u8 0, .int .u8 0, .int .u8 0, .int .u8 0, .int .u8 0] 104)).alloc (.cells #[.int .u32 1779033703, .int .u32 3144134277, .int .u32 1013904242, .int .u32 2773480762, .int .u32 1359893119, .int .u32 2600822924, .int .u32 528734635, .int .u32 1541459225] 121) = w1 at *
 refine (zqm_ l hl _ w1 (za1_ HIN.out HL1.out)).mono ?_
 rintro e w2 ⟨fv, rfl, hfo, hb⟩
 have HR2 := Lib.hid (x0_ HR1.out hb (z4_ HR1.out))
 have HI2 := Lib.hid (zqk_ HI1.out (y6_ hb (y1_ _ _)))
 have HL2 : Hid (GL [] w w2) := Lib.hid (y6_ hb HL1.out)
 obtain ⟨fa, fc, hfv⟩ := zaO_ hfo
 subst hfv
 have HFI := Lib.hid (zaT_ hfo).1
 have hfl := zih_ l
 have hfl2 : (zaS_ l).length ≤ 200000000 := by simp [zaS_, zae_, zaW_]; omega
 obtain ⟨N, hN⟩ : ∃ N, (zaS_ l).length = 64 * N := ⟨(zaS_ l).length / 64, by omega⟩
 have hfp : 0 < (zaS_ l).length := by simp [zaS_]; omega
 have HS : Hid (z9_ l = soak N zbd_ (zaS_ l)) := Lib.hid (by unfold z9_; rw [hN, Nat.mul_div_cancel_left _ om_])
 generalize zaS_ l = F at *
 have hF0 : 0 < F.length := by
  rcases Nat.eq_zero_or_pos F.length with h0 | h0
  · rw [h0] at hfp; omega
  · exact h0
 have hfc : F.length ≤ fc := by
  obtain ⟨a', c', hfe, hfc, _⟩ := j6_ HFI.out
  injection hfe with e1 e2 e3
  omega
 have HN := Lib.hid hN
 clear hfo hb HIN HR1 HI1 HL1 hfl hN hfp
 go_wp2_with fail
 go_loopw [3, 5] (fun v iv wr => ∃ n i : Nat, n ≤ N ∧ i = 64 * n ∧ iv = .int .i64 (i : Int) ∧ Hid (InW v (s8L (soak n zbd_ F)) wr) ∧ Hid (GL [] w wr) ∧ Hid (GL [] w2 wr)) (fun _ iv _ => F.length - (intOf iv).toNat)
 case atStart => exact ⟨0, 0, by omega, rfl, rfl, HI2, HL2, Lib.hid (y1_ _ _)⟩
 case round =>
  obtain ⟨n, i, hn, hi, rfl, HI, HL, HD⟩ := hrel
  have HIE := Lib.hid hi
  by_cases hlt : n < N
  · have hi0 : (0 : Int) ≤ i := by omega
    have hNN := HN.out
    have hi1 : decide ((i : Int) < F.length) = true := by simp; omega
    have hi2 : (i : Int) < F.length := by omega
    have hi3 : i + 64 ≤ F.length := by omega
    have hi4 : i + 64 ≤ fc := by omega
    have hi5 : (0 : Int) ≤ (i : Int) + 64 ∧ (i : Int) + 64 ≤ fc := by omega
    have hi6 : (0 : Int) ≤ (i : Int) ∧ (i : Int) ≤ (i : Int) + 64 := by omega
    have hne : ¬ (fc = i) := by omega
    have q1 : IntKind.i64.wrap ((i : Int) + 64) = (i : Int) + 64 := IntWalk.i64_in _ om_
    have t1 : ((i : Int) + 64).toNat = i + 64 := by omega
    have hIA := zdH_ (zgU_ (za1_ HFI.out HD.out) (n := i) om_) (n := 64) (c2 := fc - i) (by rw [List.length_drop]; omega) om_
    rw [if_neg hne] at hIA
    have HIA := Lib.hid hIA
    have HTK := Lib.hid (zsi_ (soak n zbd_ F) ((F.drop i).take 64) (by rw [List.length_take, List.length_drop]; omega) _ _ wr HI.out hIA)
    have HSK : Hid (soak (n + 1) zbd_ F = zbx_ (soak n zbd_ F) ((F.drop i).take 64)) := Lib.hid (by rw [zgq_, hi])
    clear hi hIA hNN
    go_wp2_with fail
    refine HTK.out.mono ?_
    rintro e w3 ⟨lv3, rfl, hin3, hb3⟩
    have HI3 : Hid (InW lv3 (s8L (soak (n + 1) zbd_ F)) w3) := Lib.hid (by rw [HSK.out]; exact hin3)
    have HL3 : Hid (GL [] w w3) := Lib.hid (y6_ hb3 HL.out)
    have HD3 : Hid (GL [] w2 w3) := Lib.hid (y6_ hb3 HD.out)
    clear hin3 hb3 HTK
    go_wp2_with fail
    exact ⟨⟨n + 1, i + 64, by omega, by have := HIE.out; omega, by go_num, HI3, HL3, HD3⟩, by simp [intOf]; omega⟩
  · obtain rfl : n = N := by omega
    have hNN := HN.out
    obtain rfl : i = F.length := by omega
    clear hlt hi hNN
    rw [← HS.out] at HI
    have HR3 := Lib.hid (x6_ HR2.out HD.out si_)
    obtain ⟨lg, lc, hlv, hlg, hlc⟩ := zf0_ HI.out
    have h8 : (s8L (z9_ l)).length = 8 := rfl
    rw [h8] at hlv hlc
    have HLC := Lib.hid hlc
    subst hlv
    have HNNG := Lib.hid (ziN_ l)
    generalize hsm : z9_ l = sm at *
    have HSM := Lib.hid hsm
    clear hsm
    clear hlc HI HS HIE HFI h8
    go_wp2_with fail
    have HO4 : Hid ((wr.alloc (.cells #[.int .u8 0, .int .u8 0, .int .u8 0, .int .u8 0, .int .u8 0, .int .u8 0, .int .u8 0, .int .u8 0, .int .u8 0, .int .u8 0, .int .u8 0, .int .u8 0, .int .u8 0, .int .u8 0, .int .u8 0, .int .u8 0, .int .u8 0, .int .u8 0, .int .u8 0, .int .u8 0, .int .u8 0, .int .u8 0, .int .u8 0, .int .u8 0, .int .u8 0, .int .u8 0, .int .u8 0, .int .u8 0, .int .u8 0, .int .u8 0, .int .u8 0, .int .u8 0] 104)).heap[wr.heap.size]? = some (.cells (outC sm 0) 104 (0, 0))) := Lib.hid (y8_ wr _)
    have HR4 := Lib.hid (x3_ HR3.out (.cells #[.int .u8 0, .int .u8 0, .int .u8 0, .int .u8 0, .int .u8 0, .int .u8 0, .int .u8 0, .int .u8 0, .int .u8 0, .int .u8 0, .int .u8 0, .int .u8 0, .int .u8 0, .int .u8 0, .int .u8 0, .int .u8 0, .int .u8 0, .int .u8 0, .int .u8 0, .int .u8 0, .int .u8 0, .int .u8 0, .int .u8 0, .int .u8 0, .int .u8 0, .int .u8 0, .int .u8 0, .int .u8 0, .int .u8 0, .int .u8 0, .int .u8 0, .int .u8 0] 104))
    have HL4 : Hid (GL [] w (wr.alloc (.cells #[.int .u8 0, .int .u8 0, .int .u8 0, .int .u8 0, .int .u8 0, .int .u8 0, .int .u8 0, .int .u8 0, .int .u8 0, .int .u8 0, .int .u8 0, .int .u8 0, .int .u8 0, .int .u8 0, .int .u8 0, .int .u8 0, .int .u8 0, .int .u8 0, .int .u8 0, .int .u8 0, .int .u8 0, .int .u8 0, .int .u8 0, .int .u8 0, .int .u8 0, .int .u8 0, .int .u8 0, .int .u8 0, .int .u8 0, .int .u8 0, .int .u8 0, .int .u8 0] 104))) := Lib.hid (y2_ HL.out _)
    have HC4 : Hid (∀ j, j < 8 → (wr.alloc (.cells #[.int .u8 0, .int .u8 0, .int .u8 0, .int .u8 0, .int .u8 0, .int .u8 0, .int .u8 0, .int .u8 0, .int .u8 0, .int .u8 0, .int .u8 0, .int .u8 0, .int .u8 0, .int .u8 0, .int .u8 0, .int .u8 0, .int .u8 0, .int .u8 0, .int .u8 0, .int .u8 0, .int .u8 0, .int .u8 0, .int .u8 0, .int .u8 0, .int .u8 0, .int .u8 0, .int .u8 0, .int .u8 0, .int .u8 0, .int .u8 0, .int .u8 0, .int .u8 0] 104)).cell? ⟨lg, j, none⟩ = some (.int .u32 ((s8L sm).getD j 0))) := Lib.hid (fun j hj => zbF_ hlg (HLC.out j hj) (y2_ (y1_ _ _) _))
    have hOl : lg < wr.heap.size := hlg
    have hOw : w.heap.size < wr.heap.size := z4_ HR3.out
    have hl4 : lg < (wr.alloc (.cells #[.int .u8 0, .int .u8 0, .int .u8 0, .int .u8 0, .int .u8 0, .int .u8 0, .int .u8 0, .int .u8 0, .int .u8 0, .int .u8 0, .int .u8 0, .int .u8 0, .int .u8 0, .int .u8 0, .int .u8 0, .int .u8 0, .int .u8 0, .int .u8 0, .int .u8 0, .int .u8 0, .int .u8 0, .int .u8 0, .int .u8 0, .int .u8 0, .int .u8 0, .int .u8 0, .int .u8 0, .int .u8 0, .int .u8 0, .int .u8 0, .int .u8 0, .int .u8 0] 104)).heap.size := by simp; omega
    clear HR3 HL HD HLC hlg
    generalize wr.alloc (.cells #[.int .u8 0, .int .u8 0, .int .u8 0, .int .u8 0, .int .u8 0, .int .u8 0, .int .u8 0, .int .u8 0, .int .u8 0, .int .u8 0, .int .u8 0, .int .u8 0, .int .u8 0, .int .u8 0, .int .u8 0, .int .u8 0, .int .u8 0, .int .u8 0, .int .u8 0, .int .u8 0, .int .u8 0, .int .u8 0, .int .u8 0, .int .u8 0, .int .u8 0, .int .u8 0, .int .u8 0, .int .u8 0, .int .u8 0, .int .u8 0, .int .u8 0, .int .u8 0] 104) = w4 at *
    generalize wr.heap.size = O at *
    go_loopw [7] (fun iv wr => ∃ i : Nat, i ≤ 32 ∧ iv = .int .i64 i ∧ Hid (wr.heap[O]? = some (.cells (outC sm i) 104 (0, 0))) ∧ Hid (GL [O] w4 wr)) (fun iv _ => 32 - (intOf iv).toNat)
    case atStart => exact ⟨0, by omega, rfl, HO4, Lib.hid (y1_ _ _)⟩
    case round =>
     obtain ⟨i, hi, rfl, HZr, HGr⟩ := hrel
     by_cases hlt : i < 32
     · have HCr : Hid (∀ j, j < 8 → wr.cell? ⟨lg, j, none⟩ = some (.int .u32 ((s8L sm).getD j 0))) := Lib.hid (fun j hj => by
        have := HC4.out j hj
        simp only [World.cell?, HGr.out.block _ hl4 so_] at this ⊢
        exact this)
       have f0 : wr.cell? ⟨lg, 0, none⟩ = some (.int .u32 sm.a) := HCr.out 0 om_
       have f1 : wr.cell? ⟨lg, 1, none⟩ = some (.int .u32 sm.b) := HCr.out 1 om_
       have f2 : wr.cell? ⟨lg, 2, none⟩ = some (.int .u32 sm.c) := HCr.out 2 om_
       have f3 : wr.cell? ⟨lg, 3, none⟩ = some (.int .u32 sm.d) := HCr.out 3 om_
       have f4 : wr.cell? ⟨lg, 4, none⟩ = some (.int .u32 sm.e) := HCr.out 4 om_
       have f5 : wr.cell? ⟨lg, 5, none⟩ = some (.int .u32 sm.f) := HCr.out 5 om_
       have f6 : wr.cell? ⟨lg, 6, none⟩ = some (.int .u32 sm.g) := HCr.out 6 om_
       have f7 : wr.cell? ⟨lg, 7, none⟩ = some (.int .u32 sm.h) := HCr.out 7 om_
       have fz := z8_ HZr.out
       have fl := z4_ HZr.out
       have fcc : ∀ j, j < 32 → ∃ v, wr.cell? ⟨O, j, none⟩ = some v := fun j hj => by
        rw [z0_ HZr.out]
        exact ⟨_, Array.getElem?_eq_getElem (by rw [ziO_ sm i hi]; exact hj)⟩
       obtain ⟨vv, fc⟩ := fcc i hlt
       clear fcc
       rcases (by omega : i = 0 ∨ i = 1 ∨ i = 2 ∨ i = 3 ∨ i = 4 ∨ i = 5 ∨ i = 6 ∨ i = 7 ∨ i = 8 ∨ i = 9 ∨ i = 10 ∨ i = 11 ∨ i = 12 ∨ i = 13 ∨ i = 14 ∨ i = 15 ∨ i = 16 ∨ i = 17 ∨ i = 18 ∨ i = 19 ∨ i = 20 ∨ i = 21 ∨ i = 22 ∨ i = 23 ∨ i = 24 ∨ i = 25 ∨ i = 26 ∨ i = 27 ∨ i = 28 ∨ i = 29 ∨ i = 30 ∨ i = 31) with rfl | rfl | rfl | rfl | rfl | rfl | rfl | rfl | rfl | rfl | rfl | rfl | rfl | rfl | rfl | rfl | rfl | rfl | rfl | rfl | rfl | rfl | rfl | rfl | rfl | rfl | rfl | rfl | rfl | rfl | rfl | rfl
       · go_wp2
         go_roundw
         case rel =>
          refine ⟨1, by omega, by go_num, Lib.hid ((z3_ HZr.out 0 _).trans ?_), Lib.hid (z2_ HGr.out (.inl si_) _)⟩
          exact congrArg (fun z => some (Obj.cells z 104 (0, 0))) (j2_ sm 0 om_ _ (by rw [j7_ sm HNNG.out 0 om_]; first | rfl | simp [s8L]))
         case measure => first | (simp [intOf]; done) | (simp [intOf]; omega)
       · go_wp2
         go_roundw
         case rel =>
          refine ⟨2, by omega, by go_num, Lib.hid ((z3_ HZr.out 1 _).trans ?_), Lib.hid (z2_ HGr.out (.inl si_) _)⟩
          exact congrArg (fun z => some (Obj.cells z 104 (0, 0))) (j2_ sm 1 om_ _ (by rw [j7_ sm HNNG.out 1 om_]; first | rfl | simp [s8L]))
         case measure => first | (simp [intOf]; done) | (simp [intOf]; omega)
       · go_wp2
         go_roundw
         case rel =>
          refine ⟨3, by omega, by go_num, Lib.hid ((z3_ HZr.out 2 _).trans ?_), Lib.hid (z2_ HGr.out (.inl si_) _)⟩
          exact congrArg (fun z => some (Obj.cells z 104 (0, 0))) (j2_ sm 2 om_ _ (by rw [j7_ sm HNNG.out 2 om_]; first | rfl | simp [s8L]))
         case measure => first | (simp [intOf]; done) | (simp [intOf]; omega)
       · go_wp2
         go_roundw
         case rel =>
          refine ⟨4, by omega, by go_num, Lib.hid ((z3_ HZr.out 3 _).trans ?_), Lib.hid (z2_ HGr.out (.inl si_) _)⟩
          exact congrArg (fun z => some (Obj.cells z 104 (0, 0))) (j2_ sm 3 om_ _ (by rw [j7_ sm HNNG.out 3 om_]; first | rfl | simp [s8L]))
         case measure => first | (simp [intOf]; done) | (simp [intOf]; omega)
       · go_wp2
         go_roundw
         case rel =>
          refine ⟨5, by omega, by go_num, Lib.hid ((z3_ HZr.out 4 _).trans ?_), Lib.hid (z2_ HGr.out (.inl si_) _)⟩
          exact congrArg (fun z => some (Obj.cells z 104 (0, 0))) (j2_ sm 4 om_ _ (by rw [j7_ sm HNNG.out 4 om_]; first | rfl | simp [s8L]))
         case measure => first | (simp [intOf]; done) | (simp [intOf]; omega)
       · go_wp2
         go_roundw
         case rel =>
          refine ⟨6, by omega, by go_num, Lib.hid ((z3_ HZr.out 5 _).trans ?_), Lib.hid (z2_ HGr.out (.inl si_) _)⟩
          exact congrArg (fun z => some (Obj.cells z 104 (0, 0))) (j2_ sm 5 om_ _ (by rw [j7_ sm HNNG.out 5 om_]; first | rfl | simp [s8L]))
         case measure => first | (simp [intOf]; done) | (simp [intOf]; omega)
       · go_wp2
         go_roundw
         case rel =>
          refine ⟨7, by omega, by go_num, Lib.hid ((z3_ HZr.out 6 _).trans ?_), Lib.hid (z2_ HGr.out (.inl si_) _)⟩
          exact congrArg (fun z => some (Obj.cells z 104 (0, 0))) (j2_ sm 6 om_ _ (by rw [j7_ sm HNNG.out 6 om_]; first | rfl | simp [s8L]))
         case measure => first | (simp [intOf]; done) | (simp [intOf]; omega)
       · go_wp2
         go_roundw
         case rel =>
          refine ⟨8, by omega, by go_num, Lib.hid ((z3_ HZr.out 7 _).trans ?_), Lib.hid (z2_ HGr.out (.inl si_) _)⟩
          exact congrArg (fun z => some (Obj.cells z 104 (0, 0))) (j2_ sm 7 om_ _ (by rw [j7_ sm HNNG.out 7 om_]; first | rfl | simp [s8L]))
         case measure => first | (simp [intOf]; done) | (simp [intOf]; omega)
       · go_wp2
         go_roundw
         case rel =>
          refine ⟨9, by omega, by go_num, Lib.hid ((z3_ HZr.out 8 _).trans ?_), Lib.hid (z2_ HGr.out (.inl si_) _)⟩
          exact congrArg (fun z => some (Obj.cells z 104 (0, 0))) (j2_ sm 8 om_ _ (by rw [j7_ sm HNNG.out 8 om_]; first | rfl | simp [s8L]))
         case measure => first | (simp [intOf]; done) | (simp [intOf]; omega)
       · go_wp2
         go_roundw
         case rel =>
          refine ⟨10, by omega, by go_num, Lib.hid ((z3_ HZr.out 9 _).trans ?_), Lib.hid (z2_ HGr.out (.inl si_) _)⟩
          exact congrArg (fun z => some (Obj.cells z 104 (0, 0))) (j2_ sm 9 om_ _ (by rw [j7_ sm HNNG.out 9 om_]; first | rfl | simp [s8L]))
         case measure => first | (simp [intOf]; done) | (simp [intOf]; omega)
       · go_wp2
         go_roundw
         case rel =>
          refine ⟨11, by omega, by go_num, Lib.hid ((z3_ HZr.out 10 _).trans ?_), Lib.hid (z2_ HGr.out (.inl si_) _)⟩
          exact congrArg (fun z => some (Obj.cells z 104 (0, 0))) (j2_ sm 10 om_ _ (by rw [j7_ sm HNNG.out 10 om_]; first | rfl | simp [s8L]))
         case measure => first | (simp [intOf]; done) | (simp [intOf]; omega)
       · go_wp2
         go_roundw
         case rel =>
          refine ⟨12, by omega, by go_num, Lib.hid ((z3_ HZr.out 11 _).trans ?_), Lib.hid (z2_ HGr.out (.inl si_) _)⟩
          exact congrArg (fun z => some (Obj.cells z 104 (0, 0))) (j2_ sm 11 om_ _ (by rw [j7_ sm HNNG.out 11 om_]; first | rfl | simp [s8L]))
         case measure => first | (simp [intOf]; done) | (simp [intOf]; omega)
       · go_wp2
         go_roundw
         case rel =>
          refine ⟨13, by omega, by go_num, Lib.hid ((z3_ HZr.out 12 _).trans ?_), Lib.hid (z2_ HGr.out (.inl si_) _)⟩
          exact congrArg (fun z => some (Obj.cells z 104 (0, 0))) (j2_ sm 12 om_ _ (by rw [j7_ sm HNNG.out 12 om_]; first | rfl | simp [s8L]))
         case measure => first | (simp [intOf]; done) | (simp [intOf]; omega)
       · go_wp2
         go_roundw
         case rel =>
          refine ⟨14, by omega, by go_num, Lib.hid ((z3_ HZr.out 13 _).trans ?_), Lib.hid (z2_ HGr.out (.inl si_) _)⟩
          exact congrArg (fun z => some (Obj.cells z 104 (0, 0))) (j2_ sm 13 om_ _ (by rw [j7_ sm HNNG.out 13 om_]; first | rfl | simp [s8L]))
         case measure => first | (simp [intOf]; done) | (simp [intOf]; omega)
       · go_wp2
         go_roundw
         case rel =>
          refine ⟨15, by omega, by go_num, Lib.hid ((z3_ HZr.out 14 _).trans ?_), Lib.hid (z2_ HGr.out (.inl si_) _)⟩
          exact congrArg (fun z => some (Obj.cells z 104 (0, 0))) (j2_ sm 14 om_ _ (by rw [j7_ sm HNNG.out 14 om_]; first | rfl | simp [s8L]))
         case measure => first | (simp [intOf]; done) | (simp [intOf]; omega)
       · go_wp2
         go_roundw
         case rel =>
          refine ⟨16, by omega, by go_num, Lib.hid ((z3_ HZr.out 15 _).trans ?_), Lib.hid (z2_ HGr.out (.inl si_) _)⟩
          exact congrArg (fun z => some (Obj.cells z 104 (0, 0))) (j2_ sm 15 om_ _ (by rw [j7_ sm HNNG.out 15 om_]; first | rfl | simp [s8L]))
         case measure => first | (simp [intOf]; done) | (simp [intOf]; omega)
       · go_wp2
         go_roundw
         case rel =>
          refine ⟨17, by omega, by go_num, Lib.hid ((z3_ HZr.out 16 _).trans ?_), Lib.hid (z2_ HGr.out (.inl si_) _)⟩
          exact congrArg (fun z => some (Obj.cells z 104 (0, 0))) (j2_ sm 16 om_ _ (by rw [j7_ sm HNNG.out 16 om_]; first | rfl | simp [s8L]))
         case measure => first | (simp [intOf]; done) | (simp [intOf]; omega)
       · go_wp2
         go_roundw
         case rel =>
          refine ⟨18, by omega, by go_num, Lib.hid ((z3_ HZr.out 17 _).trans ?_), Lib.hid (z2_ HGr.out (.inl si_) _)⟩
          exact congrArg (fun z => some (Obj.cells z 104 (0, 0))) (j2_ sm 17 om_ _ (by rw [j7_ sm HNNG.out 17 om_]; first | rfl | simp [s8L]))
         case measure => first | (simp [intOf]; done) | (simp [intOf]; omega)
       · go_wp2
         go_roundw
         case rel =>
          refine ⟨19, by omega, by go_num, Lib.hid ((z3_ HZr.out 18 _).trans ?_), Lib.hid (z2_ HGr.out (.inl si_) _)⟩
          exact congrArg (fun z => some (Obj.cells z 104 (0, 0))) (j2_ sm 18 om_ _ (by rw [j7_ sm HNNG.out 18 om_]; first | rfl | simp [s8L]))
         case measure => first | (simp [intOf]; done) | (simp [intOf]; omega)
       · go_wp2
         go_roundw
         case rel =>
          refine ⟨20, by omega, by go_num, Lib.hid ((z3_ HZr.out 19 _).trans ?_), Lib.hid (z2_ HGr.out (.inl si_) _)⟩
          exact congrArg (fun z => some (Obj.cells z 104 (0, 0))) (j2_ sm 19 om_ _ (by rw [j7_ sm HNNG.out 19 om_]; first | rfl | simp [s8L]))
         case measure => first | (simp [intOf]; done) | (simp [intOf]; omega)
       · go_wp2
         go_roundw
         case rel =>
          refine ⟨21, by omega, by go_num, Lib.hid ((z3_ HZr.out 20 _).trans ?_), Lib.hid (z2_ HGr.out (.inl si_) _)⟩
          exact congrArg (fun z => some (Obj.cells z 104 (0, 0))) (j2_ sm 20 om_ _ (by rw [j7_ sm HNNG.out 20 om_]; first | rfl | simp [s8L]))
         case measure => first | (simp [intOf]; done) | (simp [intOf]; omega)
       · go_wp2
         go_roundw
         case rel =>
          refine ⟨22, by omega, by go_num, Lib.hid ((z3_ HZr.out 21 _).trans ?_), Lib.hid (z2_ HGr.out (.inl si_) _)⟩
          exact congrArg (fun z => some (Obj.cells z 104 (0, 0))) (j2_ sm 21 om_ _ (by rw [j7_ sm HNNG.out 21 om_]; first | rfl | simp [s8L]))
         case measure => first | (simp [intOf]; done) | (simp [intOf]; omega)
       · go_wp2
         go_roundw
         case rel =>
          refine ⟨23, by omega, by go_num, Lib.hid ((z3_ HZr.out 22 _).trans ?_), Lib.hid (z2_ HGr.out (.inl si_) _)⟩
          exact congrArg (fun z => some (Obj.cells z 104 (0, 0))) (j2_ sm 22 om_ _ (by rw [j7_ sm HNNG.out 22 om_]; first | rfl | simp [s8L]))
         case measure => first | (simp [intOf]; done) | (simp [intOf]; omega)
       · go_wp2
         go_roundw
         case rel =>
          refine ⟨24, by omega, by go_num, Lib.hid ((z3_ HZr.out 23 _).trans ?_), Lib.hid (z2_ HGr.out (.inl si_) _)⟩
          exact congrArg (fun z => some (Obj.cells z 104 (0, 0))) (j2_ sm 23 om_ _ (by rw [j7_ sm HNNG.out 23 om_]; first | rfl | simp [s8L]))
         case measure => first | (simp [intOf]; done) | (simp [intOf]; omega)
       · go_wp2
         go_roundw
         case rel =>
          refine ⟨25, by omega, by go_num, Lib.hid ((z3_ HZr.out 24 _).trans ?_), Lib.hid (z2_ HGr.out (.inl si_) _)⟩
          exact congrArg (fun z => some (Obj.cells z 104 (0, 0))) (j2_ sm 24 om_ _ (by rw [j7_ sm HNNG.out 24 om_]; first | rfl | simp [s8L]))
         case measure => first | (simp [intOf]; done) | (simp [intOf]; omega)
       · go_wp2
         go_roundw
         case rel =>
          refine ⟨26, by omega, by go_num, Lib.hid ((z3_ HZr.out 25 _).trans ?_), Lib.hid (z2_ HGr.out (.inl si_) _)⟩
          exact congrArg (fun z => some (Obj.cells z 104 (0, 0))) (j2_ sm 25 om_ _ (by rw [j7_ sm HNNG.out 25 om_]; first | rfl | simp [s8L]))
         case measure => first | (simp [intOf]; done) | (simp [intOf]; omega)
       · go_wp2
         go_roundw
         case rel =>
          refine ⟨27, by omega, by go_num, Lib.hid ((z3_ HZr.out 26 _).trans ?_), Lib.hid (z2_ HGr.out (.inl si_) _)⟩
          exact congrArg (fun z => some (Obj.cells z 104 (0, 0))) (j2_ sm 26 om_ _ (by rw [j7_ sm HNNG.out 26 om_]; first | rfl | simp [s8L]))
         case measure => first | (simp [intOf]; done) | (simp [intOf]; omega)
       · go_wp2
         go_roundw
         case rel =>
          refine ⟨28, by omega, by go_num, Lib.hid ((z3_ HZr.out 27 _).trans ?_), Lib.hid (z2_ HGr.out (.inl si_) _)⟩
          exact congrArg (fun z => some (Obj.cells z 104 (0, 0))) (j2_ sm 27 om_ _ (by rw [j7_ sm HNNG.out 27 om_]; first | rfl | simp [s8L]))
         case measure => first | (simp [intOf]; done) | (simp [intOf]; omega)
       · go_wp2
         go_roundw
         case rel =>
          refine ⟨29, by omega, by go_num, Lib.hid ((z3_ HZr.out 28 _).trans ?_), Lib.hid (z2_ HGr.out (.inl si_) _)⟩
          exact congrArg (fun z => some (Obj.cells z 104 (0, 0))) (j2_ sm 28 om_ _ (by rw [j7_ sm HNNG.out 28 om_]; first | rfl | simp [s8L]))
         case measure => first | (simp [intOf]; done) | (simp [intOf]; omega)
       · go_wp2
         go_roundw
         case rel =>
          refine ⟨30, by omega, by go_num, Lib.hid ((z3_ HZr.out 29 _).trans ?_), Lib.hid (z2_ HGr.out (.inl si_) _)⟩
          exact congrArg (fun z => some (Obj.cells z 104 (0, 0))) (j2_ sm 29 om_ _ (by rw [j7_ sm HNNG.out 29 om_]; first | rfl | simp [s8L]))
         case measure => first | (simp [intOf]; done) | (simp [intOf]; omega)
       · go_wp2
         go_roundw
         case rel =>
          refine ⟨31, by omega, by go_num, Lib.hid ((z3_ HZr.out 30 _).trans ?_), Lib.hid (z2_ HGr.out (.inl si_) _)⟩
          exact congrArg (fun z => some (Obj.cells z 104 (0, 0))) (j2_ sm 30 om_ _ (by rw [j7_ sm HNNG.out 30 om_]; first | rfl | simp [s8L]))
         case measure => first | (simp [intOf]; done) | (simp [intOf]; omega)
       · go_wp2
         go_roundw
         case rel =>
          refine ⟨32, by omega, by go_num, Lib.hid ((z3_ HZr.out 31 _).trans ?_), Lib.hid (z2_ HGr.out (.inl si_) _)⟩
          exact congrArg (fun z => some (Obj.cells z 104 (0, 0))) (j2_ sm 31 om_ _ (by rw [j7_ sm HNNG.out 31 om_]; first | rfl | simp [s8L]))
         case measure => first | (simp [intOf]; done) | (simp [intOf]; omega)
     · obtain rfl : i = 32 := by omega
       clear hlt
       have e32 : outC sm 32 = (u8L (q5_ sm)).toArray := by
        unfold outC
        rw [List.take_of_length_le (by rw [zbW_]; omega)]
        simp
       have hO := HZr.out
       rw [e32] at hO
       have hRr := x6_ HR4.out HGr.out so_
       have hgw : GL [] w wr := y7_ HGr.out HL4.out so_
       have hl32 : (u8L (q5_ sm)).length = 32 := by rw [zaj_, zbW_]
       have hsc2 := run_storeCells_cells (P := Tryz.prog) w.heap.size 0 (u8L (q5_ sm)) 0 wr (fun j hj => by have := (zbL_ hRr j (by rw [hl32] at hj; exact hj)).1; simpa using this) (fun j hj => by have := (zbL_ hRr j (by rw [hl32] at hj; exact hj)).2; simpa using this) (fun x hx => by
        unfold u8L at hx
        obtain ⟨y, _, rfl⟩ := List.mem_map.1 hx
        rfl)
       rw [Nat.add_zero] at hsc2
       have hRf := zdC_ (vs := u8L (q5_ sm)) hRr (by rw [hl32]; rfl)
       have hlv := run_loadVar_mid (P := Tryz.prog) (wr.setCells w.heap.size 0 (u8L (q5_ sm))) w.heap.size 0 104 (u8L (q5_ sm)) _ (zdj_ hRf) Tryz.underlying104 rfl (by rw [Tryz.sizeA32, hl32])
       have HFIN : Hid (Below w.heap.size w (wr.setCells w.heap.size 0 (u8L (q5_ sm)))) := Lib.hid (y0_ (zce_ (.inr (Nat.le_refl _)) _ 0 _ hgw))
       have HOc := Lib.hid hO
       clear hO hgw hRr hRf HZr HGr HC4 HO4 HR4 HL4
       generalize hob : u8L (q5_ sm) = ob at *
       go_wp2_with ((with_reducible refine wpList_load_mid rfl 104 (.tmp 6) rfl O 0 rfl ob _ ?hc Tryz.underlying104 rfl ?hi ?_; (case hc => exact zdj_ HOc.out); (case hi => rw [Tryz.sizeA32, hl32])))
       exact bodyPost_ret (v := .agg ob.toArray) (by simp [results, Tryz.results79, asAddr, hlv]) rfl (by
        refine ⟨?_, HFIN.out⟩
        rw [HSM.out, hob])
def zkR_ : List UInt8 := [48, 49, 50, 51, 52, 53, 54, 55, 56, 57, 97, 98, 99, 100, 101, 102]
theorem zkS_ : ∀ k : Fin 16, List.take 1 (List.drop k.val zkR_) = [hexC k.val] := by decide
theorem zsl_ (ob : List UInt8) (i : Nat) (h : i < ob.length) : hexB (ob.take (i + 1)) = hexB (ob.take i) ++ [hexC ((ob.getD i 0).toNat / 16)] ++ [hexC ((ob.getD i 0).toNat % 16)] := by
 rw [List.take_succ_eq_append_getElem h, ziQ_, List.getD_eq_getElem?_getD, List.getElem?_eq_getElem h]
 simp [hexB]
theorem zsm_ (l : List UInt8) (hl : l.length ≤ 100000000) (bv : Value) (w : World) (hin : x8_ bv l w) :
  Calls Tryz.prog 42 #[bv] w fun e w' => e = .returned (.string (bs (hexT l))) ∧ Below w.heap.size w w' := by
 have HIN := Lib.hid hin
 obtain ⟨ba, bc, hbv, _, _⟩ := j6_ hin
 subst hbv
 clear hin
 have HH : Hid (hexT l = hexB (q5_ (z9_ l))) := Lib.hid rfl
 go_enter Tryz.func42, Tryz.ntmps42
 go_wp2_with fail
 refine (zsk_ l hl _ w HIN.out).mono ?_
 rintro e w1 ⟨rfl, hb1⟩
 have hob : (q5_ (z9_ l)).length = 32 := zbW_ _
 generalize q5_ (z9_ l) = ob at *
 have hsz : (u8L ob).length = 32 := by rw [zaj_, hob]
 have hO0 : (w1.alloc (.cells #[.int .u8 0, .int .u8 0, .int .u8 0, .int .u8 0, .int .u8 0, .int .u8 0, .int .u8 0, .int .u8 0, .int .u8 0, .int .u8 0, .int .u8 0, .int .u8 0, .int .u8 0, .int .u8 0, .int .u8 0, .int .u8 0, .int .u8 0, .int .u8 0, .int .u8 0, .int .u8 0, .int .u8 0, .int .u8 0, .int .u8 0, .int .u8 0, .int .u8 0, .int .u8 0, .int .u8 0, .int .u8 0, .int .u8 0, .int .u8 0, .int .u8 0, .int .u8 0] 104)).heap[w1.heap.size]? = some (.cells #[.int .u8 0, .int .u8 0, .int .u8 0, .int .u8 0, .int .u8 0, .int .u8 0, .int .u8 0, .int .u8 0, .int .u8 0, .int .u8 0, .int .u8 0, .int .u8 0, .int .u8 0, .int .u8 0, .int .u8 0, .int .u8 0, .int .u8 0, .int .u8 0, .int .u8 0, .int .u8 0, .int .u8 0, .int .u8 0, .int .u8 0, .int .u8 0, .int .u8 0, .int .u8 0, .int .u8 0, .int .u8 0, .int .u8 0, .int .u8 0, .int .u8 0, .int .u8 0] 104 (0, 0)) := y8_ w1 _
 have hsc2 := run_storeCells_cells (P := Tryz.prog) w1.heap.size 0 (u8L ob) 0 (w1.alloc (.cells #[.int .u8 0, .int .u8 0, .int .u8 0, .int .u8 0, .int .u8 0, .int .u8 0, .int .u8 0, .int .u8 0, .int .u8 0, .int .u8 0, .int .u8 0, .int .u8 0, .int .u8 0, .int .u8 0, .int .u8 0, .int .u8 0, .int .u8 0, .int .u8 0, .int .u8 0, .int .u8 0, .int .u8 0, .int .u8 0, .int .u8 0, .int .u8 0, .int .u8 0, .int .u8 0, .int .u8 0, .int .u8 0, .int .u8 0, .int .u8 0, .int .u8 0, .int .u8 0] 104)) (fun j hj => by first | (simp; done) | (have := (zbL_ hO0 j (by rw [hsz] at hj; exact hj)).1; simpa using this)) (fun j hj => by first | (simp; done) | (have := (zbL_ hO0 j (by rw [hsz] at hj; exact hj)).2; simpa using this)) (fun x hx => by
  unfold u8L at hx
  obtain ⟨y, _, rfl⟩ := List.mem_map.1 hx
  rfl)
 rw [Nat.add_zero] at hsc2
 have HO1 := Lib.hid (zdC_ (vs := u8L ob) hO0 (by rw [hsz]; rfl))
 have HL1 : Hid (GL [] w ((w1.alloc (.cells #[.int .u8 0, .int .u8 0, .int .u8 0, .int .u8 0, .int .u8 0, .int .u8 0, .int .u8 0, .int .u8 0, .int .u8 0, .int .u8 0, .int .u8 0, .int .u8 0, .int .u8 0, .int .u8 0, .int .u8 0, .int .u8 0, .int .u8 0, .int .u8 0, .int .u8 0, .int .u8 0, .int .u8 0, .int .u8 0, .int .u8 0, .int .u8 0, .int .u8 0, .int .u8 0, .int .u8 0, .int .u8 0, .int .u8 0, .int .u8 0, .int .u8 0, .int .u8 0] 104)).setCells w1.heap.size 0 (u8L ob))) := Lib.hid (zce_ (.inr (y6_ hb1 (y1_ [] w)).size) _ 0 _ (y2_ (y6_ hb1 (y1_ _ _)) _))
 clear hO0 hb1 HIN
 go_wp2_with fail
 clear hsc2
 generalize (w1.alloc (.cells #[.int .u8 0, .int .u8 0, .int .u8 0, .int .u8 0, .int .u8 0, .int .u8 0, .int .u8 0, .int .u8 0, .int .u8 0, .int .u8 0, .int .u8 0, .int .u8 0, .int .u8 0, .int .u8 0, .int .u8 0, .int .u8 0, .int .u8 0, .int .u8 0, .int .u8 0, .int .u8 0, .int .u8 0, .int .u8 0, .int .u8 0, .int .u8 0, .int .u8 0, .int .u8 0, .int .u8 0, .int .u8 0, .int .u8 0, .int .u8 0, .int .u8 0, .int .u8 0] 104)).setCells w1.heap.size 0 (u8L ob) = w2 at *
 generalize w1.heap.size = O at *
 rw [show (Value.string ⟨#[48, 49, 50, 51, 52, 53, 54, 55, 56, 57, 97, 98, 99, 100, 101, 102]⟩) = Value.string (bs [48, 49, 50, 51, 52, 53, 54, 55, 56, 57, 97, 98, 99, 100, 101, 102]) from rfl]
 go_loopw [4, 6] (fun sv iv wr => ∃ i : Nat, i ≤ 32 ∧ iv = .int .i64 (i : Int) ∧ sv = .string (bs (hexB (ob.take i))) ∧ Hid (wr.heap[O]? = some (.cells (u8L ob).toArray 104 (0, 0))) ∧ Hid (GL [] w wr)) (fun _ iv _ => 32 - (intOf iv).toNat)
 case atStart => exact ⟨0, by omega, rfl, rfl, HO1, HL1⟩
 case round =>
  obtain ⟨i, hi, rfl, rfl, HO, HL⟩ := hrel
  by_cases hlt : i < 32
  · have HST := Lib.hid (zsl_ ob i om_)
    have hix : (u8L ob).toArray[i]? = some (.int .u8 (ob.getD i 0).toNat) := by
     rw [List.getElem?_toArray]
     unfold u8L
     rw [List.getElem?_map, List.getElem?_eq_getElem om_, List.getD_eq_getElem?_getD, List.getElem?_eq_getElem om_]
     rfl
    have fc := (z0_ HO.out i).trans hix
    have hc := (ob.getD i 0).toNat_lt
    have hlx : (hexB (ob.take i)).length ≤ 64 := by rw [zeo_, List.length_take]; omega
    generalize (ob.getD i 0).toNat = c at *
    generalize hexB (ob.take i) = sx at *
    obtain ⟨p, hp⟩ : ∃ p : Nat, p = c / 16 := ⟨_, rfl⟩
    obtain ⟨q, hq⟩ : ∃ q : Nat, q = c % 16 := ⟨_, rfl⟩
    rw [← hp, ← hq] at HST
    have hpi : (c : Int) / 16 = (p : Int) := by omega
    have hqi : (c : Int) % 16 = (q : Int) := by omega
    have hp16 : p < 16 := by omega
    have hq16 : q < 16 := by omega
    have k1 := zkS_ ⟨p, hp16⟩
    have k2 := zkS_ ⟨q, hq16⟩
    simp only [zkR_] at k1 k2
    have p1 : (0 : Int) ≤ p ∧ (p : Int) ≤ (p : Int) + 1 := by omega
    have q1 : (0 : Int) ≤ q ∧ (q : Int) ≤ (q : Int) + 1 := by omega
    have p2 : (p : Int) + 1 ≤ 16 := by omega
    have q2 : (q : Int) + 1 ≤ 16 := by omega
    have p3 : ((p : Int) + 1).toNat = p + 1 := by omega
    have q3 : ((q : Int) + 1).toNat = q + 1 := by omega
    have p4 : IntKind.i64.wrap ((p : Int) + 1) = (p : Int) + 1 := IntWalk.i64_in _ om_
    have q4 : IntKind.i64.wrap ((q : Int) + 1) = (q : Int) + 1 := IntWalk.i64_in _ om_
    have r1 : IntKind.u8.wrap (p : Int) = (p : Int) := by rw [IntKind.wrap_u8]; omega
    have r2 : IntKind.i64.wrap (p : Int) = (p : Int) := IntWalk.i64_in _ om_
    have r3 : (c : Int).tmod 16 = (q : Int) := by rw [Int.tmod_eq_emod_of_nonneg om_]; omega
    have r4 : IntKind.i64.wrap (q : Int) = (q : Int) := IntWalk.i64_in _ om_
    have i32 : (i : Int) < 32 := by omega
    have i33 : (0 : Int) ≤ (i : Int) ∧ (i : Int) < 32 := by omega
    have i34 : decide ((i : Int) < 32) = true := by simp; omega
    have n1 : ¬ (9223372036854775807 < sx.length + 1) := by omega
    have n2 : ¬ (9223372036854775807 < sx.length + 1 + 1) := by omega
    have HP := Lib.hid hp
    have HQ := Lib.hid hq
    have hix2 := hix
    clear hp hq hix
    go_wp2_with fail
    go_still (by kernel_rfl)
    rw [show ({ heap := wr.heap, tape := wr.tape, drawn := wr.drawn + 1, os := wr.os, output := wr.output } : World) = wr.drew from rfl]
    have HO5 : Hid (wr.drew.heap[O]? = some (.cells (u8L ob).toArray 104 (0, 0))) := Lib.hid HO.out
    have HL5 : Hid (GL [] w wr.drew) := Lib.hid (x9_ HL.out)
    clear HO HL fc
    generalize wr.drew = w5 at *
    go_wp2_with fail
    go_still (by kernel_rfl)
    rw [show ({ heap := w5.heap, tape := w5.tape, drawn := w5.drawn + 1, os := w5.os, output := w5.output } : World) = w5.drew from rfl]
    have HO6 : Hid (w5.drew.heap[O]? = some (.cells (u8L ob).toArray 104 (0, 0))) := Lib.hid HO5.out
    have HL6 : Hid (GL [] w w5.drew) := Lib.hid (x9_ HL5.out)
    clear HO5 HL5
    generalize w5.drew = w6 at *
    go_wp2_with fail
    go_roundw
    case rel => exact ⟨i + 1, by omega, by go_num, by rw [HST.out]; simp, HO6, HL6⟩
    case measure => simp [intOf]; omega
  · obtain rfl : i = 32 := by omega
    rw [List.take_of_length_le om_]
    go_wp2_with fail
    exact bodyPost_ret (v := .string (bs (hexB ob))) (by simp [results, Tryz.results42, go_sem]) rfl ⟨by rw [HH.out], y0_ HL.out⟩
theorem zsn_ (x : Inv) (hx : zcr_ x) (w : World) :
  Calls Tryz.prog 16 #[invV x] w fun e w' => e = .returned (.tuple #[.string (bs (zci_ x)), .int .i64 (zao_ x)]) ∧ Below w.heap.size w w' := by
 have HX := Lib.hid hx
 have ham0 := hx.am0
 have ham1 := hx.am1
 have hal := zha_ x.am
 clear hx
 unfold invV
 go_enter Tryz.func16, Tryz.ntmps16
 go_wp2_with fail
 have HB1 := Lib.hid (y8_ w (.cells #[.int .i64 x.am, .int .i64 x.st, .string (bs x.hash), .string (bs x.payee), .string (bs x.memo), .int .i64 x.ex, .int .i64 x.de, .string (bs x.sig)] 31))
 have HL1 : Hid (GL [] w (w.alloc (.cells #[.int .i64 x.am, .int .i64 x.st, .string (bs x.hash), .string (bs x.payee), .string (bs x.memo), .int .i64 x.ex, .int .i64 x.de, .string (bs x.sig)] 31))) := Lib.hid (y2_ (y1_ _ _) _)
 generalize w.alloc (.cells #[.int .i64 x.am, .int .i64 x.st, .string (bs x.hash), .string (bs x.payee), .string (bs x.memo), .int .i64 x.ex, .int .i64 x.de, .string (bs x.sig)] 31) = w1 at *
 refine (zrI_ x.am ham0 ham1 _).mono ?_
 rintro e w2 ⟨rfl, hb2⟩
 have HB2 := Lib.hid (x0_ HB1.out hb2 (z4_ HB1.out))
 have HL2 : Hid (GL [] w w2) := Lib.hid (y6_ hb2 HL1.out)
 clear hb2 HB1 HL1 ham0 ham1
 by_cases hE : zah_ x.am = 0
 · have HE := Lib.hid hE
   rw [hE]
   clear hE
   have f2 := z0_ HB2.out
   go_wp2_with fail
   refine (zkQ_ x HX.out _).mono ?_
   rintro e w3 ⟨rfl, hb3⟩
   have HB3 := Lib.hid (x0_ HB2.out hb3 (z4_ HB2.out))
   have HL3 : Hid (GL [] w w3) := Lib.hid (y6_ hb3 HL2.out)
   clear hb3 HB2 HL2 f2
   cases hm : w3_ x with
   | false =>
     have HR := Lib.hid (zjL_ HE.out hm)
     clear hm
     go_wp2_with fail
     exact bodyPost_ret (v := .tuple #[.string (bs []), .int .i64 70]) (by simp [results, Tryz.results16, go_sem]) rfl ⟨by rw [HR.out.1, HR.out.2], y0_ HL3.out⟩
   | true =>
     have HR := Lib.hid (zeL_ HE.out hm)
     have HM := Lib.hid hm
     clear hm
     obtain ⟨c4, w4, hcv, hin4, hg4⟩ := zfA_ 9 Tryz.underlying9 (108 :: 110 :: 115 :: 119 :: k3_ x.am) w3 so_
     have HB4 := Lib.hid (x6_ HB3.out hg4 si_)
     have HL4 : Hid (GL [] w w4) := Lib.hid (y7_ hg4 HL3.out si_)
     have HC4 := Lib.hid hin4
     have HW := Lib.hid (zfh_ x HM.out).2
     clear hin4 hg4
     have f4 := z0_ HB4.out
     have HBT : Hid (bodyT x = bodyT.textL0 (hexT ((108 :: 110 :: 115 :: 119 :: k3_ x.am) ++ j1_ x))) := Lib.hid rfl
     generalize k3_ x.am = am at *
     go_wp2_with fail
     refine (zrK_ x HM.out _).mono ?_
     rintro e w5 ⟨ad5, c5, rfl, hown5, hb5⟩
     have HL5 : Hid (GL [] w w5) := Lib.hid (y6_ hb5 HL4.out)
     obtain ⟨ad6, c6, w6, hrun, hin6, G, hG, hg6⟩ := zjo_ _ _ _ (j1_ x) w5 (zjm_ HC4.out hb5) (by unfold j1_ y5_; simp; omega) (zaT_ hown5).1 (by have := HW.out; simp; omega)
     obtain rfl : w3.heap.size = G := by
      simp [Value.ownBlock] at hG
      exact hG
     have HL6 : Hid (GL [] w w6) := Lib.hid (y7_ hg6 HL5.out (fun r hr => .inr (by simp at hr; subst hr; exact HL3.out.size)))
     have HIN6 := Lib.hid hin6
     simp only [List.length_cons] at hrun
     have HRUN := Lib.hid hrun
     clear hown5 hb5 hrun hin6 hG hg6 f4
     go_wp2_with (at_builtin; refine w8_ _ rfl (.tmp 24) (.tmp 26) 47 47 rfl _ _ (by simp [Act.eval, Act.put]) (by simp [Act.eval, Act.put]) HRUN.out ?_)
     refine (zsm_ _ (by have := HW.out; simp; omega) _ _ HIN6.out).mono ?_
     rintro e w7 ⟨rfl, hb7⟩
     have HL7 : Hid (GL [] w w7) := Lib.hid (y6_ hb7 HL6.out)
     have HTX := Lib.hid (zjM_ ((108 :: 110 :: 115 :: 119 :: am) ++ j1_ x))
     have htl := zep_ ((108 :: 110 :: 115 :: 119 :: am) ++ j1_ x)
     generalize hexT ((108 :: 110 :: 115 :: 119 :: am) ++ j1_ x) = hx at *
     clear hb7
     go_wp2_with fail
     refine (zqb_ hx om_ _).mono ?_
     rintro e w8 ⟨rfl, hb8⟩
     rw [HTX.out]
     have HF : Hid (Below w.heap.size w w8) := Lib.hid (y0_ (y6_ hb8 HL7.out))
     clear hb8
     go_wp2_with fail
     exact bodyPost_ret (v := .tuple #[.string (bs (bodyT.textL0 hx)), .int .i64 0]) (by simp [results, Tryz.results16, go_sem]) rfl ⟨by rw [HR.out.1, HR.out.2, HBT.out], HF.out⟩
 · have HR := Lib.hid (zjK_ hE)
   have HE40 : zah_ x.am = 40 := HR.out.2.2
   rw [HE40]
   clear hE HE40
   go_wp2_with fail
   exact bodyPost_ret (v := .tuple #[.string (bs []), .int .i64 40]) (by simp [results, Tryz.results16, go_sem]) rfl ⟨by rw [HR.out.1, HR.out.2.1], y0_ HL2.out⟩
end Go.Proofs.YtembdkodajichaaGreatDoor
