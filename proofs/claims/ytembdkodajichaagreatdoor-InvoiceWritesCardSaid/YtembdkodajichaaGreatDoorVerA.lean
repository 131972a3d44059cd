/- The program: does a signature fit? (The same text stands in LockW: use one of them.) -/
import Derived.Test.YtembdkodajichaaGreatDoorMTerm
set_option maxRecDepth 100000
set_option maxHeartbeats 2000000
set_option linter.unusedSimpArgs false
set_option linter.unusedVariables false
namespace Go.Proofs.YtembdkodajichaaGreatDoor
open Go.RowKit
theorem kcell_alloc {w : World} {a : Addr} {v : Value} (h : w.cell? a = some v) (o : Obj) : (w.alloc o).cell? a = some v := by
 rw [World.cell?_alloc_some _ _ _ (by rw [h]; rfl)]; exact h
theorem tVerify (p m s : List UInt8) (hs : s.length ≤ 9000000000000000000) (w : World) (hG : GOk w) :
  Calls Tryz.prog 43 #[.string (bs p), .string (bs m), .string (bs s)] w fun e w' => e = .returned (.bool (verifyT p m s)) ∧ Below w.heap.size w w' := by
 have HG := Lib.hid hG
 clear hG
 cases hr : rt s with
 | none =>
   have H : Hid (verifyT p m s = false) := by show verifyT p m s = false; unfold verifyT; rw [hr]
   have HR := Lib.hid hr
   clear hr
   go_enter Tryz.func43, Tryz.ntmps43
   go_wp2_with fail
   refine (tOpen s hs _ HG.out).mono ?_
   rintro e w1 hp
   rw [HR.out] at hp
   obtain ⟨rfl, hb1⟩ := hp
   go_wp2_with fail
   go_ret
   exact ⟨by first | (rw [H.out]; done) | (rw [H.out]; rfl), bl_⟩
 | some x =>
   by_cases ho : x.op.toNat = 83
   · obtain ⟨a, b, hk, ha, hb, _⟩ := rt_two_kids hr (by simp [arity, ← UInt8.toNat_inj, ho])
     have HV : Hid (verifyT p m s = (b == m && keyT a == p)) := by
      show verifyT p m s = _
      unfold verifyT
      rw [hr]
      simp [ho, hk]
     have HKS := Lib.hid hk
     have HR := Lib.hid hr
     have b1 : (((x.op.toNat : Nat) : Int) == 83) = true := by simp [ho]
     clear hr ho hk hb
     cases hbm : (b == m) with
     | false =>
       have H : Hid (verifyT p m s = false) := by show verifyT p m s = false; rw [HV.out, hbm]; rfl
       clear HV
       go_enter Tryz.func43, Tryz.ntmps43
       go_wp2_with fail
       refine (tOpen s hs _ HG.out).mono ?_
       rintro e w1 hp
       rw [HR.out] at hp
       obtain ⟨ad, kn, kc, rfl, hown, hb1⟩ := hp
       rw [HKS.out] at hown
       obtain ⟨g, cap, hv, hgb, hgw, hcap, hcap2, hcell⟩ := own_cells hown si_
       injection hv with hv1 hv2 hv3
       subst hv1 hv2 hv3
       have c0 := kcell_alloc (hcell 0 (.string (bs a)) rfl) (.cells #[.int .u8 x.op.toNat, .int .i64 (numOf x), .string (bs x.text), .slice (some ⟨g, 0, none⟩) 2 kc] 98)
       have c1 := kcell_alloc (hcell 1 (.string (bs b)) rfl) (.cells #[.int .u8 x.op.toNat, .int .i64 (numOf x), .string (bs x.text), .slice (some ⟨g, 0, none⟩) 2 kc] 98)
       have HG1 := Lib.hid (gok_alloc (gok_below HG.out hb1) (.cells #[.int .u8 x.op.toNat, .int .i64 (numOf x), .string (bs x.text), .slice (some ⟨g, 0, none⟩) 2 kc] 98))
       have hb2 : Below w.heap.size w (w1.alloc (.cells #[.int .u8 x.op.toNat, .int .i64 (numOf x), .string (bs x.text), .slice (some ⟨g, 0, none⟩) 2 kc] 98)) := bl_
       clear hcell hown
       go_wp2_with fail
       go_ret
       exact ⟨by first | (rw [H.out]; done) | (rw [H.out]; rfl), bl_⟩
     | true =>
       obtain rfl : b = m := by simpa using hbm
       clear hbm
       have H : Hid (verifyT p b s = (keyT a == p)) := by show verifyT p b s = _; rw [HV.out]; simp
       clear HV
       go_enter Tryz.func43, Tryz.ntmps43
       go_wp2_with fail
       refine (tOpen s hs _ HG.out).mono ?_
       rintro e w1 hp
       rw [HR.out] at hp
       obtain ⟨ad, kn, kc, rfl, hown, hb1⟩ := hp
       rw [HKS.out] at hown
       obtain ⟨g, cap, hv, hgb, hgw, hcap, hcap2, hcell⟩ := own_cells hown si_
       injection hv with hv1 hv2 hv3
       subst hv1 hv2 hv3
       have c0 := kcell_alloc (hcell 0 (.string (bs a)) rfl) (.cells #[.int .u8 x.op.toNat, .int .i64 (numOf x), .string (bs x.text), .slice (some ⟨g, 0, none⟩) 2 kc] 98)
       have c1 := kcell_alloc (hcell 1 (.string (bs b)) rfl) (.cells #[.int .u8 x.op.toNat, .int .i64 (numOf x), .string (bs x.text), .slice (some ⟨g, 0, none⟩) 2 kc] 98)
       have HG1 := Lib.hid (gok_alloc (gok_below HG.out hb1) (.cells #[.int .u8 x.op.toNat, .int .i64 (numOf x), .string (bs x.text), .slice (some ⟨g, 0, none⟩) 2 kc] 98))
       have hb2 : Below w.heap.size w (w1.alloc (.cells #[.int .u8 x.op.toNat, .int .i64 (numOf x), .string (bs x.text), .slice (some ⟨g, 0, none⟩) 2 kc] 98)) := bl_
       clear hcell hown
       go_wp2_with fail
       refine (tKey a ha _ HG1.out).mono ?_
       rintro e w2 ⟨rfl, hb3⟩
       go_wp2_with fail
       go_ret
       exact ⟨by rw [H.out]; first | rfl | (congr 3; rw [Bool.eq_iff_iff]; simp), bl_⟩
   · have H : Hid (verifyT p m s = false) := by show verifyT p m s = false; unfold verifyT; rw [hr]; simp [ho]
     have HR := Lib.hid hr
     have b1 : (((x.op.toNat : Nat) : Int) == 83) = false := by simp; omega
     clear hr ho
     go_enter Tryz.func43, Tryz.ntmps43
     go_wp2_with fail
     refine (tOpen s hs _ HG.out).mono ?_
     rintro e w1 hp
     rw [HR.out] at hp
     obtain ⟨ad, kn, kc, rfl, hown, hb1⟩ := hp
     clear hown
     go_wp2_with fail
     go_ret
     exact ⟨by first | (rw [H.out]; done) | (rw [H.out]; rfl), bl_⟩
end Go.Proofs.YtembdkodajichaaGreatDoor
