/- Invoices' laws: size, small. -/
import Derived.Test.YtembdkodajichaaGreatDoorLawI1
import Derived.Test.YtembdkodajichaaGreatDoorByteC
set_option maxRecDepth 100000
set_option maxHeartbeats 4000000
set_option linter.unusedSimpArgs false
set_option linter.unusedVariables false
namespace Go.Proofs.YtembdkodajichaaGreatDoor
open Go.RowKit
structure InvBig (x : Inv) : Prop where
 am0 : -9223372036854775808 ≤ x.am
 am1 : x.am ≤ 9223372036854775807
 st0 : -9223372036854775808 ≤ x.st
 st1 : x.st ≤ 9223372036854775807
 ex0 : -9223372036854775808 ≤ x.ex
 ex1 : x.ex ≤ 9223372036854775807
 de0 : -9223372036854775808 ≤ x.de
 de1 : x.de ≤ 9223372036854775807
 hash : x.hash.length ≤ 140737488355328
 payee : x.payee.length ≤ 140737488355328
 memo : x.memo.length ≤ 140737488355328
 sig : x.sig.length ≤ 140737488355328
def sizeI (x : Inv) : Nat := x.hash.length + x.payee.length + x.memo.length + x.sig.length
theorem inv_small {x : Inv} (h : InvBig x) (hs : sizeI x ≤ 3000) : InvOk x := by
 unfold sizeI at hs
 exact ⟨h.am0, h.am1, h.st0, h.st1, h.ex0, h.ex1, h.de0, h.de1, by omega, by omega, by omega, by omega⟩
theorem lSize (x : Inv) (hx : InvBig x) (w : World) :
  Calls Tryz.prog 14 #[invV x] w fun e w' => e = .returned (.int .i64 (sizeI x : Nat)) ∧ Below w.heap.size w w' := by
 have h1 := hx.hash
 have h2 := hx.payee
 have h3 := hx.memo
 have h4 := hx.sig
 clear hx
 unfold invV sizeI
 go_enter Tryz.func14, Tryz.ntmps14
 go_wp2_with fail
 exact bodyPost_ret (v := .int .i64 ((x.hash.length : Int) + x.payee.length + x.memo.length + x.sig.length)) (by simp [results, Tryz.results14, go_sem]) rfl ⟨by simp, bl_⟩
def smL (s : List UInt8) (i : Nat) : List UInt8 := (s.take i).map lowB ++ s.drop i
theorem smL_len (s : List UInt8) (i : Nat) : (smL s i).length = s.length := by unfold smL; simp; omega
theorem smL_zero (s : List UInt8) : smL s 0 = s := by simp [smL]
theorem smL_all (s : List UInt8) : smL s s.length = s.map lowB := by simp [smL]
theorem smL_at (s : List UInt8) (i : Nat) (h : i < s.length) : (smL s i).getD i 0 = s.getD i 0 := by
 unfold smL
 rw [List.getD_eq_getElem?_getD, List.getElem?_append_right (by rw [List.length_map, List.length_take]; omega), List.getElem?_drop, List.getD_eq_getElem?_getD]
 congr 2
 simp
 omega
theorem smL_step (s : List UInt8) (i : Nat) (h : i < s.length) : smL s (i + 1) = (smL s i).set i (lowB (s.getD i 0)) := by
 have e : s.drop i = s.getD i 0 :: s.drop (i + 1) := by
  rw [List.getD_eq_getElem?_getD, List.getElem?_eq_getElem h]
  exact List.drop_eq_getElem_cons h
 unfold smL
 rw [map_take_snoc s i h, e, List.set_append_right _ _ (by rw [List.length_map, List.length_take]; omega)]
 have hz : i - ((s.take i).map lowB).length = 0 := by rw [List.length_map, List.length_take]; omega
 rw [hz]
 simp
theorem set_same (l : List UInt8) (i : Nat) (h : i < l.length) (y : UInt8) (hy : y = l.getD i 0) : l.set i y = l := by
 subst hy
 apply List.ext_getElem?
 intro j
 by_cases hj : j = i
 · subst hj
   rw [List.getElem?_set_self h, List.getD_eq_getElem?_getD, List.getElem?_eq_getElem h]
   rfl
 · rw [List.getElem?_set_ne (fun e => hj e.symm)]
theorem lowB_no {c : UInt8} (h : c.toNat < 65 ∨ 90 < c.toNat) : lowB c = c := by
 unfold lowB
 rw [if_neg (by first | omega | (unfold isUp; simp; omega))]
theorem lowB_yes {c : UInt8} (h1 : 65 ≤ c.toNat) (h2 : c.toNat ≤ 90) : (lowB c).toNat = c.toNat + 32 := by
 have : ∀ c : Fin 256, 65 ≤ (UInt8.ofNat c.val).toNat → (UInt8.ofNat c.val).toNat ≤ 90 → (lowB (UInt8.ofNat c.val)).toNat = (UInt8.ofNat c.val).toNat + 32 := by decide +kernel
 have h3 := this ⟨c.toNat, c.toNat_lt⟩
 simp only [UInt8.ofNat_toNat] at h3
 exact h3 h1 h2
theorem cvAt_cell {G n c : Nat} {l : List UInt8} {w : World} (h : CvAt (.slice (some ⟨G, 0, none⟩) n c) l w) (j : Nat) (hj : j < l.length) : w.cell? ⟨G, j, none⟩ = some (.int .u8 (l.getD j 0).toNat) ∧ w.frozen? ⟨G, j, none⟩ = false := by
 obtain ⟨G', c', cur, fz, e, h2, h3, h4, h5, h6, h7⟩ := h
 injection e with e1 e2 e3
 injection e1 with e1
 injection e1 with e1
 subst e1 e2 e3
 refine ⟨by rw [blk_cell h4]; exact u8L_at h7 j hj, ?_⟩
 simp only [World.frozen?, h4]
 simp
 omega
theorem cvAt_set {G n c : Nat} {l : List UInt8} {w : World} (h : CvAt (.slice (some ⟨G, 0, none⟩) n c) l w) (j : Nat) (hj : j < l.length) (y : UInt8) (Y : Int) (hY : Y = y.toNat) : CvAt (.slice (some ⟨G, 0, none⟩) n c) (l.set j y) (w.setCell ⟨G, j, none⟩ (.int .u8 Y)) := by
 subst hY
 obtain ⟨G', c', cur, fz, e, h2, h3, h4, h5, h6, h7⟩ := h
 injection e with e1 e2 e3
 injection e1 with e1
 injection e1 with e1
 subst e1 e2 e3
 refine ⟨G, c, cur.setIfInBounds j (.int .u8 y.toNat), fz, by rw [List.length_set], by rw [List.length_set]; exact h2, h3, blk_set h4 j _, by simpa using h5, by simpa using h6, ?_⟩
 rw [List.length_set, Array.toList_setIfInBounds, List.take_set, h7]
 unfold u8L
 rw [List.map_set]
theorem lSmall (s : List UInt8) (hs : s.length ≤ 1000000) (w : World) :
  Calls Tryz.prog 21 #[.string (bs s)] w fun e w' => e = .returned (.string (bs (s.map lowB))) ∧ Below w.heap.size w w' := by
 obtain ⟨c, w1, hcv, hin, hg⟩ := run_conv 9 Tryz.underlying9 s w om_
 have HIN := Lib.hid hin
 have HG := Lib.hid hg
 clear hin hg
 go_enter Tryz.func21, Tryz.ntmps21
 go_wp2_with fail
 have HIN0 : Hid (CvAt (.slice (some ⟨w.heap.size, 0, none⟩) s.length c) (smL s 0) w1) := Lib.hid (by rw [smL_zero]; exact HIN.out)
 go_loopw [4] (fun iv wr => ∃ i : Nat, i ≤ s.length ∧ iv = .int .i64 i ∧ Hid (CvAt (.slice (some ⟨w.heap.size, 0, none⟩) s.length c) (smL s i) wr) ∧ Hid (GL [] w wr)) (fun iv _ => s.length - (intOf iv).toNat)
 case atStart => exact ⟨0, by omega, rfl, HIN0, HG⟩
 case round =>
  obtain ⟨i, hi, rfl, hcr, hgr⟩ := hrel
  by_cases hlt : i < s.length
  · have i1 : (i : Int) < s.length := by omega
    obtain ⟨ci, fi⟩ := cvAt_cell hcr.out i (by rw [smL_len]; exact hlt)
    rw [smL_at s i hlt] at ci
    have HST := Lib.hid (smL_step s i hlt)
    have hx := (s.getD i 0).toNat_lt
    by_cases hup : 65 ≤ (s.getD i 0).toNat ∧ (s.getD i 0).toNat ≤ 90
    · have HLY := Lib.hid (lowB_yes hup.1 hup.2)
      have HW : Hid (CvAt (.slice (some ⟨w.heap.size, 0, none⟩) s.length c) (smL s (i + 1)) (wr.setCell ⟨w.heap.size, i, none⟩ (.int .u8 ((s.getD i 0).toNat + 32 : Int)))) := Lib.hid (by rw [HST.out]; exact cvAt_set hcr.out i (by rw [smL_len]; exact hlt) _ _ (by rw [HLY.out]; simp))
      have HGW : Hid (GL [] w (wr.setCell ⟨w.heap.size, i, none⟩ (.int .u8 ((s.getD i 0).toNat + 32 : Int)))) := Lib.hid (gl_set hgr.out (.inr (Nat.le_refl _)) _)
      have h1 : (65 : Int) ≤ (s.getD i 0).toNat := by omega
      have h2 : ((s.getD i 0).toNat : Int) ≤ 90 := by omega
      generalize (s.getD i 0).toNat = x at *
      clear HLY hup
      go_wp2_with fail
      exact ⟨⟨i + 1, by omega, by go_num, HW, HGW⟩, by simp [intOf]; omega⟩
    · have HLN : Hid (lowB (s.getD i 0) = s.getD i 0) := Lib.hid (lowB_no om_)
      have HW : Hid (CvAt (.slice (some ⟨w.heap.size, 0, none⟩) s.length c) (smL s (i + 1)) wr) := Lib.hid (by rw [HST.out, HLN.out, set_same _ _ (by rw [smL_len]; exact hlt) _ (smL_at s i hlt).symm]; exact hcr.out)
      rcases (by omega : (s.getD i 0).toNat < 65 ∨ (65 ≤ (s.getD i 0).toNat ∧ 90 < (s.getD i 0).toNat)) with h | ⟨h, h'⟩
      · have h1 : ((s.getD i 0).toNat : Int) < 65 := by omega
        generalize (s.getD i 0).toNat = x at *
        clear HLN hup h
        go_wp2_with fail
        exact ⟨⟨i + 1, by omega, by omega, HW⟩, by simp [intOf]; omega⟩
      · have h1 : (65 : Int) ≤ (s.getD i 0).toNat := by omega
        have h2 : (90 : Int) < (s.getD i 0).toNat := by omega
        generalize (s.getD i 0).toNat = x at *
        clear HLN hup h h'
        go_wp2_with fail
        exact ⟨⟨i + 1, by omega, by go_num, HW, hgr⟩, by simp [intOf]; omega⟩
  · obtain rfl : i = s.length := by omega
    have hbk := run_back 9 Tryz.underlying9 _ (smL s s.length) wr (cvAt_in hcr.out)
    rw [smL_all] at hbk
    clear hlt
    go_wp2_with fail
    exact bodyPost_ret (v := .string (bs (s.map lowB))) (by simp [results, Tryz.results21, go_sem]) rfl ⟨rfl, gl_to_below hgr.out⟩
end Go.Proofs.YtembdkodajichaaGreatDoor
