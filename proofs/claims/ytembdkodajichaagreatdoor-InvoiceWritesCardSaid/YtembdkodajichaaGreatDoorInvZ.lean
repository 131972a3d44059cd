/- The program's invoices: an invoice's text. -/
import Derived.Test.YtembdkodajichaaGreatDoorInvY
import Derived.Test.YtembdkodajichaaGreatDoorVerA
import Derived.Test.YtembdkodajichaaGreatDoorBechD
set_option maxRecDepth 100000
set_option maxHeartbeats 4000000
set_option linter.unusedSimpArgs false
set_option linter.unusedVariables false
namespace Go.Proofs.YtembdkodajichaaGreatDoor
open Go.RowKit
def encIR (x : Inv) : List UInt8 := if encIE x = 0 then encIT x else []
theorem encI_body {x : Inv} (h : bodyE x ≠ 0) : encIE x = bodyE x ∧ encIR x = [] := by
 have e : encIE x = bodyE x := by unfold encIE; rw [if_pos h]
 exact ⟨e, by unfold encIR; rw [e, if_neg h]⟩
theorem encI_sig {x : Inv} (h : bodyE x = 0) (hs : 639 < x.sig.length ∨ verifyT x.payee (bodyT x) x.sig = false) : encIE x = 71 ∧ encIR x = [] := by
 have e : encIE x = 71 := by unfold encIE; rw [if_neg (by simp [h]), if_pos hs]
 exact ⟨e, by unfold encIR; rw [e, if_neg om_]⟩
theorem encI_ok {x : Inv} (h : bodyE x = 0) (hs : x.sig.length ≤ 639) (hv : verifyT x.payee (bodyT x) x.sig = true) : encIE x = 0 ∧ encIR x = encIT x ∧ amountE x.am = 0 ∧ mayI x = true ∧ encR (hrpI x) (allW x) = encIT x ∧ encE (hrpI x) (allW x) = 0 := by
 have e : encIE x = 0 := by unfold encIE; rw [if_neg (by simp [h]), if_neg (by simp [hv]; omega)]
 obtain ⟨h1, h2, h3, h4⟩ := enc_zero x e
 have e2 := enc_bech x h2 hs
 exact ⟨e, by unfold encIR; rw [if_pos e], h1, h2, by unfold encR; rw [if_pos e2]; rfl, e2⟩
theorem body_cases (x : Inv) : bodyE x = 0 ∧ bodyR x = bodyT x ∨ (bodyE x = 40 ∨ bodyE x = 70) ∧ bodyR x = [] := by
 by_cases h : bodyE x = 0
 · exact .inl ⟨h, by unfold bodyR; rw [if_pos h]⟩
 · refine .inr ⟨?_, by unfold bodyR; rw [if_neg h]⟩
   unfold bodyE at h ⊢
   split
   · exact .inl rfl
   · split
     · exact .inr rfl
     · rename_i h1 h2; rw [if_neg h1, if_neg h2] at h; exact absurd rfl h
theorem inv_cells {x : Inv} {B : Nat} {w : World} (h : w.heap[B]? = some (.cells #[.int .i64 x.am, .int .i64 x.st, .string (bs x.hash), .string (bs x.payee), .string (bs x.memo), .int .i64 x.ex, .int .i64 x.de, .string (bs x.sig)] 31 (0, 0))) :
  w.cell? ⟨B, 0, none⟩ = some (.int .i64 x.am) ∧ w.cell? ⟨B, 1, none⟩ = some (.int .i64 x.st) ∧ w.cell? ⟨B, 2, none⟩ = some (.string (bs x.hash)) ∧ w.cell? ⟨B, 3, none⟩ = some (.string (bs x.payee)) ∧ w.cell? ⟨B, 4, none⟩ = some (.string (bs x.memo)) ∧ w.cell? ⟨B, 5, none⟩ = some (.int .i64 x.ex) ∧ w.cell? ⟨B, 6, none⟩ = some (.int .i64 x.de) ∧ w.cell? ⟨B, 7, none⟩ = some (.string (bs x.sig)) :=
 ⟨blk_cell h 0, blk_cell h 1, blk_cell h 2, blk_cell h 3, blk_cell h 4, blk_cell h 5, blk_cell h 6, blk_cell h 7⟩
theorem iEncode (x : Inv) (hx : InvOk x) (w : World) (hI : IOk w) :
  Calls Tryz.prog 17 #[invV x] w fun e w' => e = .returned (.tuple #[.string (bs (encIR x)), .int .i64 (encIE x)]) ∧ Below w.heap.size w w' := by
 have HX := Lib.hid hx
 have HI := Lib.hid hI
 have hal := amountT_len x.am
 have hsl := hx.sig
 clear hx hI
 unfold invV
 go_enter Tryz.func17, Tryz.ntmps17
 go_wp2_with fail
 have HB1 := Lib.hid (blk_new w (.cells #[.int .i64 x.am, .int .i64 x.st, .string (bs x.hash), .string (bs x.payee), .string (bs x.memo), .int .i64 x.ex, .int .i64 x.de, .string (bs x.sig)] 31))
 have HI1 : Hid (IOk (w.alloc (.cells #[.int .i64 x.am, .int .i64 x.st, .string (bs x.hash), .string (bs x.payee), .string (bs x.memo), .int .i64 x.ex, .int .i64 x.de, .string (bs x.sig)] 31))) := Lib.hid (iok_gl HI.out (gl_alloc (gl_refl _ _) _))
 have HL1 : Hid (GL [] w (w.alloc (.cells #[.int .i64 x.am, .int .i64 x.st, .string (bs x.hash), .string (bs x.payee), .string (bs x.memo), .int .i64 x.ex, .int .i64 x.de, .string (bs x.sig)] 31))) := Lib.hid (gl_alloc (gl_refl _ _) _)
 generalize w.alloc (.cells #[.int .i64 x.am, .int .i64 x.st, .string (bs x.hash), .string (bs x.payee), .string (bs x.memo), .int .i64 x.ex, .int .i64 x.de, .string (bs x.sig)] 31) = w1 at *
 refine (iBody x HX.out _ HI1.out).mono ?_
 rintro e w2 ⟨rfl, hb2⟩
 have HB2 := Lib.hid (blk_below HB1.out hb2 (blk_lt HB1.out))
 have HI2 := Lib.hid (iok_below HI1.out hb2)
 have HL2 : Hid (GL [] w w2) := Lib.hid (gl_below hb2 HL1.out)
 clear hb2 HB1 HI1 HL1
 rcases body_cases x with ⟨hE, hR⟩ | ⟨hE, hR⟩
 · rw [hE, hR]
   have HE := Lib.hid hE
   clear hE hR
   have f2 := blk_cell HB2.out
   by_cases hs : x.sig.length ≤ 639
   · have hs1 : (x.sig.length : Int) ≤ 639 := by omega
     cases hv : verifyT x.payee (bodyT x) x.sig with
     | false =>
       have HR := Lib.hid (encI_sig HE.out (.inr hv))
       have HV := Lib.hid hv
       clear hv
       generalize bodyT x = bt at *
       go_wp2_with fail
       refine (tVerify x.payee bt x.sig om_ _ HI2.out.g).mono ?_
       rintro e w3 ⟨rfl, hb3⟩
       rw [HV.out]
       have HL3 : Hid (GL [] w w3) := Lib.hid (gl_below hb3 HL2.out)
       clear hb3
       go_wp2_with fail
       exact bodyPost_ret (v := .tuple #[.string (bs []), .int .i64 71]) (by simp [results, Tryz.results17, go_sem]) rfl ⟨by rw [HR.out.1, HR.out.2], gl_to_below HL3.out⟩
     | true =>
       have HR := Lib.hid (encI_ok HE.out hs hv)
       have HV := Lib.hid hv
       have hwl := (wordsI_lt x HR.out.2.2.2.1).2
       have htl : (textW x.sig).length ≤ 1023 := by rw [(textW_back x.sig).2.1]; omega
       have ham0 := HX.out.am0
       have ham1 := HX.out.am1
       clear hv
       generalize bodyT x = bt at *
       go_wp2_with fail
       refine (tVerify x.payee bt x.sig om_ _ HI2.out.g).mono ?_
       rintro e w3 ⟨rfl, hb3⟩
       rw [HV.out]
       have HB3 := Lib.hid (blk_below HB2.out hb3 (blk_lt HB2.out))
       have HI3 := Lib.hid (iok_below HI2.out hb3)
       have HL3 : Hid (GL [] w w3) := Lib.hid (gl_below hb3 HL2.out)
       clear hb3 HB2 HI2 HL2 f2
       have f3 := blk_cell HB3.out
       go_wp2_with fail
       refine (iAmount x.am ham0 ham1 _ HI3.out.g HI3.out.units).mono ?_
       rintro e w4 ⟨rfl, hb4⟩
       have HB4 := Lib.hid (blk_below HB3.out hb4 (blk_lt HB3.out))
       have HL4 : Hid (GL [] w w4) := Lib.hid (gl_below hb4 HL3.out)
       clear hb4 HB3 HI3 HL3 f3
       have f4 := blk_cell HB4.out
       have HH : Hid (hrpI x = 108 :: 110 :: 115 :: 119 :: amountT x.am) := Lib.hid rfl
       have HALL : Hid (allW x = wordsI x ++ fieldW 16 (textW x.sig)) := Lib.hid rfl
       have HAL := Lib.hid (allW_lt x HR.out.2.2.2.1 hs).2
       generalize amountT x.am = am at *
       go_wp2_with fail
       clear f4
       have hcc : ¬ (9223372036854775807 < 4 + am.length) := by omega
       go_region_held3 (fun w' => w'.cell? ⟨w.heap.size, 0, none⟩ = some (.int .i64 x.am) ∧ w'.cell? ⟨w.heap.size, 1, none⟩ = some (.int .i64 x.st) ∧ w'.cell? ⟨w.heap.size, 2, none⟩ = some (.string (bs x.hash)) ∧ w'.cell? ⟨w.heap.size, 3, none⟩ = some (.string (bs x.payee)) ∧ w'.cell? ⟨w.heap.size, 4, none⟩ = some (.string (bs x.memo)) ∧ w'.cell? ⟨w.heap.size, 5, none⟩ = some (.int .i64 x.ex) ∧ w'.cell? ⟨w.heap.size, 6, none⟩ = some (.int .i64 x.de) ∧ w'.cell? ⟨w.heap.size, 7, none⟩ = some (.string (bs x.sig))) (exact inv_cells (by (repeat' (first | (with_reducible refine Hid.out ?_; with_reducible assumption) | with_reducible refine blk_alloc ?_ _ | with_reducible refine blk_drewN ?_ _ | with_reducible refine blk_drew ?_))))
        (first
        | (go_at_call 38; refine (iWords x HR.out.2.2.2.1 _).mono ?_; rintro e wa ⟨aw, cw, rfl, how, hba⟩; (have HOW := Lib.hid how); (have HBA := Lib.hid hba); (have HBKa : Hid (wa.heap[w.heap.size]? = some (.cells #[.int .i64 x.am, .int .i64 x.st, .string (bs x.hash), .string (bs x.payee), .string (bs x.memo), .int .i64 x.ex, .int .i64 x.de, .string (bs x.sig)] 31 (0, 0))) := Lib.hid (blk_below (by first | exact HB4.out | exact blk_drew HB4.out | exact blk_drewN HB4.out _) hba (blk_lt HB4.out))); clear how hba)
        | (go_at_call 46; refine (iTxtW x.sig om_ _).mono ?_; rintro e wb ⟨at2, ct, rfl, hot, hbb⟩; (have HOT := Lib.hid hot); (have HBB := Lib.hid hbb); (have HBKb : Hid (wb.heap[w.heap.size]? = some (.cells #[.int .i64 x.am, .int .i64 x.st, .string (bs x.hash), .string (bs x.payee), .string (bs x.memo), .int .i64 x.ex, .int .i64 x.de, .string (bs x.sig)] 31 (0, 0))) := Lib.hid (blk_below (by first | exact HBKa.out | exact blk_drew HBKa.out | exact blk_drewN HBKa.out _) hbb (blk_lt HBKa.out))); clear hot hbb)
        | (go_at_call 45; refine (iFld w4.heap.size wa.heap.size 16 16 rfl (wordsI x) (textW x.sig) _ _ wb (own_below HOW.out HBB.out rfl) HOT.out (fun g hg => (ownB_blk HOW.out g hg).2) om_ htl (Nat.le_trans HBA.out.size HBB.out.size)).mono ?_; rintro e wc ⟨af, cf, rfl, hof, hgf⟩; rw [← HALL.out] at hof ⊢; (have HOF := Lib.hid hof); (have HGF := Lib.hid hgf); (have HBKc := Lib.hid (blk_gl (w := wb) HBKb.out hgf (by have := Ne.symm (own_ne HOW.out HBKa.out de_); simpa using this))); clear hof hgf)
        | (go_at_call 44; rw [← HH.out]; refine (bEncode (hrpI x) (allW x) _ wc (ownB_in HOF.out).1 (by rw [HH.out]; simp; omega) (by have := HAL.out; omega)).mono ?_; rintro e wd ⟨rfl, hbd⟩; rw [HR.out.2.2.2.2.1, HR.out.2.2.2.2.2]; (have HBKd : Hid (wd.heap[w.heap.size]? = some (.cells #[.int .i64 x.am, .int .i64 x.st, .string (bs x.hash), .string (bs x.payee), .string (bs x.memo), .int .i64 x.ex, .int .i64 x.de, .string (bs x.sig)] 31 (0, 0))) := Lib.hid (blk_below (by first | exact HBKc.out | exact blk_drew HBKc.out | exact blk_drewN HBKc.out _) hbd (blk_lt HBKc.out))); (have HBD := Lib.hid hbd); clear hbd))
       all_goals go_wp2_with fail
       all_goals exact bodyPost_ret (v := .tuple #[.string (bs (encIT x)), .int .i64 0]) (by simp [results, Tryz.results17, go_sem]) rfl ⟨by rw [HR.out.1, HR.out.2.1], gl_to_below (gl_below HBD.out (gl_step HGF.out (gl_below HBB.out (gl_below HBA.out (by first | exact HL4.out | exact gl_drew HL4.out | exact gl_drewN HL4.out _))) (fun r hr => .inr (Nat.le_trans HL4.out.size (ownB_blk HOW.out r (by simpa using hr)).1))))⟩
   · have hs1 : (639 : Int) < x.sig.length := by omega
     have HR := Lib.hid (encI_sig HE.out (.inl om_))
     clear hs
     generalize bodyT x = bt at *
     go_wp2_with fail
     exact bodyPost_ret (v := .tuple #[.string (bs []), .int .i64 71]) (by simp [results, Tryz.results17, go_sem]) rfl ⟨by rw [HR.out.1, HR.out.2], gl_to_below HL2.out⟩
 · have HR := Lib.hid (encI_body (x := x) om_)
   rw [hR]
   clear hR
   rcases hE with hE | hE
   · have HE := Lib.hid hE
     rw [hE]
     clear hE
     go_wp2_with fail
     exact bodyPost_ret (v := .tuple #[.string (bs []), .int .i64 40]) (by simp [results, Tryz.results17, go_sem]) rfl ⟨by rw [HR.out.1, HR.out.2, HE.out], gl_to_below HL2.out⟩
   · have HE := Lib.hid hE
     rw [hE]
     clear hE
     go_wp2_with fail
     exact bodyPost_ret (v := .tuple #[.string (bs []), .int .i64 70]) (by simp [results, Tryz.results17, go_sem]) rfl ⟨by rw [HR.out.1, HR.out.2, HE.out], gl_to_below HL2.out⟩
end Go.Proofs.YtembdkodajichaaGreatDoor
