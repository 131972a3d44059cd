/- InvoiceBack: invoices and texts, amounts and texts, there and back. -/
import Derived.Test.YtembdkodajichaaGreatDoorLawI2
set_option maxRecDepth 100000
set_option maxHeartbeats 8000000
set_option linter.unusedSimpArgs false
set_option linter.unusedVariables false
namespace Go.Proofs.YtembdkodajichaaGreatDoor
open Go.RowKit
theorem decI_zero (s : List UInt8) (h : (decI s).2 ≠ 0) : (decI s).1 = Inv.zero := by
 unfold decI at h ⊢
 split
 · rfl
 · rename_i h1
   rw [if_neg h1] at h
   split
   · rfl
   · rename_i h2
     rw [if_neg h2] at h
     split
     · rfl
     · rename_i h3
       rw [if_neg h3] at h
       cases hq : invR (decW s) with
       | none => rfl
       | some x =>
         rw [hq] at h
         simp only at h ⊢
         split
         · rename_i h4; rw [if_pos h4] at h; exact absurd rfl h
         · rfl
theorem amount_range {m : Int} (h : amountE m = 0) : 0 ≤ m ∧ m ≤ 2100000000000000000 := by
 unfold amountE at h
 split at h
 · cases h
 · rename_i h1
   have h7 : ((maxMoney : Nat) : Int) = 2100000000000000000 := rfl
   omega
theorem enc_ok {x : Inv} (h : encIE x = 0) : InvOk x := by
 obtain ⟨h1, h2, h3, h4⟩ := enc_zero x h
 obtain ⟨q1, q2, q3, q4, q5, q6, q7, q8, q9⟩ := may_facts h2
 have h5 := amount_range h1
 exact ⟨by omega, by omega, by omega, by omega, by omega, by omega, by omega, by omega, by omega, by omega, by omega, by omega⟩
theorem enc_len {x : Inv} (h : encIE x = 0) : (encIT x).length ≤ 32768 := by
 obtain ⟨h1, h2, h3, h4⟩ := enc_zero x h
 have h5 := (allW_lt x h2 h3).2
 have h6 := amountT_len x.am
 unfold encIT encT hrpI
 simp [sixW, lnsw]
 omega
theorem amountT_bad {m : Int} (h : amountE m ≠ 0) : amountT m = [] := by
 unfold amountE at h
 unfold amountT
 split at h
 · rename_i h1; rw [if_pos om_]
 · exact absurd rfl h
theorem amount_inj {a b : Int} (ha : amountE a = 0) (hb : amountE b = 0) (h : amountT a = amountT b) : a = b := by
 have h1 := read_amount a ha
 have h2 := read_amount b hb
 rw [h, h2] at h1
 exact (Prod.mk.inj h1).1.symm
def XC (x : Inv) : Value := .agg #[.int .i64 x.am, .int .i64 x.st, .string (bs x.hash), .string (bs x.payee), .string (bs x.memo), .int .i64 x.ex, .int .i64 x.de, .string (bs x.sig)]
theorem lInvoiceBack (x : Inv) (hx : InvBig x) (s : List UInt8) (hs : s.length ≤ 140737488355328) (a b : Int) (ha0 : -9223372036854775808 ≤ a) (ha1 : a ≤ 9223372036854775807) (hb0 : -9223372036854775808 ≤ b) (hb1 : b ≤ 9223372036854775807) (w : World) (hI : IOk w) :
  Calls Tryz.prog 6 #[invV x, .string (bs s), .int .i64 a, .int .i64 b] w fun e w' => e = .returned (.bool true) ∧ Below w.heap.size w w' := by
 have HX := Lib.hid hx
 have HI := Lib.hid hI
 clear hx hI
 unfold invV
 go_enter Tryz.func6, Tryz.ntmps6
 go_wp2_with fail
 have HB1 := Lib.hid (blk_new w (.cells #[.int .i64 x.am, .int .i64 x.st, .string (bs x.hash), .string (bs x.payee), .string (bs x.memo), .int .i64 x.ex, .int .i64 x.de, .string (bs x.sig)] 31))
 have HI1 : Hid (IOk (w.alloc (.cells #[.int .i64 x.am, .int .i64 x.st, .string (bs x.hash), .string (bs x.payee), .string (bs x.memo), .int .i64 x.ex, .int .i64 x.de, .string (bs x.sig)] 31))) := Lib.hid (iok_gl HI.out (gl_alloc (gl_refl _ _) _))
 have HL1 : Hid (GL [] w (w.alloc (.cells #[.int .i64 x.am, .int .i64 x.st, .string (bs x.hash), .string (bs x.payee), .string (bs x.memo), .int .i64 x.ex, .int .i64 x.de, .string (bs x.sig)] 31))) := Lib.hid (gl_alloc (gl_refl _ _) _)
 generalize w.alloc (.cells #[.int .i64 x.am, .int .i64 x.st, .string (bs x.hash), .string (bs x.payee), .string (bs x.memo), .int .i64 x.ex, .int .i64 x.de, .string (bs x.sig)] 31) = w1 at *
 refine (show Calls Tryz.prog 14 #[invV x] w1 _ from lSize x HX.out w1).mono ?_
 rintro e w2 ⟨rfl, hb2⟩
 have HB2 := Lib.hid (blk_below HB1.out hb2 (blk_lt HB1.out))
 have HI2 := Lib.hid (iok_below HI1.out hb2)
 have HL2 : Hid (GL [] w w2) := Lib.hid (gl_below hb2 HL1.out)
 clear hb2 HB1 HI1 HL1
 by_cases hz : 3000 < sizeI x
 · have hz1 : (3000 : Int) < sizeI x := by omega
   clear hz
   generalize sizeI x = sz at *
   go_wp2_with fail
   refine (lWorksI _ HI2.out).mono ?_
   rintro e wz ⟨rfl, hbz⟩
   go_wp2_with fail
   exact bodyPost_ret (v := .bool true) (by simp [results, Tryz.results6, go_sem]) rfl ⟨rfl, gl_to_below (gl_below hbz HL2.out)⟩
 · have hz1 : (sizeI x : Int) ≤ 3000 := by omega
   have HOK := Lib.hid (inv_small HX.out om_)
   clear hz
   generalize sizeI x = sz at *
   by_cases hsl : 6000 < s.length
   · have hs1 : (6000 : Int) < s.length := by omega
     clear hsl
     go_wp2_with fail
     refine (lWorksI _ HI2.out).mono ?_
     rintro e wz ⟨rfl, hbz⟩
     go_wp2_with fail
     exact bodyPost_ret (v := .bool true) (by simp [results, Tryz.results6, go_sem]) rfl ⟨rfl, gl_to_below (gl_below hbz HL2.out)⟩
   · have hs1 : (s.length : Int) ≤ 6000 := by omega
     have hs2 : s.length ≤ 6000 := by omega
     clear hsl
     have f2 := blk_cell HB2.out
     go_wp2_with fail
     refine (show Calls Tryz.prog 17 #[invV x] w2 _ from iEncode x HOK.out w2 HI2.out).mono ?_
     rintro e w3 ⟨rfl, hb3⟩
     have HB3 := Lib.hid (blk_below HB2.out hb3 (blk_lt HB2.out))
     have HI3 := Lib.hid (iok_below HI2.out hb3)
     have HL3 : Hid (GL [] w w3) := Lib.hid (gl_below hb3 HL2.out)
     clear hb3 HB2 HI2 HL2 f2
     by_cases hE : encIE x = 0
     · have HD := Lib.hid (dec_encI x hE)
       have HRx : Hid (encIR x = encIT x) := Lib.hid (by unfold encIR; rw [if_pos hE])
       have HLn := Lib.hid (enc_len hE)
       rw [hE, HRx.out]
       clear hE
       have f3 := blk_cell HB3.out
       have HVx : Hid (invV x = .agg #[.int .i64 x.am, .int .i64 x.st, .string (bs x.hash), .string (bs x.payee), .string (bs x.memo), .int .i64 x.ex, .int .i64 x.de, .string (bs x.sig)]) := Lib.hid rfl
       have HDC := Lib.hid (iDecode (encIT x) (by have := HLn.out; omega) w3 HI3.out)
       unfold DcO at HDC
       rw [HD.out, HVx.out] at HDC
       have hnx : ∀ w, (binOp .neq 31 (.agg #[.int .i64 x.am, .int .i64 x.st, .string (bs x.hash), .string (bs x.payee), .string (bs x.memo), .int .i64 x.ex, .int .i64 x.de, .string (bs x.sig)]) (.agg #[.int .i64 x.am, .int .i64 x.st, .string (bs x.hash), .string (bs x.payee), .string (bs x.memo), .int .i64 x.ex, .int .i64 x.de, .string (bs x.sig)])).run Tryz.prog w = .ok (.bool false) w := fun w => (neq_inv x x w).trans (by rw [(eqInv_iff _ _).2 rfl]; rfl)
       generalize encIT x = et at *
       go_wp2_with fail
       refine HDC.out.mono ?_
       rintro e w4 ⟨rfl, hb4⟩
       have HB4 := Lib.hid (blk_below HB3.out hb4 (blk_lt HB3.out))
       have HI4 := Lib.hid (iok_below HI3.out hb4)
       have HL4 : Hid (GL [] w w4) := Lib.hid (gl_below hb4 HL3.out)
       clear hb4 HB3 HI3 HL3 f3
       go_upto_region 6 with fail
       have HB5 := Lib.hid (blk_alloc HB4.out (.cells #[.int .i64 x.am, .int .i64 x.st, .string (bs x.hash), .string (bs x.payee), .string (bs x.memo), .int .i64 x.ex, .int .i64 x.de, .string (bs x.sig)] 31))
       have HBy := Lib.hid (blk_new w4 (.cells #[.int .i64 x.am, .int .i64 x.st, .string (bs x.hash), .string (bs x.payee), .string (bs x.memo), .int .i64 x.ex, .int .i64 x.de, .string (bs x.sig)] 31))
       have HI5 : Hid (IOk (w4.alloc (.cells #[.int .i64 x.am, .int .i64 x.st, .string (bs x.hash), .string (bs x.payee), .string (bs x.memo), .int .i64 x.ex, .int .i64 x.de, .string (bs x.sig)] 31))) := Lib.hid (iok_gl HI4.out (gl_alloc (gl_refl _ _) _))
       have HL5 : Hid (GL [] w (w4.alloc (.cells #[.int .i64 x.am, .int .i64 x.st, .string (bs x.hash), .string (bs x.payee), .string (bs x.memo), .int .i64 x.ex, .int .i64 x.de, .string (bs x.sig)] 31))) := Lib.hid (gl_alloc HL4.out _)
       generalize w4.alloc (.cells #[.int .i64 x.am, .int .i64 x.st, .string (bs x.hash), .string (bs x.payee), .string (bs x.memo), .int .i64 x.ex, .int .i64 x.de, .string (bs x.sig)] 31) = w5 at *
       generalize w4.heap.size = Y5 at *
       have f5 := blk_cell HB5.out
       have g5 := blk_cell HBy.out
       clear HI4 HL4 HB4 HDC
       go_wp2_with fail
       refine (iDecode s om_ _ HI5.out).mono ?_
       rintro e u1 ⟨rfl, hbu1⟩
       have HIu1 := Lib.hid (iok_below HI5.out hbu1)
       have HLu1 : Hid (GL [] w u1) := Lib.hid (gl_below hbu1 HL5.out)
       clear hbu1
       by_cases hD : (decI s).2 = 0
       · have HED := Lib.hid (enc_decI s (decI s).1 (by rw [← hD]))
         rw [hD]
         clear hD
         generalize (decI s).1 = y at *
         have HOKy := Lib.hid (enc_ok HED.out.1)
         have HRy : Hid (encIR y = s.map lowB) := Lib.hid (by unfold encIR; rw [if_pos HED.out.1]; exact HED.out.2)
         have HVy : Hid (invV y = .agg #[.int .i64 y.am, .int .i64 y.st, .string (bs y.hash), .string (bs y.payee), .string (bs y.memo), .int .i64 y.ex, .int .i64 y.de, .string (bs y.sig)]) := Lib.hid rfl
         rw [HVy.out]
         go_upto_region 12 with fail
         have HBy := Lib.hid (blk_new u1 (.cells #[.int .i64 y.am, .int .i64 y.st, .string (bs y.hash), .string (bs y.payee), .string (bs y.memo), .int .i64 y.ex, .int .i64 y.de, .string (bs y.sig)] 31))
         have HIu2 : Hid (IOk (u1.alloc (.cells #[.int .i64 y.am, .int .i64 y.st, .string (bs y.hash), .string (bs y.payee), .string (bs y.memo), .int .i64 y.ex, .int .i64 y.de, .string (bs y.sig)] 31))) := Lib.hid (iok_gl HIu1.out (gl_alloc (gl_refl _ _) _))
         have HLu2 : Hid (GL [] w (u1.alloc (.cells #[.int .i64 y.am, .int .i64 y.st, .string (bs y.hash), .string (bs y.payee), .string (bs y.memo), .int .i64 y.ex, .int .i64 y.de, .string (bs y.sig)] 31))) := Lib.hid (gl_alloc HLu1.out _)
         generalize u1.alloc (.cells #[.int .i64 y.am, .int .i64 y.st, .string (bs y.hash), .string (bs y.payee), .string (bs y.memo), .int .i64 y.ex, .int .i64 y.de, .string (bs y.sig)] 31) = u2 at *
         generalize u1.heap.size = Y at *
         have fy := blk_cell HBy.out
         go_wp2_with fail
         refine (show Calls Tryz.prog 17 #[invV y] u2 _ from iEncode y HOKy.out u2 HIu2.out).mono ?_
         rintro e u3 ⟨rfl, hbu3⟩
         rw [HRy.out, HED.out.1]
         have HIu3 := Lib.hid (iok_below HIu2.out hbu3)
         have HLu3 : Hid (GL [] w u3) := Lib.hid (gl_below hbu3 HLu2.out)
         clear hbu3 fy HIu2 HLu2 HIu1 HLu1
         go_wp2_with fail
         refine (lSmall s om_ u3).mono ?_
         rintro e u4 ⟨rfl, hbu4⟩
         have HIu4 := Lib.hid (iok_below HIu3.out hbu4)
         have HLu4 : Hid (GL [] w u4) := Lib.hid (gl_below hbu4 HLu3.out)
         clear hbu4 HIu3 HLu3
         generalize s.map lowB = sl at *
         go_wp2_with fail
         refine (iAmount a ha0 ha1 _ HIu4.out.g HIu4.out.units).mono ?_
         rintro e v1 ⟨rfl, hbv1⟩
         have HIv1 := Lib.hid (iok_below HIu4.out hbv1)
         have HLv1 : Hid (GL [] w v1) := Lib.hid (gl_below hbv1 HLu4.out)
         clear hbv1
         by_cases hEa : amountE a = 0
         · have HEa := Lib.hid hEa
           have HRa := Lib.hid (read_amount a hEa)
           have HIN := Lib.hid (fun hb h => amount_inj (b := b) hEa hb h)
           have hla := amountT_len a
           rw [hEa]
           clear hEa
           go_wp2_with fail
           refine (iAmount b hb0 hb1 _ HIv1.out.g HIv1.out.units).mono ?_
           rintro e v2 ⟨rfl, hbv2⟩
           have HIv2 := Lib.hid (iok_below HIv1.out hbv2)
           have HLv2 : Hid (GL [] w v2) := Lib.hid (gl_below hbv2 HLv1.out)
           clear hbv2
           have HRD := Lib.hid (iRead (amountT a) om_ v2 HIv2.out.g HIv2.out.units)
           unfold RdO at HRD
           rw [HRa.out] at HRD
           by_cases hEb : amountE b = 0
           · have HINb := Lib.hid (HIN.out hEb)
             rw [hEb]
             clear hEb
             by_cases hab : a = b
             · subst hab
               generalize amountT a = ta at *
               go_wp2_with fail
               refine HRD.out.mono ?_
               rintro e v3 ⟨rfl, hbv3⟩
               have HIv3 := Lib.hid (iok_below HIv2.out hbv3)
               have HLv3 : Hid (GL [] w v3) := Lib.hid (gl_below hbv3 HLv2.out)
               clear hbv3
               go_wp2_with fail
               refine (lWorksI _ HIv3.out).mono ?_
               rintro e wz ⟨rfl, hbz⟩
               go_wp2_with fail
               exact bodyPost_ret (v := .bool true) (by simp [results, Tryz.results6, go_sem]) rfl ⟨rfl, gl_to_below (gl_below hbz HLv3.out)⟩
             · have hne : (amountT a == amountT b) = false := by
                rw [beq_eq_false_iff_ne]
                exact fun h => hab (HINb.out h)
               have hne2 : (a == b) = false := by simpa using hab
               have HNE := Lib.hid hab
               clear hab
               generalize amountT a = ta at *
               generalize amountT b = tb at *
               go_wp2_with fail
               refine HRD.out.mono ?_
               rintro e v3 ⟨rfl, hbv3⟩
               have HIv3 := Lib.hid (iok_below HIv2.out hbv3)
               have HLv3 : Hid (GL [] w v3) := Lib.hid (gl_below hbv3 HLv2.out)
               clear hbv3
               go_wp2_with fail
               refine (lWorksI _ HIv3.out).mono ?_
               rintro e wz ⟨rfl, hbz⟩
               go_wp2_with fail
               exact bodyPost_ret (v := .bool true) (by simp [results, Tryz.results6, go_sem]) rfl ⟨rfl, gl_to_below (gl_below hbz HLv3.out)⟩
           · have hEb1 : (amountE b == 0) = false := by simpa using hEb
             have hEb2 : (amountE b != 0) = true := by simpa using hEb
             clear hEb HIN
             generalize amountE b = eb at *
             generalize amountT a = ta at *
             generalize amountT b = tb at *
             go_wp2_with fail
             refine HRD.out.mono ?_
             rintro e v3 ⟨rfl, hbv3⟩
             have HIv3 := Lib.hid (iok_below HIv2.out hbv3)
             have HLv3 : Hid (GL [] w v3) := Lib.hid (gl_below hbv3 HLv2.out)
             clear hbv3
             go_wp2_with fail
             refine (lWorksI _ HIv3.out).mono ?_
             rintro e wz ⟨rfl, hbz⟩
             go_wp2_with fail
             exact bodyPost_ret (v := .bool true) (by simp [results, Tryz.results6, go_sem]) rfl ⟨rfl, gl_to_below (gl_below hbz HLv3.out)⟩
         · have hTa := amountT_bad hEa
           have hEa1 : (amountE a == 0) = false := by simpa using hEa
           have hEa2 : (amountE a != 0) = true := by simpa using hEa
           rw [hTa]
           clear hTa hEa
           generalize amountE a = ea at *
           go_wp2_with fail
           refine (iAmount b hb0 hb1 _ HIv1.out.g HIv1.out.units).mono ?_
           rintro e v2 ⟨rfl, hbv2⟩
           have HIv2 := Lib.hid (iok_below HIv1.out hbv2)
           have HLv2 : Hid (GL [] w v2) := Lib.hid (gl_below hbv2 HLv1.out)
           clear hbv2
           generalize amountE b = eb at *
           generalize amountT b = tb at *
           go_wp2_with fail
           refine (iRead [] si_ v2 HIv2.out.g HIv2.out.units).mono ?_
           rintro e v3 ⟨rfl, hbv3⟩
           have HIv3 := Lib.hid (iok_below HIv2.out hbv3)
           have HLv3 : Hid (GL [] w v3) := Lib.hid (gl_below hbv3 HLv2.out)
           clear hbv3
           have hr0 : readV [] = (0, 0) := rfl
           rw [hr0]
           clear hr0
           go_wp2_with fail
           refine (lWorksI _ HIv3.out).mono ?_
           rintro e wz ⟨rfl, hbz⟩
           go_wp2_with fail
           exact bodyPost_ret (v := .bool true) (by simp [results, Tryz.results6, go_sem]) rfl ⟨rfl, gl_to_below (gl_below hbz HLv3.out)⟩
       · have HZ := Lib.hid (decI_zero s hD)
         rw [HZ.out]
         have hD1 : ((decI s).2 == 0) = false := by simpa using hD
         have hD2 : ((decI s).2 != 0) = true := by simpa using hD
         clear hD
         generalize (decI s).2 = ed at *
         have HVz : Hid (invV Inv.zero = .agg #[.int .i64 0, .int .i64 0, .string (bs []), .string (bs []), .string (bs []), .int .i64 0, .int .i64 0, .string (bs [])]) := Lib.hid rfl
         rw [HVz.out]
         go_upto_region 15 with fail
         have HBy := Lib.hid (blk_new u1 (.cells #[.int .i64 0, .int .i64 0, .string (bs []), .string (bs []), .string (bs []), .int .i64 0, .int .i64 0, .string (bs [])] 31))
         have HIu2 : Hid (IOk (u1.alloc (.cells #[.int .i64 0, .int .i64 0, .string (bs []), .string (bs []), .string (bs []), .int .i64 0, .int .i64 0, .string (bs [])] 31))) := Lib.hid (iok_gl HIu1.out (gl_alloc (gl_refl _ _) _))
         have HLu2 : Hid (GL [] w (u1.alloc (.cells #[.int .i64 0, .int .i64 0, .string (bs []), .string (bs []), .string (bs []), .int .i64 0, .int .i64 0, .string (bs [])] 31))) := Lib.hid (gl_alloc HLu1.out _)
         generalize u1.alloc (.cells #[.int .i64 0, .int .i64 0, .string (bs []), .string (bs []), .string (bs []), .int .i64 0, .int .i64 0, .string (bs [])] 31) = u2 at *
         generalize u1.heap.size = Y at *
         have fy := blk_cell HBy.out
         have hnz : ∀ w, (binOp .neq 31 (.agg #[.int .i64 0, .int .i64 0, .string (bs []), .string (bs []), .string (bs []), .int .i64 0, .int .i64 0, .string (bs [])]) (.agg #[.int .i64 0, .int .i64 0, .string (bs []), .string (bs []), .string (bs []), .int .i64 0, .int .i64 0, .string (bs [])])).run Tryz.prog w = .ok (.bool false) w := fun w => (neq_inv Inv.zero Inv.zero w).trans (by rw [(eqInv_iff _ _).2 rfl]; rfl)
         clear HIu1 HLu1
         go_wp2_with fail
         refine (iAmount a ha0 ha1 _ HIu2.out.g HIu2.out.units).mono ?_
         rintro e v1 ⟨rfl, hbv1⟩
         have HIv1 := Lib.hid (iok_below HIu2.out hbv1)
         have HLv1 : Hid (GL [] w v1) := Lib.hid (gl_below hbv1 HLu2.out)
         clear hbv1
         by_cases hEa : amountE a = 0
         · have HEa := Lib.hid hEa
           have HRa := Lib.hid (read_amount a hEa)
           have HIN := Lib.hid (fun hb h => amount_inj (b := b) hEa hb h)
           have hla := amountT_len a
           rw [hEa]
           clear hEa
           go_wp2_with fail
           refine (iAmount b hb0 hb1 _ HIv1.out.g HIv1.out.units).mono ?_
           rintro e v2 ⟨rfl, hbv2⟩
           have HIv2 := Lib.hid (iok_below HIv1.out hbv2)
           have HLv2 : Hid (GL [] w v2) := Lib.hid (gl_below hbv2 HLv1.out)
           clear hbv2
           have HRD := Lib.hid (iRead (amountT a) om_ v2 HIv2.out.g HIv2.out.units)
           unfold RdO at HRD
           rw [HRa.out] at HRD
           by_cases hEb : amountE b = 0
           · have HINb := Lib.hid (HIN.out hEb)
             rw [hEb]
             clear hEb
             by_cases hab : a = b
             · subst hab
               generalize amountT a = ta at *
               go_wp2_with fail
               refine HRD.out.mono ?_
               rintro e v3 ⟨rfl, hbv3⟩
               have HIv3 := Lib.hid (iok_below HIv2.out hbv3)
               have HLv3 : Hid (GL [] w v3) := Lib.hid (gl_below hbv3 HLv2.out)
               clear hbv3
               go_wp2_with fail
               refine (lWorksI _ HIv3.out).mono ?_
               rintro e wz ⟨rfl, hbz⟩
               go_wp2_with fail
               exact bodyPost_ret (v := .bool true) (by simp [results, Tryz.results6, go_sem]) rfl ⟨rfl, gl_to_below (gl_below hbz HLv3.out)⟩
             · have hne : (amountT a == amountT b) = false := by
                rw [beq_eq_false_iff_ne]
                exact fun h => hab (HINb.out h)
               have hne2 : (a == b) = false := by simpa using hab
               have HNE := Lib.hid hab
               clear hab
               generalize amountT a = ta at *
               generalize amountT b = tb at *
               go_wp2_with fail
               refine HRD.out.mono ?_
               rintro e v3 ⟨rfl, hbv3⟩
               have HIv3 := Lib.hid (iok_below HIv2.out hbv3)
               have HLv3 : Hid (GL [] w v3) := Lib.hid (gl_below hbv3 HLv2.out)
               clear hbv3
               go_wp2_with fail
               refine (lWorksI _ HIv3.out).mono ?_
               rintro e wz ⟨rfl, hbz⟩
               go_wp2_with fail
               exact bodyPost_ret (v := .bool true) (by simp [results, Tryz.results6, go_sem]) rfl ⟨rfl, gl_to_below (gl_below hbz HLv3.out)⟩
           · have hEb1 : (amountE b == 0) = false := by simpa using hEb
             have hEb2 : (amountE b != 0) = true := by simpa using hEb
             clear hEb HIN
             generalize amountE b = eb at *
             generalize amountT a = ta at *
             generalize amountT b = tb at *
             go_wp2_with fail
             refine HRD.out.mono ?_
             rintro e v3 ⟨rfl, hbv3⟩
             have HIv3 := Lib.hid (iok_below HIv2.out hbv3)
             have HLv3 : Hid (GL [] w v3) := Lib.hid (gl_below hbv3 HLv2.out)
             clear hbv3
             go_wp2_with fail
             refine (lWorksI _ HIv3.out).mono ?_
             rintro e wz ⟨rfl, hbz⟩
             go_wp2_with fail
             exact bodyPost_ret (v := .bool true) (by simp [results, Tryz.results6, go_sem]) rfl ⟨rfl, gl_to_below (gl_below hbz HLv3.out)⟩
         · have hTa := amountT_bad hEa
           have hEa1 : (amountE a == 0) = false := by simpa using hEa
           have hEa2 : (amountE a != 0) = true := by simpa using hEa
           rw [hTa]
           clear hTa hEa
           generalize amountE a = ea at *
           go_wp2_with fail
           refine (iAmount b hb0 hb1 _ HIv1.out.g HIv1.out.units).mono ?_
           rintro e v2 ⟨rfl, hbv2⟩
           have HIv2 := Lib.hid (iok_below HIv1.out hbv2)
           have HLv2 : Hid (GL [] w v2) := Lib.hid (gl_below hbv2 HLv1.out)
           clear hbv2
           generalize amountE b = eb at *
           generalize amountT b = tb at *
           go_wp2_with fail
           refine (iRead [] si_ v2 HIv2.out.g HIv2.out.units).mono ?_
           rintro e v3 ⟨rfl, hbv3⟩
           have HIv3 := Lib.hid (iok_below HIv2.out hbv3)
           have HLv3 : Hid (GL [] w v3) := Lib.hid (gl_below hbv3 HLv2.out)
           clear hbv3
           have hr0 : readV [] = (0, 0) := rfl
           rw [hr0]
           clear hr0
           go_wp2_with fail
           refine (lWorksI _ HIv3.out).mono ?_
           rintro e wz ⟨rfl, hbz⟩
           go_wp2_with fail
           exact bodyPost_ret (v := .bool true) (by simp [results, Tryz.results6, go_sem]) rfl ⟨rfl, gl_to_below (gl_below hbz HLv3.out)⟩
     · have hE1 : (encIE x == 0) = false := by simpa using hE
       have hE2 : (encIE x != 0) = true := by simpa using hE
       have HRx : Hid (encIR x = []) := Lib.hid (by unfold encIR; rw [if_neg hE])
       rw [HRx.out]
       clear hE
       generalize encIE x = ex at *
       go_wp2_with fail
       refine (iDecode s om_ _ HI3.out).mono ?_
       rintro e u1 ⟨rfl, hbu1⟩
       have HIu1 := Lib.hid (iok_below HI3.out hbu1)
       have HLu1 : Hid (GL [] w u1) := Lib.hid (gl_below hbu1 HL3.out)
       clear hbu1
       by_cases hD : (decI s).2 = 0
       · have HED := Lib.hid (enc_decI s (decI s).1 (by rw [← hD]))
         rw [hD]
         clear hD
         generalize (decI s).1 = y at *
         have HOKy := Lib.hid (enc_ok HED.out.1)
         have HRy : Hid (encIR y = s.map lowB) := Lib.hid (by unfold encIR; rw [if_pos HED.out.1]; exact HED.out.2)
         have HVy : Hid (invV y = .agg #[.int .i64 y.am, .int .i64 y.st, .string (bs y.hash), .string (bs y.payee), .string (bs y.memo), .int .i64 y.ex, .int .i64 y.de, .string (bs y.sig)]) := Lib.hid rfl
         rw [HVy.out]
         go_upto_region 12 with fail
         have HBy := Lib.hid (blk_new u1 (.cells #[.int .i64 y.am, .int .i64 y.st, .string (bs y.hash), .string (bs y.payee), .string (bs y.memo), .int .i64 y.ex, .int .i64 y.de, .string (bs y.sig)] 31))
         have HIu2 : Hid (IOk (u1.alloc (.cells #[.int .i64 y.am, .int .i64 y.st, .string (bs y.hash), .string (bs y.payee), .string (bs y.memo), .int .i64 y.ex, .int .i64 y.de, .string (bs y.sig)] 31))) := Lib.hid (iok_gl HIu1.out (gl_alloc (gl_refl _ _) _))
         have HLu2 : Hid (GL [] w (u1.alloc (.cells #[.int .i64 y.am, .int .i64 y.st, .string (bs y.hash), .string (bs y.payee), .string (bs y.memo), .int .i64 y.ex, .int .i64 y.de, .string (bs y.sig)] 31))) := Lib.hid (gl_alloc HLu1.out _)
         generalize u1.alloc (.cells #[.int .i64 y.am, .int .i64 y.st, .string (bs y.hash), .string (bs y.payee), .string (bs y.memo), .int .i64 y.ex, .int .i64 y.de, .string (bs y.sig)] 31) = u2 at *
         generalize u1.heap.size = Y at *
         have fy := blk_cell HBy.out
         go_wp2_with fail
         refine (show Calls Tryz.prog 17 #[invV y] u2 _ from iEncode y HOKy.out u2 HIu2.out).mono ?_
         rintro e u3 ⟨rfl, hbu3⟩
         rw [HRy.out, HED.out.1]
         have HIu3 := Lib.hid (iok_below HIu2.out hbu3)
         have HLu3 : Hid (GL [] w u3) := Lib.hid (gl_below hbu3 HLu2.out)
         clear hbu3 fy HIu2 HLu2 HIu1 HLu1
         go_wp2_with fail
         refine (lSmall s om_ u3).mono ?_
         rintro e u4 ⟨rfl, hbu4⟩
         have HIu4 := Lib.hid (iok_below HIu3.out hbu4)
         have HLu4 : Hid (GL [] w u4) := Lib.hid (gl_below hbu4 HLu3.out)
         clear hbu4 HIu3 HLu3
         generalize s.map lowB = sl at *
         go_wp2_with fail
         refine (iAmount a ha0 ha1 _ HIu4.out.g HIu4.out.units).mono ?_
         rintro e v1 ⟨rfl, hbv1⟩
         have HIv1 := Lib.hid (iok_below HIu4.out hbv1)
         have HLv1 : Hid (GL [] w v1) := Lib.hid (gl_below hbv1 HLu4.out)
         clear hbv1
         by_cases hEa : amountE a = 0
         · have HEa := Lib.hid hEa
           have HRa := Lib.hid (read_amount a hEa)
           have HIN := Lib.hid (fun hb h => amount_inj (b := b) hEa hb h)
           have hla := amountT_len a
           rw [hEa]
           clear hEa
           go_wp2_with fail
           refine (iAmount b hb0 hb1 _ HIv1.out.g HIv1.out.units).mono ?_
           rintro e v2 ⟨rfl, hbv2⟩
           have HIv2 := Lib.hid (iok_below HIv1.out hbv2)
           have HLv2 : Hid (GL [] w v2) := Lib.hid (gl_below hbv2 HLv1.out)
           clear hbv2
           have HRD := Lib.hid (iRead (amountT a) om_ v2 HIv2.out.g HIv2.out.units)
           unfold RdO at HRD
           rw [HRa.out] at HRD
           by_cases hEb : amountE b = 0
           · have HINb := Lib.hid (HIN.out hEb)
             rw [hEb]
             clear hEb
             by_cases hab : a = b
             · subst hab
               generalize amountT a = ta at *
               go_wp2_with fail
               refine HRD.out.mono ?_
               rintro e v3 ⟨rfl, hbv3⟩
               have HIv3 := Lib.hid (iok_below HIv2.out hbv3)
               have HLv3 : Hid (GL [] w v3) := Lib.hid (gl_below hbv3 HLv2.out)
               clear hbv3
               go_wp2_with fail
               refine (lWorksI _ HIv3.out).mono ?_
               rintro e wz ⟨rfl, hbz⟩
               go_wp2_with fail
               exact bodyPost_ret (v := .bool true) (by simp [results, Tryz.results6, go_sem]) rfl ⟨rfl, gl_to_below (gl_below hbz HLv3.out)⟩
             · have hne : (amountT a == amountT b) = false := by
                rw [beq_eq_false_iff_ne]
                exact fun h => hab (HINb.out h)
               have hne2 : (a == b) = false := by simpa using hab
               have HNE := Lib.hid hab
               clear hab
               generalize amountT a = ta at *
               generalize amountT b = tb at *
               go_wp2_with fail
               refine HRD.out.mono ?_
               rintro e v3 ⟨rfl, hbv3⟩
               have HIv3 := Lib.hid (iok_below HIv2.out hbv3)
               have HLv3 : Hid (GL [] w v3) := Lib.hid (gl_below hbv3 HLv2.out)
               clear hbv3
               go_wp2_with fail
               refine (lWorksI _ HIv3.out).mono ?_
               rintro e wz ⟨rfl, hbz⟩
               go_wp2_with fail
               exact bodyPost_ret (v := .bool true) (by simp [results, Tryz.results6, go_sem]) rfl ⟨rfl, gl_to_below (gl_below hbz HLv3.out)⟩
           · have hEb1 : (amountE b == 0) = false := by simpa using hEb
             have hEb2 : (amountE b != 0) = true := by simpa using hEb
             clear hEb HIN
             generalize amountE b = eb at *
             generalize amountT a = ta at *
             generalize amountT b = tb at *
             go_wp2_with fail
             refine HRD.out.mono ?_
             rintro e v3 ⟨rfl, hbv3⟩
             have HIv3 := Lib.hid (iok_below HIv2.out hbv3)
             have HLv3 : Hid (GL [] w v3) := Lib.hid (gl_below hbv3 HLv2.out)
             clear hbv3
             go_wp2_with fail
             refine (lWorksI _ HIv3.out).mono ?_
             rintro e wz ⟨rfl, hbz⟩
             go_wp2_with fail
             exact bodyPost_ret (v := .bool true) (by simp [results, Tryz.results6, go_sem]) rfl ⟨rfl, gl_to_below (gl_below hbz HLv3.out)⟩
         · have hTa := amountT_bad hEa
           have hEa1 : (amountE a == 0) = false := by simpa using hEa
           have hEa2 : (amountE a != 0) = true := by simpa using hEa
           rw [hTa]
           clear hTa hEa
           generalize amountE a = ea at *
           go_wp2_with fail
           refine (iAmount b hb0 hb1 _ HIv1.out.g HIv1.out.units).mono ?_
           rintro e v2 ⟨rfl, hbv2⟩
           have HIv2 := Lib.hid (iok_below HIv1.out hbv2)
           have HLv2 : Hid (GL [] w v2) := Lib.hid (gl_below hbv2 HLv1.out)
           clear hbv2
           generalize amountE b = eb at *
           generalize amountT b = tb at *
           go_wp2_with fail
           refine (iRead [] si_ v2 HIv2.out.g HIv2.out.units).mono ?_
           rintro e v3 ⟨rfl, hbv3⟩
           have HIv3 := Lib.hid (iok_below HIv2.out hbv3)
           have HLv3 : Hid (GL [] w v3) := Lib.hid (gl_below hbv3 HLv2.out)
           clear hbv3
           have hr0 : readV [] = (0, 0) := rfl
           rw [hr0]
           clear hr0
           go_wp2_with fail
           refine (lWorksI _ HIv3.out).mono ?_
           rintro e wz ⟨rfl, hbz⟩
           go_wp2_with fail
           exact bodyPost_ret (v := .bool true) (by simp [results, Tryz.results6, go_sem]) rfl ⟨rfl, gl_to_below (gl_below hbz HLv3.out)⟩
       · have HZ := Lib.hid (decI_zero s hD)
         rw [HZ.out]
         have hD1 : ((decI s).2 == 0) = false := by simpa using hD
         have hD2 : ((decI s).2 != 0) = true := by simpa using hD
         clear hD
         generalize (decI s).2 = ed at *
         have HVz : Hid (invV Inv.zero = .agg #[.int .i64 0, .int .i64 0, .string (bs []), .string (bs []), .string (bs []), .int .i64 0, .int .i64 0, .string (bs [])]) := Lib.hid rfl
         rw [HVz.out]
         go_upto_region 15 with fail
         have HBy := Lib.hid (blk_new u1 (.cells #[.int .i64 0, .int .i64 0, .string (bs []), .string (bs []), .string (bs []), .int .i64 0, .int .i64 0, .string (bs [])] 31))
         have HIu2 : Hid (IOk (u1.alloc (.cells #[.int .i64 0, .int .i64 0, .string (bs []), .string (bs []), .string (bs []), .int .i64 0, .int .i64 0, .string (bs [])] 31))) := Lib.hid (iok_gl HIu1.out (gl_alloc (gl_refl _ _) _))
         have HLu2 : Hid (GL [] w (u1.alloc (.cells #[.int .i64 0, .int .i64 0, .string (bs []), .string (bs []), .string (bs []), .int .i64 0, .int .i64 0, .string (bs [])] 31))) := Lib.hid (gl_alloc HLu1.out _)
         generalize u1.alloc (.cells #[.int .i64 0, .int .i64 0, .string (bs []), .string (bs []), .string (bs []), .int .i64 0, .int .i64 0, .string (bs [])] 31) = u2 at *
         generalize u1.heap.size = Y at *
         have fy := blk_cell HBy.out
         have hnz : ∀ w, (binOp .neq 31 (.agg #[.int .i64 0, .int .i64 0, .string (bs []), .string (bs []), .string (bs []), .int .i64 0, .int .i64 0, .string (bs [])]) (.agg #[.int .i64 0, .int .i64 0, .string (bs []), .string (bs []), .string (bs []), .int .i64 0, .int .i64 0, .string (bs [])])).run Tryz.prog w = .ok (.bool false) w := fun w => (neq_inv Inv.zero Inv.zero w).trans (by rw [(eqInv_iff _ _).2 rfl]; rfl)
         clear HIu1 HLu1
         go_wp2_with fail
         refine (iAmount a ha0 ha1 _ HIu2.out.g HIu2.out.units).mono ?_
         rintro e v1 ⟨rfl, hbv1⟩
         have HIv1 := Lib.hid (iok_below HIu2.out hbv1)
         have HLv1 : Hid (GL [] w v1) := Lib.hid (gl_below hbv1 HLu2.out)
         clear hbv1
         by_cases hEa : amountE a = 0
         · have HEa := Lib.hid hEa
           have HRa := Lib.hid (read_amount a hEa)
           have HIN := Lib.hid (fun hb h => amount_inj (b := b) hEa hb h)
           have hla := amountT_len a
           rw [hEa]
           clear hEa
           go_wp2_with fail
           refine (iAmount b hb0 hb1 _ HIv1.out.g HIv1.out.units).mono ?_
           rintro e v2 ⟨rfl, hbv2⟩
           have HIv2 := Lib.hid (iok_below HIv1.out hbv2)
           have HLv2 : Hid (GL [] w v2) := Lib.hid (gl_below hbv2 HLv1.out)
           clear hbv2
           have HRD := Lib.hid (iRead (amountT a) om_ v2 HIv2.out.g HIv2.out.units)
           unfold RdO at HRD
           rw [HRa.out] at HRD
           by_cases hEb : amountE b = 0
           · have HINb := Lib.hid (HIN.out hEb)
             rw [hEb]
             clear hEb
             by_cases hab : a = b
             · subst hab
               generalize amountT a = ta at *
               go_wp2_with fail
               refine HRD.out.mono ?_
               rintro e v3 ⟨rfl, hbv3⟩
               have HIv3 := Lib.hid (iok_below HIv2.out hbv3)
               have HLv3 : Hid (GL [] w v3) := Lib.hid (gl_below hbv3 HLv2.out)
               clear hbv3
               go_wp2_with fail
               refine (lWorksI _ HIv3.out).mono ?_
               rintro e wz ⟨rfl, hbz⟩
               go_wp2_with fail
               exact bodyPost_ret (v := .bool true) (by simp [results, Tryz.results6, go_sem]) rfl ⟨rfl, gl_to_below (gl_below hbz HLv3.out)⟩
             · have hne : (amountT a == amountT b) = false := by
                rw [beq_eq_false_iff_ne]
                exact fun h => hab (HINb.out h)
               have hne2 : (a == b) = false := by simpa using hab
               have HNE := Lib.hid hab
               clear hab
               generalize amountT a = ta at *
               generalize amountT b = tb at *
               go_wp2_with fail
               refine HRD.out.mono ?_
               rintro e v3 ⟨rfl, hbv3⟩
               have HIv3 := Lib.hid (iok_below HIv2.out hbv3)
               have HLv3 : Hid (GL [] w v3) := Lib.hid (gl_below hbv3 HLv2.out)
               clear hbv3
               go_wp2_with fail
               refine (lWorksI _ HIv3.out).mono ?_
               rintro e wz ⟨rfl, hbz⟩
               go_wp2_with fail
               exact bodyPost_ret (v := .bool true) (by simp [results, Tryz.results6, go_sem]) rfl ⟨rfl, gl_to_below (gl_below hbz HLv3.out)⟩
           · have hEb1 : (amountE b == 0) = false := by simpa using hEb
             have hEb2 : (amountE b != 0) = true := by simpa using hEb
             clear hEb HIN
             generalize amountE b = eb at *
             generalize amountT a = ta at *
             generalize amountT b = tb at *
             go_wp2_with fail
             refine HRD.out.mono ?_
             rintro e v3 ⟨rfl, hbv3⟩
             have HIv3 := Lib.hid (iok_below HIv2.out hbv3)
             have HLv3 : Hid (GL [] w v3) := Lib.hid (gl_below hbv3 HLv2.out)
             clear hbv3
             go_wp2_with fail
             refine (lWorksI _ HIv3.out).mono ?_
             rintro e wz ⟨rfl, hbz⟩
             go_wp2_with fail
             exact bodyPost_ret (v := .bool true) (by simp [results, Tryz.results6, go_sem]) rfl ⟨rfl, gl_to_below (gl_below hbz HLv3.out)⟩
         · have hTa := amountT_bad hEa
           have hEa1 : (amountE a == 0) = false := by simpa using hEa
           have hEa2 : (amountE a != 0) = true := by simpa using hEa
           rw [hTa]
           clear hTa hEa
           generalize amountE a = ea at *
           go_wp2_with fail
           refine (iAmount b hb0 hb1 _ HIv1.out.g HIv1.out.units).mono ?_
           rintro e v2 ⟨rfl, hbv2⟩
           have HIv2 := Lib.hid (iok_below HIv1.out hbv2)
           have HLv2 : Hid (GL [] w v2) := Lib.hid (gl_below hbv2 HLv1.out)
           clear hbv2
           generalize amountE b = eb at *
           generalize amountT b = tb at *
           go_wp2_with fail
           refine (iRead [] si_ v2 HIv2.out.g HIv2.out.units).mono ?_
           rintro e v3 ⟨rfl, hbv3⟩
           have HIv3 := Lib.hid (iok_below HIv2.out hbv3)
           have HLv3 : Hid (GL [] w v3) := Lib.hid (gl_below hbv3 HLv2.out)
           clear hbv3
           have hr0 : readV [] = (0, 0) := rfl
           rw [hr0]
           clear hr0
           go_wp2_with fail
           refine (lWorksI _ HIv3.out).mono ?_
           rintro e wz ⟨rfl, hbz⟩
           go_wp2_with fail
           exact bodyPost_ret (v := .bool true) (by simp [results, Tryz.results6, go_sem]) rfl ⟨rfl, gl_to_below (gl_below hbz HLv3.out)⟩
end Go.Proofs.YtembdkodajichaaGreatDoor
