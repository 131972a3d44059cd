/- The program's invoices: what is signed. -/
import Derived.Test.YtembdkodajichaaGreatDoorInvX
import Derived.Test.YtembdkodajichaaGreatDoorInvA
import Derived.Test.YtembdkodajichaaGreatDoorDigE
set_option maxRecDepth 100000
set_option maxHeartbeats 4000000
set_option linter.unusedSimpArgs false
set_option linter.unusedVariables false
namespace Go.Proofs.YtembdkodajichaaGreatDoor
open Go.RowKit
structure IOk (w : World) : Prop where
 g : GOk w
 tab : TabOk w
 units : UnitsOk w
theorem iok_gl {w w' : World} (h : IOk w) (hg : GL [] w w') : IOk w' := ⟨gok_gl h.g hg si_, tab_gl h.tab hg si_, units_gl h.units hg si_⟩
theorem iok_glr {w w' : World} {rs : List Nat} (h : IOk w) (hg : GL rs w w') (hr : ∀ r ∈ rs, gN ≤ r) : IOk w' := by
 have h1 : 7 < gN := by decide
 have h2 : 0 < gN := by decide
 exact ⟨gok_gl h.g hg hr, tab_gl h.tab hg (fun hm => by have := hr _ hm; omega), units_gl h.units hg (fun hm => by have := hr _ hm; omega)⟩
theorem iok_below {w w' : World} (h : IOk w) (hg : Below w.heap.size w w') : IOk w' := iok_gl h (gl_below hg (gl_refl _ _))
theorem amountT_len (m : Int) : (amountT m).length ≤ 79 := by
 have h := hrp_ok ⟨m, 0, [], [], [], 0, 0, []⟩
 unfold hrpOk hrpI at h
 simp only [Bool.and_eq_true, decide_eq_true_eq, List.length_append] at h
 have : lnsw.length = 4 := rfl
 omega
def bodyR (x : Inv) : List UInt8 := if bodyE x = 0 then bodyT x else []
theorem body_money {x : Inv} (h : amountE x.am ≠ 0) : bodyE x = 40 ∧ bodyR x = [] ∧ amountE x.am = 40 := by
 have h1 : amountE x.am = 40 := by
  unfold amountE at h ⊢
  split
  · rfl
  · rename_i hc; rw [if_neg hc] at h; exact absurd rfl h
 have e : bodyE x = 40 := by unfold bodyE; rw [if_pos h]
 exact ⟨e, by unfold bodyR; rw [e, if_neg om_], h1⟩
theorem body_may {x : Inv} (h : amountE x.am = 0) (hm : mayI x = false) : bodyE x = 70 ∧ bodyR x = [] := by
 have e : bodyE x = 70 := by unfold bodyE; rw [if_neg (by simp [h]), if_pos hm]
 exact ⟨e, by unfold bodyR; rw [e, if_neg om_]⟩
theorem body_ok {x : Inv} (h : amountE x.am = 0) (hm : mayI x = true) : bodyE x = 0 ∧ bodyR x = bodyT x := by
 have e : bodyE x = 0 := by unfold bodyE; rw [if_neg (by simp [h]), if_neg (by simp [hm])]
 exact ⟨e, by unfold bodyR; rw [if_pos e]⟩
theorem hexB_lenY (l : List UInt8) : (hexB l).length = 2 * l.length := by
 unfold hexB
 induction l with
 | nil => rfl
 | cons a r ih => rw [List.flatMap_cons, List.length_append, ih]; simp; omega
theorem text_hex (l : List UInt8) : textT (hexT l) = (bodyT.textL0 (hexT l), 0) := by
 unfold textT bodyT.textL0
 rw [if_neg (by rw [hexT_len]; omega)]
theorem iBody (x : Inv) (hx : InvOk x) (w : World) (hI : IOk w) :
  Calls Tryz.prog 15 #[invV x] w fun e w' => e = .returned (.tuple #[.string (bs (bodyR x)), .int .i64 (bodyE x)]) ∧ Below w.heap.size w w' := by
 have HX := Lib.hid hx
 have HI := Lib.hid hI
 have ham0 := hx.am0
 have ham1 := hx.am1
 have hal := amountT_len x.am
 clear hx hI
 unfold invV
 go_enter Tryz.func15, Tryz.ntmps15
 go_wp2_with fail
 have HB1 := Lib.hid (blk_new w (.cells #[.int .i64 x.am, .int .i64 x.st, .string (bs x.hash), .string (bs x.payee), .string (bs x.memo), .int .i64 x.ex, .int .i64 x.de, .string (bs x.sig)] 31))
 have HI1 : Hid (IOk (w.alloc (.cells #[.int .i64 x.am, .int .i64 x.st, .string (bs x.hash), .string (bs x.payee), .string (bs x.memo), .int .i64 x.ex, .int .i64 x.de, .string (bs x.sig)] 31))) := Lib.hid (iok_gl HI.out (gl_alloc (gl_refl _ _) _))
 have HL1 : Hid (GL [] w (w.alloc (.cells #[.int .i64 x.am, .int .i64 x.st, .string (bs x.hash), .string (bs x.payee), .string (bs x.memo), .int .i64 x.ex, .int .i64 x.de, .string (bs x.sig)] 31))) := Lib.hid (gl_alloc (gl_refl _ _) _)
 generalize w.alloc (.cells #[.int .i64 x.am, .int .i64 x.st, .string (bs x.hash), .string (bs x.payee), .string (bs x.memo), .int .i64 x.ex, .int .i64 x.de, .string (bs x.sig)] 31) = w1 at *
 refine (iAmount x.am ham0 ham1 _ HI1.out.g HI1.out.units).mono ?_
 rintro e w2 ⟨rfl, hb2⟩
 have HB2 := Lib.hid (blk_below HB1.out hb2 (blk_lt HB1.out))
 have HI2 := Lib.hid (iok_below HI1.out hb2)
 have HL2 : Hid (GL [] w w2) := Lib.hid (gl_below hb2 HL1.out)
 clear hb2 HB1 HI1 HL1 ham0 ham1
 by_cases hE : amountE x.am = 0
 · have HE := Lib.hid hE
   rw [hE]
   clear hE
   have f2 := blk_cell HB2.out
   go_wp2_with fail
   refine (iMay x HX.out _ HI2.out.g).mono ?_
   rintro e w3 ⟨rfl, hb3⟩
   have HB3 := Lib.hid (blk_below HB2.out hb3 (blk_lt HB2.out))
   have HI3 := Lib.hid (iok_below HI2.out hb3)
   have HL3 : Hid (GL [] w w3) := Lib.hid (gl_below hb3 HL2.out)
   clear hb3 HB2 HI2 HL2 f2
   cases hm : mayI x with
   | false =>
     have HR := Lib.hid (body_may HE.out hm)
     clear hm
     go_wp2_with fail
     exact bodyPost_ret (v := .tuple #[.string (bs []), .int .i64 70]) (by simp [results, Tryz.results15, go_sem]) rfl ⟨by rw [HR.out.1, HR.out.2], gl_to_below HL3.out⟩
   | true =>
     have HR := Lib.hid (body_ok HE.out hm)
     have HM := Lib.hid hm
     clear hm
     obtain ⟨c4, w4, hcv, hin4, hg4⟩ := run_conv 9 Tryz.underlying9 (108 :: 110 :: 115 :: 119 :: amountT x.am) w3 so_
     have HB4 := Lib.hid (blk_gl HB3.out hg4 si_)
     have HI4 := Lib.hid (iok_gl HI3.out hg4)
     have HL4 : Hid (GL [] w w4) := Lib.hid (gl_step hg4 HL3.out si_)
     have HC4 := Lib.hid hin4
     have HW := Lib.hid (wordsI_lt x HM.out).2
     clear hin4 hg4
     have f4 := blk_cell HB4.out
     have HBT : Hid (bodyT x = bodyT.textL0 (hexT ((108 :: 110 :: 115 :: 119 :: amountT x.am) ++ wordsI x))) := Lib.hid rfl
     generalize amountT x.am = am at *
     go_wp2_with fail
     refine (iWords x HM.out _).mono ?_
     rintro e w5 ⟨ad5, c5, rfl, hown5, hb5⟩
     have HI5 := Lib.hid (iok_below HI4.out hb5)
     have HL5 : Hid (GL [] w w5) := Lib.hid (gl_below hb5 HL4.out)
     obtain ⟨ad6, c6, w6, hrun, hin6, G, hG, hg6⟩ := run_appC _ _ _ (wordsI x) w5 (cvAt_below HC4.out hb5) (by unfold wordsI fieldW; simp; omega) (ownB_in hown5).1 (by have := HW.out; simp; omega)
     obtain rfl : w3.heap.size = G := by
      simp [Value.ownBlock] at hG
      exact hG
     have HI6 : Hid (IOk w6) := Lib.hid (iok_glr HI5.out hg6 (fun r hr => by simp at hr; subst hr; exact HI3.out.g.size))
     have HL6 : Hid (GL [] w w6) := Lib.hid (gl_step hg6 HL5.out (fun r hr => .inr (by simp at hr; subst hr; exact HL3.out.size)))
     have HIN6 := Lib.hid hin6
     simp only [List.length_cons] at hrun
     have HRUN := Lib.hid hrun
     clear hown5 hb5 hrun hin6 hG hg6 f4
     go_wp2_with (at_builtin; refine wpList_append_run _ rfl (.tmp 20) (.tmp 22) 47 47 rfl _ _ (by simp [Act.eval, Act.put]) (by simp [Act.eval, Act.put]) HRUN.out ?_)
     refine (dHex _ _ _ HIN6.out HI6.out.tab (by have := HW.out; simp; omega)).mono ?_
     rintro e w7 ⟨rfl, hb7⟩
     have HI7 := Lib.hid (iok_below HI6.out hb7)
     have HL7 : Hid (GL [] w w7) := Lib.hid (gl_below hb7 HL6.out)
     have HTX := Lib.hid (text_hex ((108 :: 110 :: 115 :: 119 :: am) ++ wordsI x))
     have htl := hexT_len ((108 :: 110 :: 115 :: 119 :: am) ++ wordsI x)
     generalize hexT ((108 :: 110 :: 115 :: 119 :: am) ++ wordsI x) = hx at *
     clear hb7
     go_wp2_with fail
     refine (tMkText hx om_ _ HI7.out.g).mono ?_
     rintro e w8 ⟨rfl, hb8⟩
     rw [HTX.out]
     have HF : Hid (Below w.heap.size w w8) := Lib.hid (gl_to_below (gl_below hb8 HL7.out))
     clear hb8
     go_wp2_with fail
     exact bodyPost_ret (v := .tuple #[.string (bs (bodyT.textL0 hx)), .int .i64 0]) (by simp [results, Tryz.results15, go_sem]) rfl ⟨by rw [HR.out.1, HR.out.2, HBT.out], HF.out⟩
 · have HR := Lib.hid (body_money hE)
   have HE40 : amountE x.am = 40 := HR.out.2.2
   rw [HE40]
   clear hE HE40
   go_wp2_with fail
   exact bodyPost_ret (v := .tuple #[.string (bs []), .int .i64 40]) (by simp [results, Tryz.results15, go_sem]) rfl ⟨by rw [HR.out.1, HR.out.2.1], gl_to_below HL2.out⟩
end Go.Proofs.YtembdkodajichaaGreatDoor
