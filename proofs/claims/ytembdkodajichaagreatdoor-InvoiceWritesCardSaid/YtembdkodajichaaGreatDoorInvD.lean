/- The program's invoices: a text read. -/
import Derived.Test.YtembdkodajichaaGreatDoorInvU
import Derived.Test.YtembdkodajichaaGreatDoorInvZ
import Derived.Test.YtembdkodajichaaGreatDoorInvB
import Derived.Test.YtembdkodajichaaGreatDoorBechH
set_option maxRecDepth 100000
set_option maxHeartbeats 8000000
set_option linter.unusedSimpArgs false
set_option linter.unusedVariables false
namespace Go.Proofs.YtembdkodajichaaGreatDoor
open Go.RowKit
theorem readV_range {s : List UInt8} (h : (readV s).2 = 0) : 0 ≤ (readV s).1 ∧ (readV s).1 ≤ 2100000000000000000 := by
 unfold readV at h ⊢
 split
 · exact ⟨by decide, by decide⟩
 · rename_i hs
   rw [if_neg hs] at h
   unfold readG at h ⊢
   split
   · exact ⟨by decide, by decide⟩
   · rename_i h1
     rw [if_neg h1] at h
     split
     · exact ⟨by decide, by decide⟩
     · rename_i h2
       rw [if_neg h2] at h
       split
       · exact ⟨by decide, by decide⟩
       · rename_i h3
         have hp := unit_pos (s.drop (trimR s).length)
         have h4 : decV (coreD (trimR s) (s.drop (trimR s).length)) ≤ maxMoney / unitOf (s.drop (trimR s).length) := by omega
         have h5 := Nat.mul_le_mul_right (unitOf (s.drop (trimR s).length)) h4
         have h6 := Nat.div_mul_le_self maxMoney (unitOf (s.drop (trimR s).length))
         have h7 : maxMoney = 2100000000000000000 := rfl
         constructor
         · exact Int.natCast_nonneg _
         · show ((decV (coreD (trimR s) (s.drop (trimR s).length)) * unitOf (s.drop (trimR s).length) : Nat) : Int) ≤ _
           omega
theorem tCutPre (s : List UInt8) (w : World) :
  Calls Tryz.prog 52 #[.string (bs s), .string (bs [108, 110, 115, 119])] w fun e w' => e = .returned (.tuple #[.string (bs (if lnsw.isPrefixOf s then s.drop 4 else s)), .bool (lnsw.isPrefixOf s)]) ∧ w' = w := by
 refine (Tryz.strings_CutPrefix (bs s) (bs [108, 110, 115, 119]) w).mono fun e w' ⟨h1, h2⟩ => ⟨?_, h2⟩
 rw [h1, bs_data, bs_data]
 rfl
structure DcSt (x : Inv) (n : Int) (w wr : World) : Prop where
 x : wr.heap[w.heap.size]? = some (.cells #[.int .i64 x.am, .int .i64 x.st, .string (bs x.hash), .string (bs x.payee), .string (bs x.memo), .int .i64 x.ex, .int .i64 x.de, .string (bs x.sig)] 31 (0, 0))
 e : wr.heap[w.heap.size + 1]? = some (.cells #[.int .i64 n] 23 (0, 0))
 gl : GL [] w wr
theorem dc_below {x : Inv} {n : Int} {w wr w2 : World} (h : DcSt x n w wr) (hb : Below wr.heap.size wr w2) : DcSt x n w w2 :=
 ⟨blk_below h.x hb (blk_lt h.x), blk_below h.e hb (blk_lt h.e), gl_below hb h.gl⟩
theorem dc_gl {x : Inv} {n : Int} {w wr w2 : World} (h : DcSt x n w wr) (hb : GL [] wr w2) : DcSt x n w w2 :=
 ⟨blk_gl h.x hb si_, blk_gl h.e hb si_, gl_step hb h.gl si_⟩
theorem dc_glr {x : Inv} {n : Int} {w wr w2 : World} {R : Nat} (h : DcSt x n w wr) (hR : w.heap.size + 1 < R) (hb : GL [R] wr w2) : DcSt x n w w2 :=
 ⟨blk_gl h.x hb so_, blk_gl h.e hb so_, gl_step hb h.gl so_⟩
theorem dc_e {x : Inv} {n m : Int} {w wr : World} (h : DcSt x n w wr) : DcSt x m w (wr.setCell ⟨w.heap.size + 1, 0, none⟩ (.int .i64 m)) :=
 ⟨blk_ne h.x si_ _, blk_set h.e 0 _, gl_set h.gl (.inr si_) _⟩
theorem dc_x {x y : Inv} {n : Int} {w wr : World} (h : DcSt x n w wr) : DcSt y n w ((((((((wr.setCell ⟨w.heap.size, 0, none⟩ (.int .i64 y.am)).setCell ⟨w.heap.size, 1, none⟩ (.int .i64 y.st)).setCell ⟨w.heap.size, 2, none⟩ (.string (bs y.hash))).setCell ⟨w.heap.size, 3, none⟩ (.string (bs y.payee))).setCell ⟨w.heap.size, 4, none⟩ (.string (bs y.memo))).setCell ⟨w.heap.size, 5, none⟩ (.int .i64 y.ex)).setCell ⟨w.heap.size, 6, none⟩ (.int .i64 y.de)).setCell ⟨w.heap.size, 7, none⟩ (.string (bs y.sig))) := by
 refine ⟨?_, ?_, ?_⟩
 · have := blk_set (blk_set (blk_set (blk_set (blk_set (blk_set (blk_set (blk_set h.x 0 (.int .i64 y.am)) 1 (.int .i64 y.st)) 2 (.string (bs y.hash))) 3 (.string (bs y.payee))) 4 (.string (bs y.memo))) 5 (.int .i64 y.ex)) 6 (.int .i64 y.de)) 7 (.string (bs y.sig))
   simpa using this
 · exact blk_ne (blk_ne (blk_ne (blk_ne (blk_ne (blk_ne (blk_ne (blk_ne h.e si_ _) si_ _) si_ _) si_ _) si_ _) si_ _) si_ _) si_ _
 · exact gl_set (gl_set (gl_set (gl_set (gl_set (gl_set (gl_set (gl_set h.gl (.inr (Nat.le_refl _)) _) (.inr (Nat.le_refl _)) _) (.inr (Nat.le_refl _)) _) (.inr (Nat.le_refl _)) _) (.inr (Nat.le_refl _)) _) (.inr (Nat.le_refl _)) _) (.inr (Nat.le_refl _)) _) (.inr (Nat.le_refl _)) _
theorem dc_am {x : Inv} {n m : Int} {w wr : World} (h : DcSt x n w wr) : DcSt { x with am := m } n w (wr.setCell ⟨w.heap.size, 0, none⟩ (.int .i64 m)) := by
 refine ⟨?_, blk_ne h.e si_ _, gl_set h.gl (.inr (Nat.le_refl _)) _⟩
 have := blk_set h.x 0 (.int .i64 m)
 simpa using this
theorem dc_drew {x : Inv} {n : Int} {w wr : World} (h : DcSt x n w wr) (k : Nat) : DcSt x n w (wr.drewN k) := ⟨h.x, h.e, gl_drewN h.gl k⟩
theorem dc_drew1 {x : Inv} {n : Int} {w wr : World} (h : DcSt x n w wr) : DcSt x n w wr.drew := ⟨h.x, h.e, gl_drew h.gl⟩
theorem dc_leaves {x : Inv} {n : Int} {s : List UInt8} {w wr : World} {tmps : Array Value} {u : FrameMode} (h : DcSt x n w wr) (hd : decI s = (x, n)) (hu : u = .returning)
  (h2 : tmps[2]?.getD undef = .pointer (some ⟨w.heap.size, 0, none⟩)) (h3 : tmps[3]?.getD undef = .pointer (some ⟨w.heap.size + 1, 0, none⟩)) : Leaves Tryz.prog Tryz.f19 tmps (DcO s w) [] u wr := by
 have fx := blk_cell h.x
 have fe := blk_cell h.e
 have hv : DcO s w (.returned (.tuple #[.agg #[.int .i64 x.am, .int .i64 x.st, .string (bs x.hash), .string (bs x.payee), .string (bs x.memo), .int .i64 x.ex, .int .i64 x.de, .string (bs x.sig)], .int .i64 n])) wr := dcO_of hd rfl (gl_to_below h.gl)
 subst hu
 simp [Leaves, settle, results, Tryz.results19, go_sem, h2, h3, fx, fe]
 exact hv
theorem iDecode (s : List UInt8) (hl : s.length ≤ 1000000) (w : World) (hI : IOk w) :
  Calls Tryz.prog 19 #[.string (bs s)] w (DcO s w) := by
 have hmf : ∀ (fn : Fn) (first cap : Array Value) (w : World), (Instr.makeFunc fn first cap).run Tryz.prog w = .ok (.func fn first cap) w := fun _ _ _ _ => rfl
 have HI := Lib.hid hI
 clear hI
 go_enter_defers Tryz.func19, Tryz.ntmps19
 go_wp2_with fail
 have S1 : Hid (DcSt Inv.zero 0 w ((w.alloc (.cells #[.int .i64 0, .int .i64 0, .string (bs []), .string (bs []), .string (bs []), .int .i64 0, .int .i64 0, .string (bs [])] 31)).alloc (.cells #[.int .i64 0] 23))) := Lib.hid ⟨blk_alloc (blk_new _ _) _, by have := blk_new (w.alloc (.cells #[.int .i64 0, .int .i64 0, .string (bs []), .string (bs []), .string (bs []), .int .i64 0, .int .i64 0, .string (bs [])] 31)) (.cells #[.int .i64 0] 23); rwa [World.size_alloc] at this, gl_alloc (gl_alloc (gl_refl _ _) _) _⟩
 generalize ((w.alloc (.cells #[.int .i64 0, .int .i64 0, .string (bs []), .string (bs []), .string (bs []), .int .i64 0, .int .i64 0, .string (bs [])] 31)).alloc (.cells #[.int .i64 0] 23)) = w1 at *
 have HI1 := Lib.hid (iok_gl HI.out S1.out.gl)
 refine (bDecode s w1 om_).mono ?_
 rintro e w2 ⟨hd, hb2⟩
 have S2 := Lib.hid (dc_below S1.out hb2)
 have HI2 := Lib.hid (iok_below HI1.out hb2)
 have HL2 := Lib.hid hb2
 clear S1 HI1 hb2
 unfold DecO at hd
 have fx := blk_cell S2.out.x
 have ex := blk_free S2.out.x
 have fe := blk_cell S2.out.e
 have ee := blk_free S2.out.e
 have hse := blk_lt S2.out.e
 by_cases hE : decE s = 0
 · rw [if_pos hE] at hd
   obtain ⟨v, rfl, hin⟩ := hd
   obtain ⟨va, vc, rfl, hvc, _⟩ := inAt_form hin
   have HIN := Lib.hid hin
   have HE := Lib.hid hE
   have HW32 := Lib.hid (tailW_lt s hE)
   clear hin hE
   go_upto_region 4 with fail
   have S3 := Lib.hid (dc_e (m := 0) S2.out)
   have HIN3 := Lib.hid (inAt_gl HIN.out (gl_refl [] w2))
   clear fx ex fe ee hse
   have HIN3 : Hid (InAt (.slice va (decW s).length vc) (decW s) (w2.setCell ⟨w.heap.size + 1, 0, none⟩ (.int .i64 0))) := Lib.hid (inAt_glr HIN.out (gl_set (gl_refl [w.heap.size + 1] w2) (.inl si_) _) (inAt_apart HIN.out S2.out.e si_))
   have HI3 : Hid (IOk (w2.setCell ⟨w.heap.size + 1, 0, none⟩ (.int .i64 0))) := Lib.hid (iok_glr HI2.out (gl_set (gl_refl [w.heap.size + 1] w2) (.inl si_) _) (by simp; have := HI.out.g.size; omega))
   generalize w2.setCell ⟨w.heap.size + 1, 0, none⟩ (.int .i64 0) = w3 at *
   clear S2 HI2 HL2 HIN
   have fx : ∀ j, w3.cell? ⟨w.heap.size, j, none⟩ = (#[.int .i64 0, .int .i64 0, .string (bs []), .string (bs []), .string (bs []), .int .i64 0, .int .i64 0, .string (bs [])] : Array Value)[j]? := blk_cell S3.out.x
   have ex := blk_free S3.out.x
   have fe := blk_cell S3.out.e
   have ee := blk_free S3.out.e
   have hse := blk_lt S3.out.e
   have hdl : (decH s).length ≤ 1000000 := by unfold decH; rw [List.length_take, List.length_map]; omega
   cases hp : lnsw.isPrefixOf (decH s) with
   | false =>
     have HD := Lib.hid (decI_pre HE.out hp)
     have HP := Lib.hid hp
     clear hp
     go_wp2_with (go_at_call 52; refine (tCutPre (decH s) _).mono ?_; rintro e w3 ⟨rfl, rfl⟩; rw [HP.out])
     exact dc_leaves (dc_e (m := 70) (dc_x (y := Inv.zero) S3.out)) HD.out rfl si_ si_
   | true =>
     have HP := Lib.hid hp
     clear hp
     go_upto_region 7 with (go_at_call 52; refine (tCutPre (decH s) _).mono ?_; rintro e w3 ⟨rfl, rfl⟩; rw [HP.out])
     have hdl2 : ((decH s).drop 4).length ≤ 1000000 := by rw [List.length_drop]; omega
     have HDA : Hid ((readV ((decH s).drop 4)).2 ≠ 0 → decI s = (Inv.zero, (readV ((decH s).drop 4)).2)) := Lib.hid (decI_am HE.out HP.out)
     have HDO : Hid ((readV ((decH s).drop 4)).2 = 0 → decI s = match invR (decW s) with
      | none => (Inv.zero, 70)
      | some x => if verifyT x.payee (bodyT { x with am := (readV ((decH s).drop 4)).1 }) x.sig = true then ({ x with am := (readV ((decH s).drop 4)).1 }, 0) else (Inv.zero, 71)) := Lib.hid (decI_ok HE.out HP.out)
     have HRG : Hid ((readV ((decH s).drop 4)).2 = 0 → 0 ≤ (readV ((decH s).drop 4)).1 ∧ (readV ((decH s).drop 4)).1 ≤ 2100000000000000000) := Lib.hid readV_range
     have HRD := Lib.hid (iRead ((decH s).drop 4) hdl2 w3 HI3.out.g HI3.out.units)
     unfold RdO at HRD
     generalize readV ((decH s).drop 4) = rv at *
     generalize (decH s).drop 4 = dh at *
     obtain ⟨n, m⟩ := rv
     simp only at HDA HDO HRG HRD
     go_wp2_with fail
     refine HRD.out.mono ?_
     rintro e w4 ⟨rfl, hb4⟩
     have S4 := Lib.hid (dc_below S3.out hb4)
     have HI4 := Lib.hid (iok_below HI3.out hb4)
     have HIN4 := Lib.hid (inAt_gl HIN3.out (gl_below hb4 (gl_refl _ _)))
     clear hb4 fx ex fe ee hse S3 HI3 HIN3 HRD
     have fx : ∀ j, w4.cell? ⟨w.heap.size, j, none⟩ = (#[.int .i64 0, .int .i64 0, .string (bs []), .string (bs []), .string (bs []), .int .i64 0, .int .i64 0, .string (bs [])] : Array Value)[j]? := blk_cell S4.out.x
     have ex := blk_free S4.out.x
     have fe := blk_cell S4.out.e
     have ee := blk_free S4.out.e
     have hse := blk_lt S4.out.e
     by_cases hm : m = 0
     · subst hm
       have HR2 := Lib.hid (HRG.out rfl)
       have HD := Lib.hid (HDO.out rfl)
       have hn0 := HR2.out.1
       have hn1 := HR2.out.2
       go_upto_region 10 with fail
       have S5 := Lib.hid (dc_e (m := 0) S4.out)
       have HIN5 : Hid (InAt (.slice va (decW s).length vc) (decW s) (w4.setCell ⟨w.heap.size + 1, 0, none⟩ (.int .i64 0))) := Lib.hid (inAt_glr HIN4.out (gl_set (gl_refl [w.heap.size + 1] w4) (.inl si_) _) (inAt_apart HIN4.out S4.out.e si_))
       have HI5 : Hid (IOk (w4.setCell ⟨w.heap.size + 1, 0, none⟩ (.int .i64 0))) := Lib.hid (iok_glr HI4.out (gl_set (gl_refl [w.heap.size + 1] w4) (.inl si_) _) (by simp; have := HI.out.g.size; omega))
       generalize w4.setCell ⟨w.heap.size + 1, 0, none⟩ (.int .i64 0) = w5 at *
       clear fx ex fe ee hse S4 HI4 HIN4 HRG HDA HDO HR2
       have hwl : (decW s).length ≤ 1000000 := by
        unfold decW tailW
        rw [List.length_take, List.length_map, List.length_drop, List.length_map]
        omega
       have HRA : Hid (RAt w5.heap.size (decW s) (w5.alloc (.cells #[.slice va (decW s).length vc] 80))) := Lib.hid ⟨va, vc, blk_new _ _, inAt_gl HIN5.out (gl_alloc (gl_refl _ _) _)⟩
       have S6 := Lib.hid (dc_gl S5.out (gl_alloc (gl_refl _ _) (.cells #[.slice va (decW s).length vc] 80)))
       have HI6 := Lib.hid (iok_gl HI5.out (gl_alloc (gl_refl _ _) (.cells #[.slice va (decW s).length vc] 80)))
       have HR5 := Lib.hid (blk_lt S5.out.e)
       have HG5 := Lib.hid HI5.out.g.size
       cases hq : invR (decW s) with
       | none =>
         have HDN : Hid (decI s = (Inv.zero, 70)) := Lib.hid (by rw [HD.out, hq])
         have HQ := Lib.hid hq
         clear hq
         go_wp2_with fail
         refine (iInvoice w5.heap.size (decW s) _ HRA.out HG5.out HI6.out.g om_ HW32.out).mono ?_
         rintro e w7 ⟨hg7, hp7⟩
         rw [HQ.out] at hp7
         have hp7 : e = .panicked [oddP] := hp7
         subst hp7
         have S7 := Lib.hid (dc_glr S6.out HR5.out hg7)
         go_wp2_with fail
         refine leaves_cons (f := 53) (args := #[.pointer (some ⟨w.heap.size, 0, none⟩), .pointer (some ⟨w.heap.size + 1, 0, none⟩)]) si_ (by simp [go_sem]) ?_
         refine (iCatch w.heap.size (w.heap.size + 1) Inv.zero 0 w7 S7.out.x S7.out.e om_).mono ?_
         rintro e u' w8 ⟨rfl, rfl, hx8, he8, hg8⟩
         exact dc_leaves (x := Inv.zero) (n := 70) ⟨hx8, he8, gl_step hg8 S7.out.gl si_⟩ HDN.out rfl si_ si_
       | some x =>
         obtain ⟨hal, hmay, hsig, ham⟩ := inv_some hq HW32.out
         obtain ⟨q1, q2, q3, q4, q5, q6, q7, q8, q9⟩ := may_facts hmay
         have HMAY := Lib.hid hmay
         have HOK : Hid (InvOk { x with am := n }) := Lib.hid ⟨by simp; omega, by simp; omega, by simp; omega, by simp; omega, by simp; omega, by simp; omega, by simp; omega, by simp; omega, by simp; omega, by simp; omega, by simp; omega, by simp; omega⟩
         have HBE := Lib.hid (body_ok (x := { x with am := n }) (amountE_ok hn0 hn1) hmay)
         have HDS : Hid (decI s = if verifyT x.payee (bodyT { x with am := n }) x.sig = true then ({ x with am := n }, 0) else (Inv.zero, 71)) := Lib.hid (by rw [HD.out, hq])
         have HQ := Lib.hid hq
         have hsg : x.sig.length ≤ 1000000 := by omega
         clear hq hal hmay ham q1 q2 q3 q4 q5 q6 q7 q8 q9 HD
         go_wp2_with fail
         refine (iInvoice w5.heap.size (decW s) _ HRA.out HG5.out HI6.out.g om_ HW32.out).mono ?_
         rintro e w7 ⟨hg7, hp7⟩
         rw [HQ.out] at hp7
         have hp7 : e = .returned (.agg #[.int .i64 x.am, .int .i64 x.st, .string (bs x.hash), .string (bs x.payee), .string (bs x.memo), .int .i64 x.ex, .int .i64 x.de, .string (bs x.sig)]) := hp7
         subst hp7
         have S7 := Lib.hid (dc_glr S6.out HR5.out hg7)
         have HI7 : Hid (IOk w7) := Lib.hid (iok_glr HI6.out hg7 (by simp; have := HG5.out; omega))
         clear hg7 S6 HI6 HRA
         have fx : ∀ j, w7.cell? ⟨w.heap.size, j, none⟩ = (#[.int .i64 0, .int .i64 0, .string (bs []), .string (bs []), .string (bs []), .int .i64 0, .int .i64 0, .string (bs [])] : Array Value)[j]? := blk_cell S7.out.x
         have ex := blk_free S7.out.x
         have fe := blk_cell S7.out.e
         have ee := blk_free S7.out.e
         have hse := blk_lt S7.out.e
         go_upto_region 12 with fail
         have S8 := Lib.hid (dc_x (y := x) S7.out)
         have HI8 : Hid (IOk ((((((((w7.setCell ⟨w.heap.size, 0, none⟩ (.int .i64 x.am)).setCell ⟨w.heap.size, 1, none⟩ (.int .i64 x.st)).setCell ⟨w.heap.size, 2, none⟩ (.string (bs x.hash))).setCell ⟨w.heap.size, 3, none⟩ (.string (bs x.payee))).setCell ⟨w.heap.size, 4, none⟩ (.string (bs x.memo))).setCell ⟨w.heap.size, 5, none⟩ (.int .i64 x.ex)).setCell ⟨w.heap.size, 6, none⟩ (.int .i64 x.de)).setCell ⟨w.heap.size, 7, none⟩ (.string (bs x.sig)))) := Lib.hid (iok_glr (rs := [w.heap.size]) HI7.out (gl_set (gl_set (gl_set (gl_set (gl_set (gl_set (gl_set (gl_set (gl_refl _ _) (.inl si_) _) (.inl si_) _) (.inl si_) _) (.inl si_) _) (.inl si_) _) (.inl si_) _) (.inl si_) _) (.inl si_) _) (by simp; have := HI.out.g.size; omega))
         generalize ((((((((w7.setCell ⟨w.heap.size, 0, none⟩ (.int .i64 x.am)).setCell ⟨w.heap.size, 1, none⟩ (.int .i64 x.st)).setCell ⟨w.heap.size, 2, none⟩ (.string (bs x.hash))).setCell ⟨w.heap.size, 3, none⟩ (.string (bs x.payee))).setCell ⟨w.heap.size, 4, none⟩ (.string (bs x.memo))).setCell ⟨w.heap.size, 5, none⟩ (.int .i64 x.ex)).setCell ⟨w.heap.size, 6, none⟩ (.int .i64 x.de)).setCell ⟨w.heap.size, 7, none⟩ (.string (bs x.sig))) = w8 at *
         clear fx ex fe ee hse S7 HI7
         have fx : ∀ j, w8.cell? ⟨w.heap.size, j, none⟩ = (#[.int .i64 x.am, .int .i64 x.st, .string (bs x.hash), .string (bs x.payee), .string (bs x.memo), .int .i64 x.ex, .int .i64 x.de, .string (bs x.sig)] : Array Value)[j]? := blk_cell S8.out.x
         have ex := blk_free S8.out.x
         have fe := blk_cell S8.out.e
         have ee := blk_free S8.out.e
         have hse := blk_lt S8.out.e
         go_upto_region 13 with fail
         have S9 := Lib.hid (dc_am (m := n) S8.out)
         have HI9 : Hid (IOk (w8.setCell ⟨w.heap.size, 0, none⟩ (.int .i64 n))) := Lib.hid (iok_glr HI8.out (gl_set (gl_refl [w.heap.size] w8) (.inl si_) _) (by simp; have := HI.out.g.size; omega))
         generalize w8.setCell ⟨w.heap.size, 0, none⟩ (.int .i64 n) = w9 at *
         clear fx ex fe ee hse S8 HI8
         have fx : ∀ j, w9.cell? ⟨w.heap.size, j, none⟩ = (#[.int .i64 n, .int .i64 x.st, .string (bs x.hash), .string (bs x.payee), .string (bs x.memo), .int .i64 x.ex, .int .i64 x.de, .string (bs x.sig)] : Array Value)[j]? := blk_cell S9.out.x
         have ex := blk_free S9.out.x
         have fe := blk_cell S9.out.e
         have ee := blk_free S9.out.e
         have hse := blk_lt S9.out.e
         go_wp2_with fail
         refine (show Calls Tryz.prog 15 #[invV { x with am := n }] w9 _ from iBody _ HOK.out _ HI9.out).mono ?_
         rintro e w10 ⟨rfl, hb10⟩
         rw [HBE.out.1, HBE.out.2]
         have S10 := Lib.hid (dc_below S9.out hb10)
         have HI10 := Lib.hid (iok_below HI9.out hb10)
         clear fx ex fe ee hse S9 HI9 hb10
         generalize bodyT { x with am := n } = bt at *
         have fx : ∀ j, w10.cell? ⟨w.heap.size, j, none⟩ = (#[.int .i64 n, .int .i64 x.st, .string (bs x.hash), .string (bs x.payee), .string (bs x.memo), .int .i64 x.ex, .int .i64 x.de, .string (bs x.sig)] : Array Value)[j]? := blk_cell S10.out.x
         have ex := blk_free S10.out.x
         have fe := blk_cell S10.out.e
         have ee := blk_free S10.out.e
         have hse := blk_lt S10.out.e
         go_wp2_with fail
         refine (tVerify x.payee bt x.sig om_ _ HI10.out.g).mono ?_
         rintro e w11 ⟨rfl, hb11⟩
         have S11 := Lib.hid (dc_below S10.out hb11)
         clear fx ex fe ee hse S10 HI10 hb11
         have fx : ∀ j, w11.cell? ⟨w.heap.size, j, none⟩ = (#[.int .i64 n, .int .i64 x.st, .string (bs x.hash), .string (bs x.payee), .string (bs x.memo), .int .i64 x.ex, .int .i64 x.de, .string (bs x.sig)] : Array Value)[j]? := blk_cell S11.out.x
         have ex := blk_free S11.out.x
         have fe := blk_cell S11.out.e
         have ee := blk_free S11.out.e
         have hse := blk_lt S11.out.e
         cases hv : verifyT x.payee bt x.sig with
         | false =>
           have HDF : Hid (decI s = (Inv.zero, 71)) := Lib.hid (by rw [HDS.out, hv]; rfl)
           clear hv HDS
           go_wp2_with fail
           refine leaves_cons (f := 53) (args := #[.pointer (some ⟨w.heap.size, 0, none⟩), .pointer (some ⟨w.heap.size + 1, 0, none⟩)]) si_ (by simp [go_sem]) ?_
           refine (iIdle w.heap.size (w.heap.size + 1) _).mono ?_
           rintro e u' w12 ⟨rfl, rfl, rfl⟩
           exact dc_leaves (dc_e (m := 71) (dc_x (y := Inv.zero) S11.out)) HDF.out rfl si_ si_
         | true =>
           have HDF : Hid (decI s = ({ x with am := n }, 0)) := Lib.hid (by rw [HDS.out, hv]; rfl)
           clear hv HDS
           go_wp2_with fail
           refine leaves_cons (f := 53) (args := #[.pointer (some ⟨w.heap.size, 0, none⟩), .pointer (some ⟨w.heap.size + 1, 0, none⟩)]) si_ (by simp [go_sem]) ?_
           refine (iIdle w.heap.size (w.heap.size + 1) _).mono ?_
           rintro e u' w12 ⟨rfl, rfl, rfl⟩
           exact dc_leaves (dc_e (m := 0) (dc_x (y := { x with am := n }) S11.out)) HDF.out rfl si_ si_
     · have HD := Lib.hid (HDA.out hm)
       have hd1 : (m != 0) = true := by simpa using hm
       have hd2 : (m == 0) = false := by simpa using hm
       clear hm
       go_upto_region 9 with fail
       have S5 := Lib.hid (dc_e (m := m) S4.out)
       generalize w4.setCell ⟨w.heap.size + 1, 0, none⟩ (.int .i64 m) = w5 at *
       clear fx ex fe ee hse S4
       have fx : ∀ j, w5.cell? ⟨w.heap.size, j, none⟩ = (#[.int .i64 0, .int .i64 0, .string (bs []), .string (bs []), .string (bs []), .int .i64 0, .int .i64 0, .string (bs [])] : Array Value)[j]? := blk_cell S5.out.x
       have ex := blk_free S5.out.x
       have fe := blk_cell S5.out.e
       have ee := blk_free S5.out.e
       have hse := blk_lt S5.out.e
       go_region
       go_wp2_with fail
       exact dc_leaves (dc_drew1 (dc_e (m := m) (dc_x (y := Inv.zero) S5.out))) HD.out rfl si_ si_
 · rw [if_neg hE] at hd
   subst hd
   have HD := Lib.hid (decI_bad hE)
   generalize decE s = de at *
   have hd1 : (de != 0) = true := by simpa using hE
   have hd2 : (de == 0) = false := by simpa using hE
   clear hE
   go_upto_region 3 with fail
   have S3 := Lib.hid (dc_e (m := de) S2.out)
   generalize w2.setCell ⟨w.heap.size + 1, 0, none⟩ (.int .i64 de) = w3 at *
   clear fx ex fe ee hse S2 HL2
   have fx : ∀ j, w3.cell? ⟨w.heap.size, j, none⟩ = (#[.int .i64 0, .int .i64 0, .string (bs []), .string (bs []), .string (bs []), .int .i64 0, .int .i64 0, .string (bs [])] : Array Value)[j]? := blk_cell S3.out.x
   have ex := blk_free S3.out.x
   have fe := blk_cell S3.out.e
   have ee := blk_free S3.out.e
   have hse := blk_lt S3.out.e
   go_region
   go_wp2_with fail
   exact dc_leaves (dc_drew1 (dc_e (m := de) (dc_x (y := Inv.zero) S3.out))) HD.out rfl si_ si_
end Go.Proofs.YtembdkodajichaaGreatDoor
