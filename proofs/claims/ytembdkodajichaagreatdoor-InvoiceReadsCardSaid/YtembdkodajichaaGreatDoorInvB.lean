/- The program's invoices: amounts read. -/
import Derived.Test.YtembdkodajichaaGreatDoorAmtQ
import Derived.Shelf.Strings.SlTrimAscii
set_option maxRecDepth 100000
set_option maxHeartbeats 4000000
set_option linter.unusedSimpArgs false
set_option linter.unusedVariables false
namespace Go.Proofs.YtembdkodajichaaGreatDoor
open Go.RowKit
theorem zpg_ (s : List UInt8) (hs : s.length ≤ 1000000000) (w : World) :
  Calls Tryz.prog 29 #[.string (bs s), .string (bs [109, 117, 110, 112])] w fun e w' => e = .returned (.string (bs (k1_ s))) ∧ Below w.heap.size w w' := by
 refine (Any.strings_TrimRight_laid Tryz.lays162 (by kernel_rfl) (bs s) (bs [109, 117, 110, 112]) w (by rw [zaL_]; omega) de_ (ascii_of_all de_)).mono fun e w' ⟨h1, h2⟩ => ⟨?_, h2⟩
 rw [h1, za3_, za3_, zpb_]
 rfl
theorem zcj_ (s : List UInt8) (hs : s.length ≤ 1000000000) (w : World) :
  Calls Tryz.prog 30 #[.string (bs s), .string (bs [48, 49, 50, 51, 52, 53, 54, 55, 56, 57])] w fun e w' => e = .returned (.string (bs (Lib.trimS s [48, 49, 50, 51, 52, 53, 54, 55, 56, 57]))) ∧ Below w.heap.size w w' := by
 refine (Any.strings_Trim_laid Tryz.lays160 (by kernel_rfl) (bs s) (bs [48, 49, 50, 51, 52, 53, 54, 55, 56, 57]) w (by rw [zaL_]; omega) de_ (ascii_of_all de_)).mono fun e w' ⟨h1, h2⟩ => ⟨?_, h2⟩
 rw [h1, za3_, za3_]
 rfl
theorem tSuf (s z : List UInt8) (hs : s.length ≤ 1000000000) (w : World) :
  Calls Tryz.prog 31 #[.string (bs s), .string (bs z)] w fun e w' => e = .returned (.bool (zar_ s z)) ∧ w' = w := by
 refine (Tryz.strings_HasSuffix (bs s) (bs z) w (by rw [zaL_]; omega)).mono fun e w' ⟨h1, h2⟩ => ⟨?_, h2⟩
 rw [h1, za3_, za3_]
 rfl
theorem zjQ_ (s z : List UInt8) (hs : s.length ≤ 1000000000) (w : World) :
  Calls Tryz.prog 32 #[.string (bs s), .string (bs z)] w fun e w' => e = .returned (.tuple #[.string (bs (if zar_ s z then s.take (s.length - z.length) else s)), .bool (zar_ s z)]) ∧ w' = w := by
 refine (Tryz.strings_CutSuffix (bs s) (bs z) w (by rw [zaL_]; omega)).mono fun e w' ⟨h1, h2⟩ => ⟨?_, h2⟩
 rw [h1, za3_, za3_]
 rfl
def ofI (nm : List UInt8) (i : Nat) : Nat := (unitL.take i).foldl (fun o p => if p.1 = nm then p.2 else o) 1
def RdO (s : List UInt8) (w : World) (e : Ending) (w' : World) : Prop := e = .returned (.tuple #[.int .i64 (z5_ s).1, .int .i64 (z5_ s).2]) ∧ Below w.heap.size w w'
theorem zaA_ {s : List UInt8} {a b : Int} {w w' : World} (h : z5_ s = (a, b)) (hb : Below w.heap.size w w') : RdO s w (.returned (.tuple #[.int .i64 a, .int .i64 b])) w' := ⟨by rw [h], hb⟩
def zbi_ (c : List UInt8) (nm : List UInt8) : Int × Int := if k6_ / zav_ nm < x2_ c then (0, 40) else (((x2_ c * zav_ nm : Nat) : Int), 0)
theorem zeM_ {d nm : List UInt8} (h1 : d ≠ []) (h2 : d.all x7_ = true) (h3 : head d ≠ 48) (h4 : ¬ 1 < nm.length) (h5 : nm = [] ∨ zar_ d [48, 48, 48] = false) (h6 : nm ≠ [112] ∨ zar_ d [48] = true) : zbo_ d nm = zbi_ (zb9_ d nm) nm := by
 unfold zbo_ zbi_
 rw [if_neg (by
  rintro (h | h | h | h | ⟨ha, hb⟩)
  · exact h1 h
  · rw [h2] at h; cases h
  · exact h3 h
  · exact h4 h
  · rcases h5 with h | h
    · exact ha h
    · rw [h] at hb; cases hb), if_neg (by
  rintro ⟨ha, hb⟩
  rcases h6 with h | h
  · exact h ha
  · rw [h] at hb; cases hb)]
theorem zd6_ {d nm : List UInt8} (h : d = [] ∨ d.all x7_ = false ∨ head d = 48 ∨ 1 < nm.length ∨ (nm ≠ [] ∧ zar_ d [48, 48, 48] = true)) : zbo_ d nm = (0, 70) := by unfold zbo_; rw [if_pos h]
theorem zph_ {d nm : List UInt8} (h : nm = [112] ∧ zar_ d [48] = false) : zbo_ d nm = (0, 70) := by
 unfold zbo_
 split
 · rfl
 · first | rfl | rw [if_pos h]
theorem zeN_ (d : List UInt8) (hd : d.all x7_ = true) (h0 : d ≠ []) (hl : d.length ≤ 1000000) (w : World) (hG : GOk w) :
  Calls Tryz.prog 33 #[.string (bs d), .int .i64 10, .int .i64 64] w fun e w' => (if x2_ d ≤ 9223372036854775807 then e = .returned (.tuple #[.int .i64 (x2_ d : Nat), .nilIface]) else ∃ n T N, e = .returned (.tuple #[.int .i64 n, .iface T (.pointer (some ⟨N, 0, none⟩))])) ∧ Below w.heap.size w w' := by
 have hp := zpc_ d hd h0
 by_cases h : x2_ d ≤ 9223372036854775807
 · rw [if_pos h] at hp
   refine (Tryz.strconv_ParseInt_10_at64_ok (bs d) (by rw [zaL_]; omega) _ (by rw [za3_]; exact hp) w).mono fun e w' hh => ⟨by rw [if_pos h]; exact hh.1, ?_⟩
   obtain ⟨he, hw⟩ := hh
   rcases hw with rfl | ⟨t, rfl⟩
   · exact Below.refl _ _
   · exact zi1_ _ _
 · rw [if_neg h] at hp
   obtain ⟨_, ⟨t, p, hv⟩⟩ := hG.err
   refine (Tryz.strconv_ParseInt_10_at64_range_var (bs d) (by rw [zaL_]; omega) (by rw [za3_]; exact hp) t p w hv).mono fun e w' ⟨N, he, _, _, hb⟩ => ⟨by rw [if_neg h]; exact ⟨_, _, N, he⟩, hb⟩
theorem zpi_ {d : List UInt8} (h : d.all x7_ = true) : d.dropLast.all x7_ = true := by
 rw [List.all_eq_true] at h ⊢
 exact fun x hx => h x (List.dropLast_subset _ hx)
theorem zpj_ {d : List UInt8} (h0 : d ≠ []) (h : d.all x7_ = true) (h1 : head d ≠ 48) (h2 : zar_ d [48] = true) : d.dropLast ≠ [] := by
 intro hd
 unfold zar_ at h2
 rw [List.isSuffixOf_iff_suffix] at h2
 obtain ⟨l, rfl⟩ := h2
 rw [List.dropLast_concat] at hd
 subst hd
 exact h1 rfl
theorem idx0 (w : World) (l : List UInt8) (h : l ≠ []) : (Instr.index 9 (.string (bs l)) (.int .i64 0)).run Tryz.prog w = .ok (.int .u8 ((head l).toNat : Nat)) w := by
 have hl := List.length_pos_iff.2 h
 simp [Instr.index, asIntOf, hl]
 cases l with
 | nil => exact absurd rfl h
 | cons a r => rfl
theorem zpl_ (s : List UInt8) (hl : s.length ≤ 1000000) (w : World) (hG : GOk w) (hU : zcs_ w) :
  Calls Tryz.prog 12 #[.string (bs s)] w (RdO s w) := by
 by_cases hs : s = []
 · subst hs
   go_enter Tryz.func12, Tryz.ntmps12
   go_wp2_with fail
   exact bodyPost_ret (v := .tuple #[.int .i64 0, .int .i64 0]) (by simp [results, Tryz.results12, go_sem]) rfl (zaA_ rfl bl_)
 · have hs1 : s.isEmpty = false := by cases s <;> simp_all
   have HRV : Hid (z5_ s = zbo_ (k1_ s) (s.drop (k1_ s).length)) := Lib.hid (by unfold z5_; rw [if_neg hs])
   have HNC := Lib.hid (zpf_ s)
   have htl := zpe_ s
   have HG := Lib.hid hG
   have HU := Lib.hid hU
   clear hG hU
   go_enter Tryz.func12, Tryz.ntmps12
   go_wp2_with fail
   refine (zpg_ s om_ _).mono ?_
   rintro e w1 ⟨rfl, hb1⟩
   have HG1 := Lib.hid (zcq_ HG.out hb1)
   have HL1 : Hid (GL [] w w1) := Lib.hid (y6_ hb1 (y1_ _ _))
   clear hb1
   go_upto_region 5 with fail
   have hnm : List.take (s.length - (k1_ s).length) (List.drop (k1_ s).length s) = List.drop (k1_ s).length s := List.take_of_length_le (by rw [List.length_drop]; omega)
   simp only [hnm]
   have hnl : (s.drop (k1_ s).length).length = s.length - (k1_ s).length := List.length_drop
   generalize hnmd : s.drop (k1_ s).length = nm at *
   generalize k1_ s = d at *
   clear hnm hnmd hnl
   have hdl : d.length ≤ 1000000 := by omega
   by_cases hd : d = []
   · subst hd
     have HV : Hid (z5_ s = (0, 70)) := Lib.hid (by rw [HRV.out]; unfold zbo_; rw [if_pos (.inl rfl)])
     go_wp2_with fail
     exact bodyPost_ret (v := .tuple #[.int .i64 0, .int .i64 70]) (by simp [results, Tryz.results12, go_sem]) rfl (zaA_ HV.out (y0_ HL1.out))
   · have hd1 : d.isEmpty = false := by cases d <;> simp_all
     have HD := Lib.hid hd
     by_cases hdg : d.all x7_ = true
     · have HDG := Lib.hid hdg
       have ht : (Lib.trimS d [48, 49, 50, 51, 52, 53, 54, 55, 56, 57]) = [] := by rw [zjO_]; exact hdg
       have HTR := Lib.hid ht
       have hix : ∀ w, (Instr.index 9 (.string (bs d)) (.int .i64 0)).run Tryz.prog w = .ok (.int .u8 ((head d).toNat : Nat)) w := fun w => idx0 w d hd
       by_cases h48 : head d = 48
       · have HV : Hid (z5_ s = (0, 70)) := Lib.hid (by rw [HRV.out]; unfold zbo_; rw [if_pos (.inr (.inr (.inl h48)))])
         have hh : (head d).toNat = 48 := by rw [h48]; rfl
         have hix2 : ∀ w, (Instr.index 9 (.string (bs d)) (.int .i64 0)).run Tryz.prog w = .ok (.int .u8 48) w := fun w => by rw [hix, hh]; rfl
         clear hd hdg h48 ht hh hix
         go_wp2_with (go_at_call 30; refine (zcj_ d om_ _).mono ?_; rintro e w2 ⟨rfl, hb2⟩; rw [HTR.out])
         exact bodyPost_ret (v := .tuple #[.int .i64 0, .int .i64 70]) (by simp [results, Tryz.results12, go_sem]) rfl (zaA_ HV.out (y0_ (y6_ hb2 HL1.out)))
       · have H48 := Lib.hid h48
         have hx48 : (head d).toNat ≠ 48 := fun h => h48 (UInt8.toNat_inj.1 (by rw [h]; rfl))
         generalize hxg : (head d).toNat = x at *
         have hx1 : (((x : Nat) : Int) == 48) = false := by simp; omega
         clear hd hdg h48 ht hxg hx48
         by_cases hn1 : 1 < nm.length
         · have HV : Hid (z5_ s = (0, 70)) := Lib.hid (by rw [HRV.out, zd6_ (.inr (.inr (.inr (.inl hn1))))])
           have hn2 : (1 : Int) < nm.length := by omega
           clear hn1
           go_wp2_with (go_at_call 30; refine (zcj_ d om_ _).mono ?_; rintro e w2 ⟨rfl, hb2⟩; rw [HTR.out])
           exact bodyPost_ret (v := .tuple #[.int .i64 0, .int .i64 70]) (by simp [results, Tryz.results12, go_sem]) rfl (zaA_ HV.out (y0_ (y6_ hb2 HL1.out)))
         · rcases HNC.out om_ with rfl | rfl | rfl | rfl | rfl
           · clear hn1
             go_upto_region 7 with (go_at_call 30; refine (zcj_ d om_ _).mono ?_; rintro e w2 ⟨rfl, hb2⟩; rw [HTR.out])
             have HL2 : Hid (GL [] w w2) := Lib.hid (y6_ hb2 HL1.out)
             have HU1 : Hid (zcs_ w2) := Lib.hid (zdK_ HU.out HL2.out si_)
             have u0 := HU1.out 0 om_
             have u1 := HU1.out 1 om_
             have u2 := HU1.out 2 om_
             have u3 := HU1.out 3 om_
             have u4 := HU1.out 4 om_
             have u5 := HU1.out 5 om_
             have u6 := HU1.out 6 om_
             have u7 := HU1.out 7 om_
             simp only [unitC, List.getElem?_toArray] at u0 u1 u2 u3 u4 u5 u6 u7
             have HV : Hid (z5_ s = zbi_ d []) := Lib.hid (by rw [HRV.out, zeM_ HD.out HDG.out H48.out si_ (.inl rfl) (.inl de_)]; rfl)
             have HCA : Hid ((d).all x7_ = true) := Lib.hid (HDG.out)
             have HCN : Hid (d ≠ []) := Lib.hid (HD.out)
             have HCL : Hid ((d).length ≤ 1000000) := Lib.hid (by first | exact hdl | (rw [List.length_dropLast]; omega))
             go_wp2_with fail
             go_loopw [6, 10, 57] (fun ov _ iv wr => ∃ i : Nat, i ≤ 4 ∧ iv = .int .i64 i ∧ ov = .int .i64 (ofI [] i : Nat) ∧ Hid (GL [] w wr)) (fun _ _ iv _ => 4 - (intOf iv).toNat)
             case atStart => exact ⟨0, by omega, rfl, rfl, HL2⟩
             case round =>
              obtain ⟨i, hi, rfl, rfl, hgr⟩ := hrel
              rcases (by omega : i = 0 ∨ i = 1 ∨ i = 2 ∨ i = 3 ∨ i = 4) with rfl | rfl | rfl | rfl | rfl
              · have hix : (Instr.index 54 (.agg #[.string (bs []), .int .i64 100000000000, .string (bs [109]), .int .i64 100000000, .string (bs [117]), .int .i64 100000, .string (bs [110]), .int .i64 100]) (.int .i64 0)).run Tryz.prog wr = .ok (.agg #[.string (bs []), .int .i64 100000000000]) wr := zaC_ wr 0 _ _ om_ rfl rfl
                have ho : ((ofI [] 0 : Nat) : Int) = 1 := rfl
                have HG2 : Hid (GL [] w (wr.alloc (.cells #[.string (bs []), .int .i64 100000000000] 53))) := Lib.hid (y2_ hgr.out _)
                clear u0 u1 u2 u3 u4 u5 u6 u7
                rw [ho]
                clear ho
                go_wp2_with fail
                exact ⟨⟨1, by omega, by first | rfl | (simp; done), by first | rfl | (simp; done), HG2⟩, by first | (simp [intOf]; done) | (simp [intOf]; omega)⟩
              · have hix : (Instr.index 54 (.agg #[.string (bs []), .int .i64 100000000000, .string (bs [109]), .int .i64 100000000, .string (bs [117]), .int .i64 100000, .string (bs [110]), .int .i64 100]) (.int .i64 1)).run Tryz.prog wr = .ok (.agg #[.string (bs [109]), .int .i64 100000000]) wr := zaC_ wr 1 _ _ om_ rfl rfl
                have ho : ((ofI [] 1 : Nat) : Int) = 100000000000 := rfl
                have HG2 : Hid (GL [] w (wr.alloc (.cells #[.string (bs [109]), .int .i64 100000000] 53))) := Lib.hid (y2_ hgr.out _)
                clear u0 u1 u2 u3 u4 u5 u6 u7
                rw [ho]
                clear ho
                go_wp2_with fail
                exact ⟨⟨2, by omega, by first | rfl | (simp; done), by first | rfl | (simp; done), HG2⟩, by first | (simp [intOf]; done) | (simp [intOf]; omega)⟩
              · have hix : (Instr.index 54 (.agg #[.string (bs []), .int .i64 100000000000, .string (bs [109]), .int .i64 100000000, .string (bs [117]), .int .i64 100000, .string (bs [110]), .int .i64 100]) (.int .i64 2)).run Tryz.prog wr = .ok (.agg #[.string (bs [117]), .int .i64 100000]) wr := zaC_ wr 2 _ _ om_ rfl rfl
                have ho : ((ofI [] 2 : Nat) : Int) = 100000000000 := rfl
                have HG2 : Hid (GL [] w (wr.alloc (.cells #[.string (bs [117]), .int .i64 100000] 53))) := Lib.hid (y2_ hgr.out _)
                clear u0 u1 u2 u3 u4 u5 u6 u7
                rw [ho]
                clear ho
                go_wp2_with fail
                exact ⟨⟨3, by omega, by first | rfl | (simp; done), by first | rfl | (simp; done), HG2⟩, by first | (simp [intOf]; done) | (simp [intOf]; omega)⟩
              · have hix : (Instr.index 54 (.agg #[.string (bs []), .int .i64 100000000000, .string (bs [109]), .int .i64 100000000, .string (bs [117]), .int .i64 100000, .string (bs [110]), .int .i64 100]) (.int .i64 3)).run Tryz.prog wr = .ok (.agg #[.string (bs [110]), .int .i64 100]) wr := zaC_ wr 3 _ _ om_ rfl rfl
                have ho : ((ofI [] 3 : Nat) : Int) = 100000000000 := rfl
                have HG2 : Hid (GL [] w (wr.alloc (.cells #[.string (bs [110]), .int .i64 100] 53))) := Lib.hid (y2_ hgr.out _)
                clear u0 u1 u2 u3 u4 u5 u6 u7
                rw [ho]
                clear ho
                go_wp2_with fail
                exact ⟨⟨4, by omega, by first | rfl | (simp; done), by first | rfl | (simp; done), HG2⟩, by first | (simp [intOf]; done) | (simp [intOf]; omega)⟩
              · have ho : ((ofI [] 4 : Nat) : Int) = 100000000000 := rfl
                have hou : zav_ [] = 100000000000 := rfl
                have HR : Hid (zbi_ d [] = if 21000000 < x2_ d then (0, 40) else (((x2_ d * 100000000000 : Nat) : Int), 0)) := Lib.hid (by unfold zbi_; rw [hou]; rfl)
                rw [ho]
                clear ho hou u0 u1 u2 u3 u4 u5 u6 u7
                go_wp2_with fail
                refine (zeN_ d HCA.out HCN.out HCL.out _ (za8_ HG.out hgr.out si_)).mono ?_
                rintro e w3 ⟨he, hb3⟩
                have HL3 : Hid (Below w.heap.size w w3) := Lib.hid (y0_ (y6_ hb3 hgr.out))
                clear hb3
                generalize x2_ d = n at *
                by_cases hn : n ≤ 9223372036854775807
                · rw [if_pos hn] at he
                  subst he
                  by_cases hm : 21000000 < n
                  · have HE : Hid (z5_ s = (0, 40)) := Lib.hid (by rw [HV.out, HR.out, if_pos hm])
                    have hm1 : (21000000 : Int) < n := by omega
                    clear hm hn
                    go_wp2_with fail
                    exact bodyPost_ret (v := .tuple #[.int .i64 0, .int .i64 40]) (by simp [results, Tryz.results12, go_sem]) rfl (zaA_ HE.out HL3.out)
                  · have HE : Hid (z5_ s = ((n : Int) * 100000000000, 0)) := Lib.hid (by rw [HV.out, HR.out, if_neg hm, Int.natCast_mul]; rfl)
                    have hm1 : (n : Int) ≤ 21000000 := by omega
                    clear hm hn
                    go_wp2_with fail
                    exact bodyPost_ret (v := .tuple #[.int .i64 ((n : Int) * 100000000000), .int .i64 0]) (by simp [results, Tryz.results12, go_sem]) rfl (zaA_ HE.out HL3.out)
                · rw [if_neg hn] at he
                  obtain ⟨v, T, N, rfl⟩ := he
                  have HE : Hid (z5_ s = (0, 40)) := Lib.hid (by rw [HV.out, HR.out, if_pos om_])
                  clear hn
                  go_wp2_with fail
                  exact bodyPost_ret (v := .tuple #[.int .i64 0, .int .i64 40]) (by simp [results, Tryz.results12, go_sem]) rfl (zaA_ HE.out HL3.out)
           · clear hn1
             cases h3 : zar_ d [48, 48, 48] with
             | true =>
               have HV : Hid (z5_ s = (0, 70)) := Lib.hid (by rw [HRV.out, zd6_ (.inr (.inr (.inr (.inr ⟨by simp, h3⟩))))])
               have H3 := Lib.hid h3
               clear h3
               go_wp2_with (first | (go_at_call 30; refine (zcj_ d om_ _).mono ?_; rintro e w2 ⟨rfl, hb2⟩; rw [HTR.out]) | (go_at_call 31; refine (tSuf d _ om_ _).mono ?_; rintro e w3 ⟨rfl, rfl⟩; rw [H3.out]))
               exact bodyPost_ret (v := .tuple #[.int .i64 0, .int .i64 70]) (by simp [results, Tryz.results12, go_sem]) rfl (zaA_ HV.out (y0_ (y6_ hb2 HL1.out)))
             | false =>
               have H3 := Lib.hid h3
               clear h3
               go_upto_region 7 with (first | (go_at_call 30; refine (zcj_ d om_ _).mono ?_; rintro e w2 ⟨rfl, hb2⟩; rw [HTR.out]) | (go_at_call 31; refine (tSuf d _ om_ _).mono ?_; rintro e w3 ⟨rfl, rfl⟩; rw [H3.out]))
               have HL2 : Hid (GL [] w w3) := Lib.hid (y6_ hb2 HL1.out)
               have HU1 : Hid (zcs_ w3) := Lib.hid (zdK_ HU.out HL2.out si_)
               have u0 := HU1.out 0 om_
               have u1 := HU1.out 1 om_
               have u2 := HU1.out 2 om_
               have u3 := HU1.out 3 om_
               have u4 := HU1.out 4 om_
               have u5 := HU1.out 5 om_
               have u6 := HU1.out 6 om_
               have u7 := HU1.out 7 om_
               simp only [unitC, List.getElem?_toArray] at u0 u1 u2 u3 u4 u5 u6 u7
               have HV : Hid (z5_ s = zbi_ d [109]) := Lib.hid (by rw [HRV.out, zeM_ HD.out HDG.out H48.out si_ (.inr H3.out) (.inl de_)]; rfl)
               have HCA : Hid ((d).all x7_ = true) := Lib.hid (HDG.out)
               have HCN : Hid (d ≠ []) := Lib.hid (HD.out)
               have HCL : Hid ((d).length ≤ 1000000) := Lib.hid (by first | exact hdl | (rw [List.length_dropLast]; omega))
               go_wp2_with fail
               go_loopw [6, 10, 57] (fun ov _ iv wr => ∃ i : Nat, i ≤ 4 ∧ iv = .int .i64 i ∧ ov = .int .i64 (ofI [109] i : Nat) ∧ Hid (GL [] w wr)) (fun _ _ iv _ => 4 - (intOf iv).toNat)
               case atStart => exact ⟨0, by omega, rfl, rfl, HL2⟩
               case round =>
                obtain ⟨i, hi, rfl, rfl, hgr⟩ := hrel
                rcases (by omega : i = 0 ∨ i = 1 ∨ i = 2 ∨ i = 3 ∨ i = 4) with rfl | rfl | rfl | rfl | rfl
                · have hix : (Instr.index 54 (.agg #[.string (bs []), .int .i64 100000000000, .string (bs [109]), .int .i64 100000000, .string (bs [117]), .int .i64 100000, .string (bs [110]), .int .i64 100]) (.int .i64 0)).run Tryz.prog wr = .ok (.agg #[.string (bs []), .int .i64 100000000000]) wr := zaC_ wr 0 _ _ om_ rfl rfl
                  have ho : ((ofI [109] 0 : Nat) : Int) = 1 := rfl
                  have HG2 : Hid (GL [] w (wr.alloc (.cells #[.string (bs []), .int .i64 100000000000] 53))) := Lib.hid (y2_ hgr.out _)
                  clear u0 u1 u2 u3 u4 u5 u6 u7
                  rw [ho]
                  clear ho
                  go_wp2_with fail
                  exact ⟨⟨1, by omega, by first | rfl | (simp; done), by first | rfl | (simp; done), HG2⟩, by first | (simp [intOf]; done) | (simp [intOf]; omega)⟩
                · have hix : (Instr.index 54 (.agg #[.string (bs []), .int .i64 100000000000, .string (bs [109]), .int .i64 100000000, .string (bs [117]), .int .i64 100000, .string (bs [110]), .int .i64 100]) (.int .i64 1)).run Tryz.prog wr = .ok (.agg #[.string (bs [109]), .int .i64 100000000]) wr := zaC_ wr 1 _ _ om_ rfl rfl
                  have ho : ((ofI [109] 1 : Nat) : Int) = 1 := rfl
                  have HG2 : Hid (GL [] w (wr.alloc (.cells #[.string (bs [109]), .int .i64 100000000] 53))) := Lib.hid (y2_ hgr.out _)
                  clear u0 u1 u2 u3 u4 u5 u6 u7
                  rw [ho]
                  clear ho
                  go_wp2_with fail
                  exact ⟨⟨2, by omega, by first | rfl | (simp; done), by first | rfl | (simp; done), HG2⟩, by first | (simp [intOf]; done) | (simp [intOf]; omega)⟩
                · have hix : (Instr.index 54 (.agg #[.string (bs []), .int .i64 100000000000, .string (bs [109]), .int .i64 100000000, .string (bs [117]), .int .i64 100000, .string (bs [110]), .int .i64 100]) (.int .i64 2)).run Tryz.prog wr = .ok (.agg #[.string (bs [117]), .int .i64 100000]) wr := zaC_ wr 2 _ _ om_ rfl rfl
                  have ho : ((ofI [109] 2 : Nat) : Int) = 100000000 := rfl
                  have HG2 : Hid (GL [] w (wr.alloc (.cells #[.string (bs [117]), .int .i64 100000] 53))) := Lib.hid (y2_ hgr.out _)
                  clear u0 u1 u2 u3 u4 u5 u6 u7
                  rw [ho]
                  clear ho
                  go_wp2_with fail
                  exact ⟨⟨3, by omega, by first | rfl | (simp; done), by first | rfl | (simp; done), HG2⟩, by first | (simp [intOf]; done) | (simp [intOf]; omega)⟩
                · have hix : (Instr.index 54 (.agg #[.string (bs []), .int .i64 100000000000, .string (bs [109]), .int .i64 100000000, .string (bs [117]), .int .i64 100000, .string (bs [110]), .int .i64 100]) (.int .i64 3)).run Tryz.prog wr = .ok (.agg #[.string (bs [110]), .int .i64 100]) wr := zaC_ wr 3 _ _ om_ rfl rfl
                  have ho : ((ofI [109] 3 : Nat) : Int) = 100000000 := rfl
                  have HG2 : Hid (GL [] w (wr.alloc (.cells #[.string (bs [110]), .int .i64 100] 53))) := Lib.hid (y2_ hgr.out _)
                  clear u0 u1 u2 u3 u4 u5 u6 u7
                  rw [ho]
                  clear ho
                  go_wp2_with fail
                  exact ⟨⟨4, by omega, by first | rfl | (simp; done), by first | rfl | (simp; done), HG2⟩, by first | (simp [intOf]; done) | (simp [intOf]; omega)⟩
                · have ho : ((ofI [109] 4 : Nat) : Int) = 100000000 := rfl
                  have hou : zav_ [109] = 100000000 := rfl
                  have HR : Hid (zbi_ d [109] = if 21000000000 < x2_ d then (0, 40) else (((x2_ d * 100000000 : Nat) : Int), 0)) := Lib.hid (by unfold zbi_; rw [hou]; rfl)
                  rw [ho]
                  clear ho hou u0 u1 u2 u3 u4 u5 u6 u7
                  go_wp2_with fail
                  refine (zeN_ d HCA.out HCN.out HCL.out _ (za8_ HG.out hgr.out si_)).mono ?_
                  rintro e w3 ⟨he, hb3⟩
                  have HL3 : Hid (Below w.heap.size w w3) := Lib.hid (y0_ (y6_ hb3 hgr.out))
                  clear hb3
                  generalize x2_ d = n at *
                  by_cases hn : n ≤ 9223372036854775807
                  · rw [if_pos hn] at he
                    subst he
                    by_cases hm : 21000000000 < n
                    · have HE : Hid (z5_ s = (0, 40)) := Lib.hid (by rw [HV.out, HR.out, if_pos hm])
                      have hm1 : (21000000000 : Int) < n := by omega
                      clear hm hn
                      go_wp2_with fail
                      exact bodyPost_ret (v := .tuple #[.int .i64 0, .int .i64 40]) (by simp [results, Tryz.results12, go_sem]) rfl (zaA_ HE.out HL3.out)
                    · have HE : Hid (z5_ s = ((n : Int) * 100000000, 0)) := Lib.hid (by rw [HV.out, HR.out, if_neg hm, Int.natCast_mul]; rfl)
                      have hm1 : (n : Int) ≤ 21000000000 := by omega
                      clear hm hn
                      go_wp2_with fail
                      exact bodyPost_ret (v := .tuple #[.int .i64 ((n : Int) * 100000000), .int .i64 0]) (by simp [results, Tryz.results12, go_sem]) rfl (zaA_ HE.out HL3.out)
                  · rw [if_neg hn] at he
                    obtain ⟨v, T, N, rfl⟩ := he
                    have HE : Hid (z5_ s = (0, 40)) := Lib.hid (by rw [HV.out, HR.out, if_pos om_])
                    clear hn
                    go_wp2_with fail
                    exact bodyPost_ret (v := .tuple #[.int .i64 0, .int .i64 40]) (by simp [results, Tryz.results12, go_sem]) rfl (zaA_ HE.out HL3.out)
           · clear hn1
             cases h3 : zar_ d [48, 48, 48] with
             | true =>
               have HV : Hid (z5_ s = (0, 70)) := Lib.hid (by rw [HRV.out, zd6_ (.inr (.inr (.inr (.inr ⟨by simp, h3⟩))))])
               have H3 := Lib.hid h3
               clear h3
               go_wp2_with (first | (go_at_call 30; refine (zcj_ d om_ _).mono ?_; rintro e w2 ⟨rfl, hb2⟩; rw [HTR.out]) | (go_at_call 31; refine (tSuf d _ om_ _).mono ?_; rintro e w3 ⟨rfl, rfl⟩; rw [H3.out]))
               exact bodyPost_ret (v := .tuple #[.int .i64 0, .int .i64 70]) (by simp [results, Tryz.results12, go_sem]) rfl (zaA_ HV.out (y0_ (y6_ hb2 HL1.out)))
             | false =>
               have H3 := Lib.hid h3
               clear h3
               go_upto_region 7 with (first | (go_at_call 30; refine (zcj_ d om_ _).mono ?_; rintro e w2 ⟨rfl, hb2⟩; rw [HTR.out]) | (go_at_call 31; refine (tSuf d _ om_ _).mono ?_; rintro e w3 ⟨rfl, rfl⟩; rw [H3.out]))
               have HL2 : Hid (GL [] w w3) := Lib.hid (y6_ hb2 HL1.out)
               have HU1 : Hid (zcs_ w3) := Lib.hid (zdK_ HU.out HL2.out si_)
               have u0 := HU1.out 0 om_
               have u1 := HU1.out 1 om_
               have u2 := HU1.out 2 om_
               have u3 := HU1.out 3 om_
               have u4 := HU1.out 4 om_
               have u5 := HU1.out 5 om_
               have u6 := HU1.out 6 om_
               have u7 := HU1.out 7 om_
               simp only [unitC, List.getElem?_toArray] at u0 u1 u2 u3 u4 u5 u6 u7
               have HV : Hid (z5_ s = zbi_ d [117]) := Lib.hid (by rw [HRV.out, zeM_ HD.out HDG.out H48.out si_ (.inr H3.out) (.inl de_)]; rfl)
               have HCA : Hid ((d).all x7_ = true) := Lib.hid (HDG.out)
               have HCN : Hid (d ≠ []) := Lib.hid (HD.out)
               have HCL : Hid ((d).length ≤ 1000000) := Lib.hid (by first | exact hdl | (rw [List.length_dropLast]; omega))
               go_wp2_with fail
               go_loopw [6, 10, 57] (fun ov _ iv wr => ∃ i : Nat, i ≤ 4 ∧ iv = .int .i64 i ∧ ov = .int .i64 (ofI [117] i : Nat) ∧ Hid (GL [] w wr)) (fun _ _ iv _ => 4 - (intOf iv).toNat)
               case atStart => exact ⟨0, by omega, rfl, rfl, HL2⟩
               case round =>
                obtain ⟨i, hi, rfl, rfl, hgr⟩ := hrel
                rcases (by omega : i = 0 ∨ i = 1 ∨ i = 2 ∨ i = 3 ∨ i = 4) with rfl | rfl | rfl | rfl | rfl
                · have hix : (Instr.index 54 (.agg #[.string (bs []), .int .i64 100000000000, .string (bs [109]), .int .i64 100000000, .string (bs [117]), .int .i64 100000, .string (bs [110]), .int .i64 100]) (.int .i64 0)).run Tryz.prog wr = .ok (.agg #[.string (bs []), .int .i64 100000000000]) wr := zaC_ wr 0 _ _ om_ rfl rfl
                  have ho : ((ofI [117] 0 : Nat) : Int) = 1 := rfl
                  have HG2 : Hid (GL [] w (wr.alloc (.cells #[.string (bs []), .int .i64 100000000000] 53))) := Lib.hid (y2_ hgr.out _)
                  clear u0 u1 u2 u3 u4 u5 u6 u7
                  rw [ho]
                  clear ho
                  go_wp2_with fail
                  exact ⟨⟨1, by omega, by first | rfl | (simp; done), by first | rfl | (simp; done), HG2⟩, by first | (simp [intOf]; done) | (simp [intOf]; omega)⟩
                · have hix : (Instr.index 54 (.agg #[.string (bs []), .int .i64 100000000000, .string (bs [109]), .int .i64 100000000, .string (bs [117]), .int .i64 100000, .string (bs [110]), .int .i64 100]) (.int .i64 1)).run Tryz.prog wr = .ok (.agg #[.string (bs [109]), .int .i64 100000000]) wr := zaC_ wr 1 _ _ om_ rfl rfl
                  have ho : ((ofI [117] 1 : Nat) : Int) = 1 := rfl
                  have HG2 : Hid (GL [] w (wr.alloc (.cells #[.string (bs [109]), .int .i64 100000000] 53))) := Lib.hid (y2_ hgr.out _)
                  clear u0 u1 u2 u3 u4 u5 u6 u7
                  rw [ho]
                  clear ho
                  go_wp2_with fail
                  exact ⟨⟨2, by omega, by first | rfl | (simp; done), by first | rfl | (simp; done), HG2⟩, by first | (simp [intOf]; done) | (simp [intOf]; omega)⟩
                · have hix : (Instr.index 54 (.agg #[.string (bs []), .int .i64 100000000000, .string (bs [109]), .int .i64 100000000, .string (bs [117]), .int .i64 100000, .string (bs [110]), .int .i64 100]) (.int .i64 2)).run Tryz.prog wr = .ok (.agg #[.string (bs [117]), .int .i64 100000]) wr := zaC_ wr 2 _ _ om_ rfl rfl
                  have ho : ((ofI [117] 2 : Nat) : Int) = 1 := rfl
                  have HG2 : Hid (GL [] w (wr.alloc (.cells #[.string (bs [117]), .int .i64 100000] 53))) := Lib.hid (y2_ hgr.out _)
                  clear u0 u1 u2 u3 u4 u5 u6 u7
                  rw [ho]
                  clear ho
                  go_wp2_with fail
                  exact ⟨⟨3, by omega, by first | rfl | (simp; done), by first | rfl | (simp; done), HG2⟩, by first | (simp [intOf]; done) | (simp [intOf]; omega)⟩
                · have hix : (Instr.index 54 (.agg #[.string (bs []), .int .i64 100000000000, .string (bs [109]), .int .i64 100000000, .string (bs [117]), .int .i64 100000, .string (bs [110]), .int .i64 100]) (.int .i64 3)).run Tryz.prog wr = .ok (.agg #[.string (bs [110]), .int .i64 100]) wr := zaC_ wr 3 _ _ om_ rfl rfl
                  have ho : ((ofI [117] 3 : Nat) : Int) = 100000 := rfl
                  have HG2 : Hid (GL [] w (wr.alloc (.cells #[.string (bs [110]), .int .i64 100] 53))) := Lib.hid (y2_ hgr.out _)
                  clear u0 u1 u2 u3 u4 u5 u6 u7
                  rw [ho]
                  clear ho
                  go_wp2_with fail
                  exact ⟨⟨4, by omega, by first | rfl | (simp; done), by first | rfl | (simp; done), HG2⟩, by first | (simp [intOf]; done) | (simp [intOf]; omega)⟩
                · have ho : ((ofI [117] 4 : Nat) : Int) = 100000 := rfl
                  have hou : zav_ [117] = 100000 := rfl
                  have HR : Hid (zbi_ d [117] = if 21000000000000 < x2_ d then (0, 40) else (((x2_ d * 100000 : Nat) : Int), 0)) := Lib.hid (by unfold zbi_; rw [hou]; rfl)
                  rw [ho]
                  clear ho hou u0 u1 u2 u3 u4 u5 u6 u7
                  go_wp2_with fail
                  refine (zeN_ d HCA.out HCN.out HCL.out _ (za8_ HG.out hgr.out si_)).mono ?_
                  rintro e w3 ⟨he, hb3⟩
                  have HL3 : Hid (Below w.heap.size w w3) := Lib.hid (y0_ (y6_ hb3 hgr.out))
                  clear hb3
                  generalize x2_ d = n at *
                  by_cases hn : n ≤ 9223372036854775807
                  · rw [if_pos hn] at he
                    subst he
                    by_cases hm : 21000000000000 < n
                    · have HE : Hid (z5_ s = (0, 40)) := Lib.hid (by rw [HV.out, HR.out, if_pos hm])
                      have hm1 : (21000000000000 : Int) < n := by omega
                      clear hm hn
                      go_wp2_with fail
                      exact bodyPost_ret (v := .tuple #[.int .i64 0, .int .i64 40]) (by simp [results, Tryz.results12, go_sem]) rfl (zaA_ HE.out HL3.out)
                    · have HE : Hid (z5_ s = ((n : Int) * 100000, 0)) := Lib.hid (by rw [HV.out, HR.out, if_neg hm, Int.natCast_mul]; rfl)
                      have hm1 : (n : Int) ≤ 21000000000000 := by omega
                      clear hm hn
                      go_wp2_with fail
                      exact bodyPost_ret (v := .tuple #[.int .i64 ((n : Int) * 100000), .int .i64 0]) (by simp [results, Tryz.results12, go_sem]) rfl (zaA_ HE.out HL3.out)
                  · rw [if_neg hn] at he
                    obtain ⟨v, T, N, rfl⟩ := he
                    have HE : Hid (z5_ s = (0, 40)) := Lib.hid (by rw [HV.out, HR.out, if_pos om_])
                    clear hn
                    go_wp2_with fail
                    exact bodyPost_ret (v := .tuple #[.int .i64 0, .int .i64 40]) (by simp [results, Tryz.results12, go_sem]) rfl (zaA_ HE.out HL3.out)
           · clear hn1
             cases h3 : zar_ d [48, 48, 48] with
             | true =>
               have HV : Hid (z5_ s = (0, 70)) := Lib.hid (by rw [HRV.out, zd6_ (.inr (.inr (.inr (.inr ⟨by simp, h3⟩))))])
               have H3 := Lib.hid h3
               clear h3
               go_wp2_with (first | (go_at_call 30; refine (zcj_ d om_ _).mono ?_; rintro e w2 ⟨rfl, hb2⟩; rw [HTR.out]) | (go_at_call 31; refine (tSuf d _ om_ _).mono ?_; rintro e w3 ⟨rfl, rfl⟩; rw [H3.out]))
               exact bodyPost_ret (v := .tuple #[.int .i64 0, .int .i64 70]) (by simp [results, Tryz.results12, go_sem]) rfl (zaA_ HV.out (y0_ (y6_ hb2 HL1.out)))
             | false =>
               have H3 := Lib.hid h3
               clear h3
               go_upto_region 7 with (first | (go_at_call 30; refine (zcj_ d om_ _).mono ?_; rintro e w2 ⟨rfl, hb2⟩; rw [HTR.out]) | (go_at_call 31; refine (tSuf d _ om_ _).mono ?_; rintro e w3 ⟨rfl, rfl⟩; rw [H3.out]))
               have HL2 : Hid (GL [] w w3) := Lib.hid (y6_ hb2 HL1.out)
               have HU1 : Hid (zcs_ w3) := Lib.hid (zdK_ HU.out HL2.out si_)
               have u0 := HU1.out 0 om_
               have u1 := HU1.out 1 om_
               have u2 := HU1.out 2 om_
               have u3 := HU1.out 3 om_
               have u4 := HU1.out 4 om_
               have u5 := HU1.out 5 om_
               have u6 := HU1.out 6 om_
               have u7 := HU1.out 7 om_
               simp only [unitC, List.getElem?_toArray] at u0 u1 u2 u3 u4 u5 u6 u7
               have HV : Hid (z5_ s = zbi_ d [110]) := Lib.hid (by rw [HRV.out, zeM_ HD.out HDG.out H48.out si_ (.inr H3.out) (.inl de_)]; rfl)
               have HCA : Hid ((d).all x7_ = true) := Lib.hid (HDG.out)
               have HCN : Hid (d ≠ []) := Lib.hid (HD.out)
               have HCL : Hid ((d).length ≤ 1000000) := Lib.hid (by first | exact hdl | (rw [List.length_dropLast]; omega))
               go_wp2_with fail
               go_loopw [6, 10, 57] (fun ov _ iv wr => ∃ i : Nat, i ≤ 4 ∧ iv = .int .i64 i ∧ ov = .int .i64 (ofI [110] i : Nat) ∧ Hid (GL [] w wr)) (fun _ _ iv _ => 4 - (intOf iv).toNat)
               case atStart => exact ⟨0, by omega, rfl, rfl, HL2⟩
               case round =>
                obtain ⟨i, hi, rfl, rfl, hgr⟩ := hrel
                rcases (by omega : i = 0 ∨ i = 1 ∨ i = 2 ∨ i = 3 ∨ i = 4) with rfl | rfl | rfl | rfl | rfl
                · have hix : (Instr.index 54 (.agg #[.string (bs []), .int .i64 100000000000, .string (bs [109]), .int .i64 100000000, .string (bs [117]), .int .i64 100000, .string (bs [110]), .int .i64 100]) (.int .i64 0)).run Tryz.prog wr = .ok (.agg #[.string (bs []), .int .i64 100000000000]) wr := zaC_ wr 0 _ _ om_ rfl rfl
                  have ho : ((ofI [110] 0 : Nat) : Int) = 1 := rfl
                  have HG2 : Hid (GL [] w (wr.alloc (.cells #[.string (bs []), .int .i64 100000000000] 53))) := Lib.hid (y2_ hgr.out _)
                  clear u0 u1 u2 u3 u4 u5 u6 u7
                  rw [ho]
                  clear ho
                  go_wp2_with fail
                  exact ⟨⟨1, by omega, by first | rfl | (simp; done), by first | rfl | (simp; done), HG2⟩, by first | (simp [intOf]; done) | (simp [intOf]; omega)⟩
                · have hix : (Instr.index 54 (.agg #[.string (bs []), .int .i64 100000000000, .string (bs [109]), .int .i64 100000000, .string (bs [117]), .int .i64 100000, .string (bs [110]), .int .i64 100]) (.int .i64 1)).run Tryz.prog wr = .ok (.agg #[.string (bs [109]), .int .i64 100000000]) wr := zaC_ wr 1 _ _ om_ rfl rfl
                  have ho : ((ofI [110] 1 : Nat) : Int) = 1 := rfl
                  have HG2 : Hid (GL [] w (wr.alloc (.cells #[.string (bs [109]), .int .i64 100000000] 53))) := Lib.hid (y2_ hgr.out _)
                  clear u0 u1 u2 u3 u4 u5 u6 u7
                  rw [ho]
                  clear ho
                  go_wp2_with fail
                  exact ⟨⟨2, by omega, by first | rfl | (simp; done), by first | rfl | (simp; done), HG2⟩, by first | (simp [intOf]; done) | (simp [intOf]; omega)⟩
                · have hix : (Instr.index 54 (.agg #[.string (bs []), .int .i64 100000000000, .string (bs [109]), .int .i64 100000000, .string (bs [117]), .int .i64 100000, .string (bs [110]), .int .i64 100]) (.int .i64 2)).run Tryz.prog wr = .ok (.agg #[.string (bs [117]), .int .i64 100000]) wr := zaC_ wr 2 _ _ om_ rfl rfl
                  have ho : ((ofI [110] 2 : Nat) : Int) = 1 := rfl
                  have HG2 : Hid (GL [] w (wr.alloc (.cells #[.string (bs [117]), .int .i64 100000] 53))) := Lib.hid (y2_ hgr.out _)
                  clear u0 u1 u2 u3 u4 u5 u6 u7
                  rw [ho]
                  clear ho
                  go_wp2_with fail
                  exact ⟨⟨3, by omega, by first | rfl | (simp; done), by first | rfl | (simp; done), HG2⟩, by first | (simp [intOf]; done) | (simp [intOf]; omega)⟩
                · have hix : (Instr.index 54 (.agg #[.string (bs []), .int .i64 100000000000, .string (bs [109]), .int .i64 100000000, .string (bs [117]), .int .i64 100000, .string (bs [110]), .int .i64 100]) (.int .i64 3)).run Tryz.prog wr = .ok (.agg #[.string (bs [110]), .int .i64 100]) wr := zaC_ wr 3 _ _ om_ rfl rfl
                  have ho : ((ofI [110] 3 : Nat) : Int) = 1 := rfl
                  have HG2 : Hid (GL [] w (wr.alloc (.cells #[.string (bs [110]), .int .i64 100] 53))) := Lib.hid (y2_ hgr.out _)
                  clear u0 u1 u2 u3 u4 u5 u6 u7
                  rw [ho]
                  clear ho
                  go_wp2_with fail
                  exact ⟨⟨4, by omega, by first | rfl | (simp; done), by first | rfl | (simp; done), HG2⟩, by first | (simp [intOf]; done) | (simp [intOf]; omega)⟩
                · have ho : ((ofI [110] 4 : Nat) : Int) = 100 := rfl
                  have hou : zav_ [110] = 100 := rfl
                  have HR : Hid (zbi_ d [110] = if 21000000000000000 < x2_ d then (0, 40) else (((x2_ d * 100 : Nat) : Int), 0)) := Lib.hid (by unfold zbi_; rw [hou]; rfl)
                  rw [ho]
                  clear ho hou u0 u1 u2 u3 u4 u5 u6 u7
                  go_wp2_with fail
                  refine (zeN_ d HCA.out HCN.out HCL.out _ (za8_ HG.out hgr.out si_)).mono ?_
                  rintro e w3 ⟨he, hb3⟩
                  have HL3 : Hid (Below w.heap.size w w3) := Lib.hid (y0_ (y6_ hb3 hgr.out))
                  clear hb3
                  generalize x2_ d = n at *
                  by_cases hn : n ≤ 9223372036854775807
                  · rw [if_pos hn] at he
                    subst he
                    by_cases hm : 21000000000000000 < n
                    · have HE : Hid (z5_ s = (0, 40)) := Lib.hid (by rw [HV.out, HR.out, if_pos hm])
                      have hm1 : (21000000000000000 : Int) < n := by omega
                      clear hm hn
                      go_wp2_with fail
                      exact bodyPost_ret (v := .tuple #[.int .i64 0, .int .i64 40]) (by simp [results, Tryz.results12, go_sem]) rfl (zaA_ HE.out HL3.out)
                    · have HE : Hid (z5_ s = ((n : Int) * 100, 0)) := Lib.hid (by rw [HV.out, HR.out, if_neg hm, Int.natCast_mul]; rfl)
                      have hm1 : (n : Int) ≤ 21000000000000000 := by omega
                      clear hm hn
                      go_wp2_with fail
                      exact bodyPost_ret (v := .tuple #[.int .i64 ((n : Int) * 100), .int .i64 0]) (by simp [results, Tryz.results12, go_sem]) rfl (zaA_ HE.out HL3.out)
                  · rw [if_neg hn] at he
                    obtain ⟨v, T, N, rfl⟩ := he
                    have HE : Hid (z5_ s = (0, 40)) := Lib.hid (by rw [HV.out, HR.out, if_pos om_])
                    clear hn
                    go_wp2_with fail
                    exact bodyPost_ret (v := .tuple #[.int .i64 0, .int .i64 40]) (by simp [results, Tryz.results12, go_sem]) rfl (zaA_ HE.out HL3.out)
           · clear hn1
             cases h3 : zar_ d [48, 48, 48] with
             | true =>
               have HV : Hid (z5_ s = (0, 70)) := Lib.hid (by rw [HRV.out, zd6_ (.inr (.inr (.inr (.inr ⟨by simp, h3⟩))))])
               have H3 := Lib.hid h3
               clear h3
               go_wp2_with (first | (go_at_call 30; refine (zcj_ d om_ _).mono ?_; rintro e w2 ⟨rfl, hb2⟩; rw [HTR.out]) | (go_at_call 31; refine (tSuf d _ om_ _).mono ?_; rintro e w3 ⟨rfl, rfl⟩; rw [H3.out]))
               exact bodyPost_ret (v := .tuple #[.int .i64 0, .int .i64 70]) (by simp [results, Tryz.results12, go_sem]) rfl (zaA_ HV.out (y0_ (y6_ hb2 HL1.out)))
             | false =>
               have H3 := Lib.hid h3
               clear h3
               go_upto_region 7 with (first | (go_at_call 30; refine (zcj_ d om_ _).mono ?_; rintro e w2 ⟨rfl, hb2⟩; rw [HTR.out]) | (go_at_call 31; refine (tSuf d _ om_ _).mono ?_; rintro e w3 ⟨rfl, rfl⟩; rw [H3.out]))
               have HL2 : Hid (GL [] w w3) := Lib.hid (y6_ hb2 HL1.out)
               have HU1 : Hid (zcs_ w3) := Lib.hid (zdK_ HU.out HL2.out si_)
               cases h1 : zar_ d [48] with
               | false =>
                 have HV : Hid (z5_ s = (0, 70)) := Lib.hid (by rw [HRV.out, zph_ ⟨rfl, h1⟩])
                 have H1 := Lib.hid h1
                 clear h1
                 go_wp2_with (go_at_call 32; refine (zjQ_ d _ om_ _).mono ?_; rintro e w3 ⟨rfl, rfl⟩; rw [H1.out])
                 exact bodyPost_ret (v := .tuple #[.int .i64 0, .int .i64 70]) (by simp [results, Tryz.results12, go_sem]) rfl (zaA_ HV.out (y0_ HL2.out))
               | true =>
                 have H1 := Lib.hid h1
                 have HCD : Hid ((if true = true then d.take (d.length - [(48 : UInt8)].length) else d) = d.dropLast) := Lib.hid (by rw [if_pos rfl]; exact zpd_ d h1)
                 clear h1
                 go_upto_region 13 with (go_at_call 32; refine (zjQ_ d _ om_ _).mono ?_; rintro e w3 ⟨rfl, rfl⟩; rw [H1.out, HCD.out])
                 have u0 := HU1.out 0 om_
                 have u1 := HU1.out 1 om_
                 have u2 := HU1.out 2 om_
                 have u3 := HU1.out 3 om_
                 have u4 := HU1.out 4 om_
                 have u5 := HU1.out 5 om_
                 have u6 := HU1.out 6 om_
                 have u7 := HU1.out 7 om_
                 simp only [unitC, List.getElem?_toArray] at u0 u1 u2 u3 u4 u5 u6 u7
                 have HV : Hid (z5_ s = zbi_ d.dropLast [112]) := Lib.hid (by rw [HRV.out, zeM_ HD.out HDG.out H48.out si_ (.inr H3.out) (.inr H1.out)]; rfl)
                 have HCA : Hid ((d.dropLast).all x7_ = true) := Lib.hid (zpi_ HDG.out)
                 have HCN : Hid (d.dropLast ≠ []) := Lib.hid (zpj_ HD.out HDG.out H48.out H1.out)
                 have HCL : Hid ((d.dropLast).length ≤ 1000000) := Lib.hid (by first | exact hdl | (rw [List.length_dropLast]; omega))
                 generalize d.dropLast = cr at *
                 go_wp2_with fail
                 go_loopw [6, 10, 57] (fun ov _ iv wr => ∃ i : Nat, i ≤ 4 ∧ iv = .int .i64 i ∧ ov = .int .i64 (ofI [112] i : Nat) ∧ Hid (GL [] w wr)) (fun _ _ iv _ => 4 - (intOf iv).toNat)
                 case atStart => exact ⟨0, by omega, rfl, rfl, HL2⟩
                 case round =>
                  obtain ⟨i, hi, rfl, rfl, hgr⟩ := hrel
                  rcases (by omega : i = 0 ∨ i = 1 ∨ i = 2 ∨ i = 3 ∨ i = 4) with rfl | rfl | rfl | rfl | rfl
                  · have hix : (Instr.index 54 (.agg #[.string (bs []), .int .i64 100000000000, .string (bs [109]), .int .i64 100000000, .string (bs [117]), .int .i64 100000, .string (bs [110]), .int .i64 100]) (.int .i64 0)).run Tryz.prog wr = .ok (.agg #[.string (bs []), .int .i64 100000000000]) wr := zaC_ wr 0 _ _ om_ rfl rfl
                    have ho : ((ofI [112] 0 : Nat) : Int) = 1 := rfl
                    have HG2 : Hid (GL [] w (wr.alloc (.cells #[.string (bs []), .int .i64 100000000000] 53))) := Lib.hid (y2_ hgr.out _)
                    clear u0 u1 u2 u3 u4 u5 u6 u7
                    rw [ho]
                    clear ho
                    go_wp2_with fail
                    exact ⟨⟨1, by omega, by first | rfl | (simp; done), by first | rfl | (simp; done), HG2⟩, by first | (simp [intOf]; done) | (simp [intOf]; omega)⟩
                  · have hix : (Instr.index 54 (.agg #[.string (bs []), .int .i64 100000000000, .string (bs [109]), .int .i64 100000000, .string (bs [117]), .int .i64 100000, .string (bs [110]), .int .i64 100]) (.int .i64 1)).run Tryz.prog wr = .ok (.agg #[.string (bs [109]), .int .i64 100000000]) wr := zaC_ wr 1 _ _ om_ rfl rfl
                    have ho : ((ofI [112] 1 : Nat) : Int) = 1 := rfl
                    have HG2 : Hid (GL [] w (wr.alloc (.cells #[.string (bs [109]), .int .i64 100000000] 53))) := Lib.hid (y2_ hgr.out _)
                    clear u0 u1 u2 u3 u4 u5 u6 u7
                    rw [ho]
                    clear ho
                    go_wp2_with fail
                    exact ⟨⟨2, by omega, by first | rfl | (simp; done), by first | rfl | (simp; done), HG2⟩, by first | (simp [intOf]; done) | (simp [intOf]; omega)⟩
                  · have hix : (Instr.index 54 (.agg #[.string (bs []), .int .i64 100000000000, .string (bs [109]), .int .i64 100000000, .string (bs [117]), .int .i64 100000, .string (bs [110]), .int .i64 100]) (.int .i64 2)).run Tryz.prog wr = .ok (.agg #[.string (bs [117]), .int .i64 100000]) wr := zaC_ wr 2 _ _ om_ rfl rfl
                    have ho : ((ofI [112] 2 : Nat) : Int) = 1 := rfl
                    have HG2 : Hid (GL [] w (wr.alloc (.cells #[.string (bs [117]), .int .i64 100000] 53))) := Lib.hid (y2_ hgr.out _)
                    clear u0 u1 u2 u3 u4 u5 u6 u7
                    rw [ho]
                    clear ho
                    go_wp2_with fail
                    exact ⟨⟨3, by omega, by first | rfl | (simp; done), by first | rfl | (simp; done), HG2⟩, by first | (simp [intOf]; done) | (simp [intOf]; omega)⟩
                  · have hix : (Instr.index 54 (.agg #[.string (bs []), .int .i64 100000000000, .string (bs [109]), .int .i64 100000000, .string (bs [117]), .int .i64 100000, .string (bs [110]), .int .i64 100]) (.int .i64 3)).run Tryz.prog wr = .ok (.agg #[.string (bs [110]), .int .i64 100]) wr := zaC_ wr 3 _ _ om_ rfl rfl
                    have ho : ((ofI [112] 3 : Nat) : Int) = 1 := rfl
                    have HG2 : Hid (GL [] w (wr.alloc (.cells #[.string (bs [110]), .int .i64 100] 53))) := Lib.hid (y2_ hgr.out _)
                    clear u0 u1 u2 u3 u4 u5 u6 u7
                    rw [ho]
                    clear ho
                    go_wp2_with fail
                    exact ⟨⟨4, by omega, by first | rfl | (simp; done), by first | rfl | (simp; done), HG2⟩, by first | (simp [intOf]; done) | (simp [intOf]; omega)⟩
                  · have ho : ((ofI [112] 4 : Nat) : Int) = 1 := rfl
                    have hou : zav_ [112] = 1 := rfl
                    have HR : Hid (zbi_ cr [112] = if 2100000000000000000 < x2_ cr then (0, 40) else (((x2_ cr * 1 : Nat) : Int), 0)) := Lib.hid (by unfold zbi_; rw [hou]; rfl)
                    rw [ho]
                    clear ho hou u0 u1 u2 u3 u4 u5 u6 u7
                    go_wp2_with fail
                    refine (zeN_ cr HCA.out HCN.out HCL.out _ (za8_ HG.out hgr.out si_)).mono ?_
                    rintro e w3 ⟨he, hb3⟩
                    have HL3 : Hid (Below w.heap.size w w3) := Lib.hid (y0_ (y6_ hb3 hgr.out))
                    clear hb3
                    generalize x2_ cr = n at *
                    by_cases hn : n ≤ 9223372036854775807
                    · rw [if_pos hn] at he
                      subst he
                      by_cases hm : 2100000000000000000 < n
                      · have HE : Hid (z5_ s = (0, 40)) := Lib.hid (by rw [HV.out, HR.out, if_pos hm])
                        have hm1 : (2100000000000000000 : Int) < n := by omega
                        clear hm hn
                        go_wp2_with fail
                        exact bodyPost_ret (v := .tuple #[.int .i64 0, .int .i64 40]) (by simp [results, Tryz.results12, go_sem]) rfl (zaA_ HE.out HL3.out)
                      · have HE : Hid (z5_ s = ((n : Int) * 1, 0)) := Lib.hid (by rw [HV.out, HR.out, if_neg hm, Int.natCast_mul]; rfl)
                        have hm1 : (n : Int) ≤ 2100000000000000000 := by omega
                        clear hm hn
                        go_wp2_with fail
                        exact bodyPost_ret (v := .tuple #[.int .i64 (n : Nat), .int .i64 0]) (by simp [results, Tryz.results12, go_sem]) rfl (zaA_ (by rw [HE.out, Int.mul_one]) HL3.out)
                    · rw [if_neg hn] at he
                      obtain ⟨v, T, N, rfl⟩ := he
                      have HE : Hid (z5_ s = (0, 40)) := Lib.hid (by rw [HV.out, HR.out, if_pos om_])
                      clear hn
                      go_wp2_with fail
                      exact bodyPost_ret (v := .tuple #[.int .i64 0, .int .i64 40]) (by simp [results, Tryz.results12, go_sem]) rfl (zaA_ HE.out HL3.out)
     · have hdg2 : d.all x7_ = false := by cases h : d.all x7_ <;> simp_all
       have HV : Hid (z5_ s = (0, 70)) := Lib.hid (by rw [HRV.out, zd6_ (.inr (.inl hdg2))])
       have htn : (Lib.trimS d [48, 49, 50, 51, 52, 53, 54, 55, 56, 57]).isEmpty = false := by
        cases h : Lib.trimS d [48, 49, 50, 51, 52, 53, 54, 55, 56, 57] with
        | nil => exact absurd ((zjO_ d).mp h) hdg
        | cons a b => rfl
       clear hdg hdg2 hd
       go_wp2_with (go_at_call 30; refine (zcj_ d om_ _).mono ?_; rintro e w2 ⟨rfl, hb2⟩; generalize Lib.trimS d [48, 49, 50, 51, 52, 53, 54, 55, 56, 57] = tr at *)
       exact bodyPost_ret (v := .tuple #[.int .i64 0, .int .i64 70]) (by simp [results, Tryz.results12, go_sem]) rfl (zaA_ HV.out (y0_ (y6_ hb2 HL1.out)))
end Go.Proofs.YtembdkodajichaaGreatDoor
