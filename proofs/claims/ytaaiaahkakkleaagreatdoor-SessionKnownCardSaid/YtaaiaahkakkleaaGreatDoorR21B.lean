/- The document's layer 21: acts 1, 2 and 3. -/
import Derived.Test.YtaaiaahkakkleaaGreatDoorR21A
set_option maxRecDepth 100000
set_option maxHeartbeats 2000000
set_option linter.unusedSimpArgs false
set_option linter.unusedVariables false
namespace Go.Proofs.YtaaiaahkakkleaaGreatDoor
open Go.RowKit
def RefAt (w : World) (Y : Nat) (own drawn peer : List UInt8) (st : Int) (dials closed : Bool) (k1 k2 okey : List UInt8) (oc : Int) (ikey : List UInt8) (ic : Int) : Prop := w.heap[Y]? = some (.cells #[.string (bs own), .string (bs drawn), .string (bs peer), .int .i64 st, .bool dials, .bool closed, .string (bs k1), .string (bs k2), .string (bs okey), .int .i64 oc, .string (bs ikey), .int .i64 ic] 85 (0, 0))
theorem refAt_out {w : World} {Y : Nat} {own drawn peer : List UInt8} {st : Int} {dials closed : Bool} {k1 k2 okey : List UInt8} {oc : Int} {ikey : List UInt8} {ic : Int} (h : RefAt w Y own drawn peer st dials closed k1 k2 okey oc ikey ic) (a : List UInt8) (n : Int) : RefAt ((w.setCell ⟨Y, 8, none⟩ (.string (bs a))).setCell ⟨Y, 9, none⟩ (.int .i64 n)) Y own drawn peer st dials closed k1 k2 a n ikey ic := (blk_set (blk_set h 8 (.string (bs a))) 9 (.int .i64 n))
theorem refAt_in {w : World} {Y : Nat} {own drawn peer : List UInt8} {st : Int} {dials closed : Bool} {k1 k2 okey : List UInt8} {oc : Int} {ikey : List UInt8} {ic : Int} (h : RefAt w Y own drawn peer st dials closed k1 k2 okey oc ikey ic) (a : List UInt8) (n : Int) : RefAt ((w.setCell ⟨Y, 10, none⟩ (.string (bs a))).setCell ⟨Y, 11, none⟩ (.int .i64 n)) Y own drawn peer st dials closed k1 k2 okey oc a n := (blk_set (blk_set h 10 (.string (bs a))) 11 (.int .i64 n))
theorem refAt_peer {w : World} {Y : Nat} {own drawn peer : List UInt8} {st : Int} {dials closed : Bool} {k1 k2 okey : List UInt8} {oc : Int} {ikey : List UInt8} {ic : Int} (h : RefAt w Y own drawn peer st dials closed k1 k2 okey oc ikey ic) (a : List UInt8) : RefAt (w.setCell ⟨Y, 2, none⟩ (.string (bs a))) Y own drawn a st dials closed k1 k2 okey oc ikey ic := (blk_set h 2 (.string (bs a)))
theorem refAt_stage {w : World} {Y : Nat} {own drawn peer : List UInt8} {st : Int} {dials closed : Bool} {k1 k2 okey : List UInt8} {oc : Int} {ikey : List UInt8} {ic : Int} (h : RefAt w Y own drawn peer st dials closed k1 k2 okey oc ikey ic) (n : Int) : RefAt (w.setCell ⟨Y, 3, none⟩ (.int .i64 n)) Y own drawn peer n dials closed k1 k2 okey oc ikey ic := (blk_set h 3 (.int .i64 n))
theorem refAt_closed {w : World} {Y : Nat} {own drawn peer : List UInt8} {st : Int} {dials closed : Bool} {k1 k2 okey : List UInt8} {oc : Int} {ikey : List UInt8} {ic : Int} (h : RefAt w Y own drawn peer st dials closed k1 k2 okey oc ikey ic) (b : Bool) : RefAt (w.setCell ⟨Y, 5, none⟩ (.bool b)) Y own drawn peer st dials b k1 k2 okey oc ikey ic := (blk_set h 5 (.bool b))
theorem refAt_k1 {w : World} {Y : Nat} {own drawn peer : List UInt8} {st : Int} {dials closed : Bool} {k1 k2 okey : List UInt8} {oc : Int} {ikey : List UInt8} {ic : Int} (h : RefAt w Y own drawn peer st dials closed k1 k2 okey oc ikey ic) (a : List UInt8) : RefAt (w.setCell ⟨Y, 6, none⟩ (.string (bs a))) Y own drawn peer st dials closed a k2 okey oc ikey ic := (blk_set h 6 (.string (bs a)))
theorem refAt_k2 {w : World} {Y : Nat} {own drawn peer : List UInt8} {st : Int} {dials closed : Bool} {k1 k2 okey : List UInt8} {oc : Int} {ikey : List UInt8} {ic : Int} (h : RefAt w Y own drawn peer st dials closed k1 k2 okey oc ikey ic) (a : List UInt8) : RefAt (w.setCell ⟨Y, 7, none⟩ (.string (bs a))) Y own drawn peer st dials closed k1 a okey oc ikey ic := (blk_set h 7 (.string (bs a)))
theorem hashR_len (a b : List UInt8) : (hashR a b).length ≤ 16384 := oneT_len _ _
theorem agreeR_len (a b : List UInt8) : (agreeR a b).length ≤ 16384 := agreeT_len _ _
theorem actR_len (a b : List UInt8) : (actR a b).length ≤ 16384 := tupleT_len _
def KeysPost (Y : Nat) (own drawn peer : List UInt8) (st : Int) (dials closed : Bool) (k1 k2 okey : List UInt8) (oc : Int) (ikey : List UInt8) (ic : Int) (k3 : List UInt8) (w : World) (e : Ending) (w' : World) : Prop :=
 GL [Y] w w' ∧ if (keysR k3).2 = true then e = .returned (.bool true) ∧ RefAt w' Y own drawn peer st dials closed k1 k2 (if dials = true then (keysR k3).1.1 else (keysR k3).1.2) 0 (if dials = true then (keysR k3).1.2 else (keysR k3).1.1) 0
  else e = .returned (.bool false) ∧ RefAt w' Y own drawn peer st dials closed k1 k2 okey oc ikey ic
theorem qKeys (k3 : List UInt8) (hk : k3.length ≤ 9000000000000000000) (Y : Nat) (own drawn peer : List UInt8) (st : Int) (dials closed : Bool) (k1 k2 okey : List UInt8) (oc : Int) (ikey : List UInt8) (ic : Int) (w : World) (hY : RefAt w Y own drawn peer st dials closed k1 k2 okey oc ikey ic) :
  Calls Tryz.prog 103 #[.pointer (some ⟨Y, 0, none⟩), .string (bs k3)] w (KeysPost Y own drawn peer st dials closed k1 k2 okey oc ikey ic k3 w) := by
 obtain ⟨d, g, hd⟩ : ∃ d g, twoT 68 k3 (textT lDial).1 = (d, g) := ⟨_, _, rfl⟩
 obtain ⟨l, q, hl⟩ : ∃ l q, twoT 68 k3 (textT lListen).1 = (l, q) := ⟨_, _, rfl⟩
 have hkk : keysR k3 = ((d, l), g == 0 && q == 0) := by unfold keysR; rw [hd, hl]
 have HK := Lib.hid hkk
 have HD := Lib.hid hd
 have HL := Lib.hid hl
 have HE1 := Lib.hid (show textT lDial = ((textT lDial).1, 0) from rfl)
 have HE2 := Lib.hid (show textT lListen = ((textT lListen).1, 0) from rfl)
 have le1 : (textT lDial).1.length ≤ 100 := by decide +kernel
 have le2 : (textT lListen).1.length ≤ 100 := by decide +kernel
 generalize (textT lDial).1 = td at *
 generalize (textT lListen).1 = tl at *
 have HY0 := Lib.hid hY
 have ltY := blk_lt hY
 clear hY hd hl hkk
 by_cases hg : g = 0
 · by_cases hq : q = 0
   · subst hg hq
     cases dials with
     | true =>
       go_enter Tryz.func103, Tryz.ntmps103
       have hg0 : GL [Y] w w := gl_refl _ _
       have hs0 : w.heap.size ≤ w.heap.size := Nat.le_refl _
       go_wp2_with fail
       refine (refText lDial de_ _).mono ?_
       rintro e w1 ⟨rfl, hb1⟩
       rw [HE1.out]
       have HY1 := Lib.hid (blk_below HY0.out hb1 (blk_lt HY0.out))
       have hg1 : GL [Y] w w1 := gl_below hb1 hg0
       have hs1 := hg1.size
       go_wp2_with fail
       refine (refText lListen de_ _).mono ?_
       rintro e w2 ⟨rfl, hb2⟩
       rw [HE2.out]
       have HY2 := Lib.hid (blk_below HY1.out hb2 (blk_lt HY1.out))
       have hg2 : GL [Y] w w2 := gl_below hb2 hg1
       have hs2 := hg2.size
       go_wp2_with fail
       refine (ref_two 68 68 rfl k3 td hk om_ _).mono ?_
       rintro e w3 ⟨rfl, hb3⟩
       rw [HD.out]
       have HY3 := Lib.hid (blk_below HY2.out hb3 (blk_lt HY2.out))
       have hg3 : GL [Y] w w3 := gl_below hb3 hg2
       have hs3 := hg3.size
       go_wp2_with fail
       refine (ref_two 68 68 rfl k3 tl hk om_ _).mono ?_
       rintro e w4 ⟨rfl, hb4⟩
       rw [HL.out]
       have HY4 := Lib.hid (blk_below HY3.out hb4 (blk_lt HY3.out))
       have hg4 : GL [Y] w w4 := gl_below hb4 hg3
       have hs4 := hg4.size
       have fa1 := blk_cell HY4.out
       have fb1 := blk_free HY4.out
       have fl1 := blk_lt HY4.out
       go_wp2_with fail
       clear fa1 fb1 fl1
       go_ret
       unfold KeysPost
       rw [HK.out, if_pos rs_]
       exact ⟨(gl_seti (p := ⟨Y, 11, none⟩) si_ (gl_seti (p := ⟨Y, 10, none⟩) si_ (gl_seti (p := ⟨Y, 9, none⟩) si_ (gl_seti (p := ⟨Y, 8, none⟩) si_ hg4 (.string (bs d))) (.int .i64 0)) (.string (bs l))) (.int .i64 0)), by first | rfl | (simp; done), (refAt_in (refAt_out HY4.out d 0) l 0)⟩
     | false =>
       go_enter Tryz.func103, Tryz.ntmps103
       have hg0 : GL [Y] w w := gl_refl _ _
       have hs0 : w.heap.size ≤ w.heap.size := Nat.le_refl _
       go_wp2_with fail
       refine (refText lDial de_ _).mono ?_
       rintro e w1 ⟨rfl, hb1⟩
       rw [HE1.out]
       have HY1 := Lib.hid (blk_below HY0.out hb1 (blk_lt HY0.out))
       have hg1 : GL [Y] w w1 := gl_below hb1 hg0
       have hs1 := hg1.size
       go_wp2_with fail
       refine (refText lListen de_ _).mono ?_
       rintro e w2 ⟨rfl, hb2⟩
       rw [HE2.out]
       have HY2 := Lib.hid (blk_below HY1.out hb2 (blk_lt HY1.out))
       have hg2 : GL [Y] w w2 := gl_below hb2 hg1
       have hs2 := hg2.size
       go_wp2_with fail
       refine (ref_two 68 68 rfl k3 td hk om_ _).mono ?_
       rintro e w3 ⟨rfl, hb3⟩
       rw [HD.out]
       have HY3 := Lib.hid (blk_below HY2.out hb3 (blk_lt HY2.out))
       have hg3 : GL [Y] w w3 := gl_below hb3 hg2
       have hs3 := hg3.size
       go_wp2_with fail
       refine (ref_two 68 68 rfl k3 tl hk om_ _).mono ?_
       rintro e w4 ⟨rfl, hb4⟩
       rw [HL.out]
       have HY4 := Lib.hid (blk_below HY3.out hb4 (blk_lt HY3.out))
       have hg4 : GL [Y] w w4 := gl_below hb4 hg3
       have hs4 := hg4.size
       have fa1 := blk_cell HY4.out
       have fb1 := blk_free HY4.out
       have fl1 := blk_lt HY4.out
       go_wp2_with fail
       clear fa1 fb1 fl1
       go_ret
       unfold KeysPost
       rw [HK.out, if_pos rs_]
       exact ⟨(gl_seti (p := ⟨Y, 11, none⟩) si_ (gl_seti (p := ⟨Y, 10, none⟩) si_ (gl_seti (p := ⟨Y, 9, none⟩) si_ (gl_seti (p := ⟨Y, 8, none⟩) si_ (gl_seti (p := ⟨Y, 11, none⟩) si_ (gl_seti (p := ⟨Y, 10, none⟩) si_ (gl_seti (p := ⟨Y, 9, none⟩) si_ (gl_seti (p := ⟨Y, 8, none⟩) si_ hg4 (.string (bs d))) (.int .i64 0)) (.string (bs l))) (.int .i64 0)) (.string (bs l))) (.int .i64 0)) (.string (bs d))) (.int .i64 0)), by first | rfl | (simp; done), (refAt_in (refAt_out (refAt_in (refAt_out HY4.out d 0) l 0) l 0) d 0)⟩
   · have b2 : (q != 0) = true := by simpa using hq
     have b3 : (q == 0) = false := by simpa using hq
     subst hg
     clear hq
     go_enter Tryz.func103, Tryz.ntmps103
     have hg0 : GL [Y] w w := gl_refl _ _
     have hs0 : w.heap.size ≤ w.heap.size := Nat.le_refl _
     go_wp2_with fail
     refine (refText lDial de_ _).mono ?_
     rintro e w1 ⟨rfl, hb1⟩
     rw [HE1.out]
     have HY1 := Lib.hid (blk_below HY0.out hb1 (blk_lt HY0.out))
     have hg1 : GL [Y] w w1 := gl_below hb1 hg0
     have hs1 := hg1.size
     go_wp2_with fail
     refine (refText lListen de_ _).mono ?_
     rintro e w2 ⟨rfl, hb2⟩
     rw [HE2.out]
     have HY2 := Lib.hid (blk_below HY1.out hb2 (blk_lt HY1.out))
     have hg2 : GL [Y] w w2 := gl_below hb2 hg1
     have hs2 := hg2.size
     go_wp2_with fail
     refine (ref_two 68 68 rfl k3 td hk om_ _).mono ?_
     rintro e w3 ⟨rfl, hb3⟩
     rw [HD.out]
     have HY3 := Lib.hid (blk_below HY2.out hb3 (blk_lt HY2.out))
     have hg3 : GL [Y] w w3 := gl_below hb3 hg2
     have hs3 := hg3.size
     go_wp2_with fail
     refine (ref_two 68 68 rfl k3 tl hk om_ _).mono ?_
     rintro e w4 ⟨rfl, hb4⟩
     rw [HL.out]
     have HY4 := Lib.hid (blk_below HY3.out hb4 (blk_lt HY3.out))
     have hg4 : GL [Y] w w4 := gl_below hb4 hg3
     have hs4 := hg4.size
     have fa1 := blk_cell HY4.out
     have fb1 := blk_free HY4.out
     have fl1 := blk_lt HY4.out
     go_wp2_with fail
     clear fa1 fb1 fl1
     go_ret
     unfold KeysPost
     rw [HK.out, if_neg (by simp [b3])]
     exact ⟨hg4, by first | rfl | (simp; done), HY4.out⟩
 · have b2 : (g != 0) = true := by simpa using hg
   have b3 : (g == 0) = false := by simpa using hg
   clear hg
   go_enter Tryz.func103, Tryz.ntmps103
   have hg0 : GL [Y] w w := gl_refl _ _
   have hs0 : w.heap.size ≤ w.heap.size := Nat.le_refl _
   go_wp2_with fail
   refine (refText lDial de_ _).mono ?_
   rintro e w1 ⟨rfl, hb1⟩
   rw [HE1.out]
   have HY1 := Lib.hid (blk_below HY0.out hb1 (blk_lt HY0.out))
   have hg1 : GL [Y] w w1 := gl_below hb1 hg0
   have hs1 := hg1.size
   go_wp2_with fail
   refine (refText lListen de_ _).mono ?_
   rintro e w2 ⟨rfl, hb2⟩
   rw [HE2.out]
   have HY2 := Lib.hid (blk_below HY1.out hb2 (blk_lt HY1.out))
   have hg2 : GL [Y] w w2 := gl_below hb2 hg1
   have hs2 := hg2.size
   go_wp2_with fail
   refine (ref_two 68 68 rfl k3 td hk om_ _).mono ?_
   rintro e w3 ⟨rfl, hb3⟩
   rw [HD.out]
   have HY3 := Lib.hid (blk_below HY2.out hb3 (blk_lt HY2.out))
   have hg3 : GL [Y] w w3 := gl_below hb3 hg2
   have hs3 := hg3.size
   go_wp2_with fail
   refine (ref_two 68 68 rfl k3 tl hk om_ _).mono ?_
   rintro e w4 ⟨rfl, hb4⟩
   rw [HL.out]
   have HY4 := Lib.hid (blk_below HY3.out hb4 (blk_lt HY3.out))
   have hg4 : GL [Y] w w4 := gl_below hb4 hg3
   have hs4 := hg4.size
   have fa1 := blk_cell HY4.out
   have fb1 := blk_free HY4.out
   have fl1 := blk_lt HY4.out
   go_wp2_with fail
   clear fa1 fb1 fl1
   go_ret
   unfold KeysPost
   rw [HK.out, if_neg (by simp [b3])]
   exact ⟨hg4, by first | rfl | (simp; done), HY4.out⟩
theorem secB_len (x : List UInt8) : (secretB x).1.length ≤ 16384 := secretB_len x
def OneRP (Y : Nat) (own drawn peer : List UInt8) (st : Int) (dials closed : Bool) (k1 k2 okey : List UInt8) (oc : Int) (ikey : List UInt8) (ic : Int) (w : World) (r : Option (List UInt8 × List UInt8)) (e : Ending) (w' : World) : Prop :=
 GL [Y] w w' ∧ match r with
 | none => e = .returned (.tuple #[.string (bs []), .bool false]) ∧ RefAt w' Y own drawn peer st dials closed k1 k2 okey oc ikey ic
 | some (k, say) => e = .returned (.tuple #[.string (bs say), .bool true]) ∧ ∃ q, q.length ≤ 16384 ∧ RefAt w' Y own drawn peer 2 dials closed q k okey oc ikey ic
theorem qOne (t : List UInt8) (Y : Nat) (own drawn peer : List UInt8) (st : Int) (dials closed : Bool) (k1 k2 okey : List UInt8) (oc : Int) (ikey : List UInt8) (ic : Int) (hown : own.length ≤ 9000000000000000000) (hdrawn : drawn.length ≤ 9000000000000000000) (hk1 : k1.length ≤ 9000000000000000000) (hk2 : k2.length ≤ 9000000000000000000) (ht : t.length ≤ 9000000000000000000) (w : World) (hY : RefAt w Y own drawn peer st dials closed k1 k2 okey oc ikey ic) :
  Calls Tryz.prog 77 #[.pointer (some ⟨Y, 0, none⟩), .string (bs t)] w (OneRP Y own drawn peer st dials closed k1 k2 okey oc ikey ic w (oneR own drawn t)) := by
 obtain ⟨f, b, hf⟩ : ∃ f b, firstB t = (f, b) := ⟨_, _, rfl⟩
 have HF := Lib.hid hf
 have lf : f.length ≤ 16384 := by have := firstB_len t; rw [hf] at this; exact this
 have HY0 := Lib.hid hY
 have ltY := blk_lt hY
 clear hY
 cases b with
 | false =>
   have H : Hid (oneR own drawn t = none) := by show _ = _; unfold oneR; rw [hf]; rfl
   clear hf
   go_enter Tryz.func77, Tryz.ntmps77
   have hg0 : GL [Y] w w := gl_refl _ _
   have hs0 : w.heap.size ≤ w.heap.size := Nat.le_refl _
   go_wp2_with fail
   refine (qFirst t ht _).mono ?_
   rintro e w1 ⟨rfl, hb1⟩
   rw [HF.out]
   have HY1 := Lib.hid (blk_below HY0.out hb1 (blk_lt HY0.out))
   have hg1 : GL [Y] w w1 := gl_below hb1 hg0
   have hs1 := hg1.size
   go_wp2_with fail
   go_ret2
   unfold OneRP
   rw [H.out]
   exact ⟨hg1, by first | rfl | (simp; done), HY1.out⟩
 | true =>
   obtain ⟨so, bo, hso⟩ : ∃ x b, secretB own = (x, b) := ⟨_, _, rfl⟩
   obtain ⟨sd, bd, hsd⟩ : ∃ x b, secretB drawn = (x, b) := ⟨_, _, rfl⟩
   have lso : so.length ≤ 16384 := by have := secB_len own; rw [hso] at this; exact this
   have lsd : sd.length ≤ 16384 := by have := secB_len drawn; rw [hsd] at this; exact this
   have hso1 : (pubT own).1 = so := by have := congrArg Prod.fst hso; exact this
   have hsd1 : (pubT drawn).1 = sd := by have := congrArg Prod.fst hsd; exact this
   obtain ⟨x1, hx1⟩ : ∃ x, agreeR own f = x := ⟨_, rfl⟩
   obtain ⟨y1, hy1⟩ : ∃ x, hashR x1 so = x := ⟨_, rfl⟩
   obtain ⟨x2, hx2⟩ : ∃ x, agreeR drawn f = x := ⟨_, rfl⟩
   obtain ⟨y2, hy2⟩ : ∃ x, hashR y1 x2 = x := ⟨_, rfl⟩
   obtain ⟨sa, hsa⟩ : ∃ x, actR sd y2 = x := ⟨_, rfl⟩
   obtain ⟨wa, hwa⟩ : ∃ x, actR f y1 = x := ⟨_, rfl⟩
   have H : Hid (oneR own drawn t = if sa = [] ∨ t ≠ wa then none else some (y2, sa)) := by
    show _ = _
    unfold oneR
    rw [hf, if_neg si_]
    simp only [hso1, hsd1, hx1, hy1, hx2, hy2, hsa, hwa]
   have lx1 : x1.length ≤ 16384 := by rw [← hx1]; exact agreeR_len _ _
   have lx2 : x2.length ≤ 16384 := by rw [← hx2]; exact agreeR_len _ _
   have ly1 : y1.length ≤ 16384 := by rw [← hy1]; exact hashR_len _ _
   have ly2 : y2.length ≤ 16384 := by rw [← hy2]; exact hashR_len _ _
   have HSO := Lib.hid hso
   have HSD := Lib.hid hsd
   have HX1 := Lib.hid hx1
   have HX2 := Lib.hid hx2
   have HY1e := Lib.hid hy1
   have HY2e := Lib.hid hy2
   have HSA := Lib.hid hsa
   have HWA := Lib.hid hwa
   clear hf hso hsd hso1 hsd1 hx1 hx2 hy1 hy2 hsa hwa
   by_cases h0 : sa = []
   · have b0 : (sa == []) = true := by rw [h0]; rfl
     subst h0
     go_enter Tryz.func77, Tryz.ntmps77
     have hg0 : GL [Y] w w := gl_refl _ _
     have hs0 : w.heap.size ≤ w.heap.size := Nat.le_refl _
     go_wp2_with fail
     refine (qFirst t ht _).mono ?_
     rintro e w1 ⟨rfl, hb1⟩
     rw [HF.out]
     have HY1 := Lib.hid (blk_below HY0.out hb1 (blk_lt HY0.out))
     have hg1 : GL [Y] w w1 := gl_below hb1 hg0
     have hs1 := hg1.size
     have fa1 := blk_cell HY1.out
     have fb1 := blk_free HY1.out
     have fl1 := blk_lt HY1.out
     go_wp2_with fail
     refine (qPub own hown _).mono ?_
     rintro e w2 ⟨rfl, hb2⟩
     rw [HSO.out]
     clear fa1 fb1 fl1
     have HY2 := Lib.hid (blk_below HY1.out hb2 (blk_lt HY1.out))
     have hg2 : GL [Y] w w2 := gl_below hb2 hg1
     have hs2 := hg2.size
     have fa2 := blk_cell HY2.out
     have fb2 := blk_free HY2.out
     have fl2 := blk_lt HY2.out
     go_wp2_with fail
     refine (qPub drawn hdrawn _).mono ?_
     rintro e w3 ⟨rfl, hb3⟩
     rw [HSD.out]
     clear fa2 fb2 fl2
     have HY3 := Lib.hid (blk_below HY2.out hb3 (blk_lt HY2.out))
     have hg3 : GL [Y] w w3 := gl_below hb3 hg2
     have hs3 := hg3.size
     have fa3 := blk_cell HY3.out
     have fb3 := blk_free HY3.out
     have fl3 := blk_lt HY3.out
     go_wp2_with fail
     refine (qAgree own f hown om_ _).mono ?_
     rintro e w4 ⟨rfl, hb4⟩
     rw [HX1.out]
     clear fa3 fb3 fl3
     have HY4 := Lib.hid (blk_below HY3.out hb4 (blk_lt HY3.out))
     have hg4 : GL [Y] w w4 := gl_below hb4 hg3
     have hs4 := hg4.size
     go_wp2_with fail
     refine (qHash x1 so om_ om_ _).mono ?_
     rintro e w5 ⟨rfl, hb5⟩
     rw [HY1e.out]
     have HY5 := Lib.hid (blk_below HY4.out hb5 (blk_lt HY4.out))
     have hg5 : GL [Y] w w5 := gl_below hb5 hg4
     have hs5 := hg5.size
     have fa4 := blk_cell HY5.out
     have fb4 := blk_free HY5.out
     have fl4 := blk_lt HY5.out
     go_wp2_with fail
     refine (qAgree drawn f hdrawn om_ _).mono ?_
     rintro e w6 ⟨rfl, hb6⟩
     rw [HX2.out]
     clear fa4 fb4 fl4
     have HY6 := Lib.hid (blk_below HY5.out hb6 (blk_lt HY5.out))
     have hg6 : GL [Y] w w6 := gl_below hb6 hg5
     have hs6 := hg6.size
     go_wp2_with fail
     refine (qHash y1 x2 om_ om_ _).mono ?_
     rintro e w7 ⟨rfl, hb7⟩
     rw [HY2e.out]
     have HY7 := Lib.hid (blk_below HY6.out hb7 (blk_lt HY6.out))
     have hg7 : GL [Y] w w7 := gl_below hb7 hg6
     have hs7 := hg7.size
     go_wp2_with fail
     refine (qAct sd y2 om_ om_ _).mono ?_
     rintro e w8 ⟨rfl, hb8⟩
     rw [HSA.out]
     have HY8 := Lib.hid (blk_below HY7.out hb8 (blk_lt HY7.out))
     have hg8 : GL [Y] w w8 := gl_below hb8 hg7
     have hs8 := hg8.size
     have fa5 := blk_cell HY8.out
     have fb5 := blk_free HY8.out
     have fl5 := blk_lt HY8.out
     go_wp2_with fail
     clear fa5 fb5 fl5
     go_ret2
     unfold OneRP
     rw [H.out, if_pos si_]
     exact ⟨hg8, by first | rfl | (simp; done), HY8.out⟩
   · have b0 : (sa == []) = false := by simpa using h0
     have HSN := Lib.hid h0
     clear h0
     by_cases h1 : t = wa
     · have b1 : (t != wa) = false := by simpa using h1
       have b2 : (t == wa) = true := by simpa using h1
       subst h1
       have HT : Hid (¬ t ≠ t) := fun h => h rfl
       go_enter Tryz.func77, Tryz.ntmps77
       have hg0 : GL [Y] w w := gl_refl _ _
       have hs0 : w.heap.size ≤ w.heap.size := Nat.le_refl _
       go_wp2_with fail
       refine (qFirst t ht _).mono ?_
       rintro e w1 ⟨rfl, hb1⟩
       rw [HF.out]
       have HY1 := Lib.hid (blk_below HY0.out hb1 (blk_lt HY0.out))
       have hg1 : GL [Y] w w1 := gl_below hb1 hg0
       have hs1 := hg1.size
       have fa1 := blk_cell HY1.out
       have fb1 := blk_free HY1.out
       have fl1 := blk_lt HY1.out
       go_wp2_with fail
       refine (qPub own hown _).mono ?_
       rintro e w2 ⟨rfl, hb2⟩
       rw [HSO.out]
       clear fa1 fb1 fl1
       have HY2 := Lib.hid (blk_below HY1.out hb2 (blk_lt HY1.out))
       have hg2 : GL [Y] w w2 := gl_below hb2 hg1
       have hs2 := hg2.size
       have fa2 := blk_cell HY2.out
       have fb2 := blk_free HY2.out
       have fl2 := blk_lt HY2.out
       go_wp2_with fail
       refine (qPub drawn hdrawn _).mono ?_
       rintro e w3 ⟨rfl, hb3⟩
       rw [HSD.out]
       clear fa2 fb2 fl2
       have HY3 := Lib.hid (blk_below HY2.out hb3 (blk_lt HY2.out))
       have hg3 : GL [Y] w w3 := gl_below hb3 hg2
       have hs3 := hg3.size
       have fa3 := blk_cell HY3.out
       have fb3 := blk_free HY3.out
       have fl3 := blk_lt HY3.out
       go_wp2_with fail
       refine (qAgree own f hown om_ _).mono ?_
       rintro e w4 ⟨rfl, hb4⟩
       rw [HX1.out]
       clear fa3 fb3 fl3
       have HY4 := Lib.hid (blk_below HY3.out hb4 (blk_lt HY3.out))
       have hg4 : GL [Y] w w4 := gl_below hb4 hg3
       have hs4 := hg4.size
       go_wp2_with fail
       refine (qHash x1 so om_ om_ _).mono ?_
       rintro e w5 ⟨rfl, hb5⟩
       rw [HY1e.out]
       have HY5 := Lib.hid (blk_below HY4.out hb5 (blk_lt HY4.out))
       have hg5 : GL [Y] w w5 := gl_below hb5 hg4
       have hs5 := hg5.size
       have fa4 := blk_cell HY5.out
       have fb4 := blk_free HY5.out
       have fl4 := blk_lt HY5.out
       go_wp2_with fail
       refine (qAgree drawn f hdrawn om_ _).mono ?_
       rintro e w6 ⟨rfl, hb6⟩
       rw [HX2.out]
       clear fa4 fb4 fl4
       have HY6 := Lib.hid (blk_below HY5.out hb6 (blk_lt HY5.out))
       have hg6 : GL [Y] w w6 := gl_below hb6 hg5
       have hs6 := hg6.size
       go_wp2_with fail
       refine (qHash y1 x2 om_ om_ _).mono ?_
       rintro e w7 ⟨rfl, hb7⟩
       rw [HY2e.out]
       have HY7 := Lib.hid (blk_below HY6.out hb7 (blk_lt HY6.out))
       have hg7 : GL [Y] w w7 := gl_below hb7 hg6
       have hs7 := hg7.size
       go_wp2_with fail
       refine (qAct sd y2 om_ om_ _).mono ?_
       rintro e w8 ⟨rfl, hb8⟩
       rw [HSA.out]
       have HY8 := Lib.hid (blk_below HY7.out hb8 (blk_lt HY7.out))
       have hg8 : GL [Y] w w8 := gl_below hb8 hg7
       have hs8 := hg8.size
       go_wp2_with fail
       refine (qAct f y1 om_ om_ _).mono ?_
       rintro e w9 ⟨rfl, hb9⟩
       rw [HWA.out]
       have HY9 := Lib.hid (blk_below HY8.out hb9 (blk_lt HY8.out))
       have hg9 : GL [Y] w w9 := gl_below hb9 hg8
       have hs9 := hg9.size
       have fa5 := blk_cell HY9.out
       have fb5 := blk_free HY9.out
       have fl5 := blk_lt HY9.out
       go_wp2_with fail
       clear fa5 fb5 fl5
       go_ret2
       unfold OneRP
       rw [H.out, if_neg (by rintro (h | h); exact HSN.out h; exact h rfl)]
       exact ⟨(gl_seti (p := ⟨Y, 3, none⟩) si_ (gl_seti (p := ⟨Y, 7, none⟩) si_ (gl_seti (p := ⟨Y, 6, none⟩) si_ hg9 (.string (bs y1))) (.string (bs y2))) (.int .i64 2)), by first | rfl | (simp; done), y1, ly1, refAt_stage (refAt_k2 (refAt_k1 HY9.out y1) y2) 2⟩
     · have b1 : (t != wa) = true := by simpa using h1
       have b2 : (t == wa) = false := by simpa using h1
       have HT := Lib.hid (show t ≠ wa from h1)
       clear h1
       go_enter Tryz.func77, Tryz.ntmps77
       have hg0 : GL [Y] w w := gl_refl _ _
       have hs0 : w.heap.size ≤ w.heap.size := Nat.le_refl _
       go_wp2_with fail
       refine (qFirst t ht _).mono ?_
       rintro e w1 ⟨rfl, hb1⟩
       rw [HF.out]
       have HY1 := Lib.hid (blk_below HY0.out hb1 (blk_lt HY0.out))
       have hg1 : GL [Y] w w1 := gl_below hb1 hg0
       have hs1 := hg1.size
       have fa1 := blk_cell HY1.out
       have fb1 := blk_free HY1.out
       have fl1 := blk_lt HY1.out
       go_wp2_with fail
       refine (qPub own hown _).mono ?_
       rintro e w2 ⟨rfl, hb2⟩
       rw [HSO.out]
       clear fa1 fb1 fl1
       have HY2 := Lib.hid (blk_below HY1.out hb2 (blk_lt HY1.out))
       have hg2 : GL [Y] w w2 := gl_below hb2 hg1
       have hs2 := hg2.size
       have fa2 := blk_cell HY2.out
       have fb2 := blk_free HY2.out
       have fl2 := blk_lt HY2.out
       go_wp2_with fail
       refine (qPub drawn hdrawn _).mono ?_
       rintro e w3 ⟨rfl, hb3⟩
       rw [HSD.out]
       clear fa2 fb2 fl2
       have HY3 := Lib.hid (blk_below HY2.out hb3 (blk_lt HY2.out))
       have hg3 : GL [Y] w w3 := gl_below hb3 hg2
       have hs3 := hg3.size
       have fa3 := blk_cell HY3.out
       have fb3 := blk_free HY3.out
       have fl3 := blk_lt HY3.out
       go_wp2_with fail
       refine (qAgree own f hown om_ _).mono ?_
       rintro e w4 ⟨rfl, hb4⟩
       rw [HX1.out]
       clear fa3 fb3 fl3
       have HY4 := Lib.hid (blk_below HY3.out hb4 (blk_lt HY3.out))
       have hg4 : GL [Y] w w4 := gl_below hb4 hg3
       have hs4 := hg4.size
       go_wp2_with fail
       refine (qHash x1 so om_ om_ _).mono ?_
       rintro e w5 ⟨rfl, hb5⟩
       rw [HY1e.out]
       have HY5 := Lib.hid (blk_below HY4.out hb5 (blk_lt HY4.out))
       have hg5 : GL [Y] w w5 := gl_below hb5 hg4
       have hs5 := hg5.size
       have fa4 := blk_cell HY5.out
       have fb4 := blk_free HY5.out
       have fl4 := blk_lt HY5.out
       go_wp2_with fail
       refine (qAgree drawn f hdrawn om_ _).mono ?_
       rintro e w6 ⟨rfl, hb6⟩
       rw [HX2.out]
       clear fa4 fb4 fl4
       have HY6 := Lib.hid (blk_below HY5.out hb6 (blk_lt HY5.out))
       have hg6 : GL [Y] w w6 := gl_below hb6 hg5
       have hs6 := hg6.size
       go_wp2_with fail
       refine (qHash y1 x2 om_ om_ _).mono ?_
       rintro e w7 ⟨rfl, hb7⟩
       rw [HY2e.out]
       have HY7 := Lib.hid (blk_below HY6.out hb7 (blk_lt HY6.out))
       have hg7 : GL [Y] w w7 := gl_below hb7 hg6
       have hs7 := hg7.size
       go_wp2_with fail
       refine (qAct sd y2 om_ om_ _).mono ?_
       rintro e w8 ⟨rfl, hb8⟩
       rw [HSA.out]
       have HY8 := Lib.hid (blk_below HY7.out hb8 (blk_lt HY7.out))
       have hg8 : GL [Y] w w8 := gl_below hb8 hg7
       have hs8 := hg8.size
       go_wp2_with fail
       refine (qAct f y1 om_ om_ _).mono ?_
       rintro e w9 ⟨rfl, hb9⟩
       rw [HWA.out]
       have HY9 := Lib.hid (blk_below HY8.out hb9 (blk_lt HY8.out))
       have hg9 : GL [Y] w w9 := gl_below hb9 hg8
       have hs9 := hg9.size
       have fa5 := blk_cell HY9.out
       have fb5 := blk_free HY9.out
       have fl5 := blk_lt HY9.out
       go_wp2_with fail
       clear fa5 fb5 fl5
       go_ret2
       unfold OneRP
       rw [H.out, if_pos (.inr HT.out)]
       exact ⟨hg9, by first | rfl | (simp; done), HY9.out⟩
end Go.Proofs.YtaaiaahkakkleaaGreatDoor
