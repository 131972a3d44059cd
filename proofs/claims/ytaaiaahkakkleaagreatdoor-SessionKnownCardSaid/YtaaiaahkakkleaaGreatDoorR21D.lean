/- The document's layer 21: act 3, a frame. -/
import Derived.Test.YtaaiaahkakkleaaGreatDoorR21C
import Derived.Test.YtaaiaahkakkleaaGreatDoorAppT
set_option maxRecDepth 100000
set_option maxHeartbeats 2000000
set_option linter.unusedSimpArgs false
set_option linter.unusedVariables false
namespace Go.Proofs.YtaaiaahkakkleaaGreatDoor
open Go.RowKit
def ThreeRP (Y : Nat) (own drawn peer : List UInt8) (st : Int) (dials closed : Bool) (k1 k2 okey : List UInt8) (oc : Int) (ikey : List UInt8) (ic : Int) (w : World) (r : Option ((List UInt8 × List UInt8) × List UInt8)) (e : Ending) (w' : World) : Prop :=
 GL [Y] w w' ∧ match r with
 | none => e = .returned (.bool false) ∧ RefAt w' Y own drawn peer st dials closed k1 k2 okey oc ikey ic
 | some (k, pp) => e = .returned (.bool true) ∧ RefAt w' Y own drawn pp 3 dials closed k1 k2 (if dials = true then k.1 else k.2) 0 (if dials = true then k.2 else k.1) 0
theorem qThree (t : List UInt8) (Y : Nat) (own drawn peer : List UInt8) (st : Int) (dials closed : Bool) (k1 k2 okey : List UInt8) (oc : Int) (ikey : List UInt8) (ic : Int) (hown : own.length ≤ 9000000000000000000) (hdrawn : drawn.length ≤ 9000000000000000000) (hk1 : k1.length ≤ 9000000000000000000) (hk2 : k2.length ≤ 9000000000000000000) (ht : t.length ≤ 9000000000000000000) (w : World) (hY : RefAt w Y own drawn peer st dials closed k1 k2 okey oc ikey ic) :
  Calls Tryz.prog 79 #[.pointer (some ⟨Y, 0, none⟩), .string (bs t)] w (ThreeRP Y own drawn peer st dials closed k1 k2 okey oc ikey ic w (threeR drawn k2 t)) := by
 obtain ⟨u, bu, hu⟩ : ∃ u b, unboxT k2 t = (u, b) := ⟨_, _, rfl⟩
 have HU := Lib.hid hu
 have lu : u.length ≤ 16384 := by have := unboxT_len k2 t; rw [hu] at this; exact this
 obtain ⟨f, b, hf⟩ : ∃ f b, firstB u = (f, b) := ⟨_, _, rfl⟩
 have HF := Lib.hid hf
 have lf : f.length ≤ 16384 := by have := firstB_len u; rw [hf] at this; exact this
 have HY0 := Lib.hid hY
 have ltY := blk_lt hY
 clear hY
 by_cases hbb : bu = true ∧ b = true
 · obtain ⟨rfl, rfl⟩ := hbb
   obtain ⟨x1, hx1⟩ : ∃ x, agreeR drawn f = x := ⟨_, rfl⟩
   obtain ⟨y1, hy1⟩ : ∃ x, hashR k2 x1 = x := ⟨_, rfl⟩
   obtain ⟨wa, hwa⟩ : ∃ x, actR f y1 = x := ⟨_, rfl⟩
   obtain ⟨kd, kl, kb, hkr⟩ : ∃ x y z, keysR y1 = ((x, y), z) := ⟨_, _, _, rfl⟩
   have H : Hid (threeR drawn k2 t = if u ≠ wa ∨ kb = false then none else some ((kd, kl), f)) := by
    show _ = _
    unfold threeR
    rw [hu]
    simp only [hf]
    rw [if_neg si_]
    simp only [hx1, hy1, hwa, hkr]
   have lx1 : x1.length ≤ 16384 := by rw [← hx1]; exact agreeR_len _ _
   have ly1 : y1.length ≤ 16384 := by rw [← hy1]; exact hashR_len _ _
   have HX1 := Lib.hid hx1
   have HY1e := Lib.hid hy1
   have HWA := Lib.hid hwa
   have HKR := Lib.hid hkr
   clear hu hf hx1 hy1 hwa hkr
   by_cases h1 : u = wa
   · have b1 : (u != wa) = false := by simpa using h1
     have b2 : (u == wa) = true := by simpa using h1
     have HT := Lib.hid (show ¬ u ≠ wa from fun h => h h1)
     clear h1
     cases kb with
     | true =>
       go_enter Tryz.func79, Tryz.ntmps79
       have hg0 : GL [Y] w w := gl_refl _ _
       have hs0 : w.heap.size ≤ w.heap.size := Nat.le_refl _
       have fa1 := blk_cell HY0.out
       have fb1 := blk_free HY0.out
       have fl1 := blk_lt HY0.out
       go_wp2_with fail
       refine (refUnbox k2 t ht _).mono ?_
       rintro e w1 ⟨rfl, hb1⟩
       rw [HU.out]
       clear fa1 fb1 fl1
       have HY1 := Lib.hid (blk_below HY0.out hb1 (blk_lt HY0.out))
       have hg1 : GL [Y] w w1 := gl_below hb1 hg0
       have hs1 := hg1.size
       go_wp2_with fail
       refine (qFirst u om_ _).mono ?_
       rintro e w2 ⟨rfl, hb2⟩
       rw [HF.out]
       have HY2 := Lib.hid (blk_below HY1.out hb2 (blk_lt HY1.out))
       have hg2 : GL [Y] w w2 := gl_below hb2 hg1
       have hs2 := hg2.size
       have fa2 := blk_cell HY2.out
       have fb2 := blk_free HY2.out
       have fl2 := blk_lt HY2.out
       go_wp2_with fail
       go_region_held3 (fun w' => w'.cell? ⟨Y, 7, none⟩ = some (.string (bs k2)) ∧ w'.cell? ⟨Y, 1, none⟩ = some (.string (bs drawn)))
        (first | go_keep | (refine ⟨?_, ?_⟩ <;> (first | exact blk_cell HY3.out 7 | exact blk_cell HY3.out 1 | exact blk_cell HY4.out 7 | exact blk_cell HY4.out 1)))
        ((first
           | (go_at_call 52
              go_must (refine (qAgree drawn f hdrawn om_ _).mono ?_)
              rintro e w3 ⟨rfl, hd3⟩
              rw [HX1.out]
              have hb3 : Below w2.heap.size w2 w3 := ⟨hd3.os, hd3.tape, hd3.output, hd3.size, hd3.block⟩
              have HY3 := Lib.hid (blk_below HY2.out hb3 (blk_lt HY2.out))
              have hg3 : GL [Y] w w3 := gl_below hb3 hg2
              have hs3 := hg3.size
              clear hd3)
           | (go_at_call 51
              go_must (refine (qHash k2 x1 hk2 om_ _).mono ?_)
              rintro e w4 ⟨rfl, hd4⟩
              rw [HY1e.out]
              have hb4 : Below w3.heap.size w3 w4 := ⟨hd4.os, hd4.tape, hd4.output, hd4.size, hd4.block⟩
              have HY4 := Lib.hid (blk_below HY3.out hb4 (blk_lt HY3.out))
              have hg4 : GL [Y] w w4 := gl_below hb4 hg3
              have hs4 := hg4.size
              clear hd4)))
       clear fa2 fb2 fl2
       have fa3 := blk_cell HY4.out
       have fb3 := blk_free HY4.out
       have fl3 := blk_lt HY4.out
       go_wp2_with fail
       clear fa3 fb3 fl3
       have HC9 := Lib.hid (show RefAt (w4.alloc (.cells #[.string (bs own), .string (bs drawn), .string (bs peer), .int .i64 st, .bool dials, .bool closed, .string (bs k1), .string (bs k2), .string (bs okey), .int .i64 oc, .string (bs ikey), .int .i64 ic] 85)) w4.heap.size own drawn peer st dials closed k1 k2 okey oc ikey ic from blk_new w4 (.cells #[.string (bs own), .string (bs drawn), .string (bs peer), .int .i64 st, .bool dials, .bool closed, .string (bs k1), .string (bs k2), .string (bs okey), .int .i64 oc, .string (bs ikey), .int .i64 ic] 85))
       have HY9 := Lib.hid (blk_alloc HY4.out (.cells #[.string (bs own), .string (bs drawn), .string (bs peer), .int .i64 st, .bool dials, .bool closed, .string (bs k1), .string (bs k2), .string (bs okey), .int .i64 oc, .string (bs ikey), .int .i64 ic] 85))
       have hg9 : GL [Y] w (w4.alloc (.cells #[.string (bs own), .string (bs drawn), .string (bs peer), .int .i64 st, .bool dials, .bool closed, .string (bs k1), .string (bs k2), .string (bs okey), .int .i64 oc, .string (bs ikey), .int .i64 ic] 85)) := gl_alloc hg4 _
       have hneC : Y ≠ w4.heap.size := by have := blk_lt HY4.out; omega
       have hgeC := hg4.size
       generalize w4.alloc (.cells #[.string (bs own), .string (bs drawn), .string (bs peer), .int .i64 st, .bool dials, .bool closed, .string (bs k1), .string (bs k2), .string (bs okey), .int .i64 oc, .string (bs ikey), .int .i64 ic] 85) = w9 at *
       generalize w4.heap.size = C at *
       refine (qAct f y1 om_ om_ _).mono ?_
       rintro e w10 ⟨rfl, hb10⟩
       rw [HWA.out]
       have HY10 := Lib.hid (blk_below HY9.out hb10 (blk_lt HY9.out))
       have HC10 := Lib.hid (show RefAt w10 C own drawn peer st dials closed k1 k2 okey oc ikey ic from blk_below HC9.out hb10 (blk_lt HC9.out))
       have hg10 : GL [Y] w w10 := gl_below hb10 hg9
       go_wp2_with fail
       refine (qKeys y1 om_ C own drawn peer st dials closed k1 k2 okey oc ikey ic _ HC10.out).mono ?_
       rintro e w11 ⟨hl11, hp11⟩
       rw [(keys_two HKR.out).2, (keys_two HKR.out).1] at hp11
       rw [if_pos rfl] at hp11
       obtain ⟨rfl, _⟩ := hp11
       have HY11 := Lib.hid (show RefAt w11 Y own drawn peer st dials closed k1 k2 okey oc ikey ic from blk_gl HY10.out hl11 so_)
       have hg11 : GL [Y] w w11 := gl_step hl11 hg10 (fun r hr => .inr (by simp at hr; omega))
       go_wp2_with fail
       refine (qKeys y1 om_ Y own drawn peer st dials closed k1 k2 okey oc ikey ic _ HY11.out).mono ?_
       rintro e w12 ⟨hl12, hp12⟩
       rw [(keys_two HKR.out).2, (keys_two HKR.out).1] at hp12
       rw [if_pos rfl] at hp12
       obtain ⟨rfl, hy12⟩ := hp12
       have HY12 := Lib.hid hy12
       have hg12 : GL [Y] w w12 := gl_step hl12 hg11 (fun r hr => .inl hr)
       clear hy12
       have fa4 := blk_cell HY12.out
       have fb4 := blk_free HY12.out
       have fl4 := blk_lt HY12.out
       go_wp2_with fail
       clear fa4 fb4 fl4
       go_ret
       unfold ThreeRP
       rw [H.out, if_neg (by rintro (h | h); exact HT.out h; cases h)]
       exact ⟨(gl_seti (p := ⟨Y, 3, none⟩) si_ (gl_seti (p := ⟨Y, 2, none⟩) si_ hg12 (.string (bs f))) (.int .i64 3)), by first | rfl | (simp; done), refAt_stage (refAt_peer HY12.out f) 3⟩
     | false =>
       have HBAD := Lib.hid (show u ≠ wa ∨ false = false from .inr rfl)
       go_enter Tryz.func79, Tryz.ntmps79
       have hg0 : GL [Y] w w := gl_refl _ _
       have hs0 : w.heap.size ≤ w.heap.size := Nat.le_refl _
       have fa1 := blk_cell HY0.out
       have fb1 := blk_free HY0.out
       have fl1 := blk_lt HY0.out
       go_wp2_with fail
       refine (refUnbox k2 t ht _).mono ?_
       rintro e w1 ⟨rfl, hb1⟩
       rw [HU.out]
       clear fa1 fb1 fl1
       have HY1 := Lib.hid (blk_below HY0.out hb1 (blk_lt HY0.out))
       have hg1 : GL [Y] w w1 := gl_below hb1 hg0
       have hs1 := hg1.size
       go_wp2_with fail
       refine (qFirst u om_ _).mono ?_
       rintro e w2 ⟨rfl, hb2⟩
       rw [HF.out]
       have HY2 := Lib.hid (blk_below HY1.out hb2 (blk_lt HY1.out))
       have hg2 : GL [Y] w w2 := gl_below hb2 hg1
       have hs2 := hg2.size
       have fa2 := blk_cell HY2.out
       have fb2 := blk_free HY2.out
       have fl2 := blk_lt HY2.out
       go_wp2_with fail
       go_region_held3 (fun w' => w'.cell? ⟨Y, 7, none⟩ = some (.string (bs k2)) ∧ w'.cell? ⟨Y, 1, none⟩ = some (.string (bs drawn)))
        (first | go_keep | (refine ⟨?_, ?_⟩ <;> (first | exact blk_cell HY3.out 7 | exact blk_cell HY3.out 1 | exact blk_cell HY4.out 7 | exact blk_cell HY4.out 1)))
        ((first
           | (go_at_call 52
              go_must (refine (qAgree drawn f hdrawn om_ _).mono ?_)
              rintro e w3 ⟨rfl, hd3⟩
              rw [HX1.out]
              have hb3 : Below w2.heap.size w2 w3 := ⟨hd3.os, hd3.tape, hd3.output, hd3.size, hd3.block⟩
              have HY3 := Lib.hid (blk_below HY2.out hb3 (blk_lt HY2.out))
              have hg3 : GL [Y] w w3 := gl_below hb3 hg2
              have hs3 := hg3.size
              clear hd3)
           | (go_at_call 51
              go_must (refine (qHash k2 x1 hk2 om_ _).mono ?_)
              rintro e w4 ⟨rfl, hd4⟩
              rw [HY1e.out]
              have hb4 : Below w3.heap.size w3 w4 := ⟨hd4.os, hd4.tape, hd4.output, hd4.size, hd4.block⟩
              have HY4 := Lib.hid (blk_below HY3.out hb4 (blk_lt HY3.out))
              have hg4 : GL [Y] w w4 := gl_below hb4 hg3
              have hs4 := hg4.size
              clear hd4)))
       clear fa2 fb2 fl2
       have fa3 := blk_cell HY4.out
       have fb3 := blk_free HY4.out
       have fl3 := blk_lt HY4.out
       go_wp2_with fail
       clear fa3 fb3 fl3
       have HC9 := Lib.hid (show RefAt (w4.alloc (.cells #[.string (bs own), .string (bs drawn), .string (bs peer), .int .i64 st, .bool dials, .bool closed, .string (bs k1), .string (bs k2), .string (bs okey), .int .i64 oc, .string (bs ikey), .int .i64 ic] 85)) w4.heap.size own drawn peer st dials closed k1 k2 okey oc ikey ic from blk_new w4 (.cells #[.string (bs own), .string (bs drawn), .string (bs peer), .int .i64 st, .bool dials, .bool closed, .string (bs k1), .string (bs k2), .string (bs okey), .int .i64 oc, .string (bs ikey), .int .i64 ic] 85))
       have HY9 := Lib.hid (blk_alloc HY4.out (.cells #[.string (bs own), .string (bs drawn), .string (bs peer), .int .i64 st, .bool dials, .bool closed, .string (bs k1), .string (bs k2), .string (bs okey), .int .i64 oc, .string (bs ikey), .int .i64 ic] 85))
       have hg9 : GL [Y] w (w4.alloc (.cells #[.string (bs own), .string (bs drawn), .string (bs peer), .int .i64 st, .bool dials, .bool closed, .string (bs k1), .string (bs k2), .string (bs okey), .int .i64 oc, .string (bs ikey), .int .i64 ic] 85)) := gl_alloc hg4 _
       have hneC : Y ≠ w4.heap.size := by have := blk_lt HY4.out; omega
       have hgeC := hg4.size
       generalize w4.alloc (.cells #[.string (bs own), .string (bs drawn), .string (bs peer), .int .i64 st, .bool dials, .bool closed, .string (bs k1), .string (bs k2), .string (bs okey), .int .i64 oc, .string (bs ikey), .int .i64 ic] 85) = w9 at *
       generalize w4.heap.size = C at *
       refine (qAct f y1 om_ om_ _).mono ?_
       rintro e w10 ⟨rfl, hb10⟩
       rw [HWA.out]
       have HY10 := Lib.hid (blk_below HY9.out hb10 (blk_lt HY9.out))
       have HC10 := Lib.hid (show RefAt w10 C own drawn peer st dials closed k1 k2 okey oc ikey ic from blk_below HC9.out hb10 (blk_lt HC9.out))
       have hg10 : GL [Y] w w10 := gl_below hb10 hg9
       go_wp2_with fail
       refine (qKeys y1 om_ C own drawn peer st dials closed k1 k2 okey oc ikey ic _ HC10.out).mono ?_
       rintro e w11 ⟨hl11, hp11⟩
       rw [(keys_two HKR.out).2, (keys_two HKR.out).1] at hp11
       rw [if_neg si_] at hp11
       obtain ⟨rfl, _⟩ := hp11
       have HY11 := Lib.hid (blk_gl HY10.out hl11 so_)
       have hg11 : GL [Y] w w11 := gl_step hl11 hg10 (fun r hr => .inr (by simp at hr; omega))
       go_wp2_with fail
       go_ret
       unfold ThreeRP
       rw [H.out, if_pos HBAD.out]
       exact ⟨hg11, by first | rfl | (simp; done), HY11.out⟩
   · have b1 : (u != wa) = true := by simpa using h1
     have b2 : (u == wa) = false := by simpa using h1
     have HBAD := Lib.hid (show u ≠ wa ∨ kb = false from .inl h1)
     clear h1
     go_enter Tryz.func79, Tryz.ntmps79
     have hg0 : GL [Y] w w := gl_refl _ _
     have hs0 : w.heap.size ≤ w.heap.size := Nat.le_refl _
     have fa1 := blk_cell HY0.out
     have fb1 := blk_free HY0.out
     have fl1 := blk_lt HY0.out
     go_wp2_with fail
     refine (refUnbox k2 t ht _).mono ?_
     rintro e w1 ⟨rfl, hb1⟩
     rw [HU.out]
     clear fa1 fb1 fl1
     have HY1 := Lib.hid (blk_below HY0.out hb1 (blk_lt HY0.out))
     have hg1 : GL [Y] w w1 := gl_below hb1 hg0
     have hs1 := hg1.size
     go_wp2_with fail
     refine (qFirst u om_ _).mono ?_
     rintro e w2 ⟨rfl, hb2⟩
     rw [HF.out]
     have HY2 := Lib.hid (blk_below HY1.out hb2 (blk_lt HY1.out))
     have hg2 : GL [Y] w w2 := gl_below hb2 hg1
     have hs2 := hg2.size
     have fa2 := blk_cell HY2.out
     have fb2 := blk_free HY2.out
     have fl2 := blk_lt HY2.out
     go_wp2_with fail
     go_region_held3 (fun w' => w'.cell? ⟨Y, 7, none⟩ = some (.string (bs k2)) ∧ w'.cell? ⟨Y, 1, none⟩ = some (.string (bs drawn)))
      (first | go_keep | (refine ⟨?_, ?_⟩ <;> (first | exact blk_cell HY3.out 7 | exact blk_cell HY3.out 1 | exact blk_cell HY4.out 7 | exact blk_cell HY4.out 1)))
      ((first
         | (go_at_call 52
            go_must (refine (qAgree drawn f hdrawn om_ _).mono ?_)
            rintro e w3 ⟨rfl, hd3⟩
            rw [HX1.out]
            have hb3 : Below w2.heap.size w2 w3 := ⟨hd3.os, hd3.tape, hd3.output, hd3.size, hd3.block⟩
            have HY3 := Lib.hid (blk_below HY2.out hb3 (blk_lt HY2.out))
            have hg3 : GL [Y] w w3 := gl_below hb3 hg2
            have hs3 := hg3.size
            clear hd3)
         | (go_at_call 51
            go_must (refine (qHash k2 x1 hk2 om_ _).mono ?_)
            rintro e w4 ⟨rfl, hd4⟩
            rw [HY1e.out]
            have hb4 : Below w3.heap.size w3 w4 := ⟨hd4.os, hd4.tape, hd4.output, hd4.size, hd4.block⟩
            have HY4 := Lib.hid (blk_below HY3.out hb4 (blk_lt HY3.out))
            have hg4 : GL [Y] w w4 := gl_below hb4 hg3
            have hs4 := hg4.size
            clear hd4)))
     clear fa2 fb2 fl2
     have fa3 := blk_cell HY4.out
     have fb3 := blk_free HY4.out
     have fl3 := blk_lt HY4.out
     go_wp2_with fail
     clear fa3 fb3 fl3
     have HC9 := Lib.hid (show RefAt (w4.alloc (.cells #[.string (bs own), .string (bs drawn), .string (bs peer), .int .i64 st, .bool dials, .bool closed, .string (bs k1), .string (bs k2), .string (bs okey), .int .i64 oc, .string (bs ikey), .int .i64 ic] 85)) w4.heap.size own drawn peer st dials closed k1 k2 okey oc ikey ic from blk_new w4 (.cells #[.string (bs own), .string (bs drawn), .string (bs peer), .int .i64 st, .bool dials, .bool closed, .string (bs k1), .string (bs k2), .string (bs okey), .int .i64 oc, .string (bs ikey), .int .i64 ic] 85))
     have HY9 := Lib.hid (blk_alloc HY4.out (.cells #[.string (bs own), .string (bs drawn), .string (bs peer), .int .i64 st, .bool dials, .bool closed, .string (bs k1), .string (bs k2), .string (bs okey), .int .i64 oc, .string (bs ikey), .int .i64 ic] 85))
     have hg9 : GL [Y] w (w4.alloc (.cells #[.string (bs own), .string (bs drawn), .string (bs peer), .int .i64 st, .bool dials, .bool closed, .string (bs k1), .string (bs k2), .string (bs okey), .int .i64 oc, .string (bs ikey), .int .i64 ic] 85)) := gl_alloc hg4 _
     have hneC : Y ≠ w4.heap.size := by have := blk_lt HY4.out; omega
     have hgeC := hg4.size
     generalize w4.alloc (.cells #[.string (bs own), .string (bs drawn), .string (bs peer), .int .i64 st, .bool dials, .bool closed, .string (bs k1), .string (bs k2), .string (bs okey), .int .i64 oc, .string (bs ikey), .int .i64 ic] 85) = w9 at *
     generalize w4.heap.size = C at *
     refine (qAct f y1 om_ om_ _).mono ?_
     rintro e w10 ⟨rfl, hb10⟩
     rw [HWA.out]
     have HY10 := Lib.hid (blk_below HY9.out hb10 (blk_lt HY9.out))
     have HC10 := Lib.hid (show RefAt w10 C own drawn peer st dials closed k1 k2 okey oc ikey ic from blk_below HC9.out hb10 (blk_lt HC9.out))
     have hg10 : GL [Y] w w10 := gl_below hb10 hg9
     have fa4 := blk_cell HY10.out
     have fb4 := blk_free HY10.out
     have fl4 := blk_lt HY10.out
     go_wp2_with fail
     clear fa4 fb4 fl4
     go_ret
     unfold ThreeRP
     rw [H.out, if_pos HBAD.out]
     exact ⟨hg10, by first | rfl | (simp; done), HY10.out⟩
 · have H : Hid (threeR drawn k2 t = none) := by
    show _ = _
    unfold threeR
    rw [hu]
    simp only [hf]
    rw [if_pos (by cases bu <;> cases b <;> simp_all)]
   clear hu hf
   cases bu with
   | false =>
     go_enter Tryz.func79, Tryz.ntmps79
     have hg0 : GL [Y] w w := gl_refl _ _
     have hs0 : w.heap.size ≤ w.heap.size := Nat.le_refl _
     have fa1 := blk_cell HY0.out
     have fb1 := blk_free HY0.out
     have fl1 := blk_lt HY0.out
     go_wp2_with fail
     refine (refUnbox k2 t ht _).mono ?_
     rintro e w1 ⟨rfl, hb1⟩
     rw [HU.out]
     clear fa1 fb1 fl1
     have HY1 := Lib.hid (blk_below HY0.out hb1 (blk_lt HY0.out))
     have hg1 : GL [Y] w w1 := gl_below hb1 hg0
     have hs1 := hg1.size
     go_wp2_with fail
     refine (qFirst u om_ _).mono ?_
     rintro e w2 ⟨rfl, hb2⟩
     rw [HF.out]
     have HY2 := Lib.hid (blk_below HY1.out hb2 (blk_lt HY1.out))
     have hg2 : GL [Y] w w2 := gl_below hb2 hg1
     have hs2 := hg2.size
     have fa2 := blk_cell HY2.out
     have fb2 := blk_free HY2.out
     have fl2 := blk_lt HY2.out
     go_wp2_with fail
     clear fa2 fb2 fl2
     go_ret
     unfold ThreeRP
     rw [H.out]
     exact ⟨hg2, by first | rfl | (simp; done), HY2.out⟩
   | true =>
     cases b with
     | true => exact absurd ⟨rfl, rfl⟩ hbb
     | false =>
       go_enter Tryz.func79, Tryz.ntmps79
       have hg0 : GL [Y] w w := gl_refl _ _
       have hs0 : w.heap.size ≤ w.heap.size := Nat.le_refl _
       have fa1 := blk_cell HY0.out
       have fb1 := blk_free HY0.out
       have fl1 := blk_lt HY0.out
       go_wp2_with fail
       refine (refUnbox k2 t ht _).mono ?_
       rintro e w1 ⟨rfl, hb1⟩
       rw [HU.out]
       clear fa1 fb1 fl1
       have HY1 := Lib.hid (blk_below HY0.out hb1 (blk_lt HY0.out))
       have hg1 : GL [Y] w w1 := gl_below hb1 hg0
       have hs1 := hg1.size
       go_wp2_with fail
       refine (qFirst u om_ _).mono ?_
       rintro e w2 ⟨rfl, hb2⟩
       rw [HF.out]
       have HY2 := Lib.hid (blk_below HY1.out hb2 (blk_lt HY1.out))
       have hg2 : GL [Y] w w2 := gl_below hb2 hg1
       have hs2 := hg2.size
       have fa2 := blk_cell HY2.out
       have fb2 := blk_free HY2.out
       have fl2 := blk_lt HY2.out
       go_wp2_with fail
       clear fa2 fb2 fl2
       go_ret
       unfold ThreeRP
       rw [H.out]
       exact ⟨hg2, by first | rfl | (simp; done), HY2.out⟩
theorem run_conv2 {P : Program} (w : World) (src dst e : TypeId) (x y : Int) (hs : P.underlying src = some (.slice e)) (he : P.underlying e = some (.int .u8)) (hd : P.underlying dst = some .string)
  (h0 : 0 ≤ x) (h1 : x < 256) (h2 : 0 ≤ y) (h3 : y < 256) :
  (convert src dst (.slice (some ⟨w.heap.size, 0, none⟩) 2 2)).run P (w.alloc (.cells #[.int .u8 x, .int .u8 y] e)) = .ok (.string (bs [UInt8.ofNat x.toNat, UInt8.ofNat y.toNat])) (w.alloc (.cells #[.int .u8 x, .int .u8 y] e)) := by
 have e1 : ((UInt8.ofNat x.toNat).toNat : Int) = x := by
  rw [UInt8.toNat_ofNat']; omega
 have e2 : ((UInt8.ofNat y.toNat).toNat : Int) = y := by
  rw [UInt8.toNat_ofNat']; omega
 have h := run_convert_bytes_back (P := P) (w.alloc (.cells #[.int .u8 x, .int .u8 y] e)) src dst e ⟨w.heap.size, 0, none⟩ 2 [UInt8.ofNat x.toNat, UInt8.ofNat y.toNat] hs he hd (by
  intro j hj
  have : j = 0 ∨ j = 1 := by simp at hj; omega
  rcases this with rfl | rfl
  · simp only [List.getElem_cons_zero, e1]
    simp [go_sem]
  · simp only [List.getElem_cons_succ, List.getElem_cons_zero, e2]
    simp [go_sem])
 exact h
theorem dec_small : ∀ n, n < 10 → Lib.decDigits n = [UInt8.ofNat (48 + n)] := by decide +kernel
theorem dec_big : ∀ n, n < 100 → 10 ≤ n → Lib.decDigits n = [UInt8.ofNat (48 + n / 10), UInt8.ofNat (48 + n % 10)] := by decide +kernel
theorem qDigits (n : Nat) (hn : n ≤ 99) (w : World) :
  Calls Tryz.prog 106 #[.int .i64 n] w fun e w' => e = .returned (.string (bs (Lib.decDigits n))) ∧ Below w.heap.size w w' := by
 by_cases h : n < 10
 · have H := Lib.hid (dec_small n h)
   have kc := fun (w : World) => run_conv1 (P := Tryz.prog) w 28 9 5 (48 + (n : Int)) Tryz.underlying28 Tryz.underlying5 Tryz.underlying9 om_ om_
   go_enter Tryz.func106, Tryz.ntmps106
   go_wp2_with fail
   go_ret
   refine ⟨?_, ?_⟩
   · rw [H.out]; first | rfl | (simp; done)
   · exact bl_
 · have H := Lib.hid (dec_big n om_ om_)
   have kc := fun (w : World) => run_conv2 (P := Tryz.prog) w 28 9 5 (48 + (n : Int) / 10) (48 + (n : Int) % 10) Tryz.underlying28 Tryz.underlying5 Tryz.underlying9 om_ om_ om_ om_
   go_enter Tryz.func106, Tryz.ntmps106
   go_wp2_with fail
   go_ret
   refine ⟨?_, ?_⟩
   · rw [H.out]; first | rfl | (simp; done) | (congr 1; simp; omega)
   · exact bl_
end Go.Proofs.YtaaiaahkakkleaaGreatDoor
