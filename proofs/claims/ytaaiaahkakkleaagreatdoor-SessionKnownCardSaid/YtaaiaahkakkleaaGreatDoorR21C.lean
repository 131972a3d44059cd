/- The document's layer 21: acts 2 and 3. -/
import Derived.Test.YtaaiaahkakkleaaGreatDoorR21B
set_option maxRecDepth 100000
set_option maxHeartbeats 2000000
set_option linter.unusedSimpArgs false
set_option linter.unusedVariables false
namespace Go.Proofs.YtaaiaahkakkleaaGreatDoor
open Go.RowKit
def TwoRP (Y : Nat) (own drawn peer : List UInt8) (st : Int) (dials closed : Bool) (k1 k2 okey : List UInt8) (oc : Int) (ikey : List UInt8) (ic : Int) (w : World) (r : Option ((List UInt8 × List UInt8) × List UInt8)) (e : Ending) (w' : World) : Prop :=
 GL [Y] w w' ∧ match r with
 | none => e = .returned (.tuple #[.string (bs []), .bool false]) ∧ RefAt w' Y own drawn peer st dials closed k1 k2 okey oc ikey ic
 | some (k, say) => e = .returned (.tuple #[.string (bs say), .bool true]) ∧ ∃ q, RefAt w' Y own drawn peer 3 dials closed k1 q (if dials = true then k.1 else k.2) 0 (if dials = true then k.2 else k.1) 0
theorem keys_two {k : List UInt8} {a b : List UInt8} {c : Bool} (h : keysR k = ((a, b), c)) : (keysR k).1 = (a, b) ∧ (keysR k).2 = c := by rw [h]; exact ⟨rfl, rfl⟩
theorem qTwo (t : List UInt8) (Y : Nat) (own drawn peer : List UInt8) (st : Int) (dials closed : Bool) (k1 k2 okey : List UInt8) (oc : Int) (ikey : List UInt8) (ic : Int) (hown : own.length ≤ 9000000000000000000) (hdrawn : drawn.length ≤ 9000000000000000000) (hk1 : k1.length ≤ 9000000000000000000) (hk2 : k2.length ≤ 9000000000000000000) (ht : t.length ≤ 9000000000000000000) (w : World) (hY : RefAt w Y own drawn peer st dials closed k1 k2 okey oc ikey ic) :
  Calls Tryz.prog 78 #[.pointer (some ⟨Y, 0, none⟩), .string (bs t)] w (TwoRP Y own drawn peer st dials closed k1 k2 okey oc ikey ic w (twoR own drawn k1 t)) := by
 obtain ⟨f, b, hf⟩ : ∃ f b, firstB t = (f, b) := ⟨_, _, rfl⟩
 have HF := Lib.hid hf
 have lf : f.length ≤ 16384 := by have := firstB_len t; rw [hf] at this; exact this
 have HY0 := Lib.hid hY
 have ltY := blk_lt hY
 clear hY
 cases b with
 | false =>
   have H : Hid (twoR own drawn k1 t = none) := by show _ = _; unfold twoR; rw [hf]; rfl
   clear hf
   go_enter Tryz.func78, Tryz.ntmps78
   have hg0 : GL [Y] w w := gl_refl _ _
   have hs0 : w.heap.size ≤ w.heap.size := Nat.le_refl _
   go_wp2_with fail
   refine (qFirst t ht _).mono ?_
   rintro e w1 ⟨rfl, hb1⟩
   rw [HF.out]
   have HY1 := Lib.hid (blk_below HY0.out hb1 (blk_lt HY0.out))
   have hg1 : GL [Y] w w1 := gl_below hb1 hg0
   have hs1 := hg1.size
   go_wp2_with fail
   go_ret2
   unfold TwoRP
   rw [H.out]
   exact ⟨hg1, by first | rfl | (simp; done), HY1.out⟩
 | true =>
   obtain ⟨so, bo, hso⟩ : ∃ x b, secretB own = (x, b) := ⟨_, _, rfl⟩
   have lso : so.length ≤ 16384 := by have := secB_len own; rw [hso] at this; exact this
   have hso1 : (pubT own).1 = so := by have := congrArg Prod.fst hso; exact this
   obtain ⟨x1, hx1⟩ : ∃ x, agreeR drawn f = x := ⟨_, rfl⟩
   obtain ⟨y1, hy1⟩ : ∃ x, hashR k1 x1 = x := ⟨_, rfl⟩
   obtain ⟨x2, hx2⟩ : ∃ x, agreeR own f = x := ⟨_, rfl⟩
   obtain ⟨y2, hy2⟩ : ∃ x, hashR y1 x2 = x := ⟨_, rfl⟩
   obtain ⟨sa, hsa⟩ : ∃ x, actR so y2 = x := ⟨_, rfl⟩
   obtain ⟨wa, hwa⟩ : ∃ x, actR f y1 = x := ⟨_, rfl⟩
   obtain ⟨bx, g, hbx⟩ : ∃ x g, twoT 66 y1 sa = (x, g) := ⟨_, _, rfl⟩
   obtain ⟨kd, kl, kb, hkr⟩ : ∃ x y z, keysR y2 = ((x, y), z) := ⟨_, _, _, rfl⟩
   have H : Hid (twoR own drawn k1 t = if t ≠ wa ∨ g ≠ 0 ∨ kb = false then none else some ((kd, kl), bx)) := by
    show _ = _
    unfold twoR
    rw [hf, if_neg si_]
    simp only [hso1, hx1, hy1, hx2, hy2, hsa, hwa, hbx, hkr]
   have lx1 : x1.length ≤ 16384 := by rw [← hx1]; exact agreeR_len _ _
   have lx2 : x2.length ≤ 16384 := by rw [← hx2]; exact agreeR_len _ _
   have ly1 : y1.length ≤ 16384 := by rw [← hy1]; exact hashR_len _ _
   have ly2 : y2.length ≤ 16384 := by rw [← hy2]; exact hashR_len _ _
   have lsa : sa.length ≤ 16384 := by rw [← hsa]; exact actR_len _ _
   have HSO := Lib.hid hso
   have HX1 := Lib.hid hx1
   have HX2 := Lib.hid hx2
   have HY1e := Lib.hid hy1
   have HY2e := Lib.hid hy2
   have HSA := Lib.hid hsa
   have HWA := Lib.hid hwa
   have HBX := Lib.hid hbx
   have HKR := Lib.hid hkr
   clear hf hso hso1 hx1 hx2 hy1 hy2 hsa hwa hbx hkr
   by_cases h1 : t = wa
   · have b1 : (t != wa) = false := by simpa using h1
     have b2 : (t == wa) = true := by simpa using h1
     have HT := Lib.hid (show ¬ t ≠ wa from fun h => h h1)
     clear h1
     by_cases hg : g = 0
     · subst hg
       cases kb with
       | true =>
         go_enter Tryz.func78, Tryz.ntmps78
         have hg0 : GL [Y] w w := gl_refl _ _
         have hs0 : w.heap.size ≤ w.heap.size := Nat.le_refl _
         go_wp2_with fail
         refine (qFirst t ht _).mono ?_
         rintro e w1 ⟨rfl, hb1⟩
         rw [HF.out]
         have HY1 := Lib.hid (blk_below HY0.out hb1 (blk_lt HY0.out))
         have hg1 : GL [Y] w w1 := gl_below hb1 hg0
         have hs1 := hg1.size
         have fa1 := blk_cell HY1.out
         have fb1 := blk_free HY1.out
         have fl1 := blk_lt HY1.out
         go_wp2_with fail
         refine (qPub own hown _).mono ?_
         rintro e w2 ⟨rfl, hb2⟩
         rw [HSO.out]
         clear fa1 fb1 fl1
         have HY2 := Lib.hid (blk_below HY1.out hb2 (blk_lt HY1.out))
         have hg2 : GL [Y] w w2 := gl_below hb2 hg1
         have hs2 := hg2.size
         have fa2 := blk_cell HY2.out
         have fb2 := blk_free HY2.out
         have fl2 := blk_lt HY2.out
         go_wp2_with fail
         go_region_held3 (fun w' => w'.cell? ⟨Y, 6, none⟩ = some (.string (bs k1)) ∧ w'.cell? ⟨Y, 1, none⟩ = some (.string (bs drawn)))
          (first | go_keep | (refine ⟨?_, ?_⟩ <;> (first | exact blk_cell HY3.out 6 | exact blk_cell HY3.out 1 | exact blk_cell HY4.out 6 | exact blk_cell HY4.out 1)))
          ((first
             | (go_at_call 52
                go_must (refine (qAgree drawn f hdrawn om_ _).mono ?_)
                rintro e w3 ⟨rfl, hd3⟩
                rw [HX1.out]
                have hb3 : Below w2.heap.size w2 w3 := ⟨hd3.os, hd3.tape, hd3.output, hd3.size, hd3.block⟩
                have HY3 := Lib.hid (blk_below HY2.out hb3 (blk_lt HY2.out))
                have hg3 : GL [Y] w w3 := gl_below hb3 hg2
                have hs3 := hg3.size
                clear hd3)
             | (go_at_call 51
                go_must (refine (qHash k1 x1 hk1 om_ _).mono ?_)
                rintro e w4 ⟨rfl, hd4⟩
                rw [HY1e.out]
                have hb4 : Below w3.heap.size w3 w4 := ⟨hd4.os, hd4.tape, hd4.output, hd4.size, hd4.block⟩
                have HY4 := Lib.hid (blk_below HY3.out hb4 (blk_lt HY3.out))
                have hg4 : GL [Y] w w4 := gl_below hb4 hg3
                have hs4 := hg4.size
                clear hd4)))
         clear fa2 fb2 fl2
         have fa3 := blk_cell HY4.out
         have fb3 := blk_free HY4.out
         have fl3 := blk_lt HY4.out
         go_wp2_with fail
         refine (qAgree own f hown om_ _).mono ?_
         rintro e w5 ⟨rfl, hb5⟩
         rw [HX2.out]
         clear fa3 fb3 fl3
         have HY5 := Lib.hid (blk_below HY4.out hb5 (blk_lt HY4.out))
         have hg5 : GL [Y] w w5 := gl_below hb5 hg4
         have hs5 := hg5.size
         go_wp2_with fail
         refine (qHash y1 x2 om_ om_ _).mono ?_
         rintro e w6 ⟨rfl, hb6⟩
         rw [HY2e.out]
         have HY6 := Lib.hid (blk_below HY5.out hb6 (blk_lt HY5.out))
         have hg6 : GL [Y] w w6 := gl_below hb6 hg5
         have hs6 := hg6.size
         go_wp2_with fail
         refine (qAct so y2 om_ om_ _).mono ?_
         rintro e w7 ⟨rfl, hb7⟩
         rw [HSA.out]
         have HY7 := Lib.hid (blk_below HY6.out hb7 (blk_lt HY6.out))
         have hg7 : GL [Y] w w7 := gl_below hb7 hg6
         have hs7 := hg7.size
         go_wp2_with fail
         refine (ref_two 66 66 rfl y1 sa om_ om_ _).mono ?_
         rintro e w8 ⟨rfl, hb8⟩
         rw [HBX.out]
         have HY8 := Lib.hid (blk_below HY7.out hb8 (blk_lt HY7.out))
         have hg8 : GL [Y] w w8 := gl_below hb8 hg7
         have hs8 := hg8.size
         have fa4 := blk_cell HY8.out
         have fb4 := blk_free HY8.out
         have fl4 := blk_lt HY8.out
         go_wp2_with fail
         clear fa4 fb4 fl4
         have HC9 := Lib.hid (show RefAt (w8.alloc (.cells #[.string (bs own), .string (bs drawn), .string (bs peer), .int .i64 st, .bool dials, .bool closed, .string (bs k1), .string (bs k2), .string (bs okey), .int .i64 oc, .string (bs ikey), .int .i64 ic] 85)) w8.heap.size own drawn peer st dials closed k1 k2 okey oc ikey ic from blk_new w8 (.cells #[.string (bs own), .string (bs drawn), .string (bs peer), .int .i64 st, .bool dials, .bool closed, .string (bs k1), .string (bs k2), .string (bs okey), .int .i64 oc, .string (bs ikey), .int .i64 ic] 85))
         have HY9 := Lib.hid (blk_alloc HY8.out (.cells #[.string (bs own), .string (bs drawn), .string (bs peer), .int .i64 st, .bool dials, .bool closed, .string (bs k1), .string (bs k2), .string (bs okey), .int .i64 oc, .string (bs ikey), .int .i64 ic] 85))
         have hg9 : GL [Y] w (w8.alloc (.cells #[.string (bs own), .string (bs drawn), .string (bs peer), .int .i64 st, .bool dials, .bool closed, .string (bs k1), .string (bs k2), .string (bs okey), .int .i64 oc, .string (bs ikey), .int .i64 ic] 85)) := gl_alloc hg8 _
         have hneC : Y ≠ w8.heap.size := by have := blk_lt HY8.out; omega
         have hgeC := hg8.size
         generalize w8.alloc (.cells #[.string (bs own), .string (bs drawn), .string (bs peer), .int .i64 st, .bool dials, .bool closed, .string (bs k1), .string (bs k2), .string (bs okey), .int .i64 oc, .string (bs ikey), .int .i64 ic] 85) = w9 at *
         generalize w8.heap.size = C at *
         refine (qAct f y1 om_ om_ _).mono ?_
         rintro e w10 ⟨rfl, hb10⟩
         rw [HWA.out]
         have HY10 := Lib.hid (blk_below HY9.out hb10 (blk_lt HY9.out))
         have HC10 := Lib.hid (show RefAt w10 C own drawn peer st dials closed k1 k2 okey oc ikey ic from blk_below HC9.out hb10 (blk_lt HC9.out))
         have hg10 : GL [Y] w w10 := gl_below hb10 hg9
         go_wp2_with fail
         refine (qKeys y2 om_ C own drawn peer st dials closed k1 k2 okey oc ikey ic _ HC10.out).mono ?_
         rintro e w11 ⟨hl11, hp11⟩
         rw [(keys_two HKR.out).2, (keys_two HKR.out).1] at hp11
         rw [if_pos rfl] at hp11
         obtain ⟨rfl, _⟩ := hp11
         have HY11 := Lib.hid (show RefAt w11 Y own drawn peer st dials closed k1 k2 okey oc ikey ic from blk_gl HY10.out hl11 so_)
         have hg11 : GL [Y] w w11 := gl_step hl11 hg10 (fun r hr => .inr (by simp at hr; omega))
         go_wp2_with fail
         refine (qKeys y2 om_ Y own drawn peer st dials closed k1 k2 okey oc ikey ic _ HY11.out).mono ?_
         rintro e w12 ⟨hl12, hp12⟩
         rw [(keys_two HKR.out).2, (keys_two HKR.out).1] at hp12
         rw [if_pos rfl] at hp12
         obtain ⟨rfl, hy12⟩ := hp12
         have HY12 := Lib.hid hy12
         have hg12 : GL [Y] w w12 := gl_step hl12 hg11 (fun r hr => .inl hr)
         clear hy12
         have fa5 := blk_cell HY12.out
         have fb5 := blk_free HY12.out
         have fl5 := blk_lt HY12.out
         go_wp2_with fail
         clear fa5 fb5 fl5
         go_ret2
         unfold TwoRP
         rw [H.out, if_neg (by rintro (h | h | h); exact HT.out h; exact h rfl; cases h)]
         exact ⟨(gl_seti (p := ⟨Y, 3, none⟩) si_ (gl_seti (p := ⟨Y, 7, none⟩) si_ hg12 (.string (bs y1))) (.int .i64 3)), by first | rfl | (simp; done), y1, refAt_stage (refAt_k2 HY12.out y1) 3⟩
       | false =>
         have HBAD := Lib.hid (show t ≠ wa ∨ (0 : Int) ≠ 0 ∨ false = false from .inr (.inr rfl))
         go_enter Tryz.func78, Tryz.ntmps78
         have hg0 : GL [Y] w w := gl_refl _ _
         have hs0 : w.heap.size ≤ w.heap.size := Nat.le_refl _
         go_wp2_with fail
         refine (qFirst t ht _).mono ?_
         rintro e w1 ⟨rfl, hb1⟩
         rw [HF.out]
         have HY1 := Lib.hid (blk_below HY0.out hb1 (blk_lt HY0.out))
         have hg1 : GL [Y] w w1 := gl_below hb1 hg0
         have hs1 := hg1.size
         have fa1 := blk_cell HY1.out
         have fb1 := blk_free HY1.out
         have fl1 := blk_lt HY1.out
         go_wp2_with fail
         refine (qPub own hown _).mono ?_
         rintro e w2 ⟨rfl, hb2⟩
         rw [HSO.out]
         clear fa1 fb1 fl1
         have HY2 := Lib.hid (blk_below HY1.out hb2 (blk_lt HY1.out))
         have hg2 : GL [Y] w w2 := gl_below hb2 hg1
         have hs2 := hg2.size
         have fa2 := blk_cell HY2.out
         have fb2 := blk_free HY2.out
         have fl2 := blk_lt HY2.out
         go_wp2_with fail
         go_region_held3 (fun w' => w'.cell? ⟨Y, 6, none⟩ = some (.string (bs k1)) ∧ w'.cell? ⟨Y, 1, none⟩ = some (.string (bs drawn)))
          (first | go_keep | (refine ⟨?_, ?_⟩ <;> (first | exact blk_cell HY3.out 6 | exact blk_cell HY3.out 1 | exact blk_cell HY4.out 6 | exact blk_cell HY4.out 1)))
          ((first
             | (go_at_call 52
                go_must (refine (qAgree drawn f hdrawn om_ _).mono ?_)
                rintro e w3 ⟨rfl, hd3⟩
                rw [HX1.out]
                have hb3 : Below w2.heap.size w2 w3 := ⟨hd3.os, hd3.tape, hd3.output, hd3.size, hd3.block⟩
                have HY3 := Lib.hid (blk_below HY2.out hb3 (blk_lt HY2.out))
                have hg3 : GL [Y] w w3 := gl_below hb3 hg2
                have hs3 := hg3.size
                clear hd3)
             | (go_at_call 51
                go_must (refine (qHash k1 x1 hk1 om_ _).mono ?_)
                rintro e w4 ⟨rfl, hd4⟩
                rw [HY1e.out]
                have hb4 : Below w3.heap.size w3 w4 := ⟨hd4.os, hd4.tape, hd4.output, hd4.size, hd4.block⟩
                have HY4 := Lib.hid (blk_below HY3.out hb4 (blk_lt HY3.out))
                have hg4 : GL [Y] w w4 := gl_below hb4 hg3
                have hs4 := hg4.size
                clear hd4)))
         clear fa2 fb2 fl2
         have fa3 := blk_cell HY4.out
         have fb3 := blk_free HY4.out
         have fl3 := blk_lt HY4.out
         go_wp2_with fail
         refine (qAgree own f hown om_ _).mono ?_
         rintro e w5 ⟨rfl, hb5⟩
         rw [HX2.out]
         clear fa3 fb3 fl3
         have HY5 := Lib.hid (blk_below HY4.out hb5 (blk_lt HY4.out))
         have hg5 : GL [Y] w w5 := gl_below hb5 hg4
         have hs5 := hg5.size
         go_wp2_with fail
         refine (qHash y1 x2 om_ om_ _).mono ?_
         rintro e w6 ⟨rfl, hb6⟩
         rw [HY2e.out]
         have HY6 := Lib.hid (blk_below HY5.out hb6 (blk_lt HY5.out))
         have hg6 : GL [Y] w w6 := gl_below hb6 hg5
         have hs6 := hg6.size
         go_wp2_with fail
         refine (qAct so y2 om_ om_ _).mono ?_
         rintro e w7 ⟨rfl, hb7⟩
         rw [HSA.out]
         have HY7 := Lib.hid (blk_below HY6.out hb7 (blk_lt HY6.out))
         have hg7 : GL [Y] w w7 := gl_below hb7 hg6
         have hs7 := hg7.size
         go_wp2_with fail
         refine (ref_two 66 66 rfl y1 sa om_ om_ _).mono ?_
         rintro e w8 ⟨rfl, hb8⟩
         rw [HBX.out]
         have HY8 := Lib.hid (blk_below HY7.out hb8 (blk_lt HY7.out))
         have hg8 : GL [Y] w w8 := gl_below hb8 hg7
         have hs8 := hg8.size
         have fa4 := blk_cell HY8.out
         have fb4 := blk_free HY8.out
         have fl4 := blk_lt HY8.out
         go_wp2_with fail
         clear fa4 fb4 fl4
         have HC9 := Lib.hid (show RefAt (w8.alloc (.cells #[.string (bs own), .string (bs drawn), .string (bs peer), .int .i64 st, .bool dials, .bool closed, .string (bs k1), .string (bs k2), .string (bs okey), .int .i64 oc, .string (bs ikey), .int .i64 ic] 85)) w8.heap.size own drawn peer st dials closed k1 k2 okey oc ikey ic from blk_new w8 (.cells #[.string (bs own), .string (bs drawn), .string (bs peer), .int .i64 st, .bool dials, .bool closed, .string (bs k1), .string (bs k2), .string (bs okey), .int .i64 oc, .string (bs ikey), .int .i64 ic] 85))
         have HY9 := Lib.hid (blk_alloc HY8.out (.cells #[.string (bs own), .string (bs drawn), .string (bs peer), .int .i64 st, .bool dials, .bool closed, .string (bs k1), .string (bs k2), .string (bs okey), .int .i64 oc, .string (bs ikey), .int .i64 ic] 85))
         have hg9 : GL [Y] w (w8.alloc (.cells #[.string (bs own), .string (bs drawn), .string (bs peer), .int .i64 st, .bool dials, .bool closed, .string (bs k1), .string (bs k2), .string (bs okey), .int .i64 oc, .string (bs ikey), .int .i64 ic] 85)) := gl_alloc hg8 _
         have hneC : Y ≠ w8.heap.size := by have := blk_lt HY8.out; omega
         have hgeC := hg8.size
         generalize w8.alloc (.cells #[.string (bs own), .string (bs drawn), .string (bs peer), .int .i64 st, .bool dials, .bool closed, .string (bs k1), .string (bs k2), .string (bs okey), .int .i64 oc, .string (bs ikey), .int .i64 ic] 85) = w9 at *
         generalize w8.heap.size = C at *
         refine (qAct f y1 om_ om_ _).mono ?_
         rintro e w10 ⟨rfl, hb10⟩
         rw [HWA.out]
         have HY10 := Lib.hid (blk_below HY9.out hb10 (blk_lt HY9.out))
         have HC10 := Lib.hid (show RefAt w10 C own drawn peer st dials closed k1 k2 okey oc ikey ic from blk_below HC9.out hb10 (blk_lt HC9.out))
         have hg10 : GL [Y] w w10 := gl_below hb10 hg9
         go_wp2_with fail
         refine (qKeys y2 om_ C own drawn peer st dials closed k1 k2 okey oc ikey ic _ HC10.out).mono ?_
         rintro e w11 ⟨hl11, hp11⟩
         rw [(keys_two HKR.out).2, (keys_two HKR.out).1] at hp11
         rw [if_neg si_] at hp11
         obtain ⟨rfl, _⟩ := hp11
         have HY11 := Lib.hid (blk_gl HY10.out hl11 so_)
         have hg11 : GL [Y] w w11 := gl_step hl11 hg10 (fun r hr => .inr (by simp at hr; omega))
         go_wp2_with fail
         go_ret2
         unfold TwoRP
         rw [H.out, if_pos HBAD.out]
         exact ⟨hg11, by first | rfl | (simp; done), HY11.out⟩
     · have b3 : (g != 0) = true := by simpa using hg
       have HBAD := Lib.hid (show t ≠ wa ∨ g ≠ 0 ∨ kb = false from .inr (.inl hg))
       clear hg
       go_enter Tryz.func78, Tryz.ntmps78
       have hg0 : GL [Y] w w := gl_refl _ _
       have hs0 : w.heap.size ≤ w.heap.size := Nat.le_refl _
       go_wp2_with fail
       refine (qFirst t ht _).mono ?_
       rintro e w1 ⟨rfl, hb1⟩
       rw [HF.out]
       have HY1 := Lib.hid (blk_below HY0.out hb1 (blk_lt HY0.out))
       have hg1 : GL [Y] w w1 := gl_below hb1 hg0
       have hs1 := hg1.size
       have fa1 := blk_cell HY1.out
       have fb1 := blk_free HY1.out
       have fl1 := blk_lt HY1.out
       go_wp2_with fail
       refine (qPub own hown _).mono ?_
       rintro e w2 ⟨rfl, hb2⟩
       rw [HSO.out]
       clear fa1 fb1 fl1
       have HY2 := Lib.hid (blk_below HY1.out hb2 (blk_lt HY1.out))
       have hg2 : GL [Y] w w2 := gl_below hb2 hg1
       have hs2 := hg2.size
       have fa2 := blk_cell HY2.out
       have fb2 := blk_free HY2.out
       have fl2 := blk_lt HY2.out
       go_wp2_with fail
       go_region_held3 (fun w' => w'.cell? ⟨Y, 6, none⟩ = some (.string (bs k1)) ∧ w'.cell? ⟨Y, 1, none⟩ = some (.string (bs drawn)))
        (first | go_keep | (refine ⟨?_, ?_⟩ <;> (first | exact blk_cell HY3.out 6 | exact blk_cell HY3.out 1 | exact blk_cell HY4.out 6 | exact blk_cell HY4.out 1)))
        ((first
           | (go_at_call 52
              go_must (refine (qAgree drawn f hdrawn om_ _).mono ?_)
              rintro e w3 ⟨rfl, hd3⟩
              rw [HX1.out]
              have hb3 : Below w2.heap.size w2 w3 := ⟨hd3.os, hd3.tape, hd3.output, hd3.size, hd3.block⟩
              have HY3 := Lib.hid (blk_below HY2.out hb3 (blk_lt HY2.out))
              have hg3 : GL [Y] w w3 := gl_below hb3 hg2
              have hs3 := hg3.size
              clear hd3)
           | (go_at_call 51
              go_must (refine (qHash k1 x1 hk1 om_ _).mono ?_)
              rintro e w4 ⟨rfl, hd4⟩
              rw [HY1e.out]
              have hb4 : Below w3.heap.size w3 w4 := ⟨hd4.os, hd4.tape, hd4.output, hd4.size, hd4.block⟩
              have HY4 := Lib.hid (blk_below HY3.out hb4 (blk_lt HY3.out))
              have hg4 : GL [Y] w w4 := gl_below hb4 hg3
              have hs4 := hg4.size
              clear hd4)))
       clear fa2 fb2 fl2
       have fa3 := blk_cell HY4.out
       have fb3 := blk_free HY4.out
       have fl3 := blk_lt HY4.out
       go_wp2_with fail
       refine (qAgree own f hown om_ _).mono ?_
       rintro e w5 ⟨rfl, hb5⟩
       rw [HX2.out]
       clear fa3 fb3 fl3
       have HY5 := Lib.hid (blk_below HY4.out hb5 (blk_lt HY4.out))
       have hg5 : GL [Y] w w5 := gl_below hb5 hg4
       have hs5 := hg5.size
       go_wp2_with fail
       refine (qHash y1 x2 om_ om_ _).mono ?_
       rintro e w6 ⟨rfl, hb6⟩
       rw [HY2e.out]
       have HY6 := Lib.hid (blk_below HY5.out hb6 (blk_lt HY5.out))
       have hg6 : GL [Y] w w6 := gl_below hb6 hg5
       have hs6 := hg6.size
       go_wp2_with fail
       refine (qAct so y2 om_ om_ _).mono ?_
       rintro e w7 ⟨rfl, hb7⟩
       rw [HSA.out]
       have HY7 := Lib.hid (blk_below HY6.out hb7 (blk_lt HY6.out))
       have hg7 : GL [Y] w w7 := gl_below hb7 hg6
       have hs7 := hg7.size
       go_wp2_with fail
       refine (ref_two 66 66 rfl y1 sa om_ om_ _).mono ?_
       rintro e w8 ⟨rfl, hb8⟩
       rw [HBX.out]
       have HY8 := Lib.hid (blk_below HY7.out hb8 (blk_lt HY7.out))
       have hg8 : GL [Y] w w8 := gl_below hb8 hg7
       have hs8 := hg8.size
       have fa4 := blk_cell HY8.out
       have fb4 := blk_free HY8.out
       have fl4 := blk_lt HY8.out
       go_wp2_with fail
       clear fa4 fb4 fl4
       have HC9 := Lib.hid (show RefAt (w8.alloc (.cells #[.string (bs own), .string (bs drawn), .string (bs peer), .int .i64 st, .bool dials, .bool closed, .string (bs k1), .string (bs k2), .string (bs okey), .int .i64 oc, .string (bs ikey), .int .i64 ic] 85)) w8.heap.size own drawn peer st dials closed k1 k2 okey oc ikey ic from blk_new w8 (.cells #[.string (bs own), .string (bs drawn), .string (bs peer), .int .i64 st, .bool dials, .bool closed, .string (bs k1), .string (bs k2), .string (bs okey), .int .i64 oc, .string (bs ikey), .int .i64 ic] 85))
       have HY9 := Lib.hid (blk_alloc HY8.out (.cells #[.string (bs own), .string (bs drawn), .string (bs peer), .int .i64 st, .bool dials, .bool closed, .string (bs k1), .string (bs k2), .string (bs okey), .int .i64 oc, .string (bs ikey), .int .i64 ic] 85))
       have hg9 : GL [Y] w (w8.alloc (.cells #[.string (bs own), .string (bs drawn), .string (bs peer), .int .i64 st, .bool dials, .bool closed, .string (bs k1), .string (bs k2), .string (bs okey), .int .i64 oc, .string (bs ikey), .int .i64 ic] 85)) := gl_alloc hg8 _
       have hneC : Y ≠ w8.heap.size := by have := blk_lt HY8.out; omega
       have hgeC := hg8.size
       generalize w8.alloc (.cells #[.string (bs own), .string (bs drawn), .string (bs peer), .int .i64 st, .bool dials, .bool closed, .string (bs k1), .string (bs k2), .string (bs okey), .int .i64 oc, .string (bs ikey), .int .i64 ic] 85) = w9 at *
       generalize w8.heap.size = C at *
       refine (qAct f y1 om_ om_ _).mono ?_
       rintro e w10 ⟨rfl, hb10⟩
       rw [HWA.out]
       have HY10 := Lib.hid (blk_below HY9.out hb10 (blk_lt HY9.out))
       have HC10 := Lib.hid (show RefAt w10 C own drawn peer st dials closed k1 k2 okey oc ikey ic from blk_below HC9.out hb10 (blk_lt HC9.out))
       have hg10 : GL [Y] w w10 := gl_below hb10 hg9
       have fa5 := blk_cell HY10.out
       have fb5 := blk_free HY10.out
       have fl5 := blk_lt HY10.out
       go_wp2_with fail
       clear fa5 fb5 fl5
       go_ret2
       unfold TwoRP
       rw [H.out, if_pos HBAD.out]
       exact ⟨hg10, by first | rfl | (simp; done), HY10.out⟩
   · have b1 : (t != wa) = true := by simpa using h1
     have b2 : (t == wa) = false := by simpa using h1
     have HBAD := Lib.hid (show t ≠ wa ∨ g ≠ 0 ∨ kb = false from .inl h1)
     clear h1
     go_enter Tryz.func78, Tryz.ntmps78
     have hg0 : GL [Y] w w := gl_refl _ _
     have hs0 : w.heap.size ≤ w.heap.size := Nat.le_refl _
     go_wp2_with fail
     refine (qFirst t ht _).mono ?_
     rintro e w1 ⟨rfl, hb1⟩
     rw [HF.out]
     have HY1 := Lib.hid (blk_below HY0.out hb1 (blk_lt HY0.out))
     have hg1 : GL [Y] w w1 := gl_below hb1 hg0
     have hs1 := hg1.size
     have fa1 := blk_cell HY1.out
     have fb1 := blk_free HY1.out
     have fl1 := blk_lt HY1.out
     go_wp2_with fail
     refine (qPub own hown _).mono ?_
     rintro e w2 ⟨rfl, hb2⟩
     rw [HSO.out]
     clear fa1 fb1 fl1
     have HY2 := Lib.hid (blk_below HY1.out hb2 (blk_lt HY1.out))
     have hg2 : GL [Y] w w2 := gl_below hb2 hg1
     have hs2 := hg2.size
     have fa2 := blk_cell HY2.out
     have fb2 := blk_free HY2.out
     have fl2 := blk_lt HY2.out
     go_wp2_with fail
     go_region_held3 (fun w' => w'.cell? ⟨Y, 6, none⟩ = some (.string (bs k1)) ∧ w'.cell? ⟨Y, 1, none⟩ = some (.string (bs drawn)))
      (first | go_keep | (refine ⟨?_, ?_⟩ <;> (first | exact blk_cell HY3.out 6 | exact blk_cell HY3.out 1 | exact blk_cell HY4.out 6 | exact blk_cell HY4.out 1)))
      ((first
         | (go_at_call 52
            go_must (refine (qAgree drawn f hdrawn om_ _).mono ?_)
            rintro e w3 ⟨rfl, hd3⟩
            rw [HX1.out]
            have hb3 : Below w2.heap.size w2 w3 := ⟨hd3.os, hd3.tape, hd3.output, hd3.size, hd3.block⟩
            have HY3 := Lib.hid (blk_below HY2.out hb3 (blk_lt HY2.out))
            have hg3 : GL [Y] w w3 := gl_below hb3 hg2
            have hs3 := hg3.size
            clear hd3)
         | (go_at_call 51
            go_must (refine (qHash k1 x1 hk1 om_ _).mono ?_)
            rintro e w4 ⟨rfl, hd4⟩
            rw [HY1e.out]
            have hb4 : Below w3.heap.size w3 w4 := ⟨hd4.os, hd4.tape, hd4.output, hd4.size, hd4.block⟩
            have HY4 := Lib.hid (blk_below HY3.out hb4 (blk_lt HY3.out))
            have hg4 : GL [Y] w w4 := gl_below hb4 hg3
            have hs4 := hg4.size
            clear hd4)))
     clear fa2 fb2 fl2
     have fa3 := blk_cell HY4.out
     have fb3 := blk_free HY4.out
     have fl3 := blk_lt HY4.out
     go_wp2_with fail
     refine (qAgree own f hown om_ _).mono ?_
     rintro e w5 ⟨rfl, hb5⟩
     rw [HX2.out]
     clear fa3 fb3 fl3
     have HY5 := Lib.hid (blk_below HY4.out hb5 (blk_lt HY4.out))
     have hg5 : GL [Y] w w5 := gl_below hb5 hg4
     have hs5 := hg5.size
     go_wp2_with fail
     refine (qHash y1 x2 om_ om_ _).mono ?_
     rintro e w6 ⟨rfl, hb6⟩
     rw [HY2e.out]
     have HY6 := Lib.hid (blk_below HY5.out hb6 (blk_lt HY5.out))
     have hg6 : GL [Y] w w6 := gl_below hb6 hg5
     have hs6 := hg6.size
     go_wp2_with fail
     refine (qAct so y2 om_ om_ _).mono ?_
     rintro e w7 ⟨rfl, hb7⟩
     rw [HSA.out]
     have HY7 := Lib.hid (blk_below HY6.out hb7 (blk_lt HY6.out))
     have hg7 : GL [Y] w w7 := gl_below hb7 hg6
     have hs7 := hg7.size
     go_wp2_with fail
     refine (ref_two 66 66 rfl y1 sa om_ om_ _).mono ?_
     rintro e w8 ⟨rfl, hb8⟩
     rw [HBX.out]
     have HY8 := Lib.hid (blk_below HY7.out hb8 (blk_lt HY7.out))
     have hg8 : GL [Y] w w8 := gl_below hb8 hg7
     have hs8 := hg8.size
     have fa4 := blk_cell HY8.out
     have fb4 := blk_free HY8.out
     have fl4 := blk_lt HY8.out
     go_wp2_with fail
     clear fa4 fb4 fl4
     have HC9 := Lib.hid (show RefAt (w8.alloc (.cells #[.string (bs own), .string (bs drawn), .string (bs peer), .int .i64 st, .bool dials, .bool closed, .string (bs k1), .string (bs k2), .string (bs okey), .int .i64 oc, .string (bs ikey), .int .i64 ic] 85)) w8.heap.size own drawn peer st dials closed k1 k2 okey oc ikey ic from blk_new w8 (.cells #[.string (bs own), .string (bs drawn), .string (bs peer), .int .i64 st, .bool dials, .bool closed, .string (bs k1), .string (bs k2), .string (bs okey), .int .i64 oc, .string (bs ikey), .int .i64 ic] 85))
     have HY9 := Lib.hid (blk_alloc HY8.out (.cells #[.string (bs own), .string (bs drawn), .string (bs peer), .int .i64 st, .bool dials, .bool closed, .string (bs k1), .string (bs k2), .string (bs okey), .int .i64 oc, .string (bs ikey), .int .i64 ic] 85))
     have hg9 : GL [Y] w (w8.alloc (.cells #[.string (bs own), .string (bs drawn), .string (bs peer), .int .i64 st, .bool dials, .bool closed, .string (bs k1), .string (bs k2), .string (bs okey), .int .i64 oc, .string (bs ikey), .int .i64 ic] 85)) := gl_alloc hg8 _
     have hneC : Y ≠ w8.heap.size := by have := blk_lt HY8.out; omega
     have hgeC := hg8.size
     generalize w8.alloc (.cells #[.string (bs own), .string (bs drawn), .string (bs peer), .int .i64 st, .bool dials, .bool closed, .string (bs k1), .string (bs k2), .string (bs okey), .int .i64 oc, .string (bs ikey), .int .i64 ic] 85) = w9 at *
     generalize w8.heap.size = C at *
     refine (qAct f y1 om_ om_ _).mono ?_
     rintro e w10 ⟨rfl, hb10⟩
     rw [HWA.out]
     have HY10 := Lib.hid (blk_below HY9.out hb10 (blk_lt HY9.out))
     have HC10 := Lib.hid (show RefAt w10 C own drawn peer st dials closed k1 k2 okey oc ikey ic from blk_below HC9.out hb10 (blk_lt HC9.out))
     have hg10 : GL [Y] w w10 := gl_below hb10 hg9
     have fa5 := blk_cell HY10.out
     have fb5 := blk_free HY10.out
     have fl5 := blk_lt HY10.out
     go_wp2_with fail
     clear fa5 fb5 fl5
     go_ret2
     unfold TwoRP
     rw [H.out, if_pos HBAD.out]
     exact ⟨hg10, by first | rfl | (simp; done), HY10.out⟩
end Go.Proofs.YtaaiaahkakkleaaGreatDoor
