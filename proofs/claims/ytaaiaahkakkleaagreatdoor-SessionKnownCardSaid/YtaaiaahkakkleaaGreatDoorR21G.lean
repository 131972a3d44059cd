/- The document's layer 21: a session dials, listens, hears, sends. -/
import Derived.Test.YtaaiaahkakkleaaGreatDoorR21F
set_option maxRecDepth 100000
set_option maxHeartbeats 2000000
set_option linter.unusedSimpArgs false
set_option linter.unusedVariables false
namespace Go.Proofs.YtaaiaahkakkleaaGreatDoor
open Go.RowKit
theorem qHearDead (t : List UInt8) (Y : Nat) (own drawn peer : List UInt8) (st : Int) (dials closed : Bool) (k1 k2 okey : List UInt8) (oc : Int) (ikey : List UInt8) (ic : Int) (w : World) (hY : RefAt w Y own drawn peer st dials true k1 k2 okey oc ikey ic) :
  Calls Tryz.prog 54 #[.pointer (some ⟨Y, 0, none⟩), .string (bs t)] w fun e w' => e = .returned (.tuple #[.string (bs []), .string (bs []), .bool false, .int .i64 212]) ∧ w = w' := by
 have f0 := blk_cell hY
 have f1 := blk_free hY
 have f2 := blk_lt hY
 clear hY
 go_enter Tryz.func54, Tryz.ntmps54
 go_wp2_with fail
 refine bodyPost_ret (v := .tuple #[.string (bs []), .string (bs []), .bool false, .int .i64 212]) (by simp [results, Tryz.results54, go_sem]) rfl ?_
 exact ⟨rfl, rfl⟩
def Hear0P (Y : Nat) (own drawn peer : List UInt8) (dials : Bool) (k1 k2 okey : List UInt8) (oc : Int) (ikey : List UInt8) (ic : Int) (w : World) (r : Option (List UInt8 × List UInt8)) (e : Ending) (w' : World) : Prop :=
 GL [Y] w w' ∧ match r with
 | none => e = .returned (.tuple #[.string (bs []), .string (bs []), .bool false, .int .i64 210]) ∧ RefAt w' Y own drawn peer 0 dials true k1 k2 okey oc ikey ic
 | some (k, say) => e = .returned (.tuple #[.string (bs say), .string (bs []), .bool false, .int .i64 0]) ∧ ∃ q, q.length ≤ 16384 ∧ RefAt w' Y own drawn peer 2 dials false q k okey oc ikey ic
def Hear1P (Y : Nat) (own drawn peer : List UInt8) (dials : Bool) (k1 k2 okey : List UInt8) (oc : Int) (ikey : List UInt8) (ic : Int) (w : World) (r : Option ((List UInt8 × List UInt8) × List UInt8)) (e : Ending) (w' : World) : Prop :=
 GL [Y] w w' ∧ match r with
 | none => e = .returned (.tuple #[.string (bs []), .string (bs []), .bool false, .int .i64 210]) ∧ RefAt w' Y own drawn peer 1 dials true k1 k2 okey oc ikey ic
 | some (k, say) => e = .returned (.tuple #[.string (bs say), .string (bs []), .bool false, .int .i64 0]) ∧ ∃ q, RefAt w' Y own drawn peer 3 dials false k1 q (if dials = true then k.1 else k.2) 0 (if dials = true then k.2 else k.1) 0
def Hear2P (Y : Nat) (own drawn peer : List UInt8) (dials : Bool) (k1 k2 okey : List UInt8) (oc : Int) (ikey : List UInt8) (ic : Int) (w : World) (r : Option ((List UInt8 × List UInt8) × List UInt8)) (e : Ending) (w' : World) : Prop :=
 GL [Y] w w' ∧ match r with
 | none => e = .returned (.tuple #[.string (bs []), .string (bs []), .bool false, .int .i64 210]) ∧ RefAt w' Y own drawn peer 2 dials true k1 k2 okey oc ikey ic
 | some (k, pp) => e = .returned (.tuple #[.string (bs []), .string (bs []), .bool false, .int .i64 0]) ∧ RefAt w' Y own drawn pp 3 dials false k1 k2 (if dials = true then k.1 else k.2) 0 (if dials = true then k.2 else k.1) 0
def Hear3P (Y : Nat) (own drawn peer : List UInt8) (dials : Bool) (k1 k2 okey : List UInt8) (oc : Int) (ikey : List UInt8) (ic : Nat) (w : World) (r : Option (List UInt8)) (e : Ending) (w' : World) : Prop :=
 GL [Y] w w' ∧ match r with
 | none => e = .returned (.tuple #[.string (bs []), .string (bs []), .bool false, .int .i64 211]) ∧ RefAt w' Y own drawn peer 3 dials true k1 k2 okey oc ikey ic
 | some x => e = .returned (.tuple #[.string (bs []), .string (bs x), .bool true, .int .i64 0]) ∧ RefAt w' Y own drawn peer 3 dials false k1 k2 okey oc (onM ikey ic).1 ((onM ikey ic).2 : Nat)
theorem qHear0 (t : List UInt8) (Y : Nat) (own drawn peer : List UInt8) (dials : Bool) (k1 k2 okey : List UInt8) (oc : Int) (ikey : List UInt8) (ic : Int) (hown : own.length ≤ 9000000000000000000) (hdrawn : drawn.length ≤ 9000000000000000000) (hk1 : k1.length ≤ 9000000000000000000) (hk2 : k2.length ≤ 9000000000000000000) (ht : t.length ≤ 9000000000000000000) (w : World) (hY : RefAt w Y own drawn peer 0 dials false k1 k2 okey oc ikey ic) :
  Calls Tryz.prog 54 #[.pointer (some ⟨Y, 0, none⟩), .string (bs t)] w (Hear0P Y own drawn peer dials k1 k2 okey oc ikey ic w (oneR own drawn t)) := by
 have HY0 := Lib.hid hY
 have ltY := blk_lt hY
 clear hY
 cases hr : oneR own drawn t with
 | none =>
   have HR := Lib.hid hr
   clear hr
   go_enter Tryz.func54, Tryz.ntmps54
   have hg0 : GL [Y] w w := gl_refl _ _
   have hs0 : w.heap.size ≤ w.heap.size := Nat.le_refl _
   have fa1 := blk_cell HY0.out
   have fb1 := blk_free HY0.out
   have fl1 := blk_lt HY0.out
   go_wp2_with fail
   clear fa1 fb1 fl1
   refine (qOne t Y own drawn peer 0 dials false k1 k2 okey oc ikey ic hown hdrawn hk1 hk2 ht _ HY0.out).mono ?_
   rintro e w1 ⟨hl1, hp1⟩
   rw [HR.out] at hp1
   obtain ⟨rfl, hy1⟩ := hp1
   have HY1 := Lib.hid hy1
   have hg1 : GL [Y] w w1 := gl_step hl1 hg0 (fun r hr => .inl hr)
   clear hy1
   have fa2 := blk_cell HY1.out
   have fb2 := blk_free HY1.out
   have fl2 := blk_lt HY1.out
   go_wp2_with fail
   clear fa2 fb2 fl2
   refine bodyPost_ret (v := .tuple #[.string (bs []), .string (bs []), .bool false, .int .i64 210]) (by simp [results, Tryz.results54, go_sem]) rfl ?_
   exact ⟨gl_seti (p := ⟨Y, 5, none⟩) si_ hg1 (.bool true), rfl, refAt_closed HY1.out true⟩
 | some r =>
   obtain ⟨k, say⟩ := r
   have HR := Lib.hid hr
   clear hr
   go_enter Tryz.func54, Tryz.ntmps54
   have hg0 : GL [Y] w w := gl_refl _ _
   have hs0 : w.heap.size ≤ w.heap.size := Nat.le_refl _
   have fa1 := blk_cell HY0.out
   have fb1 := blk_free HY0.out
   have fl1 := blk_lt HY0.out
   go_wp2_with fail
   clear fa1 fb1 fl1
   refine (qOne t Y own drawn peer 0 dials false k1 k2 okey oc ikey ic hown hdrawn hk1 hk2 ht _ HY0.out).mono ?_
   rintro e w1 ⟨hl1, hp1⟩
   rw [HR.out] at hp1
   obtain ⟨rfl, q, lq, hy1⟩ := hp1
   have HY1 := Lib.hid hy1
   have hg1 : GL [Y] w w1 := gl_step hl1 hg0 (fun r hr => .inl hr)
   clear hy1
   have fa2 := blk_cell HY1.out
   have fb2 := blk_free HY1.out
   have fl2 := blk_lt HY1.out
   go_wp2_with fail
   clear fa2 fb2 fl2
   refine bodyPost_ret (v := .tuple #[.string (bs say), .string (bs []), .bool false, .int .i64 0]) (by simp [results, Tryz.results54, go_sem]) rfl ?_
   exact ⟨hg1, rfl, q, lq, HY1.out⟩
theorem qHear1 (t : List UInt8) (Y : Nat) (own drawn peer : List UInt8) (dials : Bool) (k1 k2 okey : List UInt8) (oc : Int) (ikey : List UInt8) (ic : Int) (hown : own.length ≤ 9000000000000000000) (hdrawn : drawn.length ≤ 9000000000000000000) (hk1 : k1.length ≤ 9000000000000000000) (hk2 : k2.length ≤ 9000000000000000000) (ht : t.length ≤ 9000000000000000000) (w : World) (hY : RefAt w Y own drawn peer 1 dials false k1 k2 okey oc ikey ic) :
  Calls Tryz.prog 54 #[.pointer (some ⟨Y, 0, none⟩), .string (bs t)] w (Hear1P Y own drawn peer dials k1 k2 okey oc ikey ic w (twoR own drawn k1 t)) := by
 have HY0 := Lib.hid hY
 have ltY := blk_lt hY
 clear hY
 cases hr : twoR own drawn k1 t with
 | none =>
   have HR := Lib.hid hr
   clear hr
   go_enter Tryz.func54, Tryz.ntmps54
   have hg0 : GL [Y] w w := gl_refl _ _
   have hs0 : w.heap.size ≤ w.heap.size := Nat.le_refl _
   have fa1 := blk_cell HY0.out
   have fb1 := blk_free HY0.out
   have fl1 := blk_lt HY0.out
   go_wp2_with fail
   clear fa1 fb1 fl1
   refine (qTwo t Y own drawn peer 1 dials false k1 k2 okey oc ikey ic hown hdrawn hk1 hk2 ht _ HY0.out).mono ?_
   rintro e w1 ⟨hl1, hp1⟩
   rw [HR.out] at hp1
   obtain ⟨rfl, hy1⟩ := hp1
   have HY1 := Lib.hid hy1
   have hg1 : GL [Y] w w1 := gl_step hl1 hg0 (fun r hr => .inl hr)
   clear hy1
   have fa2 := blk_cell HY1.out
   have fb2 := blk_free HY1.out
   have fl2 := blk_lt HY1.out
   go_wp2_with fail
   clear fa2 fb2 fl2
   refine bodyPost_ret (v := .tuple #[.string (bs []), .string (bs []), .bool false, .int .i64 210]) (by simp [results, Tryz.results54, go_sem]) rfl ?_
   exact ⟨gl_seti (p := ⟨Y, 5, none⟩) si_ hg1 (.bool true), rfl, refAt_closed HY1.out true⟩
 | some r =>
   obtain ⟨k, say⟩ := r
   have HR := Lib.hid hr
   clear hr
   go_enter Tryz.func54, Tryz.ntmps54
   have hg0 : GL [Y] w w := gl_refl _ _
   have hs0 : w.heap.size ≤ w.heap.size := Nat.le_refl _
   have fa1 := blk_cell HY0.out
   have fb1 := blk_free HY0.out
   have fl1 := blk_lt HY0.out
   go_wp2_with fail
   clear fa1 fb1 fl1
   refine (qTwo t Y own drawn peer 1 dials false k1 k2 okey oc ikey ic hown hdrawn hk1 hk2 ht _ HY0.out).mono ?_
   rintro e w1 ⟨hl1, hp1⟩
   rw [HR.out] at hp1
   obtain ⟨rfl, q, hy1⟩ := hp1
   have HY1 := Lib.hid hy1
   have hg1 : GL [Y] w w1 := gl_step hl1 hg0 (fun r hr => .inl hr)
   clear hy1
   have fa2 := blk_cell HY1.out
   have fb2 := blk_free HY1.out
   have fl2 := blk_lt HY1.out
   go_wp2_with fail
   clear fa2 fb2 fl2
   refine bodyPost_ret (v := .tuple #[.string (bs say), .string (bs []), .bool false, .int .i64 0]) (by simp [results, Tryz.results54, go_sem]) rfl ?_
   exact ⟨hg1, rfl, q, HY1.out⟩
theorem qHear2 (t : List UInt8) (Y : Nat) (own drawn peer : List UInt8) (dials : Bool) (k1 k2 okey : List UInt8) (oc : Int) (ikey : List UInt8) (ic : Int) (hown : own.length ≤ 9000000000000000000) (hdrawn : drawn.length ≤ 9000000000000000000) (hk1 : k1.length ≤ 9000000000000000000) (hk2 : k2.length ≤ 9000000000000000000) (ht : t.length ≤ 9000000000000000000) (w : World) (hY : RefAt w Y own drawn peer 2 dials false k1 k2 okey oc ikey ic) :
  Calls Tryz.prog 54 #[.pointer (some ⟨Y, 0, none⟩), .string (bs t)] w (Hear2P Y own drawn peer dials k1 k2 okey oc ikey ic w (threeR drawn k2 t)) := by
 have HY0 := Lib.hid hY
 have ltY := blk_lt hY
 clear hY
 cases hr : threeR drawn k2 t with
 | none =>
   have HR := Lib.hid hr
   clear hr
   go_enter Tryz.func54, Tryz.ntmps54
   have hg0 : GL [Y] w w := gl_refl _ _
   have hs0 : w.heap.size ≤ w.heap.size := Nat.le_refl _
   have fa1 := blk_cell HY0.out
   have fb1 := blk_free HY0.out
   have fl1 := blk_lt HY0.out
   go_wp2_with fail
   clear fa1 fb1 fl1
   refine (qThree t Y own drawn peer 2 dials false k1 k2 okey oc ikey ic hown hdrawn hk1 hk2 ht _ HY0.out).mono ?_
   rintro e w1 ⟨hl1, hp1⟩
   rw [HR.out] at hp1
   obtain ⟨rfl, hy1⟩ := hp1
   have HY1 := Lib.hid hy1
   have hg1 : GL [Y] w w1 := gl_step hl1 hg0 (fun r hr => .inl hr)
   clear hy1
   have fa2 := blk_cell HY1.out
   have fb2 := blk_free HY1.out
   have fl2 := blk_lt HY1.out
   go_wp2_with fail
   clear fa2 fb2 fl2
   refine bodyPost_ret (v := .tuple #[.string (bs []), .string (bs []), .bool false, .int .i64 210]) (by simp [results, Tryz.results54, go_sem]) rfl ?_
   exact ⟨gl_seti (p := ⟨Y, 5, none⟩) si_ hg1 (.bool true), rfl, refAt_closed HY1.out true⟩
 | some r =>
   obtain ⟨k, pp⟩ := r
   have HR := Lib.hid hr
   clear hr
   go_enter Tryz.func54, Tryz.ntmps54
   have hg0 : GL [Y] w w := gl_refl _ _
   have hs0 : w.heap.size ≤ w.heap.size := Nat.le_refl _
   have fa1 := blk_cell HY0.out
   have fb1 := blk_free HY0.out
   have fl1 := blk_lt HY0.out
   go_wp2_with fail
   clear fa1 fb1 fl1
   refine (qThree t Y own drawn peer 2 dials false k1 k2 okey oc ikey ic hown hdrawn hk1 hk2 ht _ HY0.out).mono ?_
   rintro e w1 ⟨hl1, hp1⟩
   rw [HR.out] at hp1
   obtain ⟨rfl, hy1⟩ := hp1
   have HY1 := Lib.hid hy1
   have hg1 : GL [Y] w w1 := gl_step hl1 hg0 (fun r hr => .inl hr)
   clear hy1
   have fa2 := blk_cell HY1.out
   have fb2 := blk_free HY1.out
   have fl2 := blk_lt HY1.out
   go_wp2_with fail
   clear fa2 fb2 fl2
   refine bodyPost_ret (v := .tuple #[.string (bs []), .string (bs []), .bool false, .int .i64 0]) (by simp [results, Tryz.results54, go_sem]) rfl ?_
   exact ⟨hg1, rfl, HY1.out⟩
theorem qHear3 (t : List UInt8) (Y : Nat) (own drawn peer : List UInt8) (dials : Bool) (k1 k2 okey : List UInt8) (oc : Int) (ikey : List UInt8) (ic : Nat) (hik : ikey.length ≤ 9000000000000000000) (hic : ic ≤ 99) (ht : t.length ≤ 9000000000000000000) (w : World) (hY : RefAt w Y own drawn peer 3 dials false k1 k2 okey oc ikey ic) :
  Calls Tryz.prog 54 #[.pointer (some ⟨Y, 0, none⟩), .string (bs t)] w (Hear3P Y own drawn peer dials k1 k2 okey oc ikey ic w (readM ikey ic t)) := by
 have HY0 := Lib.hid hY
 have ltY := blk_lt hY
 clear hY
 cases hr : readM ikey ic t with
 | none =>
   have HR := Lib.hid hr
   clear hr
   go_enter Tryz.func54, Tryz.ntmps54
   have hg0 : GL [Y] w w := gl_refl _ _
   have hs0 : w.heap.size ≤ w.heap.size := Nat.le_refl _
   have fa1 := blk_cell HY0.out
   have fb1 := blk_free HY0.out
   have fl1 := blk_lt HY0.out
   go_wp2_with fail
   clear fa1 fb1 fl1
   refine (qRead ikey ic t hik hic ht _).mono ?_
   rintro e w1 ⟨hb1, hp1⟩
   rw [HR.out] at hp1
   have HY1 := Lib.hid (blk_below HY0.out hb1 (blk_lt HY0.out))
   have hg1 : GL [Y] w w1 := gl_below hb1 hg0
   obtain ⟨v, rfl⟩ := hp1
   have fa2 := blk_cell HY1.out
   have fb2 := blk_free HY1.out
   have fl2 := blk_lt HY1.out
   go_wp2_with fail
   clear fa2 fb2 fl2
   refine bodyPost_ret (v := .tuple #[.string (bs []), .string (bs []), .bool false, .int .i64 211]) (by simp [results, Tryz.results54, go_sem]) rfl ?_
   exact ⟨gl_seti (p := ⟨Y, 5, none⟩) si_ hg1 (.bool true), rfl, refAt_closed HY1.out true⟩
 | some x =>
   have HR := Lib.hid hr
   clear hr
   obtain ⟨nk, nc, hon⟩ : ∃ x c, onM ikey ic = (x, c) := ⟨_, _, rfl⟩
   have HON := Lib.hid hon
   clear hon
   go_enter Tryz.func54, Tryz.ntmps54
   have hg0 : GL [Y] w w := gl_refl _ _
   have hs0 : w.heap.size ≤ w.heap.size := Nat.le_refl _
   have fa1 := blk_cell HY0.out
   have fb1 := blk_free HY0.out
   have fl1 := blk_lt HY0.out
   go_wp2_with fail
   clear fa1 fb1 fl1
   refine (qRead ikey ic t hik hic ht _).mono ?_
   rintro e w1 ⟨hb1, hp1⟩
   rw [HR.out] at hp1
   have HY1 := Lib.hid (blk_below HY0.out hb1 (blk_lt HY0.out))
   have hg1 : GL [Y] w w1 := gl_below hb1 hg0
   obtain rfl := hp1
   have fa2 := blk_cell HY1.out
   have fb2 := blk_free HY1.out
   have fl2 := blk_lt HY1.out
   go_wp2_with fail
   clear fa2 fb2 fl2
   refine (qOn ikey ic hik hic _).mono ?_
   rintro e w2 ⟨rfl, hb2⟩
   rw [HON.out]
   have HY2 := Lib.hid (blk_below HY1.out hb2 (blk_lt HY1.out))
   have hg2 : GL [Y] w w2 := gl_below hb2 hg1
   have fa3 := blk_cell HY2.out
   have fb3 := blk_free HY2.out
   have fl3 := blk_lt HY2.out
   go_wp2_with fail
   clear fa3 fb3 fl3
   refine bodyPost_ret (v := .tuple #[.string (bs []), .string (bs x), .bool true, .int .i64 0]) (by simp [results, Tryz.results54, go_sem]) rfl ?_
   unfold Hear3P
   rw [HON.out]
   exact ⟨gl_seti (p := ⟨Y, 11, none⟩) si_ (gl_seti (p := ⟨Y, 10, none⟩) si_ hg2 (.string (bs nk))) (.int .i64 nc), rfl, refAt_in HY2.out nk nc⟩
theorem qSendDead (s : List UInt8) (Y : Nat) (own drawn peer : List UInt8) (st : Int) (dials closed : Bool) (k1 k2 okey : List UInt8) (oc : Int) (ikey : List UInt8) (ic : Int) (w : World) (hY : RefAt w Y own drawn peer st dials true k1 k2 okey oc ikey ic) :
  Calls Tryz.prog 55 #[.pointer (some ⟨Y, 0, none⟩), .string (bs s)] w fun e w' => e = .returned (.tuple #[.string (bs []), .int .i64 212]) ∧ w = w' := by
 have f0 := blk_cell hY
 have f1 := blk_free hY
 have f2 := blk_lt hY
 clear hY
 go_enter Tryz.func55, Tryz.ntmps55
 go_wp2_with fail
 go_ret2
 exact ⟨by first | rfl | (simp; done), rfl⟩
theorem qSendEarly (s : List UInt8) (Y : Nat) (own drawn peer : List UInt8) (st : Int) (dials closed : Bool) (k1 k2 okey : List UInt8) (oc : Int) (ikey : List UInt8) (ic : Int) (hst : (st != 3) = true) (w : World) (hY : RefAt w Y own drawn peer st dials false k1 k2 okey oc ikey ic) :
  Calls Tryz.prog 55 #[.pointer (some ⟨Y, 0, none⟩), .string (bs s)] w fun e w' => e = .returned (.tuple #[.string (bs []), .int .i64 4]) ∧ w = w' := by
 have f0 := blk_cell hY
 have f1 := blk_free hY
 have f2 := blk_lt hY
 clear hY
 go_enter Tryz.func55, Tryz.ntmps55
 go_wp2_with fail
 go_ret2
 exact ⟨by first | rfl | (simp; done), rfl⟩
def SendRP (Y : Nat) (own drawn peer : List UInt8) (dials : Bool) (k1 k2 okey : List UInt8) (oc : Nat) (ikey : List UInt8) (ic : Int) (s : List UInt8) (w : World) (e : Ending) (w' : World) : Prop :=
 GL [Y] w w' ∧ if s.length ≤ 12000 ∧ (makeM okey oc s).2 = 0 then e = .returned (.tuple #[.string (bs (makeM okey oc s).1), .int .i64 0]) ∧ RefAt w' Y own drawn peer 3 dials false k1 k2 (onM okey oc).1 ((onM okey oc).2 : Nat) ikey ic
  else e = .returned (.tuple #[.string (bs []), .int .i64 3]) ∧ RefAt w' Y own drawn peer 3 dials false k1 k2 okey oc ikey ic
theorem qSendOpen (s : List UInt8) (hs : s.length ≤ 1000000000) (Y : Nat) (own drawn peer : List UInt8) (dials : Bool) (k1 k2 okey : List UInt8) (oc : Nat) (ikey : List UInt8) (ic : Int) (hok : okey.length ≤ 9000000000000000000) (hoc : oc ≤ 99) (w : World) (hY : RefAt w Y own drawn peer 3 dials false k1 k2 okey oc ikey ic) :
  Calls Tryz.prog 55 #[.pointer (some ⟨Y, 0, none⟩), .string (bs s)] w (SendRP Y own drawn peer dials k1 k2 okey oc ikey ic s w) := by
 have HY0 := Lib.hid hY
 have ltY := blk_lt hY
 clear hY
 obtain ⟨fr, g, hf⟩ : ∃ x g, makeM okey oc s = (x, g) := ⟨_, _, rfl⟩
 have HF := Lib.hid hf
 clear hf
 by_cases hl : s.length ≤ 12000
 · have b1 : decide ((12000 : Int) < s.length) = false := by simp; omega
   have HL := Lib.hid hl
   by_cases hg : g = 0
   · subst hg
     obtain ⟨nk, nc, hon⟩ : ∃ x c, onM okey oc = (x, c) := ⟨_, _, rfl⟩
     have HON := Lib.hid hon
     clear hon hl
     go_enter Tryz.func55, Tryz.ntmps55
     have hg0 : GL [Y] w w := gl_refl _ _
     have hs0 : w.heap.size ≤ w.heap.size := Nat.le_refl _
     have fa1 := blk_cell HY0.out
     have fb1 := blk_free HY0.out
     have fl1 := blk_lt HY0.out
     go_wp2_with fail
     refine (qFrame okey oc s hok hoc hs _).mono ?_
     rintro e w1 ⟨rfl, hb1⟩
     rw [HF.out]
     clear fa1 fb1 fl1
     have HY1 := Lib.hid (blk_below HY0.out hb1 (blk_lt HY0.out))
     have hg1 : GL [Y] w w1 := gl_below hb1 hg0
     have hs1 := hg1.size
     have fa2 := blk_cell HY1.out
     have fb2 := blk_free HY1.out
     have fl2 := blk_lt HY1.out
     go_wp2_with fail
     clear fa2 fb2 fl2
     refine (qOn okey oc hok hoc _).mono ?_
     rintro e w2 ⟨rfl, hb2⟩
     rw [HON.out]
     have HY2 := Lib.hid (blk_below HY1.out hb2 (blk_lt HY1.out))
     have hg2 : GL [Y] w w2 := gl_below hb2 hg1
     have fa3 := blk_cell HY2.out
     have fb3 := blk_free HY2.out
     have fl3 := blk_lt HY2.out
     go_wp2_with fail
     clear fa3 fb3 fl3
     go_ret2
     unfold SendRP
     rw [HF.out, HON.out, if_pos ⟨HL.out, rfl⟩]
     exact ⟨gl_seti (p := ⟨Y, 9, none⟩) si_ (gl_seti (p := ⟨Y, 8, none⟩) si_ hg2 (.string (bs nk))) (.int .i64 nc), by first | rfl | (simp; done), refAt_out HY2.out nk nc⟩
   · have b2 : (g == 0) = false := by simpa using hg
     have HN := Lib.hid (show ¬ (s.length ≤ 12000 ∧ (fr, g).2 = 0) from fun h => hg h.2)
     clear hg hl
     go_enter Tryz.func55, Tryz.ntmps55
     have hg0 : GL [Y] w w := gl_refl _ _
     have hs0 : w.heap.size ≤ w.heap.size := Nat.le_refl _
     have fa1 := blk_cell HY0.out
     have fb1 := blk_free HY0.out
     have fl1 := blk_lt HY0.out
     go_wp2_with fail
     refine (qFrame okey oc s hok hoc hs _).mono ?_
     rintro e w1 ⟨rfl, hb1⟩
     rw [HF.out]
     clear fa1 fb1 fl1
     have HY1 := Lib.hid (blk_below HY0.out hb1 (blk_lt HY0.out))
     have hg1 : GL [Y] w w1 := gl_below hb1 hg0
     have hs1 := hg1.size
     have fa2 := blk_cell HY1.out
     have fb2 := blk_free HY1.out
     have fl2 := blk_lt HY1.out
     go_wp2_with fail
     clear fa2 fb2 fl2
     go_ret2
     unfold SendRP
     rw [HF.out, if_neg HN.out]
     exact ⟨hg1, by first | rfl | (simp; done), HY1.out⟩
 · have b1 : decide ((12000 : Int) < s.length) = true := by simp; omega
   have HN := Lib.hid (show ¬ (s.length ≤ 12000 ∧ (fr, g).2 = 0) from fun h => hl h.1)
   clear hl
   go_enter Tryz.func55, Tryz.ntmps55
   have hg0 : GL [Y] w w := gl_refl _ _
   have hs0 : w.heap.size ≤ w.heap.size := Nat.le_refl _
   have fa1 := blk_cell HY0.out
   have fb1 := blk_free HY0.out
   have fl1 := blk_lt HY0.out
   go_wp2_with fail
   refine (qFrame okey oc s hok hoc hs _).mono ?_
   rintro e w1 ⟨rfl, hb1⟩
   rw [HF.out]
   clear fa1 fb1 fl1
   have HY1 := Lib.hid (blk_below HY0.out hb1 (blk_lt HY0.out))
   have hg1 : GL [Y] w w1 := gl_below hb1 hg0
   have hs1 := hg1.size
   have fa2 := blk_cell HY1.out
   have fb2 := blk_free HY1.out
   have fl2 := blk_lt HY1.out
   go_wp2_with fail
   clear fa2 fb2 fl2
   go_ret2
   unfold SendRP
   rw [HF.out, if_neg HN.out]
   exact ⟨hg1, by first | rfl | (simp; done), HY1.out⟩
def DialRP (own drawn peer : List UInt8) (w : World) (r : (List UInt8 × List UInt8) × Int) (e : Ending) (w' : World) : Prop :=
 Below w.heap.size w w' ∧ if r.2 = 0 then ∃ Y, w.heap.size ≤ Y ∧ e = .returned (.tuple #[.pointer (some ⟨Y, 0, none⟩), .string (bs r.1.2), .int .i64 0]) ∧ RefAt w' Y own drawn peer 1 true false r.1.1 [] [] 0 [] 0
  else e = .returned (.tuple #[.pointer none, .string (bs []), .int .i64 r.2])
def ListenRP (own drawn : List UInt8) (w : World) (e : Ending) (w' : World) : Prop :=
 Below w.heap.size w w' ∧ if (secretB own).2 = true ∧ (secretB drawn).2 = true then ∃ Y, w.heap.size ≤ Y ∧ e = .returned (.tuple #[.pointer (some ⟨Y, 0, none⟩), .int .i64 0]) ∧ RefAt w' Y own drawn [] 0 false false [] [] [] 0 [] 0
  else e = .returned (.tuple #[.pointer none, .int .i64 10])
theorem qListen (own drawn : List UInt8) (hown : own.length ≤ 9000000000000000000) (hdrawn : drawn.length ≤ 9000000000000000000) (w : World) :
  Calls Tryz.prog 28 #[.string (bs own), .string (bs drawn)] w (ListenRP own drawn w) := by
 obtain ⟨so, bo, hso⟩ : ∃ x b, secretB own = (x, b) := ⟨_, _, rfl⟩
 obtain ⟨sd, bd, hsd⟩ : ∃ x b, secretB drawn = (x, b) := ⟨_, _, rfl⟩
 have HSO := Lib.hid hso
 have HSD := Lib.hid hsd
 clear hso hsd
 cases bo <;> cases bd
 all_goals
  go_enter Tryz.func28, Tryz.ntmps28
  have hg0 : GL [] w w := gl_refl _ _
  have hs0 : w.heap.size ≤ w.heap.size := Nat.le_refl _
  go_wp2_with fail
  refine (qPub own hown _).mono ?_
  rintro e w1 ⟨rfl, hb1⟩
  rw [HSO.out]
  have hg1 : GL [] w w1 := gl_below hb1 hg0
  have hs1 := hg1.size
  go_wp2_with fail
  refine (qPub drawn hdrawn _).mono ?_
  rintro e w2 ⟨rfl, hb2⟩
  rw [HSD.out]
  have hg2 : GL [] w w2 := gl_below hb2 hg1
  have hs2 := hg2.size
  go_wp2_with fail
  go_ret2
  unfold ListenRP
  rw [HSO.out, HSD.out]
  first
   | exact ⟨gl_to_below hg2, by rw [if_neg si_]; first | rfl | (simp; done)⟩
   | (refine ⟨gl_to_below (gl_alloc hg2 _), ?_⟩
      rw [if_pos ⟨rfl, rfl⟩]
      exact ⟨w2.heap.size, hs2, by first | rfl | (simp; done), blk_new w2 (.cells #[.string (bs own), .string (bs drawn), .string (bs []), .int .i64 0, .bool false, .bool false, .string (bs []), .string (bs []), .string (bs []), .int .i64 0, .string (bs []), .int .i64 0] 85)⟩)
theorem qDial (own drawn peer : List UInt8) (hown : own.length ≤ 9000000000000000000) (hdrawn : drawn.length ≤ 9000000000000000000) (hpeer : peer.length ≤ 9000000000000000000) (w : World) :
  Calls Tryz.prog 27 #[.string (bs own), .string (bs drawn), .string (bs peer)] w (DialRP own drawn peer w (dialM own drawn peer)) := by
 obtain ⟨so, bo, hso⟩ : ∃ x b, secretB own = (x, b) := ⟨_, _, rfl⟩
 obtain ⟨sd, bd, hsd⟩ : ∃ x b, secretB drawn = (x, b) := ⟨_, _, rfl⟩
 obtain ⟨bp, hbp⟩ : ∃ b, plainB peer = b := ⟨_, rfl⟩
 have lsd : sd.length ≤ 16384 := by have := secB_len drawn; rw [hsd] at this; exact this
 have hsd1 : (pubT drawn).1 = sd := by have := congrArg Prod.fst hsd; exact this
 obtain ⟨x1, hx1⟩ : ∃ x, agreeR drawn peer = x := ⟨_, rfl⟩
 obtain ⟨y1, hy1⟩ : ∃ x, hashR x1 peer = x := ⟨_, rfl⟩
 obtain ⟨a1, ha1⟩ : ∃ x, actR sd y1 = x := ⟨_, rfl⟩
 have hD := dial_same own drawn peer
 rw [hso, hsd, hbp, hsd1, hx1, hy1, ha1] at hD
 have HD := Lib.hid hD
 have lx1 : x1.length ≤ 16384 := by rw [← hx1]; exact agreeR_len _ _
 have ly1 : y1.length ≤ 16384 := by rw [← hy1]; exact hashR_len _ _
 have HSO := Lib.hid hso
 have HSD := Lib.hid hsd
 have HBP := Lib.hid hbp
 have HX1 := Lib.hid hx1
 have HY1 := Lib.hid hy1
 have HA1 := Lib.hid ha1
 clear hso hsd hbp hsd1 hx1 hy1 ha1 hD
 by_cases hbb : bo = true ∧ bd = true ∧ bp = true
 · obtain ⟨rfl, rfl, rfl⟩ := hbb
   by_cases h0 : a1 = []
   · have b0 : (a1 == []) = true := by rw [h0]; rfl
     subst h0
     go_enter Tryz.func27, Tryz.ntmps27
     have hg0 : GL [] w w := gl_refl _ _
     have hs0 : w.heap.size ≤ w.heap.size := Nat.le_refl _
     go_wp2_with fail
     refine (qPub own hown _).mono ?_
     rintro e w1 ⟨rfl, hb1⟩
     rw [HSO.out]
     have hg1 : GL [] w w1 := gl_below hb1 hg0
     have hs1 := hg1.size
     go_wp2_with fail
     refine (qPub drawn hdrawn _).mono ?_
     rintro e w2 ⟨rfl, hb2⟩
     rw [HSD.out]
     have hg2 : GL [] w w2 := gl_below hb2 hg1
     have hs2 := hg2.size
     go_wp2_with fail
     refine (qPlain peer hpeer _).mono ?_
     rintro e w3 ⟨rfl, hb3⟩
     rw [HBP.out]
     have hg3 : GL [] w w3 := gl_below hb3 hg2
     have hs3 := hg3.size
     go_wp2_with fail
     refine (qAgree drawn peer hdrawn hpeer _).mono ?_
     rintro e w4 ⟨rfl, hb4⟩
     rw [HX1.out]
     have hg4 : GL [] w w4 := gl_below hb4 hg3
     have hs4 := hg4.size
     go_wp2_with fail
     refine (qHash x1 peer om_ hpeer _).mono ?_
     rintro e w5 ⟨rfl, hb5⟩
     rw [HY1.out]
     have hg5 : GL [] w w5 := gl_below hb5 hg4
     have hs5 := hg5.size
     go_wp2_with fail
     refine (qAct sd y1 om_ om_ _).mono ?_
     rintro e w6 ⟨rfl, hb6⟩
     rw [HA1.out]
     have hg6 : GL [] w w6 := gl_below hb6 hg5
     have hs6 := hg6.size
     go_wp2_with fail
     refine bodyPost_ret (v := .tuple #[.pointer none, .string (bs []), .int .i64 3]) (by simp [results, Tryz.results27, go_sem]) rfl ?_
     unfold DialRP
     rw [(HD.out.trans (if_neg si_)).trans (if_pos si_), if_neg si_]
     exact ⟨gl_to_below hg6, rfl⟩
   · have b0 : (a1 == []) = false := by simpa using h0
     have HSN := Lib.hid h0
     clear h0
     go_enter Tryz.func27, Tryz.ntmps27
     have hg0 : GL [] w w := gl_refl _ _
     have hs0 : w.heap.size ≤ w.heap.size := Nat.le_refl _
     go_wp2_with fail
     refine (qPub own hown _).mono ?_
     rintro e w1 ⟨rfl, hb1⟩
     rw [HSO.out]
     have hg1 : GL [] w w1 := gl_below hb1 hg0
     have hs1 := hg1.size
     go_wp2_with fail
     refine (qPub drawn hdrawn _).mono ?_
     rintro e w2 ⟨rfl, hb2⟩
     rw [HSD.out]
     have hg2 : GL [] w w2 := gl_below hb2 hg1
     have hs2 := hg2.size
     go_wp2_with fail
     refine (qPlain peer hpeer _).mono ?_
     rintro e w3 ⟨rfl, hb3⟩
     rw [HBP.out]
     have hg3 : GL [] w w3 := gl_below hb3 hg2
     have hs3 := hg3.size
     go_wp2_with fail
     refine (qAgree drawn peer hdrawn hpeer _).mono ?_
     rintro e w4 ⟨rfl, hb4⟩
     rw [HX1.out]
     have hg4 : GL [] w w4 := gl_below hb4 hg3
     have hs4 := hg4.size
     go_wp2_with fail
     refine (qHash x1 peer om_ hpeer _).mono ?_
     rintro e w5 ⟨rfl, hb5⟩
     rw [HY1.out]
     have hg5 : GL [] w w5 := gl_below hb5 hg4
     have hs5 := hg5.size
     go_wp2_with fail
     refine (qAct sd y1 om_ om_ _).mono ?_
     rintro e w6 ⟨rfl, hb6⟩
     rw [HA1.out]
     have hg6 : GL [] w w6 := gl_below hb6 hg5
     have hs6 := hg6.size
     go_wp2_with fail
     refine bodyPost_ret (v := .tuple #[.pointer (some ⟨w6.heap.size, 0, none⟩), .string (bs a1), .int .i64 0]) (by simp [results, Tryz.results27, go_sem]) rfl ?_
     unfold DialRP
     rw [(HD.out.trans (if_neg si_)).trans (if_neg HSN.out), if_pos rfl]
     exact ⟨gl_to_below (gl_alloc hg6 _), w6.heap.size, hs6, rfl, blk_new w6 (.cells #[.string (bs own), .string (bs drawn), .string (bs peer), .int .i64 1, .bool true, .bool false, .string (bs y1), .string (bs []), .string (bs []), .int .i64 0, .string (bs []), .int .i64 0] 85)⟩
 · cases bo with
   | false =>
     go_enter Tryz.func27, Tryz.ntmps27
     have hg0 : GL [] w w := gl_refl _ _
     have hs0 : w.heap.size ≤ w.heap.size := Nat.le_refl _
     go_wp2_with fail
     refine (qPub own hown _).mono ?_
     rintro e w1 ⟨rfl, hb1⟩
     rw [HSO.out]
     have hg1 : GL [] w w1 := gl_below hb1 hg0
     have hs1 := hg1.size
     go_wp2_with fail
     refine (qPub drawn hdrawn _).mono ?_
     rintro e w2 ⟨rfl, hb2⟩
     rw [HSD.out]
     have hg2 : GL [] w w2 := gl_below hb2 hg1
     have hs2 := hg2.size
     go_wp2_with fail
     refine bodyPost_ret (v := .tuple #[.pointer none, .string (bs []), .int .i64 10]) (by simp [results, Tryz.results27, go_sem]) rfl ?_
     unfold DialRP
     rw [HD.out.trans (if_pos si_), if_neg si_]
     exact ⟨gl_to_below hg2, rfl⟩
   | true =>
     cases bd with
     | false =>
       go_enter Tryz.func27, Tryz.ntmps27
       have hg0 : GL [] w w := gl_refl _ _
       have hs0 : w.heap.size ≤ w.heap.size := Nat.le_refl _
       go_wp2_with fail
       refine (qPub own hown _).mono ?_
       rintro e w1 ⟨rfl, hb1⟩
       rw [HSO.out]
       have hg1 : GL [] w w1 := gl_below hb1 hg0
       have hs1 := hg1.size
       go_wp2_with fail
       refine (qPub drawn hdrawn _).mono ?_
       rintro e w2 ⟨rfl, hb2⟩
       rw [HSD.out]
       have hg2 : GL [] w w2 := gl_below hb2 hg1
       have hs2 := hg2.size
       go_wp2_with fail
       refine bodyPost_ret (v := .tuple #[.pointer none, .string (bs []), .int .i64 10]) (by simp [results, Tryz.results27, go_sem]) rfl ?_
       unfold DialRP
       rw [HD.out.trans (if_pos si_), if_neg si_]
       exact ⟨gl_to_below hg2, rfl⟩
     | true =>
       cases bp with
       | true => exact absurd ⟨rfl, rfl, rfl⟩ hbb
       | false =>
         go_enter Tryz.func27, Tryz.ntmps27
         have hg0 : GL [] w w := gl_refl _ _
         have hs0 : w.heap.size ≤ w.heap.size := Nat.le_refl _
         go_wp2_with fail
         refine (qPub own hown _).mono ?_
         rintro e w1 ⟨rfl, hb1⟩
         rw [HSO.out]
         have hg1 : GL [] w w1 := gl_below hb1 hg0
         have hs1 := hg1.size
         go_wp2_with fail
         refine (qPub drawn hdrawn _).mono ?_
         rintro e w2 ⟨rfl, hb2⟩
         rw [HSD.out]
         have hg2 : GL [] w w2 := gl_below hb2 hg1
         have hs2 := hg2.size
         go_wp2_with fail
         refine (qPlain peer hpeer _).mono ?_
         rintro e w3 ⟨rfl, hb3⟩
         rw [HBP.out]
         have hg3 : GL [] w w3 := gl_below hb3 hg2
         have hs3 := hg3.size
         go_wp2_with fail
         refine bodyPost_ret (v := .tuple #[.pointer none, .string (bs []), .int .i64 10]) (by simp [results, Tryz.results27, go_sem]) rfl ?_
         unfold DialRP
         rw [HD.out.trans (if_pos si_), if_neg si_]
         exact ⟨gl_to_below hg3, rfl⟩
end Go.Proofs.YtaaiaahkakkleaaGreatDoor
