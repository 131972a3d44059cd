/- The laws of layer 21: two sessions open, know each other, hear each other's texts in order. -/
import Derived.Test.YtchbhainmalbbaaDoorLawN
import Derived.Test.YtchbhainmalbbaaDoorLawQ
set_option linter.unusedSimpArgs false
set_option linter.unusedVariables false
namespace Go.Proofs.YtchbhainmalbbaaDoor
open Go.RowKit

/-- A direction behind so many frames. -/
def WaySt (m : Nat) (u : List UInt8) (c : Nat) : Prop := ∃ a, Q (9 + a) (300 + 30 * a) u ∧ c ≤ 99 ∧ 100 * a + c ≤ m
theorem cell_gl0 {w w' : World} {b : Nat} (hg : GL [] w w') (h : b < w.heap.size) (j : Nat) : w'.cell? ⟨b, j, none⟩ = w.cell? ⟨b, j, none⟩ := by
  simp only [World.cell?, hg.block b h (by simp)]
theorem way_mono {m m' : Nat} {u : List UInt8} {c : Nat} (h : WaySt m u c) (hm : m ≤ m') : WaySt m' u c := by
  obtain ⟨a, h1, h2, h3⟩ := h
  exact ⟨a, h1, h2, by omega⟩
theorem way_on {m : Nat} {u : List UInt8} {c : Nat} (h : WaySt m u c) (hm : m ≤ 400) : WaySt (m + 1) (onM u c).1 (onM u c).2 := by
  obtain ⟨a, h1, h2, h3⟩ := h
  have ha : a ≤ 4 := by omega
  obtain ⟨g1, g2, g3⟩ := onM_at h1 (by omega) (by omega) (by omega) h2
  by_cases hc : c = 99
  · obtain ⟨q1, q2⟩ := g2 hc
    exact ⟨a + 1, q_mono q1 (by omega) (by omega), g1, by rw [q2]; omega⟩
  · rw [g3 hc]
    exact ⟨a, h1, by simp only; omega, by simp only; omega⟩
theorem way_frame {m : Nat} {u x : List UInt8} {c : Nat} (h : WaySt m u c) (hm : m ≤ 400) (hx : x.length ≤ 200) : ∃ fr, makeM u c x = (fr, 0) ∧ readM u c fr = some x ∧ fr.length ≤ 16384 := by
  obtain ⟨a, h1, h2, h3⟩ := h
  exact frame_at h1 (by omega) (by omega) (by omega) h2 (by omega)
theorem way_len {m : Nat} {u : List UInt8} {c : Nat} (h : WaySt m u c) (hm : m ≤ 400) : u.length ≤ 9000000000000000000 ∧ c ≤ 99 := by
  obtain ⟨a, h1, h2, h3⟩ := h
  exact ⟨by have := h1.2; omega, h2⟩
/-- Both sessions behind so many words. -/
def TalkSt (X Y : Nat) (ni ne ns nf k1 k2 : List UInt8) (m : Nat) (wr : World) : Prop :=
  ∃ (u v : List UInt8) (cu cv : Nat), WaySt m u cu ∧ WaySt m v cv ∧
    SesAt wr X ni ne (80 :: ns) true true false k1 u cu v cv (.func (.func 130) #[.pointer (some ⟨X, 0, none⟩)] #[]) ∧ SesAt wr Y ns nf (80 :: ni) false true false k2 v cv u cu (.func (.func 130) #[.pointer (some ⟨Y, 0, none⟩)] #[])
theorem talk_mono {X Y m m' : Nat} {ni ne ns nf k1 k2 : List UInt8} {wr : World} (h : TalkSt X Y ni ne ns nf k1 k2 m wr) (hm : m ≤ m') : TalkSt X Y ni ne ns nf k1 k2 m' wr := by
  obtain ⟨u, v, cu, cv, h1, h2, h3, h4⟩ := h
  exact ⟨u, v, cu, cv, way_mono h1 hm, way_mono h2 hm, h3, h4⟩

set_option maxRecDepth 100000 in
set_option maxHeartbeats 4000000 in
theorem lTalksYes (i e s f tm : Int) (ad : Option Addr) (c : Nat) (ws : List (Bool × List UInt8)) (ri : -9223372036854775808 ≤ i) (ri2 : i ≤ 9223372036854775807) (re : -9223372036854775808 ≤ e) (re2 : e ≤ 9223372036854775807) (rs : -9223372036854775808 ≤ s) (rs2 : s ≤ 9223372036854775807) (rf : -9223372036854775808 ≤ f) (rf2 : f ≤ 9223372036854775807) (rtm : -9223372036854775808 ≤ tm) (rtm2 : tm ≤ 9223372036854775807) (pi : 0 ≤ i) (pe : 0 ≤ e) (ps : 0 ≤ s) (pf : 0 ≤ f) (hfew : fewB ws = true)
    (w : World) (hW : WordsAt (.slice ad ws.length c) ws w) (hG : GOk w) :
    Calls Tryd.prog 8 #[.int .i64 i, .int .i64 e, .int .i64 s, .int .i64 f, .slice ad ws.length c, .int .i64 tm] w fun en w' => en = .returned (.bool true) ∧ Below w.heap.size w w' := by
  have hf2 : ws.length ≤ 12 ∧ ∀ x ∈ ws, x.2.length ≤ 200 := by
    unfold fewB at hfew
    simp only [Bool.and_eq_true, decide_eq_true_eq, List.all_eq_true] at hfew
    exact ⟨hfew.2, hfew.1⟩
  have h12 := hf2.1
  have h200 := Lib.hid hf2.2
  have hpz := pick30 tm
  obtain ⟨pz, hpzE⟩ : ∃ z, pickZ tm 30 = z := ⟨_, rfl⟩
  rw [hpzE] at hpz
  have HPZ := Lib.hid hpzE
  have HFEW := Lib.hid hfew
  have HWD := Lib.hid hW
  obtain ⟨k1, k2, a1, a2, a3, d, l, hk⟩ := hsk_is i.toNat e.toNat s.toNat f.toNat (by omega) (by omega) (by omega) (by omega)
  have HK := Lib.hid hk
  have lk1 : k1.length ≤ 9000000000000000000 := by have := hk.lk1; omega
  have lk2 : k2.length ≤ 9000000000000000000 := by have := hk.lk2; omega
  have NI : Hid (nameT i = (nameL i.toNat, 0)) := by
    have := nameT_ok i.toNat
    rwa [show ((i.toNat : Nat) : Int) = i by omega] at this
  have NS : Hid (nameT s = (nameL s.toNat, 0)) := by
    have := nameT_ok s.toNat
    rwa [show ((s.toNat : Nat) : Int) = s by omega] at this
  have lI : (nameL i.toNat).length ≤ 9000000000000000000 := by have := (q_name i.toNat (by omega)).2; omega
  have lE : (nameL e.toNat).length ≤ 9000000000000000000 := by have := (q_name e.toNat (by omega)).2; omega
  have lS : (nameL s.toNat).length ≤ 9000000000000000000 := by have := (q_name s.toNat (by omega)).2; omega
  have lF : (nameL f.toNat).length ≤ 9000000000000000000 := by have := (q_name f.toNat (by omega)).2; omega
  have HPI : Hid (pubT (nameL i.toNat) = ((80 :: nameL i.toNat), 0)) := pubT_plain (q_name i.toNat (by omega)) (by rw [head_name]; decide) (by rw [head_name]; decide) (by omega) (by omega)
  have HPS : Hid (pubT (nameL s.toNat) = ((80 :: nameL s.toNat), 0)) := pubT_plain (q_name s.toNat (by omega)) (by rw [head_name]; decide) (by rw [head_name]; decide) (by omega) (by omega)
  have b1 : decide (i < 0) = false := by simpa using pi
  have b2 : decide (e < 0) = false := by simpa using pe
  have b3 : decide (s < 0) = false := by simpa using ps
  have b4 : decide (f < 0) = false := by simpa using pf
  have HG0 := Lib.hid hG
  have hgn := hG.size
  clear hk hG hW hf2 hfew hpzE
  go_enter Tryd.func8, Tryd.ntmps8
  have hg0 : GL [] w w := gl_refl _ _
  have hs0 : w.heap.size ≤ w.heap.size := Nat.le_refl _
  go_wp2_with fail
  refine (lFew _ ws _ HWD.out (by omega) (fun x hx => by have := h200.out x hx; omega)).mono ?_
  rintro en w0 ⟨rfl, rfl⟩
  rw [HFEW.out]
  clear b1 b2 b3 b4
  go_wp2_with fail
  refine (lOpened i e s f pi ri2 pe re2 ps rs2 pf rf2 _ _ _ _ _ _ _ HK.out _ HG0.out).mono ?_
  rintro en w1 hp
  obtain ⟨X, Y, g, geX, geY, geL, neXY, rfl, hx1, hy1, hl1, hb1⟩ := hp
  have HX1 := Lib.hid hx1
  have HY1 := Lib.hid hy1
  have HG1 := Lib.hid (gok_below HG0.out hb1)
  have hg1 : GL [] w w1 := gl_below hb1 hg0
  have neYX := neXY.symm
  have gnX : gN ≤ X := by omega
  have gnY : gN ≤ Y := by omega
  clear hx1 hy1 hl1
  have hs1 : w.heap.size ≤ w1.heap.size := hg1.size
  go_wp2_with fail
  refine (tMkName i (by omega) (by omega) _ HG1.out).mono ?_
  rintro e w2 ⟨rfl, hb2⟩
  rw [NI.out]
  have HX2 := Lib.hid (blk_below HX1.out hb2 (blk_lt HX1.out))
  have HY2 := Lib.hid (blk_below HY1.out hb2 (blk_lt HY1.out))
  have HG2 := Lib.hid (gok_below HG1.out hb2)
  have hg2 : GL [] w w2 := gl_below hb2 hg1
  have hs2 : w.heap.size ≤ w2.heap.size := hg2.size
  go_wp2_with fail
  refine (tPub (nameL i.toNat) lI _ HG2.out).mono ?_
  rintro e w3 ⟨rfl, hb3⟩
  rw [HPI.out]
  have HX3 := Lib.hid (blk_below HX2.out hb3 (blk_lt HX2.out))
  have HY3 := Lib.hid (blk_below HY2.out hb3 (blk_lt HY2.out))
  have HG3 := Lib.hid (gok_below HG2.out hb3)
  have hg3 : GL [] w w3 := gl_below hb3 hg2
  have hs3 : w.heap.size ≤ w3.heap.size := hg3.size
  go_wp2_with fail
  refine (tMkName s (by omega) (by omega) _ HG3.out).mono ?_
  rintro e w4 ⟨rfl, hb4⟩
  rw [NS.out]
  have HX4 := Lib.hid (blk_below HX3.out hb4 (blk_lt HX3.out))
  have HY4 := Lib.hid (blk_below HY3.out hb4 (blk_lt HY3.out))
  have HG4 := Lib.hid (gok_below HG3.out hb4)
  have hg4 : GL [] w w4 := gl_below hb4 hg3
  have hs4 : w.heap.size ≤ w4.heap.size := hg4.size
  go_wp2_with fail
  refine (tPub (nameL s.toNat) lS _ HG4.out).mono ?_
  rintro e w5 ⟨rfl, hb5⟩
  rw [HPS.out]
  have HX5 := Lib.hid (blk_below HX4.out hb5 (blk_lt HX4.out))
  have HY5 := Lib.hid (blk_below HY4.out hb5 (blk_lt HY4.out))
  have HG5 := Lib.hid (gok_below HG4.out hb5)
  have hg5 : GL [] w w5 := gl_below hb5 hg4
  have hs5 : w.heap.size ≤ w5.heap.size := hg5.size
  go_wp2_with fail
  refine (openAt X _ _ _ _ _ _ _ _ _ _ _ _ _ HX5.out).mono ?_
  rintro en wq0 ⟨rfl, rfl⟩
  go_wp2_with fail
  refine (openAt Y _ _ _ _ _ _ _ _ _ _ _ _ _ HY5.out).mono ?_
  rintro en wq1 ⟨rfl, rfl⟩
  go_wp2_with fail
  refine (peerAt X _ _ _ _ _ _ _ _ _ _ _ _ _ HX5.out).mono ?_
  rintro en wq2 ⟨rfl, rfl⟩
  go_wp2_with fail
  refine (peerAt Y _ _ _ _ _ _ _ _ _ _ _ _ _ HY5.out).mono ?_
  rintro en wq3 ⟨rfl, rfl⟩
  go_wp2_with fail
  have hst : TalkSt X Y (nameL i.toNat) (nameL e.toNat) (nameL s.toNat) (nameL f.toNat) k1 k2 0 w5 := ⟨d, l, 0, 0, ⟨0, HK.out.qd, by omega, by omega⟩, ⟨0, HK.out.ql, by omega, by omega⟩, HX5.out, HY5.out⟩
  have HST := Lib.hid hst
  clear hst HX1 HY1 HG1 HX2 HY2 HG2 HX3 HY3 HG3 HX4 HY4 HG4 HX5 HY5 HG5 hg1 hg2 hg3 hg4 hs1 hs2 hs3 hs4 hb1 hb2 hb3 hb4 hb5 NI NS HPI HPS
  go_loopw [23] (fun iv wr => ∃ n : Nat, n ≤ 30 ∧ iv = .int .i64 n ∧ Hid (TalkSt X Y (nameL i.toNat) (nameL e.toNat) (nameL s.toNat) (nameL f.toNat) k1 k2 (12 * n) wr) ∧ GL [] w wr) (fun iv _ => 31 - (intOf iv).toNat)
  case atStart => exact ⟨0, by omega, rfl, HST.out, hg5⟩
  case round =>
    obtain ⟨n, hn, rfl, hst, hgr⟩ := hrel
    obtain ⟨wo, hwo⟩ : ∃ wo : World, wo = wr := ⟨_, rfl⟩
    subst hwo
    go_wp2_with fail
    refine (lPick30 tm rtm rtm2 _).mono ?_
    rintro en wp ⟨rfl, rfl⟩
    rw [HPZ.out]
    by_cases hle : (n : Int) ≤ pz
    · go_wp2_with fail
      go_loopw [24] (fun kv wr => ∃ k : Nat, k ≤ ws.length ∧ kv = .int .i64 k ∧ Hid (TalkSt X Y (nameL i.toNat) (nameL e.toNat) (nameL s.toNat) (nameL f.toNat) k1 k2 (12 * n + k) wr) ∧ GL [] w wr) (fun kv _ => ws.length - (intOf kv).toNat)
      case atStart => exact ⟨0, by omega, rfl, hst, hgr⟩
      case round =>
        obtain ⟨k, hk, rfl, hst2, hgr2⟩ := hrel
        by_cases hlt : k < ws.length
        · have i1 : (k : Int) < ws.length := by omega
          obtain ⟨x, hx⟩ : ∃ x, ws[k]? = some x := ⟨ws[k], by simp [hlt]⟩
          obtain ⟨sd, tx⟩ := x
          have htx : tx.length ≤ 200 := h200.out _ (List.mem_of_getElem? hx)
          rcases HWD.out with ⟨_, _, h0, h1⟩ | ⟨b, o, c', h0, hbl, hc⟩
          · subst h1
            simp at hlt
          · injection h0 with h01 h02 h03
            subst h01
            subst h03
            have c0 := (cell_gl0 hgr2 hbl _).trans (hc k sd tx hx).1
            have c1 := (cell_gl0 hgr2 hbl _).trans (hc k sd tx hx).2
            have C1 := Lib.hid (hc k sd tx hx).2
            obtain ⟨u, v, cu, cv, hu, hv, hX, hY⟩ := hst2.out
            obtain ⟨lu, lcu⟩ := way_len hu (by omega)
            obtain ⟨lv, lcv⟩ := way_len hv (by omega)
            have HU := Lib.hid hu
            have HV := Lib.hid hv
            have HXr := Lib.hid hX
            have HYr := Lib.hid hY
            have hblX := blk_lt hX
            have hblY := blk_lt hY
            have HGr := Lib.hid (gok_gl HG0.out hgr2 (by simp))
            clear hx hc hst2 hu hv hX hY h02
            cases sd with
            | false =>
              obtain ⟨fr, hfr, hrd, hfl⟩ := way_frame HU.out (by omega) htx
              have HFR := Lib.hid hfr
              have HRD := Lib.hid hrd
              have hgr : GL [] w wr := hgr2
              have hsr := hgr2.size
              clear hfr hrd
              go_wp2_with fail
              refine (sendOpen tx (by omega) X (nameL i.toNat) (nameL e.toNat) (80 :: nameL s.toNat) true k1 u cu v cv _ (by omega) lu _ HXr.out gnX HGr.out).mono ?_
              rintro en w6 hp
              rw [HFR.out] at hp
              obtain ⟨hl6, hp⟩ := hp
              rw [if_pos rfl] at hp
              obtain ⟨rfl, hx6⟩ := hp
              have HX6 := Lib.hid hx6
              have HY6 := Lib.hid (blk_gl HYr.out hl6 (by first | (simp; done) | (simp; omega)))
              have HG6 := Lib.hid (gok_gl HGr.out hl6 (by first | (simp; done) | (simp; omega)))
              have hg6 : GL [] w w6 := gl_step hl6 hgr (by first | (simp; done) | (simp; omega))
              have hs6 : w.heap.size ≤ w6.heap.size := hg6.size
              clear hx6 c0 c1
              go_wp2_with fail
              refine (hearFrame fr Y (nameL s.toNat) (nameL f.toNat) (80 :: nameL i.toNat) false k2 v cv u cu (by omega) lu (by omega) _ HY6.out gnY HG6.out).mono ?_
              rintro en w7 hp
              rw [HRD.out] at hp
              obtain ⟨hl7, rfl, hy7⟩ := hp
              have HY7 := Lib.hid hy7
              have HX7 := Lib.hid (blk_gl HX6.out hl7 (by first | (simp; done) | (simp; omega)))
              have HG7 := Lib.hid (gok_gl HG6.out hl7 (by first | (simp; done) | (simp; omega)))
              have hg7 : GL [] w w7 := gl_step hl7 hg6 (by first | (simp; done) | (simp; omega))
              have hs7 : w.heap.size ≤ w7.heap.size := hg7.size
              clear hy7
              go_wp2_with fail
              have HX8 := Lib.hid (blk_alloc HX7.out (.cells #[.string (bs []), .string (bs tx), .bool true] 52))
              have ltXH : X < w7.heap.size := by have := blk_lt HX7.out; omega
              have neXH : X ≠ w7.heap.size := by omega
              have neHX : w7.heap.size ≠ X := by omega
              have HY8 := Lib.hid (blk_alloc HY7.out (.cells #[.string (bs []), .string (bs tx), .bool true] 52))
              have ltYH : Y < w7.heap.size := by have := blk_lt HY7.out; omega
              have neYH : Y ≠ w7.heap.size := by omega
              have neHY : w7.heap.size ≠ Y := by omega
              have HH8 : Hid ((w7.alloc (.cells #[.string (bs []), .string (bs tx), .bool true] 52)).heap[w7.heap.size]? = some (.cells #[.string (bs []), .string (bs tx), .bool true] 52 (0, 0))) := by
                have h := blk_new w7 (.cells #[.string (bs []), .string (bs tx), .bool true] 52)
                exact h
              have HG8 := Lib.hid (gok_alloc HG7.out (.cells #[.string (bs []), .string (bs tx), .bool true] 52))
              have hg8 : GL [] w (w7.alloc (.cells #[.string (bs []), .string (bs tx), .bool true] 52)) := (gl_alloc hg7 (.cells #[.string (bs []), .string (bs tx), .bool true] 52))
              have geH : w.heap.size ≤ w7.heap.size := by have := hg7.size; omega
              have gnH : gN ≤ w7.heap.size := by have := HG7.out.size; omega
              generalize (w7.alloc (.cells #[.string (bs []), .string (bs tx), .bool true] 52)) = w8 at *
              generalize w7.heap.size = H at *
              have hs8 : w.heap.size ≤ w8.heap.size := hg8.size
              have c2 := (cell_gl0 hg8 hbl _).trans C1.out
              have fa1 := blk_cell HH8.out
              have fb1 := blk_free HH8.out
              have fl1 := blk_lt HH8.out
              go_quiet (fail)
              go_wp2_with fail
              go_roundw
              case rel => exact ⟨k + 1, by omega, by go_num, Lib.hid ⟨(onM u cu).1, v, (onM u cu).2, cv, way_on HU.out (show 12 * n + k ≤ 400 by omega), way_mono HV.out (show 12 * n + k ≤ 12 * n + (k + 1) by omega), HX8.out, HY8.out⟩, gl_drewN hg8 _⟩
              case measure => (show ws.length - ((k : Int) + 1).toNat < ws.length - (k : Int).toNat); omega
            | true =>
              obtain ⟨fr, hfr, hrd, hfl⟩ := way_frame HV.out (by omega) htx
              have HFR := Lib.hid hfr
              have HRD := Lib.hid hrd
              have hgr : GL [] w wr := hgr2
              have hsr := hgr2.size
              clear hfr hrd
              go_wp2_with fail
              refine (sendOpen tx (by omega) Y (nameL s.toNat) (nameL f.toNat) (80 :: nameL i.toNat) false k2 v cv u cu _ (by omega) lv _ HYr.out gnY HGr.out).mono ?_
              rintro en w6 hp
              rw [HFR.out] at hp
              obtain ⟨hl6, hp⟩ := hp
              rw [if_pos rfl] at hp
              obtain ⟨rfl, hx6⟩ := hp
              have HY6 := Lib.hid hx6
              have HX6 := Lib.hid (blk_gl HXr.out hl6 (by first | (simp; done) | (simp; omega)))
              have HG6 := Lib.hid (gok_gl HGr.out hl6 (by first | (simp; done) | (simp; omega)))
              have hg6 : GL [] w w6 := gl_step hl6 hgr (by first | (simp; done) | (simp; omega))
              have hs6 : w.heap.size ≤ w6.heap.size := hg6.size
              clear hx6 c0 c1
              go_wp2_with fail
              refine (hearFrame fr X (nameL i.toNat) (nameL e.toNat) (80 :: nameL s.toNat) true k1 u cu v cv (by omega) lv (by omega) _ HX6.out gnX HG6.out).mono ?_
              rintro en w7 hp
              rw [HRD.out] at hp
              obtain ⟨hl7, rfl, hy7⟩ := hp
              have HX7 := Lib.hid hy7
              have HY7 := Lib.hid (blk_gl HY6.out hl7 (by first | (simp; done) | (simp; omega)))
              have HG7 := Lib.hid (gok_gl HG6.out hl7 (by first | (simp; done) | (simp; omega)))
              have hg7 : GL [] w w7 := gl_step hl7 hg6 (by first | (simp; done) | (simp; omega))
              have hs7 : w.heap.size ≤ w7.heap.size := hg7.size
              clear hy7
              go_wp2_with fail
              have HX8 := Lib.hid (blk_alloc HX7.out (.cells #[.string (bs []), .string (bs tx), .bool true] 52))
              have ltXH : X < w7.heap.size := by have := blk_lt HX7.out; omega
              have neXH : X ≠ w7.heap.size := by omega
              have neHX : w7.heap.size ≠ X := by omega
              have HY8 := Lib.hid (blk_alloc HY7.out (.cells #[.string (bs []), .string (bs tx), .bool true] 52))
              have ltYH : Y < w7.heap.size := by have := blk_lt HY7.out; omega
              have neYH : Y ≠ w7.heap.size := by omega
              have neHY : w7.heap.size ≠ Y := by omega
              have HH8 : Hid ((w7.alloc (.cells #[.string (bs []), .string (bs tx), .bool true] 52)).heap[w7.heap.size]? = some (.cells #[.string (bs []), .string (bs tx), .bool true] 52 (0, 0))) := by
                have h := blk_new w7 (.cells #[.string (bs []), .string (bs tx), .bool true] 52)
                exact h
              have HG8 := Lib.hid (gok_alloc HG7.out (.cells #[.string (bs []), .string (bs tx), .bool true] 52))
              have hg8 : GL [] w (w7.alloc (.cells #[.string (bs []), .string (bs tx), .bool true] 52)) := (gl_alloc hg7 (.cells #[.string (bs []), .string (bs tx), .bool true] 52))
              have geH : w.heap.size ≤ w7.heap.size := by have := hg7.size; omega
              have gnH : gN ≤ w7.heap.size := by have := HG7.out.size; omega
              generalize (w7.alloc (.cells #[.string (bs []), .string (bs tx), .bool true] 52)) = w8 at *
              generalize w7.heap.size = H at *
              have hs8 : w.heap.size ≤ w8.heap.size := hg8.size
              have c2 := (cell_gl0 hg8 hbl _).trans C1.out
              have fa1 := blk_cell HH8.out
              have fb1 := blk_free HH8.out
              have fl1 := blk_lt HH8.out
              go_quiet (fail)
              go_wp2_with fail
              go_roundw
              case rel => exact ⟨k + 1, by omega, by go_num, Lib.hid ⟨u, (onM v cv).1, cu, (onM v cv).2, way_mono HU.out (show 12 * n + k ≤ 12 * n + (k + 1) by omega), way_on HV.out (show 12 * n + k ≤ 400 by omega), HX8.out, HY8.out⟩, gl_drewN hg8 _⟩
              case measure => (show ws.length - ((k : Int) + 1).toNat < ws.length - (k : Int).toNat); omega
        · obtain rfl : k = ws.length := by omega
          have hst3 := talk_mono hst2.out (show 12 * n + ws.length ≤ 12 * (n + 1) by omega)
          go_wp2_with fail
          go_roundw
          case rel => first | exact ⟨n + 1, by omega, by go_num, hst3, hgr2⟩ | ((repeat apply Exists.intro); refine ⟨?_, rfl⟩; exact ⟨n + 1, by omega, by go_num, hst3, hgr2⟩)
          case measure => (show 31 - ((n : Int) + 1).toNat < 31 - (n : Int).toNat); omega
    · go_wp2_with fail
      refine (lWorks21 _ (gok_gl HG0.out hgr (by simp))).mono ?_
      rintro en w9 ⟨rfl, hb9⟩
      go_wp2_with fail
      go_ret
      exact ⟨rfl, gl_to_below (gl_below hb9 hgr)⟩
set_option maxRecDepth 100000 in
set_option maxHeartbeats 4000000 in
theorem lTalksNo (i e s f tm : Int) (ad : Option Addr) (c : Nat) (ws : List (Bool × List UInt8)) (ri : -9223372036854775808 ≤ i) (ri2 : i ≤ 9223372036854775807) (re : -9223372036854775808 ≤ e) (re2 : e ≤ 9223372036854775807) (rs : -9223372036854775808 ≤ s) (rs2 : s ≤ 9223372036854775807) (rf : -9223372036854775808 ≤ f) (rf2 : f ≤ 9223372036854775807) (rtm : -9223372036854775808 ≤ tm) (rtm2 : tm ≤ 9223372036854775807) (hws : ws.length ≤ 9223372036854775807) (hwt : ∀ x ∈ ws, x.2.length ≤ 9223372036854775807) (hno : ¬ (0 ≤ i ∧ 0 ≤ e ∧ 0 ≤ s ∧ 0 ≤ f ∧ fewB ws = true))
    (w : World) (hW : WordsAt (.slice ad ws.length c) ws w) (hG : GOk w) :
    Calls Tryd.prog 8 #[.int .i64 i, .int .i64 e, .int .i64 s, .int .i64 f, .slice ad ws.length c, .int .i64 tm] w fun en w' => en = .returned (.bool true) ∧ Below w.heap.size w w' := by
  have HG := Lib.hid hG
  have HWD := Lib.hid hW
  have HWT := Lib.hid hwt
  clear hG hW hwt
  by_cases h0 : i < 0
  · have b0 : decide (i < 0) = true := by simpa using h0
    clear h0 hno
    go_enter Tryd.func8, Tryd.ntmps8
    go_wp2_with (go_at_call 37; refine (lWorks21 _ HG.out).mono ?_; rintro en w1 ⟨rfl, hb1⟩)
    go_ret
    exact ⟨rfl, hb1⟩
  have b0 : decide (i < 0) = false := by simpa using h0
  by_cases h1 : e < 0
  · have b1 : decide (e < 0) = true := by simpa using h1
    clear h1 hno
    go_enter Tryd.func8, Tryd.ntmps8
    go_wp2_with (go_at_call 37; refine (lWorks21 _ HG.out).mono ?_; rintro en w1 ⟨rfl, hb1⟩)
    go_ret
    exact ⟨rfl, hb1⟩
  have b1 : decide (e < 0) = false := by simpa using h1
  by_cases h2 : s < 0
  · have b2 : decide (s < 0) = true := by simpa using h2
    clear h2 hno
    go_enter Tryd.func8, Tryd.ntmps8
    go_wp2_with (go_at_call 37; refine (lWorks21 _ HG.out).mono ?_; rintro en w1 ⟨rfl, hb1⟩)
    go_ret
    exact ⟨rfl, hb1⟩
  have b2 : decide (s < 0) = false := by simpa using h2
  by_cases h3 : f < 0
  · have b3 : decide (f < 0) = true := by simpa using h3
    clear h3 hno
    go_enter Tryd.func8, Tryd.ntmps8
    go_wp2_with (go_at_call 37; refine (lWorks21 _ HG.out).mono ?_; rintro en w1 ⟨rfl, hb1⟩)
    go_ret
    exact ⟨rfl, hb1⟩
  have b3 : decide (f < 0) = false := by simpa using h3
  have hfb : fewB ws = false := by
    cases hq : fewB ws with
    | false => rfl
    | true => exact absurd ⟨by omega, by omega, by omega, by omega, hq⟩ hno
  have HFEW := Lib.hid hfb
  clear hno hfb h0 h1 h2 h3
  go_enter Tryd.func8, Tryd.ntmps8
  go_wp2_with fail
  refine (lFew _ ws _ HWD.out hws HWT.out).mono ?_
  rintro en w0 ⟨rfl, rfl⟩
  rw [HFEW.out]
  go_wp2_with fail
  refine (lWorks21 _ HG.out).mono ?_
  rintro en w1 ⟨rfl, hb1⟩
  go_wp2_with fail
  go_ret
  exact ⟨rfl, hb1⟩
theorem lSessionTalks (i e s f tm : Int) (ad : Option Addr) (c : Nat) (ws : List (Bool × List UInt8)) (ri : -9223372036854775808 ≤ i) (ri2 : i ≤ 9223372036854775807) (re : -9223372036854775808 ≤ e) (re2 : e ≤ 9223372036854775807) (rs : -9223372036854775808 ≤ s) (rs2 : s ≤ 9223372036854775807) (rf : -9223372036854775808 ≤ f) (rf2 : f ≤ 9223372036854775807) (rtm : -9223372036854775808 ≤ tm) (rtm2 : tm ≤ 9223372036854775807) (hws : ws.length ≤ 9223372036854775807) (hwt : ∀ x ∈ ws, x.2.length ≤ 9223372036854775807)
    (w : World) (hW : WordsAt (.slice ad ws.length c) ws w) (hG : GOk w) :
    Calls Tryd.prog 8 #[.int .i64 i, .int .i64 e, .int .i64 s, .int .i64 f, .slice ad ws.length c, .int .i64 tm] w fun en w' => en = .returned (.bool true) ∧ Below w.heap.size w w' := by
  by_cases h : 0 ≤ i ∧ 0 ≤ e ∧ 0 ≤ s ∧ 0 ≤ f ∧ fewB ws = true
  · exact lTalksYes i e s f tm ad c ws ri ri2 re re2 rs rs2 rf rf2 rtm rtm2 h.1 h.2.1 h.2.2.1 h.2.2.2.1 h.2.2.2.2 w hW hG
  · exact lTalksNo i e s f tm ad c ws ri ri2 re re2 rs rs2 rf rf2 rtm rtm2 hws hwt h w hW hG
end Go.Proofs.YtchbhainmalbbaaDoor
