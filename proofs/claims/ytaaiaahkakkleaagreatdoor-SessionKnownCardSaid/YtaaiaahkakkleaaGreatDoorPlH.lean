/- The law SessionPlays. -/
import Derived.Test.YtaaiaahkakkleaaGreatDoorPlG
import Derived.Test.YtaaiaahkakkleaaGreatDoorLawN
set_option maxRecDepth 100000
set_option maxHeartbeats 4000000
set_option linter.unusedSimpArgs false
set_option linter.unusedVariables false
namespace Go.Proofs.YtaaiaahkakkleaaGreatDoor
open Go.RowKit
structure StepV where
 k : Int
 sd : Bool
 t : List UInt8
 s : List UInt8
 n : Int
def StepsAt (ad : Option Addr) (ws : List StepV) (w : World) : Prop :=
 ∀ (j : Nat) (x : StepV), ws[j]? = some x → ∃ b o : Nat, ad = some ⟨b, o, none⟩ ∧ b < w.heap.size ∧ w.cell? ⟨b, o + j * 5, none⟩ = some (.int .i64 x.k) ∧ w.cell? ⟨b, o + j * 5 + 1, none⟩ = some (.bool x.sd) ∧ w.cell? ⟨b, o + j * 5 + 2, none⟩ = some (.string (bs x.t)) ∧ w.cell? ⟨b, o + j * 5 + 3, none⟩ = some (.string (bs x.s)) ∧ w.cell? ⟨b, o + j * 5 + 4, none⟩ = some (.int .i64 x.n)
theorem stepsAt_below {ad : Option Addr} {ws : List StepV} {w w' : World} {B : Nat} (h : StepsAt ad ws w) (hb : Below B w w') (hB : w.heap.size ≤ B) : StepsAt ad ws w' := fun j x hx => by
 obtain ⟨b, o, h1, h2, h3, h4, h5, h6, h7⟩ := h j x hx
 have hbk : w'.heap[b]? = w.heap[b]? := hb.block b om_
 refine ⟨b, o, h1, Nat.lt_of_lt_of_le h2 hb.size, ?_⟩
 simp only [World.cell?, hbk]
 exact ⟨h3, h4, h5, h6, h7⟩
theorem stepsAt_from {ad : Option Addr} {ws : List StepV} {w wa wb : World} {lo : Nat} (h : StepsAt ad ws w) (h1 : Below w.heap.size w wa) (h2 : Below lo wa wb) (hlo : w.heap.size ≤ lo) : StepsAt ad ws wb :=
 stepsAt_below h (h1.trans (h2.mono hlo)) (Nat.le_refl _)
def StepOk (x : StepV) : Prop := -9223372036854775808 ≤ x.k ∧ x.k ≤ 9223372036854775807 ∧ -9223372036854775808 ≤ x.n ∧ x.n ≤ 9223372036854775807 ∧ x.t.length ≤ 140737488351232 ∧ x.s.length ≤ 140737488351232
def totN : List StepV → Nat
 | [] => 0
 | x :: r => x.t.length + x.s.length + totN r
theorem totN_take (ws : List StepV) (j : Nat) (x : StepV) (h : ws[j]? = some x) : totN (ws.take (j + 1)) = totN (ws.take j) + x.t.length + x.s.length := by
 induction ws generalizing j with
 | nil => simp at h
 | cons y r ih =>
   cases j with
   | zero => simp at h; subst h; simp [totN]
   | succ j =>
     have := ih j (by simpa using h)
     simp only [List.take_succ_cons, totN] at *
     omega
theorem totN_top (ws : List StepV) (j : Nat) (h : ∀ x ∈ ws, StepOk x) : totN (ws.take j) ≤ j * 281474976702464 := by
 induction ws generalizing j with
 | nil => simp [totN]
 | cons y r ih =>
   cases j with
   | zero => simp [totN]
   | succ j =>
     have := ih j (fun x hx => h x (by simp [hx]))
     obtain ⟨_, _, _, _, h1, h2⟩ := h y si_
     simp only [List.take_succ_cons, totN]
     omega
theorem totN_mem (ws : List StepV) (x : StepV) (h : x ∈ ws) : x.t.length + x.s.length ≤ totN ws := by
 induction ws with
 | nil => simp at h
 | cons y r ih =>
   simp only [totN]
   rcases List.mem_cons.1 h with rfl | h
   · omega
   · have := ih h; omega
theorem lPlaysMany (I E S F P : List UInt8) (lI : I.length ≤ 140737488351232) (lE : E.length ≤ 140737488351232) (lS : S.length ≤ 140737488351232) (lF : F.length ≤ 140737488351232) (lP : P.length ≤ 140737488351232) (ad : Option Addr) (c : Nat) (ws : List StepV) (hl : ws.length ≤ 140737488351232) (w : World) (hG : GOk w) (hW : StepsAt ad ws w) (hok : ∀ x ∈ ws, StepOk x) (h20 : 20 < ws.length) :
  Calls Tryz.prog 4 #[.agg #[.string (bs I), .string (bs E), .string (bs S), .string (bs F), .string (bs P)], .slice ad ws.length c] w fun e w' => e = .returned (.bool true) ∧ Below w.heap.size w w' := by
 have HG := Lib.hid hG
 have hgn := hG.size
 have HW := Lib.hid hW
 have HOK := Lib.hid hok
 clear hG hW hok
 go_enter Tryz.func4, Tryz.ntmps4
 go_wp2_with fail
 have hg1 : GL [] w (w.alloc (.cells #[.string (bs I), .string (bs E), .string (bs S), .string (bs F), .string (bs P)] 24)) := gl_alloc (gl_refl _ _) _
 have hz1 : w.heap.size < (w.alloc (.cells #[.string (bs I), .string (bs E), .string (bs S), .string (bs F), .string (bs P)] 24)).heap.size := by simp
 have HS1 := Lib.hid (blk_new w (.cells #[.string (bs I), .string (bs E), .string (bs S), .string (bs F), .string (bs P)] 24))
 generalize w.alloc (.cells #[.string (bs I), .string (bs E), .string (bs S), .string (bs F), .string (bs P)] 24) = w1 at *
 go_loopw [5, 6] (fun nv iv wr => ∃ j : Nat, j ≤ ws.length ∧ iv = .int .i64 j ∧ (∃ z : Int, nv = .int .i64 z) ∧ Hid (GL [] w1 wr)) (fun _ iv _ => ws.length - (intOf iv).toNat)
 case atStart => exact ⟨0, Nat.zero_le _, rfl, ⟨_, rfl⟩, Lib.hid (gl_refl _ _)⟩
 case round =>
  obtain ⟨j, hj, rfl, ⟨z, rfl⟩, hgr⟩ := hrel
  by_cases hlt : j < ws.length
  · obtain ⟨x, hx⟩ : ∃ x, ws[j]? = some x := ⟨_, List.getElem?_eq_getElem hlt⟩
    obtain ⟨b, o, rfl, hbl, c0, c1, c2, c3, c4⟩ := stepsAt_below HW.out (gl_to_below (gl_step hgr.out hg1 si_)) (Nat.le_refl _) j x hx
    obtain ⟨_, _, _, _, lt, ls⟩ := HOK.out x (List.mem_of_getElem? hx)
    skip
    skip
    skip
    skip
    have hltI : (j : Int) < ws.length := by omega
    clear c0 c1 c4 hx
    go_wp2_with fail
    go_quiet (fail)
    go_wp2_with fail
    go_roundw
    case rel => first | exact ⟨j + 1, by omega, by go_num, ⟨_, rfl⟩, Lib.hid (gl_drewN hgr.out _)⟩ | ((repeat apply Exists.intro); refine ⟨?_, rfl⟩; exact ⟨j + 1, by omega, by go_num, ⟨_, rfl⟩, Lib.hid (gl_drewN hgr.out _)⟩)
    case measure => simp [intOf]; omega
  · obtain rfl : j = ws.length := by omega
    have hd : decide ((20 : Int) < ws.length) = true := by simp; omega
    go_wp2_with fail
    go_ret
    exact ⟨by first | rfl | (simp; done), gl_to_below (gl_step hgr.out hg1 si_)⟩
theorem lOneAny (sd : Bool) (kind times : Int) (k0 : -9223372036854775808 ≤ kind) (k1 : kind ≤ 9223372036854775807) (n0 : -9223372036854775808 ≤ times) (n1 : times ≤ 9223372036854775807) (t s : List UInt8) (ht : t.length ≤ 9000000000000000000) (hs : s.length ≤ 1000000) (lo Pb X0 X1 Y0 Y1 : Nat) (v0 v1 : Value) (q0 q1 : List (List UInt8)) (m : Nat) (w : World) (h : PairAt w lo Pb X0 X1 Y0 Y1 v0 v1 q0 q1 m) (hm : m ≤ 500000) (hG : GOk w) :
  Calls Tryz.prog 10 #[.pointer (some ⟨Pb, 0, none⟩), .agg #[.int .i64 kind, .bool sd, .string (bs t), .string (bs s), .int .i64 times]] w (PairPost lo Pb X0 X1 Y0 Y1 v0 v1 (m + 111) w) := by
 cases sd
 · exact lOne0 kind times k0 k1 n0 n1 t s ht hs lo Pb X0 X1 Y0 Y1 v0 v1 q0 q1 m w h hm hG
 · exact lOne1 kind times k0 k1 n0 n1 t s ht hs lo Pb X0 X1 Y0 Y1 v0 v1 q0 q1 m w h hm hG
theorem lPlaysFew (I E S F P : List UInt8) (lI : I.length ≤ 140737488351232) (lE : E.length ≤ 140737488351232) (lS : S.length ≤ 140737488351232) (lF : F.length ≤ 140737488351232) (lP : P.length ≤ 140737488351232) (ad : Option Addr) (c : Nat) (ws : List StepV) (hl : ws.length ≤ 140737488351232) (w : World) (hG : GOk w) (hW : StepsAt ad ws w) (hok : ∀ x ∈ ws, StepOk x) (h20 : ws.length ≤ 20) :
  Calls Tryz.prog 4 #[.agg #[.string (bs I), .string (bs E), .string (bs S), .string (bs F), .string (bs P)], .slice ad ws.length c] w fun e w' => e = .returned (.bool true) ∧ Below w.heap.size w w' := by
 have HG := Lib.hid hG
 have hgn := hG.size
 have HW := Lib.hid hW
 have HOK := Lib.hid hok
 clear hG hW hok
 go_enter Tryz.func4, Tryz.ntmps4
 go_wp2_with fail
 have hg1 : GL [] w (w.alloc (.cells #[.string (bs I), .string (bs E), .string (bs S), .string (bs F), .string (bs P)] 24)) := gl_alloc (gl_refl _ _) _
 have hz1 : w.heap.size < (w.alloc (.cells #[.string (bs I), .string (bs E), .string (bs S), .string (bs F), .string (bs P)] 24)).heap.size := by simp
 have HS1 := Lib.hid (blk_new w (.cells #[.string (bs I), .string (bs E), .string (bs S), .string (bs F), .string (bs P)] 24))
 generalize w.alloc (.cells #[.string (bs I), .string (bs E), .string (bs S), .string (bs F), .string (bs P)] 24) = w1 at *
 go_loopw [5, 6] (fun nv iv wr => ∃ j : Nat, j ≤ ws.length ∧ iv = .int .i64 j ∧ nv = .int .i64 ((totN (ws.take j) : Nat) : Int) ∧ Hid (GL [] w1 wr)) (fun _ iv _ => ws.length - (intOf iv).toNat)
 case atStart => exact ⟨0, Nat.zero_le _, rfl, rfl, Lib.hid (gl_refl _ _)⟩
 case round =>
  obtain ⟨j, hj, rfl, rfl, hgr⟩ := hrel
  by_cases hlt : j < ws.length
  · obtain ⟨x, hx⟩ : ∃ x, ws[j]? = some x := ⟨_, List.getElem?_eq_getElem hlt⟩
    obtain ⟨b, o, rfl, hbl, c0, c1, c2, c3, c4⟩ := stepsAt_below HW.out (gl_to_below (gl_step hgr.out hg1 si_)) (Nat.le_refl _) j x hx
    obtain ⟨_, _, _, _, lt, ls⟩ := HOK.out x (List.mem_of_getElem? hx)
    have hsucc := totN_take ws j x hx
    have htop := totN_top ws j HOK.out
    have htop2 : totN (List.take j ws) ≤ 5629499534049280 := by omega
    generalize hTN : totN (List.take j ws) = tn at *
    have hltI : (j : Int) < ws.length := by omega
    clear c0 c1 c4 hx
    go_wp2_with fail
    go_quiet (fail)
    go_wp2_with fail
    go_roundw
    case rel => first | exact ⟨j + 1, by omega, by go_num, by rw [hsucc]; simp only [Int.natCast_add], Lib.hid (gl_drewN hgr.out _)⟩ | ((repeat apply Exists.intro); refine ⟨?_, rfl⟩; exact ⟨j + 1, by omega, by go_num, by rw [hsucc]; simp only [Int.natCast_add], Lib.hid (gl_drewN hgr.out _)⟩)
    case measure => simp [intOf]; omega
  · obtain rfl : j = ws.length := by omega
    rw [List.take_length]
    have hd : decide ((20 : Int) < ws.length) = false := by simp; omega
    have HS2 := Lib.hid (blk_gl HS1.out hgr.out si_)
    have hgw := gl_step hgr.out hg1 si_
    have HG2 := Lib.hid (gok_gl HG.out hgw si_)
    have hm := totN_mem ws
    have htt := totN_top ws ws.length HOK.out
    rw [List.take_length] at htt
    have htl : totN ws ≤ 5629499534049280 := by omega
    clear htt
    generalize totN ws = tn at *
    have s0 := blk_cell HS2.out
    have s1 := blk_free HS2.out
    have s2 := blk_lt HS2.out
    by_cases hn : 14000 < tn
    · have hn2 : decide ((14000 : Int) < (tn : Int)) = true := by simp; omega
      go_wp2_with fail
      go_ret
      exact ⟨by first | rfl | (simp; done), gl_to_below hgw⟩
    have hn2 : decide ((14000 : Int) < (tn : Int)) = false := by simp; omega
    have HLN := Lib.hid (fun (x : StepV) (hx : x ∈ ws) => (show x.t.length ≤ 14000 ∧ x.s.length ≤ 14000 by have := hm x hx; omega))
    clear hm
    by_cases h3 : 300 < (I.length : Int) + E.length + S.length + F.length + P.length
    · have h4 : decide (300 < (I.length : Int) + E.length + S.length + F.length + P.length) = true := by simpa using h3
      go_wp2_with fail
      go_ret
      exact ⟨by first | rfl | (simp; done), gl_to_below hgw⟩
    have h4 : decide (300 < (I.length : Int) + E.length + S.length + F.length + P.length) = false := by simpa using h3
    go_wp2_with fail
    refine (lBegun I E S F P om_ om_ om_ om_ om_ _ HG2.out).mono ?_
    rintro e w2 ⟨hb2, Pb, hPb, rfl, hcase⟩
    have HG3 := Lib.hid (gok_below HG2.out hb2)
    have hbw := gl_to_below hgw
    have hzw := hbw.size
    have HBE := Lib.hid (hbw.trans (hb2.mono hzw))
    clear s0 s1 s2 hn2 h4 h3 hn hd
    rcases hcase with ⟨z, hz, hzs, hzc⟩ | ⟨X0, X1, Y0, Y1, v0, v1, q0, q1, hp⟩
    · have f1 := blk_free hz
      have f2 := blk_lt hz
      have hz2 := hb2.size
      rcases hzc with ⟨x, h0, h1⟩ | ⟨x, h0, h1⟩
      all_goals
       have f3 := (blk_cell hz 0).trans h0
       have f4 := (blk_cell hz 1).trans h1
       clear hz h0 h1 hzs
       go_wp2_with fail
       refine (lWorks21 _ HG3.out).mono ?_
       rintro e w3 ⟨rfl, hb3⟩
       go_wp2_with fail
       go_ret
       exact ⟨by first | rfl | (simp; done), HBE.out.trans (hb3.mono om_)⟩
    obtain ⟨wo, hwo⟩ : ∃ x : World, x = wr := ⟨_, rfl⟩
    subst hwo
    have HPA := Lib.hid hp
    have f0 := blk_cell hp.blk
    have f1 := blk_free hp.blk
    have f2 := blk_lt hp.blk
    have HBW := Lib.hid hbw
    have HB2 := Lib.hid hb2
    have hz2 := hb2.size
    clear hp hbw hb2
    go_wp2_with fail
    clear f0 f1 f2
    go_loopw [9] (fun iv wr => ∃ (j : Nat) (u0 u1 : Value) (x0 x1 : List (List UInt8)), j ≤ ws.length ∧ iv = .int .i64 j ∧ Hid (PairAt wr wo.heap.size Pb X0 X1 Y0 Y1 u0 u1 x0 x1 (1 + 111 * j)) ∧ Hid (Below wo.heap.size w2 wr)) (fun iv _ => ws.length - (intOf iv).toNat)
    case atStart => exact ⟨0, v0, v1, q0, q1, Nat.zero_le _, rfl, HPA, Lib.hid ((gl_to_below (gl_refl ([] : List Nat) _)).mono om_)⟩
    case round =>
     obtain ⟨j, u0, u1, x0, x1, hj, rfl, hP, hB⟩ := hrel
     have HG4 := Lib.hid (gok_belowB HG3.out hB.out om_)
     by_cases hlt : j < ws.length
     · obtain ⟨x, hx⟩ : ∃ x, ws[j]? = some x := ⟨_, List.getElem?_eq_getElem hlt⟩
       obtain ⟨b, o, rfl, hbl, c0, c1, c2, c3, c4⟩ := stepsAt_from HW.out HBW.out (HB2.out.trans hB.out) om_ j x hx
       obtain ⟨k0, k1, n0, n1, lt, ls⟩ := HOK.out x (List.mem_of_getElem? hx)
       obtain ⟨lt2, ls2⟩ := HLN.out x (List.mem_of_getElem? hx)
       obtain ⟨xk, xsd, xt, xs, xn⟩ := x
       simp only at c0 c1 c2 c3 c4 k0 k1 n0 n1 lt ls lt2 ls2
       have hltI : (j : Int) < ws.length := by omega
       clear hx
       by_cases h5 : 500 < xs.length
       · have h6 : decide ((500 : Int) < xs.length) = true := by simp; omega
         go_wp2_with fail
         clear c0 c1 c2 c3 c4
         have hga : GL [] wr (wr.alloc (.cells #[.int .i64 xk, .bool xsd, .string (bs xt), .string (bs xs), .int .i64 0] 26)) := gl_alloc (gl_refl _ _) _
         have hzb := hB.out.size
         have HP5 := Lib.hid (pair_gl hP.out hga)
         have HG5 := Lib.hid (gok_gl HG4.out hga si_)
         have HB5 := Lib.hid (hB.out.trans (gl_low hga si_ om_))
         have hz5 := HB5.out.size
         clear hga
         generalize wr.alloc (.cells #[.int .i64 xk, .bool xsd, .string (bs xt), .string (bs xs), .int .i64 0] 26) = w3 at *
         refine (lOneAny xsd xk 0 k0 k1 om_ om_ xt xs om_ om_ _ _ _ _ _ _ _ _ _ _ _ _ HP5.out om_ HG5.out).mono ?_
         rintro e w4 ⟨rfl, hb4, v0', v1', q0', q1', hp4, _⟩
         have HP6 := Lib.hid hp4
         have HB6 := Lib.hid (HB5.out.trans hb4)
         have hz6 := hb4.size
         clear hp4 hb4 HP5 HB5 HG5
         go_wp2_with fail
         refine (lTells0 _ _ _ _ _ _ _ _ _ _ _ _ HP6.out).mono ?_
         rintro e w5 ⟨rfl, hg5⟩
         have HP7 := Lib.hid (pair_gl HP6.out hg5)
         have HB7 := Lib.hid (HB6.out.trans (gl_low hg5 si_ om_))
         have hz7 := hg5.size
         clear hg5 HP6 HB6
         go_wp2_with fail
         refine (lTells1 _ _ _ _ _ _ _ _ _ _ _ _ HP7.out).mono ?_
         rintro e w6 ⟨rfl, hg6⟩
         have HP8 := Lib.hid (pair_more (pair_gl HP7.out hg6) (show 1 + 111 * j + 111 ≤ 1 + 111 * (j + 1) by omega))
         have HB8 := Lib.hid (HB7.out.trans (gl_low hg6 si_ om_))
         clear hg6 HP7 HB7
         go_wp2_with fail
         go_roundw
         case rel => first | exact ⟨j + 1, v0', v1', q0', q1', by omega, by go_num, HP8, HB8⟩ | ((repeat apply Exists.intro); refine ⟨?_, rfl⟩; exact ⟨j + 1, v0', v1', q0', q1', by omega, by go_num, HP8, HB8⟩)
         case measure => simp [intOf]; omega
       · have h6 : decide ((500 : Int) < xs.length) = false := by simp; omega
         go_wp2_with fail
         clear c0 c1 c2 c3 c4
         have hga : GL [] wr (wr.alloc (.cells #[.int .i64 xk, .bool xsd, .string (bs xt), .string (bs xs), .int .i64 xn] 26)) := gl_alloc (gl_refl _ _) _
         have hzb := hB.out.size
         have HP5 := Lib.hid (pair_gl hP.out hga)
         have HG5 := Lib.hid (gok_gl HG4.out hga si_)
         have HB5 := Lib.hid (hB.out.trans (gl_low hga si_ om_))
         have hz5 := HB5.out.size
         clear hga
         generalize wr.alloc (.cells #[.int .i64 xk, .bool xsd, .string (bs xt), .string (bs xs), .int .i64 xn] 26) = w3 at *
         refine (lOneAny xsd xk xn k0 k1 n0 n1 xt xs om_ om_ _ _ _ _ _ _ _ _ _ _ _ _ HP5.out om_ HG5.out).mono ?_
         rintro e w4 ⟨rfl, hb4, v0', v1', q0', q1', hp4, _⟩
         have HP6 := Lib.hid hp4
         have HB6 := Lib.hid (HB5.out.trans hb4)
         have hz6 := hb4.size
         clear hp4 hb4 HP5 HB5 HG5
         go_wp2_with fail
         refine (lTells0 _ _ _ _ _ _ _ _ _ _ _ _ HP6.out).mono ?_
         rintro e w5 ⟨rfl, hg5⟩
         have HP7 := Lib.hid (pair_gl HP6.out hg5)
         have HB7 := Lib.hid (HB6.out.trans (gl_low hg5 si_ om_))
         have hz7 := hg5.size
         clear hg5 HP6 HB6
         go_wp2_with fail
         refine (lTells1 _ _ _ _ _ _ _ _ _ _ _ _ HP7.out).mono ?_
         rintro e w6 ⟨rfl, hg6⟩
         have HP8 := Lib.hid (pair_more (pair_gl HP7.out hg6) (show 1 + 111 * j + 111 ≤ 1 + 111 * (j + 1) by omega))
         have HB8 := Lib.hid (HB7.out.trans (gl_low hg6 si_ om_))
         clear hg6 HP7 HB7
         go_wp2_with fail
         go_roundw
         case rel => first | exact ⟨j + 1, v0', v1', q0', q1', by omega, by go_num, HP8, HB8⟩ | ((repeat apply Exists.intro); refine ⟨?_, rfl⟩; exact ⟨j + 1, v0', v1', q0', q1', by omega, by go_num, HP8, HB8⟩)
         case measure => simp [intOf]; omega
     · obtain rfl : j = ws.length := by omega
       go_wp2_with fail
       refine (lWorks21 _ HG4.out).mono ?_
       rintro e w3 ⟨rfl, hb3⟩
       go_wp2_with fail
       go_ret
       exact ⟨by first | rfl | (simp; done), (HBE.out.trans (hB.out.mono hzw)).trans (hb3.mono (by have := hB.out.size; omega))⟩
theorem lSessionPlays (I E S F P : List UInt8) (lI : I.length ≤ 140737488351232) (lE : E.length ≤ 140737488351232) (lS : S.length ≤ 140737488351232) (lF : F.length ≤ 140737488351232) (lP : P.length ≤ 140737488351232) (ad : Option Addr) (c : Nat) (ws : List StepV) (hl : ws.length ≤ 140737488351232) (w : World) (hG : GOk w) (hW : StepsAt ad ws w) (hok : ∀ x ∈ ws, StepOk x) :
  Calls Tryz.prog 4 #[.agg #[.string (bs I), .string (bs E), .string (bs S), .string (bs F), .string (bs P)], .slice ad ws.length c] w fun e w' => e = .returned (.bool true) ∧ Below w.heap.size w w' := by
 by_cases h : ws.length ≤ 20
 · exact lPlaysFew I E S F P lI lE lS lF lP ad c ws hl w hG hW hok h
 · exact lPlaysMany I E S F P lI lE lS lF lP ad c ws hl w hG hW hok om_
end Go.Proofs.YtaaiaahkakkleaaGreatDoor
