/- The laws of layer 21: a pair begins. -/
import Derived.Test.YtaaiaahkakkleaaGreatDoorPlF
set_option maxRecDepth 100000
set_option maxHeartbeats 4000000
set_option linter.unusedSimpArgs false
set_option linter.unusedVariables false
namespace Go.Proofs.YtaaiaahkakkleaaGreatDoor
open Go.RowKit
theorem dialM_cases (own drawn peer : List UInt8) : dialM own drawn peer = (([], []), 10) ∨ dialM own drawn peer = (([], []), 3) ∨ ∃ k act, dialM own drawn peer = ((k, act), 0) ∧ k.length ≤ 16384 ∧ act.length ≤ 16384 := by
 unfold dialM
 split
 · exact .inl rfl
 · simp only
   split
   · exact .inr (.inl rfl)
   · exact .inr (.inr ⟨_, _, rfl, hashM_len _ _ _, actM_len _ _ _⟩)
def BegunPost (w : World) (e : Ending) (w' : World) : Prop := Below w.heap.size w w' ∧ ∃ Pb, w.heap.size ≤ Pb ∧ e = .returned (.tuple #[.pointer (some ⟨Pb, 0, none⟩), .bool true]) ∧
 ((∃ z, w'.heap[Pb]? = some (.cells z 49 (0, 0)) ∧ 2 ≤ z.size ∧ ((∃ x, z[0]? = some (.pointer none) ∧ z[1]? = some x) ∨ ∃ x, z[0]? = some (.pointer (some ⟨x, 0, none⟩)) ∧ z[1]? = some (.pointer none))) ∨
  ∃ X0 X1 Y0 Y1 v0 v1 q0 q1, PairAt w' w.heap.size Pb X0 X1 Y0 Y1 v0 v1 q0 q1 1)
theorem lBegunA0 (I E S F P : List UInt8) (lI : I.length ≤ 9000000000000000000) (lE : E.length ≤ 9000000000000000000) (lS : S.length ≤ 9000000000000000000) (lF : F.length ≤ 9000000000000000000) (lP : P.length ≤ 9000000000000000000) (w : World) (hG : GOk w) (hd : dialM I E P = (([], []), 10)) (hl : ¬ ((secretB S).2 = true ∧ (secretB F).2 = true)) :
  Calls Tryz.prog 9 #[.agg #[.string (bs I), .string (bs E), .string (bs S), .string (bs F), .string (bs P)]] w (BegunPost w) := by
 have HD := Lib.hid hd
 have HL := Lib.hid hl
 have hgn := hG.size
 have HG0 := Lib.hid (gok_gl hG (gl_alloc (gl_refl ([] : List Nat) w) (.cells #[.string (bs I), .string (bs E), .string (bs S), .string (bs F), .string (bs P)] 24)) si_)
 have hz0 : w.heap.size < (w.alloc (.cells #[.string (bs I), .string (bs E), .string (bs S), .string (bs F), .string (bs P)] 24)).heap.size := by simp
 have HS0 := Lib.hid (blk_new w (.cells #[.string (bs I), .string (bs E), .string (bs S), .string (bs F), .string (bs P)] 24))
 have HB0 := Lib.hid (gl_to_below (gl_alloc (gl_refl ([] : List Nat) w) (.cells #[.string (bs I), .string (bs E), .string (bs S), .string (bs F), .string (bs P)] 24)))
 clear hd hl
 go_enter Tryz.func9, Tryz.ntmps9
 go_wp2_with fail
 generalize w.alloc (.cells #[.string (bs I), .string (bs E), .string (bs S), .string (bs F), .string (bs P)] 24) = w0 at *
 refine (sDial I E P om_ om_ om_ _ HG0.out).mono ?_
 rintro e w1 hp
 unfold DialPost at hp
 rw [HD.out] at hp
 rw [if_neg de_] at hp
 obtain ⟨rfl, hb1⟩ := hp
 have HG1 := Lib.hid (gok_below HG0.out hb1)
 have HS1 := Lib.hid (blk_below HS0.out hb1 (blk_lt HS0.out))
 have hz1 := hb1.size
 have f1 := blk_cell HS1.out
 have e1 := blk_free HS1.out
 have c1 := blk_lt HS1.out
 have HB1 := Lib.hid (HB0.out.trans (hb1.mono om_))
 go_wp2_with fail
 clear f1 e1 c1
 refine (qDial I E P om_ om_ om_ _).mono ?_
 rintro e w2 ⟨hb2, hp⟩
 rw [HD.out] at hp
 rw [if_neg de_] at hp
 obtain rfl := hp
 have HG2 := Lib.hid (gok_below HG1.out hb2)
 have HS2 := Lib.hid (blk_below HS1.out hb2 (blk_lt HS1.out))
 have hz2 := hb2.size
 have f2 := blk_cell HS2.out
 have e2 := blk_free HS2.out
 have c2 := blk_lt HS2.out
 have HB2 := Lib.hid (HB1.out.trans (hb2.mono om_))
 go_wp2_with fail
 clear f2 e2 c2
 refine (sListen S F om_ om_ _ HG2.out).mono ?_
 rintro e w3 hp
 unfold ListenPost at hp
 rw [if_neg HL.out] at hp
 obtain ⟨rfl, hb3⟩ := hp
 have HG3 := Lib.hid (gok_below HG2.out hb3)
 have HS3 := Lib.hid (blk_below HS2.out hb3 (blk_lt HS2.out))
 have hz3 := hb3.size
 have f3 := blk_cell HS3.out
 have e3 := blk_free HS3.out
 have c3 := blk_lt HS3.out
 have HB3 := Lib.hid (HB2.out.trans (hb3.mono om_))
 go_wp2_with fail
 clear f3 e3 c3
 refine (qListen S F om_ om_ _).mono ?_
 rintro e w4 ⟨hb4, hp⟩
 rw [if_neg HL.out] at hp
 obtain rfl := hp
 have HG4 := Lib.hid (gok_below HG3.out hb4)
 have HS4 := Lib.hid (blk_below HS3.out hb4 (blk_lt HS3.out))
 have hz4 := hb4.size
 have f4 := blk_cell HS4.out
 have e4 := blk_free HS4.out
 have c4 := blk_lt HS4.out
 have HB4 := Lib.hid (HB3.out.trans (hb4.mono om_))
 clear f4 e4 c4 hb1 hb2 hb3 hb4
 have hga : GL [] w4 (w4.alloc (.cells #[(.pointer none), (.pointer none), (.pointer none), (.pointer none), (.slice none 0 0), (.slice none 0 0)] 49)) := gl_alloc (gl_refl _ _) _
 have HP5 := Lib.hid (blk_new w4 (.cells #[(.pointer none), (.pointer none), (.pointer none), (.pointer none), (.slice none 0 0), (.slice none 0 0)] 49))
 have hz5 : w4.heap.size < (w4.alloc (.cells #[(.pointer none), (.pointer none), (.pointer none), (.pointer none), (.slice none 0 0), (.slice none 0 0)] 49)).heap.size := by simp
 have HB5 := Lib.hid (HB4.out.trans (gl_low hga si_ om_))
 have hwS : w.heap.size ≤ w4.heap.size := by omega
 have f5 := blk_cell HP5.out
 have e5 := blk_free HP5.out
 have c5 := blk_lt HP5.out
 go_wp2_with fail
 go_ret2
 exact ⟨HB5.out, _, hwS, by first | rfl | (simp; done), .inl ⟨_, HP5.out, by simp, .inl ⟨_, by simp, by simp; rfl⟩⟩⟩
theorem lBegunA1 (I E S F P : List UInt8) (lI : I.length ≤ 9000000000000000000) (lE : E.length ≤ 9000000000000000000) (lS : S.length ≤ 9000000000000000000) (lF : F.length ≤ 9000000000000000000) (lP : P.length ≤ 9000000000000000000) (w : World) (hG : GOk w) (hd : dialM I E P = (([], []), 10)) (hl : ((secretB S).2 = true ∧ (secretB F).2 = true)) :
  Calls Tryz.prog 9 #[.agg #[.string (bs I), .string (bs E), .string (bs S), .string (bs F), .string (bs P)]] w (BegunPost w) := by
 have HD := Lib.hid hd
 have HL := Lib.hid hl
 have hgn := hG.size
 have HG0 := Lib.hid (gok_gl hG (gl_alloc (gl_refl ([] : List Nat) w) (.cells #[.string (bs I), .string (bs E), .string (bs S), .string (bs F), .string (bs P)] 24)) si_)
 have hz0 : w.heap.size < (w.alloc (.cells #[.string (bs I), .string (bs E), .string (bs S), .string (bs F), .string (bs P)] 24)).heap.size := by simp
 have HS0 := Lib.hid (blk_new w (.cells #[.string (bs I), .string (bs E), .string (bs S), .string (bs F), .string (bs P)] 24))
 have HB0 := Lib.hid (gl_to_below (gl_alloc (gl_refl ([] : List Nat) w) (.cells #[.string (bs I), .string (bs E), .string (bs S), .string (bs F), .string (bs P)] 24)))
 clear hd hl
 go_enter Tryz.func9, Tryz.ntmps9
 go_wp2_with fail
 generalize w.alloc (.cells #[.string (bs I), .string (bs E), .string (bs S), .string (bs F), .string (bs P)] 24) = w0 at *
 refine (sDial I E P om_ om_ om_ _ HG0.out).mono ?_
 rintro e w1 hp
 unfold DialPost at hp
 rw [HD.out] at hp
 rw [if_neg de_] at hp
 obtain ⟨rfl, hb1⟩ := hp
 have HG1 := Lib.hid (gok_below HG0.out hb1)
 have HS1 := Lib.hid (blk_below HS0.out hb1 (blk_lt HS0.out))
 have hz1 := hb1.size
 have f1 := blk_cell HS1.out
 have e1 := blk_free HS1.out
 have c1 := blk_lt HS1.out
 have HB1 := Lib.hid (HB0.out.trans (hb1.mono om_))
 go_wp2_with fail
 clear f1 e1 c1
 refine (qDial I E P om_ om_ om_ _).mono ?_
 rintro e w2 ⟨hb2, hp⟩
 rw [HD.out] at hp
 rw [if_neg de_] at hp
 obtain rfl := hp
 have HG2 := Lib.hid (gok_below HG1.out hb2)
 have HS2 := Lib.hid (blk_below HS1.out hb2 (blk_lt HS1.out))
 have hz2 := hb2.size
 have f2 := blk_cell HS2.out
 have e2 := blk_free HS2.out
 have c2 := blk_lt HS2.out
 have HB2 := Lib.hid (HB1.out.trans (hb2.mono om_))
 go_wp2_with fail
 clear f2 e2 c2
 refine (sListen S F om_ om_ _ HG2.out).mono ?_
 rintro e w3 hp
 unfold ListenPost at hp
 rw [if_pos HL.out] at hp
 obtain ⟨X1, hX1, rfl, hs0, hb3⟩ := hp
 have HG3 := Lib.hid (gok_below HG2.out hb3)
 have HS3 := Lib.hid (blk_below HS2.out hb3 (blk_lt HS2.out))
 have hz3 := hb3.size
 have f3 := blk_cell HS3.out
 have e3 := blk_free HS3.out
 have c3 := blk_lt HS3.out
 have HB3 := Lib.hid (HB2.out.trans (hb3.mono om_))
 have HE3 := Lib.hid hs0
 have hxl1 := blk_lt hs0
 clear hs0
 go_wp2_with fail
 clear f3 e3 c3
 refine (qListen S F om_ om_ _).mono ?_
 rintro e w4 ⟨hb4, hp⟩
 rw [if_pos HL.out] at hp
 obtain ⟨Y1, hY1, rfl, hs0⟩ := hp
 have HG4 := Lib.hid (gok_below HG3.out hb4)
 have HS4 := Lib.hid (blk_below HS3.out hb4 (blk_lt HS3.out))
 have hz4 := hb4.size
 have f4 := blk_cell HS4.out
 have e4 := blk_free HS4.out
 have c4 := blk_lt HS4.out
 have HB4 := Lib.hid (HB3.out.trans (hb4.mono om_))
 have HE4 := Lib.hid (blk_below HE3.out hb4 hxl1)
 have HI4 := Lib.hid hs0
 have hyl1 := blk_lt hs0
 clear hs0
 clear f4 e4 c4 hb1 hb2 hb3 hb4
 have hga : GL [] w4 (w4.alloc (.cells #[(.pointer none), (.pointer (some ⟨X1, 0, none⟩)), (.pointer none), (.pointer (some ⟨Y1, 0, none⟩)), (.slice none 0 0), (.slice none 0 0)] 49)) := gl_alloc (gl_refl _ _) _
 have HP5 := Lib.hid (blk_new w4 (.cells #[(.pointer none), (.pointer (some ⟨X1, 0, none⟩)), (.pointer none), (.pointer (some ⟨Y1, 0, none⟩)), (.slice none 0 0), (.slice none 0 0)] 49))
 have hz5 : w4.heap.size < (w4.alloc (.cells #[(.pointer none), (.pointer (some ⟨X1, 0, none⟩)), (.pointer none), (.pointer (some ⟨Y1, 0, none⟩)), (.slice none 0 0), (.slice none 0 0)] 49)).heap.size := by simp
 have HB5 := Lib.hid (HB4.out.trans (gl_low hga si_ om_))
 have hwS : w.heap.size ≤ w4.heap.size := by omega
 have f5 := blk_cell HP5.out
 have e5 := blk_free HP5.out
 have c5 := blk_lt HP5.out
 go_wp2_with fail
 go_ret2
 exact ⟨HB5.out, _, hwS, by first | rfl | (simp; done), .inl ⟨_, HP5.out, by simp, .inl ⟨_, by simp, by simp; rfl⟩⟩⟩
theorem lBegunB0 (I E S F P : List UInt8) (lI : I.length ≤ 9000000000000000000) (lE : E.length ≤ 9000000000000000000) (lS : S.length ≤ 9000000000000000000) (lF : F.length ≤ 9000000000000000000) (lP : P.length ≤ 9000000000000000000) (w : World) (hG : GOk w) (hd : dialM I E P = (([], []), 3)) (hl : ¬ ((secretB S).2 = true ∧ (secretB F).2 = true)) :
  Calls Tryz.prog 9 #[.agg #[.string (bs I), .string (bs E), .string (bs S), .string (bs F), .string (bs P)]] w (BegunPost w) := by
 have HD := Lib.hid hd
 have HL := Lib.hid hl
 have hgn := hG.size
 have HG0 := Lib.hid (gok_gl hG (gl_alloc (gl_refl ([] : List Nat) w) (.cells #[.string (bs I), .string (bs E), .string (bs S), .string (bs F), .string (bs P)] 24)) si_)
 have hz0 : w.heap.size < (w.alloc (.cells #[.string (bs I), .string (bs E), .string (bs S), .string (bs F), .string (bs P)] 24)).heap.size := by simp
 have HS0 := Lib.hid (blk_new w (.cells #[.string (bs I), .string (bs E), .string (bs S), .string (bs F), .string (bs P)] 24))
 have HB0 := Lib.hid (gl_to_below (gl_alloc (gl_refl ([] : List Nat) w) (.cells #[.string (bs I), .string (bs E), .string (bs S), .string (bs F), .string (bs P)] 24)))
 clear hd hl
 go_enter Tryz.func9, Tryz.ntmps9
 go_wp2_with fail
 generalize w.alloc (.cells #[.string (bs I), .string (bs E), .string (bs S), .string (bs F), .string (bs P)] 24) = w0 at *
 refine (sDial I E P om_ om_ om_ _ HG0.out).mono ?_
 rintro e w1 hp
 unfold DialPost at hp
 rw [HD.out] at hp
 rw [if_neg de_] at hp
 obtain ⟨rfl, hb1⟩ := hp
 have HG1 := Lib.hid (gok_below HG0.out hb1)
 have HS1 := Lib.hid (blk_below HS0.out hb1 (blk_lt HS0.out))
 have hz1 := hb1.size
 have f1 := blk_cell HS1.out
 have e1 := blk_free HS1.out
 have c1 := blk_lt HS1.out
 have HB1 := Lib.hid (HB0.out.trans (hb1.mono om_))
 go_wp2_with fail
 clear f1 e1 c1
 refine (qDial I E P om_ om_ om_ _).mono ?_
 rintro e w2 ⟨hb2, hp⟩
 rw [HD.out] at hp
 rw [if_neg de_] at hp
 obtain rfl := hp
 have HG2 := Lib.hid (gok_below HG1.out hb2)
 have HS2 := Lib.hid (blk_below HS1.out hb2 (blk_lt HS1.out))
 have hz2 := hb2.size
 have f2 := blk_cell HS2.out
 have e2 := blk_free HS2.out
 have c2 := blk_lt HS2.out
 have HB2 := Lib.hid (HB1.out.trans (hb2.mono om_))
 go_wp2_with fail
 clear f2 e2 c2
 refine (sListen S F om_ om_ _ HG2.out).mono ?_
 rintro e w3 hp
 unfold ListenPost at hp
 rw [if_neg HL.out] at hp
 obtain ⟨rfl, hb3⟩ := hp
 have HG3 := Lib.hid (gok_below HG2.out hb3)
 have HS3 := Lib.hid (blk_below HS2.out hb3 (blk_lt HS2.out))
 have hz3 := hb3.size
 have f3 := blk_cell HS3.out
 have e3 := blk_free HS3.out
 have c3 := blk_lt HS3.out
 have HB3 := Lib.hid (HB2.out.trans (hb3.mono om_))
 go_wp2_with fail
 clear f3 e3 c3
 refine (qListen S F om_ om_ _).mono ?_
 rintro e w4 ⟨hb4, hp⟩
 rw [if_neg HL.out] at hp
 obtain rfl := hp
 have HG4 := Lib.hid (gok_below HG3.out hb4)
 have HS4 := Lib.hid (blk_below HS3.out hb4 (blk_lt HS3.out))
 have hz4 := hb4.size
 have f4 := blk_cell HS4.out
 have e4 := blk_free HS4.out
 have c4 := blk_lt HS4.out
 have HB4 := Lib.hid (HB3.out.trans (hb4.mono om_))
 clear f4 e4 c4 hb1 hb2 hb3 hb4
 have hga : GL [] w4 (w4.alloc (.cells #[(.pointer none), (.pointer none), (.pointer none), (.pointer none), (.slice none 0 0), (.slice none 0 0)] 49)) := gl_alloc (gl_refl _ _) _
 have HP5 := Lib.hid (blk_new w4 (.cells #[(.pointer none), (.pointer none), (.pointer none), (.pointer none), (.slice none 0 0), (.slice none 0 0)] 49))
 have hz5 : w4.heap.size < (w4.alloc (.cells #[(.pointer none), (.pointer none), (.pointer none), (.pointer none), (.slice none 0 0), (.slice none 0 0)] 49)).heap.size := by simp
 have HB5 := Lib.hid (HB4.out.trans (gl_low hga si_ om_))
 have hwS : w.heap.size ≤ w4.heap.size := by omega
 have f5 := blk_cell HP5.out
 have e5 := blk_free HP5.out
 have c5 := blk_lt HP5.out
 go_wp2_with fail
 go_ret2
 exact ⟨HB5.out, _, hwS, by first | rfl | (simp; done), .inl ⟨_, HP5.out, by simp, .inl ⟨_, by simp, by simp; rfl⟩⟩⟩
theorem lBegunB1 (I E S F P : List UInt8) (lI : I.length ≤ 9000000000000000000) (lE : E.length ≤ 9000000000000000000) (lS : S.length ≤ 9000000000000000000) (lF : F.length ≤ 9000000000000000000) (lP : P.length ≤ 9000000000000000000) (w : World) (hG : GOk w) (hd : dialM I E P = (([], []), 3)) (hl : ((secretB S).2 = true ∧ (secretB F).2 = true)) :
  Calls Tryz.prog 9 #[.agg #[.string (bs I), .string (bs E), .string (bs S), .string (bs F), .string (bs P)]] w (BegunPost w) := by
 have HD := Lib.hid hd
 have HL := Lib.hid hl
 have hgn := hG.size
 have HG0 := Lib.hid (gok_gl hG (gl_alloc (gl_refl ([] : List Nat) w) (.cells #[.string (bs I), .string (bs E), .string (bs S), .string (bs F), .string (bs P)] 24)) si_)
 have hz0 : w.heap.size < (w.alloc (.cells #[.string (bs I), .string (bs E), .string (bs S), .string (bs F), .string (bs P)] 24)).heap.size := by simp
 have HS0 := Lib.hid (blk_new w (.cells #[.string (bs I), .string (bs E), .string (bs S), .string (bs F), .string (bs P)] 24))
 have HB0 := Lib.hid (gl_to_below (gl_alloc (gl_refl ([] : List Nat) w) (.cells #[.string (bs I), .string (bs E), .string (bs S), .string (bs F), .string (bs P)] 24)))
 clear hd hl
 go_enter Tryz.func9, Tryz.ntmps9
 go_wp2_with fail
 generalize w.alloc (.cells #[.string (bs I), .string (bs E), .string (bs S), .string (bs F), .string (bs P)] 24) = w0 at *
 refine (sDial I E P om_ om_ om_ _ HG0.out).mono ?_
 rintro e w1 hp
 unfold DialPost at hp
 rw [HD.out] at hp
 rw [if_neg de_] at hp
 obtain ⟨rfl, hb1⟩ := hp
 have HG1 := Lib.hid (gok_below HG0.out hb1)
 have HS1 := Lib.hid (blk_below HS0.out hb1 (blk_lt HS0.out))
 have hz1 := hb1.size
 have f1 := blk_cell HS1.out
 have e1 := blk_free HS1.out
 have c1 := blk_lt HS1.out
 have HB1 := Lib.hid (HB0.out.trans (hb1.mono om_))
 go_wp2_with fail
 clear f1 e1 c1
 refine (qDial I E P om_ om_ om_ _).mono ?_
 rintro e w2 ⟨hb2, hp⟩
 rw [HD.out] at hp
 rw [if_neg de_] at hp
 obtain rfl := hp
 have HG2 := Lib.hid (gok_below HG1.out hb2)
 have HS2 := Lib.hid (blk_below HS1.out hb2 (blk_lt HS1.out))
 have hz2 := hb2.size
 have f2 := blk_cell HS2.out
 have e2 := blk_free HS2.out
 have c2 := blk_lt HS2.out
 have HB2 := Lib.hid (HB1.out.trans (hb2.mono om_))
 go_wp2_with fail
 clear f2 e2 c2
 refine (sListen S F om_ om_ _ HG2.out).mono ?_
 rintro e w3 hp
 unfold ListenPost at hp
 rw [if_pos HL.out] at hp
 obtain ⟨X1, hX1, rfl, hs0, hb3⟩ := hp
 have HG3 := Lib.hid (gok_below HG2.out hb3)
 have HS3 := Lib.hid (blk_below HS2.out hb3 (blk_lt HS2.out))
 have hz3 := hb3.size
 have f3 := blk_cell HS3.out
 have e3 := blk_free HS3.out
 have c3 := blk_lt HS3.out
 have HB3 := Lib.hid (HB2.out.trans (hb3.mono om_))
 have HE3 := Lib.hid hs0
 have hxl1 := blk_lt hs0
 clear hs0
 go_wp2_with fail
 clear f3 e3 c3
 refine (qListen S F om_ om_ _).mono ?_
 rintro e w4 ⟨hb4, hp⟩
 rw [if_pos HL.out] at hp
 obtain ⟨Y1, hY1, rfl, hs0⟩ := hp
 have HG4 := Lib.hid (gok_below HG3.out hb4)
 have HS4 := Lib.hid (blk_below HS3.out hb4 (blk_lt HS3.out))
 have hz4 := hb4.size
 have f4 := blk_cell HS4.out
 have e4 := blk_free HS4.out
 have c4 := blk_lt HS4.out
 have HB4 := Lib.hid (HB3.out.trans (hb4.mono om_))
 have HE4 := Lib.hid (blk_below HE3.out hb4 hxl1)
 have HI4 := Lib.hid hs0
 have hyl1 := blk_lt hs0
 clear hs0
 clear f4 e4 c4 hb1 hb2 hb3 hb4
 have hga : GL [] w4 (w4.alloc (.cells #[(.pointer none), (.pointer (some ⟨X1, 0, none⟩)), (.pointer none), (.pointer (some ⟨Y1, 0, none⟩)), (.slice none 0 0), (.slice none 0 0)] 49)) := gl_alloc (gl_refl _ _) _
 have HP5 := Lib.hid (blk_new w4 (.cells #[(.pointer none), (.pointer (some ⟨X1, 0, none⟩)), (.pointer none), (.pointer (some ⟨Y1, 0, none⟩)), (.slice none 0 0), (.slice none 0 0)] 49))
 have hz5 : w4.heap.size < (w4.alloc (.cells #[(.pointer none), (.pointer (some ⟨X1, 0, none⟩)), (.pointer none), (.pointer (some ⟨Y1, 0, none⟩)), (.slice none 0 0), (.slice none 0 0)] 49)).heap.size := by simp
 have HB5 := Lib.hid (HB4.out.trans (gl_low hga si_ om_))
 have hwS : w.heap.size ≤ w4.heap.size := by omega
 have f5 := blk_cell HP5.out
 have e5 := blk_free HP5.out
 have c5 := blk_lt HP5.out
 go_wp2_with fail
 go_ret2
 exact ⟨HB5.out, _, hwS, by first | rfl | (simp; done), .inl ⟨_, HP5.out, by simp, .inl ⟨_, by simp, by simp; rfl⟩⟩⟩
theorem lBegunC0 (I E S F P : List UInt8) (lI : I.length ≤ 9000000000000000000) (lE : E.length ≤ 9000000000000000000) (lS : S.length ≤ 9000000000000000000) (lF : F.length ≤ 9000000000000000000) (lP : P.length ≤ 9000000000000000000) (w : World) (hG : GOk w) (k act : List UInt8) (lk : k.length ≤ 16384) (lact : act.length ≤ 16384) (hd : dialM I E P = ((k, act), 0)) (hl : ¬ ((secretB S).2 = true ∧ (secretB F).2 = true)) :
  Calls Tryz.prog 9 #[.agg #[.string (bs I), .string (bs E), .string (bs S), .string (bs F), .string (bs P)]] w (BegunPost w) := by
 have HD := Lib.hid hd
 have HL := Lib.hid hl
 have hgn := hG.size
 have HG0 := Lib.hid (gok_gl hG (gl_alloc (gl_refl ([] : List Nat) w) (.cells #[.string (bs I), .string (bs E), .string (bs S), .string (bs F), .string (bs P)] 24)) si_)
 have hz0 : w.heap.size < (w.alloc (.cells #[.string (bs I), .string (bs E), .string (bs S), .string (bs F), .string (bs P)] 24)).heap.size := by simp
 have HS0 := Lib.hid (blk_new w (.cells #[.string (bs I), .string (bs E), .string (bs S), .string (bs F), .string (bs P)] 24))
 have HB0 := Lib.hid (gl_to_below (gl_alloc (gl_refl ([] : List Nat) w) (.cells #[.string (bs I), .string (bs E), .string (bs S), .string (bs F), .string (bs P)] 24)))
 clear hd hl
 go_enter Tryz.func9, Tryz.ntmps9
 go_wp2_with fail
 generalize w.alloc (.cells #[.string (bs I), .string (bs E), .string (bs S), .string (bs F), .string (bs P)] 24) = w0 at *
 refine (sDial I E P om_ om_ om_ _ HG0.out).mono ?_
 rintro e w1 hp
 unfold DialPost at hp
 rw [HD.out] at hp
 rw [if_pos rfl] at hp
 obtain ⟨X0, hX0, rfl, hs0, hb1⟩ := hp
 have HG1 := Lib.hid (gok_below HG0.out hb1)
 have HS1 := Lib.hid (blk_below HS0.out hb1 (blk_lt HS0.out))
 have hz1 := hb1.size
 have f1 := blk_cell HS1.out
 have e1 := blk_free HS1.out
 have c1 := blk_lt HS1.out
 have HB1 := Lib.hid (HB0.out.trans (hb1.mono om_))
 have HA1 := Lib.hid hs0
 have hxl0 := blk_lt hs0
 clear hs0
 go_wp2_with fail
 clear f1 e1 c1
 refine (qDial I E P om_ om_ om_ _).mono ?_
 rintro e w2 ⟨hb2, hp⟩
 rw [HD.out] at hp
 rw [if_pos rfl] at hp
 obtain ⟨Y0, hY0, rfl, hs0⟩ := hp
 have HG2 := Lib.hid (gok_below HG1.out hb2)
 have HS2 := Lib.hid (blk_below HS1.out hb2 (blk_lt HS1.out))
 have hz2 := hb2.size
 have f2 := blk_cell HS2.out
 have e2 := blk_free HS2.out
 have c2 := blk_lt HS2.out
 have HB2 := Lib.hid (HB1.out.trans (hb2.mono om_))
 have HA2 := Lib.hid (blk_below HA1.out hb2 hxl0)
 have HC2 := Lib.hid hs0
 have hyl0 := blk_lt hs0
 clear hs0
 go_wp2_with fail
 clear f2 e2 c2
 refine (sListen S F om_ om_ _ HG2.out).mono ?_
 rintro e w3 hp
 unfold ListenPost at hp
 rw [if_neg HL.out] at hp
 obtain ⟨rfl, hb3⟩ := hp
 have HG3 := Lib.hid (gok_below HG2.out hb3)
 have HS3 := Lib.hid (blk_below HS2.out hb3 (blk_lt HS2.out))
 have hz3 := hb3.size
 have f3 := blk_cell HS3.out
 have e3 := blk_free HS3.out
 have c3 := blk_lt HS3.out
 have HB3 := Lib.hid (HB2.out.trans (hb3.mono om_))
 have HA3 := Lib.hid (blk_below HA2.out hb3 om_)
 have HC3 := Lib.hid (blk_below HC2.out hb3 hyl0)
 go_wp2_with fail
 clear f3 e3 c3
 refine (qListen S F om_ om_ _).mono ?_
 rintro e w4 ⟨hb4, hp⟩
 rw [if_neg HL.out] at hp
 obtain rfl := hp
 have HG4 := Lib.hid (gok_below HG3.out hb4)
 have HS4 := Lib.hid (blk_below HS3.out hb4 (blk_lt HS3.out))
 have hz4 := hb4.size
 have f4 := blk_cell HS4.out
 have e4 := blk_free HS4.out
 have c4 := blk_lt HS4.out
 have HB4 := Lib.hid (HB3.out.trans (hb4.mono om_))
 have HA4 := Lib.hid (blk_below HA3.out hb4 om_)
 have HC4 := Lib.hid (blk_below HC3.out hb4 om_)
 clear f4 e4 c4 hb1 hb2 hb3 hb4
 have hga : GL [] w4 (w4.alloc (.cells #[(.pointer (some ⟨X0, 0, none⟩)), (.pointer none), (.pointer (some ⟨Y0, 0, none⟩)), (.pointer none), (.slice none 0 0), (.slice none 0 0)] 49)) := gl_alloc (gl_refl _ _) _
 have HP5 := Lib.hid (blk_new w4 (.cells #[(.pointer (some ⟨X0, 0, none⟩)), (.pointer none), (.pointer (some ⟨Y0, 0, none⟩)), (.pointer none), (.slice none 0 0), (.slice none 0 0)] 49))
 have hz5 : w4.heap.size < (w4.alloc (.cells #[(.pointer (some ⟨X0, 0, none⟩)), (.pointer none), (.pointer (some ⟨Y0, 0, none⟩)), (.pointer none), (.slice none 0 0), (.slice none 0 0)] 49)).heap.size := by simp
 have HB5 := Lib.hid (HB4.out.trans (gl_low hga si_ om_))
 have hwS : w.heap.size ≤ w4.heap.size := by omega
 have f5 := blk_cell HP5.out
 have e5 := blk_free HP5.out
 have c5 := blk_lt HP5.out
 obtain ⟨w5, hw5⟩ : ∃ x, w4.alloc (.cells #[(.pointer (some ⟨X0, 0, none⟩)), (.pointer none), (.pointer (some ⟨Y0, 0, none⟩)), (.pointer none), (.slice none 0 0), (.slice none 0 0)] 49) = x := ⟨_, rfl⟩
 rw [hw5] at hga HP5 hz5 HB5 f5 e5 c5
 obtain ⟨g, o, c, w6, hrun, hq6, hg6, hat6, hgl6⟩ := run_append_que w.heap.size (.slice none 0 0) [] act w5 (queT_nil _ _) si_ om_ _ rfl
 have hg6' : GL [] w5 w6 := hg6
 have HP6 := Lib.hid (blk_gl HP5.out hg6' si_)
 have f6 := blk_cell HP6.out
 have e6 := blk_free HP6.out
 have c6 := blk_lt HP6.out
 have hg7 : GL [w4.heap.size] w5 (w6.setCell ⟨w4.heap.size, 5, none⟩ (.slice (some ⟨g, o, none⟩) (([] : List (List UInt8)).length + 1) c)) := gl_seti (p := ⟨w4.heap.size, 5, none⟩) si_ (gl_step hg6' (gl_refl _ _) si_) _
 have HB7 := Lib.hid (HB5.out.trans (gl_low hg7 so_ om_))
 have HRUN := Lib.hid hrun
 have HF := Lib.hid (blk_set HP6.out 5 (.slice (some ⟨g, o, none⟩) (([] : List (List UInt8)).length + 1) c))
 have hwr : IntKind.i64.wrap 1 = 1 := rfl
 clear hrun hq6 hg6 hat6 hg7 hg6'
 go_wp2_with fail
 clear hw5
 go_region_law (refine step_append_run rfl _ _ 31 rfl _ _ _ rfl rfl HRUN.out ?_)
 all_goals
  go_wp2_with fail
  go_ret2
  exact ⟨HB7.out, _, hwS, by first | rfl | (simp; done), .inl ⟨_, HF.out, by simp, .inr ⟨_, by simp; rfl, by simp⟩⟩⟩
theorem lBegunC1 (I E S F P : List UInt8) (lI : I.length ≤ 9000000000000000000) (lE : E.length ≤ 9000000000000000000) (lS : S.length ≤ 9000000000000000000) (lF : F.length ≤ 9000000000000000000) (lP : P.length ≤ 9000000000000000000) (w : World) (hG : GOk w) (k act : List UInt8) (lk : k.length ≤ 16384) (lact : act.length ≤ 16384) (hd : dialM I E P = ((k, act), 0)) (hl : ((secretB S).2 = true ∧ (secretB F).2 = true)) :
  Calls Tryz.prog 9 #[.agg #[.string (bs I), .string (bs E), .string (bs S), .string (bs F), .string (bs P)]] w (BegunPost w) := by
 have HD := Lib.hid hd
 have HL := Lib.hid hl
 have hgn := hG.size
 have HG0 := Lib.hid (gok_gl hG (gl_alloc (gl_refl ([] : List Nat) w) (.cells #[.string (bs I), .string (bs E), .string (bs S), .string (bs F), .string (bs P)] 24)) si_)
 have hz0 : w.heap.size < (w.alloc (.cells #[.string (bs I), .string (bs E), .string (bs S), .string (bs F), .string (bs P)] 24)).heap.size := by simp
 have HS0 := Lib.hid (blk_new w (.cells #[.string (bs I), .string (bs E), .string (bs S), .string (bs F), .string (bs P)] 24))
 have HB0 := Lib.hid (gl_to_below (gl_alloc (gl_refl ([] : List Nat) w) (.cells #[.string (bs I), .string (bs E), .string (bs S), .string (bs F), .string (bs P)] 24)))
 clear hd hl
 go_enter Tryz.func9, Tryz.ntmps9
 go_wp2_with fail
 generalize w.alloc (.cells #[.string (bs I), .string (bs E), .string (bs S), .string (bs F), .string (bs P)] 24) = w0 at *
 refine (sDial I E P om_ om_ om_ _ HG0.out).mono ?_
 rintro e w1 hp
 unfold DialPost at hp
 rw [HD.out] at hp
 rw [if_pos rfl] at hp
 obtain ⟨X0, hX0, rfl, hs0, hb1⟩ := hp
 have HG1 := Lib.hid (gok_below HG0.out hb1)
 have HS1 := Lib.hid (blk_below HS0.out hb1 (blk_lt HS0.out))
 have hz1 := hb1.size
 have f1 := blk_cell HS1.out
 have e1 := blk_free HS1.out
 have c1 := blk_lt HS1.out
 have HB1 := Lib.hid (HB0.out.trans (hb1.mono om_))
 have HA1 := Lib.hid hs0
 have hxl0 := blk_lt hs0
 clear hs0
 go_wp2_with fail
 clear f1 e1 c1
 refine (qDial I E P om_ om_ om_ _).mono ?_
 rintro e w2 ⟨hb2, hp⟩
 rw [HD.out] at hp
 rw [if_pos rfl] at hp
 obtain ⟨Y0, hY0, rfl, hs0⟩ := hp
 have HG2 := Lib.hid (gok_below HG1.out hb2)
 have HS2 := Lib.hid (blk_below HS1.out hb2 (blk_lt HS1.out))
 have hz2 := hb2.size
 have f2 := blk_cell HS2.out
 have e2 := blk_free HS2.out
 have c2 := blk_lt HS2.out
 have HB2 := Lib.hid (HB1.out.trans (hb2.mono om_))
 have HA2 := Lib.hid (blk_below HA1.out hb2 hxl0)
 have HC2 := Lib.hid hs0
 have hyl0 := blk_lt hs0
 clear hs0
 go_wp2_with fail
 clear f2 e2 c2
 refine (sListen S F om_ om_ _ HG2.out).mono ?_
 rintro e w3 hp
 unfold ListenPost at hp
 rw [if_pos HL.out] at hp
 obtain ⟨X1, hX1, rfl, hs0, hb3⟩ := hp
 have HG3 := Lib.hid (gok_below HG2.out hb3)
 have HS3 := Lib.hid (blk_below HS2.out hb3 (blk_lt HS2.out))
 have hz3 := hb3.size
 have f3 := blk_cell HS3.out
 have e3 := blk_free HS3.out
 have c3 := blk_lt HS3.out
 have HB3 := Lib.hid (HB2.out.trans (hb3.mono om_))
 have HA3 := Lib.hid (blk_below HA2.out hb3 om_)
 have HC3 := Lib.hid (blk_below HC2.out hb3 hyl0)
 have HE3 := Lib.hid hs0
 have hxl1 := blk_lt hs0
 clear hs0
 go_wp2_with fail
 clear f3 e3 c3
 refine (qListen S F om_ om_ _).mono ?_
 rintro e w4 ⟨hb4, hp⟩
 rw [if_pos HL.out] at hp
 obtain ⟨Y1, hY1, rfl, hs0⟩ := hp
 have HG4 := Lib.hid (gok_below HG3.out hb4)
 have HS4 := Lib.hid (blk_below HS3.out hb4 (blk_lt HS3.out))
 have hz4 := hb4.size
 have f4 := blk_cell HS4.out
 have e4 := blk_free HS4.out
 have c4 := blk_lt HS4.out
 have HB4 := Lib.hid (HB3.out.trans (hb4.mono om_))
 have HA4 := Lib.hid (blk_below HA3.out hb4 om_)
 have HC4 := Lib.hid (blk_below HC3.out hb4 om_)
 have HE4 := Lib.hid (blk_below HE3.out hb4 hxl1)
 have HI4 := Lib.hid hs0
 have hyl1 := blk_lt hs0
 clear hs0
 clear f4 e4 c4 hb1 hb2 hb3 hb4
 have hga : GL [] w4 (w4.alloc (.cells #[(.pointer (some ⟨X0, 0, none⟩)), (.pointer (some ⟨X1, 0, none⟩)), (.pointer (some ⟨Y0, 0, none⟩)), (.pointer (some ⟨Y1, 0, none⟩)), (.slice none 0 0), (.slice none 0 0)] 49)) := gl_alloc (gl_refl _ _) _
 have HP5 := Lib.hid (blk_new w4 (.cells #[(.pointer (some ⟨X0, 0, none⟩)), (.pointer (some ⟨X1, 0, none⟩)), (.pointer (some ⟨Y0, 0, none⟩)), (.pointer (some ⟨Y1, 0, none⟩)), (.slice none 0 0), (.slice none 0 0)] 49))
 have hz5 : w4.heap.size < (w4.alloc (.cells #[(.pointer (some ⟨X0, 0, none⟩)), (.pointer (some ⟨X1, 0, none⟩)), (.pointer (some ⟨Y0, 0, none⟩)), (.pointer (some ⟨Y1, 0, none⟩)), (.slice none 0 0), (.slice none 0 0)] 49)).heap.size := by simp
 have HB5 := Lib.hid (HB4.out.trans (gl_low hga si_ om_))
 have HQ5 := Lib.hid (show PairAt (w4.alloc (.cells #[(.pointer (some ⟨X0, 0, none⟩)), (.pointer (some ⟨X1, 0, none⟩)), (.pointer (some ⟨Y0, 0, none⟩)), (.pointer (some ⟨Y1, 0, none⟩)), (.slice none 0 0), (.slice none 0 0)] 49)) w.heap.size w4.heap.size X0 X1 Y0 Y1 (.slice none 0 0) (.slice none 0 0) [] [] 0 from
  ⟨blk_new w4 (.cells #[(.pointer (some ⟨X0, 0, none⟩)), (.pointer (some ⟨X1, 0, none⟩)), (.pointer (some ⟨Y0, 0, none⟩)), (.pointer (some ⟨Y1, 0, none⟩)), (.slice none 0 0), (.slice none 0 0)] 49), queT_nil _ _, queT_nil _ _,
   side_gl (.inr (.inl ⟨I, E, P, k, [], [], [], [], [], true, 0, 0, 0, 0, by omega, by omega, by omega, by simp, HA4.out, HC4.out⟩)) hga si_ si_,
   side_gl (.inl ⟨S, F, [], [], [], [], [], [], [], 0, 0, 0, 0, by omega, by omega, by simp, by simp, HE4.out, HI4.out⟩) hga si_ si_,
   by omega, by omega, fun g hg => by simp [Value.ownBlock] at hg, fun g hg => by simp [Value.ownBlock] at hg, by simp, by simp, by simp⟩)
 have hwS : w.heap.size ≤ w4.heap.size := by omega
 have f5 := blk_cell HP5.out
 have e5 := blk_free HP5.out
 have c5 := blk_lt HP5.out
 obtain ⟨w5, hw5⟩ : ∃ x, w4.alloc (.cells #[(.pointer (some ⟨X0, 0, none⟩)), (.pointer (some ⟨X1, 0, none⟩)), (.pointer (some ⟨Y0, 0, none⟩)), (.pointer (some ⟨Y1, 0, none⟩)), (.slice none 0 0), (.slice none 0 0)] 49) = x := ⟨_, rfl⟩
 rw [hw5] at hga HP5 hz5 HB5 f5 e5 c5 HQ5
 obtain ⟨g, o, c, w6, hrun, hq6, hg6, hat6, hgl6⟩ := run_append_que w.heap.size (.slice none 0 0) [] act w5 (queT_nil _ _) si_ om_ _ rfl
 have hg6' : GL [] w5 w6 := hg6
 have HP6 := Lib.hid (blk_gl HP5.out hg6' si_)
 have f6 := blk_cell HP6.out
 have e6 := blk_free HP6.out
 have c6 := blk_lt HP6.out
 have hg7 : GL [w4.heap.size] w5 (w6.setCell ⟨w4.heap.size, 5, none⟩ (.slice (some ⟨g, o, none⟩) (([] : List (List UInt8)).length + 1) c)) := gl_seti (p := ⟨w4.heap.size, 5, none⟩) si_ (gl_step hg6' (gl_refl _ _) si_) _
 have HB7 := Lib.hid (HB5.out.trans (gl_low hg7 so_ om_))
 have HRUN := Lib.hid hrun
 have HF := Lib.hid (pair_push0 HQ5.out lact hq6 hg6 hat6 hgl6)
 have hwr : IntKind.i64.wrap 1 = 1 := rfl
 clear hrun hq6 hg6 hat6 hg7 hg6'
 go_wp2_with fail
 clear hw5
 go_region_law (refine step_append_run rfl _ _ 31 rfl _ _ _ rfl rfl HRUN.out ?_)
 all_goals
  go_wp2_with fail
  go_ret2
  exact ⟨HB7.out, _, hwS, by first | rfl | (simp; done), .inr ⟨_, _, _, _, _, _, _, _, HF.out⟩⟩
theorem lBegun (I E S F P : List UInt8) (lI : I.length ≤ 9000000000000000000) (lE : E.length ≤ 9000000000000000000) (lS : S.length ≤ 9000000000000000000) (lF : F.length ≤ 9000000000000000000) (lP : P.length ≤ 9000000000000000000) (w : World) (hG : GOk w) :
  Calls Tryz.prog 9 #[.agg #[.string (bs I), .string (bs E), .string (bs S), .string (bs F), .string (bs P)]] w (BegunPost w) := by
 by_cases hl : (secretB S).2 = true ∧ (secretB F).2 = true
 · rcases dialM_cases I E P with h | h | ⟨k, act, h, lk, la⟩
   · exact lBegunA1 I E S F P lI lE lS lF lP w hG h hl
   · exact lBegunB1 I E S F P lI lE lS lF lP w hG h hl
   · exact lBegunC1 I E S F P lI lE lS lF lP w hG k act lk la h hl
 · rcases dialM_cases I E P with h | h | ⟨k, act, h, lk, la⟩
   · exact lBegunA0 I E S F P lI lE lS lF lP w hG h hl
   · exact lBegunB0 I E S F P lI lE lS lF lP w hG h hl
   · exact lBegunC0 I E S F P lI lE lS lF lP w hG k act lk la h hl
end Go.Proofs.YtaaiaahkakkleaaGreatDoor
