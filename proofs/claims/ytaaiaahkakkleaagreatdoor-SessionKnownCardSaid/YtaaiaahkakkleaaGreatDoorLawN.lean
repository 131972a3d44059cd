/- The laws of layer 21: what works asks; a session that is not there. -/
import Derived.Test.YtaaiaahkakkleaaGreatDoorMSes
set_option maxRecDepth 100000
set_option maxHeartbeats 2000000
set_option linter.unusedSimpArgs false
set_option linter.unusedVariables false
namespace Go.Proofs.YtaaiaahkakkleaaGreatDoor
open Go.RowKit
theorem ev21_names : nameL 1 = [110, 49, 59] ∧ nameL 2 = [110, 50, 59] ∧ nameL 3 = [110, 51, 59] ∧ nameL 4 = [110, 52, 59] := by decide +kernel
theorem ev21_one : actL (80 :: nameL 2) (hashL (agreeL (nameL 2) (nameL 3)) (80 :: nameL 3)) = [84, 50, 58, 80, 110, 50, 59, 66, 72, 84, 50, 58, 88, 110, 50, 59, 110, 51, 59, 80, 110, 51, 59, 116, 48, 58] := by decide +kernel
theorem lWorks21 (w : World) (hG : GOk w) :
  Calls Tryz.prog 8 #[] w fun e w' => e = .returned (.bool true) ∧ Below w.heap.size w w' := by
 obtain ⟨k1, k2, a1, a2, a3, d, l, hk⟩ := hsk_is 1 2 3 4 om_ om_ om_ om_
 obtain ⟨fr, hfr, hrd, hfl⟩ := frame_at (c := 0) (x := [104, 101, 108, 108, 111]) hk.qd om_ om_ om_ om_ de_
 have hon := (onM_at (c := 0) hk.qd om_ om_ om_ om_).2.2 om_
 obtain ⟨n1, n2, n3, n4⟩ := ev21_names
 have ha1 : a1 = [84, 50, 58, 80, 110, 50, 59, 66, 72, 84, 50, 58, 88, 110, 50, 59, 110, 51, 59, 80, 110, 51, 59, 116, 48, 58] := hk.e1.trans ev21_one
 have D1 := hk.dial
 have D2 := hk.one
 have D3 := hk.two
 have D4 := hk.three
 have D5 := hk.so
 have D6 := hk.sf
 rw [n1, n2, n3] at D1
 rw [n3, n4] at D2
 rw [n1, n2] at D3
 rw [n4, n1] at D4
 rw [n3] at D5
 rw [n4] at D6
 subst ha1
 have K1 := Lib.hid D1
 have K2 := Lib.hid D2
 have K3 := Lib.hid D3
 have K4 := Lib.hid D4
 have K5 := Lib.hid D5
 have K6 := Lib.hid D6
 have K7 := Lib.hid hfr
 have K8 := Lib.hid hrd
 have K9 := Lib.hid hon
 have lk1 : k1.length ≤ 9000000000000000000 := by have := hk.lk1; omega
 have lk2 : k2.length ≤ 9000000000000000000 := by have := hk.lk2; omega
 have la2 : a2.length ≤ 9000000000000000000 := by have := hk.la2; omega
 have la3 : a3.length ≤ 9000000000000000000 := by have := hk.la3; omega
 have ld : d.length ≤ 9000000000000000000 := by have := hk.qd.2; omega
 have ll : l.length ≤ 9000000000000000000 := by have := hk.ql.2; omega
 have lfr : fr.length ≤ 9000000000000000000 := by omega
 have HG0 := Lib.hid hG
 have hs := hG.size
 clear hk n1 n2 n3 n4 D1 D2 D3 D4 D5 D6 hfr hrd hon hfl hG
 go_enter Tryz.func8, Tryz.ntmps8
 have hg0 : GL [] w w := gl_refl _ _
 have hs0 : w.heap.size ≤ w.heap.size := Nat.le_refl _
 go_wp2_with fail
 refine (sDial [110, 49, 59] [110, 50, 59] [80, 110, 51, 59] de_ de_ de_ _ HG0.out).mono ?_
 rintro e w1 hp
 rw [K1.out] at hp
 unfold DialPost at hp
 rw [if_pos rfl] at hp
 obtain ⟨X, hXge, rfl, hx1, hb1⟩ := hp
 have HX1 := Lib.hid hx1
 have HG1 := Lib.hid (gok_below HG0.out hb1)
 have hg1 : GL [] w w1 := gl_below hb1 hg0
 have hXlt := blk_lt hx1
 clear hx1
 have hs1 := hg1.size
 go_wp2_with fail
 refine (sListen [110, 51, 59] [110, 52, 59] de_ de_ _ HG1.out).mono ?_
 rintro e w2 hp
 unfold ListenPost at hp
 rw [if_pos ⟨by rw [K5.out], by rw [K6.out]⟩] at hp
 obtain ⟨Y, hYge, rfl, hy2, hb2⟩ := hp
 have HY2 := Lib.hid hy2
 have HX2 := Lib.hid (blk_below HX1.out hb2 (blk_lt HX1.out))
 have HG2 := Lib.hid (gok_below HG1.out hb2)
 have hg2 : GL [] w w2 := gl_below hb2 hg1
 have neXY : X ≠ Y := by omega
 have neYX : Y ≠ X := by omega
 have gnX : gN ≤ X := by omega
 have gnY : gN ≤ Y := by omega
 have geY : w.heap.size ≤ Y := by omega
 clear hy2
 have hs2 := hg2.size
 go_wp2_with fail
 refine (hearOne [84, 50, 58, 80, 110, 50, 59, 66, 72, 84, 50, 58, 88, 110, 50, 59, 110, 51, 59, 80, 110, 51, 59, 116, 48, 58] Y [110, 51, 59] [110, 52, 59] [] false [] [] 0 [] 0 de_ de_ de_ _ HY2.out gnY HG2.out).mono ?_
 rintro e w3 hp
 rw [K2.out] at hp
 obtain ⟨hl3, rfl, hy3⟩ := hp
 have HY3 := Lib.hid hy3
 have HX3 := Lib.hid (blk_gl HX2.out hl3 sx_)
 have HG3 := Lib.hid (gok_gl HG2.out hl3 sx_)
 have hg3 : GL [] w w3 := gl_step hl3 hg2 sx_
 have hs3 := hg3.size
 clear hy3
 go_wp2_with fail
 have HX4 := Lib.hid (blk_alloc HX3.out (.cells #[.string (bs a2), .string (bs []), .bool false] 53))
 have ltXHA : X < w3.heap.size := by have := blk_lt HX3.out; omega
 have neXHA : X ≠ w3.heap.size := by omega
 have neHAX : w3.heap.size ≠ X := by omega
 have HY4 := Lib.hid (blk_alloc HY3.out (.cells #[.string (bs a2), .string (bs []), .bool false] 53))
 have ltYHA : Y < w3.heap.size := by have := blk_lt HY3.out; omega
 have neYHA : Y ≠ w3.heap.size := by omega
 have neHAY : w3.heap.size ≠ Y := by omega
 have HHA4 : Hid ((w3.alloc (.cells #[.string (bs a2), .string (bs []), .bool false] 53)).heap[w3.heap.size]? = some (.cells #[.string (bs a2), .string (bs []), .bool false] 53 (0, 0))) := by
  have h := blk_new w3 (.cells #[.string (bs a2), .string (bs []), .bool false] 53)
  exact h
 have HG4 := Lib.hid (gok_alloc HG3.out (.cells #[.string (bs a2), .string (bs []), .bool false] 53))
 have hg4 : GL [] w (w3.alloc (.cells #[.string (bs a2), .string (bs []), .bool false] 53)) := (gl_alloc hg3 (.cells #[.string (bs a2), .string (bs []), .bool false] 53))
 have geHA : w.heap.size ≤ w3.heap.size := by have := hg3.size; omega
 have gnHA : gN ≤ w3.heap.size := by have := HG3.out.size; omega
 generalize (w3.alloc (.cells #[.string (bs a2), .string (bs []), .bool false] 53)) = w4 at *
 generalize w3.heap.size = HA at *
 have hs4 := hg4.size
 refine (hearTwo a2 X [110, 49, 59] [110, 50, 59] [80, 110, 51, 59] true k1 [] 0 [] 0 de_ de_ lk1 la2 _ HX4.out gnX HG4.out).mono ?_
 rintro e w5 hp
 rw [K3.out] at hp
 obtain ⟨hl5, hp⟩ := hp
 rw [if_pos rfl] at hp
 obtain ⟨rfl, hx5⟩ := hp
 have hx5b : SesAt w5 X [110, 49, 59] [110, 50, 59] [80, 110, 51, 59] true true false k1 d 0 l 0 (.func (.func 96) #[.pointer (some ⟨X, 0, none⟩)] #[]) := hx5
 have HX5 := Lib.hid hx5b
 have HY5 := Lib.hid (blk_gl HY4.out hl5 sx_)
 have HHA5 := Lib.hid (blk_gl HHA4.out hl5 sx_)
 have HG5 := Lib.hid (gok_gl HG4.out hl5 sx_)
 have hg5 : GL [] w w5 := gl_step hl5 hg4 sx_
 have hs5 := hg5.size
 clear hx5 hx5b
 go_wp2_with fail
 have HX6 := Lib.hid (blk_alloc HX5.out (.cells #[.string (bs a3), .string (bs []), .bool false] 53))
 have ltXHB : X < w5.heap.size := by have := blk_lt HX5.out; omega
 have neXHB : X ≠ w5.heap.size := by omega
 have neHBX : w5.heap.size ≠ X := by omega
 have HY6 := Lib.hid (blk_alloc HY5.out (.cells #[.string (bs a3), .string (bs []), .bool false] 53))
 have ltYHB : Y < w5.heap.size := by have := blk_lt HY5.out; omega
 have neYHB : Y ≠ w5.heap.size := by omega
 have neHBY : w5.heap.size ≠ Y := by omega
 have HHA6 := Lib.hid (blk_alloc HHA5.out (.cells #[.string (bs a3), .string (bs []), .bool false] 53))
 have ltHAHB : HA < w5.heap.size := by have := blk_lt HHA5.out; omega
 have neHAHB : HA ≠ w5.heap.size := by omega
 have neHBHA : w5.heap.size ≠ HA := by omega
 have HHB6 : Hid ((w5.alloc (.cells #[.string (bs a3), .string (bs []), .bool false] 53)).heap[w5.heap.size]? = some (.cells #[.string (bs a3), .string (bs []), .bool false] 53 (0, 0))) := by
  have h := blk_new w5 (.cells #[.string (bs a3), .string (bs []), .bool false] 53)
  exact h
 have HG6 := Lib.hid (gok_alloc HG5.out (.cells #[.string (bs a3), .string (bs []), .bool false] 53))
 have hg6 : GL [] w (w5.alloc (.cells #[.string (bs a3), .string (bs []), .bool false] 53)) := (gl_alloc hg5 (.cells #[.string (bs a3), .string (bs []), .bool false] 53))
 have geHB : w.heap.size ≤ w5.heap.size := by have := hg5.size; omega
 have gnHB : gN ≤ w5.heap.size := by have := HG5.out.size; omega
 generalize (w5.alloc (.cells #[.string (bs a3), .string (bs []), .bool false] 53)) = w6 at *
 generalize w5.heap.size = HB at *
 have hs6 := hg6.size
 refine (hearThree a3 Y [110, 51, 59] [110, 52, 59] [] false k2 [] 0 [] 0 de_ de_ lk2 la3 _ HY6.out gnY HG6.out).mono ?_
 rintro e w7 hp
 rw [K4.out] at hp
 obtain ⟨hl7, hp⟩ := hp
 rw [if_pos rfl] at hp
 obtain ⟨rfl, hy7⟩ := hp
 have hy7b : SesAt w7 Y [110, 51, 59] [110, 52, 59] [80, 110, 49, 59] false true false k2 l 0 d 0 (.func (.func 96) #[.pointer (some ⟨Y, 0, none⟩)] #[]) := hy7
 have HY7 := Lib.hid hy7b
 have HX7 := Lib.hid (blk_gl HX6.out hl7 sx_)
 have HHA7 := Lib.hid (blk_gl HHA6.out hl7 sx_)
 have HHB7 := Lib.hid (blk_gl HHB6.out hl7 sx_)
 have HG7 := Lib.hid (gok_gl HG6.out hl7 sx_)
 have hg7 : GL [] w w7 := gl_step hl7 hg6 sx_
 have hs7 := hg7.size
 clear hy7 hy7b
 go_wp2_with fail
 have HX8 := Lib.hid (blk_alloc HX7.out (.cells #[.string (bs []), .string (bs []), .bool false] 53))
 have ltXHC : X < w7.heap.size := by have := blk_lt HX7.out; omega
 have neXHC : X ≠ w7.heap.size := by omega
 have neHCX : w7.heap.size ≠ X := by omega
 have HY8 := Lib.hid (blk_alloc HY7.out (.cells #[.string (bs []), .string (bs []), .bool false] 53))
 have ltYHC : Y < w7.heap.size := by have := blk_lt HY7.out; omega
 have neYHC : Y ≠ w7.heap.size := by omega
 have neHCY : w7.heap.size ≠ Y := by omega
 have HHA8 := Lib.hid (blk_alloc HHA7.out (.cells #[.string (bs []), .string (bs []), .bool false] 53))
 have ltHAHC : HA < w7.heap.size := by have := blk_lt HHA7.out; omega
 have neHAHC : HA ≠ w7.heap.size := by omega
 have neHCHA : w7.heap.size ≠ HA := by omega
 have HHB8 := Lib.hid (blk_alloc HHB7.out (.cells #[.string (bs []), .string (bs []), .bool false] 53))
 have ltHBHC : HB < w7.heap.size := by have := blk_lt HHB7.out; omega
 have neHBHC : HB ≠ w7.heap.size := by omega
 have neHCHB : w7.heap.size ≠ HB := by omega
 have HHC8 : Hid ((w7.alloc (.cells #[.string (bs []), .string (bs []), .bool false] 53)).heap[w7.heap.size]? = some (.cells #[.string (bs []), .string (bs []), .bool false] 53 (0, 0))) := by
  have h := blk_new w7 (.cells #[.string (bs []), .string (bs []), .bool false] 53)
  exact h
 have HG8 := Lib.hid (gok_alloc HG7.out (.cells #[.string (bs []), .string (bs []), .bool false] 53))
 have hg8 : GL [] w (w7.alloc (.cells #[.string (bs []), .string (bs []), .bool false] 53)) := (gl_alloc hg7 (.cells #[.string (bs []), .string (bs []), .bool false] 53))
 have geHC : w.heap.size ≤ w7.heap.size := by have := hg7.size; omega
 have gnHC : gN ≤ w7.heap.size := by have := HG7.out.size; omega
 generalize (w7.alloc (.cells #[.string (bs []), .string (bs []), .bool false] 53)) = w8 at *
 generalize w7.heap.size = HC at *
 have hs8 := hg8.size
 refine (sendOpen [104, 101, 108, 108, 111] de_ X [110, 49, 59] [110, 50, 59] [80, 110, 51, 59] true k1 d 0 l 0 _ om_ ld _ HX8.out gnX HG8.out).mono ?_
 rintro e w9 hp
 rw [K7.out] at hp
 obtain ⟨hl9, hp⟩ := hp
 rw [if_pos rfl] at hp
 obtain ⟨rfl, hx9⟩ := hp
 rw [K9.out] at hx9
 have HX9 := Lib.hid hx9
 have HY9 := Lib.hid (blk_gl HY8.out hl9 sx_)
 have HHA9 := Lib.hid (blk_gl HHA8.out hl9 sx_)
 have HHB9 := Lib.hid (blk_gl HHB8.out hl9 sx_)
 have HHC9 := Lib.hid (blk_gl HHC8.out hl9 sx_)
 have HG9 := Lib.hid (gok_gl HG8.out hl9 sx_)
 have hg9 : GL [] w w9 := gl_step hl9 hg8 sx_
 have hs9 := hg9.size
 clear hx9
 go_wp2_with fail
 refine (hearFrame fr Y [110, 51, 59] [110, 52, 59] [80, 110, 49, 59] false k2 l 0 d 0 lfr ld om_ _ HY9.out gnY HG9.out).mono ?_
 rintro e w10 hp
 rw [K8.out] at hp
 obtain ⟨hl10, rfl, hy10⟩ := hp
 have HY10 := Lib.hid hy10
 have HX10 := Lib.hid (blk_gl HX9.out hl10 sx_)
 have HHA10 := Lib.hid (blk_gl HHA9.out hl10 sx_)
 have HHB10 := Lib.hid (blk_gl HHB9.out hl10 sx_)
 have HHC10 := Lib.hid (blk_gl HHC9.out hl10 sx_)
 have HG10 := Lib.hid (gok_gl HG9.out hl10 sx_)
 have hg10 : GL [] w w10 := gl_step hl10 hg9 sx_
 have hs10 := hg10.size
 clear hy10
 go_wp2_with fail
 have HX11 := Lib.hid (blk_alloc HX10.out (.cells #[.string (bs []), .string (bs [104, 101, 108, 108, 111]), .bool true] 53))
 have ltXHD : X < w10.heap.size := by have := blk_lt HX10.out; omega
 have neXHD : X ≠ w10.heap.size := by omega
 have neHDX : w10.heap.size ≠ X := by omega
 have HY11 := Lib.hid (blk_alloc HY10.out (.cells #[.string (bs []), .string (bs [104, 101, 108, 108, 111]), .bool true] 53))
 have ltYHD : Y < w10.heap.size := by have := blk_lt HY10.out; omega
 have neYHD : Y ≠ w10.heap.size := by omega
 have neHDY : w10.heap.size ≠ Y := by omega
 have HHA11 := Lib.hid (blk_alloc HHA10.out (.cells #[.string (bs []), .string (bs [104, 101, 108, 108, 111]), .bool true] 53))
 have ltHAHD : HA < w10.heap.size := by have := blk_lt HHA10.out; omega
 have neHAHD : HA ≠ w10.heap.size := by omega
 have neHDHA : w10.heap.size ≠ HA := by omega
 have HHB11 := Lib.hid (blk_alloc HHB10.out (.cells #[.string (bs []), .string (bs [104, 101, 108, 108, 111]), .bool true] 53))
 have ltHBHD : HB < w10.heap.size := by have := blk_lt HHB10.out; omega
 have neHBHD : HB ≠ w10.heap.size := by omega
 have neHDHB : w10.heap.size ≠ HB := by omega
 have HHC11 := Lib.hid (blk_alloc HHC10.out (.cells #[.string (bs []), .string (bs [104, 101, 108, 108, 111]), .bool true] 53))
 have ltHCHD : HC < w10.heap.size := by have := blk_lt HHC10.out; omega
 have neHCHD : HC ≠ w10.heap.size := by omega
 have neHDHC : w10.heap.size ≠ HC := by omega
 have HHD11 : Hid ((w10.alloc (.cells #[.string (bs []), .string (bs [104, 101, 108, 108, 111]), .bool true] 53)).heap[w10.heap.size]? = some (.cells #[.string (bs []), .string (bs [104, 101, 108, 108, 111]), .bool true] 53 (0, 0))) := by
  have h := blk_new w10 (.cells #[.string (bs []), .string (bs [104, 101, 108, 108, 111]), .bool true] 53)
  exact h
 have HG11 := Lib.hid (gok_alloc HG10.out (.cells #[.string (bs []), .string (bs [104, 101, 108, 108, 111]), .bool true] 53))
 have hg11 : GL [] w (w10.alloc (.cells #[.string (bs []), .string (bs [104, 101, 108, 108, 111]), .bool true] 53)) := (gl_alloc hg10 (.cells #[.string (bs []), .string (bs [104, 101, 108, 108, 111]), .bool true] 53))
 have geHD : w.heap.size ≤ w10.heap.size := by have := hg10.size; omega
 have gnHD : gN ≤ w10.heap.size := by have := HG10.out.size; omega
 generalize (w10.alloc (.cells #[.string (bs []), .string (bs [104, 101, 108, 108, 111]), .bool true] 53)) = w11 at *
 generalize w10.heap.size = HD at *
 have hs11 := hg11.size
 refine (openAt X _ _ _ _ _ _ _ _ _ _ _ _ _ HX11.out).mono ?_
 rintro e w12 ⟨rfl, rfl⟩
 go_wp2_with fail
 refine (openAt Y _ _ _ _ _ _ _ _ _ _ _ _ _ HY11.out).mono ?_
 rintro e w13 ⟨rfl, rfl⟩
 go_wp2_with fail
 refine (peerAt Y _ _ _ _ _ _ _ _ _ _ _ _ _ HY11.out).mono ?_
 rintro e w14 ⟨rfl, rfl⟩
 go_wp2_with fail
 go_ret
 exact ⟨rfl, gl_to_below hg11⟩
theorem lSessionNone (t s : List UInt8) (w : World) (hG : GOk w) :
  Calls Tryz.prog 5 #[.string (bs t), .string (bs s)] w fun e w' => e = .returned (.bool true) ∧ Below w.heap.size w w' := by
 have HG := Lib.hid hG
 clear hG
 go_enter Tryz.func5, Tryz.ntmps5
 go_wp2_with fail
 refine (hearNil t _).mono ?_
 rintro e w1 ⟨rfl, hb1⟩
 have HG1 := Lib.hid (gok_below HG.out hb1)
 go_wp2_with fail
 refine (sendNil s _).mono ?_
 rintro e w2 ⟨rfl, rfl⟩
 go_wp2_with fail
 refine (closeNil _).mono ?_
 rintro e w3 ⟨rfl, rfl⟩
 go_wp2_with fail
 refine (openNil _).mono ?_
 rintro e w4 ⟨rfl, rfl⟩
 go_wp2_with fail
 refine (peerNil _).mono ?_
 rintro e w5 ⟨rfl, rfl⟩
 go_wp2_with fail
 refine (lWorks21 _ (gok_alloc HG1.out _)).mono ?_
 rintro e w6 ⟨rfl, hb6⟩
 go_wp2_with fail
 go_ret
 exact ⟨rfl, bl_⟩
end Go.Proofs.YtaaiaahkakkleaaGreatDoor
