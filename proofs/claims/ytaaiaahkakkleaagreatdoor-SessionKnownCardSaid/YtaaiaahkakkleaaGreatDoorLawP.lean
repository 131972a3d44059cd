/- The laws of layer 21: nobody opens a session under another's key. -/
import Derived.Test.YtaaiaahkakkleaaGreatDoorLawN
import Derived.Test.YtaaiaahkakkleaaGreatDoorLawO
import Derived.Test.YtaaiaahkakkleaaGreatDoorSesV
set_option maxRecDepth 100000
set_option maxHeartbeats 40000000
set_option linter.unusedSimpArgs false
set_option linter.unusedVariables false
namespace Go.Proofs.YtaaiaahkakkleaaGreatDoor
open Go.RowKit
def Unlike (i e s f x : Int) : Prop := 0 ≤ i ∧ 0 ≤ e ∧ 0 ≤ s ∧ 0 ≤ f ∧ 0 ≤ x ∧ x ≤ 4611686018427387904 ∧ i ≠ e ∧ i ≠ s ∧ i ≠ f ∧ e ≠ s ∧ e ≠ f ∧ s ≠ f ∧ x ≠ i ∧ x ≠ e ∧ x ≠ s ∧ x ≠ f
theorem lMiddleNo (i e s f x : Int) (ri : -9223372036854775808 ≤ i) (ri2 : i ≤ 9223372036854775807) (re : -9223372036854775808 ≤ e) (re2 : e ≤ 9223372036854775807) (rs : -9223372036854775808 ≤ s) (rs2 : s ≤ 9223372036854775807) (rf : -9223372036854775808 ≤ f) (rf2 : f ≤ 9223372036854775807) (rx : -9223372036854775808 ≤ x) (rx2 : x ≤ 9223372036854775807) (hno : ¬ Unlike i e s f x) (w : World) (hG : GOk w) :
  Calls Tryz.prog 7 #[.int .i64 i, .int .i64 e, .int .i64 s, .int .i64 f, .int .i64 x] w fun en w' => en = .returned (.bool true) ∧ Below w.heap.size w w' := by
 have HG := Lib.hid hG
 clear hG
 by_cases h0 : i < 0
 · have b0 : decide (i < 0) = true := by simpa using h0
   clear h0 hno
   go_enter Tryz.func7, Tryz.ntmps7
   go_wp2_with (go_at_call 8; refine (lWorks21 _ HG.out).mono ?_; rintro en w1 ⟨rfl, hb1⟩)
   go_ret
   exact ⟨rfl, hb1⟩
 have b0 : decide (i < 0) = false := by simpa using h0
 by_cases h1 : e < 0
 · have b1 : decide (e < 0) = true := by simpa using h1
   clear h1 hno
   go_enter Tryz.func7, Tryz.ntmps7
   go_wp2_with (go_at_call 8; refine (lWorks21 _ HG.out).mono ?_; rintro en w1 ⟨rfl, hb1⟩)
   go_ret
   exact ⟨rfl, hb1⟩
 have b1 : decide (e < 0) = false := by simpa using h1
 by_cases h2 : s < 0
 · have b2 : decide (s < 0) = true := by simpa using h2
   clear h2 hno
   go_enter Tryz.func7, Tryz.ntmps7
   go_wp2_with (go_at_call 8; refine (lWorks21 _ HG.out).mono ?_; rintro en w1 ⟨rfl, hb1⟩)
   go_ret
   exact ⟨rfl, hb1⟩
 have b2 : decide (s < 0) = false := by simpa using h2
 by_cases h3 : f < 0
 · have b3 : decide (f < 0) = true := by simpa using h3
   clear h3 hno
   go_enter Tryz.func7, Tryz.ntmps7
   go_wp2_with (go_at_call 8; refine (lWorks21 _ HG.out).mono ?_; rintro en w1 ⟨rfl, hb1⟩)
   go_ret
   exact ⟨rfl, hb1⟩
 have b3 : decide (f < 0) = false := by simpa using h3
 by_cases h4 : x < 0
 · have b4 : decide (x < 0) = true := by simpa using h4
   clear h4 hno
   go_enter Tryz.func7, Tryz.ntmps7
   go_wp2_with (go_at_call 8; refine (lWorks21 _ HG.out).mono ?_; rintro en w1 ⟨rfl, hb1⟩)
   go_ret
   exact ⟨rfl, hb1⟩
 have b4 : decide (x < 0) = false := by simpa using h4
 by_cases h5 : 4611686018427387904 < x
 · have b5 : decide (4611686018427387904 < x) = true := by simpa using h5
   clear h5 hno
   go_enter Tryz.func7, Tryz.ntmps7
   go_wp2_with (go_at_call 8; refine (lWorks21 _ HG.out).mono ?_; rintro en w1 ⟨rfl, hb1⟩)
   go_ret
   exact ⟨rfl, hb1⟩
 have b5 : decide (4611686018427387904 < x) = false := by simpa using h5
 by_cases h6 : i = e
 · have b6 : (i == e) = true := by simpa using h6
   clear h6 hno
   go_enter Tryz.func7, Tryz.ntmps7
   go_wp2_with (go_at_call 8; refine (lWorks21 _ HG.out).mono ?_; rintro en w1 ⟨rfl, hb1⟩)
   go_ret
   exact ⟨rfl, hb1⟩
 have b6 : (i == e) = false := by simpa using h6
 by_cases h7 : i = s
 · have b7 : (i == s) = true := by simpa using h7
   clear h7 hno
   go_enter Tryz.func7, Tryz.ntmps7
   go_wp2_with (go_at_call 8; refine (lWorks21 _ HG.out).mono ?_; rintro en w1 ⟨rfl, hb1⟩)
   go_ret
   exact ⟨rfl, hb1⟩
 have b7 : (i == s) = false := by simpa using h7
 by_cases h8 : i = f
 · have b8 : (i == f) = true := by simpa using h8
   clear h8 hno
   go_enter Tryz.func7, Tryz.ntmps7
   go_wp2_with (go_at_call 8; refine (lWorks21 _ HG.out).mono ?_; rintro en w1 ⟨rfl, hb1⟩)
   go_ret
   exact ⟨rfl, hb1⟩
 have b8 : (i == f) = false := by simpa using h8
 by_cases h9 : e = s
 · have b9 : (e == s) = true := by simpa using h9
   clear h9 hno
   go_enter Tryz.func7, Tryz.ntmps7
   go_wp2_with (go_at_call 8; refine (lWorks21 _ HG.out).mono ?_; rintro en w1 ⟨rfl, hb1⟩)
   go_ret
   exact ⟨rfl, hb1⟩
 have b9 : (e == s) = false := by simpa using h9
 by_cases h10 : e = f
 · have b10 : (e == f) = true := by simpa using h10
   clear h10 hno
   go_enter Tryz.func7, Tryz.ntmps7
   go_wp2_with (go_at_call 8; refine (lWorks21 _ HG.out).mono ?_; rintro en w1 ⟨rfl, hb1⟩)
   go_ret
   exact ⟨rfl, hb1⟩
 have b10 : (e == f) = false := by simpa using h10
 by_cases h11 : s = f
 · have b11 : (s == f) = true := by simpa using h11
   clear h11 hno
   go_enter Tryz.func7, Tryz.ntmps7
   go_wp2_with (go_at_call 8; refine (lWorks21 _ HG.out).mono ?_; rintro en w1 ⟨rfl, hb1⟩)
   go_ret
   exact ⟨rfl, hb1⟩
 have b11 : (s == f) = false := by simpa using h11
 by_cases h12 : x = i
 · have b12 : (x == i) = true := by simpa using h12
   clear h12 hno
   go_enter Tryz.func7, Tryz.ntmps7
   go_wp2_with (go_at_call 8; refine (lWorks21 _ HG.out).mono ?_; rintro en w1 ⟨rfl, hb1⟩)
   go_ret
   exact ⟨rfl, hb1⟩
 have b12 : (x == i) = false := by simpa using h12
 by_cases h13 : x = e
 · have b13 : (x == e) = true := by simpa using h13
   clear h13 hno
   go_enter Tryz.func7, Tryz.ntmps7
   go_wp2_with (go_at_call 8; refine (lWorks21 _ HG.out).mono ?_; rintro en w1 ⟨rfl, hb1⟩)
   go_ret
   exact ⟨rfl, hb1⟩
 have b13 : (x == e) = false := by simpa using h13
 by_cases h14 : x = s
 · have b14 : (x == s) = true := by simpa using h14
   clear h14 hno
   go_enter Tryz.func7, Tryz.ntmps7
   go_wp2_with (go_at_call 8; refine (lWorks21 _ HG.out).mono ?_; rintro en w1 ⟨rfl, hb1⟩)
   go_ret
   exact ⟨rfl, hb1⟩
 have b14 : (x == s) = false := by simpa using h14
 by_cases h15 : x = f
 · have b15 : (x == f) = true := by simpa using h15
   clear h15 hno
   go_enter Tryz.func7, Tryz.ntmps7
   go_wp2_with (go_at_call 8; refine (lWorks21 _ HG.out).mono ?_; rintro en w1 ⟨rfl, hb1⟩)
   go_ret
   exact ⟨rfl, hb1⟩
 have b15 : (x == f) = false := by simpa using h15
 exact absurd ⟨by omega, by omega, by omega, by omega, by omega, by omega, h6, h7, h8, h9, h10, h11, h12, h13, h14, h15⟩ hno
theorem lMiddleYes (i e s f x : Int) (ri : -9223372036854775808 ≤ i) (ri2 : i ≤ 9223372036854775807) (re : -9223372036854775808 ≤ e) (re2 : e ≤ 9223372036854775807) (rs : -9223372036854775808 ≤ s) (rs2 : s ≤ 9223372036854775807) (rf : -9223372036854775808 ≤ f) (rf2 : f ≤ 9223372036854775807) (rx : -9223372036854775808 ≤ x) (rx2 : x ≤ 9223372036854775807) (hy : Unlike i e s f x) (w : World) (hG : GOk w) :
  Calls Tryz.prog 7 #[.int .i64 i, .int .i64 e, .int .i64 s, .int .i64 f, .int .i64 x] w fun en w' => en = .returned (.bool true) ∧ Below w.heap.size w w' := by
 obtain ⟨pi, pe, ps, pf, px, px2, n1, n2, n3, n4, n5, n6, n7, n8, n9, n10⟩ := hy
 have b1 : decide (i < 0) = false := by simpa using pi
 have b2 : decide (e < 0) = false := by simpa using pe
 have b3 : decide (s < 0) = false := by simpa using ps
 have b4 : decide (f < 0) = false := by simpa using pf
 have b5 : decide (x < 0) = false := by simpa using px
 have b6 : decide (4611686018427387904 < x) = false := by simpa using px2
 have c1 : (i == e) = false := by simpa using n1
 have c2 : (i == s) = false := by simpa using n2
 have c3 : (i == f) = false := by simpa using n3
 have c4 : (e == s) = false := by simpa using n4
 have c5 : (e == f) = false := by simpa using n5
 have c6 : (s == f) = false := by simpa using n6
 have c7 : (x == i) = false := by simpa using n7
 have c8 : (x == e) = false := by simpa using n8
 have c9 : (x == s) = false := by simpa using n9
 have c10 : (x == f) = false := by simpa using n10
 have K1 := Lib.hid (hskC i.toNat e.toNat s.toNat f.toNat om_ om_ om_ om_).1
 have K2 := Lib.hid (hskC i.toNat e.toNat s.toNat x.toNat om_ om_ om_ om_).1
 have K3 := Lib.hid (three_not i.toNat e.toNat s.toNat f.toNat x.toNat om_ om_ om_ om_ om_ om_ om_ om_ (nameL x.toNat))
 have K4 := Lib.hid (hskC x.toNat (x + 1).toNat s.toNat f.toNat om_ om_ om_ om_).1
 have NS : Hid (nameT s = (nameL s.toNat, 0)) := by
  have := nameT_ok s.toNat
  rwa [show ((s.toNat : Nat) : Int) = s by omega] at this
 have NX : Hid (nameT x = (nameL x.toNat, 0)) := by
  have := nameT_ok x.toNat
  rwa [show ((x.toNat : Nat) : Int) = x by omega] at this
 have lS : (nameL s.toNat).length ≤ 9000000000000000000 := by have := (q_name s.toNat om_).2; omega
 have lX : (nameL x.toNat).length ≤ 9000000000000000000 := by have := (q_name x.toNat om_).2; omega
 have HPX : Hid (pubT (nameL x.toNat) = (80 :: nameL x.toNat, 0)) := pubT_plain (q_name x.toNat om_) (by rw [head_name]; decide) (by rw [head_name]; decide) om_ om_
 have la1 := K1.out.la1
 have la3 := K1.out.la3
 have lk2 := K2.out.lk2
 have EA : Hid (actL (80 :: nameL e.toNat) (k1E e.toNat s.toNat) = actL (80 :: nameL e.toNat) (k1E e.toNat s.toNat)) := rfl
 have HG0 := Lib.hid hG
 have hs0' := hG.size
 clear hG n1 n2 n3 n4 n5 n6 n7 n8 n9 n10 EA
 generalize hA1 : actL (80 :: nameL e.toNat) (k1E e.toNat s.toNat) = a1 at *
 generalize hA3 : (66 :: (k2E e.toNat s.toNat f.toNat ++ a3E i.toNat e.toNat s.toNat f.toNat)) = a3 at *
 clear hA1 hA3
 go_enter Tryz.func7, Tryz.ntmps7
 have hg0 : GL [] w w := gl_refl _ _
 have hs0 : w.heap.size ≤ w.heap.size := Nat.le_refl _
 go_wp2_with fail
 refine (lOpened i e s f pi ri2 pe re2 ps rs2 pf rf2 _ _ _ _ _ _ _ K1.out _ HG0.out).mono ?_
 rintro en w1 hp
 obtain ⟨X0, Y0, g, geX0, geY0, geL, hne0, rfl, hx1, hy1, hl1, hb1⟩ := hp
 have HL1 := Lib.hid hl1
 have HG1 := Lib.hid (gok_below HG0.out hb1)
 have hg1 : GL [] w w1 := gl_below hb1 hg0
 clear hx1 hy1 hl1
 have hs1 := hg1.size
 go_wp2_with fail
 refine (tMkName s om_ om_ _ HG1.out).mono ?_
 rintro e w2 ⟨rfl, hb2⟩
 rw [NS.out]
 have HL2 := Lib.hid (blk_below HL1.out hb2 (blk_lt HL1.out))
 have HG2 := Lib.hid (gok_below HG1.out hb2)
 have hg2 : GL [] w w2 := gl_below hb2 hg1
 have hs2 := hg2.size
 go_wp2_with fail
 refine (tMkName x om_ om_ _ HG2.out).mono ?_
 rintro e w3 ⟨rfl, hb3⟩
 rw [NX.out]
 have HL3 := Lib.hid (blk_below HL2.out hb3 (blk_lt HL2.out))
 have HG3 := Lib.hid (gok_below HG2.out hb3)
 have hg3 : GL [] w w3 := gl_below hb3 hg2
 have hs3 := hg3.size
 go_wp2_with fail
 refine (sListen (nameL s.toNat) (nameL x.toNat) lS lX _ HG3.out).mono ?_
 rintro en w4 hp
 unfold ListenPost at hp
 rw [if_pos ⟨by rw [K2.out.so], by rw [K2.out.sf]⟩] at hp
 obtain ⟨B, hBge, rfl, hB4, hb4⟩ := hp
 have HB4 := Lib.hid hB4
 have HL4 := Lib.hid (blk_below HL3.out hb4 (blk_lt HL3.out))
 have HG4 := Lib.hid (gok_below HG3.out hb4)
 have hg4 : GL [] w w4 := gl_below hb4 hg3
 have hLlt := blk_lt HL3.out
 have neBL : B ≠ g := by omega
 have neLB : g ≠ B := by omega
 have geB : w.heap.size ≤ B := by omega
 have gnB : gN ≤ B := by omega
 clear hB4
 have hs4 := hg4.size
 have fa1 := blk_cell HL4.out
 have fb1 := blk_free HL4.out
 have fl1 := blk_lt HL4.out
 go_wp2_with fail
 clear fa1 fb1 fl1
 refine (hearOne a1 B (nameL s.toNat) (nameL x.toNat) [] false [] [] 0 [] 0 lS lX om_ _ HB4.out gnB HG4.out).mono ?_
 rintro en w5 hp
 rw [K2.out.one] at hp
 obtain ⟨hl5, rfl, hy5⟩ := hp
 have HB5 := Lib.hid hy5
 have HL5 := Lib.hid (blk_gl HL4.out hl5 sx_)
 have HG5 := Lib.hid (gok_gl HG4.out hl5 sx_)
 have hg5 : GL [] w w5 := gl_step hl5 hg4 sx_
 have hs5 := hg5.size
 clear hy5
 have fa2 := blk_cell HL5.out
 have fb2 := blk_free HL5.out
 have fl2 := blk_lt HL5.out
 go_wp2_with fail
 clear fa2 fb2 fl2
 have HL6 := Lib.hid (blk_alloc HL5.out (.cells #[.string (bs (actL (80 :: nameL x.toNat) (k2E e.toNat s.toNat x.toNat))), .string (bs []), .bool false] 53))
 have ltLHA : g < w5.heap.size := by have := blk_lt HL5.out; omega
 have neLHA : g ≠ w5.heap.size := by omega
 have neHAL : w5.heap.size ≠ g := by omega
 have HB6 := Lib.hid (blk_alloc HB5.out (.cells #[.string (bs (actL (80 :: nameL x.toNat) (k2E e.toNat s.toNat x.toNat))), .string (bs []), .bool false] 53))
 have ltBHA : B < w5.heap.size := by have := blk_lt HB5.out; omega
 have neBHA : B ≠ w5.heap.size := by omega
 have neHAB : w5.heap.size ≠ B := by omega
 have HHA6 : Hid ((w5.alloc (.cells #[.string (bs (actL (80 :: nameL x.toNat) (k2E e.toNat s.toNat x.toNat))), .string (bs []), .bool false] 53)).heap[w5.heap.size]? = some (.cells #[.string (bs (actL (80 :: nameL x.toNat) (k2E e.toNat s.toNat x.toNat))), .string (bs []), .bool false] 53 (0, 0))) := by
  have h := blk_new w5 (.cells #[.string (bs (actL (80 :: nameL x.toNat) (k2E e.toNat s.toNat x.toNat))), .string (bs []), .bool false] 53)
  exact h
 have HG6 := Lib.hid (gok_alloc HG5.out (.cells #[.string (bs (actL (80 :: nameL x.toNat) (k2E e.toNat s.toNat x.toNat))), .string (bs []), .bool false] 53))
 have hg6 : GL [] w (w5.alloc (.cells #[.string (bs (actL (80 :: nameL x.toNat) (k2E e.toNat s.toNat x.toNat))), .string (bs []), .bool false] 53)) := (gl_alloc hg5 (.cells #[.string (bs (actL (80 :: nameL x.toNat) (k2E e.toNat s.toNat x.toNat))), .string (bs []), .bool false] 53))
 have geHA : w.heap.size ≤ w5.heap.size := by have := hg5.size; omega
 have gnHA : gN ≤ w5.heap.size := by have := HG5.out.size; omega
 generalize (w5.alloc (.cells #[.string (bs (actL (80 :: nameL x.toNat) (k2E e.toNat s.toNat x.toNat))), .string (bs []), .bool false] 53)) = w6 at *
 generalize w5.heap.size = HA at *
 have hs6 := hg6.size
 refine (hearThree a3 B (nameL s.toNat) (nameL x.toNat) [] false (k2E e.toNat s.toNat x.toNat) [] 0 [] 0 lS lX om_ om_ _ HB6.out gnB HG6.out).mono ?_
 rintro en w7 hp
 rw [K3.out] at hp
 obtain ⟨hl7, hp⟩ := hp
 rw [if_neg si_] at hp
 obtain ⟨rfl, hy7⟩ := hp
 have HD7 := Lib.hid hy7
 have HL7 := Lib.hid (blk_gl HL6.out hl7 so_)
 have HG7 := Lib.hid (gok_gl HG6.out hl7 so_)
 have hg7 : GL [] w w7 := gl_step hl7 hg6 so_
 clear hy7
 have hs7 := hg7.size
 obtain ⟨_, _, _, _, _, _, _, _, _, _, hd7⟩ := HD7.out
 have HB7 := Lib.hid hd7
 clear hd7 HD7
 have fa3 := blk_cell HL7.out
 have fb3 := blk_free HL7.out
 have fl3 := blk_lt HL7.out
 go_wp2_with fail
 clear fa3 fb3 fl3
 have HL8 := Lib.hid (blk_alloc HL7.out (.cells #[.string (bs []), .string (bs []), .bool false] 53))
 have ltLHB : g < w7.heap.size := by have := blk_lt HL7.out; omega
 have neLHB : g ≠ w7.heap.size := by omega
 have neHBL : w7.heap.size ≠ g := by omega
 have HB8 := Lib.hid (blk_alloc HB7.out (.cells #[.string (bs []), .string (bs []), .bool false] 53))
 have ltBHB : B < w7.heap.size := by have := blk_lt HB7.out; omega
 have neBHB : B ≠ w7.heap.size := by omega
 have neHBB : w7.heap.size ≠ B := by omega
 have HHB8 : Hid ((w7.alloc (.cells #[.string (bs []), .string (bs []), .bool false] 53)).heap[w7.heap.size]? = some (.cells #[.string (bs []), .string (bs []), .bool false] 53 (0, 0))) := by
  have h := blk_new w7 (.cells #[.string (bs []), .string (bs []), .bool false] 53)
  exact h
 have HG8 := Lib.hid (gok_alloc HG7.out (.cells #[.string (bs []), .string (bs []), .bool false] 53))
 have hg8 : GL [] w (w7.alloc (.cells #[.string (bs []), .string (bs []), .bool false] 53)) := (gl_alloc hg7 (.cells #[.string (bs []), .string (bs []), .bool false] 53))
 have geHB : w.heap.size ≤ w7.heap.size := by have := hg7.size; omega
 have gnHB : gN ≤ w7.heap.size := by have := HG7.out.size; omega
 generalize (w7.alloc (.cells #[.string (bs []), .string (bs []), .bool false] 53)) = w8 at *
 generalize w7.heap.size = HB at *
 have hs8 := hg8.size
 refine (hearDead a3 B [] _ ⟨_, _, _, _, _, _, _, _, _, _, HB8.out⟩).mono ?_
 rintro en w9a ⟨rfl, hb9a⟩
 have HD9a := Lib.hid (blk_below HB8.out hb9a (blk_lt HB8.out))
 have HG9a := Lib.hid (gok_below HG8.out hb9a)
 have hg9a : GL [] w w9a := gl_below hb9a hg8
 have hs9a := hg9a.size
 go_wp2_with fail
 have HD9 := Lib.hid (blk_alloc HD9a.out (.cells #[.string (bs []), .string (bs []), .bool false] 53))
 have ltDHC : B < w9a.heap.size := by have := blk_lt HD9a.out; omega
 have neDHC : B ≠ w9a.heap.size := by omega
 have neHCD : w9a.heap.size ≠ B := by omega
 have HHC9 : Hid ((w9a.alloc (.cells #[.string (bs []), .string (bs []), .bool false] 53)).heap[w9a.heap.size]? = some (.cells #[.string (bs []), .string (bs []), .bool false] 53 (0, 0))) := by
  have h := blk_new w9a (.cells #[.string (bs []), .string (bs []), .bool false] 53)
  exact h
 have HG9 := Lib.hid (gok_alloc HG9a.out (.cells #[.string (bs []), .string (bs []), .bool false] 53))
 have hg9 : GL [] w (w9a.alloc (.cells #[.string (bs []), .string (bs []), .bool false] 53)) := (gl_alloc hg9a (.cells #[.string (bs []), .string (bs []), .bool false] 53))
 have geHC : w.heap.size ≤ w9a.heap.size := by have := hg9a.size; omega
 have gnHC : gN ≤ w9a.heap.size := by have := HG9a.out.size; omega
 generalize (w9a.alloc (.cells #[.string (bs []), .string (bs []), .bool false] 53)) = w9 at *
 generalize w9a.heap.size = HC at *
 have hs9 := hg9.size
 refine (openAt B _ _ _ _ _ _ _ _ _ _ _ _ _ HD9.out).mono ?_
 rintro en w11 ⟨rfl, rfl⟩
 rw [Bool.not_true, Bool.and_false]
 go_wp2_with fail
 refine (peerAt B _ _ _ _ _ _ _ _ _ _ _ _ _ HD9.out).mono ?_
 rintro en w12 ⟨rfl, rfl⟩
 have ex : IntKind.i64.wrap (x + 1) = x + 1 := IntWalk.i64_in _ om_
 go_wp2_with fail
 refine (lOpened x (x + 1) s f px rx2 om_ om_ ps rs2 pf rf2 _ _ _ _ _ _ _ K4.out _ HG9.out).mono ?_
 rintro en w13 hp
 obtain ⟨X1, Y1, g1, geX1, geY1, geL1, hne1, rfl, hx13, hy13, hl13, hb13⟩ := hp
 have HX13 := Lib.hid hx13
 have HY13 := Lib.hid hy13
 have HG13 := Lib.hid (gok_below HG9.out hb13)
 have hg13 : GL [] w w13 := gl_below hb13 hg9
 clear hx13 hy13 hl13
 have hs13 := hg13.size
 go_wp2_with fail
 refine (tPub (nameL x.toNat) lX _ HG13.out).mono ?_
 rintro e w14 ⟨rfl, hb14⟩
 rw [HPX.out]
 have HX14 := Lib.hid (blk_below HX13.out hb14 (blk_lt HX13.out))
 have HY14 := Lib.hid (blk_below HY13.out hb14 (blk_lt HY13.out))
 have HG14 := Lib.hid (gok_below HG13.out hb14)
 have hg14 : GL [] w w14 := gl_below hb14 hg13
 have hs14 := hg14.size
 go_wp2_with fail
 refine (openAt X1 _ _ _ _ _ _ _ _ _ _ _ _ _ HX14.out).mono ?_
 rintro en w15 ⟨rfl, rfl⟩
 go_wp2_with fail
 refine (peerAt Y1 _ _ _ _ _ _ _ _ _ _ _ _ _ HY14.out).mono ?_
 rintro en w16 ⟨rfl, rfl⟩
 go_wp2_with fail
 refine (lWorks21 _ HG14.out).mono ?_
 rintro en w17 ⟨rfl, hb17⟩
 go_wp2_with fail
 go_ret
 exact ⟨rfl, gl_to_below (gl_below hb17 hg14)⟩
theorem lSessionMiddle (i e s f x : Int) (ri : -9223372036854775808 ≤ i) (ri2 : i ≤ 9223372036854775807) (re : -9223372036854775808 ≤ e) (re2 : e ≤ 9223372036854775807) (rs : -9223372036854775808 ≤ s) (rs2 : s ≤ 9223372036854775807) (rf : -9223372036854775808 ≤ f) (rf2 : f ≤ 9223372036854775807) (rx : -9223372036854775808 ≤ x) (rx2 : x ≤ 9223372036854775807) (w : World) (hG : GOk w) :
  Calls Tryz.prog 7 #[.int .i64 i, .int .i64 e, .int .i64 s, .int .i64 f, .int .i64 x] w fun en w' => en = .returned (.bool true) ∧ Below w.heap.size w w' := by
 by_cases h : Unlike i e s f x
 · exact lMiddleYes i e s f x ri ri2 re re2 rs rs2 rf rf2 rx rx2 h w hG
 · exact lMiddleNo i e s f x ri ri2 re re2 rs rs2 rf rf2 rx rx2 h w hG
end Go.Proofs.YtaaiaahkakkleaaGreatDoor
