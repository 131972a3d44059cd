/- The laws of layer 11: LockMakes. -/
import Derived.Test.YtiplnofaejpeoaaGreatDoorLawD0
import Derived.Test.YtiplnofaejpeoaaGreatDoorLRefT
set_option maxRecDepth 100000
set_option maxHeartbeats 16000000
set_option linter.unusedSimpArgs false
set_option linter.unusedVariables false
namespace Go.Proofs.YtiplnofaejpeoaaGreatDoor
open Go.RowKit
def za7_ (i n : Int) : Int := (i.tmod n + n).tmod n
theorem zcU_ (i n : Int) (hn : 0 < n) : 0 ≤ za7_ i n ∧ za7_ i n < n ∧ (i.tmod n + n).tmod n = (i.tmod n + n) % n ∧ -n < i.tmod n ∧ i.tmod n < n := by
 have h1 := Int.tmod_lt_of_pos i hn
 have h2 : -n < i.tmod n := by
  rw [Int.tmod_eq_emod]
  have := Int.emod_nonneg i (show n ≠ 0 by omega)
  split <;> omega
 have e := Int.tmod_eq_emod_of_nonneg (a := i.tmod n + n) (b := n) om_
 unfold za7_
 rw [e]
 exact ⟨Int.emod_nonneg _ om_, Int.emod_lt_of_pos _ hn, rfl, h2, h1⟩
theorem zig_ (i : Int) (h0 : -9223372036854775808 ≤ i) (h1 : i ≤ 9223372036854775807) (w : World) :
  Calls Tryz.prog 39 #[.int .i64 i, .int .i64 4] w fun e w' => e = .returned (.int .i64 (za7_ i 4)) ∧ w' = w := by
 obtain ⟨b0, b3, be, b2, b1⟩ := zcU_ i 4 om_
 have H : Hid (za7_ i 4 = (i.tmod 4 + 4) % 4) := by show za7_ i 4 = _; unfold za7_; exact be
 clear b0 b3 be
 go_enter Tryz.func39, Tryz.ntmps39
 go_wp2
 go_ret
 exact ⟨by rw [H.out]; first | rfl | simp, (by first | exact Lib.hid rfl | exact Lib.hid trivial)⟩
theorem zih_ (i : Int) (h0 : -9223372036854775808 ≤ i) (h1 : i ≤ 9223372036854775807) (w : World) :
  Calls Tryz.prog 39 #[.int .i64 i, .int .i64 1000] w fun e w' => e = .returned (.int .i64 (za7_ i 1000)) ∧ w' = w := by
 obtain ⟨b0, b3, be, b2, b1⟩ := zcU_ i 1000 om_
 have H : Hid (za7_ i 1000 = (i.tmod 1000 + 1000) % 1000) := by show za7_ i 1000 = _; unfold za7_; exact be
 clear b0 b3 be
 go_enter Tryz.func39, Tryz.ntmps39
 go_wp2
 go_ret
 exact ⟨by rw [H.out]; first | rfl | simp, (by first | exact Lib.hid rfl | exact Lib.hid trivial)⟩
theorem zii_ (K : Nat) (h : K < 4) : (#[Value.string (bs [110, 49, 59]), .string (bs [110, 50, 59]), .string (bs [110, 51, 59]), .string (bs [110, 52, 59])] : Array Value)[K]? = some (.string (bs (four K))) := by
 match K, h with
 | 0, _ => rfl
 | 1, _ => rfl
 | 2, _ => rfl
 | 3, _ => rfl
theorem zij_ (l : List (List UInt8)) (t : List UInt8) (j : Nat) (h : j < l.length) : (l.take (j + 1)).any (· == t) = ((l.take j).any (· == t) || (l[j] == t)) := by
 rw [List.take_succ_eq_append_getElem h, List.any_append]
 simp
theorem zn0_ (k p0 n : Int) (rk : -9223372036854775808 ≤ k ∧ k ≤ 9223372036854775807) (rp : -9223372036854775808 ≤ p0 ∧ p0 ≤ 9223372036854775807) (rn : -9223372036854775808 ≤ n ∧ n ≤ 9223372036854775807) (sa pa : Option Addr) (sc pc : Nat) (sigs pres : List (List UInt8)) (after age : Int)
  (ra : -9223372036854775808 ≤ after ∧ after ≤ 9223372036854775807) (rg : -9223372036854775808 ≤ age ∧ age ≤ 9223372036854775807) (w : World) (hS : x5_ (.slice sa sigs.length sc) sigs w) (hP : x5_ (.slice pa pres.length pc) pres w)
  (hsn : sigs.length ≤ 9000000000000000000) (hpn : pres.length ≤ 9000000000000000000) (hst : ∀ s ∈ sigs, s.length ≤ 9000000000000000000) (hpt : ∀ s ∈ pres, s.length ≤ 9000000000000000000) (hG : GOk w) :
  Calls Tryz.prog 18 #[.int .i64 k, .int .i64 p0, .int .i64 n, .agg #[.slice sa sigs.length sc, .slice pa pres.length pc], .int .i64 after, .int .i64 age] w fun e w' => e = .returned (.bool true) ∧ Below w.heap.size w w' := by
 have HG0 := Lib.hid hG
 have HS0 := Lib.hid hS
 have HP0 := Lib.hid hP
 have HST := Lib.hid hst
 have HPT := Lib.hid hpt
 obtain ⟨k0, k1, _⟩ := zcU_ k 4 om_
 obtain ⟨q0, q1, _⟩ := zcU_ p0 4 om_
 obtain ⟨m0, m1, _⟩ := zcU_ n 1000 om_
 have hpk := zig_ k rk.1 rk.2
 have hpp := zig_ p0 rp.1 rp.2
 have hpn2 := zih_ n rn.1 rn.2
 generalize za7_ k 4 = kz at *
 generalize za7_ p0 4 = pz at *
 generalize za7_ n 1000 = m at *
 obtain ⟨K, rfl⟩ : ∃ K : Nat, kz = (K : Int) := ⟨kz.toNat, by omega⟩
 obtain ⟨Q, rfl⟩ : ∃ Q : Nat, pz = (Q : Int) := ⟨pz.toNat, by omega⟩
 have hK : K < 4 := by omega
 have hQ : Q < 4 := by omega
 have hne := zkf_ ⟨K, hK⟩ ⟨Q, hQ⟩ m m0 om_ sigs pres after age
 simp only at hne
 unfold zdw_ at hne
 obtain ⟨z, hz⟩ : ∃ z : Int, m.tdiv 2 = z := ⟨_, rfl⟩
 have hz2 : m / 2 = z := by rw [← hz, Int.tdiv_eq_ediv_of_nonneg m0]
 have hz3 : 0 ≤ z ∧ z ≤ 1000 := by omega
 rw [hz2] at hne
 have HNE := Lib.hid hne
 have HK := Lib.hid hpk
 have HQ := Lib.hid hpp
 have HN := Lib.hid hpn2
 clear hG hS hP hst hpt hpk hpp hpn2 hne hz2
 go_enter Tryz.func18, Tryz.ntmps18
 have hg0 : GL [] w w := z1_ _ _
 have hs0 : w.heap.size ≤ w.heap.size := Nat.le_refl _
 go_wp2_with fail
 have HS1 := Lib.hid (y4_ HS0.out (z6_ (z1_ _ _) (.cells #[.slice sa sigs.length sc, .slice pa pres.length pc] 31)))
 have HP1 := Lib.hid (y4_ HP0.out (z6_ (z1_ _ _) (.cells #[.slice sa sigs.length sc, .slice pa pres.length pc] 31)))
 have HWB1 := Lib.hid ((z3_ w (.cells #[.slice sa sigs.length sc, .slice pa pres.length pc] 31)))
 have HG1 := Lib.hid (y5_ HG0.out (.cells #[.slice sa sigs.length sc, .slice pa pres.length pc] 31))
 have hg1 := z6_ hg0 (.cells #[.slice sa sigs.length sc, .slice pa pres.length pc] 31)
 have geWB : w.heap.size ≤ w.heap.size := by have := hg0.size; omega
 have gnWB : gN ≤ w.heap.size := by have := HG0.out.size; omega
 generalize (w.alloc (.cells #[.slice sa sigs.length sc, .slice pa pres.length pc] 31)) = w1 at *
 generalize w.heap.size = WB at *
 have hs1 := hg1.size
 refine (zhH_ sa pa sc pc sigs pres [] _ HS1.out HP1.out hsn hpn).mono ?_
 rintro e w2 ⟨hb2, bl, rfl⟩
 have HWB2 := Lib.hid (z9_ HWB1.out hb2 (z0_ HWB1.out))
 have HG2 := Lib.hid (y6_ HG1.out hb2)
 have hg2 := z4_ hb2 hg1
 have hs2 := hg2.size
 have HS2 := Lib.hid (y4_ HS1.out (z4_ hb2 (z1_ _ _)))
 have HP2 := Lib.hid (y4_ HP1.out (z4_ hb2 (z1_ _ _)))
 cases bl with
 | true =>
   go_wp2_with fail
   go_ret
   exact ⟨rfl, x0_ hg2⟩
 | false =>
   go_wp2
   have HS3 := Lib.hid (y4_ HS2.out (z6_ (z1_ _ _) (.cells #[.string (bs [110, 49, 59]), .string (bs [110, 50, 59]), .string (bs [110, 51, 59]), .string (bs [110, 52, 59])] 22)))
   have HP3 := Lib.hid (y4_ HP2.out (z6_ (z1_ _ _) (.cells #[.string (bs [110, 49, 59]), .string (bs [110, 50, 59]), .string (bs [110, 51, 59]), .string (bs [110, 52, 59])] 22)))
   have HWB3 := Lib.hid (z8_ HWB2.out (.cells #[.string (bs [110, 49, 59]), .string (bs [110, 50, 59]), .string (bs [110, 51, 59]), .string (bs [110, 52, 59])] 22))
   have ltWBNM : WB < w2.heap.size := by have := z0_ HWB2.out; omega
   have neWBNM : WB ≠ w2.heap.size := by omega
   have neNMWB : w2.heap.size ≠ WB := by omega
   have HNM3 := Lib.hid ((z3_ w2 (.cells #[.string (bs [110, 49, 59]), .string (bs [110, 50, 59]), .string (bs [110, 51, 59]), .string (bs [110, 52, 59])] 22)))
   have HG3 := Lib.hid (y5_ HG2.out (.cells #[.string (bs [110, 49, 59]), .string (bs [110, 50, 59]), .string (bs [110, 51, 59]), .string (bs [110, 52, 59])] 22))
   have hg3 := z6_ hg2 (.cells #[.string (bs [110, 49, 59]), .string (bs [110, 50, 59]), .string (bs [110, 51, 59]), .string (bs [110, 52, 59])] 22)
   have geNM : w.heap.size ≤ w2.heap.size := by have := hg2.size; omega
   have gnNM : gN ≤ w2.heap.size := by have := HG2.out.size; omega
   generalize (w2.alloc (.cells #[.string (bs [110, 49, 59]), .string (bs [110, 50, 59]), .string (bs [110, 51, 59]), .string (bs [110, 52, 59])] 22)) = w3 at *
   generalize w2.heap.size = NM at *
   have hs3 := hg3.size
   have cK := (z2_ HNM3.out K).trans (zii_ K hK)
   have cP := (z2_ HNM3.out Q).trans (zii_ Q hQ)
   have fNM := z5_ HNM3.out
   have iK : (K : Int) < 4 := by omega
   have iQ : (Q : Int) < 4 := by omega
   have lk3 : (four K).length = 3 := rfl
   have lp3 : (four Q).length = 3 := rfl
   generalize four K = kt at *
   generalize four Q = pt at *
   go_quiet ((go_at_call 39; first | with_reducible exact Calls.quiet_of_same (HK.out _) | with_reducible exact Calls.quiet_of_same (HQ.out _)))
   clear cK cP fNM iK iQ
   go_wp2_with fail
   refine (HN.out _).mono ?_
   rintro e w4 ⟨rfl, hw4⟩
   subst hw4
   go_wp2_with fail
   have HS5 := Lib.hid (y4_ HS3.out (za8_ (z1_ _ _) nq))
   have HP5 := Lib.hid (y4_ HP3.out (za8_ (z1_ _ _) nq))
   have HWB5 := Lib.hid (zaf_ HWB3.out nq)
   have HG5 := Lib.hid (zi4_ HG3.out nq)
   have hg5 : GL [] w (w3.drewN nq) := za8_ hg3 nq
   generalize w3.drewN nq = w5 at *
   refine (zbv_ (80 :: kt) _).mono ?_
   rintro e w6 ⟨rfl, hb6⟩
   have HWB6 := Lib.hid (z9_ HWB5.out hb6 (z0_ HWB5.out))
   have HG6 := Lib.hid (y6_ HG5.out hb6)
   have hg6 := z4_ hb6 hg5
   have hs6 := hg6.size
   have HS6 := Lib.hid (y4_ HS5.out (z4_ hb6 (z1_ _ _)))
   have HP6 := Lib.hid (y4_ HP5.out (z4_ hb6 (z1_ _ _)))
   go_wp2_with fail
   refine (zcn_ (72 :: pt) _).mono ?_
   rintro e w7 ⟨rfl, hb7⟩
   have HWB7 := Lib.hid (z9_ HWB6.out hb7 (z0_ HWB6.out))
   have HG7 := Lib.hid (y6_ HG6.out hb7)
   have hg7 := z4_ hb7 hg6
   have hs7 := hg7.size
   have HS7 := Lib.hid (y4_ HS6.out (z4_ hb7 (z1_ _ _)))
   have HP7 := Lib.hid (y4_ HP6.out (z4_ hb7 (z1_ _ _)))
   go_wp2_with fail
   refine (zco_ m _).mono ?_
   rintro e w8 ⟨rfl, hb8⟩
   have HWB8 := Lib.hid (z9_ HWB7.out hb8 (z0_ HWB7.out))
   have HG8 := Lib.hid (y6_ HG7.out hb8)
   have hg8 := z4_ hb8 hg7
   have hs8 := hg8.size
   have HS8 := Lib.hid (y4_ HS7.out (z4_ hb8 (z1_ _ _)))
   have HP8 := Lib.hid (y4_ HP7.out (z4_ hb8 (z1_ _ _)))
   go_wp2_with fail
   refine (zcp_ z _).mono ?_
   rintro e w9 ⟨rfl, hb9⟩
   have HWB9 := Lib.hid (z9_ HWB8.out hb9 (z0_ HWB8.out))
   have HG9 := Lib.hid (y6_ HG8.out hb9)
   have hg9 := z4_ hb9 hg8
   have hs9 := hg9.size
   have HS9 := Lib.hid (y4_ HS8.out (z4_ hb9 (z1_ _ _)))
   have HP9 := Lib.hid (y4_ HP8.out (z4_ hb9 (z1_ _ _)))
   go_wp2_with fail
   have hrow10 : x2_ (fun _ => True) (w9.alloc (.cells #[.int .u8 1, .string (bs (80 :: kt)), .int .i64 0, .slice none 0 0, .int .u8 2, .string (bs (72 :: pt)), .int .i64 0, .slice none 0 0, .int .u8 3, .string (bs []), .int .i64 m, .slice none 0 0, .int .u8 4, .string (bs []), .int .i64 z, .slice none 0 0] 25)) [.mk 1 (80 :: kt) 0 [], .mk 2 (72 :: pt) 0 [], .mk 3 [] m [], .mk 4 [] z []] w9.heap.size 0 := zfo_ (zlD_ (zaO_ (80 :: kt) so_ _ _) (zbH_ (72 :: pt) so_ _ _) (zaG_ m om_ om_ _ _) (zbI_ z om_ om_ _ _))
   have HS10 := Lib.hid (y4_ HS9.out (z6_ (z1_ _ _) (.cells #[.int .u8 1, .string (bs (80 :: kt)), .int .i64 0, .slice none 0 0, .int .u8 2, .string (bs (72 :: pt)), .int .i64 0, .slice none 0 0, .int .u8 3, .string (bs []), .int .i64 m, .slice none 0 0, .int .u8 4, .string (bs []), .int .i64 z, .slice none 0 0] 25)))
   have HP10 := Lib.hid (y4_ HP9.out (z6_ (z1_ _ _) (.cells #[.int .u8 1, .string (bs (80 :: kt)), .int .i64 0, .slice none 0 0, .int .u8 2, .string (bs (72 :: pt)), .int .i64 0, .slice none 0 0, .int .u8 3, .string (bs []), .int .i64 m, .slice none 0 0, .int .u8 4, .string (bs []), .int .i64 z, .slice none 0 0] 25)))
   have HWB10 := Lib.hid (z8_ HWB9.out (.cells #[.int .u8 1, .string (bs (80 :: kt)), .int .i64 0, .slice none 0 0, .int .u8 2, .string (bs (72 :: pt)), .int .i64 0, .slice none 0 0, .int .u8 3, .string (bs []), .int .i64 m, .slice none 0 0, .int .u8 4, .string (bs []), .int .i64 z, .slice none 0 0] 25))
   have ltWBRB : WB < w9.heap.size := by have := z0_ HWB9.out; omega
   have neWBRB : WB ≠ w9.heap.size := by omega
   have neRBWB : w9.heap.size ≠ WB := by omega
   have HRB10 := Lib.hid ((z3_ w9 (.cells #[.int .u8 1, .string (bs (80 :: kt)), .int .i64 0, .slice none 0 0, .int .u8 2, .string (bs (72 :: pt)), .int .i64 0, .slice none 0 0, .int .u8 3, .string (bs []), .int .i64 m, .slice none 0 0, .int .u8 4, .string (bs []), .int .i64 z, .slice none 0 0] 25)))
   have HG10 := Lib.hid (y5_ HG9.out (.cells #[.int .u8 1, .string (bs (80 :: kt)), .int .i64 0, .slice none 0 0, .int .u8 2, .string (bs (72 :: pt)), .int .i64 0, .slice none 0 0, .int .u8 3, .string (bs []), .int .i64 m, .slice none 0 0, .int .u8 4, .string (bs []), .int .i64 z, .slice none 0 0] 25))
   have hg10 := z6_ hg9 (.cells #[.int .u8 1, .string (bs (80 :: kt)), .int .i64 0, .slice none 0 0, .int .u8 2, .string (bs (72 :: pt)), .int .i64 0, .slice none 0 0, .int .u8 3, .string (bs []), .int .i64 m, .slice none 0 0, .int .u8 4, .string (bs []), .int .i64 z, .slice none 0 0] 25)
   have geRB : w.heap.size ≤ w9.heap.size := by have := hg9.size; omega
   have gnRB : gN ≤ w9.heap.size := by have := HG9.out.size; omega
   generalize (w9.alloc (.cells #[.int .u8 1, .string (bs (80 :: kt)), .int .i64 0, .slice none 0 0, .int .u8 2, .string (bs (72 :: pt)), .int .i64 0, .slice none 0 0, .int .u8 3, .string (bs []), .int .i64 m, .slice none 0 0, .int .u8 4, .string (bs []), .int .i64 z, .slice none 0 0] 25)) = w10 at *
   generalize w9.heap.size = RB at *
   have hs10 := hg10.size
   refine (zg1_ [.mk 1 (80 :: kt) 0 [], .mk 2 (72 :: pt) 0 [], .mk 3 [] m [], .mk 4 [] z []] RB 0 _ _ si_ si_ _ (z0_ HRB10.out) trivial hrow10).mono ?_
   rintro e w11 ⟨hb11, v11, rfl, hl11⟩
   obtain ⟨ad11, c11, rfl, _⟩ := y3_ hl11
   have HX11 := Lib.hid (q9_ (q := fun _ => True) (fun _ _ _ => trivial) _ _ hl11)
   clear hl11 hrow10
   have HS11 := Lib.hid (y4_ HS10.out (z4_ hb11 (z1_ _ _)))
   have HP11 := Lib.hid (y4_ HP10.out (z4_ hb11 (z1_ _ _)))
   have HWB11 := Lib.hid (z9_ HWB10.out hb11 (z0_ HWB10.out))
   have HG11 := Lib.hid (y6_ HG10.out hb11)
   have hg11 := z4_ hb11 hg10
   have hs11 := hg11.size
   have fa1 := z2_ HWB11.out
   have fb1 := z5_ HWB11.out
   have fl1 := z0_ HWB11.out
   have flx1 : WB < w11.heap.size + 1 := by omega
   go_wp2_with fail
   clear fa1 fb1 fl1
   clear flx1
   have HS12 := Lib.hid (y4_ HS11.out (z6_ (z1_ _ _) (.cells #[.int .u8 5, .string (bs []), .int .i64 0, .slice ad11 ([.mk 1 (80 :: kt) 0 [], .mk 2 (72 :: pt) 0 [], .mk 3 [] m [], .mk 4 [] z []] : List LT).length c11] 25)))
   have HP12 := Lib.hid (y4_ HP11.out (z6_ (z1_ _ _) (.cells #[.int .u8 5, .string (bs []), .int .i64 0, .slice ad11 ([.mk 1 (80 :: kt) 0 [], .mk 2 (72 :: pt) 0 [], .mk 3 [] m [], .mk 4 [] z []] : List LT).length c11] 25)))
   have HX12 := Lib.hid (z7_ (z6_ (z1_ _ _) (.cells #[.int .u8 5, .string (bs []), .int .i64 0, .slice ad11 ([.mk 1 (80 :: kt) 0 [], .mk 2 (72 :: pt) 0 [], .mk 3 [] m [], .mk 4 [] z []] : List LT).length c11] 25)) _ _ HX11.out)
   have HWB12 := Lib.hid (z8_ HWB11.out (.cells #[.int .u8 5, .string (bs []), .int .i64 0, .slice ad11 ([.mk 1 (80 :: kt) 0 [], .mk 2 (72 :: pt) 0 [], .mk 3 [] m [], .mk 4 [] z []] : List LT).length c11] 25))
   have ltWBLB : WB < w11.heap.size := by have := z0_ HWB11.out; omega
   have neWBLB : WB ≠ w11.heap.size := by omega
   have neLBWB : w11.heap.size ≠ WB := by omega
   have HLB12 := Lib.hid ((z3_ w11 (.cells #[.int .u8 5, .string (bs []), .int .i64 0, .slice ad11 ([.mk 1 (80 :: kt) 0 [], .mk 2 (72 :: pt) 0 [], .mk 3 [] m [], .mk 4 [] z []] : List LT).length c11] 25)))
   have HG12 := Lib.hid (y5_ HG11.out (.cells #[.int .u8 5, .string (bs []), .int .i64 0, .slice ad11 ([.mk 1 (80 :: kt) 0 [], .mk 2 (72 :: pt) 0 [], .mk 3 [] m [], .mk 4 [] z []] : List LT).length c11] 25))
   have hg12 := z6_ hg11 (.cells #[.int .u8 5, .string (bs []), .int .i64 0, .slice ad11 ([.mk 1 (80 :: kt) 0 [], .mk 2 (72 :: pt) 0 [], .mk 3 [] m [], .mk 4 [] z []] : List LT).length c11] 25)
   have geLB : w.heap.size ≤ w11.heap.size := by have := hg11.size; omega
   have gnLB : gN ≤ w11.heap.size := by have := HG11.out.size; omega
   generalize (w11.alloc (.cells #[.int .u8 5, .string (bs []), .int .i64 0, .slice ad11 ([.mk 1 (80 :: kt) 0 [], .mk 2 (72 :: pt) 0 [], .mk 3 [] m [], .mk 4 [] z []] : List LT).length c11] 25)) = w12 at *
   generalize w11.heap.size = LB at *
   have hs12 := hg12.size
   go_wp2_with fail
   have fa2 := z2_ HWB12.out
   have fb2 := z5_ HWB12.out
   have fl2 := z0_ HWB12.out
   go_loopw [17, 19] (fun hv iv wr => ∃ j : Nat, j ≤ sigs.length ∧ iv = .int .i64 j ∧ hv = .bool ((sigs.take j).any (· == (83 :: (kt ++ [116, 49, 58, 109])))) ∧ Hid (wr = w12)) (fun _ iv _ => sigs.length - (intOf iv).toNat)
   case atStart => exact ⟨0, by omega, rfl, rfl, rfl⟩
   case round =>
    obtain ⟨j, hj, rfl, rfl, hwr⟩ := hrel
    obtain rfl : wr = w12 := hwr.out
    by_cases hlt : j < sigs.length
    · have i1 : (j : Int) < sigs.length := by omega
      rcases HS12.out with ⟨_, _, h0, h1⟩ | ⟨b, o, cc, h0, hb, hc⟩
      · subst h1; simp at hlt
      injection h0 with h01 h02 h03
      subst h01 h03
      have c0 := hc j _ (List.getElem?_eq_getElem hlt)
      have hat := zij_ sigs (83 :: (kt ++ [116, 49, 58, 109])) j hlt
      have HAT := Lib.hid hat
      clear hat hc h02
      generalize hhb : (sigs.take j).any (· == (83 :: (kt ++ [116, 49, 58, 109]))) = hbv at *
      clear hhb
      generalize sigs[j] = sj at *
      cases hbv with
      | true =>
        go_wp2
        go_roundw
        case rel => exact ⟨j + 1, by omega, by go_num, by rw [HAT.out]; rfl, (by first | exact Lib.hid rfl | exact Lib.hid trivial)⟩
        case measure => simp [intOf]; omega
      | false =>
        by_cases he : sj = (83 :: (kt ++ [116, 49, 58, 109]))
        · subst he
          go_wp2
          go_roundw
          case rel => exact ⟨j + 1, by omega, by go_num, by rw [HAT.out]; first | rfl | simp, (by first | exact Lib.hid rfl | exact Lib.hid trivial)⟩
          case measure => simp [intOf]; omega
        · have he2 : (sj == (83 :: (kt ++ [116, 49, 58, 109]))) = false := by simpa using he
          go_wp2
          go_roundw
          case rel => exact ⟨j + 1, by omega, by go_num, by rw [HAT.out]; first | rfl | (simp [he2]; done) | simp [he], (by first | exact Lib.hid rfl | exact Lib.hid trivial)⟩
          case measure => simp [intOf]; omega
    · obtain rfl : j = sigs.length := by omega
      have i4 : decide ((sigs.length : Int) < sigs.length) = false := by simp
      rw [List.take_length]
      obtain ⟨wo, hwo⟩ : ∃ wo : World, wo = wr := ⟨_, rfl⟩
      subst hwo
      go_wp2
      clear fa2 fb2 fl2
      have fa3 := z2_ HWB12.out
      have fb3 := z5_ HWB12.out
      have fl3 := z0_ HWB12.out
      go_loopw [18, 20] (fun hv iv wr => ∃ j : Nat, j ≤ pres.length ∧ iv = .int .i64 j ∧ hv = .bool ((pres.take j).any (· == pt)) ∧ Hid (wr = wo)) (fun _ iv _ => pres.length - (intOf iv).toNat)
      case atStart => exact ⟨0, by omega, rfl, rfl, rfl⟩
      case round =>
       obtain ⟨j, hj, rfl, rfl, hwr⟩ := hrel
       obtain rfl : wr = wo := hwr.out
       by_cases hlt : j < pres.length
       · have i1 : (j : Int) < pres.length := by omega
         rcases HP12.out with ⟨_, _, h0, h1⟩ | ⟨b, o, cc, h0, hb, hc⟩
         · subst h1; simp at hlt
         injection h0 with h01 h02 h03
         subst h01 h03
         have c0 := hc j _ (List.getElem?_eq_getElem hlt)
         have hat := zij_ pres pt j hlt
         have HAT := Lib.hid hat
         clear hat hc h02
         generalize hhb : (pres.take j).any (· == pt) = hbv at *
         clear hhb
         generalize pres[j] = sj at *
         cases hbv with
         | true =>
           go_wp2
           go_roundw
           case rel => exact ⟨j + 1, by omega, by go_num, by rw [HAT.out]; rfl, (by first | exact Lib.hid rfl | exact Lib.hid trivial)⟩
           case measure => simp [intOf]; omega
         | false =>
           by_cases he : sj = pt
           · subst he
             go_wp2
             go_roundw
             case rel => exact ⟨j + 1, by omega, by go_num, by rw [HAT.out]; first | rfl | simp, (by first | exact Lib.hid rfl | exact Lib.hid trivial)⟩
             case measure => simp [intOf]; omega
           · have he2 : (sj == pt) = false := by simpa using he
             go_wp2
             go_roundw
             case rel => exact ⟨j + 1, by omega, by go_num, by rw [HAT.out]; first | rfl | (simp [he2]; done) | simp [he], (by first | exact Lib.hid rfl | exact Lib.hid trivial)⟩
             case measure => simp [intOf]; omega
       · obtain rfl : j = pres.length := by omega
         have i4 : decide ((pres.length : Int) < pres.length) = false := by simp
         rw [List.take_length]
         have fa4 := z2_ HLB12.out
         have fb4 := z5_ HLB12.out
         have fl4 := z0_ HLB12.out
         unfold msgM at HNE
         generalize hhA : sigs.any (· == (83 :: (kt ++ [116, 49, 58, 109]))) = hA at *
         generalize hkN : pres.any (· == pt) = kN at *
         clear hhA hkN
         by_cases hp0 : sigs.length ≤ 16
         · skip
           have bb0 : decide ((sigs.length : Int) ≤ 16) = true := by simp; omega
           by_cases hp1 : pres.length ≤ 16
           · skip
             have bb1 : decide ((pres.length : Int) ≤ 16) = true := by simp; omega
             cases hA with
             | false =>
               have HV : Hid (k4_ sigs pres [116, 49, 58, 109] after age (.mk 5 [] 0 [.mk 1 (80 :: kt) 0 [], .mk 2 (72 :: pt) 0 [], .mk 3 [] m [], .mk 4 [] z []]) = false) := by
                show _ = _
                rw [HNE.out]
                simp [hp0, hp1]
               clear HNE
               have fa5 := z2_ HLB12.out
               have fb5 := z5_ HLB12.out
               have fl5 := z0_ HLB12.out
               go_wp2_with fail
               refine (zaV_ (.mk 5 [] 0 [.mk 1 (80 :: kt) 0 [], .mk 2 (72 :: pt) 0 [], .mk 3 [] m [], .mk 4 [] z []]) _ _ _ _ sigs pres [116, 49, 58, 109] after age _ HX12.out HS12.out HP12.out hsn hpn HST.out HPT.out ra rg HG12.out).mono ?_
               rintro e w13 ⟨rfl, hb13⟩
               rw [HV.out]
               clear fa3 fb3 fl3 fa4 fb4 fl4 fa5 fb5 fl5
               have HWB13 := Lib.hid (z9_ HWB12.out hb13 (z0_ HWB12.out))
               have HLB13 := Lib.hid (z9_ HLB12.out hb13 (z0_ HLB12.out))
               have HG13 := Lib.hid (y6_ HG12.out hb13)
               have hg13 := z4_ hb13 hg12
               have hs13 := hg13.size
               have HS13 := Lib.hid (y4_ HS12.out (z4_ hb13 (z1_ _ _)))
               have HP13 := Lib.hid (y4_ HP12.out (z4_ hb13 (z1_ _ _)))
               have HX13 := Lib.hid (z7_ (z4_ hb13 (z1_ _ _)) _ _ HX12.out)
               go_wp2_with fail
               refine (zak_ _ HG13.out).mono ?_
               rintro e wz ⟨rfl, hbz⟩
               have HWBz := Lib.hid (z9_ HWB13.out hbz (z0_ HWB13.out))
               have HLBz := Lib.hid (z9_ HLB13.out hbz (z0_ HLB13.out))
               have HGz := Lib.hid (y6_ HG13.out hbz)
               have hgz := z4_ hbz hg13
               have hsz := hgz.size
               have HSz := Lib.hid (y4_ HS13.out (z4_ hbz (z1_ _ _)))
               have HPz := Lib.hid (y4_ HP13.out (z4_ hbz (z1_ _ _)))
               have HXz := Lib.hid (z7_ (z4_ hbz (z1_ _ _)) _ _ HX13.out)
               go_wp2_with fail
               go_ret
               exact ⟨rfl, x0_ hgz⟩
             | true =>
               cases kN with
               | false =>
                 have HV : Hid (k4_ sigs pres [116, 49, 58, 109] after age (.mk 5 [] 0 [.mk 1 (80 :: kt) 0 [], .mk 2 (72 :: pt) 0 [], .mk 3 [] m [], .mk 4 [] z []]) = false) := by
                  show _ = _
                  rw [HNE.out]
                  simp [hp0, hp1]
                 clear HNE
                 have fa5 := z2_ HLB12.out
                 have fb5 := z5_ HLB12.out
                 have fl5 := z0_ HLB12.out
                 go_wp2_with fail
                 refine (zaV_ (.mk 5 [] 0 [.mk 1 (80 :: kt) 0 [], .mk 2 (72 :: pt) 0 [], .mk 3 [] m [], .mk 4 [] z []]) _ _ _ _ sigs pres [116, 49, 58, 109] after age _ HX12.out HS12.out HP12.out hsn hpn HST.out HPT.out ra rg HG12.out).mono ?_
                 rintro e w13 ⟨rfl, hb13⟩
                 rw [HV.out]
                 clear fa3 fb3 fl3 fa4 fb4 fl4 fa5 fb5 fl5
                 have HWB13 := Lib.hid (z9_ HWB12.out hb13 (z0_ HWB12.out))
                 have HLB13 := Lib.hid (z9_ HLB12.out hb13 (z0_ HLB12.out))
                 have HG13 := Lib.hid (y6_ HG12.out hb13)
                 have hg13 := z4_ hb13 hg12
                 have hs13 := hg13.size
                 have HS13 := Lib.hid (y4_ HS12.out (z4_ hb13 (z1_ _ _)))
                 have HP13 := Lib.hid (y4_ HP12.out (z4_ hb13 (z1_ _ _)))
                 have HX13 := Lib.hid (z7_ (z4_ hb13 (z1_ _ _)) _ _ HX12.out)
                 go_wp2_with fail
                 refine (zak_ _ HG13.out).mono ?_
                 rintro e wz ⟨rfl, hbz⟩
                 have HWBz := Lib.hid (z9_ HWB13.out hbz (z0_ HWB13.out))
                 have HLBz := Lib.hid (z9_ HLB13.out hbz (z0_ HLB13.out))
                 have HGz := Lib.hid (y6_ HG13.out hbz)
                 have hgz := z4_ hbz hg13
                 have hsz := hgz.size
                 have HSz := Lib.hid (y4_ HS13.out (z4_ hbz (z1_ _ _)))
                 have HPz := Lib.hid (y4_ HP13.out (z4_ hbz (z1_ _ _)))
                 have HXz := Lib.hid (z7_ (z4_ hbz (z1_ _ _)) _ _ HX13.out)
                 go_wp2_with fail
                 go_ret
                 exact ⟨rfl, x0_ hgz⟩
               | true =>
                 by_cases hp4 : m ≤ after
                 · skip
                   have bb4 : decide (m ≤ after) = true := by simpa using hp4
                   by_cases hp5 : z ≤ age
                   · skip
                     have bb5 : decide (z ≤ age) = true := by simpa using hp5
                     have HV : Hid (k4_ sigs pres [116, 49, 58, 109] after age (.mk 5 [] 0 [.mk 1 (80 :: kt) 0 [], .mk 2 (72 :: pt) 0 [], .mk 3 [] m [], .mk 4 [] z []]) = true) := by
                      show _ = _
                      rw [HNE.out]
                      simp [hp0, hp1, hp4, hp5]
                     clear HNE
                     have fa5 := z2_ HLB12.out
                     have fb5 := z5_ HLB12.out
                     have fl5 := z0_ HLB12.out
                     go_wp2_with fail
                     refine (zaV_ (.mk 5 [] 0 [.mk 1 (80 :: kt) 0 [], .mk 2 (72 :: pt) 0 [], .mk 3 [] m [], .mk 4 [] z []]) _ _ _ _ sigs pres [116, 49, 58, 109] after age _ HX12.out HS12.out HP12.out hsn hpn HST.out HPT.out ra rg HG12.out).mono ?_
                     rintro e w13 ⟨rfl, hb13⟩
                     rw [HV.out]
                     clear fa3 fb3 fl3 fa4 fb4 fl4 fa5 fb5 fl5
                     have HWB13 := Lib.hid (z9_ HWB12.out hb13 (z0_ HWB12.out))
                     have HLB13 := Lib.hid (z9_ HLB12.out hb13 (z0_ HLB12.out))
                     have HG13 := Lib.hid (y6_ HG12.out hb13)
                     have hg13 := z4_ hb13 hg12
                     have hs13 := hg13.size
                     have HS13 := Lib.hid (y4_ HS12.out (z4_ hb13 (z1_ _ _)))
                     have HP13 := Lib.hid (y4_ HP12.out (z4_ hb13 (z1_ _ _)))
                     have HX13 := Lib.hid (z7_ (z4_ hb13 (z1_ _ _)) _ _ HX12.out)
                     go_wp2_with fail
                     refine (zak_ _ HG13.out).mono ?_
                     rintro e wz ⟨rfl, hbz⟩
                     have HWBz := Lib.hid (z9_ HWB13.out hbz (z0_ HWB13.out))
                     have HLBz := Lib.hid (z9_ HLB13.out hbz (z0_ HLB13.out))
                     have HGz := Lib.hid (y6_ HG13.out hbz)
                     have hgz := z4_ hbz hg13
                     have hsz := hgz.size
                     have HSz := Lib.hid (y4_ HS13.out (z4_ hbz (z1_ _ _)))
                     have HPz := Lib.hid (y4_ HP13.out (z4_ hbz (z1_ _ _)))
                     have HXz := Lib.hid (z7_ (z4_ hbz (z1_ _ _)) _ _ HX13.out)
                     go_wp2_with fail
                     go_ret
                     exact ⟨rfl, x0_ hgz⟩
                   · skip
                     have bb5 : decide (z ≤ age) = false := by simpa using hp5
                     have HV : Hid (k4_ sigs pres [116, 49, 58, 109] after age (.mk 5 [] 0 [.mk 1 (80 :: kt) 0 [], .mk 2 (72 :: pt) 0 [], .mk 3 [] m [], .mk 4 [] z []]) = false) := by
                      show _ = _
                      rw [HNE.out]
                      simp [hp0, hp1, hp4, hp5]
                     clear HNE
                     have fa5 := z2_ HLB12.out
                     have fb5 := z5_ HLB12.out
                     have fl5 := z0_ HLB12.out
                     go_wp2_with fail
                     refine (zaV_ (.mk 5 [] 0 [.mk 1 (80 :: kt) 0 [], .mk 2 (72 :: pt) 0 [], .mk 3 [] m [], .mk 4 [] z []]) _ _ _ _ sigs pres [116, 49, 58, 109] after age _ HX12.out HS12.out HP12.out hsn hpn HST.out HPT.out ra rg HG12.out).mono ?_
                     rintro e w13 ⟨rfl, hb13⟩
                     rw [HV.out]
                     clear fa3 fb3 fl3 fa4 fb4 fl4 fa5 fb5 fl5
                     have HWB13 := Lib.hid (z9_ HWB12.out hb13 (z0_ HWB12.out))
                     have HLB13 := Lib.hid (z9_ HLB12.out hb13 (z0_ HLB12.out))
                     have HG13 := Lib.hid (y6_ HG12.out hb13)
                     have hg13 := z4_ hb13 hg12
                     have hs13 := hg13.size
                     have HS13 := Lib.hid (y4_ HS12.out (z4_ hb13 (z1_ _ _)))
                     have HP13 := Lib.hid (y4_ HP12.out (z4_ hb13 (z1_ _ _)))
                     have HX13 := Lib.hid (z7_ (z4_ hb13 (z1_ _ _)) _ _ HX12.out)
                     go_wp2_with fail
                     refine (zak_ _ HG13.out).mono ?_
                     rintro e wz ⟨rfl, hbz⟩
                     have HWBz := Lib.hid (z9_ HWB13.out hbz (z0_ HWB13.out))
                     have HLBz := Lib.hid (z9_ HLB13.out hbz (z0_ HLB13.out))
                     have HGz := Lib.hid (y6_ HG13.out hbz)
                     have hgz := z4_ hbz hg13
                     have hsz := hgz.size
                     have HSz := Lib.hid (y4_ HS13.out (z4_ hbz (z1_ _ _)))
                     have HPz := Lib.hid (y4_ HP13.out (z4_ hbz (z1_ _ _)))
                     have HXz := Lib.hid (z7_ (z4_ hbz (z1_ _ _)) _ _ HX13.out)
                     go_wp2_with fail
                     go_ret
                     exact ⟨rfl, x0_ hgz⟩
                 · skip
                   have bb4 : decide (m ≤ after) = false := by simpa using hp4
                   have HV : Hid (k4_ sigs pres [116, 49, 58, 109] after age (.mk 5 [] 0 [.mk 1 (80 :: kt) 0 [], .mk 2 (72 :: pt) 0 [], .mk 3 [] m [], .mk 4 [] z []]) = false) := by
                    show _ = _
                    rw [HNE.out]
                    simp [hp0, hp1, hp4]
                   clear HNE
                   have fa5 := z2_ HLB12.out
                   have fb5 := z5_ HLB12.out
                   have fl5 := z0_ HLB12.out
                   go_wp2_with fail
                   refine (zaV_ (.mk 5 [] 0 [.mk 1 (80 :: kt) 0 [], .mk 2 (72 :: pt) 0 [], .mk 3 [] m [], .mk 4 [] z []]) _ _ _ _ sigs pres [116, 49, 58, 109] after age _ HX12.out HS12.out HP12.out hsn hpn HST.out HPT.out ra rg HG12.out).mono ?_
                   rintro e w13 ⟨rfl, hb13⟩
                   rw [HV.out]
                   clear fa3 fb3 fl3 fa4 fb4 fl4 fa5 fb5 fl5
                   have HWB13 := Lib.hid (z9_ HWB12.out hb13 (z0_ HWB12.out))
                   have HLB13 := Lib.hid (z9_ HLB12.out hb13 (z0_ HLB12.out))
                   have HG13 := Lib.hid (y6_ HG12.out hb13)
                   have hg13 := z4_ hb13 hg12
                   have hs13 := hg13.size
                   have HS13 := Lib.hid (y4_ HS12.out (z4_ hb13 (z1_ _ _)))
                   have HP13 := Lib.hid (y4_ HP12.out (z4_ hb13 (z1_ _ _)))
                   have HX13 := Lib.hid (z7_ (z4_ hb13 (z1_ _ _)) _ _ HX12.out)
                   go_wp2_with fail
                   refine (zak_ _ HG13.out).mono ?_
                   rintro e wz ⟨rfl, hbz⟩
                   have HWBz := Lib.hid (z9_ HWB13.out hbz (z0_ HWB13.out))
                   have HLBz := Lib.hid (z9_ HLB13.out hbz (z0_ HLB13.out))
                   have HGz := Lib.hid (y6_ HG13.out hbz)
                   have hgz := z4_ hbz hg13
                   have hsz := hgz.size
                   have HSz := Lib.hid (y4_ HS13.out (z4_ hbz (z1_ _ _)))
                   have HPz := Lib.hid (y4_ HP13.out (z4_ hbz (z1_ _ _)))
                   have HXz := Lib.hid (z7_ (z4_ hbz (z1_ _ _)) _ _ HX13.out)
                   go_wp2_with fail
                   go_ret
                   exact ⟨rfl, x0_ hgz⟩
           · skip
             have bb1 : decide ((pres.length : Int) ≤ 16) = false := by simp; omega
             have HV : Hid (k4_ sigs pres [116, 49, 58, 109] after age (.mk 5 [] 0 [.mk 1 (80 :: kt) 0 [], .mk 2 (72 :: pt) 0 [], .mk 3 [] m [], .mk 4 [] z []]) = false) := by
              show _ = _
              rw [HNE.out]
              simp [hp0, hp1]
             clear HNE
             have fa5 := z2_ HLB12.out
             have fb5 := z5_ HLB12.out
             have fl5 := z0_ HLB12.out
             go_wp2_with fail
             refine (zaV_ (.mk 5 [] 0 [.mk 1 (80 :: kt) 0 [], .mk 2 (72 :: pt) 0 [], .mk 3 [] m [], .mk 4 [] z []]) _ _ _ _ sigs pres [116, 49, 58, 109] after age _ HX12.out HS12.out HP12.out hsn hpn HST.out HPT.out ra rg HG12.out).mono ?_
             rintro e w13 ⟨rfl, hb13⟩
             rw [HV.out]
             clear fa3 fb3 fl3 fa4 fb4 fl4 fa5 fb5 fl5
             have HWB13 := Lib.hid (z9_ HWB12.out hb13 (z0_ HWB12.out))
             have HLB13 := Lib.hid (z9_ HLB12.out hb13 (z0_ HLB12.out))
             have HG13 := Lib.hid (y6_ HG12.out hb13)
             have hg13 := z4_ hb13 hg12
             have hs13 := hg13.size
             have HS13 := Lib.hid (y4_ HS12.out (z4_ hb13 (z1_ _ _)))
             have HP13 := Lib.hid (y4_ HP12.out (z4_ hb13 (z1_ _ _)))
             have HX13 := Lib.hid (z7_ (z4_ hb13 (z1_ _ _)) _ _ HX12.out)
             go_wp2_with fail
             refine (zak_ _ HG13.out).mono ?_
             rintro e wz ⟨rfl, hbz⟩
             have HWBz := Lib.hid (z9_ HWB13.out hbz (z0_ HWB13.out))
             have HLBz := Lib.hid (z9_ HLB13.out hbz (z0_ HLB13.out))
             have HGz := Lib.hid (y6_ HG13.out hbz)
             have hgz := z4_ hbz hg13
             have hsz := hgz.size
             have HSz := Lib.hid (y4_ HS13.out (z4_ hbz (z1_ _ _)))
             have HPz := Lib.hid (y4_ HP13.out (z4_ hbz (z1_ _ _)))
             have HXz := Lib.hid (z7_ (z4_ hbz (z1_ _ _)) _ _ HX13.out)
             go_wp2_with fail
             go_ret
             exact ⟨rfl, x0_ hgz⟩
         · skip
           have bb0 : decide ((sigs.length : Int) ≤ 16) = false := by simp; omega
           have HV : Hid (k4_ sigs pres [116, 49, 58, 109] after age (.mk 5 [] 0 [.mk 1 (80 :: kt) 0 [], .mk 2 (72 :: pt) 0 [], .mk 3 [] m [], .mk 4 [] z []]) = false) := by
            show _ = _
            rw [HNE.out]
            simp [hp0]
           clear HNE
           have fa5 := z2_ HLB12.out
           have fb5 := z5_ HLB12.out
           have fl5 := z0_ HLB12.out
           go_wp2_with fail
           refine (zaV_ (.mk 5 [] 0 [.mk 1 (80 :: kt) 0 [], .mk 2 (72 :: pt) 0 [], .mk 3 [] m [], .mk 4 [] z []]) _ _ _ _ sigs pres [116, 49, 58, 109] after age _ HX12.out HS12.out HP12.out hsn hpn HST.out HPT.out ra rg HG12.out).mono ?_
           rintro e w13 ⟨rfl, hb13⟩
           rw [HV.out]
           clear fa3 fb3 fl3 fa4 fb4 fl4 fa5 fb5 fl5
           have HWB13 := Lib.hid (z9_ HWB12.out hb13 (z0_ HWB12.out))
           have HLB13 := Lib.hid (z9_ HLB12.out hb13 (z0_ HLB12.out))
           have HG13 := Lib.hid (y6_ HG12.out hb13)
           have hg13 := z4_ hb13 hg12
           have hs13 := hg13.size
           have HS13 := Lib.hid (y4_ HS12.out (z4_ hb13 (z1_ _ _)))
           have HP13 := Lib.hid (y4_ HP12.out (z4_ hb13 (z1_ _ _)))
           have HX13 := Lib.hid (z7_ (z4_ hb13 (z1_ _ _)) _ _ HX12.out)
           go_wp2_with fail
           refine (zak_ _ HG13.out).mono ?_
           rintro e wz ⟨rfl, hbz⟩
           have HWBz := Lib.hid (z9_ HWB13.out hbz (z0_ HWB13.out))
           have HLBz := Lib.hid (z9_ HLB13.out hbz (z0_ HLB13.out))
           have HGz := Lib.hid (y6_ HG13.out hbz)
           have hgz := z4_ hbz hg13
           have hsz := hgz.size
           have HSz := Lib.hid (y4_ HS13.out (z4_ hbz (z1_ _ _)))
           have HPz := Lib.hid (y4_ HP13.out (z4_ hbz (z1_ _ _)))
           have HXz := Lib.hid (z7_ (z4_ hbz (z1_ _ _)) _ _ HX13.out)
           go_wp2_with fail
           go_ret
           exact ⟨rfl, x0_ hgz⟩
mutual
theorem zfM_ {p q : Nat → Prop} {w : World} : ∀ (x : LT) (v : Value), y2_ p w x v → y2_ q w x v → y2_ (fun b => p b ∧ q b) w x v
 | .mk k t n kids, v, h, h' => by
   unfold y2_ at h h' ⊢
   obtain ⟨h1, h2, h3, h4, ks, h5, h6⟩ := h
   obtain ⟨_, _, _, _, ks', h5', h6'⟩ := h'
   have e : ks' = ks := by
    rw [h5] at h5'
    injection h5' with e
    have e := congrArg Array.toList e
    simp only [List.cons.injEq, and_true, true_and] at e
    exact e.symm
   subst e
   refine ⟨h1, h2, h3, h4, ks', h5, ?_⟩
   rcases h6 with h | ⟨b, o, c, e, hb, hp, hr⟩
   · exact .inl h
   · rcases h6' with ⟨ad, c', e', hk⟩ | ⟨b', o', c', e', hb', hp', hr'⟩
     · exact .inl ⟨ad, c', e', hk⟩
     · rw [e] at e'
       injection e' with e1 e2 e3
       injection e1 with e1
       injection e1 with e4 e5
       subst e4 e5
       exact .inr ⟨b, o, c, e, hb, ⟨hp, hp'⟩, zik_ kids b o hr hr'⟩
theorem zik_ {p q : Nat → Prop} {w : World} : ∀ (l : List LT) (b o : Nat), x2_ p w l b o → x2_ q w l b o → x2_ (fun b => p b ∧ q b) w l b o
 | [], _, _, _, _ => by unfold x2_; trivial
 | x :: r, b, o, h, h' => by
   unfold x2_ at h h' ⊢
   obtain ⟨⟨c0, c1, c2, c3, hx, g0, g1, g2, g3⟩, hr⟩ := h
   obtain ⟨⟨d0, d1, d2, d3, hx', k0, k1, k2, k3⟩, hr'⟩ := h'
   rw [g0] at k0; rw [g1] at k1; rw [g2] at k2; rw [g3] at k3
   injection k0 with k0; injection k1 with k1; injection k2 with k2; injection k3 with k3
   subst k0 k1 k2 k3
   exact ⟨⟨c0, c1, c2, c3, zfM_ x _ hx hx', g0, g1, g2, g3⟩, zik_ r b (o + 4) hr hr'⟩
end
def JSR (S : Nat → Value → World → Prop) (R : Nat → Nat → Value → Value → World → Prop) (m : Nat → Option Value) (w : World) : Prop :=
 (∀ i v, m i = some v → S i v w) ∧ ∀ i j v u, m i = some v → m j = some u → R i j v u w
theorem zb9_ {S : Nat → Value → World → Prop} {R : Nat → Nat → Value → Value → World → Prop} (hS : ∀ i v w w', S i v w → GL [] w w' → S i v w') (hR : ∀ i j v u w w', R i j v u w → GL [] w w' → R i j v u w')
  {m : Nat → Option Value} {w w' : World} {i : Nat} {v : Value} (h : JSR S R m w) (hg : GL [] w w') (hs : S i v w') (hi : R i i v v w') (hr : ∀ j u, m j = some u → R i j v u w' ∧ R j i u v w') : JSR S R (updV m i v) w' := by
 refine ⟨fun j u hj => ?_, fun j k u t hj hk => ?_⟩
 · unfold updV at hj
   split at hj
   · rename_i e; subst e; cases hj; exact hs
   · exact hS _ _ _ _ (h.1 j u hj) hg
 · unfold updV at hj hk
   split at hj
   · rename_i e; subst e; cases hj
     split at hk
     · rename_i e; subst e; cases hk; exact hi
     · exact (hr k t hk).1
   · split at hk
     · rename_i e; subst e; cases hk; exact (hr j u hj).2
     · exact hR _ _ _ _ _ _ (h.2 j k u t hj hk) hg
section
variable (w0 : World) (a b : LT) (va vb : Value) (row : Array Value)
def RowB (v : Value) (w : World) : Prop := ∃ N, v = .slice (some ⟨N, 0, none⟩) 2 2 ∧ w.heap[N]? = some (.cells row 25 (0, 0))
def zil_ (k : Int) (v : Value) (w : World) : Prop := (∃ ad c, v = .agg #[.int .u8 k, .string (bs []), .int .i64 0, .slice ad 2 c]) ∧ y2_ (fun _ => True) w (.mk k [] 0 [a, b]) v
def VarV (v : Value) (w : World) : Prop := ∃ A, v = .pointer (some ⟨A, 0, none⟩) ∧ w0.heap.size ≤ A ∧ w.heap[A]? = some (.cells #[.int .u8 0, .string (bs []), .int .i64 0, .slice none 0 0] 25 (0, 0))
def zim_ (k : Int) (v u : Value) (w : World) : Prop := ∀ A, u = .pointer (some ⟨A, 0, none⟩) → y2_ (fun b => b ≠ A) w (.mk k [] 0 [a, b]) v
def S13 (i : Nat) (v : Value) (w : World) : Prop :=
 (i = 0 ∨ i = 4 → v = va) ∧ (i = 1 ∨ i = 5 → v = vb) ∧ (i = 2 ∨ i = 6 → RowB row v w) ∧ (i = 3 → zil_ a b 5 v w) ∧ (i = 7 → zil_ a b 6 v w) ∧ (i = 8 ∨ i = 9 → VarV w0 v w)
def R13 (i j : Nat) (v u : Value) (w : World) : Prop := (i = 3 ∧ (j = 8 ∨ j = 9) → zim_ a b 5 v u w) ∧ (i = 7 ∧ (j = 8 ∨ j = 9) → zim_ a b 6 v u w) ∧ (i = 8 ∧ j = 9 → u ≠ v)
theorem zca_ (i : Nat) (v : Value) (w w' : World) (h : S13 w0 a b va vb row i v w) (hg : GL [] w w') : S13 w0 a b va vb row i v w' := by
 obtain ⟨h1, h2, h3, h4, h5, h6⟩ := h
 refine ⟨h1, h2, fun h => ?_, fun h => ⟨(h4 h).1, z7_ hg _ _ (h4 h).2⟩, fun h => ⟨(h5 h).1, z7_ hg _ _ (h5 h).2⟩, fun h => ?_⟩
 · obtain ⟨N, e, hN⟩ := h3 h
   exact ⟨N, e, y7_ hN hg si_⟩
 · obtain ⟨A, e, hA, hN⟩ := h6 h
   exact ⟨A, e, hA, y7_ hN hg si_⟩
theorem zcb_ (i j : Nat) (v u : Value) (w w' : World) (h : R13 a b i j v u w) (hg : GL [] w w') : R13 a b i j v u w' := by
 obtain ⟨h1, h2, h3⟩ := h
 exact ⟨fun h A e => z7_ hg _ _ (h1 h A e), fun h A e => z7_ hg _ _ (h2 h A e), h3⟩
end
def d13 : List (Option Nat) := [some 114, some 115, some 116, some 117, some 118, some 119, some 120, some 121, some 21, some 22]
/- BEGIN STEPS -/
theorem zn3_ (ka na kb nb : Int) (ta tb : List UInt8) (ksa ksb : List LT) (ada adb : Option Addr) (ca cb : Nat) (w W : World) (hgw : GL [] w W) (N : Nat) (hN : W.heap[N]? = some (.cells #[.int .u8 ka, .string (bs ta), .int .i64 na, .slice ada ksa.length ca, .int .u8 kb, .string (bs tb), .int .i64 nb, .slice adb ksb.length cb] 25 (0, 0)))
  (ha : y2_ (fun _ => True) w (.mk ka ta na ksa) (.agg #[.int .u8 ka, .string (bs ta), .int .i64 na, .slice ada ksa.length ca])) (hb : y2_ (fun _ => True) w (.mk kb tb nb ksb) (.agg #[.int .u8 kb, .string (bs tb), .int .i64 nb, .slice adb ksb.length cb])) :
  Calls Tryz.prog 5 #[.slice (some ⟨N, 0, none⟩) 2 2] W fun e w' => Below W.heap.size W w' ∧ ∃ v, e = .returned v ∧ y2_ (fun b => b < w.heap.size ∨ W.heap.size ≤ b) w' (.mk 5 [] 0 [(.mk ka ta na ksa), (.mk kb tb nb ksb)]) v := by
 refine zb7_ [(.mk ka ta na ksa), (.mk kb tb nb ksb)] N 0 2 (fun b => b < w.heap.size) si_ si_ W (z0_ hN) ?_
 unfold x2_ x2_ x2_
 exact ⟨⟨_, _, _, _, z7_ hgw _ _ (q9_ (fun b hb _ => hb) _ _ ha), z2_ hN 0, z2_ hN 1, z2_ hN 2, z2_ hN 3⟩, ⟨_, _, _, _, z7_ hgw _ _ (q9_ (fun b hb _ => hb) _ _ hb), z2_ hN 4, z2_ hN 5, z2_ hN 6, z2_ hN 7⟩, trivial⟩
theorem zn4_ (ka na kb nb : Int) (ta tb : List UInt8) (ksa ksb : List LT) (ada adb : Option Addr) (ca cb : Nat) (w W : World) (hgw : GL [] w W) (N : Nat) (hN : W.heap[N]? = some (.cells #[.int .u8 ka, .string (bs ta), .int .i64 na, .slice ada ksa.length ca, .int .u8 kb, .string (bs tb), .int .i64 nb, .slice adb ksb.length cb] 25 (0, 0)))
  (ha : y2_ (fun _ => True) w (.mk ka ta na ksa) (.agg #[.int .u8 ka, .string (bs ta), .int .i64 na, .slice ada ksa.length ca])) (hb : y2_ (fun _ => True) w (.mk kb tb nb ksb) (.agg #[.int .u8 kb, .string (bs tb), .int .i64 nb, .slice adb ksb.length cb])) :
  Calls Tryz.prog 9 #[.slice (some ⟨N, 0, none⟩) 2 2] W fun e w' => Below W.heap.size W w' ∧ ∃ v, e = .returned v ∧ y2_ (fun b => b < w.heap.size ∨ W.heap.size ≤ b) w' (.mk 6 [] 0 [(.mk ka ta na ksa), (.mk kb tb nb ksb)]) v := by
 refine zde_ [(.mk ka ta na ksa), (.mk kb tb nb ksb)] N 0 2 (fun b => b < w.heap.size) si_ si_ W (z0_ hN) ?_
 unfold x2_ x2_ x2_
 exact ⟨⟨_, _, _, _, z7_ hgw _ _ (q9_ (fun b hb _ => hb) _ _ ha), z2_ hN 0, z2_ hN 1, z2_ hN 2, z2_ hN 3⟩, ⟨_, _, _, _, z7_ hgw _ _ (q9_ (fun b hb _ => hb) _ _ hb), z2_ hN 4, z2_ hN 5, z2_ hN 6, z2_ hN 7⟩, trivial⟩
theorem zbO_ (a b : LT) (i : Nat) (hi : i ≠ 3 ∧ i ≠ 7 ∧ i ≠ 8 ∧ i ≠ 9) (j : Nat) (v u : Value) (w : World) : R13 a b i j v u w ∧ R13 a b j i u v w :=
 ⟨⟨fun h => by omega, fun h => by omega, fun h => by omega⟩, ⟨fun h => by omega, fun h => by omega, fun h => by omega⟩⟩
section
variable {ops : Array Oper} {Q : Exit → Act → World → Prop} {a0 : Act} {w0 : World} {ka na kb nb : Int} {ta tb : List UInt8} {ksa ksb : List LT} {ada adb : Option Addr} {ca cb : Nat} {af : Array Edge} {ty : Nat} {pos : String} {at_ : Array TypeId}
theorem zn5_ {A : Nat} (e1 : a0.tmps[8]? = some (.pointer (some ⟨A, 0, none⟩))) (HA : w0.heap[A]? = some (.cells #[.int .u8 ka, .string (bs ta), .int .i64 na, .slice ada ksa.length ca] 25 (0, 0))) : zbh_ Tryz.prog ops Q a0 w0 d13 (JSR (S13 w0 (.mk ka ta na ksa) (.mk kb tb nb ksb) (.agg #[.int .u8 ka, .string (bs ta), .int .i64 na, .slice ada ksa.length ca]) (.agg #[.int .u8 kb, .string (bs tb), .int .i64 nb, .slice adb ksb.length cb]) #[.int .u8 ka, .string (bs ta), .int .i64 na, .slice ada ksa.length ca, .int .u8 kb, .string (bs tb), .int .i64 nb, .slice adb ksb.length cb]) (R13 (.mk ka ta na ksa) (.mk kb tb nb ksb))) 0 { dst := some 114, op := .load 25 (.tmp 8), type := ty, pos := pos, after := af, guard := none } := by
 intro a w m hgl hout hJ hmi hdep hval K hK
 rw [if_pos (by simp [Region.wanted])]
 have e2 := (hout 8 de_).trans e1
 have b1 := z2_ (y7_ HA hgl si_)
 have HJ := Lib.hid hJ
 clear hout hdep hval e1 hmi hJ
 go_simp
 exact hK _ _ (zb9_ (zca_ _ _ _ _ _ _) (zcb_ _ _) HJ.out (z1_ _ _) ⟨fun _ => rfl, fun h => by omega, fun h => by omega, fun h => by omega, fun h => by omega, fun h => by omega⟩ (zbO_ _ _ 0 om_ _ _ _ _).1 (fun j u _ => zbO_ _ _ 0 om_ _ _ _ _)) (z1_ _ _)
theorem zn6_ {A : Nat} (e1 : a0.tmps[9]? = some (.pointer (some ⟨A, 0, none⟩))) (HA : w0.heap[A]? = some (.cells #[.int .u8 kb, .string (bs tb), .int .i64 nb, .slice adb ksb.length cb] 25 (0, 0))) : zbh_ Tryz.prog ops Q a0 w0 d13 (JSR (S13 w0 (.mk ka ta na ksa) (.mk kb tb nb ksb) (.agg #[.int .u8 ka, .string (bs ta), .int .i64 na, .slice ada ksa.length ca]) (.agg #[.int .u8 kb, .string (bs tb), .int .i64 nb, .slice adb ksb.length cb]) #[.int .u8 ka, .string (bs ta), .int .i64 na, .slice ada ksa.length ca, .int .u8 kb, .string (bs tb), .int .i64 nb, .slice adb ksb.length cb]) (R13 (.mk ka ta na ksa) (.mk kb tb nb ksb))) 1 { dst := some 115, op := .load 25 (.tmp 9), type := ty, pos := pos, after := af, guard := none } := by
 intro a w m hgl hout hJ hmi hdep hval K hK
 rw [if_pos (by simp [Region.wanted])]
 have e2 := (hout 9 de_).trans e1
 have b1 := z2_ (y7_ HA hgl si_)
 have HJ := Lib.hid hJ
 clear hout hdep hval e1 hmi hJ
 go_simp
 exact hK _ _ (zb9_ (zca_ _ _ _ _ _ _) (zcb_ _ _) HJ.out (z1_ _ _) ⟨fun h => by omega, fun _ => rfl, fun h => by omega, fun h => by omega, fun h => by omega, fun h => by omega⟩ (zbO_ _ _ 1 om_ _ _ _ _).1 (fun j u _ => zbO_ _ _ 1 om_ _ _ _ _)) (z1_ _ _)
theorem zn7_ {A : Nat} (e1 : a0.tmps[8]? = some (.pointer (some ⟨A, 0, none⟩))) (HA : w0.heap[A]? = some (.cells #[.int .u8 ka, .string (bs ta), .int .i64 na, .slice ada ksa.length ca] 25 (0, 0))) : zbh_ Tryz.prog ops Q a0 w0 d13 (JSR (S13 w0 (.mk ka ta na ksa) (.mk kb tb nb ksb) (.agg #[.int .u8 ka, .string (bs ta), .int .i64 na, .slice ada ksa.length ca]) (.agg #[.int .u8 kb, .string (bs tb), .int .i64 nb, .slice adb ksb.length cb]) #[.int .u8 ka, .string (bs ta), .int .i64 na, .slice ada ksa.length ca, .int .u8 kb, .string (bs tb), .int .i64 nb, .slice adb ksb.length cb]) (R13 (.mk ka ta na ksa) (.mk kb tb nb ksb))) 4 { dst := some 118, op := .load 25 (.tmp 8), type := ty, pos := pos, after := af, guard := none } := by
 intro a w m hgl hout hJ hmi hdep hval K hK
 rw [if_pos (by simp [Region.wanted])]
 have e2 := (hout 8 de_).trans e1
 have b1 := z2_ (y7_ HA hgl si_)
 have HJ := Lib.hid hJ
 clear hout hdep hval e1 hmi hJ
 go_simp
 exact hK _ _ (zb9_ (zca_ _ _ _ _ _ _) (zcb_ _ _) HJ.out (z1_ _ _) ⟨fun _ => rfl, fun h => by omega, fun h => by omega, fun h => by omega, fun h => by omega, fun h => by omega⟩ (zbO_ _ _ 4 om_ _ _ _ _).1 (fun j u _ => zbO_ _ _ 4 om_ _ _ _ _)) (z1_ _ _)
theorem zn8_ {A : Nat} (e1 : a0.tmps[9]? = some (.pointer (some ⟨A, 0, none⟩))) (HA : w0.heap[A]? = some (.cells #[.int .u8 kb, .string (bs tb), .int .i64 nb, .slice adb ksb.length cb] 25 (0, 0))) : zbh_ Tryz.prog ops Q a0 w0 d13 (JSR (S13 w0 (.mk ka ta na ksa) (.mk kb tb nb ksb) (.agg #[.int .u8 ka, .string (bs ta), .int .i64 na, .slice ada ksa.length ca]) (.agg #[.int .u8 kb, .string (bs tb), .int .i64 nb, .slice adb ksb.length cb]) #[.int .u8 ka, .string (bs ta), .int .i64 na, .slice ada ksa.length ca, .int .u8 kb, .string (bs tb), .int .i64 nb, .slice adb ksb.length cb]) (R13 (.mk ka ta na ksa) (.mk kb tb nb ksb))) 5 { dst := some 119, op := .load 25 (.tmp 9), type := ty, pos := pos, after := af, guard := none } := by
 intro a w m hgl hout hJ hmi hdep hval K hK
 rw [if_pos (by simp [Region.wanted])]
 have e2 := (hout 9 de_).trans e1
 have b1 := z2_ (y7_ HA hgl si_)
 have HJ := Lib.hid hJ
 clear hout hdep hval e1 hmi hJ
 go_simp
 exact hK _ _ (zb9_ (zca_ _ _ _ _ _ _) (zcb_ _ _) HJ.out (z1_ _ _) ⟨fun h => by omega, fun _ => rfl, fun h => by omega, fun h => by omega, fun h => by omega, fun h => by omega⟩ (zbO_ _ _ 5 om_ _ _ _ _).1 (fun j u _ => zbO_ _ _ 5 om_ _ _ _ _)) (z1_ _ _)
theorem zn9_ (hx : (⟨0, .data⟩ : Edge) ∈ af.toList) (hy : (⟨1, .data⟩ : Edge) ∈ af.toList) : zbh_ Tryz.prog ops Q a0 w0 d13 (JSR (S13 w0 (.mk ka ta na ksa) (.mk kb tb nb ksb) (.agg #[.int .u8 ka, .string (bs ta), .int .i64 na, .slice ada ksa.length ca]) (.agg #[.int .u8 kb, .string (bs tb), .int .i64 nb, .slice adb ksb.length cb]) #[.int .u8 ka, .string (bs ta), .int .i64 na, .slice ada ksa.length ca, .int .u8 kb, .string (bs tb), .int .i64 nb, .slice adb ksb.length cb]) (R13 (.mk ka ta na ksa) (.mk kb tb nb ksb))) 2 { dst := some 116, op := .buildSlice 23 2 #[(0, .tmp 114), (1, .tmp 115)], type := ty, pos := pos, after := af, guard := none } := by
 intro a w m hgl hout hJ hmi hdep hval K hK
 rw [if_pos (by simp [Region.wanted])]
 obtain ⟨vx, hvx⟩ := hdep ⟨0, .data⟩ hx rfl
 obtain ⟨vy, hvy⟩ := hdep ⟨1, .data⟩ hy rfl
 have ex := hval 0 vx 114 hvx rfl
 have ey := hval 1 vy 115 hvy rfl
 have qx := (hJ.1 0 vx hvx).1 om_
 have qy := (hJ.1 1 vy hvy).2.1 om_
 subst qx qy
 have HJ := Lib.hid hJ
 clear hout hdep hval hmi hJ hvx hvy
 go_simp
 exact hK _ _ (zb9_ (zca_ _ _ _ _ _ _) (zcb_ _ _) HJ.out (z6_ (z1_ _ _) _) ⟨fun h => by omega, fun h => by omega, fun _ => ⟨w.heap.size, rfl, z3_ w _⟩, fun h => by omega, fun h => by omega, fun h => by omega⟩ (zbO_ _ _ 2 om_ _ _ _ _).1 (fun j u _ => zbO_ _ _ 2 om_ _ _ _ _)) (z6_ (z1_ _ _) _)
theorem zoa_ (hx : (⟨4, .data⟩ : Edge) ∈ af.toList) (hy : (⟨5, .data⟩ : Edge) ∈ af.toList) : zbh_ Tryz.prog ops Q a0 w0 d13 (JSR (S13 w0 (.mk ka ta na ksa) (.mk kb tb nb ksb) (.agg #[.int .u8 ka, .string (bs ta), .int .i64 na, .slice ada ksa.length ca]) (.agg #[.int .u8 kb, .string (bs tb), .int .i64 nb, .slice adb ksb.length cb]) #[.int .u8 ka, .string (bs ta), .int .i64 na, .slice ada ksa.length ca, .int .u8 kb, .string (bs tb), .int .i64 nb, .slice adb ksb.length cb]) (R13 (.mk ka ta na ksa) (.mk kb tb nb ksb))) 6 { dst := some 120, op := .buildSlice 23 2 #[(0, .tmp 118), (1, .tmp 119)], type := ty, pos := pos, after := af, guard := none } := by
 intro a w m hgl hout hJ hmi hdep hval K hK
 rw [if_pos (by simp [Region.wanted])]
 obtain ⟨vx, hvx⟩ := hdep ⟨4, .data⟩ hx rfl
 obtain ⟨vy, hvy⟩ := hdep ⟨5, .data⟩ hy rfl
 have ex := hval 4 vx 118 hvx rfl
 have ey := hval 5 vy 119 hvy rfl
 have qx := (hJ.1 4 vx hvx).1 om_
 have qy := (hJ.1 5 vy hvy).2.1 om_
 subst qx qy
 have HJ := Lib.hid hJ
 clear hout hdep hval hmi hJ hvx hvy
 go_simp
 exact hK _ _ (zb9_ (zca_ _ _ _ _ _ _) (zcb_ _ _) HJ.out (z6_ (z1_ _ _) _) ⟨fun h => by omega, fun h => by omega, fun _ => ⟨w.heap.size, rfl, z3_ w _⟩, fun h => by omega, fun h => by omega, fun h => by omega⟩ (zbO_ _ _ 6 om_ _ _ _ _).1 (fun j u _ => zbO_ _ _ 6 om_ _ _ _ _)) (z6_ (z1_ _ _) _)
theorem zob_ (hx : (⟨2, .data⟩ : Edge) ∈ af.toList) (ha : y2_ (fun _ => True) w0 (.mk ka ta na ksa) (.agg #[.int .u8 ka, .string (bs ta), .int .i64 na, .slice ada ksa.length ca])) (hb : y2_ (fun _ => True) w0 (.mk kb tb nb ksb) (.agg #[.int .u8 kb, .string (bs tb), .int .i64 nb, .slice adb ksb.length cb])) : zbh_ Tryz.prog ops Q a0 w0 d13 (JSR (S13 w0 (.mk ka ta na ksa) (.mk kb tb nb ksb) (.agg #[.int .u8 ka, .string (bs ta), .int .i64 na, .slice ada ksa.length ca]) (.agg #[.int .u8 kb, .string (bs tb), .int .i64 nb, .slice adb ksb.length cb]) #[.int .u8 ka, .string (bs ta), .int .i64 na, .slice ada ksa.length ca, .int .u8 kb, .string (bs tb), .int .i64 nb, .slice adb ksb.length cb]) (R13 (.mk ka ta na ksa) (.mk kb tb nb ksb))) 3 { dst := some 117, op := .call { callee := .value (.func 5), args := #[.tmp 116], argTypes := at_ }, type := ty, pos := pos, after := af, guard := none } := by
 intro a w m hgl hout hJ hmi hdep hval K hK
 rw [if_pos (by simp [Region.wanted])]
 obtain ⟨vx, hvx⟩ := hdep ⟨2, .data⟩ hx rfl
 have ex := hval 2 vx 116 hvx rfl
 obtain ⟨N, qx, hN⟩ := (hJ.1 2 vx hvx).2.2.1 om_
 subst qx
 have HC := Lib.hid (zn3_ ka na kb nb ta tb ksa ksb ada adb ca cb w0 w hgl N hN ha hb)
 have HJ := Lib.hid hJ
 clear hout hdep hval hmi hJ hvx hN
 go_simp
 refine HC.out.mono ?_
 rintro e w1 ⟨hb1, v, rfl, hl⟩
 obtain ⟨ad, c, hv, _⟩ := y3_ hl
 subst hv
 refine hK _ _ (zb9_ (zca_ _ _ _ _ _ _) (zcb_ _ _) HJ.out (z4_ hb1 (z1_ _ _)) ⟨fun h => by omega, fun h => by omega, fun h => by omega, fun _ => ⟨⟨ad, c, rfl⟩, q9_ (fun _ _ _ => trivial) _ _ hl⟩, fun h => by omega, fun h => by omega⟩ ⟨fun h => by omega, fun h => by omega, fun h => by omega⟩ (fun j u hj => ⟨⟨fun h A eA => by
  obtain ⟨A', e2, hA1, hA2⟩ := (HJ.out.1 j u hj).2.2.2.2.2 om_
  rw [e2] at eA
  injection eA with eA
  injection eA with eA
  injection eA with eA
  have hlt := z0_ hA2
  exact q9_ (fun c hc hp => by omega) _ _ hl, fun h => by omega, fun h => by omega⟩, ⟨fun h => by omega, fun h => by omega, fun h => by omega⟩⟩)) (z4_ hb1 (z1_ _ _))
theorem zoc_ (hx : (⟨6, .data⟩ : Edge) ∈ af.toList) (ha : y2_ (fun _ => True) w0 (.mk ka ta na ksa) (.agg #[.int .u8 ka, .string (bs ta), .int .i64 na, .slice ada ksa.length ca])) (hb : y2_ (fun _ => True) w0 (.mk kb tb nb ksb) (.agg #[.int .u8 kb, .string (bs tb), .int .i64 nb, .slice adb ksb.length cb])) : zbh_ Tryz.prog ops Q a0 w0 d13 (JSR (S13 w0 (.mk ka ta na ksa) (.mk kb tb nb ksb) (.agg #[.int .u8 ka, .string (bs ta), .int .i64 na, .slice ada ksa.length ca]) (.agg #[.int .u8 kb, .string (bs tb), .int .i64 nb, .slice adb ksb.length cb]) #[.int .u8 ka, .string (bs ta), .int .i64 na, .slice ada ksa.length ca, .int .u8 kb, .string (bs tb), .int .i64 nb, .slice adb ksb.length cb]) (R13 (.mk ka ta na ksa) (.mk kb tb nb ksb))) 7 { dst := some 121, op := .call { callee := .value (.func 9), args := #[.tmp 120], argTypes := at_ }, type := ty, pos := pos, after := af, guard := none } := by
 intro a w m hgl hout hJ hmi hdep hval K hK
 rw [if_pos (by simp [Region.wanted])]
 obtain ⟨vx, hvx⟩ := hdep ⟨6, .data⟩ hx rfl
 have ex := hval 6 vx 120 hvx rfl
 obtain ⟨N, qx, hN⟩ := (hJ.1 6 vx hvx).2.2.1 om_
 subst qx
 have HC := Lib.hid (zn4_ ka na kb nb ta tb ksa ksb ada adb ca cb w0 w hgl N hN ha hb)
 have HJ := Lib.hid hJ
 clear hout hdep hval hmi hJ hvx hN
 go_simp
 refine HC.out.mono ?_
 rintro e w1 ⟨hb1, v, rfl, hl⟩
 obtain ⟨ad, c, hv, _⟩ := y3_ hl
 subst hv
 refine hK _ _ (zb9_ (zca_ _ _ _ _ _ _) (zcb_ _ _) HJ.out (z4_ hb1 (z1_ _ _)) ⟨fun h => by omega, fun h => by omega, fun h => by omega, fun h => by omega, fun _ => ⟨⟨ad, c, rfl⟩, q9_ (fun _ _ _ => trivial) _ _ hl⟩, fun h => by omega⟩ ⟨fun h => by omega, fun h => by omega, fun h => by omega⟩ (fun j u hj => ⟨⟨fun h => by omega, fun h A eA => by
  obtain ⟨A', e2, hA1, hA2⟩ := (HJ.out.1 j u hj).2.2.2.2.2 om_
  rw [e2] at eA
  injection eA with eA
  injection eA with eA
  injection eA with eA
  have hlt := z0_ hA2
  exact q9_ (fun c hc hp => by omega) _ _ hl, fun h => by omega⟩, ⟨fun h => by omega, fun h => by omega, fun h => by omega⟩⟩)) (z4_ hb1 (z1_ _ _))
theorem zod_ : zbh_ Tryz.prog ops Q a0 w0 d13 (JSR (S13 w0 (.mk ka ta na ksa) (.mk kb tb nb ksb) (.agg #[.int .u8 ka, .string (bs ta), .int .i64 na, .slice ada ksa.length ca]) (.agg #[.int .u8 kb, .string (bs tb), .int .i64 nb, .slice adb ksb.length cb]) #[.int .u8 ka, .string (bs ta), .int .i64 na, .slice ada ksa.length ca, .int .u8 kb, .string (bs tb), .int .i64 nb, .slice adb ksb.length cb]) (R13 (.mk ka ta na ksa) (.mk kb tb nb ksb))) 8 { dst := some 21, op := .alloc 25, type := ty, pos := pos, after := af, guard := none } := by
 intro a w m hgl hout hJ hmi hdep hval K hK
 rw [if_pos (by simp [Region.wanted])]
 have HJ := Lib.hid hJ
 have hsz := hgl.size
 clear hout hdep hval hmi hJ
 go_simp
 refine hK _ _ (zb9_ (zca_ _ _ _ _ _ _) (zcb_ _ _) HJ.out (z6_ (z1_ _ _) _) ⟨fun h => by omega, fun h => by omega, fun h => by omega, fun h => by omega, fun h => by omega, fun _ => ⟨w.heap.size, rfl, hsz, z3_ w _⟩⟩ ⟨fun h => by omega, fun h => by omega, fun h => by omega⟩ (fun j u hj => ⟨⟨fun h => by omega, fun h => by omega, fun h => by
  obtain ⟨A', e2, hA1, hA2⟩ := (HJ.out.1 j u hj).2.2.2.2.2 om_
  have hlt := z0_ hA2
  rw [e2]
  intro eA
  injection eA with eA
  injection eA with eA
  injection eA with eA
  omega⟩, ⟨fun h A eA => by
  injection eA with eA
  injection eA with eA
  injection eA with eA
  have hlk := ((HJ.out.1 j u hj).2.2.2.1 om_).2
  exact z7_ (z6_ (z1_ _ _) _) _ _ (q9_ (fun c hc _ => by omega) _ _ hlk), fun h A eA => by
  injection eA with eA
  injection eA with eA
  injection eA with eA
  have hlk := ((HJ.out.1 j u hj).2.2.2.2.1 om_).2
  exact z7_ (z6_ (z1_ _ _) _) _ _ (q9_ (fun c hc _ => by omega) _ _ hlk), fun h => by
  obtain ⟨A', e2, hA1, hA2⟩ := (HJ.out.1 j u hj).2.2.2.2.2 om_
  have hlt := z0_ hA2
  rw [e2]
  intro eA
  injection eA with eA
  injection eA with eA
  injection eA with eA
  omega⟩⟩)) (z6_ (z1_ _ _) _)
theorem zoe_ : zbh_ Tryz.prog ops Q a0 w0 d13 (JSR (S13 w0 (.mk ka ta na ksa) (.mk kb tb nb ksb) (.agg #[.int .u8 ka, .string (bs ta), .int .i64 na, .slice ada ksa.length ca]) (.agg #[.int .u8 kb, .string (bs tb), .int .i64 nb, .slice adb ksb.length cb]) #[.int .u8 ka, .string (bs ta), .int .i64 na, .slice ada ksa.length ca, .int .u8 kb, .string (bs tb), .int .i64 nb, .slice adb ksb.length cb]) (R13 (.mk ka ta na ksa) (.mk kb tb nb ksb))) 9 { dst := some 22, op := .alloc 25, type := ty, pos := pos, after := af, guard := none } := by
 intro a w m hgl hout hJ hmi hdep hval K hK
 rw [if_pos (by simp [Region.wanted])]
 have HJ := Lib.hid hJ
 have hsz := hgl.size
 clear hout hdep hval hmi hJ
 go_simp
 refine hK _ _ (zb9_ (zca_ _ _ _ _ _ _) (zcb_ _ _) HJ.out (z6_ (z1_ _ _) _) ⟨fun h => by omega, fun h => by omega, fun h => by omega, fun h => by omega, fun h => by omega, fun _ => ⟨w.heap.size, rfl, hsz, z3_ w _⟩⟩ ⟨fun h => by omega, fun h => by omega, fun h => by omega⟩ (fun j u hj => ⟨⟨fun h => by omega, fun h => by omega, fun h => by
  obtain ⟨A', e2, hA1, hA2⟩ := (HJ.out.1 j u hj).2.2.2.2.2 om_
  have hlt := z0_ hA2
  rw [e2]
  intro eA
  injection eA with eA
  injection eA with eA
  injection eA with eA
  omega⟩, ⟨fun h A eA => by
  injection eA with eA
  injection eA with eA
  injection eA with eA
  have hlk := ((HJ.out.1 j u hj).2.2.2.1 om_).2
  exact z7_ (z6_ (z1_ _ _) _) _ _ (q9_ (fun c hc _ => by omega) _ _ hlk), fun h A eA => by
  injection eA with eA
  injection eA with eA
  injection eA with eA
  have hlk := ((HJ.out.1 j u hj).2.2.2.2.1 om_).2
  exact z7_ (z6_ (z1_ _ _) _) _ _ (q9_ (fun c hc _ => by omega) _ _ hlk), fun h => by
  obtain ⟨A', e2, hA1, hA2⟩ := (HJ.out.1 j u hj).2.2.2.2.2 om_
  have hlt := z0_ hA2
  rw [e2]
  intro eA
  injection eA with eA
  injection eA with eA
  injection eA with eA
  omega⟩⟩)) (z6_ (z1_ _ _) _)
end
theorem zof_ (x : LT) (q : Nat → Prop) (v sv pv : Value) (sigs pres : List (List UInt8)) (msg : List UInt8) (after age : Int) (w : World) (hL : y2_ q w x v) (hS : x5_ sv sigs w) (hP : x5_ pv pres w)
  (hsn : sigs.length ≤ 9000000000000000000) (hpn : pres.length ≤ 9000000000000000000) (hst : ∀ s ∈ sigs, s.length ≤ 9000000000000000000) (hpt : ∀ s ∈ pres, s.length ≤ 9000000000000000000)
  :
  Calls Tryz.prog 38 #[v, .agg #[sv, pv], .string (bs msg), .int .i64 after, .int .i64 age] w fun e w' => e = .returned (.bool (k4_ sigs pres msg after age x)) ∧ Below w.heap.size w w' := by
 have hc := fun (hri : w7_ x = true) (W : World) (hgw : GL [] w W) => zfI_ (x3_ x).toNat x q v sv pv sigs pres msg after age W (by have := j5_ x; omega) (by unfold w7_ at hri; rw [Bool.and_eq_true] at hri; exact hri.2) (z7_ hgw _ _ hL) (y4_ hS hgw) (y4_ hP hgw) hsn hpn hst hpt
 have hr := fun (W : World) (hgw : GL [] w W) => zdg_ x q v W (z7_ hgw _ _ hL)
 obtain ⟨sa, sc, rfl, _⟩ := za6_ hS
 obtain ⟨pa, pc, rfl, _⟩ := za6_ hP
 have H : Hid (k4_ sigs pres msg after age x = (w7_ x && decide (sigs.length ≤ 16) && decide (pres.length ≤ 16) && j9_ (sgP sigs msg) (prP pres) after age x)) := rfl
 generalize j9_ (sgP sigs msg) (prP pres) after age x = z at *
 generalize w7_ x = y at *
 obtain ⟨k, t, n, kids⟩ := x
 obtain ⟨ad, c, rfl, _⟩ := y3_ hL
 have HC := Lib.hid hc
 have HR := Lib.hid hr
 clear hc hr hL hS hP hst hpt
 have hg0 : GL [] w w := z1_ _ _
 cases y with
 | false =>
   go_enter Tryz.func38, Tryz.ntmps38
   go_wp2_with fail
   refine (HR.out _ gl_).mono ?_
   rintro e w1 ⟨rfl, hb1⟩
   go_wp2_with fail
   go_ret
   exact ⟨by rw [H.out]; rfl, bl_⟩
 | true =>
   by_cases h1 : sigs.length ≤ 16
   · have b1 : decide ((sigs.length : Int) ≤ 16) = true := by simp; omega
     by_cases h2 : pres.length ≤ 16
     · have b2 : decide ((pres.length : Int) ≤ 16) = true := by simp; omega
       have HH : Hid (k4_ sigs pres msg after age (.mk k t n kids) = z) := by show _ = _; rw [H.out]; simp [h1, h2]
       go_enter Tryz.func38, Tryz.ntmps38
       go_wp2_with fail
       refine (HR.out _ gl_).mono ?_
       rintro e w1 ⟨rfl, hb1⟩
       have g1 := z9_ (z8_ (z3_ w (.cells #[.int .u8 k, .string (bs t), .int .i64 n, .slice ad kids.length c] 25)) (.cells #[.slice sa sigs.length sc, .slice pa pres.length pc] 31)) hb1 so_
       have g2 := z9_ (z3_ (w.alloc (.cells #[.int .u8 k, .string (bs t), .int .i64 n, .slice ad kids.length c] 25)) (.cells #[.slice sa sigs.length sc, .slice pa pres.length pc] 31)) hb1 si_
       rw [show (w.alloc (.cells #[.int .u8 k, .string (bs t), .int .i64 n, .slice ad kids.length c] 25)).heap.size = w.heap.size + 1 by simp] at g2
       have f1 := z2_ g1
       have e1 := z5_ g1
       have f2 := z2_ g2
       have e2 := z5_ g2
       clear g1 g2
       go_wp2_with fail
       refine (HC.out (by first | rfl | trivial) _ (z4_ hb1 gl_)).mono ?_
       rintro e w2 ⟨rfl, hb2⟩
       go_wp2_with fail
       go_ret
       exact ⟨by rw [HH.out]; rfl, bl_⟩
     · have b2 : decide ((pres.length : Int) ≤ 16) = false := by simp; omega
       have HH : Hid (k4_ sigs pres msg after age (.mk k t n kids) = false) := by show _ = _; rw [H.out]; simp [h2]
       go_enter Tryz.func38, Tryz.ntmps38
       go_wp2_with fail
       refine (HR.out _ gl_).mono ?_
       rintro e w1 ⟨rfl, hb1⟩
       have g2 := z9_ (z3_ (w.alloc (.cells #[.int .u8 k, .string (bs t), .int .i64 n, .slice ad kids.length c] 25)) (.cells #[.slice sa sigs.length sc, .slice pa pres.length pc] 31)) hb1 si_
       rw [show (w.alloc (.cells #[.int .u8 k, .string (bs t), .int .i64 n, .slice ad kids.length c] 25)).heap.size = w.heap.size + 1 by simp] at g2
       have f2 := z2_ g2
       have e2 := z5_ g2
       clear g2
       go_wp2_with fail
       go_ret
       exact ⟨by rw [HH.out]; rfl, bl_⟩
   · have b1 : decide ((sigs.length : Int) ≤ 16) = false := by simp; omega
     have HH : Hid (k4_ sigs pres msg after age (.mk k t n kids) = false) := by show _ = _; rw [H.out]; simp [h1]
     go_enter Tryz.func38, Tryz.ntmps38
     go_wp2_with fail
     refine (HR.out _ gl_).mono ?_
     rintro e w1 ⟨rfl, hb1⟩
     have g2 := z9_ (z3_ (w.alloc (.cells #[.int .u8 k, .string (bs t), .int .i64 n, .slice ad kids.length c] 25)) (.cells #[.slice sa sigs.length sc, .slice pa pres.length pc] 31)) hb1 si_
     rw [show (w.alloc (.cells #[.int .u8 k, .string (bs t), .int .i64 n, .slice ad kids.length c] 25)).heap.size = w.heap.size + 1 by simp] at g2
     have f2 := z2_ g2
     have e2 := z5_ g2
     clear g2
     go_wp2_with fail
     go_ret
     exact ⟨by rw [HH.out]; rfl, bl_⟩
theorem zdL_ (x : LT) (v : Value) (q : Nat → Prop) (sa pa : Option Addr) (sc pc : Nat) (sigs pres : List (List UInt8)) (msg : List UInt8) (after age : Int) (hmsg : msg.length ≤ 9000000000000000000)
  (ra : -9223372036854775808 ≤ after ∧ after ≤ 9223372036854775807) (rg : -9223372036854775808 ≤ age ∧ age ≤ 9223372036854775807) (w : World) (hX : y2_ q w x v) (hS : x5_ (.slice sa sigs.length sc) sigs w) (hP : x5_ (.slice pa pres.length pc) pres w)
  (hsn : sigs.length ≤ 9000000000000000000) (hpn : pres.length ≤ 9000000000000000000) (hst : ∀ s ∈ sigs, s.length ≤ 9000000000000000000) (hpt : ∀ s ∈ pres, s.length ≤ 9000000000000000000) (hG : GOk w) :
  Calls Tryz.prog 14 #[v, .agg #[.slice sa sigs.length sc, .slice pa pres.length pc], .string (bs msg), .int .i64 after, .int .i64 age] w fun e w' => e = .returned (.bool true) ∧ Below w.heap.size w w' := by
 have HG0 := Lib.hid hG
 have HX0 := Lib.hid hX
 have HS0 := Lib.hid hS
 have HP0 := Lib.hid hP
 have HST := Lib.hid hst
 have HPT := Lib.hid hpt
 obtain ⟨k, t, n, ks⟩ := x
 obtain ⟨ad, c, rfl, _⟩ := y3_ hX
 clear hG hX hS hP hst hpt
 go_enter Tryz.func14, Tryz.ntmps14
 have hg0 : GL [] w w := z1_ _ _
 have hs0 : w.heap.size ≤ w.heap.size := Nat.le_refl _
 go_wp2_with fail
 have HX1 := Lib.hid (z7_ (z6_ (z6_ (z1_ _ _) (.cells #[.int .u8 k, .string (bs t), .int .i64 n, .slice ad ks.length c] 25)) (.cells #[.slice sa sigs.length sc, .slice pa pres.length pc] 31)) _ _ HX0.out)
 have HS1 := Lib.hid (y4_ HS0.out (z6_ (z6_ (z1_ _ _) (.cells #[.int .u8 k, .string (bs t), .int .i64 n, .slice ad ks.length c] 25)) (.cells #[.slice sa sigs.length sc, .slice pa pres.length pc] 31)))
 have HP1 := Lib.hid (y4_ HP0.out (z6_ (z6_ (z1_ _ _) (.cells #[.int .u8 k, .string (bs t), .int .i64 n, .slice ad ks.length c] 25)) (.cells #[.slice sa sigs.length sc, .slice pa pres.length pc] 31)))
 have HA1 := Lib.hid ((z8_ (z3_ w (.cells #[.int .u8 k, .string (bs t), .int .i64 n, .slice ad ks.length c] 25)) (.cells #[.slice sa sigs.length sc, .slice pa pres.length pc] 31)))
 have hZ_ := z3_ (w.alloc (.cells #[.int .u8 k, .string (bs t), .int .i64 n, .slice ad ks.length c] 25)) (.cells #[.slice sa sigs.length sc, .slice pa pres.length pc] 31)
 rw [show (w.alloc (.cells #[.int .u8 k, .string (bs t), .int .i64 n, .slice ad ks.length c] 25)).heap.size = w.heap.size + 1 by simp] at hZ_
 have HWB1 := Lib.hid (hZ_)
 clear hZ_
 have HG1 := Lib.hid (y5_ (y5_ HG0.out (.cells #[.int .u8 k, .string (bs t), .int .i64 n, .slice ad ks.length c] 25)) (.cells #[.slice sa sigs.length sc, .slice pa pres.length pc] 31))
 have hg1 := z6_ (z6_ hg0 (.cells #[.int .u8 k, .string (bs t), .int .i64 n, .slice ad ks.length c] 25)) (.cells #[.slice sa sigs.length sc, .slice pa pres.length pc] 31)
 have geA : w.heap.size ≤ w.heap.size := by have := hg0.size; omega
 have gnA : gN ≤ w.heap.size := by have := HG0.out.size; omega
 have geWB : w.heap.size ≤ w.heap.size + 1 := by have := hg0.size; omega
 have gnWB : gN ≤ w.heap.size + 1 := by have := HG0.out.size; omega
 have ltAWB : w.heap.size < w.heap.size + 1 := by omega
 have neAWB : w.heap.size ≠ w.heap.size + 1 := by omega
 have neWBA : w.heap.size + 1 ≠ w.heap.size := by omega
 generalize ((w.alloc (.cells #[.int .u8 k, .string (bs t), .int .i64 n, .slice ad ks.length c] 25)).alloc (.cells #[.slice sa sigs.length sc, .slice pa pres.length pc] 31)) = w1 at *
 generalize w.heap.size + 1 = WB at *
 generalize w.heap.size = A at *
 have hs1 := hg1.size
 refine (zcq_ 300 om_ om_ (.mk k t n ks) _ _ _ HX1.out).mono ?_
 rintro e w2 ⟨hb2, z1, rfl, hz10, hz11⟩
 have HWB2 := Lib.hid (z9_ HWB1.out hb2 (z0_ HWB1.out))
 have HA2 := Lib.hid (z9_ HA1.out hb2 (z0_ HA1.out))
 have HG2 := Lib.hid (y6_ HG1.out hb2)
 have hg2 := z4_ hb2 hg1
 have hs2 := hg2.size
 have HX2 := Lib.hid (z7_ (z4_ hb2 (z1_ _ _)) _ _ HX1.out)
 have HS2 := Lib.hid (y4_ HS1.out (z4_ hb2 (z1_ _ _)))
 have HP2 := Lib.hid (y4_ HP1.out (z4_ hb2 (z1_ _ _)))
 by_cases h1 : z1 ≤ 300
 · skip
   have b1 : decide (300 < z1) = false := by simp; omega
   have fa1 := z2_ HWB2.out
   have fb1 := z5_ HWB2.out
   have fl1 := z0_ HWB2.out
   go_wp2_with fail
   refine (zhH_ sa pa sc pc sigs pres msg _ HS2.out HP2.out hsn hpn).mono ?_
   rintro e w3 ⟨hb3, bl, rfl⟩
   clear fa1 fb1 fl1
   have HWB3 := Lib.hid (z9_ HWB2.out hb3 (z0_ HWB2.out))
   have HA3 := Lib.hid (z9_ HA2.out hb3 (z0_ HA2.out))
   have HG3 := Lib.hid (y6_ HG2.out hb3)
   have hg3 := z4_ hb3 hg2
   have hs3 := hg3.size
   have HX3 := Lib.hid (z7_ (z4_ hb3 (z1_ _ _)) _ _ HX2.out)
   have HS3 := Lib.hid (y4_ HS2.out (z4_ hb3 (z1_ _ _)))
   have HP3 := Lib.hid (y4_ HP2.out (z4_ hb3 (z1_ _ _)))
   cases bl with
   | true =>
     go_wp2_with fail
     go_ret
     exact ⟨rfl, x0_ hg3⟩
   | false =>
     have hc1 := fun (W : World) (hgw : GL [] w3 W) => zaV_ (.mk k t n ks) _ _ _ _ sigs pres msg after age W (z7_ hgw _ _ HX3.out) (y4_ HS3.out hgw) (y4_ HP3.out hgw) hsn hpn HST.out HPT.out ra rg (x4_ HG3.out hgw si_)
     have hc2 := fun (W : World) (hgw : GL [] w3 W) => zof_ (.mk k t n ks) _ _ _ _ sigs pres msg after age W (z7_ hgw _ _ HX3.out) (y4_ HS3.out hgw) (y4_ HP3.out hgw) hsn hpn HST.out HPT.out
     have hw := fun (W : World) (hgw : GL [] w3 W) => zak_ W (x4_ HG3.out hgw si_)
     generalize k4_ sigs pres msg after age (.mk k t n ks) = zo at *
     have HC1 := Lib.hid hc1
     have HC2 := Lib.hid hc2
     have HW := Lib.hid hw
     clear hc1 hc2 hw
     have hg33 : GL [] w3 w3 := z1_ _ _
     have fa2 := z2_ HA3.out
     have fb2 := z5_ HA3.out
     have fl2 := z0_ HA3.out
     have fa3 := z2_ HWB3.out
     have fb3 := z5_ HWB3.out
     have fl3 := z0_ HWB3.out
     cases zo
     all_goals
      go_wp2
      go_region_held3 (fun w' => w'.cell? ⟨A, 0, none⟩ = some (.int .u8 k) ∧ w'.cell? ⟨A, 1, none⟩ = some (.string (bs t)) ∧ w'.cell? ⟨A, 2, none⟩ = some (.int .i64 n) ∧ w'.cell? ⟨A, 3, none⟩ = some (.slice ad ks.length c) ∧ w'.cell? ⟨WB, 0, none⟩ = some (.slice sa sigs.length sc) ∧ w'.cell? ⟨WB, 1, none⟩ = some (.slice pa pres.length pc) ∧ GL [] w3 w')
       (first
         | (refine ⟨?_, ?_, ?_, ?_, ?_, ?_, ?_⟩
            · go_keep
            · go_keep
            · go_keep
            · go_keep
            · go_keep
            · go_keep
            · exact zam_ hg33)
         | (go_split_ands
            refine ⟨?_, ?_, ?_, ?_, ?_, ?_, ?_⟩
            · exact (hbk.cell (World.block_lt_of_cell? _ _ as_)).trans as_
            · exact (hbk.cell (World.block_lt_of_cell? _ _ as_)).trans as_
            · exact (hbk.cell (World.block_lt_of_cell? _ _ as_)).trans as_
            · exact (hbk.cell (World.block_lt_of_cell? _ _ as_)).trans as_
            · exact (hbk.cell (World.block_lt_of_cell? _ _ as_)).trans as_
            · exact (hbk.cell (World.block_lt_of_cell? _ _ as_)).trans as_
            · exact z4_ hbk as_))
       ((first
         | (go_at_call 37; go_split_ands; refine (HC1.out _ as_).mono ?_; rintro e wk ⟨rfl, hbk⟩)
         | (go_at_call 38; go_split_ands; refine (HC2.out _ as_).mono ?_; rintro e wk ⟨rfl, hbk⟩)
         | (go_at_call 19; go_split_ands; refine (HW.out _ as_).mono ?_; rintro e wk ⟨rfl, hbk⟩)))
      all_goals
       go_wp2
       go_ret
       exact ⟨rfl, x0_ (x1_ (z4_ hbk as_) hg3 si_)⟩
 · skip
   have b1 : decide (300 < z1) = true := by simp; omega
   go_wp2_with fail
   go_ret
   exact ⟨rfl, x0_ hg2⟩
theorem zfN_ (t : List UInt8) (w : World) : Calls Tryz.prog 29 #[.string (bs t)] w fun e w' => e = .returned (.agg #[.int .u8 1, .string (bs t), .int .i64 0, .slice none 0 0]) ∧ Below w.heap.size w w' := by
 go_enter Tryz.func29, Tryz.ntmps29
 go_wp2
 refine bodyPost_ret (v := .agg #[.int .u8 1, .string (bs t), .int .i64 0, .slice none 0 0]) (by simp [results, Tryz.results29, go_sem]) rfl ⟨rfl, ?_⟩
 exact bl_
theorem zfO_ (t : List UInt8) (w : World) : Calls Tryz.prog 30 #[.string (bs t)] w fun e w' => e = .returned (.agg #[.int .u8 2, .string (bs t), .int .i64 0, .slice none 0 0]) ∧ Below w.heap.size w w' := by
 go_enter Tryz.func30, Tryz.ntmps30
 go_wp2
 refine bodyPost_ret (v := .agg #[.int .u8 2, .string (bs t), .int .i64 0, .slice none 0 0]) (by simp [results, Tryz.results30, go_sem]) rfl ⟨rfl, ?_⟩
 exact bl_
theorem zfP_ (n : Int) (w : World) : Calls Tryz.prog 31 #[.int .i64 n] w fun e w' => e = .returned (.agg #[.int .u8 3, .string (bs []), .int .i64 n, .slice none 0 0]) ∧ Below w.heap.size w w' := by
 go_enter Tryz.func31, Tryz.ntmps31
 go_wp2
 refine bodyPost_ret (v := .agg #[.int .u8 3, .string (bs []), .int .i64 n, .slice none 0 0]) (by simp [results, Tryz.results31, go_sem]) rfl ⟨rfl, ?_⟩
 exact bl_
theorem zfQ_ (n : Int) (w : World) : Calls Tryz.prog 32 #[.int .i64 n] w fun e w' => e = .returned (.agg #[.int .u8 4, .string (bs []), .int .i64 n, .slice none 0 0]) ∧ Below w.heap.size w w' := by
 go_enter Tryz.func32, Tryz.ntmps32
 go_wp2
 refine bodyPost_ret (v := .agg #[.int .u8 4, .string (bs []), .int .i64 n, .slice none 0 0]) (by simp [results, Tryz.results32, go_sem]) rfl ⟨rfl, ?_⟩
 exact bl_
theorem zfR_ (ad : Option Addr) (m c : Nat) (w : World) : Calls Tryz.prog 33 #[.slice ad m c] w fun e w' => e = .returned (.agg #[.int .u8 5, .string (bs []), .int .i64 0, .slice ad m c]) ∧ Below w.heap.size w w' := by
 go_enter Tryz.func33, Tryz.ntmps33
 go_wp2
 refine bodyPost_ret (v := .agg #[.int .u8 5, .string (bs []), .int .i64 0, .slice ad m c]) (by simp [results, Tryz.results33, go_sem]) rfl ⟨rfl, ?_⟩
 exact bl_
theorem zfS_ (ad : Option Addr) (m c : Nat) (w : World) : Calls Tryz.prog 34 #[.slice ad m c] w fun e w' => e = .returned (.agg #[.int .u8 6, .string (bs []), .int .i64 0, .slice ad m c]) ∧ Below w.heap.size w w' := by
 go_enter Tryz.func34, Tryz.ntmps34
 go_wp2
 refine bodyPost_ret (v := .agg #[.int .u8 6, .string (bs []), .int .i64 0, .slice ad m c]) (by simp [results, Tryz.results34, go_sem]) rfl ⟨rfl, ?_⟩
 exact bl_
theorem zog_ {p : Nat → Prop} {w : World} {k n : Int} {t : List UInt8} {kids : List LT} {ad : Option Addr} {m c : Nat} (hk : 0 < kids.length) (h : y2_ p w (.mk k t n kids) (.agg #[.int .u8 k, .string (bs t), .int .i64 n, .slice ad m c])) : ∃ b o, ad = some ⟨b, o, none⟩ := by
 obtain ⟨ad2, c2, e, _, _, _, _, hd⟩ := y3_ h
 injection e with e
 have e := congrArg Array.toList e
 simp only [List.cons.injEq, and_true, true_and, Value.slice.injEq] at e
 obtain ⟨rfl, _, _⟩ := e
 rcases hd with h0 | ⟨b, o, h1, _⟩
 · subst h0; simp at hk
 · exact ⟨b, o, h1⟩
theorem zoh_ {p : Nat → Prop} {w : World} {k n : Int} {t : List UInt8} {kids : List LT} {b o m c : Nat} (hk : 0 < kids.length) (h : y2_ p w (.mk k t n kids) (.agg #[.int .u8 k, .string (bs t), .int .i64 n, .slice (some ⟨b, o, none⟩) m c])) : b < w.heap.size ∧ x2_ p w kids b o := by
 obtain ⟨ad2, c2, e, _, _, _, _, hd⟩ := y3_ h
 injection e with e
 have e := congrArg Array.toList e
 simp only [List.cons.injEq, and_true, true_and, Value.slice.injEq] at e
 obtain ⟨rfl, _, _⟩ := e
 rcases hd with h0 | ⟨b2, o2, h1, h2, _, h3⟩
 · subst h0; simp at hk
 · injection h1 with h1
   injection h1 with h1 h4
   subst h1 h4
   exact ⟨h2, h3⟩
theorem zdm_ (k2 : Int) (hk : 0 ≤ k2 ∧ k2 ≤ 255) {p : Nat → Prop} {w : World} {k n : Int} {t : List UInt8} {kids : List LT} {ad : Option Addr} {m c : Nat} (h : y2_ p w (.mk k t n kids) (.agg #[.int .u8 k, .string (bs t), .int .i64 n, .slice ad m c])) :
  y2_ p w (.mk k2 [] 0 kids) (.agg #[.int .u8 k2, .string (bs []), .int .i64 0, .slice ad m c]) := by
 unfold y2_ at h ⊢
 obtain ⟨h1, h2, h3, h4, ks, h5, h6⟩ := h
 injection h5 with h5
 have h5 := congrArg Array.toList h5
 simp only [List.cons.injEq, and_true, true_and] at h5
 subst h5
 exact ⟨hk, by omega, by simp, h4, _, rfl, h6⟩
def zct_ (w : World) (O N : Nat) : Prop := ∃ cs : Array Value, w.heap[O]? = some (.cells cs 25 (0, 0)) ∧ N ≤ cs.size
theorem zev_ {w : World} {O N : Nat} (h : zct_ w O N) (i : Nat) (hi : i < N) : ∃ u, w.cell? ⟨O, i, none⟩ = some u := by
 obtain ⟨cs, h1, h2⟩ := h
 exact ⟨cs[i]'om_, by rw [z2_ h1]; exact Array.getElem?_eq_getElem om_⟩
theorem zoi_ {w : World} {O N : Nat} (h : zct_ w O N) (i : Nat) : w.frozen? ⟨O, i, none⟩ = false := by
 obtain ⟨cs, h1, h2⟩ := h
 exact z5_ h1 i
theorem zew_ {w : World} {O N : Nat} (h : zct_ w O N) (i : Nat) (v : Value) : zct_ (w.setCell ⟨O, i, none⟩ v) O N := by
 obtain ⟨cs, h1, h2⟩ := h
 exact ⟨_, x7_ h1 i v, by simpa using h2⟩
theorem zoj_ (t : List UInt8) (htl : t.length ≤ 5000) (n : Int) (hn0 : -9223372036854775808 ≤ n) (hn1 : n ≤ 9223372036854775807)  (c : Nat) (w : World) (hK : y2_ (fun _ => True) w (.mk 0 [] 0 []) (.agg #[.int .u8 0, .string (bs []), .int .i64 0, .slice none 0 c])) (hG : GOk w) :
  Calls Tryz.prog 12 #[.string (bs t), .int .i64 n, .slice none 0 c] w fun e w' => e = .returned (.bool true) ∧ Below w.heap.size w w' := by
 have htl9 : t.length ≤ 9000000000000000000 := by omega
 have b5 : decide (5000 < (t.length : Int)) = false := by simp; omega
 have HG0 := Lib.hid hG
 have HK0 := Lib.hid (q9_ (q := fun b => b < w.heap.size) (fun b hb _ => hb) _ _ hK)
 clear hG hK
 go_enter Tryz.func12, Tryz.ntmps12
 have hg0 : GL [] w w := z1_ _ _
 have hs0 : w.heap.size ≤ w.heap.size := Nat.le_refl _
 obtain ⟨i0, hi0, hi1, hi2, hi3⟩ := info_parts Tryz.infoLock
 go_wp2_with fail
 refine (zcq_ 300 om_ om_ (.mk 0 [] 0 []) _ _ _ HK0.out).mono ?_
 rintro e w2 ⟨hb2, z1, rfl, hz10, hz11⟩
 have HG2 := Lib.hid (y6_ HG0.out hb2)
 have hg2 := z4_ hb2 hg0
 have hs2 := hg2.size
 have HK2 := Lib.hid (z7_ (z4_ hb2 (z1_ _ _)) _ _ HK0.out)
 by_cases h1 : z1 ≤ 300
 · skip
   have b1 : decide (300 < z1) = false := by simp; omega
   go_wp2_with (at_builtin; go_must (refine zfv_ rfl _ _ 23 rfl w.heap.size 25 i0 4 Tryz.underlying23 hi0 (.slice none 0 0) 0 [] rfl (World.ownsRow_nil _ _ _ _) c rfl ?_))
   refine (zfq_ _).mono ?_
   rintro e w4 ⟨rfl, hb4⟩
   have HG4 := Lib.hid (y6_ HG2.out hb4)
   have hg4 := z4_ hb4 hg2
   have hs4 := hg4.size
   have HK4 := Lib.hid (z7_ (z4_ hb4 (z1_ _ _)) _ _ HK2.out)
   go_wp2_with fail
   refine (zfr_ _).mono ?_
   rintro e w5 ⟨rfl, hb5⟩
   have HG5 := Lib.hid (y6_ HG4.out hb5)
   have hg5 := z4_ hb5 hg4
   have hs5 := hg5.size
   have HK5 := Lib.hid (z7_ (z4_ hb5 (z1_ _ _)) _ _ HK4.out)
   go_wp2
   have HK6 := Lib.hid (z7_ (z6_ (z6_ (z1_ _ _) (.cells #[.int .u8 5, .string (bs []), .int .i64 0, .slice none 0 0] 25)) (.cells #[.int .u8 6, .string (bs []), .int .i64 0, .slice none 0 0] 25)) _ _ HK5.out)
   have HLA6 := Lib.hid ((z8_ (z3_ w5 (.cells #[.int .u8 5, .string (bs []), .int .i64 0, .slice none 0 0] 25)) (.cells #[.int .u8 6, .string (bs []), .int .i64 0, .slice none 0 0] 25)))
   have hZ_ := z3_ (w5.alloc (.cells #[.int .u8 5, .string (bs []), .int .i64 0, .slice none 0 0] 25)) (.cells #[.int .u8 6, .string (bs []), .int .i64 0, .slice none 0 0] 25)
   rw [show (w5.alloc (.cells #[.int .u8 5, .string (bs []), .int .i64 0, .slice none 0 0] 25)).heap.size = w5.heap.size + 1 by simp] at hZ_
   have HLB6 := Lib.hid (hZ_)
   clear hZ_
   have HG6 := Lib.hid (y5_ (y5_ HG5.out (.cells #[.int .u8 5, .string (bs []), .int .i64 0, .slice none 0 0] 25)) (.cells #[.int .u8 6, .string (bs []), .int .i64 0, .slice none 0 0] 25))
   have hg6 := z6_ (z6_ hg5 (.cells #[.int .u8 5, .string (bs []), .int .i64 0, .slice none 0 0] 25)) (.cells #[.int .u8 6, .string (bs []), .int .i64 0, .slice none 0 0] 25)
   have geLA : w.heap.size ≤ w5.heap.size := by have := hg5.size; omega
   have gnLA : gN ≤ w5.heap.size := by have := HG5.out.size; omega
   have geLB : w.heap.size ≤ w5.heap.size + 1 := by have := hg5.size; omega
   have gnLB : gN ≤ w5.heap.size + 1 := by have := HG5.out.size; omega
   have ltLALB : w5.heap.size < w5.heap.size + 1 := by omega
   have neLALB : w5.heap.size ≠ w5.heap.size + 1 := by omega
   have neLBLA : w5.heap.size + 1 ≠ w5.heap.size := by omega
   generalize ((w5.alloc (.cells #[.int .u8 5, .string (bs []), .int .i64 0, .slice none 0 0] 25)).alloc (.cells #[.int .u8 6, .string (bs []), .int .i64 0, .slice none 0 0] 25)) = w6 at *
   generalize w5.heap.size + 1 = LB at *
   generalize w5.heap.size = LA at *
   have hs6 := hg6.size
   go_loopw [10] (fun iv wr => iv = .int .i64 0 ∧ Hid (wr = w6)) (fun _ _ => 0)
   case atStart => exact ⟨rfl, Lib.hid rfl⟩
   case round =>
    obtain ⟨rfl, hwr⟩ := hrel
    have hwr2 := hwr.out
    subst hwr2
    have HKS := Lib.hid HK6.out
    have HLA : Hid (y2_ (fun _ => True) wr (.mk 5 [] 0 []) (.agg #[.int .u8 5, .string (bs []), .int .i64 0, .slice none 0 0])) := by
     show y2_ _ _ _ _
     unfold y2_
     exact ⟨by omega, by omega, by simp, by simp, _, rfl, .inl ⟨none, 0, rfl, rfl⟩⟩
    have HLB : Hid (y2_ (fun _ => True) wr (.mk 6 [] 0 []) (.agg #[.int .u8 6, .string (bs []), .int .i64 0, .slice none 0 0])) := by
     show y2_ _ _ _ _
     unfold y2_
     exact ⟨by omega, by omega, by simp, by simp, _, rfl, .inl ⟨none, 0, rfl, rfl⟩⟩
    have fa1 := z2_ HLA6.out
    have fb1 := z5_ HLA6.out
    have fl1 := z0_ HLA6.out
    have fa2 := z2_ HLB6.out
    have fb2 := z5_ HLB6.out
    have fl2 := z0_ HLB6.out
    go_wp2
    have hc5 := fun (W : World) (hgw : GL [] wr W) => zah_ (.mk 5 [] 0 []) (.mk 5 [] 0 []) _ _ _ _ W (z7_ hgw _ _ HLA.out) (z7_ hgw _ _ (zdm_ 5 om_ HKS.out))
    have hc6 := fun (W : World) (hgw : GL [] wr W) => zah_ (.mk 6 [] 0 []) (.mk 6 [] 0 []) _ _ _ _ W (z7_ hgw _ _ HLB.out) (z7_ hgw _ _ (zdm_ 6 om_ HKS.out))
    have hw := fun (W : World) (hgw : GL [] wr W) => zak_ W (x4_ HG6.out hgw si_)
    rw [zbd_] at hc5 hc6
    have h1 := fun (W : World) => zah_ (.mk 1 t 0 []) (.mk 1 t 0 []) (fun _ => True) (fun _ => True) _ _ W (zaO_ t htl9 _ W) (zaO_ t htl9 _ W)
    have h2 := fun (W : World) => zah_ (.mk 2 t 0 []) (.mk 2 t 0 []) (fun _ => True) (fun _ => True) _ _ W (zbH_ t htl9 _ W) (zbH_ t htl9 _ W)
    have h3 := fun (W : World) => zah_ (.mk 3 [] n []) (.mk 3 [] n []) (fun _ => True) (fun _ => True) _ _ W (zaG_ n hn0 hn1 _ W) (zaG_ n hn0 hn1 _ W)
    have h4 := fun (W : World) => zah_ (.mk 4 [] n []) (.mk 4 [] n []) (fun _ => True) (fun _ => True) _ _ W (zbI_ n hn0 hn1 _ W) (zbI_ n hn0 hn1 _ W)
    rw [zbd_] at h1 h2 h3 h4
    have HC5 := Lib.hid hc5
    have HC6 := Lib.hid hc6
    have HW := Lib.hid hw
    have H1 := Lib.hid h1
    have H2 := Lib.hid h2
    have H3 := Lib.hid h3
    have H4 := Lib.hid h4
    clear hc5 hc6 hw h1 h2 h3 h4
    have hg99 : GL [] wr wr := z1_ _ _
    go_region_held3 (fun w' => w'.cell? ⟨LA, 0, none⟩ = some (.int .u8 5) ∧ w'.cell? ⟨LA, 1, none⟩ = some (.string (bs [])) ∧ w'.cell? ⟨LA, 2, none⟩ = some (.int .i64 0) ∧ w'.cell? ⟨LA, 3, none⟩ = some (.slice none 0 0) ∧ w'.cell? ⟨LB, 0, none⟩ = some (.int .u8 6) ∧ w'.cell? ⟨LB, 1, none⟩ = some (.string (bs [])) ∧ w'.cell? ⟨LB, 2, none⟩ = some (.int .i64 0) ∧ w'.cell? ⟨LB, 3, none⟩ = some (.slice none 0 0) ∧ GL [] wr w')
     (first
       | (refine ⟨?_, ?_, ?_, ?_, ?_, ?_, ?_, ?_, ?_⟩
          · go_keep
          · go_keep
          · go_keep
          · go_keep
          · go_keep
          · go_keep
          · go_keep
          · go_keep
          · exact zam_ hg99)
       | (go_split_ands
          refine ⟨?_, ?_, ?_, ?_, ?_, ?_, ?_, ?_, ?_⟩
          · exact (hbk.cell (World.block_lt_of_cell? _ _ as_)).trans as_
          · exact (hbk.cell (World.block_lt_of_cell? _ _ as_)).trans as_
          · exact (hbk.cell (World.block_lt_of_cell? _ _ as_)).trans as_
          · exact (hbk.cell (World.block_lt_of_cell? _ _ as_)).trans as_
          · exact (hbk.cell (World.block_lt_of_cell? _ _ as_)).trans as_
          · exact (hbk.cell (World.block_lt_of_cell? _ _ as_)).trans as_
          · exact (hbk.cell (World.block_lt_of_cell? _ _ as_)).trans as_
          · exact (hbk.cell (World.block_lt_of_cell? _ _ as_)).trans as_
          · exact z4_ hbk as_))
     ((first
       | (go_at_call 6; go_split_ands; refine (zbv_ _ _).mono ?_; rintro e wk ⟨rfl, hbk⟩)
       | (go_at_call 29; go_split_ands; refine (zfN_ _ _).mono ?_; rintro e wk ⟨rfl, hbk⟩)
       | (go_at_call 7; go_split_ands; refine (zcn_ _ _).mono ?_; rintro e wk ⟨rfl, hbk⟩)
       | (go_at_call 30; go_split_ands; refine (zfO_ _ _).mono ?_; rintro e wk ⟨rfl, hbk⟩)
       | (go_at_call 4; go_split_ands; refine (zco_ _ _).mono ?_; rintro e wk ⟨rfl, hbk⟩)
       | (go_at_call 31; go_split_ands; refine (zfP_ _ _).mono ?_; rintro e wk ⟨rfl, hbk⟩)
       | (go_at_call 8; go_split_ands; refine (zcp_ _ _).mono ?_; rintro e wk ⟨rfl, hbk⟩)
       | (go_at_call 32; go_split_ands; refine (zfQ_ _ _).mono ?_; rintro e wk ⟨rfl, hbk⟩)
       | (go_at_call 33; go_split_ands; refine (zfR_ _ _ _ _).mono ?_; rintro e wk ⟨rfl, hbk⟩)
       | (go_at_call 34; go_split_ands; refine (zfS_ _ _ _ _).mono ?_; rintro e wk ⟨rfl, hbk⟩)
       | (go_at_call 28; go_split_ands; with_reducible refine (H1.out _).mono ?_; rintro e wk ⟨rfl, hbk⟩)
       | (go_at_call 28; go_split_ands; with_reducible refine (H2.out _).mono ?_; rintro e wk ⟨rfl, hbk⟩)
       | (go_at_call 28; go_split_ands; with_reducible refine (H3.out _).mono ?_; rintro e wk ⟨rfl, hbk⟩)
       | (go_at_call 28; go_split_ands; with_reducible refine (H4.out _).mono ?_; rintro e wk ⟨rfl, hbk⟩)
       | (go_at_call 28; go_split_ands; with_reducible refine (HC5.out _ as_).mono ?_; rintro e wk ⟨rfl, hbk⟩)
       | (go_at_call 28; go_split_ands; with_reducible refine (HC6.out _ as_).mono ?_; rintro e wk ⟨rfl, hbk⟩)
       | (go_at_call 19; go_split_ands; refine (HW.out _ as_).mono ?_; rintro e wk ⟨rfl, hbk⟩)))
    go_wp2
    go_ret
    exact ⟨rfl, x0_ (x1_ (z4_ hbk as_) hg6 si_)⟩
 · skip
   have b1 : decide (300 < z1) = true := by simp; omega
   go_wp2_with fail
   go_ret
   exact ⟨rfl, x0_ hg2⟩
theorem zok_ (t : List UInt8) (htl : t.length ≤ 5000) (n : Int) (hn0 : -9223372036854775808 ≤ n) (hn1 : n ≤ 9223372036854775807) (a : Addr) (c : Nat) (w : World) (hK : y2_ (fun _ => True) w (.mk 0 [] 0 []) (.agg #[.int .u8 0, .string (bs []), .int .i64 0, .slice (some a) 0 c])) (hG : GOk w) :
  Calls Tryz.prog 12 #[.string (bs t), .int .i64 n, .slice (some a) 0 c] w fun e w' => e = .returned (.bool true) ∧ Below w.heap.size w w' := by
 have htl9 : t.length ≤ 9000000000000000000 := by omega
 have b5 : decide (5000 < (t.length : Int)) = false := by simp; omega
 have HG0 := Lib.hid hG
 have HK0 := Lib.hid (q9_ (q := fun b => b < w.heap.size) (fun b hb _ => hb) _ _ hK)
 clear hG hK
 go_enter Tryz.func12, Tryz.ntmps12
 have hg0 : GL [] w w := z1_ _ _
 have hs0 : w.heap.size ≤ w.heap.size := Nat.le_refl _
 obtain ⟨i0, hi0, hi1, hi2, hi3⟩ := info_parts Tryz.infoLock
 go_wp2_with fail
 refine (zcq_ 300 om_ om_ (.mk 0 [] 0 []) _ _ _ HK0.out).mono ?_
 rintro e w2 ⟨hb2, z1, rfl, hz10, hz11⟩
 have HG2 := Lib.hid (y6_ HG0.out hb2)
 have hg2 := z4_ hb2 hg0
 have hs2 := hg2.size
 have HK2 := Lib.hid (z7_ (z4_ hb2 (z1_ _ _)) _ _ HK0.out)
 by_cases h1 : z1 ≤ 300
 · skip
   have b1 : decide (300 < z1) = false := by simp; omega
   go_wp2_with (at_builtin; go_must (refine wpList_append_own _ rfl _ _ 23 rfl w.heap.size 25 i0 (.agg #[.int .u8 0, .string ByteArray.empty, .int .i64 0, .slice none 0 0]) 4 56 Tryz.underlying23 hi0 hi1 hi2 hi3 rfl de_ (.slice none 0 0) 0 [] rfl (World.ownsRow_nil _ _ _ _) a 0 c [] rfl rfl ?c1 ?c2 ?c3 ?c4 ?c5 ?_; (case c1 => (intro j u h; simp at h)); (case c2 => (intro u h; simp at h)); (case c3 => (unfold maxLen; omega)); (case c4 => omega); (case c5 => exact hs2); (intro v3 w3 hown3 hgr3 hv3); (have hv4 := hv3.2 ⟨rfl, rfl⟩); (clear hv3); (subst hv4); (have hg23 : GL [] w2 w3 := zaL_ hgr3 (z1_ _ _) (fun r hr => by have hr2 : (Value.slice none 0 0).ownBlock = some r := hr; cases hr2))))
   have HG3 := Lib.hid (x4_ HG2.out hg23 si_)
   have HK3 := Lib.hid (z7_ hg23 _ _ HK2.out)
   have hg3 : GL [] w w3 := x1_ hg23 hg2 si_
   have hs3 := hg3.size
   clear hown3 hgr3 hg23
   refine (zfq_ _).mono ?_
   rintro e w4 ⟨rfl, hb4⟩
   have HG4 := Lib.hid (y6_ HG3.out hb4)
   have hg4 := z4_ hb4 hg3
   have hs4 := hg4.size
   have HK4 := Lib.hid (z7_ (z4_ hb4 (z1_ _ _)) _ _ HK3.out)
   go_wp2_with fail
   refine (zfr_ _).mono ?_
   rintro e w5 ⟨rfl, hb5⟩
   have HG5 := Lib.hid (y6_ HG4.out hb5)
   have hg5 := z4_ hb5 hg4
   have hs5 := hg5.size
   have HK5 := Lib.hid (z7_ (z4_ hb5 (z1_ _ _)) _ _ HK4.out)
   go_wp2
   have HK6 := Lib.hid (z7_ (z6_ (z6_ (z1_ _ _) (.cells #[.int .u8 5, .string (bs []), .int .i64 0, .slice none 0 0] 25)) (.cells #[.int .u8 6, .string (bs []), .int .i64 0, .slice none 0 0] 25)) _ _ HK5.out)
   have HLA6 := Lib.hid ((z8_ (z3_ w5 (.cells #[.int .u8 5, .string (bs []), .int .i64 0, .slice none 0 0] 25)) (.cells #[.int .u8 6, .string (bs []), .int .i64 0, .slice none 0 0] 25)))
   have hZ_ := z3_ (w5.alloc (.cells #[.int .u8 5, .string (bs []), .int .i64 0, .slice none 0 0] 25)) (.cells #[.int .u8 6, .string (bs []), .int .i64 0, .slice none 0 0] 25)
   rw [show (w5.alloc (.cells #[.int .u8 5, .string (bs []), .int .i64 0, .slice none 0 0] 25)).heap.size = w5.heap.size + 1 by simp] at hZ_
   have HLB6 := Lib.hid (hZ_)
   clear hZ_
   have HG6 := Lib.hid (y5_ (y5_ HG5.out (.cells #[.int .u8 5, .string (bs []), .int .i64 0, .slice none 0 0] 25)) (.cells #[.int .u8 6, .string (bs []), .int .i64 0, .slice none 0 0] 25))
   have hg6 := z6_ (z6_ hg5 (.cells #[.int .u8 5, .string (bs []), .int .i64 0, .slice none 0 0] 25)) (.cells #[.int .u8 6, .string (bs []), .int .i64 0, .slice none 0 0] 25)
   have geLA : w.heap.size ≤ w5.heap.size := by have := hg5.size; omega
   have gnLA : gN ≤ w5.heap.size := by have := HG5.out.size; omega
   have geLB : w.heap.size ≤ w5.heap.size + 1 := by have := hg5.size; omega
   have gnLB : gN ≤ w5.heap.size + 1 := by have := HG5.out.size; omega
   have ltLALB : w5.heap.size < w5.heap.size + 1 := by omega
   have neLALB : w5.heap.size ≠ w5.heap.size + 1 := by omega
   have neLBLA : w5.heap.size + 1 ≠ w5.heap.size := by omega
   generalize ((w5.alloc (.cells #[.int .u8 5, .string (bs []), .int .i64 0, .slice none 0 0] 25)).alloc (.cells #[.int .u8 6, .string (bs []), .int .i64 0, .slice none 0 0] 25)) = w6 at *
   generalize w5.heap.size + 1 = LB at *
   generalize w5.heap.size = LA at *
   have hs6 := hg6.size
   go_loopw [10] (fun iv wr => iv = .int .i64 0 ∧ Hid (wr = w6)) (fun _ _ => 0)
   case atStart => exact ⟨rfl, Lib.hid rfl⟩
   case round =>
    obtain ⟨rfl, hwr⟩ := hrel
    have hwr2 := hwr.out
    subst hwr2
    have HKS := Lib.hid HK6.out
    have HLA : Hid (y2_ (fun _ => True) wr (.mk 5 [] 0 []) (.agg #[.int .u8 5, .string (bs []), .int .i64 0, .slice none 0 0])) := by
     show y2_ _ _ _ _
     unfold y2_
     exact ⟨by omega, by omega, by simp, by simp, _, rfl, .inl ⟨none, 0, rfl, rfl⟩⟩
    have HLB : Hid (y2_ (fun _ => True) wr (.mk 6 [] 0 []) (.agg #[.int .u8 6, .string (bs []), .int .i64 0, .slice none 0 0])) := by
     show y2_ _ _ _ _
     unfold y2_
     exact ⟨by omega, by omega, by simp, by simp, _, rfl, .inl ⟨none, 0, rfl, rfl⟩⟩
    have fa1 := z2_ HLA6.out
    have fb1 := z5_ HLA6.out
    have fl1 := z0_ HLA6.out
    have fa2 := z2_ HLB6.out
    have fb2 := z5_ HLB6.out
    have fl2 := z0_ HLB6.out
    go_wp2
    have hc5 := fun (W : World) (hgw : GL [] wr W) => zah_ (.mk 5 [] 0 []) (.mk 5 [] 0 []) _ _ _ _ W (z7_ hgw _ _ HLA.out) (z7_ hgw _ _ (zdm_ 5 om_ HKS.out))
    have hc6 := fun (W : World) (hgw : GL [] wr W) => zah_ (.mk 6 [] 0 []) (.mk 6 [] 0 []) _ _ _ _ W (z7_ hgw _ _ HLB.out) (z7_ hgw _ _ (zdm_ 6 om_ HKS.out))
    have hw := fun (W : World) (hgw : GL [] wr W) => zak_ W (x4_ HG6.out hgw si_)
    rw [zbd_] at hc5 hc6
    have h1 := fun (W : World) => zah_ (.mk 1 t 0 []) (.mk 1 t 0 []) (fun _ => True) (fun _ => True) _ _ W (zaO_ t htl9 _ W) (zaO_ t htl9 _ W)
    have h2 := fun (W : World) => zah_ (.mk 2 t 0 []) (.mk 2 t 0 []) (fun _ => True) (fun _ => True) _ _ W (zbH_ t htl9 _ W) (zbH_ t htl9 _ W)
    have h3 := fun (W : World) => zah_ (.mk 3 [] n []) (.mk 3 [] n []) (fun _ => True) (fun _ => True) _ _ W (zaG_ n hn0 hn1 _ W) (zaG_ n hn0 hn1 _ W)
    have h4 := fun (W : World) => zah_ (.mk 4 [] n []) (.mk 4 [] n []) (fun _ => True) (fun _ => True) _ _ W (zbI_ n hn0 hn1 _ W) (zbI_ n hn0 hn1 _ W)
    rw [zbd_] at h1 h2 h3 h4
    have HC5 := Lib.hid hc5
    have HC6 := Lib.hid hc6
    have HW := Lib.hid hw
    have H1 := Lib.hid h1
    have H2 := Lib.hid h2
    have H3 := Lib.hid h3
    have H4 := Lib.hid h4
    clear hc5 hc6 hw h1 h2 h3 h4
    have hg99 : GL [] wr wr := z1_ _ _
    go_region_held3 (fun w' => w'.cell? ⟨LA, 0, none⟩ = some (.int .u8 5) ∧ w'.cell? ⟨LA, 1, none⟩ = some (.string (bs [])) ∧ w'.cell? ⟨LA, 2, none⟩ = some (.int .i64 0) ∧ w'.cell? ⟨LA, 3, none⟩ = some (.slice none 0 0) ∧ w'.cell? ⟨LB, 0, none⟩ = some (.int .u8 6) ∧ w'.cell? ⟨LB, 1, none⟩ = some (.string (bs [])) ∧ w'.cell? ⟨LB, 2, none⟩ = some (.int .i64 0) ∧ w'.cell? ⟨LB, 3, none⟩ = some (.slice none 0 0) ∧ GL [] wr w')
     (first
       | (refine ⟨?_, ?_, ?_, ?_, ?_, ?_, ?_, ?_, ?_⟩
          · go_keep
          · go_keep
          · go_keep
          · go_keep
          · go_keep
          · go_keep
          · go_keep
          · go_keep
          · exact zam_ hg99)
       | (go_split_ands
          refine ⟨?_, ?_, ?_, ?_, ?_, ?_, ?_, ?_, ?_⟩
          · exact (hbk.cell (World.block_lt_of_cell? _ _ as_)).trans as_
          · exact (hbk.cell (World.block_lt_of_cell? _ _ as_)).trans as_
          · exact (hbk.cell (World.block_lt_of_cell? _ _ as_)).trans as_
          · exact (hbk.cell (World.block_lt_of_cell? _ _ as_)).trans as_
          · exact (hbk.cell (World.block_lt_of_cell? _ _ as_)).trans as_
          · exact (hbk.cell (World.block_lt_of_cell? _ _ as_)).trans as_
          · exact (hbk.cell (World.block_lt_of_cell? _ _ as_)).trans as_
          · exact (hbk.cell (World.block_lt_of_cell? _ _ as_)).trans as_
          · exact z4_ hbk as_))
     ((first
       | (go_at_call 6; go_split_ands; refine (zbv_ _ _).mono ?_; rintro e wk ⟨rfl, hbk⟩)
       | (go_at_call 29; go_split_ands; refine (zfN_ _ _).mono ?_; rintro e wk ⟨rfl, hbk⟩)
       | (go_at_call 7; go_split_ands; refine (zcn_ _ _).mono ?_; rintro e wk ⟨rfl, hbk⟩)
       | (go_at_call 30; go_split_ands; refine (zfO_ _ _).mono ?_; rintro e wk ⟨rfl, hbk⟩)
       | (go_at_call 4; go_split_ands; refine (zco_ _ _).mono ?_; rintro e wk ⟨rfl, hbk⟩)
       | (go_at_call 31; go_split_ands; refine (zfP_ _ _).mono ?_; rintro e wk ⟨rfl, hbk⟩)
       | (go_at_call 8; go_split_ands; refine (zcp_ _ _).mono ?_; rintro e wk ⟨rfl, hbk⟩)
       | (go_at_call 32; go_split_ands; refine (zfQ_ _ _).mono ?_; rintro e wk ⟨rfl, hbk⟩)
       | (go_at_call 33; go_split_ands; refine (zfR_ _ _ _ _).mono ?_; rintro e wk ⟨rfl, hbk⟩)
       | (go_at_call 34; go_split_ands; refine (zfS_ _ _ _ _).mono ?_; rintro e wk ⟨rfl, hbk⟩)
       | (go_at_call 28; go_split_ands; with_reducible refine (H1.out _).mono ?_; rintro e wk ⟨rfl, hbk⟩)
       | (go_at_call 28; go_split_ands; with_reducible refine (H2.out _).mono ?_; rintro e wk ⟨rfl, hbk⟩)
       | (go_at_call 28; go_split_ands; with_reducible refine (H3.out _).mono ?_; rintro e wk ⟨rfl, hbk⟩)
       | (go_at_call 28; go_split_ands; with_reducible refine (H4.out _).mono ?_; rintro e wk ⟨rfl, hbk⟩)
       | (go_at_call 28; go_split_ands; with_reducible refine (HC5.out _ as_).mono ?_; rintro e wk ⟨rfl, hbk⟩)
       | (go_at_call 28; go_split_ands; with_reducible refine (HC6.out _ as_).mono ?_; rintro e wk ⟨rfl, hbk⟩)
       | (go_at_call 19; go_split_ands; refine (HW.out _ as_).mono ?_; rintro e wk ⟨rfl, hbk⟩)))
    go_wp2
    go_ret
    exact ⟨rfl, x0_ (x1_ (z4_ hbk as_) hg6 si_)⟩
 · skip
   have b1 : decide (300 < z1) = true := by simp; omega
   go_wp2_with fail
   go_ret
   exact ⟨rfl, x0_ hg2⟩
theorem zol_ {w : World} {base n m : Nat} {xs : List Value} {O oc : Nat} (h : w.ownsRow base 25 4 (.slice (some ⟨O, 0, none⟩) m oc) n xs) : zct_ w O (m * 4) := by
 rcases h.2 with ⟨h, _⟩ | ⟨g, cap, cur, h, hb, hg, hc, hc2, hs, ht⟩
 · cases h
 · injection h with h1 h2 h3
   injection h1 with h1
   injection h1 with h1
   subst h1 h2 h3
   exact ⟨cur, hg, by omega⟩
theorem zfT_ {w w' : World} {O N : Nat} {rs : List Nat} (h : zct_ w O N) (hg : GL rs w w') (hr : O ∉ rs) : zct_ w' O N := by
 obtain ⟨cs, h1, h2⟩ := h
 exact ⟨cs, y7_ h1 hg hr, h2⟩
theorem zom_ (t : List UInt8) (htl : t.length ≤ 5000) (n : Int) (hn0 : -9223372036854775808 ≤ n) (hn1 : n ≤ 9223372036854775807) (kids : List LT) (hk0 : 0 < kids.length) (hk40 : kids.length ≤ 40) (b o : Nat) (c : Nat) (w : World) (hK : y2_ (fun _ => True) w (.mk 0 [] 0 kids) (.agg #[.int .u8 0, .string (bs []), .int .i64 0, .slice (some ⟨b, o, none⟩) kids.length c])) (hG : GOk w) :
  Calls Tryz.prog 12 #[.string (bs t), .int .i64 n, .slice (some ⟨b, o, none⟩) kids.length c] w fun e w' => e = .returned (.bool true) ∧ Below w.heap.size w w' := by
 have htl9 : t.length ≤ 9000000000000000000 := by omega
 have b5 : decide (5000 < (t.length : Int)) = false := by simp; omega
 have HG0 := Lib.hid hG
 have HK0 := Lib.hid (q9_ (q := fun b => b < w.heap.size) (fun b hb _ => hb) _ _ hK)
 have b40 : decide (40 < (kids.length : Int)) = false := by simp; omega
 obtain ⟨hbw, hrow⟩ := zoh_ hk0 hK
 have HROW := Lib.hid (zbs_ (q := fun b => b < w.heap.size) (fun b hb _ => hb) _ _ _ hrow)
 clear hG hK hrow
 go_enter Tryz.func12, Tryz.ntmps12
 have hg0 : GL [] w w := z1_ _ _
 have hs0 : w.heap.size ≤ w.heap.size := Nat.le_refl _
 obtain ⟨i0, hi0, hi1, hi2, hi3⟩ := info_parts Tryz.infoLock
 go_wp2_with fail
 refine (zcq_ 300 om_ om_ (.mk 0 [] 0 kids) _ _ _ HK0.out).mono ?_
 rintro e w2 ⟨hb2, z1, rfl, hz10, hz11⟩
 have HG2 := Lib.hid (y6_ HG0.out hb2)
 have hg2 := z4_ hb2 hg0
 have hs2 := hg2.size
 have HK2 := Lib.hid (z7_ (z4_ hb2 (z1_ _ _)) _ _ HK0.out)
 by_cases h1 : z1 ≤ 300
 · skip
   have b1 : decide (300 < z1) = false := by simp; omega
   obtain ⟨cs, hv, hcs⟩ := zd2_ kids o HROW.out
   have hcl := zd0_ kids cs hv
   have hone := zd5_ kids cs hv
   have HV := Lib.hid hv
   have HCS := Lib.hid hcs
   have HONE := Lib.hid hone
   have hg02 := hg2
   clear hv hcs hone
   go_wp2_with (at_builtin; go_must (refine wpList_append_own _ rfl _ _ 23 rfl w2.heap.size 25 i0 (.agg #[.int .u8 0, .string ByteArray.empty, .int .i64 0, .slice none 0 0]) 4 56 Tryz.underlying23 hi0 hi1 hi2 hi3 rfl de_ (.slice none 0 0) 0 [] rfl (World.ownsRow_nil _ _ _ _) ⟨b, o, none⟩ kids.length c cs rfl hcl ?c1 HONE.out ?c3 ?c4 ?c5 ?_; (case c1 => (intro j u hj; rw [Addr.add_lit]; have h7 := HCS.out j u hj; simp only [World.cell?, hg02.block b hbw si_] at h7 ⊢; exact h7)); (case c3 => (unfold maxLen; omega)); (case c4 => omega); (case c5 => exact Nat.le_refl _); (intro v3 w3 hown3 hgr3 _); (have hg23 : GL [] w2 w3 := zaL_ hgr3 (z1_ _ _) (fun r hr => by have hr2 : (Value.slice none 0 0).ownBlock = some r := hr; cases hr2)); (obtain ⟨O, oc, hv3, hO0, hO1, hrw3⟩ := zc1_ hown3 om_ om_ (zc0_ (q := fun b => b < w.heap.size) (ze7_ (x0_ (x1_ hg23 hg2 si_))) (fun _ _ h => h) kids cs HV.out)); (rw [Nat.zero_add] at hv3); (subst hv3)))
   have HRW3 := Lib.hid hrw3
   have HO3 : Hid (zct_ w3 O (kids.length * 4)) := zol_ hown3
   have HG3 := Lib.hid (x4_ HG2.out hg23 si_)
   have HK3 := Lib.hid (z7_ hg23 _ _ HK2.out)
   have hg3 : GL [] w w3 := x1_ hg23 hg2 si_
   have hs3 := hg3.size
   clear hrw3 hown3 hgr3
   refine (zb7_ kids O 0 _ (fun b => b < w.heap.size) om_ om_ _ (by have := hg3.size; omega) HRW3.out).mono ?_
   rintro e w4 ⟨hb4, v4, rfl, hl4⟩
   obtain ⟨ad4, cp4, rfl, _⟩ := y3_ hl4
   have HL4 := Lib.hid (q9_ (q := fun b => b ≠ O) (fun b _ h => by omega) _ _ hl4)
   have hg34 : GL [] w3 w4 := z4_ hb4 (z1_ _ _)
   have HG4 := Lib.hid (y6_ HG3.out hb4)
   have HK4 := Lib.hid (z7_ hg34 _ _ HK3.out)
   have HO4 := Lib.hid (zfT_ HO3.out hg34 si_)
   have hg4 := z4_ hb4 hg3
   have hs4 : w3.heap.size ≤ w4.heap.size := hb4.size
   clear hl4
   have HRW4 := Lib.hid (zbL_ hg34 kids O 0 om_ HRW3.out)
   go_wp2_with fail
   refine (zde_ kids O 0 _ (fun b => b < w.heap.size) om_ om_ _ (by have := hg3.size; omega) HRW4.out).mono ?_
   rintro e w5 ⟨hb5, v5, rfl, hl5⟩
   obtain ⟨ad5, cp5, rfl, _⟩ := y3_ hl5
   have HL5 := Lib.hid (q9_ (q := fun b => b ≠ O) (fun b _ h => by omega) _ _ hl5)
   have hg45 : GL [] w4 w5 := z4_ hb5 (z1_ _ _)
   have HG5 := Lib.hid (y6_ HG4.out hb5)
   have HK5 := Lib.hid (z7_ hg45 _ _ HK4.out)
   have HO5 := Lib.hid (zfT_ HO4.out hg45 si_)
   have hg5 := z4_ hb5 hg4
   have hs5 : w4.heap.size ≤ w5.heap.size := hb5.size
   clear hl5
   have HLL5 := Lib.hid (z7_ hg45 _ _ HL4.out)
   go_wp2
   have hgA : GL [] w5 ((w5.alloc (.cells #[.int .u8 5, .string (bs []), .int .i64 0, .slice ad4 kids.length cp4] 25)).alloc (.cells #[.int .u8 6, .string (bs []), .int .i64 0, .slice ad5 kids.length cp5] 25)) := z6_ (z6_ (z1_ _ _) _) _
   have HL6 := Lib.hid (z7_ hgA _ _ HLL5.out)
   have HM6 := Lib.hid (z7_ hgA _ _ HL5.out)
   have HO6 := Lib.hid (zfT_ HO5.out hgA si_)
   have hO5 : O < w5.heap.size := by omega
   clear hgA
   have HK6 := Lib.hid (z7_ (z6_ (z6_ (z1_ _ _) (.cells #[.int .u8 5, .string (bs []), .int .i64 0, .slice ad4 kids.length cp4] 25)) (.cells #[.int .u8 6, .string (bs []), .int .i64 0, .slice ad5 kids.length cp5] 25)) _ _ HK5.out)
   have HLA6 := Lib.hid ((z8_ (z3_ w5 (.cells #[.int .u8 5, .string (bs []), .int .i64 0, .slice ad4 kids.length cp4] 25)) (.cells #[.int .u8 6, .string (bs []), .int .i64 0, .slice ad5 kids.length cp5] 25)))
   have hZ_ := z3_ (w5.alloc (.cells #[.int .u8 5, .string (bs []), .int .i64 0, .slice ad4 kids.length cp4] 25)) (.cells #[.int .u8 6, .string (bs []), .int .i64 0, .slice ad5 kids.length cp5] 25)
   rw [show (w5.alloc (.cells #[.int .u8 5, .string (bs []), .int .i64 0, .slice ad4 kids.length cp4] 25)).heap.size = w5.heap.size + 1 by simp] at hZ_
   have HLB6 := Lib.hid (hZ_)
   clear hZ_
   have HG6 := Lib.hid (y5_ (y5_ HG5.out (.cells #[.int .u8 5, .string (bs []), .int .i64 0, .slice ad4 kids.length cp4] 25)) (.cells #[.int .u8 6, .string (bs []), .int .i64 0, .slice ad5 kids.length cp5] 25))
   have hg6 := z6_ (z6_ hg5 (.cells #[.int .u8 5, .string (bs []), .int .i64 0, .slice ad4 kids.length cp4] 25)) (.cells #[.int .u8 6, .string (bs []), .int .i64 0, .slice ad5 kids.length cp5] 25)
   have geLA : w.heap.size ≤ w5.heap.size := by have := hg5.size; omega
   have gnLA : gN ≤ w5.heap.size := by have := HG5.out.size; omega
   have geLB : w.heap.size ≤ w5.heap.size + 1 := by have := hg5.size; omega
   have gnLB : gN ≤ w5.heap.size + 1 := by have := HG5.out.size; omega
   have ltLALB : w5.heap.size < w5.heap.size + 1 := by omega
   have neLALB : w5.heap.size ≠ w5.heap.size + 1 := by omega
   have neLBLA : w5.heap.size + 1 ≠ w5.heap.size := by omega
   generalize ((w5.alloc (.cells #[.int .u8 5, .string (bs []), .int .i64 0, .slice ad4 kids.length cp4] 25)).alloc (.cells #[.int .u8 6, .string (bs []), .int .i64 0, .slice ad5 kids.length cp5] 25)) = w6 at *
   generalize w5.heap.size + 1 = LB at *
   generalize w5.heap.size = LA at *
   have hs6 := hg6.size
   have hOA : LA ≠ O := by omega
   have hOB : LB ≠ O := by omega
   have hOn : gN ≤ O := by have := HG2.out.size; omega
   clear hs3 hs4 hs5
   go_loopw [10] (fun iv wr => ∃ j : Nat, j ≤ kids.length ∧ iv = .int .i64 j ∧ Hid (GL [O] w6 wr) ∧ Hid (zct_ wr O (kids.length * 4))) (fun iv _ => kids.length - (intOf iv).toNat)
   case atStart => exact ⟨0, by omega, rfl, Lib.hid (z1_ _ _), HO6⟩
   case round =>
    obtain ⟨j, hj, rfl, hgr, hor⟩ := hrel
    by_cases hlt : j < kids.length
    · have i3 : (j : Int) < kids.length := by omega
      obtain ⟨u0, c0⟩ := zev_ hor.out (j * 4) om_
      obtain ⟨u1, c1⟩ := zev_ hor.out (j * 4 + 1) om_
      obtain ⟨u2, c2⟩ := zev_ hor.out (j * 4 + 2) om_
      obtain ⟨u3, c3⟩ := zev_ hor.out (j * 4 + 3) om_
      have f0 := zoi_ hor.out
      go_wp2
      go_roundw
      case rel => exact ⟨j + 1, by omega, by go_num, Lib.hid (x6_ (x6_ (x6_ (x6_ hgr.out (.inl si_) _) (.inl si_) _) (.inl si_) _) (.inl si_) _), Lib.hid (zew_ (zew_ (zew_ (zew_ hor.out _ _) _ _) _ _) _ _)⟩
      case measure => simp [intOf]; omega
    · obtain rfl : j = kids.length := by omega
      have i4 : decide ((kids.length : Int) < kids.length) = false := by simp
      have hst : Stay (fun b => b ≠ O) w6 wr := ⟨hgr.out.size, fun b hb hp => hgr.out.block b hb (by simpa using hp)⟩
      have HLA := Lib.hid (za5_ hst (fun _ _ h => h) _ _ HL6.out)
      have HLB := Lib.hid (za5_ hst (fun _ _ h => h) _ _ HM6.out)
      have HKS := Lib.hid (za5_ hst (fun _ _ h => h) _ _ (q9_ (q := fun b => b ≠ O) (fun b _ h => by omega) _ _ HK6.out))
      have HGr := Lib.hid (x4_ HG6.out hgr.out so_)
      have HLAr := Lib.hid (y7_ HLA6.out hgr.out (by simpa using hOA))
      have HLBr := Lib.hid (y7_ HLB6.out hgr.out (by simpa using hOB))
      have hgr2 : GL [] w wr := x1_ hgr.out hg6 so_
      have fa1 := z2_ HLAr.out
      have fb1 := z5_ HLAr.out
      have fl1 := z0_ HLAr.out
      have fa2 := z2_ HLBr.out
      have fb2 := z5_ HLBr.out
      have fl2 := z0_ HLBr.out
      have hgr := hgr2
      go_wp2
      have hc5 := fun (W : World) (hgw : GL [] wr W) => zah_ (.mk 5 [] 0 kids) (.mk 5 [] 0 kids) _ _ _ _ W (z7_ hgw _ _ HLA.out) (z7_ hgw _ _ (zdm_ 5 om_ HKS.out))
      have hc6 := fun (W : World) (hgw : GL [] wr W) => zah_ (.mk 6 [] 0 kids) (.mk 6 [] 0 kids) _ _ _ _ W (z7_ hgw _ _ HLB.out) (z7_ hgw _ _ (zdm_ 6 om_ HKS.out))
      have hw := fun (W : World) (hgw : GL [] wr W) => zak_ W (x4_ HGr.out hgw si_)
      rw [zbd_] at hc5 hc6
      have h1 := fun (W : World) => zah_ (.mk 1 t 0 []) (.mk 1 t 0 []) (fun _ => True) (fun _ => True) _ _ W (zaO_ t htl9 _ W) (zaO_ t htl9 _ W)
      have h2 := fun (W : World) => zah_ (.mk 2 t 0 []) (.mk 2 t 0 []) (fun _ => True) (fun _ => True) _ _ W (zbH_ t htl9 _ W) (zbH_ t htl9 _ W)
      have h3 := fun (W : World) => zah_ (.mk 3 [] n []) (.mk 3 [] n []) (fun _ => True) (fun _ => True) _ _ W (zaG_ n hn0 hn1 _ W) (zaG_ n hn0 hn1 _ W)
      have h4 := fun (W : World) => zah_ (.mk 4 [] n []) (.mk 4 [] n []) (fun _ => True) (fun _ => True) _ _ W (zbI_ n hn0 hn1 _ W) (zbI_ n hn0 hn1 _ W)
      rw [zbd_] at h1 h2 h3 h4
      have HC5 := Lib.hid hc5
      have HC6 := Lib.hid hc6
      have HW := Lib.hid hw
      have H1 := Lib.hid h1
      have H2 := Lib.hid h2
      have H3 := Lib.hid h3
      have H4 := Lib.hid h4
      clear hc5 hc6 hw h1 h2 h3 h4
      have hg99 : GL [] wr wr := z1_ _ _
      go_region_held3 (fun w' => w'.cell? ⟨LA, 0, none⟩ = some (.int .u8 5) ∧ w'.cell? ⟨LA, 1, none⟩ = some (.string (bs [])) ∧ w'.cell? ⟨LA, 2, none⟩ = some (.int .i64 0) ∧ w'.cell? ⟨LA, 3, none⟩ = some (.slice ad4 kids.length cp4) ∧ w'.cell? ⟨LB, 0, none⟩ = some (.int .u8 6) ∧ w'.cell? ⟨LB, 1, none⟩ = some (.string (bs [])) ∧ w'.cell? ⟨LB, 2, none⟩ = some (.int .i64 0) ∧ w'.cell? ⟨LB, 3, none⟩ = some (.slice ad5 kids.length cp5) ∧ GL [] wr w')
       (first
         | (refine ⟨?_, ?_, ?_, ?_, ?_, ?_, ?_, ?_, ?_⟩
            · go_keep
            · go_keep
            · go_keep
            · go_keep
            · go_keep
            · go_keep
            · go_keep
            · go_keep
            · exact zam_ hg99)
         | (go_split_ands
            refine ⟨?_, ?_, ?_, ?_, ?_, ?_, ?_, ?_, ?_⟩
            · exact (hbk.cell (World.block_lt_of_cell? _ _ as_)).trans as_
            · exact (hbk.cell (World.block_lt_of_cell? _ _ as_)).trans as_
            · exact (hbk.cell (World.block_lt_of_cell? _ _ as_)).trans as_
            · exact (hbk.cell (World.block_lt_of_cell? _ _ as_)).trans as_
            · exact (hbk.cell (World.block_lt_of_cell? _ _ as_)).trans as_
            · exact (hbk.cell (World.block_lt_of_cell? _ _ as_)).trans as_
            · exact (hbk.cell (World.block_lt_of_cell? _ _ as_)).trans as_
            · exact (hbk.cell (World.block_lt_of_cell? _ _ as_)).trans as_
            · exact z4_ hbk as_))
       ((first
         | (go_at_call 6; go_split_ands; refine (zbv_ _ _).mono ?_; rintro e wk ⟨rfl, hbk⟩)
         | (go_at_call 29; go_split_ands; refine (zfN_ _ _).mono ?_; rintro e wk ⟨rfl, hbk⟩)
         | (go_at_call 7; go_split_ands; refine (zcn_ _ _).mono ?_; rintro e wk ⟨rfl, hbk⟩)
         | (go_at_call 30; go_split_ands; refine (zfO_ _ _).mono ?_; rintro e wk ⟨rfl, hbk⟩)
         | (go_at_call 4; go_split_ands; refine (zco_ _ _).mono ?_; rintro e wk ⟨rfl, hbk⟩)
         | (go_at_call 31; go_split_ands; refine (zfP_ _ _).mono ?_; rintro e wk ⟨rfl, hbk⟩)
         | (go_at_call 8; go_split_ands; refine (zcp_ _ _).mono ?_; rintro e wk ⟨rfl, hbk⟩)
         | (go_at_call 32; go_split_ands; refine (zfQ_ _ _).mono ?_; rintro e wk ⟨rfl, hbk⟩)
         | (go_at_call 33; go_split_ands; refine (zfR_ _ _ _ _).mono ?_; rintro e wk ⟨rfl, hbk⟩)
         | (go_at_call 34; go_split_ands; refine (zfS_ _ _ _ _).mono ?_; rintro e wk ⟨rfl, hbk⟩)
         | (go_at_call 28; go_split_ands; with_reducible refine (H1.out _).mono ?_; rintro e wk ⟨rfl, hbk⟩)
         | (go_at_call 28; go_split_ands; with_reducible refine (H2.out _).mono ?_; rintro e wk ⟨rfl, hbk⟩)
         | (go_at_call 28; go_split_ands; with_reducible refine (H3.out _).mono ?_; rintro e wk ⟨rfl, hbk⟩)
         | (go_at_call 28; go_split_ands; with_reducible refine (H4.out _).mono ?_; rintro e wk ⟨rfl, hbk⟩)
         | (go_at_call 28; go_split_ands; with_reducible refine (HC5.out _ as_).mono ?_; rintro e wk ⟨rfl, hbk⟩)
         | (go_at_call 28; go_split_ands; with_reducible refine (HC6.out _ as_).mono ?_; rintro e wk ⟨rfl, hbk⟩)
         | (go_at_call 19; go_split_ands; refine (HW.out _ as_).mono ?_; rintro e wk ⟨rfl, hbk⟩)))
      go_wp2
      go_ret
      exact ⟨rfl, x0_ (x1_ (z4_ hbk as_) hgr si_)⟩
 · skip
   have b1 : decide (300 < z1) = true := by simp; omega
   go_wp2_with fail
   go_ret
   exact ⟨rfl, x0_ hg2⟩
theorem zon_ (t : List UInt8) (n : Int) (m : Nat) (h : 40 < m ∨ 5000 < t.length) (ad : Option Addr) (c : Nat) (w : World) :
  Calls Tryz.prog 12 #[.string (bs t), .int .i64 n, .slice ad m c] w fun e w' => e = .returned (.bool true) ∧ Below w.heap.size w w' := by
 by_cases h1 : 40 < m
 · have b1 : decide (40 < (m : Int)) = true := by simp; omega
   go_enter Tryz.func12, Tryz.ntmps12
   go_wp2
   go_ret
   exact ⟨rfl, Below.refl _ _⟩
 · have b1 : decide (40 < (m : Int)) = false := by simp; omega
   have b2 : decide (5000 < (t.length : Int)) = true := by simp; omega
   go_enter Tryz.func12, Tryz.ntmps12
   go_wp2
   go_ret
   exact ⟨rfl, Below.refl _ _⟩
theorem zoo_ (t : List UInt8) (n : Int) (hn : -9223372036854775808 ≤ n ∧ n ≤ 9223372036854775807) (kids : List LT) (ad : Option Addr) (c : Nat) (w : World) (hK : y2_ (fun _ => True) w (.mk 0 [] 0 kids) (.agg #[.int .u8 0, .string (bs []), .int .i64 0, .slice ad kids.length c])) (hG : GOk w) :
  Calls Tryz.prog 12 #[.string (bs t), .int .i64 n, .slice ad kids.length c] w fun e w' => e = .returned (.bool true) ∧ Below w.heap.size w w' := by
 by_cases h : 40 < kids.length ∨ 5000 < t.length
 · exact zon_ t n kids.length h ad c w
 · by_cases h0 : kids.length = 0
   · obtain rfl := List.eq_nil_of_length_eq_zero h0
     cases ad with
     | none => exact zoj_ t om_ n hn.1 hn.2 c w hK hG
     | some a => exact zok_ t om_ n hn.1 hn.2 a c w hK hG
   · obtain ⟨b, o, rfl⟩ := zog_ om_ hK
     exact zom_ t om_ n hn.1 hn.2 kids om_ om_ b o c w hK hG
end Go.Proofs.YtiplnofaejpeoaaGreatDoor
