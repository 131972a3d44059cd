/- The program's locks: Write; Keys. -/
import Derived.Test.YtiplnofaejpeoaaGreatDoorLockU
import Derived.Test.YtiplnofaejpeoaaGreatDoorLockG
import Derived.Lib.FrozenHead2
set_option maxRecDepth 100000
set_option maxHeartbeats 8000000
set_option linter.unusedSimpArgs false
set_option linter.unusedVariables false
namespace Go.Proofs.YtiplnofaejpeoaaGreatDoor
open Go.RowKit
theorem zhg_ (sg pr : List UInt8 → Bool) (a b : Int) : ∀ l : List LT, allL sg pr a b l = !(l.any fun x => !(j9_ sg pr a b x))
 | [] => by rw [allL]; rfl
 | x :: r => by rw [allL, List.any_cons, zhg_ sg pr a b r]; cases j9_ sg pr a b x <;> simp
theorem zfc_ (sg pr : List UInt8 → Bool) (a b : Int) : ∀ l : List LT, anyL sg pr a b l = l.any (j9_ sg pr a b)
 | [] => by rw [anyL]; rfl
 | x :: r => by rw [anyL, List.any_cons, zfc_ sg pr a b r]
theorem lkO2 (s t msg : List UInt8) (hs : s.length ≤ 9000000000000000000) (a b : Nat) (c0 c2 c3 : Value) (w : World) (H5 : w.heap[a]? = some (.cells #[c0, .string (bs t), c2, c3] 25 (0, 0))) (H7 : w.heap[b]? = some (.cells #[.string (bs msg)] 22 (0, 0))) (hG : GOk w) :
  Calls Tryz.prog 71 #[.string (bs s), .pointer (some ⟨a, 0, none⟩), .pointer (some ⟨b, 0, none⟩)] w fun e w' => e = .returned (.bool (k3_ t msg s)) ∧ Below w.heap.size w w' := by
 have f0 := z2_ H5
 have f1 := z5_ H5
 have f2 := z2_ H7
 have f3 := z5_ H7
 clear H5 H7
 go_enter Tryz.func71, Tryz.ntmps71
 go_wp2_with fail
 refine (zjx_ t msg s hs _ hG).mono ?_
 rintro e w1 ⟨rfl, hb1⟩
 go_wp2_with fail
 go_ret
 exact ⟨rfl, hb1⟩
theorem lkO3 (s t : List UInt8) (hs : s.length ≤ 9000000000000000000) (a : Nat) (c0 c2 c3 : Value) (w : World) (H5 : w.heap[a]? = some (.cells #[c0, .string (bs t), c2, c3] 25 (0, 0))) (hG : GOk w) :
  Calls Tryz.prog 73 #[.string (bs s), .pointer (some ⟨a, 0, none⟩)] w fun e w' => e = .returned (.bool ((j8_ 72 s).2 == 0 && (j8_ 72 s).1 == t)) ∧ Below w.heap.size w w' := by
 have HB := Lib.hid H5
 clear H5
 have hc := zjl_ s hs w hG
 generalize j8_ 72 s = z at *
 obtain ⟨h, n⟩ := z
 by_cases hn : n = 0
 · subst hn
   go_enter Tryz.func73, Tryz.ntmps73
   go_wp2_with fail
   refine hc.mono ?_
   rintro e w1 ⟨rfl, hb1⟩
   have hq := z9_ HB.out hb1 (z0_ HB.out)
   have f0 := z2_ hq
   have f1 := z5_ hq
   clear hq
   go_wp2_with fail
   go_ret
   exact ⟨by first | rfl | (congr 3; rw [Bool.eq_iff_iff]; simp) | (simp; done), hb1⟩
 · have b1 : (n == 0) = false := by simpa using hn
   clear hn
   go_enter Tryz.func73, Tryz.ntmps73
   go_wp2_with fail
   refine hc.mono ?_
   rintro e w1 ⟨rfl, hb1⟩
   go_wp2_with fail
   go_ret
   exact ⟨by first | (simp [b1]; done) | (rw [b1]; rfl), hb1⟩
theorem zcC_ (a : Addr) (g : Nat) (cap : Array Value) (m : Mode) (w : World) : (store a (.func (.func g) #[] cap) m).run Tryz.prog w = stored Tryz.prog w a (.func (.func g) #[] cap) m := run_store Tryz.prog w a (.func (.func g) #[] cap) m rfl
def zd9_ (N : Nat) : Prop := ∀ (x : LT) (q : Nat → Prop) (v sv pv : Value) (sigs pres : List (List UInt8)) (msg : List UInt8) (after age : Int) (w : World), x3_ x ≤ N → y2_ q w x v → x5_ sv sigs w → x5_ pv pres w →
 sigs.length ≤ 9000000000000000000 → pres.length ≤ 9000000000000000000 → (∀ s ∈ sigs, s.length ≤ 9000000000000000000) → (∀ s ∈ pres, s.length ≤ 9000000000000000000) →
 -9223372036854775808 ≤ after ∧ after ≤ 9223372036854775807 → -9223372036854775808 ≤ age ∧ age ≤ 9223372036854775807 → GOk w →
 Calls Tryz.prog 53 #[v, .agg #[sv, pv], .string (bs msg), .int .i64 after, .int .i64 age] w fun e w' => e = .returned (.bool (j9_ (sgP sigs msg) (prP pres) after age x)) ∧ Below w.heap.size w w'
theorem zk6_ (n : Int) (t : List UInt8) (kids : List LT) (ad : Option Addr) (c : Nat) (sa pa : Option Addr) (sc pc : Nat) (sigs pres : List (List UInt8)) (msg : List UInt8) (after age : Int) (w : World) (q : Nat → Prop)
  (hsv : x5_ (.slice sa sigs.length sc) sigs w) (hpv : x5_ (.slice pa pres.length pc) pres w) (hsn : sigs.length ≤ 9000000000000000000) (hpn : pres.length ≤ 9000000000000000000) (hst : ∀ s ∈ sigs, s.length ≤ 9000000000000000000) (hpt : ∀ s ∈ pres, s.length ≤ 9000000000000000000)
  (ha : -9223372036854775808 ≤ after ∧ after ≤ 9223372036854775807) (hg : -9223372036854775808 ≤ age ∧ age ≤ 9223372036854775807) (hn : -9223372036854775808 ≤ n ∧ n ≤ 9223372036854775807) (hkn : kids.length ≤ 9000000000000000000) (hG : GOk w)  :
  Calls Tryz.prog 53 #[.agg #[.int .u8 1, .string (bs t), .int .i64 n, .slice ad kids.length c], .agg #[.slice sa sigs.length sc, .slice pa pres.length pc], .string (bs msg), .int .i64 after, .int .i64 age] w fun e w' =>
   e = .returned (.bool (sgP sigs msg t)) ∧ Below w.heap.size w w' := by
 have hsf := zcC_
 have HG0 := Lib.hid hG
 have HSV := Lib.hid hsv
 have HPV := Lib.hid hpv
 have HST := Lib.hid hst
 have HPT := Lib.hid hpt
 clear hG hsv hpv hst hpt
 go_enter Tryz.func53, Tryz.ntmps53
 have hg0 : GL [] w w := z1_ _ _
 have hs0 : w.heap.size ≤ w.heap.size := Nat.le_refl _
 go_wp2_with fail
 have HLK1 := Lib.hid ((z8_ (z8_ (z8_ (z8_ (z8_ (z3_ w (.cells #[.int .u8 1, .string (bs t), .int .i64 n, .slice ad kids.length c] 25)) (.cells #[.slice sa sigs.length sc, .slice pa pres.length pc] 31)) (.cells #[.string (bs msg)] 22)) (.cells #[.int .i64 after] 3)) (.cells #[.int .i64 age] 3)) (.cells #[.func (.func 69) #[] #[.pointer (some ⟨w.heap.size + 1, 0, none⟩), .pointer (some ⟨w.heap.size + 1 + 1, 0, none⟩), .pointer (some ⟨w.heap.size + 1 + 1 + 1, 0, none⟩), .pointer (some ⟨w.heap.size + 1 + 1 + 1 + 1, 0, none⟩)]] 32)))
 have hZ_ := z3_ (w.alloc (.cells #[.int .u8 1, .string (bs t), .int .i64 n, .slice ad kids.length c] 25)) (.cells #[.slice sa sigs.length sc, .slice pa pres.length pc] 31)
 rw [show (w.alloc (.cells #[.int .u8 1, .string (bs t), .int .i64 n, .slice ad kids.length c] 25)).heap.size = w.heap.size + 1 by simp] at hZ_
 have HWT1 := Lib.hid ((z8_ (z8_ (z8_ (z8_ hZ_ (.cells #[.string (bs msg)] 22)) (.cells #[.int .i64 after] 3)) (.cells #[.int .i64 age] 3)) (.cells #[.func (.func 69) #[] #[.pointer (some ⟨w.heap.size + 1, 0, none⟩), .pointer (some ⟨w.heap.size + 1 + 1, 0, none⟩), .pointer (some ⟨w.heap.size + 1 + 1 + 1, 0, none⟩), .pointer (some ⟨w.heap.size + 1 + 1 + 1 + 1, 0, none⟩)]] 32)))
 clear hZ_
 have hZ_ := z3_ ((w.alloc (.cells #[.int .u8 1, .string (bs t), .int .i64 n, .slice ad kids.length c] 25)).alloc (.cells #[.slice sa sigs.length sc, .slice pa pres.length pc] 31)) (.cells #[.string (bs msg)] 22)
 rw [show ((w.alloc (.cells #[.int .u8 1, .string (bs t), .int .i64 n, .slice ad kids.length c] 25)).alloc (.cells #[.slice sa sigs.length sc, .slice pa pres.length pc] 31)).heap.size = w.heap.size + 1 + 1 by simp] at hZ_
 have HMS1 := Lib.hid ((z8_ (z8_ (z8_ hZ_ (.cells #[.int .i64 after] 3)) (.cells #[.int .i64 age] 3)) (.cells #[.func (.func 69) #[] #[.pointer (some ⟨w.heap.size + 1, 0, none⟩), .pointer (some ⟨w.heap.size + 1 + 1, 0, none⟩), .pointer (some ⟨w.heap.size + 1 + 1 + 1, 0, none⟩), .pointer (some ⟨w.heap.size + 1 + 1 + 1 + 1, 0, none⟩)]] 32)))
 clear hZ_
 have hZ_ := z3_ (((w.alloc (.cells #[.int .u8 1, .string (bs t), .int .i64 n, .slice ad kids.length c] 25)).alloc (.cells #[.slice sa sigs.length sc, .slice pa pres.length pc] 31)).alloc (.cells #[.string (bs msg)] 22)) (.cells #[.int .i64 after] 3)
 rw [show (((w.alloc (.cells #[.int .u8 1, .string (bs t), .int .i64 n, .slice ad kids.length c] 25)).alloc (.cells #[.slice sa sigs.length sc, .slice pa pres.length pc] 31)).alloc (.cells #[.string (bs msg)] 22)).heap.size = w.heap.size + 1 + 1 + 1 by simp] at hZ_
 have HAF1 := Lib.hid ((z8_ (z8_ hZ_ (.cells #[.int .i64 age] 3)) (.cells #[.func (.func 69) #[] #[.pointer (some ⟨w.heap.size + 1, 0, none⟩), .pointer (some ⟨w.heap.size + 1 + 1, 0, none⟩), .pointer (some ⟨w.heap.size + 1 + 1 + 1, 0, none⟩), .pointer (some ⟨w.heap.size + 1 + 1 + 1 + 1, 0, none⟩)]] 32)))
 clear hZ_
 have hZ_ := z3_ ((((w.alloc (.cells #[.int .u8 1, .string (bs t), .int .i64 n, .slice ad kids.length c] 25)).alloc (.cells #[.slice sa sigs.length sc, .slice pa pres.length pc] 31)).alloc (.cells #[.string (bs msg)] 22)).alloc (.cells #[.int .i64 after] 3)) (.cells #[.int .i64 age] 3)
 rw [show ((((w.alloc (.cells #[.int .u8 1, .string (bs t), .int .i64 n, .slice ad kids.length c] 25)).alloc (.cells #[.slice sa sigs.length sc, .slice pa pres.length pc] 31)).alloc (.cells #[.string (bs msg)] 22)).alloc (.cells #[.int .i64 after] 3)).heap.size = w.heap.size + 1 + 1 + 1 + 1 by simp] at hZ_
 have HAG1 := Lib.hid ((z8_ hZ_ (.cells #[.func (.func 69) #[] #[.pointer (some ⟨w.heap.size + 1, 0, none⟩), .pointer (some ⟨w.heap.size + 1 + 1, 0, none⟩), .pointer (some ⟨w.heap.size + 1 + 1 + 1, 0, none⟩), .pointer (some ⟨w.heap.size + 1 + 1 + 1 + 1, 0, none⟩)]] 32)))
 clear hZ_
 have hZ_ := z3_ (((((w.alloc (.cells #[.int .u8 1, .string (bs t), .int .i64 n, .slice ad kids.length c] 25)).alloc (.cells #[.slice sa sigs.length sc, .slice pa pres.length pc] 31)).alloc (.cells #[.string (bs msg)] 22)).alloc (.cells #[.int .i64 after] 3)).alloc (.cells #[.int .i64 age] 3)) (.cells #[.func (.func 69) #[] #[.pointer (some ⟨w.heap.size + 1, 0, none⟩), .pointer (some ⟨w.heap.size + 1 + 1, 0, none⟩), .pointer (some ⟨w.heap.size + 1 + 1 + 1, 0, none⟩), .pointer (some ⟨w.heap.size + 1 + 1 + 1 + 1, 0, none⟩)]] 32)
 rw [show (((((w.alloc (.cells #[.int .u8 1, .string (bs t), .int .i64 n, .slice ad kids.length c] 25)).alloc (.cells #[.slice sa sigs.length sc, .slice pa pres.length pc] 31)).alloc (.cells #[.string (bs msg)] 22)).alloc (.cells #[.int .i64 after] 3)).alloc (.cells #[.int .i64 age] 3)).heap.size = w.heap.size + 1 + 1 + 1 + 1 + 1 by simp] at hZ_
 have HWI1 := Lib.hid (hZ_)
 clear hZ_
 have HG1 := Lib.hid (y5_ (y5_ (y5_ (y5_ (y5_ (y5_ HG0.out (.cells #[.int .u8 1, .string (bs t), .int .i64 n, .slice ad kids.length c] 25)) (.cells #[.slice sa sigs.length sc, .slice pa pres.length pc] 31)) (.cells #[.string (bs msg)] 22)) (.cells #[.int .i64 after] 3)) (.cells #[.int .i64 age] 3)) (.cells #[.func (.func 69) #[] #[.pointer (some ⟨w.heap.size + 1, 0, none⟩), .pointer (some ⟨w.heap.size + 1 + 1, 0, none⟩), .pointer (some ⟨w.heap.size + 1 + 1 + 1, 0, none⟩), .pointer (some ⟨w.heap.size + 1 + 1 + 1 + 1, 0, none⟩)]] 32))
 have hg1 := z6_ (z6_ (z6_ (z6_ (z6_ (z6_ hg0 (.cells #[.int .u8 1, .string (bs t), .int .i64 n, .slice ad kids.length c] 25)) (.cells #[.slice sa sigs.length sc, .slice pa pres.length pc] 31)) (.cells #[.string (bs msg)] 22)) (.cells #[.int .i64 after] 3)) (.cells #[.int .i64 age] 3)) (.cells #[.func (.func 69) #[] #[.pointer (some ⟨w.heap.size + 1, 0, none⟩), .pointer (some ⟨w.heap.size + 1 + 1, 0, none⟩), .pointer (some ⟨w.heap.size + 1 + 1 + 1, 0, none⟩), .pointer (some ⟨w.heap.size + 1 + 1 + 1 + 1, 0, none⟩)]] 32)
 have geLK : w.heap.size ≤ w.heap.size := by have := hg0.size; omega
 have gnLK : gN ≤ w.heap.size := by have := HG0.out.size; omega
 have geWT : w.heap.size ≤ w.heap.size + 1 := by have := hg0.size; omega
 have gnWT : gN ≤ w.heap.size + 1 := by have := HG0.out.size; omega
 have ltLKWT : w.heap.size < w.heap.size + 1 := by omega
 have neLKWT : w.heap.size ≠ w.heap.size + 1 := by omega
 have neWTLK : w.heap.size + 1 ≠ w.heap.size := by omega
 have geMS : w.heap.size ≤ w.heap.size + 1 + 1 := by have := hg0.size; omega
 have gnMS : gN ≤ w.heap.size + 1 + 1 := by have := HG0.out.size; omega
 have ltLKMS : w.heap.size < w.heap.size + 1 + 1 := by omega
 have neLKMS : w.heap.size ≠ w.heap.size + 1 + 1 := by omega
 have neMSLK : w.heap.size + 1 + 1 ≠ w.heap.size := by omega
 have ltWTMS : w.heap.size + 1 < w.heap.size + 1 + 1 := by omega
 have neWTMS : w.heap.size + 1 ≠ w.heap.size + 1 + 1 := by omega
 have neMSWT : w.heap.size + 1 + 1 ≠ w.heap.size + 1 := by omega
 have geAF : w.heap.size ≤ w.heap.size + 1 + 1 + 1 := by have := hg0.size; omega
 have gnAF : gN ≤ w.heap.size + 1 + 1 + 1 := by have := HG0.out.size; omega
 have ltLKAF : w.heap.size < w.heap.size + 1 + 1 + 1 := by omega
 have neLKAF : w.heap.size ≠ w.heap.size + 1 + 1 + 1 := by omega
 have neAFLK : w.heap.size + 1 + 1 + 1 ≠ w.heap.size := by omega
 have ltWTAF : w.heap.size + 1 < w.heap.size + 1 + 1 + 1 := by omega
 have neWTAF : w.heap.size + 1 ≠ w.heap.size + 1 + 1 + 1 := by omega
 have neAFWT : w.heap.size + 1 + 1 + 1 ≠ w.heap.size + 1 := by omega
 have ltMSAF : w.heap.size + 1 + 1 < w.heap.size + 1 + 1 + 1 := by omega
 have neMSAF : w.heap.size + 1 + 1 ≠ w.heap.size + 1 + 1 + 1 := by omega
 have neAFMS : w.heap.size + 1 + 1 + 1 ≠ w.heap.size + 1 + 1 := by omega
 have geAG : w.heap.size ≤ w.heap.size + 1 + 1 + 1 + 1 := by have := hg0.size; omega
 have gnAG : gN ≤ w.heap.size + 1 + 1 + 1 + 1 := by have := HG0.out.size; omega
 have ltLKAG : w.heap.size < w.heap.size + 1 + 1 + 1 + 1 := by omega
 have neLKAG : w.heap.size ≠ w.heap.size + 1 + 1 + 1 + 1 := by omega
 have neAGLK : w.heap.size + 1 + 1 + 1 + 1 ≠ w.heap.size := by omega
 have ltWTAG : w.heap.size + 1 < w.heap.size + 1 + 1 + 1 + 1 := by omega
 have neWTAG : w.heap.size + 1 ≠ w.heap.size + 1 + 1 + 1 + 1 := by omega
 have neAGWT : w.heap.size + 1 + 1 + 1 + 1 ≠ w.heap.size + 1 := by omega
 have ltMSAG : w.heap.size + 1 + 1 < w.heap.size + 1 + 1 + 1 + 1 := by omega
 have neMSAG : w.heap.size + 1 + 1 ≠ w.heap.size + 1 + 1 + 1 + 1 := by omega
 have neAGMS : w.heap.size + 1 + 1 + 1 + 1 ≠ w.heap.size + 1 + 1 := by omega
 have ltAFAG : w.heap.size + 1 + 1 + 1 < w.heap.size + 1 + 1 + 1 + 1 := by omega
 have neAFAG : w.heap.size + 1 + 1 + 1 ≠ w.heap.size + 1 + 1 + 1 + 1 := by omega
 have neAGAF : w.heap.size + 1 + 1 + 1 + 1 ≠ w.heap.size + 1 + 1 + 1 := by omega
 have geWI : w.heap.size ≤ w.heap.size + 1 + 1 + 1 + 1 + 1 := by have := hg0.size; omega
 have gnWI : gN ≤ w.heap.size + 1 + 1 + 1 + 1 + 1 := by have := HG0.out.size; omega
 have ltLKWI : w.heap.size < w.heap.size + 1 + 1 + 1 + 1 + 1 := by omega
 have neLKWI : w.heap.size ≠ w.heap.size + 1 + 1 + 1 + 1 + 1 := by omega
 have neWILK : w.heap.size + 1 + 1 + 1 + 1 + 1 ≠ w.heap.size := by omega
 have ltWTWI : w.heap.size + 1 < w.heap.size + 1 + 1 + 1 + 1 + 1 := by omega
 have neWTWI : w.heap.size + 1 ≠ w.heap.size + 1 + 1 + 1 + 1 + 1 := by omega
 have neWIWT : w.heap.size + 1 + 1 + 1 + 1 + 1 ≠ w.heap.size + 1 := by omega
 have ltMSWI : w.heap.size + 1 + 1 < w.heap.size + 1 + 1 + 1 + 1 + 1 := by omega
 have neMSWI : w.heap.size + 1 + 1 ≠ w.heap.size + 1 + 1 + 1 + 1 + 1 := by omega
 have neWIMS : w.heap.size + 1 + 1 + 1 + 1 + 1 ≠ w.heap.size + 1 + 1 := by omega
 have ltAFWI : w.heap.size + 1 + 1 + 1 < w.heap.size + 1 + 1 + 1 + 1 + 1 := by omega
 have neAFWI : w.heap.size + 1 + 1 + 1 ≠ w.heap.size + 1 + 1 + 1 + 1 + 1 := by omega
 have neWIAF : w.heap.size + 1 + 1 + 1 + 1 + 1 ≠ w.heap.size + 1 + 1 + 1 := by omega
 have ltAGWI : w.heap.size + 1 + 1 + 1 + 1 < w.heap.size + 1 + 1 + 1 + 1 + 1 := by omega
 have neAGWI : w.heap.size + 1 + 1 + 1 + 1 ≠ w.heap.size + 1 + 1 + 1 + 1 + 1 := by omega
 have neWIAG : w.heap.size + 1 + 1 + 1 + 1 + 1 ≠ w.heap.size + 1 + 1 + 1 + 1 := by omega
 generalize ((((((w.alloc (.cells #[.int .u8 1, .string (bs t), .int .i64 n, .slice ad kids.length c] 25)).alloc (.cells #[.slice sa sigs.length sc, .slice pa pres.length pc] 31)).alloc (.cells #[.string (bs msg)] 22)).alloc (.cells #[.int .i64 after] 3)).alloc (.cells #[.int .i64 age] 3)).alloc (.cells #[.func (.func 69) #[] #[.pointer (some ⟨w.heap.size + 1, 0, none⟩), .pointer (some ⟨w.heap.size + 1 + 1, 0, none⟩), .pointer (some ⟨w.heap.size + 1 + 1 + 1, 0, none⟩), .pointer (some ⟨w.heap.size + 1 + 1 + 1 + 1, 0, none⟩)]] 32)) = w1 at *
 generalize w.heap.size + 1 + 1 + 1 + 1 + 1 = WI at *
 generalize w.heap.size + 1 + 1 + 1 + 1 = AG at *
 generalize w.heap.size + 1 + 1 + 1 = AF at *
 generalize w.heap.size + 1 + 1 = MS at *
 generalize w.heap.size + 1 = WT at *
 generalize w.heap.size = LK at *
 have hs1 := hg1.size
 refine (zgD_ 71 _ (fun _ _ => by kernel_rfl) (k3_ t msg) sigs hsn _ _ (y4_ HSV.out hg1) (fun W x hx hgw => ?_)).mono ?_
 · exact lkO2 x t msg (HST.out x hx) LK MS _ _ _ W (y7_ HLK1.out hgw si_) (y7_ HMS1.out hgw si_) (x4_ HG1.out hgw si_)
 rintro e w2 ⟨rfl, hb2⟩
 go_wp2_with fail
 go_ret
 exact ⟨rfl, x0_ (z4_ hb2 hg1)⟩
theorem zk7_ (n : Int) (t : List UInt8) (kids : List LT) (ad : Option Addr) (c : Nat) (sa pa : Option Addr) (sc pc : Nat) (sigs pres : List (List UInt8)) (msg : List UInt8) (after age : Int) (w : World) (q : Nat → Prop)
  (hsv : x5_ (.slice sa sigs.length sc) sigs w) (hpv : x5_ (.slice pa pres.length pc) pres w) (hsn : sigs.length ≤ 9000000000000000000) (hpn : pres.length ≤ 9000000000000000000) (hst : ∀ s ∈ sigs, s.length ≤ 9000000000000000000) (hpt : ∀ s ∈ pres, s.length ≤ 9000000000000000000)
  (ha : -9223372036854775808 ≤ after ∧ after ≤ 9223372036854775807) (hg : -9223372036854775808 ≤ age ∧ age ≤ 9223372036854775807) (hn : -9223372036854775808 ≤ n ∧ n ≤ 9223372036854775807) (hkn : kids.length ≤ 9000000000000000000) (hG : GOk w)  :
  Calls Tryz.prog 53 #[.agg #[.int .u8 2, .string (bs t), .int .i64 n, .slice ad kids.length c], .agg #[.slice sa sigs.length sc, .slice pa pres.length pc], .string (bs msg), .int .i64 after, .int .i64 age] w fun e w' =>
   e = .returned (.bool (prP pres t)) ∧ Below w.heap.size w w' := by
 have hsf := zcC_
 have HG0 := Lib.hid hG
 have HSV := Lib.hid hsv
 have HPV := Lib.hid hpv
 have HST := Lib.hid hst
 have HPT := Lib.hid hpt
 clear hG hsv hpv hst hpt
 go_enter Tryz.func53, Tryz.ntmps53
 have hg0 : GL [] w w := z1_ _ _
 have hs0 : w.heap.size ≤ w.heap.size := Nat.le_refl _
 go_wp2_with fail
 have HLK1 := Lib.hid ((z8_ (z8_ (z8_ (z8_ (z8_ (z3_ w (.cells #[.int .u8 2, .string (bs t), .int .i64 n, .slice ad kids.length c] 25)) (.cells #[.slice sa sigs.length sc, .slice pa pres.length pc] 31)) (.cells #[.string (bs msg)] 22)) (.cells #[.int .i64 after] 3)) (.cells #[.int .i64 age] 3)) (.cells #[.func (.func 69) #[] #[.pointer (some ⟨w.heap.size + 1, 0, none⟩), .pointer (some ⟨w.heap.size + 1 + 1, 0, none⟩), .pointer (some ⟨w.heap.size + 1 + 1 + 1, 0, none⟩), .pointer (some ⟨w.heap.size + 1 + 1 + 1 + 1, 0, none⟩)]] 32)))
 have hZ_ := z3_ (w.alloc (.cells #[.int .u8 2, .string (bs t), .int .i64 n, .slice ad kids.length c] 25)) (.cells #[.slice sa sigs.length sc, .slice pa pres.length pc] 31)
 rw [show (w.alloc (.cells #[.int .u8 2, .string (bs t), .int .i64 n, .slice ad kids.length c] 25)).heap.size = w.heap.size + 1 by simp] at hZ_
 have HWT1 := Lib.hid ((z8_ (z8_ (z8_ (z8_ hZ_ (.cells #[.string (bs msg)] 22)) (.cells #[.int .i64 after] 3)) (.cells #[.int .i64 age] 3)) (.cells #[.func (.func 69) #[] #[.pointer (some ⟨w.heap.size + 1, 0, none⟩), .pointer (some ⟨w.heap.size + 1 + 1, 0, none⟩), .pointer (some ⟨w.heap.size + 1 + 1 + 1, 0, none⟩), .pointer (some ⟨w.heap.size + 1 + 1 + 1 + 1, 0, none⟩)]] 32)))
 clear hZ_
 have hZ_ := z3_ ((w.alloc (.cells #[.int .u8 2, .string (bs t), .int .i64 n, .slice ad kids.length c] 25)).alloc (.cells #[.slice sa sigs.length sc, .slice pa pres.length pc] 31)) (.cells #[.string (bs msg)] 22)
 rw [show ((w.alloc (.cells #[.int .u8 2, .string (bs t), .int .i64 n, .slice ad kids.length c] 25)).alloc (.cells #[.slice sa sigs.length sc, .slice pa pres.length pc] 31)).heap.size = w.heap.size + 1 + 1 by simp] at hZ_
 have HMS1 := Lib.hid ((z8_ (z8_ (z8_ hZ_ (.cells #[.int .i64 after] 3)) (.cells #[.int .i64 age] 3)) (.cells #[.func (.func 69) #[] #[.pointer (some ⟨w.heap.size + 1, 0, none⟩), .pointer (some ⟨w.heap.size + 1 + 1, 0, none⟩), .pointer (some ⟨w.heap.size + 1 + 1 + 1, 0, none⟩), .pointer (some ⟨w.heap.size + 1 + 1 + 1 + 1, 0, none⟩)]] 32)))
 clear hZ_
 have hZ_ := z3_ (((w.alloc (.cells #[.int .u8 2, .string (bs t), .int .i64 n, .slice ad kids.length c] 25)).alloc (.cells #[.slice sa sigs.length sc, .slice pa pres.length pc] 31)).alloc (.cells #[.string (bs msg)] 22)) (.cells #[.int .i64 after] 3)
 rw [show (((w.alloc (.cells #[.int .u8 2, .string (bs t), .int .i64 n, .slice ad kids.length c] 25)).alloc (.cells #[.slice sa sigs.length sc, .slice pa pres.length pc] 31)).alloc (.cells #[.string (bs msg)] 22)).heap.size = w.heap.size + 1 + 1 + 1 by simp] at hZ_
 have HAF1 := Lib.hid ((z8_ (z8_ hZ_ (.cells #[.int .i64 age] 3)) (.cells #[.func (.func 69) #[] #[.pointer (some ⟨w.heap.size + 1, 0, none⟩), .pointer (some ⟨w.heap.size + 1 + 1, 0, none⟩), .pointer (some ⟨w.heap.size + 1 + 1 + 1, 0, none⟩), .pointer (some ⟨w.heap.size + 1 + 1 + 1 + 1, 0, none⟩)]] 32)))
 clear hZ_
 have hZ_ := z3_ ((((w.alloc (.cells #[.int .u8 2, .string (bs t), .int .i64 n, .slice ad kids.length c] 25)).alloc (.cells #[.slice sa sigs.length sc, .slice pa pres.length pc] 31)).alloc (.cells #[.string (bs msg)] 22)).alloc (.cells #[.int .i64 after] 3)) (.cells #[.int .i64 age] 3)
 rw [show ((((w.alloc (.cells #[.int .u8 2, .string (bs t), .int .i64 n, .slice ad kids.length c] 25)).alloc (.cells #[.slice sa sigs.length sc, .slice pa pres.length pc] 31)).alloc (.cells #[.string (bs msg)] 22)).alloc (.cells #[.int .i64 after] 3)).heap.size = w.heap.size + 1 + 1 + 1 + 1 by simp] at hZ_
 have HAG1 := Lib.hid ((z8_ hZ_ (.cells #[.func (.func 69) #[] #[.pointer (some ⟨w.heap.size + 1, 0, none⟩), .pointer (some ⟨w.heap.size + 1 + 1, 0, none⟩), .pointer (some ⟨w.heap.size + 1 + 1 + 1, 0, none⟩), .pointer (some ⟨w.heap.size + 1 + 1 + 1 + 1, 0, none⟩)]] 32)))
 clear hZ_
 have hZ_ := z3_ (((((w.alloc (.cells #[.int .u8 2, .string (bs t), .int .i64 n, .slice ad kids.length c] 25)).alloc (.cells #[.slice sa sigs.length sc, .slice pa pres.length pc] 31)).alloc (.cells #[.string (bs msg)] 22)).alloc (.cells #[.int .i64 after] 3)).alloc (.cells #[.int .i64 age] 3)) (.cells #[.func (.func 69) #[] #[.pointer (some ⟨w.heap.size + 1, 0, none⟩), .pointer (some ⟨w.heap.size + 1 + 1, 0, none⟩), .pointer (some ⟨w.heap.size + 1 + 1 + 1, 0, none⟩), .pointer (some ⟨w.heap.size + 1 + 1 + 1 + 1, 0, none⟩)]] 32)
 rw [show (((((w.alloc (.cells #[.int .u8 2, .string (bs t), .int .i64 n, .slice ad kids.length c] 25)).alloc (.cells #[.slice sa sigs.length sc, .slice pa pres.length pc] 31)).alloc (.cells #[.string (bs msg)] 22)).alloc (.cells #[.int .i64 after] 3)).alloc (.cells #[.int .i64 age] 3)).heap.size = w.heap.size + 1 + 1 + 1 + 1 + 1 by simp] at hZ_
 have HWI1 := Lib.hid (hZ_)
 clear hZ_
 have HG1 := Lib.hid (y5_ (y5_ (y5_ (y5_ (y5_ (y5_ HG0.out (.cells #[.int .u8 2, .string (bs t), .int .i64 n, .slice ad kids.length c] 25)) (.cells #[.slice sa sigs.length sc, .slice pa pres.length pc] 31)) (.cells #[.string (bs msg)] 22)) (.cells #[.int .i64 after] 3)) (.cells #[.int .i64 age] 3)) (.cells #[.func (.func 69) #[] #[.pointer (some ⟨w.heap.size + 1, 0, none⟩), .pointer (some ⟨w.heap.size + 1 + 1, 0, none⟩), .pointer (some ⟨w.heap.size + 1 + 1 + 1, 0, none⟩), .pointer (some ⟨w.heap.size + 1 + 1 + 1 + 1, 0, none⟩)]] 32))
 have hg1 := z6_ (z6_ (z6_ (z6_ (z6_ (z6_ hg0 (.cells #[.int .u8 2, .string (bs t), .int .i64 n, .slice ad kids.length c] 25)) (.cells #[.slice sa sigs.length sc, .slice pa pres.length pc] 31)) (.cells #[.string (bs msg)] 22)) (.cells #[.int .i64 after] 3)) (.cells #[.int .i64 age] 3)) (.cells #[.func (.func 69) #[] #[.pointer (some ⟨w.heap.size + 1, 0, none⟩), .pointer (some ⟨w.heap.size + 1 + 1, 0, none⟩), .pointer (some ⟨w.heap.size + 1 + 1 + 1, 0, none⟩), .pointer (some ⟨w.heap.size + 1 + 1 + 1 + 1, 0, none⟩)]] 32)
 have geLK : w.heap.size ≤ w.heap.size := by have := hg0.size; omega
 have gnLK : gN ≤ w.heap.size := by have := HG0.out.size; omega
 have geWT : w.heap.size ≤ w.heap.size + 1 := by have := hg0.size; omega
 have gnWT : gN ≤ w.heap.size + 1 := by have := HG0.out.size; omega
 have ltLKWT : w.heap.size < w.heap.size + 1 := by omega
 have neLKWT : w.heap.size ≠ w.heap.size + 1 := by omega
 have neWTLK : w.heap.size + 1 ≠ w.heap.size := by omega
 have geMS : w.heap.size ≤ w.heap.size + 1 + 1 := by have := hg0.size; omega
 have gnMS : gN ≤ w.heap.size + 1 + 1 := by have := HG0.out.size; omega
 have ltLKMS : w.heap.size < w.heap.size + 1 + 1 := by omega
 have neLKMS : w.heap.size ≠ w.heap.size + 1 + 1 := by omega
 have neMSLK : w.heap.size + 1 + 1 ≠ w.heap.size := by omega
 have ltWTMS : w.heap.size + 1 < w.heap.size + 1 + 1 := by omega
 have neWTMS : w.heap.size + 1 ≠ w.heap.size + 1 + 1 := by omega
 have neMSWT : w.heap.size + 1 + 1 ≠ w.heap.size + 1 := by omega
 have geAF : w.heap.size ≤ w.heap.size + 1 + 1 + 1 := by have := hg0.size; omega
 have gnAF : gN ≤ w.heap.size + 1 + 1 + 1 := by have := HG0.out.size; omega
 have ltLKAF : w.heap.size < w.heap.size + 1 + 1 + 1 := by omega
 have neLKAF : w.heap.size ≠ w.heap.size + 1 + 1 + 1 := by omega
 have neAFLK : w.heap.size + 1 + 1 + 1 ≠ w.heap.size := by omega
 have ltWTAF : w.heap.size + 1 < w.heap.size + 1 + 1 + 1 := by omega
 have neWTAF : w.heap.size + 1 ≠ w.heap.size + 1 + 1 + 1 := by omega
 have neAFWT : w.heap.size + 1 + 1 + 1 ≠ w.heap.size + 1 := by omega
 have ltMSAF : w.heap.size + 1 + 1 < w.heap.size + 1 + 1 + 1 := by omega
 have neMSAF : w.heap.size + 1 + 1 ≠ w.heap.size + 1 + 1 + 1 := by omega
 have neAFMS : w.heap.size + 1 + 1 + 1 ≠ w.heap.size + 1 + 1 := by omega
 have geAG : w.heap.size ≤ w.heap.size + 1 + 1 + 1 + 1 := by have := hg0.size; omega
 have gnAG : gN ≤ w.heap.size + 1 + 1 + 1 + 1 := by have := HG0.out.size; omega
 have ltLKAG : w.heap.size < w.heap.size + 1 + 1 + 1 + 1 := by omega
 have neLKAG : w.heap.size ≠ w.heap.size + 1 + 1 + 1 + 1 := by omega
 have neAGLK : w.heap.size + 1 + 1 + 1 + 1 ≠ w.heap.size := by omega
 have ltWTAG : w.heap.size + 1 < w.heap.size + 1 + 1 + 1 + 1 := by omega
 have neWTAG : w.heap.size + 1 ≠ w.heap.size + 1 + 1 + 1 + 1 := by omega
 have neAGWT : w.heap.size + 1 + 1 + 1 + 1 ≠ w.heap.size + 1 := by omega
 have ltMSAG : w.heap.size + 1 + 1 < w.heap.size + 1 + 1 + 1 + 1 := by omega
 have neMSAG : w.heap.size + 1 + 1 ≠ w.heap.size + 1 + 1 + 1 + 1 := by omega
 have neAGMS : w.heap.size + 1 + 1 + 1 + 1 ≠ w.heap.size + 1 + 1 := by omega
 have ltAFAG : w.heap.size + 1 + 1 + 1 < w.heap.size + 1 + 1 + 1 + 1 := by omega
 have neAFAG : w.heap.size + 1 + 1 + 1 ≠ w.heap.size + 1 + 1 + 1 + 1 := by omega
 have neAGAF : w.heap.size + 1 + 1 + 1 + 1 ≠ w.heap.size + 1 + 1 + 1 := by omega
 have geWI : w.heap.size ≤ w.heap.size + 1 + 1 + 1 + 1 + 1 := by have := hg0.size; omega
 have gnWI : gN ≤ w.heap.size + 1 + 1 + 1 + 1 + 1 := by have := HG0.out.size; omega
 have ltLKWI : w.heap.size < w.heap.size + 1 + 1 + 1 + 1 + 1 := by omega
 have neLKWI : w.heap.size ≠ w.heap.size + 1 + 1 + 1 + 1 + 1 := by omega
 have neWILK : w.heap.size + 1 + 1 + 1 + 1 + 1 ≠ w.heap.size := by omega
 have ltWTWI : w.heap.size + 1 < w.heap.size + 1 + 1 + 1 + 1 + 1 := by omega
 have neWTWI : w.heap.size + 1 ≠ w.heap.size + 1 + 1 + 1 + 1 + 1 := by omega
 have neWIWT : w.heap.size + 1 + 1 + 1 + 1 + 1 ≠ w.heap.size + 1 := by omega
 have ltMSWI : w.heap.size + 1 + 1 < w.heap.size + 1 + 1 + 1 + 1 + 1 := by omega
 have neMSWI : w.heap.size + 1 + 1 ≠ w.heap.size + 1 + 1 + 1 + 1 + 1 := by omega
 have neWIMS : w.heap.size + 1 + 1 + 1 + 1 + 1 ≠ w.heap.size + 1 + 1 := by omega
 have ltAFWI : w.heap.size + 1 + 1 + 1 < w.heap.size + 1 + 1 + 1 + 1 + 1 := by omega
 have neAFWI : w.heap.size + 1 + 1 + 1 ≠ w.heap.size + 1 + 1 + 1 + 1 + 1 := by omega
 have neWIAF : w.heap.size + 1 + 1 + 1 + 1 + 1 ≠ w.heap.size + 1 + 1 + 1 := by omega
 have ltAGWI : w.heap.size + 1 + 1 + 1 + 1 < w.heap.size + 1 + 1 + 1 + 1 + 1 := by omega
 have neAGWI : w.heap.size + 1 + 1 + 1 + 1 ≠ w.heap.size + 1 + 1 + 1 + 1 + 1 := by omega
 have neWIAG : w.heap.size + 1 + 1 + 1 + 1 + 1 ≠ w.heap.size + 1 + 1 + 1 + 1 := by omega
 generalize ((((((w.alloc (.cells #[.int .u8 2, .string (bs t), .int .i64 n, .slice ad kids.length c] 25)).alloc (.cells #[.slice sa sigs.length sc, .slice pa pres.length pc] 31)).alloc (.cells #[.string (bs msg)] 22)).alloc (.cells #[.int .i64 after] 3)).alloc (.cells #[.int .i64 age] 3)).alloc (.cells #[.func (.func 69) #[] #[.pointer (some ⟨w.heap.size + 1, 0, none⟩), .pointer (some ⟨w.heap.size + 1 + 1, 0, none⟩), .pointer (some ⟨w.heap.size + 1 + 1 + 1, 0, none⟩), .pointer (some ⟨w.heap.size + 1 + 1 + 1 + 1, 0, none⟩)]] 32)) = w1 at *
 generalize w.heap.size + 1 + 1 + 1 + 1 + 1 = WI at *
 generalize w.heap.size + 1 + 1 + 1 + 1 = AG at *
 generalize w.heap.size + 1 + 1 + 1 = AF at *
 generalize w.heap.size + 1 + 1 = MS at *
 generalize w.heap.size + 1 = WT at *
 generalize w.heap.size = LK at *
 have hs1 := hg1.size
 refine (zgD_ 73 _ (fun _ _ => by kernel_rfl) (fun x => (j8_ 72 x).2 == 0 && (j8_ 72 x).1 == t) pres hpn _ _ (y4_ HPV.out hg1) (fun W x hx hgw => ?_)).mono ?_
 · exact lkO3 x t (HPT.out x hx) LK _ _ _ W (y7_ HLK1.out hgw si_) (x4_ HG1.out hgw si_)
 rintro e w2 ⟨rfl, hb2⟩
 go_wp2_with fail
 go_ret
 exact ⟨rfl, x0_ (z4_ hb2 hg1)⟩
theorem zk8_ (n : Int) (t : List UInt8) (kids : List LT) (ad : Option Addr) (c : Nat) (sa pa : Option Addr) (sc pc : Nat) (sigs pres : List (List UInt8)) (msg : List UInt8) (after age : Int) (w : World) (q : Nat → Prop)
  (hsv : x5_ (.slice sa sigs.length sc) sigs w) (hpv : x5_ (.slice pa pres.length pc) pres w) (hsn : sigs.length ≤ 9000000000000000000) (hpn : pres.length ≤ 9000000000000000000) (hst : ∀ s ∈ sigs, s.length ≤ 9000000000000000000) (hpt : ∀ s ∈ pres, s.length ≤ 9000000000000000000)
  (ha : -9223372036854775808 ≤ after ∧ after ≤ 9223372036854775807) (hg : -9223372036854775808 ≤ age ∧ age ≤ 9223372036854775807) (hn : -9223372036854775808 ≤ n ∧ n ≤ 9223372036854775807) (hkn : kids.length ≤ 9000000000000000000) (hG : GOk w)  :
  Calls Tryz.prog 53 #[.agg #[.int .u8 3, .string (bs t), .int .i64 n, .slice ad kids.length c], .agg #[.slice sa sigs.length sc, .slice pa pres.length pc], .string (bs msg), .int .i64 after, .int .i64 age] w fun e w' =>
   e = .returned (.bool (decide (n ≤ after))) ∧ Below w.heap.size w w' := by
 have hsf := zcC_
 have HG0 := Lib.hid hG
 have HSV := Lib.hid hsv
 have HPV := Lib.hid hpv
 have HST := Lib.hid hst
 have HPT := Lib.hid hpt
 clear hG hsv hpv hst hpt
 go_enter Tryz.func53, Tryz.ntmps53
 go_wp2
 go_ret
 exact ⟨rfl, bl_⟩
theorem zk9_ (n : Int) (t : List UInt8) (kids : List LT) (ad : Option Addr) (c : Nat) (sa pa : Option Addr) (sc pc : Nat) (sigs pres : List (List UInt8)) (msg : List UInt8) (after age : Int) (w : World) (q : Nat → Prop)
  (hsv : x5_ (.slice sa sigs.length sc) sigs w) (hpv : x5_ (.slice pa pres.length pc) pres w) (hsn : sigs.length ≤ 9000000000000000000) (hpn : pres.length ≤ 9000000000000000000) (hst : ∀ s ∈ sigs, s.length ≤ 9000000000000000000) (hpt : ∀ s ∈ pres, s.length ≤ 9000000000000000000)
  (ha : -9223372036854775808 ≤ after ∧ after ≤ 9223372036854775807) (hg : -9223372036854775808 ≤ age ∧ age ≤ 9223372036854775807) (hn : -9223372036854775808 ≤ n ∧ n ≤ 9223372036854775807) (hkn : kids.length ≤ 9000000000000000000) (hG : GOk w)  :
  Calls Tryz.prog 53 #[.agg #[.int .u8 4, .string (bs t), .int .i64 n, .slice ad kids.length c], .agg #[.slice sa sigs.length sc, .slice pa pres.length pc], .string (bs msg), .int .i64 after, .int .i64 age] w fun e w' =>
   e = .returned (.bool (decide (n ≤ age))) ∧ Below w.heap.size w w' := by
 have hsf := zcC_
 have HG0 := Lib.hid hG
 have HSV := Lib.hid hsv
 have HPV := Lib.hid hpv
 have HST := Lib.hid hst
 have HPT := Lib.hid hpt
 clear hG hsv hpv hst hpt
 go_enter Tryz.func53, Tryz.ntmps53
 go_wp2
 go_ret
 exact ⟨rfl, bl_⟩
def zhh_ (N : Nat) (f : LT → Bool) (q : Nat → Prop) (a1 a2 a3 a4 : Nat) (w : World) : Prop := ∀ (W : World) (x : LT) (u : Value), x3_ x ≤ N → GL [] w W → y2_ q W x u →
 Calls Tryz.prog 69 #[u, .pointer (some ⟨a1, 0, none⟩), .pointer (some ⟨a2, 0, none⟩), .pointer (some ⟨a3, 0, none⟩), .pointer (some ⟨a4, 0, none⟩)] W fun e W' => e = .returned (.bool (f x)) ∧ Below W.heap.size W W'
theorem lkO1 (N : Nat) (ih : zd9_ N) (q : Nat → Prop) (a1 a2 a3 a4 : Nat) (sa pa : Option Addr) (sc pc : Nat) (sigs pres : List (List UInt8)) (msg : List UInt8) (after age : Int) (w : World)
  (H1 : w.heap[a1]? = some (.cells #[.slice sa sigs.length sc, .slice pa pres.length pc] 31 (0, 0))) (H2 : w.heap[a2]? = some (.cells #[.string (bs msg)] 22 (0, 0))) (H3 : w.heap[a3]? = some (.cells #[.int .i64 after] 3 (0, 0))) (H4 : w.heap[a4]? = some (.cells #[.int .i64 age] 3 (0, 0)))
  (hsv : x5_ (.slice sa sigs.length sc) sigs w) (hpv : x5_ (.slice pa pres.length pc) pres w) (hsn : sigs.length ≤ 9000000000000000000) (hpn : pres.length ≤ 9000000000000000000) (hst : ∀ s ∈ sigs, s.length ≤ 9000000000000000000) (hpt : ∀ s ∈ pres, s.length ≤ 9000000000000000000)
  (ha : -9223372036854775808 ≤ after ∧ after ≤ 9223372036854775807) (hg : -9223372036854775808 ≤ age ∧ age ≤ 9223372036854775807) (hG : GOk w) : zhh_ N (j9_ (sgP sigs msg) (prP pres) after age) q a1 a2 a3 a4 w := by
 intro W x u hx hgw hL
 have HL := Lib.hid hL
 obtain ⟨k, t, n, kids⟩ := x
 obtain ⟨ad, c, rfl, _⟩ := y3_ hL
 have HG := Lib.hid (x4_ hG hgw si_)
 have HSV := Lib.hid (y4_ hsv hgw)
 have HPV := Lib.hid (y4_ hpv hgw)
 have IH := Lib.hid ih
 have HST := Lib.hid hst
 have HPT := Lib.hid hpt
 have HX := Lib.hid hx
 have g1 := y7_ H1 hgw si_
 have g2 := y7_ H2 hgw si_
 have g3 := y7_ H3 hgw si_
 have g4 := y7_ H4 hgw si_
 have f1 := z2_ g1
 have e1 := z5_ g1
 have f2 := z2_ g2
 have e2 := z5_ g2
 have f3 := z2_ g3
 have e3 := z5_ g3
 have f4 := z2_ g4
 have e4 := z5_ g4
 have l1 := z0_ g1
 have l2 := z0_ g2
 have l3 := z0_ g3
 have l4 := z0_ g4
 clear hL hG hsv hpv ih hst hpt hx g1 g2 g3 g4 H1 H2 H3 H4 hgw
 go_enter Tryz.func69, Tryz.ntmps69
 go_wp2_with fail
 refine (IH.out _ q _ _ _ sigs pres msg after age _ HX.out (z7_ (z6_ (z1_ _ _) _) _ _ HL.out) (y4_ HSV.out (z6_ (z1_ _ _) _)) (y4_ HPV.out (z6_ (z1_ _ _) _)) hsn hpn HST.out HPT.out ha hg (y5_ HG.out _)).mono ?_
 rintro e w1 ⟨rfl, hb1⟩
 go_wp2_with fail
 go_ret
 exact ⟨rfl, bl_⟩
theorem lkO4 (N : Nat) (f : LT → Bool) (q : Nat → Prop) (a1 a2 a3 a4 b : Nat) (w : World) (hW : zhh_ N f q a1 a2 a3 a4 w)
  (H : w.heap[b]? = some (.cells #[.func (.func 69) #[] #[.pointer (some ⟨a1, 0, none⟩), .pointer (some ⟨a2, 0, none⟩), .pointer (some ⟨a3, 0, none⟩), .pointer (some ⟨a4, 0, none⟩)]] 32 (0, 0)))
  (W : World) (x : LT) (u : Value) (hx : x3_ x ≤ N) (hgw : GL [] w W) (hL : y2_ q W x u) :
  Calls Tryz.prog 76 #[u, .pointer (some ⟨b, 0, none⟩)] W fun e W' => e = .returned (.bool (!(f x))) ∧ Below W.heap.size W W' := by
 have hc := hW (W.alloc (.cells u.cells 25)) x u hx (z6_ hgw _) (z7_ (z6_ (z1_ _ _) _) _ _ hL)
 obtain ⟨k, t, n, kids⟩ := x
 obtain ⟨ad, c, rfl, _⟩ := y3_ hL
 have g1 := y7_ H hgw si_
 have f1 := z2_ g1
 have e1 := z5_ g1
 have l1 := z0_ g1
 have HC := Lib.hid hc
 clear hc hL hW H g1 hgw
 go_enter Tryz.func76, Tryz.ntmps76
 go_wp2_with fail
 refine (HC.out).mono ?_
 rintro e w1 ⟨rfl, hb1⟩
 go_wp2_with fail
 go_ret
 exact ⟨rfl, bl_⟩
theorem zlb_ (n : Int) (t : List UInt8) (kids : List LT) (ad : Option Addr) (c : Nat) (sa pa : Option Addr) (sc pc : Nat) (sigs pres : List (List UInt8)) (msg : List UInt8) (after age : Int) (w : World) (q : Nat → Prop)
  (hsv : x5_ (.slice sa sigs.length sc) sigs w) (hpv : x5_ (.slice pa pres.length pc) pres w) (hsn : sigs.length ≤ 9000000000000000000) (hpn : pres.length ≤ 9000000000000000000) (hst : ∀ s ∈ sigs, s.length ≤ 9000000000000000000) (hpt : ∀ s ∈ pres, s.length ≤ 9000000000000000000)
  (ha : -9223372036854775808 ≤ after ∧ after ≤ 9223372036854775807) (hg : -9223372036854775808 ≤ age ∧ age ≤ 9223372036854775807) (hn : -9223372036854775808 ≤ n ∧ n ≤ 9223372036854775807) (hkn : kids.length ≤ 9000000000000000000) (hG : GOk w) (N : Nat) (ih : zd9_ N) (hcN : w1_ kids ≤ N) (hd : kids = [] ∨ ∃ b o, ad = some ⟨b, o, none⟩ ∧ b < w.heap.size ∧ q b ∧ x2_ q w kids b o) :
  Calls Tryz.prog 53 #[.agg #[.int .u8 5, .string (bs t), .int .i64 n, .slice ad kids.length c], .agg #[.slice sa sigs.length sc, .slice pa pres.length pc], .string (bs msg), .int .i64 after, .int .i64 age] w fun e w' =>
   e = .returned (.bool (!(kids.any fun x => !(j9_ (sgP sigs msg) (prP pres) after age x)))) ∧ Below w.heap.size w w' := by
 have hsf := zcC_
 have HG0 := Lib.hid hG
 have HSV := Lib.hid hsv
 have HPV := Lib.hid hpv
 have HST := Lib.hid hst
 have HPT := Lib.hid hpt
 clear hG hsv hpv hst hpt
 have IH := Lib.hid ih
 have hd2 : ∀ W, GL [] w W → (kids = [] ∨ ∃ b o, ad = some ⟨b, o, none⟩ ∧ b < W.heap.size ∧ q b ∧ x2_ q W kids b o) := fun W hgW => by
  rcases hd with h | ⟨b, o, h1, h2, h3, h4⟩
  · exact .inl h
  · exact .inr ⟨b, o, h1, Nat.lt_of_lt_of_le h2 hgW.size, h3, zaM_ hgW kids b o h2 h3 h4⟩
 have HD := Lib.hid hd2
 clear ih hd hd2
 go_enter Tryz.func53, Tryz.ntmps53
 have hg0 : GL [] w w := z1_ _ _
 have hs0 : w.heap.size ≤ w.heap.size := Nat.le_refl _
 go_wp2_with fail
 have HLK1 := Lib.hid ((z8_ (z8_ (z8_ (z8_ (z8_ (z3_ w (.cells #[.int .u8 5, .string (bs t), .int .i64 n, .slice ad kids.length c] 25)) (.cells #[.slice sa sigs.length sc, .slice pa pres.length pc] 31)) (.cells #[.string (bs msg)] 22)) (.cells #[.int .i64 after] 3)) (.cells #[.int .i64 age] 3)) (.cells #[.func (.func 69) #[] #[.pointer (some ⟨w.heap.size + 1, 0, none⟩), .pointer (some ⟨w.heap.size + 1 + 1, 0, none⟩), .pointer (some ⟨w.heap.size + 1 + 1 + 1, 0, none⟩), .pointer (some ⟨w.heap.size + 1 + 1 + 1 + 1, 0, none⟩)]] 32)))
 have hZ_ := z3_ (w.alloc (.cells #[.int .u8 5, .string (bs t), .int .i64 n, .slice ad kids.length c] 25)) (.cells #[.slice sa sigs.length sc, .slice pa pres.length pc] 31)
 rw [show (w.alloc (.cells #[.int .u8 5, .string (bs t), .int .i64 n, .slice ad kids.length c] 25)).heap.size = w.heap.size + 1 by simp] at hZ_
 have HWT1 := Lib.hid ((z8_ (z8_ (z8_ (z8_ hZ_ (.cells #[.string (bs msg)] 22)) (.cells #[.int .i64 after] 3)) (.cells #[.int .i64 age] 3)) (.cells #[.func (.func 69) #[] #[.pointer (some ⟨w.heap.size + 1, 0, none⟩), .pointer (some ⟨w.heap.size + 1 + 1, 0, none⟩), .pointer (some ⟨w.heap.size + 1 + 1 + 1, 0, none⟩), .pointer (some ⟨w.heap.size + 1 + 1 + 1 + 1, 0, none⟩)]] 32)))
 clear hZ_
 have hZ_ := z3_ ((w.alloc (.cells #[.int .u8 5, .string (bs t), .int .i64 n, .slice ad kids.length c] 25)).alloc (.cells #[.slice sa sigs.length sc, .slice pa pres.length pc] 31)) (.cells #[.string (bs msg)] 22)
 rw [show ((w.alloc (.cells #[.int .u8 5, .string (bs t), .int .i64 n, .slice ad kids.length c] 25)).alloc (.cells #[.slice sa sigs.length sc, .slice pa pres.length pc] 31)).heap.size = w.heap.size + 1 + 1 by simp] at hZ_
 have HMS1 := Lib.hid ((z8_ (z8_ (z8_ hZ_ (.cells #[.int .i64 after] 3)) (.cells #[.int .i64 age] 3)) (.cells #[.func (.func 69) #[] #[.pointer (some ⟨w.heap.size + 1, 0, none⟩), .pointer (some ⟨w.heap.size + 1 + 1, 0, none⟩), .pointer (some ⟨w.heap.size + 1 + 1 + 1, 0, none⟩), .pointer (some ⟨w.heap.size + 1 + 1 + 1 + 1, 0, none⟩)]] 32)))
 clear hZ_
 have hZ_ := z3_ (((w.alloc (.cells #[.int .u8 5, .string (bs t), .int .i64 n, .slice ad kids.length c] 25)).alloc (.cells #[.slice sa sigs.length sc, .slice pa pres.length pc] 31)).alloc (.cells #[.string (bs msg)] 22)) (.cells #[.int .i64 after] 3)
 rw [show (((w.alloc (.cells #[.int .u8 5, .string (bs t), .int .i64 n, .slice ad kids.length c] 25)).alloc (.cells #[.slice sa sigs.length sc, .slice pa pres.length pc] 31)).alloc (.cells #[.string (bs msg)] 22)).heap.size = w.heap.size + 1 + 1 + 1 by simp] at hZ_
 have HAF1 := Lib.hid ((z8_ (z8_ hZ_ (.cells #[.int .i64 age] 3)) (.cells #[.func (.func 69) #[] #[.pointer (some ⟨w.heap.size + 1, 0, none⟩), .pointer (some ⟨w.heap.size + 1 + 1, 0, none⟩), .pointer (some ⟨w.heap.size + 1 + 1 + 1, 0, none⟩), .pointer (some ⟨w.heap.size + 1 + 1 + 1 + 1, 0, none⟩)]] 32)))
 clear hZ_
 have hZ_ := z3_ ((((w.alloc (.cells #[.int .u8 5, .string (bs t), .int .i64 n, .slice ad kids.length c] 25)).alloc (.cells #[.slice sa sigs.length sc, .slice pa pres.length pc] 31)).alloc (.cells #[.string (bs msg)] 22)).alloc (.cells #[.int .i64 after] 3)) (.cells #[.int .i64 age] 3)
 rw [show ((((w.alloc (.cells #[.int .u8 5, .string (bs t), .int .i64 n, .slice ad kids.length c] 25)).alloc (.cells #[.slice sa sigs.length sc, .slice pa pres.length pc] 31)).alloc (.cells #[.string (bs msg)] 22)).alloc (.cells #[.int .i64 after] 3)).heap.size = w.heap.size + 1 + 1 + 1 + 1 by simp] at hZ_
 have HAG1 := Lib.hid ((z8_ hZ_ (.cells #[.func (.func 69) #[] #[.pointer (some ⟨w.heap.size + 1, 0, none⟩), .pointer (some ⟨w.heap.size + 1 + 1, 0, none⟩), .pointer (some ⟨w.heap.size + 1 + 1 + 1, 0, none⟩), .pointer (some ⟨w.heap.size + 1 + 1 + 1 + 1, 0, none⟩)]] 32)))
 clear hZ_
 have hZ_ := z3_ (((((w.alloc (.cells #[.int .u8 5, .string (bs t), .int .i64 n, .slice ad kids.length c] 25)).alloc (.cells #[.slice sa sigs.length sc, .slice pa pres.length pc] 31)).alloc (.cells #[.string (bs msg)] 22)).alloc (.cells #[.int .i64 after] 3)).alloc (.cells #[.int .i64 age] 3)) (.cells #[.func (.func 69) #[] #[.pointer (some ⟨w.heap.size + 1, 0, none⟩), .pointer (some ⟨w.heap.size + 1 + 1, 0, none⟩), .pointer (some ⟨w.heap.size + 1 + 1 + 1, 0, none⟩), .pointer (some ⟨w.heap.size + 1 + 1 + 1 + 1, 0, none⟩)]] 32)
 rw [show (((((w.alloc (.cells #[.int .u8 5, .string (bs t), .int .i64 n, .slice ad kids.length c] 25)).alloc (.cells #[.slice sa sigs.length sc, .slice pa pres.length pc] 31)).alloc (.cells #[.string (bs msg)] 22)).alloc (.cells #[.int .i64 after] 3)).alloc (.cells #[.int .i64 age] 3)).heap.size = w.heap.size + 1 + 1 + 1 + 1 + 1 by simp] at hZ_
 have HWI1 := Lib.hid (hZ_)
 clear hZ_
 have HG1 := Lib.hid (y5_ (y5_ (y5_ (y5_ (y5_ (y5_ HG0.out (.cells #[.int .u8 5, .string (bs t), .int .i64 n, .slice ad kids.length c] 25)) (.cells #[.slice sa sigs.length sc, .slice pa pres.length pc] 31)) (.cells #[.string (bs msg)] 22)) (.cells #[.int .i64 after] 3)) (.cells #[.int .i64 age] 3)) (.cells #[.func (.func 69) #[] #[.pointer (some ⟨w.heap.size + 1, 0, none⟩), .pointer (some ⟨w.heap.size + 1 + 1, 0, none⟩), .pointer (some ⟨w.heap.size + 1 + 1 + 1, 0, none⟩), .pointer (some ⟨w.heap.size + 1 + 1 + 1 + 1, 0, none⟩)]] 32))
 have hg1 := z6_ (z6_ (z6_ (z6_ (z6_ (z6_ hg0 (.cells #[.int .u8 5, .string (bs t), .int .i64 n, .slice ad kids.length c] 25)) (.cells #[.slice sa sigs.length sc, .slice pa pres.length pc] 31)) (.cells #[.string (bs msg)] 22)) (.cells #[.int .i64 after] 3)) (.cells #[.int .i64 age] 3)) (.cells #[.func (.func 69) #[] #[.pointer (some ⟨w.heap.size + 1, 0, none⟩), .pointer (some ⟨w.heap.size + 1 + 1, 0, none⟩), .pointer (some ⟨w.heap.size + 1 + 1 + 1, 0, none⟩), .pointer (some ⟨w.heap.size + 1 + 1 + 1 + 1, 0, none⟩)]] 32)
 have geLK : w.heap.size ≤ w.heap.size := by have := hg0.size; omega
 have gnLK : gN ≤ w.heap.size := by have := HG0.out.size; omega
 have geWT : w.heap.size ≤ w.heap.size + 1 := by have := hg0.size; omega
 have gnWT : gN ≤ w.heap.size + 1 := by have := HG0.out.size; omega
 have ltLKWT : w.heap.size < w.heap.size + 1 := by omega
 have neLKWT : w.heap.size ≠ w.heap.size + 1 := by omega
 have neWTLK : w.heap.size + 1 ≠ w.heap.size := by omega
 have geMS : w.heap.size ≤ w.heap.size + 1 + 1 := by have := hg0.size; omega
 have gnMS : gN ≤ w.heap.size + 1 + 1 := by have := HG0.out.size; omega
 have ltLKMS : w.heap.size < w.heap.size + 1 + 1 := by omega
 have neLKMS : w.heap.size ≠ w.heap.size + 1 + 1 := by omega
 have neMSLK : w.heap.size + 1 + 1 ≠ w.heap.size := by omega
 have ltWTMS : w.heap.size + 1 < w.heap.size + 1 + 1 := by omega
 have neWTMS : w.heap.size + 1 ≠ w.heap.size + 1 + 1 := by omega
 have neMSWT : w.heap.size + 1 + 1 ≠ w.heap.size + 1 := by omega
 have geAF : w.heap.size ≤ w.heap.size + 1 + 1 + 1 := by have := hg0.size; omega
 have gnAF : gN ≤ w.heap.size + 1 + 1 + 1 := by have := HG0.out.size; omega
 have ltLKAF : w.heap.size < w.heap.size + 1 + 1 + 1 := by omega
 have neLKAF : w.heap.size ≠ w.heap.size + 1 + 1 + 1 := by omega
 have neAFLK : w.heap.size + 1 + 1 + 1 ≠ w.heap.size := by omega
 have ltWTAF : w.heap.size + 1 < w.heap.size + 1 + 1 + 1 := by omega
 have neWTAF : w.heap.size + 1 ≠ w.heap.size + 1 + 1 + 1 := by omega
 have neAFWT : w.heap.size + 1 + 1 + 1 ≠ w.heap.size + 1 := by omega
 have ltMSAF : w.heap.size + 1 + 1 < w.heap.size + 1 + 1 + 1 := by omega
 have neMSAF : w.heap.size + 1 + 1 ≠ w.heap.size + 1 + 1 + 1 := by omega
 have neAFMS : w.heap.size + 1 + 1 + 1 ≠ w.heap.size + 1 + 1 := by omega
 have geAG : w.heap.size ≤ w.heap.size + 1 + 1 + 1 + 1 := by have := hg0.size; omega
 have gnAG : gN ≤ w.heap.size + 1 + 1 + 1 + 1 := by have := HG0.out.size; omega
 have ltLKAG : w.heap.size < w.heap.size + 1 + 1 + 1 + 1 := by omega
 have neLKAG : w.heap.size ≠ w.heap.size + 1 + 1 + 1 + 1 := by omega
 have neAGLK : w.heap.size + 1 + 1 + 1 + 1 ≠ w.heap.size := by omega
 have ltWTAG : w.heap.size + 1 < w.heap.size + 1 + 1 + 1 + 1 := by omega
 have neWTAG : w.heap.size + 1 ≠ w.heap.size + 1 + 1 + 1 + 1 := by omega
 have neAGWT : w.heap.size + 1 + 1 + 1 + 1 ≠ w.heap.size + 1 := by omega
 have ltMSAG : w.heap.size + 1 + 1 < w.heap.size + 1 + 1 + 1 + 1 := by omega
 have neMSAG : w.heap.size + 1 + 1 ≠ w.heap.size + 1 + 1 + 1 + 1 := by omega
 have neAGMS : w.heap.size + 1 + 1 + 1 + 1 ≠ w.heap.size + 1 + 1 := by omega
 have ltAFAG : w.heap.size + 1 + 1 + 1 < w.heap.size + 1 + 1 + 1 + 1 := by omega
 have neAFAG : w.heap.size + 1 + 1 + 1 ≠ w.heap.size + 1 + 1 + 1 + 1 := by omega
 have neAGAF : w.heap.size + 1 + 1 + 1 + 1 ≠ w.heap.size + 1 + 1 + 1 := by omega
 have geWI : w.heap.size ≤ w.heap.size + 1 + 1 + 1 + 1 + 1 := by have := hg0.size; omega
 have gnWI : gN ≤ w.heap.size + 1 + 1 + 1 + 1 + 1 := by have := HG0.out.size; omega
 have ltLKWI : w.heap.size < w.heap.size + 1 + 1 + 1 + 1 + 1 := by omega
 have neLKWI : w.heap.size ≠ w.heap.size + 1 + 1 + 1 + 1 + 1 := by omega
 have neWILK : w.heap.size + 1 + 1 + 1 + 1 + 1 ≠ w.heap.size := by omega
 have ltWTWI : w.heap.size + 1 < w.heap.size + 1 + 1 + 1 + 1 + 1 := by omega
 have neWTWI : w.heap.size + 1 ≠ w.heap.size + 1 + 1 + 1 + 1 + 1 := by omega
 have neWIWT : w.heap.size + 1 + 1 + 1 + 1 + 1 ≠ w.heap.size + 1 := by omega
 have ltMSWI : w.heap.size + 1 + 1 < w.heap.size + 1 + 1 + 1 + 1 + 1 := by omega
 have neMSWI : w.heap.size + 1 + 1 ≠ w.heap.size + 1 + 1 + 1 + 1 + 1 := by omega
 have neWIMS : w.heap.size + 1 + 1 + 1 + 1 + 1 ≠ w.heap.size + 1 + 1 := by omega
 have ltAFWI : w.heap.size + 1 + 1 + 1 < w.heap.size + 1 + 1 + 1 + 1 + 1 := by omega
 have neAFWI : w.heap.size + 1 + 1 + 1 ≠ w.heap.size + 1 + 1 + 1 + 1 + 1 := by omega
 have neWIAF : w.heap.size + 1 + 1 + 1 + 1 + 1 ≠ w.heap.size + 1 + 1 + 1 := by omega
 have ltAGWI : w.heap.size + 1 + 1 + 1 + 1 < w.heap.size + 1 + 1 + 1 + 1 + 1 := by omega
 have neAGWI : w.heap.size + 1 + 1 + 1 + 1 ≠ w.heap.size + 1 + 1 + 1 + 1 + 1 := by omega
 have neWIAG : w.heap.size + 1 + 1 + 1 + 1 + 1 ≠ w.heap.size + 1 + 1 + 1 + 1 := by omega
 generalize ((((((w.alloc (.cells #[.int .u8 5, .string (bs t), .int .i64 n, .slice ad kids.length c] 25)).alloc (.cells #[.slice sa sigs.length sc, .slice pa pres.length pc] 31)).alloc (.cells #[.string (bs msg)] 22)).alloc (.cells #[.int .i64 after] 3)).alloc (.cells #[.int .i64 age] 3)).alloc (.cells #[.func (.func 69) #[] #[.pointer (some ⟨w.heap.size + 1, 0, none⟩), .pointer (some ⟨w.heap.size + 1 + 1, 0, none⟩), .pointer (some ⟨w.heap.size + 1 + 1 + 1, 0, none⟩), .pointer (some ⟨w.heap.size + 1 + 1 + 1 + 1, 0, none⟩)]] 32)) = w1 at *
 generalize w.heap.size + 1 + 1 + 1 + 1 + 1 = WI at *
 generalize w.heap.size + 1 + 1 + 1 + 1 = AG at *
 generalize w.heap.size + 1 + 1 + 1 = AF at *
 generalize w.heap.size + 1 + 1 = MS at *
 generalize w.heap.size + 1 = WT at *
 generalize w.heap.size = LK at *
 have hs1 := hg1.size
 have hW := lkO1 N IH.out q WT MS AF AG sa pa sc pc sigs pres msg after age w1 HWT1.out HMS1.out HAF1.out HAG1.out (y4_ HSV.out hg1) (y4_ HPV.out hg1) hsn hpn HST.out HPT.out ha hg HG1.out
 have HW := Lib.hid hW
 clear hW
 have hd1 := HD.out w1 hg1
 refine (zgE_ 76 _ (fun _ _ => by kernel_rfl) (fun x => !(j9_ (sgP sigs msg) (prP pres) after age x)) kids hkn q _ _ _ hd1 (fun W x u hx hgw hL => ?_)).mono ?_
 · have hcx : x3_ x ≤ N := by have := zaN_ kids x hx; omega
   exact lkO4 N _ q WT MS AF AG WI w1 HW.out HWI1.out W x u hcx hgw hL
 rintro e w2 ⟨rfl, hb2⟩
 go_wp2_with fail
 go_ret
 exact ⟨by first | rfl | (simp; done), x0_ (z4_ hb2 hg1)⟩
theorem zlc_ (k n : Int) (t : List UInt8) (kids : List LT) (ad : Option Addr) (c : Nat) (sa pa : Option Addr) (sc pc : Nat) (sigs pres : List (List UInt8)) (msg : List UInt8) (after age : Int) (w : World) (q : Nat → Prop)
  (hsv : x5_ (.slice sa sigs.length sc) sigs w) (hpv : x5_ (.slice pa pres.length pc) pres w) (hsn : sigs.length ≤ 9000000000000000000) (hpn : pres.length ≤ 9000000000000000000) (hst : ∀ s ∈ sigs, s.length ≤ 9000000000000000000) (hpt : ∀ s ∈ pres, s.length ≤ 9000000000000000000)
  (ha : -9223372036854775808 ≤ after ∧ after ≤ 9223372036854775807) (hg : -9223372036854775808 ≤ age ∧ age ≤ 9223372036854775807) (hn : -9223372036854775808 ≤ n ∧ n ≤ 9223372036854775807) (hkn : kids.length ≤ 9000000000000000000) (hG : GOk w) (N : Nat) (ih : zd9_ N) (hcN : w1_ kids ≤ N) (hd : kids = [] ∨ ∃ b o, ad = some ⟨b, o, none⟩ ∧ b < w.heap.size ∧ q b ∧ x2_ q w kids b o) (b1 : (k == 1) = false) (b2 : (k == 2) = false) (b3 : (k == 3) = false) (b4 : (k == 4) = false) (b5 : (k == 5) = false) :
  Calls Tryz.prog 53 #[.agg #[.int .u8 k, .string (bs t), .int .i64 n, .slice ad kids.length c], .agg #[.slice sa sigs.length sc, .slice pa pres.length pc], .string (bs msg), .int .i64 after, .int .i64 age] w fun e w' =>
   e = .returned (.bool (kids.any (j9_ (sgP sigs msg) (prP pres) after age))) ∧ Below w.heap.size w w' := by
 have hsf := zcC_
 have HG0 := Lib.hid hG
 have HSV := Lib.hid hsv
 have HPV := Lib.hid hpv
 have HST := Lib.hid hst
 have HPT := Lib.hid hpt
 clear hG hsv hpv hst hpt
 have IH := Lib.hid ih
 have hd2 : ∀ W, GL [] w W → (kids = [] ∨ ∃ b o, ad = some ⟨b, o, none⟩ ∧ b < W.heap.size ∧ q b ∧ x2_ q W kids b o) := fun W hgW => by
  rcases hd with h | ⟨b, o, h1, h2, h3, h4⟩
  · exact .inl h
  · exact .inr ⟨b, o, h1, Nat.lt_of_lt_of_le h2 hgW.size, h3, zaM_ hgW kids b o h2 h3 h4⟩
 have HD := Lib.hid hd2
 clear ih hd hd2
 go_enter Tryz.func53, Tryz.ntmps53
 have hg0 : GL [] w w := z1_ _ _
 have hs0 : w.heap.size ≤ w.heap.size := Nat.le_refl _
 go_wp2_with fail
 have HLK1 := Lib.hid ((z8_ (z8_ (z8_ (z8_ (z8_ (z3_ w (.cells #[.int .u8 k, .string (bs t), .int .i64 n, .slice ad kids.length c] 25)) (.cells #[.slice sa sigs.length sc, .slice pa pres.length pc] 31)) (.cells #[.string (bs msg)] 22)) (.cells #[.int .i64 after] 3)) (.cells #[.int .i64 age] 3)) (.cells #[.func (.func 69) #[] #[.pointer (some ⟨w.heap.size + 1, 0, none⟩), .pointer (some ⟨w.heap.size + 1 + 1, 0, none⟩), .pointer (some ⟨w.heap.size + 1 + 1 + 1, 0, none⟩), .pointer (some ⟨w.heap.size + 1 + 1 + 1 + 1, 0, none⟩)]] 32)))
 have hZ_ := z3_ (w.alloc (.cells #[.int .u8 k, .string (bs t), .int .i64 n, .slice ad kids.length c] 25)) (.cells #[.slice sa sigs.length sc, .slice pa pres.length pc] 31)
 rw [show (w.alloc (.cells #[.int .u8 k, .string (bs t), .int .i64 n, .slice ad kids.length c] 25)).heap.size = w.heap.size + 1 by simp] at hZ_
 have HWT1 := Lib.hid ((z8_ (z8_ (z8_ (z8_ hZ_ (.cells #[.string (bs msg)] 22)) (.cells #[.int .i64 after] 3)) (.cells #[.int .i64 age] 3)) (.cells #[.func (.func 69) #[] #[.pointer (some ⟨w.heap.size + 1, 0, none⟩), .pointer (some ⟨w.heap.size + 1 + 1, 0, none⟩), .pointer (some ⟨w.heap.size + 1 + 1 + 1, 0, none⟩), .pointer (some ⟨w.heap.size + 1 + 1 + 1 + 1, 0, none⟩)]] 32)))
 clear hZ_
 have hZ_ := z3_ ((w.alloc (.cells #[.int .u8 k, .string (bs t), .int .i64 n, .slice ad kids.length c] 25)).alloc (.cells #[.slice sa sigs.length sc, .slice pa pres.length pc] 31)) (.cells #[.string (bs msg)] 22)
 rw [show ((w.alloc (.cells #[.int .u8 k, .string (bs t), .int .i64 n, .slice ad kids.length c] 25)).alloc (.cells #[.slice sa sigs.length sc, .slice pa pres.length pc] 31)).heap.size = w.heap.size + 1 + 1 by simp] at hZ_
 have HMS1 := Lib.hid ((z8_ (z8_ (z8_ hZ_ (.cells #[.int .i64 after] 3)) (.cells #[.int .i64 age] 3)) (.cells #[.func (.func 69) #[] #[.pointer (some ⟨w.heap.size + 1, 0, none⟩), .pointer (some ⟨w.heap.size + 1 + 1, 0, none⟩), .pointer (some ⟨w.heap.size + 1 + 1 + 1, 0, none⟩), .pointer (some ⟨w.heap.size + 1 + 1 + 1 + 1, 0, none⟩)]] 32)))
 clear hZ_
 have hZ_ := z3_ (((w.alloc (.cells #[.int .u8 k, .string (bs t), .int .i64 n, .slice ad kids.length c] 25)).alloc (.cells #[.slice sa sigs.length sc, .slice pa pres.length pc] 31)).alloc (.cells #[.string (bs msg)] 22)) (.cells #[.int .i64 after] 3)
 rw [show (((w.alloc (.cells #[.int .u8 k, .string (bs t), .int .i64 n, .slice ad kids.length c] 25)).alloc (.cells #[.slice sa sigs.length sc, .slice pa pres.length pc] 31)).alloc (.cells #[.string (bs msg)] 22)).heap.size = w.heap.size + 1 + 1 + 1 by simp] at hZ_
 have HAF1 := Lib.hid ((z8_ (z8_ hZ_ (.cells #[.int .i64 age] 3)) (.cells #[.func (.func 69) #[] #[.pointer (some ⟨w.heap.size + 1, 0, none⟩), .pointer (some ⟨w.heap.size + 1 + 1, 0, none⟩), .pointer (some ⟨w.heap.size + 1 + 1 + 1, 0, none⟩), .pointer (some ⟨w.heap.size + 1 + 1 + 1 + 1, 0, none⟩)]] 32)))
 clear hZ_
 have hZ_ := z3_ ((((w.alloc (.cells #[.int .u8 k, .string (bs t), .int .i64 n, .slice ad kids.length c] 25)).alloc (.cells #[.slice sa sigs.length sc, .slice pa pres.length pc] 31)).alloc (.cells #[.string (bs msg)] 22)).alloc (.cells #[.int .i64 after] 3)) (.cells #[.int .i64 age] 3)
 rw [show ((((w.alloc (.cells #[.int .u8 k, .string (bs t), .int .i64 n, .slice ad kids.length c] 25)).alloc (.cells #[.slice sa sigs.length sc, .slice pa pres.length pc] 31)).alloc (.cells #[.string (bs msg)] 22)).alloc (.cells #[.int .i64 after] 3)).heap.size = w.heap.size + 1 + 1 + 1 + 1 by simp] at hZ_
 have HAG1 := Lib.hid ((z8_ hZ_ (.cells #[.func (.func 69) #[] #[.pointer (some ⟨w.heap.size + 1, 0, none⟩), .pointer (some ⟨w.heap.size + 1 + 1, 0, none⟩), .pointer (some ⟨w.heap.size + 1 + 1 + 1, 0, none⟩), .pointer (some ⟨w.heap.size + 1 + 1 + 1 + 1, 0, none⟩)]] 32)))
 clear hZ_
 have hZ_ := z3_ (((((w.alloc (.cells #[.int .u8 k, .string (bs t), .int .i64 n, .slice ad kids.length c] 25)).alloc (.cells #[.slice sa sigs.length sc, .slice pa pres.length pc] 31)).alloc (.cells #[.string (bs msg)] 22)).alloc (.cells #[.int .i64 after] 3)).alloc (.cells #[.int .i64 age] 3)) (.cells #[.func (.func 69) #[] #[.pointer (some ⟨w.heap.size + 1, 0, none⟩), .pointer (some ⟨w.heap.size + 1 + 1, 0, none⟩), .pointer (some ⟨w.heap.size + 1 + 1 + 1, 0, none⟩), .pointer (some ⟨w.heap.size + 1 + 1 + 1 + 1, 0, none⟩)]] 32)
 rw [show (((((w.alloc (.cells #[.int .u8 k, .string (bs t), .int .i64 n, .slice ad kids.length c] 25)).alloc (.cells #[.slice sa sigs.length sc, .slice pa pres.length pc] 31)).alloc (.cells #[.string (bs msg)] 22)).alloc (.cells #[.int .i64 after] 3)).alloc (.cells #[.int .i64 age] 3)).heap.size = w.heap.size + 1 + 1 + 1 + 1 + 1 by simp] at hZ_
 have HWI1 := Lib.hid (hZ_)
 clear hZ_
 have HG1 := Lib.hid (y5_ (y5_ (y5_ (y5_ (y5_ (y5_ HG0.out (.cells #[.int .u8 k, .string (bs t), .int .i64 n, .slice ad kids.length c] 25)) (.cells #[.slice sa sigs.length sc, .slice pa pres.length pc] 31)) (.cells #[.string (bs msg)] 22)) (.cells #[.int .i64 after] 3)) (.cells #[.int .i64 age] 3)) (.cells #[.func (.func 69) #[] #[.pointer (some ⟨w.heap.size + 1, 0, none⟩), .pointer (some ⟨w.heap.size + 1 + 1, 0, none⟩), .pointer (some ⟨w.heap.size + 1 + 1 + 1, 0, none⟩), .pointer (some ⟨w.heap.size + 1 + 1 + 1 + 1, 0, none⟩)]] 32))
 have hg1 := z6_ (z6_ (z6_ (z6_ (z6_ (z6_ hg0 (.cells #[.int .u8 k, .string (bs t), .int .i64 n, .slice ad kids.length c] 25)) (.cells #[.slice sa sigs.length sc, .slice pa pres.length pc] 31)) (.cells #[.string (bs msg)] 22)) (.cells #[.int .i64 after] 3)) (.cells #[.int .i64 age] 3)) (.cells #[.func (.func 69) #[] #[.pointer (some ⟨w.heap.size + 1, 0, none⟩), .pointer (some ⟨w.heap.size + 1 + 1, 0, none⟩), .pointer (some ⟨w.heap.size + 1 + 1 + 1, 0, none⟩), .pointer (some ⟨w.heap.size + 1 + 1 + 1 + 1, 0, none⟩)]] 32)
 have geLK : w.heap.size ≤ w.heap.size := by have := hg0.size; omega
 have gnLK : gN ≤ w.heap.size := by have := HG0.out.size; omega
 have geWT : w.heap.size ≤ w.heap.size + 1 := by have := hg0.size; omega
 have gnWT : gN ≤ w.heap.size + 1 := by have := HG0.out.size; omega
 have ltLKWT : w.heap.size < w.heap.size + 1 := by omega
 have neLKWT : w.heap.size ≠ w.heap.size + 1 := by omega
 have neWTLK : w.heap.size + 1 ≠ w.heap.size := by omega
 have geMS : w.heap.size ≤ w.heap.size + 1 + 1 := by have := hg0.size; omega
 have gnMS : gN ≤ w.heap.size + 1 + 1 := by have := HG0.out.size; omega
 have ltLKMS : w.heap.size < w.heap.size + 1 + 1 := by omega
 have neLKMS : w.heap.size ≠ w.heap.size + 1 + 1 := by omega
 have neMSLK : w.heap.size + 1 + 1 ≠ w.heap.size := by omega
 have ltWTMS : w.heap.size + 1 < w.heap.size + 1 + 1 := by omega
 have neWTMS : w.heap.size + 1 ≠ w.heap.size + 1 + 1 := by omega
 have neMSWT : w.heap.size + 1 + 1 ≠ w.heap.size + 1 := by omega
 have geAF : w.heap.size ≤ w.heap.size + 1 + 1 + 1 := by have := hg0.size; omega
 have gnAF : gN ≤ w.heap.size + 1 + 1 + 1 := by have := HG0.out.size; omega
 have ltLKAF : w.heap.size < w.heap.size + 1 + 1 + 1 := by omega
 have neLKAF : w.heap.size ≠ w.heap.size + 1 + 1 + 1 := by omega
 have neAFLK : w.heap.size + 1 + 1 + 1 ≠ w.heap.size := by omega
 have ltWTAF : w.heap.size + 1 < w.heap.size + 1 + 1 + 1 := by omega
 have neWTAF : w.heap.size + 1 ≠ w.heap.size + 1 + 1 + 1 := by omega
 have neAFWT : w.heap.size + 1 + 1 + 1 ≠ w.heap.size + 1 := by omega
 have ltMSAF : w.heap.size + 1 + 1 < w.heap.size + 1 + 1 + 1 := by omega
 have neMSAF : w.heap.size + 1 + 1 ≠ w.heap.size + 1 + 1 + 1 := by omega
 have neAFMS : w.heap.size + 1 + 1 + 1 ≠ w.heap.size + 1 + 1 := by omega
 have geAG : w.heap.size ≤ w.heap.size + 1 + 1 + 1 + 1 := by have := hg0.size; omega
 have gnAG : gN ≤ w.heap.size + 1 + 1 + 1 + 1 := by have := HG0.out.size; omega
 have ltLKAG : w.heap.size < w.heap.size + 1 + 1 + 1 + 1 := by omega
 have neLKAG : w.heap.size ≠ w.heap.size + 1 + 1 + 1 + 1 := by omega
 have neAGLK : w.heap.size + 1 + 1 + 1 + 1 ≠ w.heap.size := by omega
 have ltWTAG : w.heap.size + 1 < w.heap.size + 1 + 1 + 1 + 1 := by omega
 have neWTAG : w.heap.size + 1 ≠ w.heap.size + 1 + 1 + 1 + 1 := by omega
 have neAGWT : w.heap.size + 1 + 1 + 1 + 1 ≠ w.heap.size + 1 := by omega
 have ltMSAG : w.heap.size + 1 + 1 < w.heap.size + 1 + 1 + 1 + 1 := by omega
 have neMSAG : w.heap.size + 1 + 1 ≠ w.heap.size + 1 + 1 + 1 + 1 := by omega
 have neAGMS : w.heap.size + 1 + 1 + 1 + 1 ≠ w.heap.size + 1 + 1 := by omega
 have ltAFAG : w.heap.size + 1 + 1 + 1 < w.heap.size + 1 + 1 + 1 + 1 := by omega
 have neAFAG : w.heap.size + 1 + 1 + 1 ≠ w.heap.size + 1 + 1 + 1 + 1 := by omega
 have neAGAF : w.heap.size + 1 + 1 + 1 + 1 ≠ w.heap.size + 1 + 1 + 1 := by omega
 have geWI : w.heap.size ≤ w.heap.size + 1 + 1 + 1 + 1 + 1 := by have := hg0.size; omega
 have gnWI : gN ≤ w.heap.size + 1 + 1 + 1 + 1 + 1 := by have := HG0.out.size; omega
 have ltLKWI : w.heap.size < w.heap.size + 1 + 1 + 1 + 1 + 1 := by omega
 have neLKWI : w.heap.size ≠ w.heap.size + 1 + 1 + 1 + 1 + 1 := by omega
 have neWILK : w.heap.size + 1 + 1 + 1 + 1 + 1 ≠ w.heap.size := by omega
 have ltWTWI : w.heap.size + 1 < w.heap.size + 1 + 1 + 1 + 1 + 1 := by omega
 have neWTWI : w.heap.size + 1 ≠ w.heap.size + 1 + 1 + 1 + 1 + 1 := by omega
 have neWIWT : w.heap.size + 1 + 1 + 1 + 1 + 1 ≠ w.heap.size + 1 := by omega
 have ltMSWI : w.heap.size + 1 + 1 < w.heap.size + 1 + 1 + 1 + 1 + 1 := by omega
 have neMSWI : w.heap.size + 1 + 1 ≠ w.heap.size + 1 + 1 + 1 + 1 + 1 := by omega
 have neWIMS : w.heap.size + 1 + 1 + 1 + 1 + 1 ≠ w.heap.size + 1 + 1 := by omega
 have ltAFWI : w.heap.size + 1 + 1 + 1 < w.heap.size + 1 + 1 + 1 + 1 + 1 := by omega
 have neAFWI : w.heap.size + 1 + 1 + 1 ≠ w.heap.size + 1 + 1 + 1 + 1 + 1 := by omega
 have neWIAF : w.heap.size + 1 + 1 + 1 + 1 + 1 ≠ w.heap.size + 1 + 1 + 1 := by omega
 have ltAGWI : w.heap.size + 1 + 1 + 1 + 1 < w.heap.size + 1 + 1 + 1 + 1 + 1 := by omega
 have neAGWI : w.heap.size + 1 + 1 + 1 + 1 ≠ w.heap.size + 1 + 1 + 1 + 1 + 1 := by omega
 have neWIAG : w.heap.size + 1 + 1 + 1 + 1 + 1 ≠ w.heap.size + 1 + 1 + 1 + 1 := by omega
 generalize ((((((w.alloc (.cells #[.int .u8 k, .string (bs t), .int .i64 n, .slice ad kids.length c] 25)).alloc (.cells #[.slice sa sigs.length sc, .slice pa pres.length pc] 31)).alloc (.cells #[.string (bs msg)] 22)).alloc (.cells #[.int .i64 after] 3)).alloc (.cells #[.int .i64 age] 3)).alloc (.cells #[.func (.func 69) #[] #[.pointer (some ⟨w.heap.size + 1, 0, none⟩), .pointer (some ⟨w.heap.size + 1 + 1, 0, none⟩), .pointer (some ⟨w.heap.size + 1 + 1 + 1, 0, none⟩), .pointer (some ⟨w.heap.size + 1 + 1 + 1 + 1, 0, none⟩)]] 32)) = w1 at *
 generalize w.heap.size + 1 + 1 + 1 + 1 + 1 = WI at *
 generalize w.heap.size + 1 + 1 + 1 + 1 = AG at *
 generalize w.heap.size + 1 + 1 + 1 = AF at *
 generalize w.heap.size + 1 + 1 = MS at *
 generalize w.heap.size + 1 = WT at *
 generalize w.heap.size = LK at *
 have hs1 := hg1.size
 have hW := lkO1 N IH.out q WT MS AF AG sa pa sc pc sigs pres msg after age w1 HWT1.out HMS1.out HAF1.out HAG1.out (y4_ HSV.out hg1) (y4_ HPV.out hg1) hsn hpn HST.out HPT.out ha hg HG1.out
 have HW := Lib.hid hW
 clear hW
 have hd1 := HD.out w1 hg1
 refine (zgE_ 69 _ (fun _ _ => by kernel_rfl) (j9_ (sgP sigs msg) (prP pres) after age) kids hkn q _ _ _ hd1 (fun W x u hx hgw hL => ?_)).mono ?_
 · have hcx : x3_ x ≤ N := by have := zaN_ kids x hx; omega
   exact HW.out W x u hcx hgw hL
 rintro e w2 ⟨rfl, hb2⟩
 go_wp2_with fail
 go_ret
 exact ⟨by first | rfl | (simp; done), x0_ (z4_ hb2 hg1)⟩
theorem zfd_ : ∀ N, zd9_ N
 | 0 => fun x q v sv pv sigs pres msg after age w hN _ _ _ _ _ _ _ _ _ _ => by have := j5_ x; omega
 | N + 1 => fun x q v sv pv sigs pres msg after age w hN hL hS hP hsn hpn hst hpt ha hg hG => by
   obtain ⟨k, t, n, kids⟩ := x
   obtain ⟨ad, c, rfl, ⟨hk0, hk1⟩, hn, ht, hkl, hd⟩ := y3_ hL
   obtain ⟨sa, sc, rfl, _⟩ := za6_ hS
   obtain ⟨pa, pc, rfl, _⟩ := za6_ hP
   rw [x3_] at hN
   rw [j9_]
   by_cases h1 : k = 1
   · subst h1; rw [if_pos rfl]
     exact zk6_ n t kids ad c sa pa sc pc sigs pres msg after age w q hS hP hsn hpn hst hpt ha hg hn hkl hG
   rw [if_neg h1]
   by_cases h2 : k = 2
   · subst h2; rw [if_pos rfl]
     exact zk7_ n t kids ad c sa pa sc pc sigs pres msg after age w q hS hP hsn hpn hst hpt ha hg hn hkl hG
   rw [if_neg h2]
   by_cases h3 : k = 3
   · subst h3; rw [if_pos rfl]
     exact zk8_ n t kids ad c sa pa sc pc sigs pres msg after age w q hS hP hsn hpn hst hpt ha hg hn hkl hG
   rw [if_neg h3]
   by_cases h4 : k = 4
   · subst h4; rw [if_pos rfl]
     exact zk9_ n t kids ad c sa pa sc pc sigs pres msg after age w q hS hP hsn hpn hst hpt ha hg hn hkl hG
   rw [if_neg h4]
   by_cases h5 : k = 5
   · subst h5; rw [if_pos rfl, zhg_]
     exact zlb_ n t kids ad c sa pa sc pc sigs pres msg after age w q hS hP hsn hpn hst hpt ha hg hn hkl hG N (zfd_ N) om_ hd
   rw [if_neg h5, zfc_]
   exact zlc_ k n t kids ad c sa pa sc pc sigs pres msg after age w q hS hP hsn hpn hst hpt ha hg hn hkl hG N (zfd_ N) om_ hd (k5_ h1) (k5_ h2) (k5_ h3) (k5_ h4) (k5_ h5)
theorem zaV_ (x : LT) (q : Nat → Prop) (v sv pv : Value) (sigs pres : List (List UInt8)) (msg : List UInt8) (after age : Int) (w : World) (hL : y2_ q w x v) (hS : x5_ sv sigs w) (hP : x5_ pv pres w)
  (hsn : sigs.length ≤ 9000000000000000000) (hpn : pres.length ≤ 9000000000000000000) (hst : ∀ s ∈ sigs, s.length ≤ 9000000000000000000) (hpt : ∀ s ∈ pres, s.length ≤ 9000000000000000000)
  (ha : -9223372036854775808 ≤ after ∧ after ≤ 9223372036854775807) (hg : -9223372036854775808 ≤ age ∧ age ≤ 9223372036854775807) (hG : GOk w) :
  Calls Tryz.prog 37 #[v, .agg #[sv, pv], .string (bs msg), .int .i64 after, .int .i64 age] w fun e w' => e = .returned (.bool (k4_ sigs pres msg after age x)) ∧ Below w.heap.size w w' := by
 have hc := fun (W : World) (hgw : GL [] w W) => zfd_ (x3_ x).toNat x q v sv pv sigs pres msg after age W (by have := j5_ x; omega) (z7_ hgw _ _ hL) (y4_ hS hgw) (y4_ hP hgw) hsn hpn hst hpt ha hg (x4_ hG hgw si_)
 have hr := fun (W : World) (hgw : GL [] w W) => zbf_ x q v W (z7_ hgw _ _ hL) (x4_ hG hgw si_)
 obtain ⟨sa, sc, rfl, _⟩ := za6_ hS
 obtain ⟨pa, pc, rfl, _⟩ := za6_ hP
 have H : Hid (k4_ sigs pres msg after age x = (w7_ x && decide (sigs.length ≤ 16) && decide (pres.length ≤ 16) && j9_ (sgP sigs msg) (prP pres) after age x)) := rfl
 generalize j9_ (sgP sigs msg) (prP pres) after age x = z at *
 generalize w7_ x = y at *
 obtain ⟨k, t, n, kids⟩ := x
 obtain ⟨ad, c, rfl, _⟩ := y3_ hL
 have HC := Lib.hid hc
 have HR := Lib.hid hr
 clear hc hr hL hS hP hst hpt hG
 have hg0 : GL [] w w := z1_ _ _
 cases y with
 | false =>
   go_enter Tryz.func37, Tryz.ntmps37
   go_wp2_with fail
   refine (HR.out _ gl_).mono ?_
   rintro e w1 ⟨rfl, hb1⟩
   go_wp2_with fail
   go_ret
   exact ⟨by rw [H.out]; rfl, bl_⟩
 | true =>
   by_cases h1 : sigs.length ≤ 16
   · have b1 : decide ((sigs.length : Int) ≤ 16) = true := by simp; omega
     by_cases h2 : pres.length ≤ 16
     · have b2 : decide ((pres.length : Int) ≤ 16) = true := by simp; omega
       have HH : Hid (k4_ sigs pres msg after age (.mk k t n kids) = z) := by show _ = _; rw [H.out]; simp [h1, h2]
       go_enter Tryz.func37, Tryz.ntmps37
       go_wp2_with fail
       refine (HR.out _ gl_).mono ?_
       rintro e w1 ⟨rfl, hb1⟩
       have g1 := z9_ (z8_ (z3_ w (.cells #[.int .u8 k, .string (bs t), .int .i64 n, .slice ad kids.length c] 25)) (.cells #[.slice sa sigs.length sc, .slice pa pres.length pc] 31)) hb1 so_
       have g2 := z9_ (z3_ (w.alloc (.cells #[.int .u8 k, .string (bs t), .int .i64 n, .slice ad kids.length c] 25)) (.cells #[.slice sa sigs.length sc, .slice pa pres.length pc] 31)) hb1 si_
       rw [show (w.alloc (.cells #[.int .u8 k, .string (bs t), .int .i64 n, .slice ad kids.length c] 25)).heap.size = w.heap.size + 1 by simp] at g2
       have f1 := z2_ g1
       have e1 := z5_ g1
       have f2 := z2_ g2
       have e2 := z5_ g2
       clear g1 g2
       go_wp2_with fail
       refine (HC.out _ (z4_ hb1 gl_)).mono ?_
       rintro e w2 ⟨rfl, hb2⟩
       go_wp2_with fail
       go_ret
       exact ⟨by rw [HH.out]; rfl, bl_⟩
     · have b2 : decide ((pres.length : Int) ≤ 16) = false := by simp; omega
       have HH : Hid (k4_ sigs pres msg after age (.mk k t n kids) = false) := by show _ = _; rw [H.out]; simp [h2]
       go_enter Tryz.func37, Tryz.ntmps37
       go_wp2_with fail
       refine (HR.out _ gl_).mono ?_
       rintro e w1 ⟨rfl, hb1⟩
       have g2 := z9_ (z3_ (w.alloc (.cells #[.int .u8 k, .string (bs t), .int .i64 n, .slice ad kids.length c] 25)) (.cells #[.slice sa sigs.length sc, .slice pa pres.length pc] 31)) hb1 si_
       rw [show (w.alloc (.cells #[.int .u8 k, .string (bs t), .int .i64 n, .slice ad kids.length c] 25)).heap.size = w.heap.size + 1 by simp] at g2
       have f2 := z2_ g2
       have e2 := z5_ g2
       clear g2
       go_wp2_with fail
       go_ret
       exact ⟨by rw [HH.out]; rfl, bl_⟩
   · have b1 : decide ((sigs.length : Int) ≤ 16) = false := by simp; omega
     have HH : Hid (k4_ sigs pres msg after age (.mk k t n kids) = false) := by show _ = _; rw [H.out]; simp [h1]
     go_enter Tryz.func37, Tryz.ntmps37
     go_wp2_with fail
     refine (HR.out _ gl_).mono ?_
     rintro e w1 ⟨rfl, hb1⟩
     have g2 := z9_ (z3_ (w.alloc (.cells #[.int .u8 k, .string (bs t), .int .i64 n, .slice ad kids.length c] 25)) (.cells #[.slice sa sigs.length sc, .slice pa pres.length pc] 31)) hb1 si_
     rw [show (w.alloc (.cells #[.int .u8 k, .string (bs t), .int .i64 n, .slice ad kids.length c] 25)).heap.size = w.heap.size + 1 by simp] at g2
     have f2 := z2_ g2
     have e2 := z5_ g2
     clear g2
     go_wp2_with fail
     go_ret
     exact ⟨by rw [HH.out]; rfl, bl_⟩
def zld_ (w : World) (o : Option LT) (e : Ending) (w' : World) : Prop := Below w.heap.size w w' ∧
 match o with
 | none => e = .returned (.tuple #[.agg #[.int .u8 0, .string (bs []), .int .i64 0, .slice none 0 0], .int .i64 110])
 | some x => ∃ v, e = .returned (.tuple #[v, .int .i64 0]) ∧ y2_ (fun b => w.heap.size ≤ b) w' x v
theorem zbg_ (s : List UInt8) (hsl : s.length ≤ 100000000000) (w : World) (hG : GOk w) :
  Calls Tryz.prog 35 #[.string (bs s)] w (zld_ w (k8_ v4_ q6_ s)) := by
 have hsf := zcC_
 have HG0 := Lib.hid hG
 clear hG
 have hP : k8_ v4_ q6_ s = match w2_ v4_ q6_ 65 64 s with | some (x, [], _) => if w7_ x then some x else none | _ => none := rfl
 cases ho : w2_ v4_ q6_ 65 64 s with
 | none =>
   have HP : Hid (k8_ v4_ q6_ s = none) := by show _ = none; rw [hP, ho]
   have HO := Lib.hid ho
   clear hP ho
   go_enter Tryz.func35, Tryz.ntmps35
   have hg0 : GL [] w w := z1_ _ _
   have hs0 : w.heap.size ≤ w.heap.size := Nat.le_refl _
   go_wp2_with fail
   have hle : k0_ w ≤ w.heap.size ∧ w.heap.size ≤ k0_ w := ⟨Nat.le_refl _, Nat.le_refl _⟩
   have HS1 := Lib.hid ((z8_ (z8_ (z8_ (z3_ w (.cells #[.string (bs s)] 9)) zl_) (.cells #[.int .i64 64] 3)) (.cells #[.func (.func 49) #[] #[.pointer (some ⟨w.heap.size, 0, none⟩), .pointer (some ⟨w.heap.size + 1 + 1, 0, none⟩), .pointer (some ⟨w.heap.size + 1 + 1 + 1, 0, none⟩)]] 62)))
   have hZ_ := z3_ (w.alloc (.cells #[.string (bs s)] 9)) zl_
   rw [show (w.alloc (.cells #[.string (bs s)] 9)).heap.size = w.heap.size + 1 by simp] at hZ_
   have HRES1 := Lib.hid ((z8_ (z8_ hZ_ (.cells #[.int .i64 64] 3)) (.cells #[.func (.func 49) #[] #[.pointer (some ⟨w.heap.size, 0, none⟩), .pointer (some ⟨w.heap.size + 1 + 1, 0, none⟩), .pointer (some ⟨w.heap.size + 1 + 1 + 1, 0, none⟩)]] 62)))
   clear hZ_
   have hZ_ := z3_ ((w.alloc (.cells #[.string (bs s)] 9)).alloc zl_) (.cells #[.int .i64 64] 3)
   rw [show ((w.alloc (.cells #[.string (bs s)] 9)).alloc zl_).heap.size = w.heap.size + 1 + 1 by simp] at hZ_
   have HR1 := Lib.hid ((z8_ hZ_ (.cells #[.func (.func 49) #[] #[.pointer (some ⟨w.heap.size, 0, none⟩), .pointer (some ⟨w.heap.size + 1 + 1, 0, none⟩), .pointer (some ⟨w.heap.size + 1 + 1 + 1, 0, none⟩)]] 62)))
   clear hZ_
   have hZ_ := z3_ (((w.alloc (.cells #[.string (bs s)] 9)).alloc zl_).alloc (.cells #[.int .i64 64] 3)) (.cells #[.func (.func 49) #[] #[.pointer (some ⟨w.heap.size, 0, none⟩), .pointer (some ⟨w.heap.size + 1 + 1, 0, none⟩), .pointer (some ⟨w.heap.size + 1 + 1 + 1, 0, none⟩)]] 62)
   rw [show (((w.alloc (.cells #[.string (bs s)] 9)).alloc zl_).alloc (.cells #[.int .i64 64] 3)).heap.size = w.heap.size + 1 + 1 + 1 by simp] at hZ_
   have HF1 := Lib.hid (hZ_)
   clear hZ_
   have HG1 := Lib.hid (y5_ (y5_ (y5_ (y5_ HG0.out (.cells #[.string (bs s)] 9)) zl_) (.cells #[.int .i64 64] 3)) (.cells #[.func (.func 49) #[] #[.pointer (some ⟨w.heap.size, 0, none⟩), .pointer (some ⟨w.heap.size + 1 + 1, 0, none⟩), .pointer (some ⟨w.heap.size + 1 + 1 + 1, 0, none⟩)]] 62))
   have hg1 := z6_ (z6_ (z6_ (z6_ hg0 (.cells #[.string (bs s)] 9)) zl_) (.cells #[.int .i64 64] 3)) (.cells #[.func (.func 49) #[] #[.pointer (some ⟨w.heap.size, 0, none⟩), .pointer (some ⟨w.heap.size + 1 + 1, 0, none⟩), .pointer (some ⟨w.heap.size + 1 + 1 + 1, 0, none⟩)]] 62)
   have geS : w.heap.size ≤ w.heap.size := by have := hg0.size; omega
   have gnS : gN ≤ w.heap.size := by have := HG0.out.size; omega
   have geRES : w.heap.size ≤ w.heap.size + 1 := by have := hg0.size; omega
   have gnRES : gN ≤ w.heap.size + 1 := by have := HG0.out.size; omega
   have ltSRES : w.heap.size < w.heap.size + 1 := by omega
   have neSRES : w.heap.size ≠ w.heap.size + 1 := by omega
   have neRESS : w.heap.size + 1 ≠ w.heap.size := by omega
   have geR : w.heap.size ≤ w.heap.size + 1 + 1 := by have := hg0.size; omega
   have gnR : gN ≤ w.heap.size + 1 + 1 := by have := HG0.out.size; omega
   have ltSR : w.heap.size < w.heap.size + 1 + 1 := by omega
   have neSR : w.heap.size ≠ w.heap.size + 1 + 1 := by omega
   have neRS : w.heap.size + 1 + 1 ≠ w.heap.size := by omega
   have ltRESR : w.heap.size + 1 < w.heap.size + 1 + 1 := by omega
   have neRESR : w.heap.size + 1 ≠ w.heap.size + 1 + 1 := by omega
   have neRRES : w.heap.size + 1 + 1 ≠ w.heap.size + 1 := by omega
   have geF : w.heap.size ≤ w.heap.size + 1 + 1 + 1 := by have := hg0.size; omega
   have gnF : gN ≤ w.heap.size + 1 + 1 + 1 := by have := HG0.out.size; omega
   have ltSF : w.heap.size < w.heap.size + 1 + 1 + 1 := by omega
   have neSF : w.heap.size ≠ w.heap.size + 1 + 1 + 1 := by omega
   have neFS : w.heap.size + 1 + 1 + 1 ≠ w.heap.size := by omega
   have ltRESF : w.heap.size + 1 < w.heap.size + 1 + 1 + 1 := by omega
   have neRESF : w.heap.size + 1 ≠ w.heap.size + 1 + 1 + 1 := by omega
   have neFRES : w.heap.size + 1 + 1 + 1 ≠ w.heap.size + 1 := by omega
   have ltRF : w.heap.size + 1 + 1 < w.heap.size + 1 + 1 + 1 := by omega
   have neRF : w.heap.size + 1 + 1 ≠ w.heap.size + 1 + 1 + 1 := by omega
   have neFR : w.heap.size + 1 + 1 + 1 ≠ w.heap.size + 1 + 1 := by omega
   generalize ((((w.alloc (.cells #[.string (bs s)] 9)).alloc zl_).alloc (.cells #[.int .i64 64] 3)).alloc (.cells #[.func (.func 49) #[] #[.pointer (some ⟨w.heap.size, 0, none⟩), .pointer (some ⟨w.heap.size + 1 + 1, 0, none⟩), .pointer (some ⟨w.heap.size + 1 + 1 + 1, 0, none⟩)]] 62)) = w1 at *
   generalize w.heap.size + 1 + 1 + 1 = F at *
   generalize w.heap.size + 1 + 1 = R at *
   generalize w.heap.size + 1 = RES at *
   generalize w.heap.size = S at *
   have hs1 := hg1.size
   have hSw : w.heap.size ≤ S := hle.1
   refine (zc5_ 65 S R F s 64 _ om_ hsl om_ om_ om_ om_ gnS gnR HS1.out HR1.out HF1.out HG1.out).mono ?_
   rintro e w2 ⟨hgl2, hp⟩
   rw [HO.out] at hp
   have hg2 : GL [] w w2 := x1_ hgl2 hg1 so_
   have HRES2 := Lib.hid (y7_ HRES1.out hgl2 so_)
   have HG2 := Lib.hid (x4_ HG0.out hg2 si_)
   obtain ⟨k, n, t, ad, m, c, rfl⟩ := hp
   have f1 := z2_ HRES2.out
   have f2 := z5_ HRES2.out
   have f3 := z0_ HRES2.out
   go_wp2
   refine bodyPost_ret (v := .tuple #[.agg #[.int .u8 0, .string (bs []), .int .i64 0, .slice none 0 0], .int .i64 110]) (by simp [results, Tryz.results35, go_sem, zaP_, f1, f2, f3]) rfl ?_
   rw [HP.out]
   exact ⟨x0_ gl_, rfl⟩
 | some z =>
   obtain ⟨x, s2, r2⟩ := z
   match s2, ho with
   | c0 :: q0, ho =>
     have HP : Hid (k8_ v4_ q6_ s = none) := by show _ = none; rw [hP, ho]
     have HO := Lib.hid ho
     clear hP ho
     go_enter Tryz.func35, Tryz.ntmps35
     have hg0 : GL [] w w := z1_ _ _
     have hs0 : w.heap.size ≤ w.heap.size := Nat.le_refl _
     go_wp2_with fail
     have hle : k0_ w ≤ w.heap.size ∧ w.heap.size ≤ k0_ w := ⟨Nat.le_refl _, Nat.le_refl _⟩
     have HS1 := Lib.hid ((z8_ (z8_ (z8_ (z3_ w (.cells #[.string (bs s)] 9)) zl_) (.cells #[.int .i64 64] 3)) (.cells #[.func (.func 49) #[] #[.pointer (some ⟨w.heap.size, 0, none⟩), .pointer (some ⟨w.heap.size + 1 + 1, 0, none⟩), .pointer (some ⟨w.heap.size + 1 + 1 + 1, 0, none⟩)]] 62)))
     have hZ_ := z3_ (w.alloc (.cells #[.string (bs s)] 9)) zl_
     rw [show (w.alloc (.cells #[.string (bs s)] 9)).heap.size = w.heap.size + 1 by simp] at hZ_
     have HRES1 := Lib.hid ((z8_ (z8_ hZ_ (.cells #[.int .i64 64] 3)) (.cells #[.func (.func 49) #[] #[.pointer (some ⟨w.heap.size, 0, none⟩), .pointer (some ⟨w.heap.size + 1 + 1, 0, none⟩), .pointer (some ⟨w.heap.size + 1 + 1 + 1, 0, none⟩)]] 62)))
     clear hZ_
     have hZ_ := z3_ ((w.alloc (.cells #[.string (bs s)] 9)).alloc zl_) (.cells #[.int .i64 64] 3)
     rw [show ((w.alloc (.cells #[.string (bs s)] 9)).alloc zl_).heap.size = w.heap.size + 1 + 1 by simp] at hZ_
     have HR1 := Lib.hid ((z8_ hZ_ (.cells #[.func (.func 49) #[] #[.pointer (some ⟨w.heap.size, 0, none⟩), .pointer (some ⟨w.heap.size + 1 + 1, 0, none⟩), .pointer (some ⟨w.heap.size + 1 + 1 + 1, 0, none⟩)]] 62)))
     clear hZ_
     have hZ_ := z3_ (((w.alloc (.cells #[.string (bs s)] 9)).alloc zl_).alloc (.cells #[.int .i64 64] 3)) (.cells #[.func (.func 49) #[] #[.pointer (some ⟨w.heap.size, 0, none⟩), .pointer (some ⟨w.heap.size + 1 + 1, 0, none⟩), .pointer (some ⟨w.heap.size + 1 + 1 + 1, 0, none⟩)]] 62)
     rw [show (((w.alloc (.cells #[.string (bs s)] 9)).alloc zl_).alloc (.cells #[.int .i64 64] 3)).heap.size = w.heap.size + 1 + 1 + 1 by simp] at hZ_
     have HF1 := Lib.hid (hZ_)
     clear hZ_
     have HG1 := Lib.hid (y5_ (y5_ (y5_ (y5_ HG0.out (.cells #[.string (bs s)] 9)) zl_) (.cells #[.int .i64 64] 3)) (.cells #[.func (.func 49) #[] #[.pointer (some ⟨w.heap.size, 0, none⟩), .pointer (some ⟨w.heap.size + 1 + 1, 0, none⟩), .pointer (some ⟨w.heap.size + 1 + 1 + 1, 0, none⟩)]] 62))
     have hg1 := z6_ (z6_ (z6_ (z6_ hg0 (.cells #[.string (bs s)] 9)) zl_) (.cells #[.int .i64 64] 3)) (.cells #[.func (.func 49) #[] #[.pointer (some ⟨w.heap.size, 0, none⟩), .pointer (some ⟨w.heap.size + 1 + 1, 0, none⟩), .pointer (some ⟨w.heap.size + 1 + 1 + 1, 0, none⟩)]] 62)
     have geS : w.heap.size ≤ w.heap.size := by have := hg0.size; omega
     have gnS : gN ≤ w.heap.size := by have := HG0.out.size; omega
     have geRES : w.heap.size ≤ w.heap.size + 1 := by have := hg0.size; omega
     have gnRES : gN ≤ w.heap.size + 1 := by have := HG0.out.size; omega
     have ltSRES : w.heap.size < w.heap.size + 1 := by omega
     have neSRES : w.heap.size ≠ w.heap.size + 1 := by omega
     have neRESS : w.heap.size + 1 ≠ w.heap.size := by omega
     have geR : w.heap.size ≤ w.heap.size + 1 + 1 := by have := hg0.size; omega
     have gnR : gN ≤ w.heap.size + 1 + 1 := by have := HG0.out.size; omega
     have ltSR : w.heap.size < w.heap.size + 1 + 1 := by omega
     have neSR : w.heap.size ≠ w.heap.size + 1 + 1 := by omega
     have neRS : w.heap.size + 1 + 1 ≠ w.heap.size := by omega
     have ltRESR : w.heap.size + 1 < w.heap.size + 1 + 1 := by omega
     have neRESR : w.heap.size + 1 ≠ w.heap.size + 1 + 1 := by omega
     have neRRES : w.heap.size + 1 + 1 ≠ w.heap.size + 1 := by omega
     have geF : w.heap.size ≤ w.heap.size + 1 + 1 + 1 := by have := hg0.size; omega
     have gnF : gN ≤ w.heap.size + 1 + 1 + 1 := by have := HG0.out.size; omega
     have ltSF : w.heap.size < w.heap.size + 1 + 1 + 1 := by omega
     have neSF : w.heap.size ≠ w.heap.size + 1 + 1 + 1 := by omega
     have neFS : w.heap.size + 1 + 1 + 1 ≠ w.heap.size := by omega
     have ltRESF : w.heap.size + 1 < w.heap.size + 1 + 1 + 1 := by omega
     have neRESF : w.heap.size + 1 ≠ w.heap.size + 1 + 1 + 1 := by omega
     have neFRES : w.heap.size + 1 + 1 + 1 ≠ w.heap.size + 1 := by omega
     have ltRF : w.heap.size + 1 + 1 < w.heap.size + 1 + 1 + 1 := by omega
     have neRF : w.heap.size + 1 + 1 ≠ w.heap.size + 1 + 1 + 1 := by omega
     have neFR : w.heap.size + 1 + 1 + 1 ≠ w.heap.size + 1 + 1 := by omega
     generalize ((((w.alloc (.cells #[.string (bs s)] 9)).alloc zl_).alloc (.cells #[.int .i64 64] 3)).alloc (.cells #[.func (.func 49) #[] #[.pointer (some ⟨w.heap.size, 0, none⟩), .pointer (some ⟨w.heap.size + 1 + 1, 0, none⟩), .pointer (some ⟨w.heap.size + 1 + 1 + 1, 0, none⟩)]] 62)) = w1 at *
     generalize w.heap.size + 1 + 1 + 1 = F at *
     generalize w.heap.size + 1 + 1 = R at *
     generalize w.heap.size + 1 = RES at *
     generalize w.heap.size = S at *
     have hs1 := hg1.size
     have hSw : w.heap.size ≤ S := hle.1
     refine (zc5_ 65 S R F s 64 _ om_ hsl om_ om_ om_ om_ gnS gnR HS1.out HR1.out HF1.out HG1.out).mono ?_
     rintro e w2 ⟨hgl2, hp⟩
     rw [HO.out] at hp
     have hg2 : GL [] w w2 := x1_ hgl2 hg1 so_
     have HRES2 := Lib.hid (y7_ HRES1.out hgl2 so_)
     have HG2 := Lib.hid (x4_ HG0.out hg2 si_)
     obtain ⟨v, rfl, hlv, hS2, hR2⟩ := hp
     obtain ⟨k, t, n, kids⟩ := x
     obtain ⟨ad, c, rfl, _⟩ := y3_ hlv
     clear hlv hR2
     have f1 := z2_ HRES2.out
     have f2 := z5_ HRES2.out
     have f3 := z0_ HRES2.out
     have f4 := z2_ hS2
     have f5 := z5_ hS2
     have f6 := z0_ hS2
     go_wp2
     refine bodyPost_ret (v := .tuple #[.agg #[.int .u8 0, .string (bs []), .int .i64 0, .slice none 0 0], .int .i64 110]) (by simp [results, Tryz.results35, go_sem, zaP_, f1, f2, f3]) rfl ?_
     rw [HP.out]
     exact ⟨x0_ gl_, rfl⟩
   | [], ho =>
     cases hr : w7_ x with
     | false =>
       have HP : Hid (k8_ v4_ q6_ s = none) := by show _ = none; rw [hP, ho]; simp [hr]
       have HO := Lib.hid ho
       have HR := Lib.hid hr
       clear hP ho hr
       go_enter Tryz.func35, Tryz.ntmps35
       have hg0 : GL [] w w := z1_ _ _
       have hs0 : w.heap.size ≤ w.heap.size := Nat.le_refl _
       go_wp2_with fail
       have hle : k0_ w ≤ w.heap.size ∧ w.heap.size ≤ k0_ w := ⟨Nat.le_refl _, Nat.le_refl _⟩
       have HS1 := Lib.hid ((z8_ (z8_ (z8_ (z3_ w (.cells #[.string (bs s)] 9)) zl_) (.cells #[.int .i64 64] 3)) (.cells #[.func (.func 49) #[] #[.pointer (some ⟨w.heap.size, 0, none⟩), .pointer (some ⟨w.heap.size + 1 + 1, 0, none⟩), .pointer (some ⟨w.heap.size + 1 + 1 + 1, 0, none⟩)]] 62)))
       have hZ_ := z3_ (w.alloc (.cells #[.string (bs s)] 9)) zl_
       rw [show (w.alloc (.cells #[.string (bs s)] 9)).heap.size = w.heap.size + 1 by simp] at hZ_
       have HRES1 := Lib.hid ((z8_ (z8_ hZ_ (.cells #[.int .i64 64] 3)) (.cells #[.func (.func 49) #[] #[.pointer (some ⟨w.heap.size, 0, none⟩), .pointer (some ⟨w.heap.size + 1 + 1, 0, none⟩), .pointer (some ⟨w.heap.size + 1 + 1 + 1, 0, none⟩)]] 62)))
       clear hZ_
       have hZ_ := z3_ ((w.alloc (.cells #[.string (bs s)] 9)).alloc zl_) (.cells #[.int .i64 64] 3)
       rw [show ((w.alloc (.cells #[.string (bs s)] 9)).alloc zl_).heap.size = w.heap.size + 1 + 1 by simp] at hZ_
       have HR1 := Lib.hid ((z8_ hZ_ (.cells #[.func (.func 49) #[] #[.pointer (some ⟨w.heap.size, 0, none⟩), .pointer (some ⟨w.heap.size + 1 + 1, 0, none⟩), .pointer (some ⟨w.heap.size + 1 + 1 + 1, 0, none⟩)]] 62)))
       clear hZ_
       have hZ_ := z3_ (((w.alloc (.cells #[.string (bs s)] 9)).alloc zl_).alloc (.cells #[.int .i64 64] 3)) (.cells #[.func (.func 49) #[] #[.pointer (some ⟨w.heap.size, 0, none⟩), .pointer (some ⟨w.heap.size + 1 + 1, 0, none⟩), .pointer (some ⟨w.heap.size + 1 + 1 + 1, 0, none⟩)]] 62)
       rw [show (((w.alloc (.cells #[.string (bs s)] 9)).alloc zl_).alloc (.cells #[.int .i64 64] 3)).heap.size = w.heap.size + 1 + 1 + 1 by simp] at hZ_
       have HF1 := Lib.hid (hZ_)
       clear hZ_
       have HG1 := Lib.hid (y5_ (y5_ (y5_ (y5_ HG0.out (.cells #[.string (bs s)] 9)) zl_) (.cells #[.int .i64 64] 3)) (.cells #[.func (.func 49) #[] #[.pointer (some ⟨w.heap.size, 0, none⟩), .pointer (some ⟨w.heap.size + 1 + 1, 0, none⟩), .pointer (some ⟨w.heap.size + 1 + 1 + 1, 0, none⟩)]] 62))
       have hg1 := z6_ (z6_ (z6_ (z6_ hg0 (.cells #[.string (bs s)] 9)) zl_) (.cells #[.int .i64 64] 3)) (.cells #[.func (.func 49) #[] #[.pointer (some ⟨w.heap.size, 0, none⟩), .pointer (some ⟨w.heap.size + 1 + 1, 0, none⟩), .pointer (some ⟨w.heap.size + 1 + 1 + 1, 0, none⟩)]] 62)
       have geS : w.heap.size ≤ w.heap.size := by have := hg0.size; omega
       have gnS : gN ≤ w.heap.size := by have := HG0.out.size; omega
       have geRES : w.heap.size ≤ w.heap.size + 1 := by have := hg0.size; omega
       have gnRES : gN ≤ w.heap.size + 1 := by have := HG0.out.size; omega
       have ltSRES : w.heap.size < w.heap.size + 1 := by omega
       have neSRES : w.heap.size ≠ w.heap.size + 1 := by omega
       have neRESS : w.heap.size + 1 ≠ w.heap.size := by omega
       have geR : w.heap.size ≤ w.heap.size + 1 + 1 := by have := hg0.size; omega
       have gnR : gN ≤ w.heap.size + 1 + 1 := by have := HG0.out.size; omega
       have ltSR : w.heap.size < w.heap.size + 1 + 1 := by omega
       have neSR : w.heap.size ≠ w.heap.size + 1 + 1 := by omega
       have neRS : w.heap.size + 1 + 1 ≠ w.heap.size := by omega
       have ltRESR : w.heap.size + 1 < w.heap.size + 1 + 1 := by omega
       have neRESR : w.heap.size + 1 ≠ w.heap.size + 1 + 1 := by omega
       have neRRES : w.heap.size + 1 + 1 ≠ w.heap.size + 1 := by omega
       have geF : w.heap.size ≤ w.heap.size + 1 + 1 + 1 := by have := hg0.size; omega
       have gnF : gN ≤ w.heap.size + 1 + 1 + 1 := by have := HG0.out.size; omega
       have ltSF : w.heap.size < w.heap.size + 1 + 1 + 1 := by omega
       have neSF : w.heap.size ≠ w.heap.size + 1 + 1 + 1 := by omega
       have neFS : w.heap.size + 1 + 1 + 1 ≠ w.heap.size := by omega
       have ltRESF : w.heap.size + 1 < w.heap.size + 1 + 1 + 1 := by omega
       have neRESF : w.heap.size + 1 ≠ w.heap.size + 1 + 1 + 1 := by omega
       have neFRES : w.heap.size + 1 + 1 + 1 ≠ w.heap.size + 1 := by omega
       have ltRF : w.heap.size + 1 + 1 < w.heap.size + 1 + 1 + 1 := by omega
       have neRF : w.heap.size + 1 + 1 ≠ w.heap.size + 1 + 1 + 1 := by omega
       have neFR : w.heap.size + 1 + 1 + 1 ≠ w.heap.size + 1 + 1 := by omega
       generalize ((((w.alloc (.cells #[.string (bs s)] 9)).alloc zl_).alloc (.cells #[.int .i64 64] 3)).alloc (.cells #[.func (.func 49) #[] #[.pointer (some ⟨w.heap.size, 0, none⟩), .pointer (some ⟨w.heap.size + 1 + 1, 0, none⟩), .pointer (some ⟨w.heap.size + 1 + 1 + 1, 0, none⟩)]] 62)) = w1 at *
       generalize w.heap.size + 1 + 1 + 1 = F at *
       generalize w.heap.size + 1 + 1 = R at *
       generalize w.heap.size + 1 = RES at *
       generalize w.heap.size = S at *
       have hs1 := hg1.size
       have hSw : w.heap.size ≤ S := hle.1
       refine (zc5_ 65 S R F s 64 _ om_ hsl om_ om_ om_ om_ gnS gnR HS1.out HR1.out HF1.out HG1.out).mono ?_
       rintro e w2 ⟨hgl2, hp⟩
       rw [HO.out] at hp
       have hg2 : GL [] w w2 := x1_ hgl2 hg1 so_
       have HRES2 := Lib.hid (y7_ HRES1.out hgl2 so_)
       have HG2 := Lib.hid (x4_ HG0.out hg2 si_)
       obtain ⟨v, rfl, hlv, hS2, hR2⟩ := hp
       have hrt := fun (W : World) (hW : GL [] w2 W) => zbf_ x _ v W (z7_ hW _ _ hlv) (x4_ HG2.out hW si_)
       have HLV := Lib.hid hlv
       rw [HR.out] at hrt
       have HX : Hid (∃ y, y = x) := ⟨x, rfl⟩
       obtain ⟨k, t, n, kids⟩ := x
       obtain ⟨ad, c, rfl, _⟩ := y3_ hlv
       have HRT := Lib.hid hrt
       clear hlv hR2 hrt
       have f1 := z2_ HRES2.out
       have f2 := z5_ HRES2.out
       have f3 := z0_ HRES2.out
       have f4 := z2_ hS2
       have f5 := z5_ hS2
       have f6 := z0_ hS2
       go_wp2_with fail
       refine (HRT.out _ (z6_ (z1_ _ _) _)).mono ?_
       rintro e w3 ⟨rfl, hb3⟩
       have HRES3 := Lib.hid (z9_ (z8_ HRES2.out _) hb3 so_)
       have HLB3 := Lib.hid (z9_ (z3_ w2 (.cells #[.int .u8 k, .string (bs t), .int .i64 n, .slice ad kids.length c] 25)) hb3 si_)
       have hg23 : GL [] w2 w3 := z4_ hb3 (z6_ (z1_ _ _) _)
       have hg3 : GL [] w w3 := x1_ hg23 hg2 si_
       have hneR : RES ≠ w2.heap.size := by omega
       clear f1 f2 f3 f4 f5 f6
       have f1 := z2_ HRES3.out
       have f2 := z5_ HRES3.out
       have f3 := z0_ HRES3.out
       have f4 := z2_ HLB3.out
       have f5 := z5_ HLB3.out
       have f6 := z0_ HLB3.out
       clear hb3
       go_wp2
       refine bodyPost_ret (v := .tuple #[.agg #[.int .u8 0, .string (bs []), .int .i64 0, .slice none 0 0], .int .i64 110]) (by simp [results, Tryz.results35, go_sem, zaP_, f1, f2, f3]) rfl ?_
       rw [HP.out]
       exact ⟨x0_ gl_, rfl⟩
     | true =>
       have HP : Hid (k8_ v4_ q6_ s = some x) := by show _ = some x; rw [hP, ho]; simp [hr]
       have HO := Lib.hid ho
       have HR := Lib.hid hr
       clear hP ho hr
       go_enter Tryz.func35, Tryz.ntmps35
       have hg0 : GL [] w w := z1_ _ _
       have hs0 : w.heap.size ≤ w.heap.size := Nat.le_refl _
       go_wp2_with fail
       have hle : k0_ w ≤ w.heap.size ∧ w.heap.size ≤ k0_ w := ⟨Nat.le_refl _, Nat.le_refl _⟩
       have HS1 := Lib.hid ((z8_ (z8_ (z8_ (z3_ w (.cells #[.string (bs s)] 9)) zl_) (.cells #[.int .i64 64] 3)) (.cells #[.func (.func 49) #[] #[.pointer (some ⟨w.heap.size, 0, none⟩), .pointer (some ⟨w.heap.size + 1 + 1, 0, none⟩), .pointer (some ⟨w.heap.size + 1 + 1 + 1, 0, none⟩)]] 62)))
       have hZ_ := z3_ (w.alloc (.cells #[.string (bs s)] 9)) zl_
       rw [show (w.alloc (.cells #[.string (bs s)] 9)).heap.size = w.heap.size + 1 by simp] at hZ_
       have HRES1 := Lib.hid ((z8_ (z8_ hZ_ (.cells #[.int .i64 64] 3)) (.cells #[.func (.func 49) #[] #[.pointer (some ⟨w.heap.size, 0, none⟩), .pointer (some ⟨w.heap.size + 1 + 1, 0, none⟩), .pointer (some ⟨w.heap.size + 1 + 1 + 1, 0, none⟩)]] 62)))
       clear hZ_
       have hZ_ := z3_ ((w.alloc (.cells #[.string (bs s)] 9)).alloc zl_) (.cells #[.int .i64 64] 3)
       rw [show ((w.alloc (.cells #[.string (bs s)] 9)).alloc zl_).heap.size = w.heap.size + 1 + 1 by simp] at hZ_
       have HR1 := Lib.hid ((z8_ hZ_ (.cells #[.func (.func 49) #[] #[.pointer (some ⟨w.heap.size, 0, none⟩), .pointer (some ⟨w.heap.size + 1 + 1, 0, none⟩), .pointer (some ⟨w.heap.size + 1 + 1 + 1, 0, none⟩)]] 62)))
       clear hZ_
       have hZ_ := z3_ (((w.alloc (.cells #[.string (bs s)] 9)).alloc zl_).alloc (.cells #[.int .i64 64] 3)) (.cells #[.func (.func 49) #[] #[.pointer (some ⟨w.heap.size, 0, none⟩), .pointer (some ⟨w.heap.size + 1 + 1, 0, none⟩), .pointer (some ⟨w.heap.size + 1 + 1 + 1, 0, none⟩)]] 62)
       rw [show (((w.alloc (.cells #[.string (bs s)] 9)).alloc zl_).alloc (.cells #[.int .i64 64] 3)).heap.size = w.heap.size + 1 + 1 + 1 by simp] at hZ_
       have HF1 := Lib.hid (hZ_)
       clear hZ_
       have HG1 := Lib.hid (y5_ (y5_ (y5_ (y5_ HG0.out (.cells #[.string (bs s)] 9)) zl_) (.cells #[.int .i64 64] 3)) (.cells #[.func (.func 49) #[] #[.pointer (some ⟨w.heap.size, 0, none⟩), .pointer (some ⟨w.heap.size + 1 + 1, 0, none⟩), .pointer (some ⟨w.heap.size + 1 + 1 + 1, 0, none⟩)]] 62))
       have hg1 := z6_ (z6_ (z6_ (z6_ hg0 (.cells #[.string (bs s)] 9)) zl_) (.cells #[.int .i64 64] 3)) (.cells #[.func (.func 49) #[] #[.pointer (some ⟨w.heap.size, 0, none⟩), .pointer (some ⟨w.heap.size + 1 + 1, 0, none⟩), .pointer (some ⟨w.heap.size + 1 + 1 + 1, 0, none⟩)]] 62)
       have geS : w.heap.size ≤ w.heap.size := by have := hg0.size; omega
       have gnS : gN ≤ w.heap.size := by have := HG0.out.size; omega
       have geRES : w.heap.size ≤ w.heap.size + 1 := by have := hg0.size; omega
       have gnRES : gN ≤ w.heap.size + 1 := by have := HG0.out.size; omega
       have ltSRES : w.heap.size < w.heap.size + 1 := by omega
       have neSRES : w.heap.size ≠ w.heap.size + 1 := by omega
       have neRESS : w.heap.size + 1 ≠ w.heap.size := by omega
       have geR : w.heap.size ≤ w.heap.size + 1 + 1 := by have := hg0.size; omega
       have gnR : gN ≤ w.heap.size + 1 + 1 := by have := HG0.out.size; omega
       have ltSR : w.heap.size < w.heap.size + 1 + 1 := by omega
       have neSR : w.heap.size ≠ w.heap.size + 1 + 1 := by omega
       have neRS : w.heap.size + 1 + 1 ≠ w.heap.size := by omega
       have ltRESR : w.heap.size + 1 < w.heap.size + 1 + 1 := by omega
       have neRESR : w.heap.size + 1 ≠ w.heap.size + 1 + 1 := by omega
       have neRRES : w.heap.size + 1 + 1 ≠ w.heap.size + 1 := by omega
       have geF : w.heap.size ≤ w.heap.size + 1 + 1 + 1 := by have := hg0.size; omega
       have gnF : gN ≤ w.heap.size + 1 + 1 + 1 := by have := HG0.out.size; omega
       have ltSF : w.heap.size < w.heap.size + 1 + 1 + 1 := by omega
       have neSF : w.heap.size ≠ w.heap.size + 1 + 1 + 1 := by omega
       have neFS : w.heap.size + 1 + 1 + 1 ≠ w.heap.size := by omega
       have ltRESF : w.heap.size + 1 < w.heap.size + 1 + 1 + 1 := by omega
       have neRESF : w.heap.size + 1 ≠ w.heap.size + 1 + 1 + 1 := by omega
       have neFRES : w.heap.size + 1 + 1 + 1 ≠ w.heap.size + 1 := by omega
       have ltRF : w.heap.size + 1 + 1 < w.heap.size + 1 + 1 + 1 := by omega
       have neRF : w.heap.size + 1 + 1 ≠ w.heap.size + 1 + 1 + 1 := by omega
       have neFR : w.heap.size + 1 + 1 + 1 ≠ w.heap.size + 1 + 1 := by omega
       generalize ((((w.alloc (.cells #[.string (bs s)] 9)).alloc zl_).alloc (.cells #[.int .i64 64] 3)).alloc (.cells #[.func (.func 49) #[] #[.pointer (some ⟨w.heap.size, 0, none⟩), .pointer (some ⟨w.heap.size + 1 + 1, 0, none⟩), .pointer (some ⟨w.heap.size + 1 + 1 + 1, 0, none⟩)]] 62)) = w1 at *
       generalize w.heap.size + 1 + 1 + 1 = F at *
       generalize w.heap.size + 1 + 1 = R at *
       generalize w.heap.size + 1 = RES at *
       generalize w.heap.size = S at *
       have hs1 := hg1.size
       have hSw : w.heap.size ≤ S := hle.1
       refine (zc5_ 65 S R F s 64 _ om_ hsl om_ om_ om_ om_ gnS gnR HS1.out HR1.out HF1.out HG1.out).mono ?_
       rintro e w2 ⟨hgl2, hp⟩
       rw [HO.out] at hp
       have hg2 : GL [] w w2 := x1_ hgl2 hg1 so_
       have HRES2 := Lib.hid (y7_ HRES1.out hgl2 so_)
       have HG2 := Lib.hid (x4_ HG0.out hg2 si_)
       obtain ⟨v, rfl, hlv, hS2, hR2⟩ := hp
       have hrt := fun (W : World) (hW : GL [] w2 W) => zbf_ x _ v W (z7_ hW _ _ hlv) (x4_ HG2.out hW si_)
       have HLV := Lib.hid hlv
       rw [HR.out] at hrt
       have HX : Hid (∃ y, y = x) := ⟨x, rfl⟩
       obtain ⟨k, t, n, kids⟩ := x
       obtain ⟨ad, c, rfl, _⟩ := y3_ hlv
       have HRT := Lib.hid hrt
       clear hlv hR2 hrt
       have f1 := z2_ HRES2.out
       have f2 := z5_ HRES2.out
       have f3 := z0_ HRES2.out
       have f4 := z2_ hS2
       have f5 := z5_ hS2
       have f6 := z0_ hS2
       go_wp2_with fail
       refine (HRT.out _ (z6_ (z1_ _ _) _)).mono ?_
       rintro e w3 ⟨rfl, hb3⟩
       have HRES3 := Lib.hid (z9_ (z8_ HRES2.out _) hb3 so_)
       have HLB3 := Lib.hid (z9_ (z3_ w2 (.cells #[.int .u8 k, .string (bs t), .int .i64 n, .slice ad kids.length c] 25)) hb3 si_)
       have hg23 : GL [] w2 w3 := z4_ hb3 (z6_ (z1_ _ _) _)
       have hg3 : GL [] w w3 := x1_ hg23 hg2 si_
       have hneR : RES ≠ w2.heap.size := by omega
       clear f1 f2 f3 f4 f5 f6
       have f1 := z2_ HRES3.out
       have f2 := z5_ HRES3.out
       have f3 := z0_ HRES3.out
       have f4 := z2_ HLB3.out
       have f5 := z5_ HLB3.out
       have f6 := z0_ HLB3.out
       clear hb3
       go_wp2
       refine bodyPost_ret (v := .tuple #[.agg #[.int .u8 k, .string (bs t), .int .i64 n, .slice ad kids.length c], .int .i64 0]) (by simp [results, Tryz.results35, go_sem, zaP_, f1, f2, f3, f4, f5, hneR]) rfl ?_
       rw [HP.out]
       refine ⟨x0_ gl_, _, rfl, ?_⟩
       refine za5_ (p := fun b => w1.heap.size ≤ b) ⟨by simp [World.setCell], fun b hb hp => ?_⟩ (fun b hb hp => by have := hg1.size; omega) _ _ (z7_ hg23 _ _ HLV.out)
       repeat (rw [Below.heap_setCell _ _ _ _ (by simp; have := z0_ HRES1.out; omega)])
def zfe_ (b : Nat) (w w' : World) : Prop := ∀ (k T : Nat) (cs : Array Value) (fz : Nat × Nat), w.heap[k]? = some (.cells cs T fz) → T ≠ 5 → k ≠ b → w'.heap[k]? = some (.cells cs T fz)
theorem zle_ {w : World} {base e size n : Nat} {v : Value} {xs : List Value} (h : w.ownsRowF base e size v n xs) : ∃ ad m c, v = .slice ad m c := by
 rcases h.2 with ⟨h, _⟩ | ⟨g, cap, _, _, h, _⟩ <;> exact ⟨_, _, _, h⟩
theorem zc6_ {B b : Nat} {l : List UInt8} {w : World} (h : IsB B b l w) : b < w.heap.size ∧ B ≤ b := by
 rcases h with h | h
 · exact ⟨h.lt, h.1⟩
 · exact ⟨h.lt, h.1⟩
theorem zhj_ (B b : Nat) (l : List UInt8) (w : World) (h : IsB B b l w) :
  Calls Tryz.prog 79 #[.pointer (some ⟨b, 0, none⟩)] w fun e w' => e = .returned (.tuple #[]) ∧ Lib.BuilderAtF 57 5 B b (.pointer (some ⟨b, 0, none⟩)) (Lib.byteCells l) w' ∧ Below B w w' ∧ zfe_ b w w' := by
 rcases h with h | h
 · refine (zgr_ b w h.cell0 h.shape h.frozen0).mono ?_
   rintro e w' ⟨rfl, rfl⟩
   exact ⟨rfl, h.used _, (Below.refl B w).setCell (p := ⟨b, 0, none⟩) h.1 _, fun k T cs fz hk _ hne => y8_ hk hne _⟩
 · refine (zgs_ b w h.cell0).mono ?_
   rintro e w' ⟨rfl, rfl⟩
   exact ⟨rfl, h, Below.refl B _, fun k T cs fz hk _ _ => hk⟩
theorem zc7_ (B b : Nat) (l s : List UInt8) (w : World) (h : IsB B b l w) (hlen : l.length + s.length ≤ 140737488355328) (hBw : B ≤ w.heap.size) :
  Calls Tryz.prog 56 #[.pointer (some ⟨b, 0, none⟩), .string (bs s)] w fun e w' => e = .returned (.tuple #[.int .i64 s.length, .nilIface]) ∧ IsB B b (l ++ s) w' ∧ Below B w w' ∧ zfe_ b w w' := by
 obtain ⟨i0, hi, hz0, hz1, hz2⟩ := info_parts Tryz.infoByte
 go_enter Tryz.func56, Tryz.ntmps56
 go_wp2_with (go_at_call 79; refine (zhj_ B b l _ h).mono ?_)
 rintro e w1 ⟨rfl, h1, hb1, hk1⟩
 obtain ⟨hB, v, hbk, hown, hne⟩ := h1
 have c0 := z2_ hbk
 have c1 := z5_ hbk
 go_wp2_with (at_builtin; refine Lib.wpList_append_own_stringF _ rfl _ _ 55 9 rfl B 5 i0 Tryz.underlying55 Tryz.underlying9 hi hz0 hz1 hz2 _ _ _ rfl hown (bs s) rfl ?c3 ?c4 ?c5 ?_)
 case c3 => rw [Lib.byteCells_length, zaJ_]; unfold maxLen; omega
 case c4 => rw [Lib.byteCells_length, zaJ_]; omega
 case c5 => have := hb1.size; omega
 intro v' w2 hown' hgrow _
 have hb2 := j1_ hbk hgrow (Ne.symm hne)
 have d0 := z2_ hb2
 have d1 := z5_ hb2
 obtain ⟨ao, n', cap, rfl⟩ : ∃ ao n' cap, v' = .slice ao n' cap := by
  rcases hown'.2 with ⟨hv, _⟩ | ⟨g, cap, cur, fz, hv, _⟩
  · exact ⟨_, _, _, hv⟩
  · exact ⟨_, _, _, hv⟩
 go_wp2
 go_ret2
 refine ⟨rfl, .inr ?_, ?_, ?_⟩
 · have e : Lib.byteCells l ++ Lib.strCells (bs s) = Lib.byteCells (l ++ s) := by simp [Lib.byteCells, Lib.strCells]
   have e2 : (Lib.byteCells l).length + s.length = (Lib.byteCells (l ++ s)).length := by simp [Lib.byteCells_length]
   rw [e, e2] at hown'
   exact Lib.BuilderAtF.put hB hb2 hown' de_
 · exact (hb1.grown hgrow (by have := hb1.size; omega) (fun k hk => (hown.lt k hk).1)).setCell (p := ⟨b, 1, none⟩) hB _
 · intro k T cs fz hk hT hkb
   have q1 := hk1 k T cs fz hk hT hkb
   exact y8_ (j1_ q1 hgrow (Ne.symm (Lib.ownBlock_neF hown q1 hT))) hkb _
theorem zc8_ (B b : Nat) (l : List UInt8) (ch : UInt8) (x : Int) (hx : x = ch.toNat) (w : World) (h : IsB B b l w) (hlen : l.length + 1 ≤ 140737488355328) (hBw : B ≤ w.heap.size) :
  Calls Tryz.prog 55 #[.pointer (some ⟨b, 0, none⟩), .int .u8 x] w fun e w' => e = .returned .nilIface ∧ IsB B b (l ++ [ch]) w' ∧ Below B w w' ∧ zfe_ b w w' := by
 subst hx
 obtain ⟨i0, hi, hz0, hz1, hz2⟩ := info_parts Tryz.infoByte
 go_enter Tryz.func55, Tryz.ntmps55
 go_wp2_with (go_at_call 79; refine (zhj_ B b l _ h).mono ?_)
 rintro e w1 ⟨rfl, h1, hb1, hk1⟩
 obtain ⟨hB, v, hbk, hown, hne⟩ := h1
 have c0 := z2_ hbk
 have c1 := z5_ hbk
 obtain ⟨av, nv, cv, hvv⟩ : ∃ ao n' cap, v = .slice ao n' cap := by
  rcases hown.2 with ⟨hv, _⟩ | ⟨g, cap, cur, fz, hv, _⟩
  · exact ⟨_, _, _, hv⟩
  · exact ⟨_, _, _, hv⟩
 subst hvv
 go_wp2_with (at_builtin; go_must (refine wpList_append_ownF _ rfl _ _ 55 rfl B 5 i0 (.int .u8 0) 1 1 Tryz.underlying55 hi hz0 hz1 hz2 rfl de_ _ _ _ rfl (hown.alloc _) ⟨w1.heap.size, 0, none⟩ 1 1 [.int .u8 ch.toNat] rfl rfl ?c1 ?c2 ?c3 ?c4 ?c5 ?_; (case c1 => exact zcw_ rfl); (case c2 => exact one1 rfl); (case c3 => (rw [Lib.byteCells_length]; unfold maxLen; omega)); (case c4 => (rw [Lib.byteCells_length]; omega)); (case c5 => (have := hb1.size; simp; omega)); (intro v' w2 hown' hgrow _); (have hb2 := j1_ (z8_ hbk _) hgrow (Ne.symm hne)); (have d0 := z2_ hb2); (have d1 := z5_ hb2); (obtain ⟨ao, n', cap, hv'⟩ := zle_ hown'); (subst hv')))
 go_wp2
 go_ret
 refine ⟨rfl, .inr ?_, ?_, ?_⟩
 · have e : Lib.byteCells l ++ [Value.int .u8 ch.toNat] = Lib.byteCells (l ++ [ch]) := by simp [Lib.byteCells]
   have e2 : (Lib.byteCells l).length + 1 = (Lib.byteCells (l ++ [ch])).length := by simp [Lib.byteCells_length]
   rw [e, e2] at hown'
   exact Lib.BuilderAtF.put hB hb2 hown' de_
 · exact ((hb1.alloc (by have := hb1.size; omega) _).grown hgrow (by have := hb1.size; simp; omega) (fun k hk => (hown.lt k hk).1)).setCell (p := ⟨b, 1, none⟩) hB _
 · intro k T cs fz hk hT hkb
   have q1 := hk1 k T cs fz hk hT hkb
   exact y8_ (j1_ (z8_ q1 _) hgrow (Ne.symm (Lib.ownBlock_neF hown q1 hT))) hkb _
theorem zc9_ {B : Nat} {w w' : World} (h : GOk w) (hb : Below B w w') (hB : gN ≤ B) : GOk w' := zeN_ h (fun k hk => hb.block k om_) hb.size
theorem zhk_ {B : Nat} {w w' : World} (h : Below B w w') : Stay (fun k => k < B) w w' := ⟨h.size, fun b _ hp => h.block b hp⟩
def zff_ (N : Nat) : Prop := ∀ (x : LT) (B b : Nat) (acc : List UInt8) (v : Value) (w : World), x3_ x ≤ N → q1_ x = true → y2_ (fun k => k < B) w x v → IsB B b acc w → acc.length + (w5_ x).length ≤ 100000000000 → GOk w → gN ≤ B → B ≤ w.heap.size →
 Calls Tryz.prog 40 #[.pointer (some ⟨b, 0, none⟩), v] w fun e w' => e = .returned (.tuple #[]) ∧ IsB B b (acc ++ w5_ x) w' ∧ Below B w w'
theorem zlf_ (B b : Nat) (acc t : List UInt8) (n : Int) (ad : Option Addr) (m c : Nat) (w : World) (hI : IsB B b acc w) (hlen : acc.length + t.length ≤ 100000000000) (hG : GOk w) (hgB : gN ≤ B) (hBw : B ≤ w.heap.size) :
  Calls Tryz.prog 40 #[.pointer (some ⟨b, 0, none⟩), .agg #[.int .u8 1, .string (bs t), .int .i64 n, .slice ad m c]] w fun e w' => e = .returned (.tuple #[]) ∧ IsB B b (acc ++ (115 :: t)) w' ∧ Below B w w' := by
 have hlt := (zc6_ hI).1
 have HG := Lib.hid hG
 have HI := Lib.hid hI
 clear hI hG
 go_enter Tryz.func40, Tryz.ntmps40
 go_wp2_with fail
 refine (zc8_ B b acc 115 _ rfl _ (zbr_ HI.out ((Below.refl _ w).alloc (Nat.le_refl _) (.cells #[.int .u8 1, .string (bs t), .int .i64 n, .slice ad m c] 25))) om_ so_).mono ?_
 rintro e w1 ⟨rfl, h1, hb1, hk1⟩
 have HB1 := Lib.hid (hk1 _ _ _ _ (z3_ w (.cells #[.int .u8 1, .string (bs t), .int .i64 n, .slice ad m c] 25)) de_ om_)
 have f1 := z2_ HB1.out
 have e1 := z5_ HB1.out
 have hs1 := hb1.size
 simp only [World.size_alloc] at hs1
 have hbb1 : Below B w w1 := ((Below.refl B w).alloc hBw (.cells #[.int .u8 1, .string (bs t), .int .i64 n, .slice ad m c] 25)).trans hb1
 go_wp2_with fail
 refine (zc7_ B b (acc ++ [115]) t _ h1 so_ om_).mono ?_
 rintro e w2 ⟨rfl, h2, hb2, hk2⟩
 go_wp2_with fail
 go_end0
 exact ⟨rfl, by simpa using h2, hbb1.trans hb2⟩
theorem zlg_ (B b : Nat) (acc t : List UInt8) (n : Int) (ad : Option Addr) (m c : Nat) (w : World) (hI : IsB B b acc w) (hlen : acc.length + t.length ≤ 100000000000) (hG : GOk w) (hgB : gN ≤ B) (hBw : B ≤ w.heap.size) :
  Calls Tryz.prog 40 #[.pointer (some ⟨b, 0, none⟩), .agg #[.int .u8 2, .string (bs t), .int .i64 n, .slice ad m c]] w fun e w' => e = .returned (.tuple #[]) ∧ IsB B b (acc ++ (112 :: t)) w' ∧ Below B w w' := by
 have hlt := (zc6_ hI).1
 have HG := Lib.hid hG
 have HI := Lib.hid hI
 clear hI hG
 go_enter Tryz.func40, Tryz.ntmps40
 go_wp2_with fail
 refine (zc8_ B b acc 112 _ rfl _ (zbr_ HI.out ((Below.refl _ w).alloc (Nat.le_refl _) (.cells #[.int .u8 2, .string (bs t), .int .i64 n, .slice ad m c] 25))) om_ so_).mono ?_
 rintro e w1 ⟨rfl, h1, hb1, hk1⟩
 have HB1 := Lib.hid (hk1 _ _ _ _ (z3_ w (.cells #[.int .u8 2, .string (bs t), .int .i64 n, .slice ad m c] 25)) de_ om_)
 have f1 := z2_ HB1.out
 have e1 := z5_ HB1.out
 have hs1 := hb1.size
 simp only [World.size_alloc] at hs1
 have hbb1 : Below B w w1 := ((Below.refl B w).alloc hBw (.cells #[.int .u8 2, .string (bs t), .int .i64 n, .slice ad m c] 25)).trans hb1
 go_wp2_with fail
 refine (zc7_ B b (acc ++ [112]) t _ h1 so_ om_).mono ?_
 rintro e w2 ⟨rfl, h2, hb2, hk2⟩
 go_wp2_with fail
 go_end0
 exact ⟨rfl, by simpa using h2, hbb1.trans hb2⟩
theorem zlh_ (B b : Nat) (acc t : List UInt8) (n : Int) (hn0 : 0 ≤ n) (hn1 : n < 1073741824) (ad : Option Addr) (m c : Nat) (w : World) (hI : IsB B b acc w) (hlen : acc.length ≤ 100000000000) (hG : GOk w) (hgB : gN ≤ B) (hBw : B ≤ w.heap.size) :
  Calls Tryz.prog 40 #[.pointer (some ⟨b, 0, none⟩), .agg #[.int .u8 3, .string (bs t), .int .i64 n, .slice ad m c]] w fun e w' => e = .returned (.tuple #[]) ∧ IsB B b (acc ++ (97 :: (Lib.decDigits n.toNat ++ [59]))) w' ∧ Below B w w' := by
 have hdl := zbQ_ n.toNat om_
 have hlt := (zc6_ hI).1
 have HG := Lib.hid hG
 have HI := Lib.hid hI
 clear hI hG
 go_enter Tryz.func40, Tryz.ntmps40
 go_wp2_with fail
 refine (zc8_ B b acc 97 _ rfl _ (zbr_ HI.out ((Below.refl _ w).alloc (Nat.le_refl _) (.cells #[.int .u8 3, .string (bs t), .int .i64 n, .slice ad m c] 25))) om_ so_).mono ?_
 rintro e w1 ⟨rfl, h1, hb1, hk1⟩
 have HB1 := Lib.hid (hk1 _ _ _ _ (z3_ w (.cells #[.int .u8 3, .string (bs t), .int .i64 n, .slice ad m c] 25)) de_ om_)
 have f1 := z2_ HB1.out
 have e1 := z5_ HB1.out
 have hs1 := hb1.size
 simp only [World.size_alloc] at hs1
 have hbb1 : Below B w w1 := ((Below.refl B w).alloc hBw (.cells #[.int .u8 3, .string (bs t), .int .i64 n, .slice ad m c] 25)).trans hb1
 go_wp2_with fail
 refine (zdY_ n om_ om_ _ (zc9_ HG.out hbb1 hgB)).mono ?_
 rintro e w2 ⟨rfl, hb2⟩
 go_wp2_with fail
 refine (zc7_ B b (acc ++ [97]) (Lib.decDigits n.toNat ++ [59]) _ (zbr_ h1 hb2) so_ (by have := hb2.size; omega)).mono ?_
 rintro e w3 ⟨rfl, h3, hb3, hk3⟩
 go_wp2_with fail
 go_end0
 exact ⟨rfl, by simpa using h3, (hbb1.trans (hb2.mono om_)).trans hb3⟩
theorem zli_ (B b : Nat) (acc t : List UInt8) (n : Int) (hn0 : 0 ≤ n) (hn1 : n < 1073741824) (ad : Option Addr) (m c : Nat) (w : World) (hI : IsB B b acc w) (hlen : acc.length ≤ 100000000000) (hG : GOk w) (hgB : gN ≤ B) (hBw : B ≤ w.heap.size) :
  Calls Tryz.prog 40 #[.pointer (some ⟨b, 0, none⟩), .agg #[.int .u8 4, .string (bs t), .int .i64 n, .slice ad m c]] w fun e w' => e = .returned (.tuple #[]) ∧ IsB B b (acc ++ (111 :: (Lib.decDigits n.toNat ++ [59]))) w' ∧ Below B w w' := by
 have hdl := zbQ_ n.toNat om_
 have hlt := (zc6_ hI).1
 have HG := Lib.hid hG
 have HI := Lib.hid hI
 clear hI hG
 go_enter Tryz.func40, Tryz.ntmps40
 go_wp2_with fail
 refine (zc8_ B b acc 111 _ rfl _ (zbr_ HI.out ((Below.refl _ w).alloc (Nat.le_refl _) (.cells #[.int .u8 4, .string (bs t), .int .i64 n, .slice ad m c] 25))) om_ so_).mono ?_
 rintro e w1 ⟨rfl, h1, hb1, hk1⟩
 have HB1 := Lib.hid (hk1 _ _ _ _ (z3_ w (.cells #[.int .u8 4, .string (bs t), .int .i64 n, .slice ad m c] 25)) de_ om_)
 have f1 := z2_ HB1.out
 have e1 := z5_ HB1.out
 have hs1 := hb1.size
 simp only [World.size_alloc] at hs1
 have hbb1 : Below B w w1 := ((Below.refl B w).alloc hBw (.cells #[.int .u8 4, .string (bs t), .int .i64 n, .slice ad m c] 25)).trans hb1
 go_wp2_with fail
 refine (zdY_ n om_ om_ _ (zc9_ HG.out hbb1 hgB)).mono ?_
 rintro e w2 ⟨rfl, hb2⟩
 go_wp2_with fail
 refine (zc7_ B b (acc ++ [111]) (Lib.decDigits n.toNat ++ [59]) _ (zbr_ h1 hb2) so_ (by have := hb2.size; omega)).mono ?_
 rintro e w3 ⟨rfl, h3, hb3, hk3⟩
 go_wp2_with fail
 go_end0
 exact ⟨rfl, by simpa using h3, (hbb1.trans (hb2.mono om_)).trans hb3⟩
theorem zfg_ : ∀ (l m : List LT), q5_ (l ++ m) = q5_ l ++ q5_ m
 | [], m => by rw [zbZ_]; rfl
 | x :: r, m => by rw [List.cons_append, zcR_, zcR_, zfg_ r m, List.append_assoc]
theorem zea_ (l : List LT) (j : Nat) (h : j < l.length) : q5_ (l.take (j + 1)) = q5_ (l.take j) ++ w5_ l[j] := by
 rw [List.take_succ_eq_append_getElem h, zfg_, zcR_, zbZ_, List.append_nil]
theorem zhl_ (l : List LT) (j : Nat) : (q5_ (l.take j)).length ≤ (q5_ l).length := by
 have : q5_ l = q5_ (l.take j) ++ q5_ (l.drop j) := by rw [← zfg_, List.take_append_drop]
 rw [this]; simp
theorem zlj_ (N : Nat) (ih : zff_ N) (B b : Nat) (acc t : List UInt8) (n : Int) (kids : List LT) (ad : Option Addr) (c : Nat) (hm : kids.length ≤ 8) (hcN : w1_ kids ≤ N) (hrr : w6_ kids = true) (w : World) (hd : kids = [] ∨ ∃ b o, ad = some ⟨b, o, none⟩ ∧ b < w.heap.size ∧ b < B ∧ x2_ (fun k => k < B) w kids b o)
  (hI : IsB B b acc w) (hlen : acc.length + (Lib.decDigits kids.length).length + 2 + (q5_ kids).length ≤ 100000000000) (hG : GOk w) (hgB : gN ≤ B) (hBw : B ≤ w.heap.size) :
  Calls Tryz.prog 40 #[.pointer (some ⟨b, 0, none⟩), .agg #[.int .u8 5, .string (bs t), .int .i64 n, .slice ad kids.length c]] w fun e w' => e = .returned (.tuple #[]) ∧ IsB B b (acc ++ (38 :: (Lib.decDigits kids.length ++ 58 :: q5_ kids))) w' ∧ Below B w w' := by
 have hdl := zbQ_ kids.length om_
 have HD := Lib.hid hd
 have IH := Lib.hid ih
 have HR := Lib.hid hrr
 clear hd ih hrr
 have hlt := (zc6_ hI).1
 have HG := Lib.hid hG
 have HI := Lib.hid hI
 clear hI hG
 go_enter Tryz.func40, Tryz.ntmps40
 go_wp2_with fail
 refine (zc8_ B b acc 38 _ rfl _ (zbr_ HI.out ((Below.refl _ w).alloc (Nat.le_refl _) (.cells #[.int .u8 5, .string (bs t), .int .i64 n, .slice ad kids.length c] 25))) om_ so_).mono ?_
 rintro e w1 ⟨rfl, h1, hb1, hk1⟩
 have HB1 := Lib.hid (hk1 _ _ _ _ (z3_ w (.cells #[.int .u8 5, .string (bs t), .int .i64 n, .slice ad kids.length c] 25)) de_ om_)
 have f1 := z2_ HB1.out
 have e1 := z5_ HB1.out
 have hs1 := hb1.size
 simp only [World.size_alloc] at hs1
 have hbb1 : Below B w w1 := ((Below.refl B w).alloc hBw (.cells #[.int .u8 5, .string (bs t), .int .i64 n, .slice ad kids.length c] 25)).trans hb1
 go_wp2_with fail
 refine (zdY_ (kids.length : Int) om_ om_ _ (zc9_ HG.out hbb1 hgB)).mono ?_
 rintro e w2 ⟨rfl, hb2⟩
 rw [Int.toNat_natCast]
 have HB2 := Lib.hid (z9_ HB1.out hb2 (z0_ HB1.out))
 go_wp2_with fail
 refine (zc7_ B b (acc ++ [38]) (Lib.decDigits kids.length ++ [58]) _ (zbr_ h1 hb2) so_ (by have := hb2.size; omega)).mono ?_
 rintro e w3 ⟨rfl, h3, hb3, hk3⟩
 have HB3 := Lib.hid (hk3 _ _ _ _ HB2.out de_ om_)
 have hbb3 : Below B w w3 := (hbb1.trans (hb2.mono om_)).trans hb3
 have H3 : Hid (IsB B b (acc ++ (38 :: (Lib.decDigits kids.length ++ 58 :: q5_ (kids.take 0)))) w3) := by
  show IsB _ _ _ _
  rw [List.take_zero, zbZ_]
  simpa using h3
 clear f1 e1
 have f3 := z2_ HB3.out
 have e3 := z5_ HB3.out
 clear h1 h3 hk1 hk3 hb1 hb2 hb3 hbb1 HB1 HB2
 go_wp2_with fail
 go_loopw [5, 23] (fun _ iv wr => ∃ j : Nat, j ≤ kids.length ∧ iv = .int .i64 j ∧ Hid (Below B w wr) ∧ Hid (IsB B b (acc ++ (38 :: (Lib.decDigits kids.length ++ 58 :: q5_ (kids.take j)))) wr)) (fun _ iv _ => kids.length - (intOf iv).toNat)
 case atStart => exact ⟨0, by omega, rfl, Lib.hid hbb3, H3⟩
 case round =>
  obtain ⟨j, hj, rfl, hbr, hir⟩ := hrel
  by_cases hlt : j < kids.length
  · have i3 : (j : Int) < kids.length := by omega
    rcases HD.out with h0 | ⟨g, o, rfl, hg, hgb, hrow⟩
    · subst h0; simp at hlt
    have hrow2 := zbE_ (zhk_ hbr.out) (fun _ _ h => h) kids g o hg hgb hrow
    obtain ⟨u0, u1, u2, u3, hx, c0, c1, c2, c3⟩ := zao_ kids g o j kids[j] hrow2 (List.getElem?_eq_getElem hlt)
    obtain ⟨ku, nu, tu, au, mu, cu, rfl, rfl, rfl, rfl⟩ := zaA_ hx
    have hcx : x3_ kids[j] ≤ N := by have := zaN_ kids kids[j] (List.getElem_mem hlt); omega
    have hrx := zb0_ kids kids[j] HR.out (List.getElem_mem hlt)
    have htk : q5_ (kids.take (j + 1)) = q5_ (kids.take j) ++ w5_ kids[j] := zea_ kids j hlt
    have hle := zhl_ kids (j + 1)
    have hcall := fun (W : World) (hW : Below B w W) (hgr : GL [] wr W) (hIW : IsB B b (acc ++ (38 :: (Lib.decDigits kids.length ++ 58 :: q5_ (kids.take j)))) W) => IH.out kids[j] B b _ _ W hcx hrx (z7_ hgr _ _ hx) hIW (by rw [htk] at hle; simp at hle ⊢; omega) (zc9_ HG.out hW hgB) hgB (Nat.le_trans hBw hW.size)
    have HTK := Lib.hid htk
    generalize w5_ kids[j] = lx at *
    have HC := Lib.hid hcall
    have hbs := hbr.out.size
    clear hcall hx hrow hrow2 hcx hrx htk HD
    go_wp2_with fail
    refine (HC.out _ (hbr.out.alloc om_ _) (z6_ (z1_ _ _) _) (zbr_ hir.out ((Below.refl _ wr).alloc (Nat.le_refl _) _))).mono ?_
    rintro e w4 ⟨rfl, h4, hb4⟩
    go_wp2_with fail
    go_roundw
    case rel => exact ⟨j + 1, by omega, by go_num, Lib.hid ((hbr.out.alloc om_ _).trans hb4), Lib.hid (by rw [HTK.out]; simpa using h4)⟩
    case measure => simp [intOf]; omega
  · obtain rfl : j = kids.length := by omega
    have hz := hir.out
    rw [List.take_length] at hz
    go_wp2
    go_end0
    exact ⟨rfl, hz, hbr.out⟩
theorem zlk_ (N : Nat) (ih : zff_ N) (B b : Nat) (acc t : List UInt8) (n : Int) (kids : List LT) (ad : Option Addr) (c : Nat) (hm : kids.length ≤ 8) (hcN : w1_ kids ≤ N) (hrr : w6_ kids = true) (w : World) (hd : kids = [] ∨ ∃ b o, ad = some ⟨b, o, none⟩ ∧ b < w.heap.size ∧ b < B ∧ x2_ (fun k => k < B) w kids b o)
  (hI : IsB B b acc w) (hlen : acc.length + (Lib.decDigits kids.length).length + 2 + (q5_ kids).length ≤ 100000000000) (hG : GOk w) (hgB : gN ≤ B) (hBw : B ≤ w.heap.size) :
  Calls Tryz.prog 40 #[.pointer (some ⟨b, 0, none⟩), .agg #[.int .u8 6, .string (bs t), .int .i64 n, .slice ad kids.length c]] w fun e w' => e = .returned (.tuple #[]) ∧ IsB B b (acc ++ (124 :: (Lib.decDigits kids.length ++ 58 :: q5_ kids))) w' ∧ Below B w w' := by
 have hdl := zbQ_ kids.length om_
 have HD := Lib.hid hd
 have IH := Lib.hid ih
 have HR := Lib.hid hrr
 clear hd ih hrr
 have hlt := (zc6_ hI).1
 have HG := Lib.hid hG
 have HI := Lib.hid hI
 clear hI hG
 go_enter Tryz.func40, Tryz.ntmps40
 go_wp2_with fail
 refine (zc8_ B b acc 124 _ rfl _ (zbr_ HI.out ((Below.refl _ w).alloc (Nat.le_refl _) (.cells #[.int .u8 6, .string (bs t), .int .i64 n, .slice ad kids.length c] 25))) om_ so_).mono ?_
 rintro e w1 ⟨rfl, h1, hb1, hk1⟩
 have HB1 := Lib.hid (hk1 _ _ _ _ (z3_ w (.cells #[.int .u8 6, .string (bs t), .int .i64 n, .slice ad kids.length c] 25)) de_ om_)
 have f1 := z2_ HB1.out
 have e1 := z5_ HB1.out
 have hs1 := hb1.size
 simp only [World.size_alloc] at hs1
 have hbb1 : Below B w w1 := ((Below.refl B w).alloc hBw (.cells #[.int .u8 6, .string (bs t), .int .i64 n, .slice ad kids.length c] 25)).trans hb1
 go_wp2_with fail
 refine (zdY_ (kids.length : Int) om_ om_ _ (zc9_ HG.out hbb1 hgB)).mono ?_
 rintro e w2 ⟨rfl, hb2⟩
 rw [Int.toNat_natCast]
 have HB2 := Lib.hid (z9_ HB1.out hb2 (z0_ HB1.out))
 go_wp2_with fail
 refine (zc7_ B b (acc ++ [124]) (Lib.decDigits kids.length ++ [58]) _ (zbr_ h1 hb2) so_ (by have := hb2.size; omega)).mono ?_
 rintro e w3 ⟨rfl, h3, hb3, hk3⟩
 have HB3 := Lib.hid (hk3 _ _ _ _ HB2.out de_ om_)
 have hbb3 : Below B w w3 := (hbb1.trans (hb2.mono om_)).trans hb3
 have H3 : Hid (IsB B b (acc ++ (124 :: (Lib.decDigits kids.length ++ 58 :: q5_ (kids.take 0)))) w3) := by
  show IsB _ _ _ _
  rw [List.take_zero, zbZ_]
  simpa using h3
 clear f1 e1
 have f3 := z2_ HB3.out
 have e3 := z5_ HB3.out
 clear h1 h3 hk1 hk3 hb1 hb2 hb3 hbb1 HB1 HB2
 go_wp2_with fail
 go_loopw [5, 23] (fun _ iv wr => ∃ j : Nat, j ≤ kids.length ∧ iv = .int .i64 j ∧ Hid (Below B w wr) ∧ Hid (IsB B b (acc ++ (124 :: (Lib.decDigits kids.length ++ 58 :: q5_ (kids.take j)))) wr)) (fun _ iv _ => kids.length - (intOf iv).toNat)
 case atStart => exact ⟨0, by omega, rfl, Lib.hid hbb3, H3⟩
 case round =>
  obtain ⟨j, hj, rfl, hbr, hir⟩ := hrel
  by_cases hlt : j < kids.length
  · have i3 : (j : Int) < kids.length := by omega
    rcases HD.out with h0 | ⟨g, o, rfl, hg, hgb, hrow⟩
    · subst h0; simp at hlt
    have hrow2 := zbE_ (zhk_ hbr.out) (fun _ _ h => h) kids g o hg hgb hrow
    obtain ⟨u0, u1, u2, u3, hx, c0, c1, c2, c3⟩ := zao_ kids g o j kids[j] hrow2 (List.getElem?_eq_getElem hlt)
    obtain ⟨ku, nu, tu, au, mu, cu, rfl, rfl, rfl, rfl⟩ := zaA_ hx
    have hcx : x3_ kids[j] ≤ N := by have := zaN_ kids kids[j] (List.getElem_mem hlt); omega
    have hrx := zb0_ kids kids[j] HR.out (List.getElem_mem hlt)
    have htk : q5_ (kids.take (j + 1)) = q5_ (kids.take j) ++ w5_ kids[j] := zea_ kids j hlt
    have hle := zhl_ kids (j + 1)
    have hcall := fun (W : World) (hW : Below B w W) (hgr : GL [] wr W) (hIW : IsB B b (acc ++ (124 :: (Lib.decDigits kids.length ++ 58 :: q5_ (kids.take j)))) W) => IH.out kids[j] B b _ _ W hcx hrx (z7_ hgr _ _ hx) hIW (by rw [htk] at hle; simp at hle ⊢; omega) (zc9_ HG.out hW hgB) hgB (Nat.le_trans hBw hW.size)
    have HTK := Lib.hid htk
    generalize w5_ kids[j] = lx at *
    have HC := Lib.hid hcall
    have hbs := hbr.out.size
    clear hcall hx hrow hrow2 hcx hrx htk HD
    go_wp2_with fail
    refine (HC.out _ (hbr.out.alloc om_ _) (z6_ (z1_ _ _) _) (zbr_ hir.out ((Below.refl _ wr).alloc (Nat.le_refl _) _))).mono ?_
    rintro e w4 ⟨rfl, h4, hb4⟩
    go_wp2_with fail
    go_roundw
    case rel => exact ⟨j + 1, by omega, by go_num, Lib.hid ((hbr.out.alloc om_ _).trans hb4), Lib.hid (by rw [HTK.out]; simpa using h4)⟩
    case measure => simp [intOf]; omega
  · obtain rfl : j = kids.length := by omega
    have hz := hir.out
    rw [List.take_length] at hz
    go_wp2
    go_end0
    exact ⟨rfl, hz, hbr.out⟩
theorem zfh_ : ∀ N, zff_ N
 | 0 => fun x B b acc v w hN _ _ _ _ _ _ _ => by have := j5_ x; omega
 | N + 1 => fun x B b acc v w hN hr hL hI hlen hG hgB hBw => by
   obtain ⟨k, t, n, kids⟩ := x
   obtain ⟨ad, c, rfl, ⟨hk0, hk1⟩, hn, ht, hkl, hd⟩ := y3_ hL
   rw [x3_] at hN
   rw [q1_, Bool.and_eq_true] at hr
   obtain ⟨hb, hrr⟩ := hr
   rw [w5_] at hlen ⊢
   unfold y9_ at hb
   by_cases h1 : k = 1
   · subst h1
     simp [zat_] at hlen
     exact zlf_ B b acc t n ad _ c w hI om_ hG hgB hBw
   rw [if_neg h1] at hb
   by_cases h2 : k = 2
   · subst h2
     simp [zat_] at hlen
     exact zlg_ B b acc t n ad _ c w hI om_ hG hgB hBw
   rw [if_neg h2] at hb
   by_cases h3 : k = 3
   · subst h3
     simp only [Bool.and_eq_true, decide_eq_true_eq] at hb
     simp [zat_] at hb hlen
     exact zlh_ B b acc t n om_ om_ ad _ c w hI om_ hG hgB hBw
   by_cases h4 : k = 4
   · subst h4
     simp only [Bool.and_eq_true, decide_eq_true_eq] at hb
     simp [zat_] at hb hlen
     exact zli_ B b acc t n om_ om_ ad _ c w hI om_ hG hgB hBw
   rw [if_neg om_] at hb
   by_cases h5 : k = 5
   · subst h5
     simp at hb
     simp [zat_] at hlen
     exact zlj_ N (zfh_ N) B b acc t n kids ad c om_ om_ hrr w hd hI om_ hG hgB hBw
   by_cases h6 : k = 6
   · subst h6
     simp at hb
     simp [zat_] at hlen
     exact zlk_ N (zfh_ N) B b acc t n kids ad c om_ om_ hrr w hd hI om_ hG hgB hBw
   rw [if_neg om_] at hb
   cases hb
mutual
theorem zda_ : ∀ x : LT, q1_ x = true → ((w5_ x).length : Int) ≤ 20000 * x3_ x
 | .mk k t n kids, h => by
   rw [q1_, Bool.and_eq_true] at h
   obtain ⟨hb, hr⟩ := h
   have h2 := zhm_ kids hr
   have h3 := zbt_ kids
   rw [w5_, x3_]
   unfold y9_ at hb
   by_cases h12 : k = 1 ∨ k = 2
   · rw [if_pos h12]
     have ht : t.length ≤ 16384 := by
      rcases h12 with rfl | rfl
      · simp at hb
        have := hb.2
        unfold x8_ at this
        rw [Bool.and_eq_true] at this
        exact (zaa_ this.1).2
      · simp at hb
        have := hb.2
        unfold w4_ at this
        rw [Bool.and_eq_true] at this
        exact (zaa_ this.1).2
     simp only [List.length_cons]
     omega
   rw [if_neg h12]
   have n1 : ¬ k = 1 := fun h => h12 (.inl h)
   have n2 : ¬ k = 2 := fun h => h12 (.inr h)
   rw [if_neg n1, if_neg n2] at hb
   by_cases h34 : k = 3 ∨ k = 4
   · rw [if_pos h34] at hb ⊢
     simp only [Bool.and_eq_true, decide_eq_true_eq] at hb
     have := zbQ_ n.toNat om_
     simp only [List.length_cons, List.length_append, List.length_nil]
     omega
   rw [if_neg h34] at hb ⊢
   by_cases h56 : k = 5 ∨ k = 6
   · rw [if_pos h56] at hb
     simp only [Bool.and_eq_true, decide_eq_true_eq] at hb
     have := zbQ_ kids.length om_
     simp only [List.length_cons, List.length_append]
     omega
   rw [if_neg h56] at hb
   cases hb
theorem zhm_ : ∀ l : List LT, w6_ l = true → ((q5_ l).length : Int) ≤ 20000 * w1_ l
 | [], _ => by rw [zbZ_, zbF_]; simp
 | x :: r, h => by
   rw [zcm_, Bool.and_eq_true] at h
   have h1 := zda_ x h.1
   have h2 := zhm_ r h.2
   rw [zcR_, zbe_, List.length_append]
   omega
end
def k1_ (x : LT) : Value := if w7_ x = true then .tuple #[.string (bs (w5_ x)), .int .i64 0] else .tuple #[.string (bs []), .int .i64 110]
theorem zbx_ (x : LT) (q : Nat → Prop) (v : Value) (w : World) (hL : y2_ q w x v) (hG : GOk w) :
  Calls Tryz.prog 16 #[v] w fun e w' => e = .returned (k1_ x) ∧ Below w.heap.size w w' := by
 have hr := fun (W : World) (hgw : GL [] w W) => zbf_ x q v W (z7_ hgw _ _ hL) (x4_ hG hgw si_)
 cases hx : w7_ x with
 | false =>
   have H : Hid (k1_ x = .tuple #[.string (bs []), .int .i64 110]) := by show k1_ x = _; unfold k1_; rw [hx]; rfl
   rw [hx] at hr
   obtain ⟨k, t, n, kids⟩ := x
   obtain ⟨ad, c, rfl, _⟩ := y3_ hL
   have HR := Lib.hid hr
   clear hr hL hx hG
   go_enter Tryz.func16, Tryz.ntmps16
   go_wp2_with fail
   refine (HR.out _ gl_).mono ?_
   rintro e w1 ⟨rfl, hb1⟩
   go_wp2_with fail
   go_ret2
   exact ⟨by rw [H.out]; rfl, bl_⟩
 | true =>
   have H : Hid (k1_ x = .tuple #[.string (bs (w5_ x)), .int .i64 0]) := by show k1_ x = _; unfold k1_; rw [hx]; rfl
   rw [hx] at hr
   have hx2 := hx
   unfold w7_ at hx2
   rw [Bool.and_eq_true, decide_eq_true_eq] at hx2
   have hlen := zda_ x hx2.2
   have hw := fun (B b : Nat) (W : World) (hgw : GL [] w W) (hB : w.heap.size ≤ B) (hI : IsB B b [] W) (hBW : B ≤ W.heap.size) => zfh_ (x3_ x).toNat x B b [] v W (by have := j5_ x; omega) hx2.2
    (z7_ hgw _ _ (q9_ (fun b hb _ => Nat.lt_of_lt_of_le hb hB) _ _ hL)) hI so_ (x4_ hG hgw si_) (Nat.le_trans hG.size hB) hBW
   generalize w5_ x = lx at *
   obtain ⟨k, t, n, kids⟩ := x
   obtain ⟨ad, c, rfl, _⟩ := y3_ hL
   have HR := Lib.hid hr
   have HW := Lib.hid hw
   have HG := Lib.hid hG
   clear hr hL hx hx2 hw hG hlen
   go_enter Tryz.func16, Tryz.ntmps16
   go_wp2_with fail
   refine (HR.out _ gl_).mono ?_
   rintro e w1 ⟨rfl, hb1⟩
   have hg1 : GL [] w w1 := z4_ hb1 (z6_ (z1_ _ _) _)
   have HB := Lib.hid (z9_ (z3_ w (.cells #[.int .u8 k, .string (bs t), .int .i64 n, .slice ad kids.length c] 25)) hb1 si_)
   have HB2 := Lib.hid (z8_ HB.out (.cells #[.pointer none, .slice none 0 0] 57))
   have hlt := z0_ HB.out
   have f1 := z2_ HB2.out
   have e1 := z5_ HB2.out
   clear hb1
   go_wp2_with fail
   refine (HW.out w1.heap.size w1.heap.size _ (z6_ hg1 _) hg1.size (zgu_ w1) si_).mono ?_
   rintro e w2 ⟨rfl, hI2, hb2⟩
   have hb12 : Below w1.heap.size w1 w2 := ((Below.refl _ w1).alloc (Nat.le_refl _) _).trans hb2
   have hs2 := hb2.size
   simp only [World.size_alloc] at hs2
   rw [List.nil_append] at hI2
   go_wp2_with fail
   refine (Tryz.Builder_String_any_k _ _ _ _ hI2 om_).mono ?_
   rintro e w3 ⟨rfl, _, hb3, _⟩
   rw [zeB_]
   go_wp2_with fail
   go_ret2
   exact ⟨by rw [H.out]; rfl, x0_ (z4_ (hb12.trans hb3) hg1)⟩
end Go.Proofs.YtiplnofaejpeoaaGreatDoor
