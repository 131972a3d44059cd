/- The reference's locks: a term's end. -/
import Derived.Test.YtiplnofaejpeoaaGreatDoorLockU
import Derived.Test.YtiplnofaejpeoaaGreatDoorMRef
import Derived.Test.YtiplnofaejpeoaaGreatDoorLockF
import Derived.Test.YtiplnofaejpeoaaGreatDoorAppN
import Derived.Test.YtiplnofaejpeoaaGreatDoorLawD0
import Derived.BigQuiet
import Derived.Test.YtiplnofaejpeoaaGreatDoorLockT
set_option maxRecDepth 100000
set_option maxHeartbeats 8000000
set_option linter.unusedSimpArgs false
set_option linter.unusedVariables false
namespace Go.Proofs.YtiplnofaejpeoaaGreatDoor
open Go.RowKit
def zhX_ (N : Nat) : Prop := ∀ (x : LT) (p : Nat → Prop) (u : Value) (top : Int) (w : World), x3_ x ≤ N → 0 ≤ top → top ≤ 1000 → y2_ p w x u →
 Calls Tryz.prog 45 #[u, .int .i64 top] w fun e w' => e = .returned (.int .i64 (min (x3_ x) (top + 1))) ∧ Below w.heap.size w w'
theorem zmC_ (l : List LT) (j : Nat) (h : j < l.length) : w1_ (l.take (j + 1)) = w1_ (l.take j) + x3_ l[j] := by
 have happ : ∀ a b : List LT, w1_ (a ++ b) = w1_ a + w1_ b := by
  intro a b
  induction a with
  | nil => rw [zbF_]; simp
  | cons x r ih => rw [List.cons_append, zbe_, zbe_, ih]; omega
 rw [List.take_succ_eq_append_getElem h, happ, zbe_, zbF_]; omega
theorem zmD_ (l : List LT) (j : Nat) : w1_ (l.take j) ≤ w1_ l := by
 have happ : ∀ a b : List LT, w1_ (a ++ b) = w1_ a + w1_ b := by
  intro a b
  induction a with
  | nil => rw [zbF_]; simp
  | cons x r ih => rw [List.cons_append, zbe_, zbe_, ih]; omega
 have h := congrArg w1_ (List.take_append_drop j l)
 rw [happ] at h
 have := zbt_ (l.drop j)
 omega
theorem zmE_ (N : Nat) (ih : zhX_ N) (top : Int) (h0 : 0 ≤ top) (h1 : top ≤ 1000) (k n : Int) (t : List UInt8) (kids : List LT) (ad : Option Addr) (c : Nat) (p : Nat → Prop) (hkn : kids.length ≤ 9000000000000000000) (hcN : w1_ kids ≤ N) (w : World)
  (hd : kids = [] ∨ ∃ b o, ad = some ⟨b, o, none⟩ ∧ b < w.heap.size ∧ p b ∧ x2_ p w kids b o) :
  Calls Tryz.prog 45 #[.agg #[.int .u8 k, .string (bs t), .int .i64 n, .slice ad kids.length c], .int .i64 top] w fun e w' => e = .returned (.int .i64 (min (1 + w1_ kids) (top + 1))) ∧ Below w.heap.size w w' := by
 have HD := Lib.hid hd
 have IH := Lib.hid ih
 have hpr := zbt_ kids
 clear hd ih
 go_enter Tryz.func45, Tryz.ntmps45
 go_wp2
 go_loopw [5, 6] (fun nv iv wr => ∃ (j : Nat) (s : Int), j ≤ kids.length ∧ iv = .int .i64 j ∧ nv = .int .i64 s ∧ 1 ≤ s ∧ s ≤ top + 1 ∧ Hid (s = min (1 + w1_ (kids.take j)) (top + 1)) ∧ Hid (wr.heap[w.heap.size]? = some (.cells #[.int .u8 k, .string (bs t), .int .i64 n, .slice ad kids.length c] 25 (0, 0))) ∧ Hid (GL [] w wr)) (fun _ iv _ => kids.length - (intOf iv).toNat)
 case atStart => exact ⟨0, 1, by omega, rfl, rfl, by omega, by omega, Lib.hid (by rw [List.take_zero, zbF_]; omega), Lib.hid (z3_ w (.cells #[.int .u8 k, .string (bs t), .int .i64 n, .slice ad kids.length c] 25)), Lib.hid gl_⟩
 case round =>
  obtain ⟨j, s, hj, rfl, rfl, hs0, hs1, hsv, H1, hgr⟩ := hrel
  have f1 := z2_ H1.out
  have e1 := z5_ H1.out
  have htl := zmD_ kids j
  by_cases hlt : j < kids.length
  · have i3 : (j : Int) < kids.length := by omega
    by_cases hst : s ≤ top
    · rcases HD.out with h0' | ⟨b, o, rfl, hb, hqb, hrow⟩
      · subst h0'; simp at hlt
      obtain ⟨u0, u1, u2, u3, hx, c0, c1, c2', c3⟩ := zao_ kids b o j kids[j] (zaM_ hgr.out kids b o hb hqb hrow) (List.getElem?_eq_getElem hlt)
      obtain ⟨ku, nu, tu, au, mu, cu, rfl, rfl, rfl, rfl⟩ := zaA_ hx
      have hcx : x3_ kids[j] ≤ N := by have := zaN_ kids kids[j] (List.getElem_mem hlt); omega
      have hcp := j5_ kids[j]
      have hcall := fun (W : World) (hg : GL [] wr W) => IH.out kids[j] p _ (top - s) W hcx om_ om_ (z7_ hg _ _ hx)
      have hts := zmC_ kids j hlt
      have HTS := Lib.hid hts
      generalize x3_ kids[j] = z at *
      have HC := Lib.hid hcall
      have hz : 1 ≤ min z (top - s + 1) ∧ min z (top - s + 1) ≤ top - s + 1 := by omega
      obtain ⟨zz, hzz⟩ : ∃ zz, min z (top - s + 1) = zz := ⟨_, rfl⟩
      have HZZ := Lib.hid hzz
      rw [hzz] at hz
      clear hcall hx hrow hcx HD hts hzz
      go_wp2_with fail
      refine (HC.out _ (z1_ _ _)).mono ?_
      rintro e w1 ⟨rfl, hb1⟩
      rw [HZZ.out]
      go_wp2_with fail
      go_roundw
      case rel => exact ⟨j + 1, s + zz, by omega, by go_num, by first | rfl | (congr; omega), by omega, by omega, Lib.hid (by have h1 := hsv.out; have h2 := HTS.out; have h3 := HZZ.out; omega), Lib.hid (z9_ H1.out hb1 (z0_ H1.out)), Lib.hid (z4_ hb1 hgr.out)⟩
      case measure => simp [intOf]; omega
    · have b1 : decide (s ≤ top) = false := by simpa using hst
      have HE : Hid (s = min (1 + w1_ kids) (top + 1)) := by
       show s = _
       have := hsv.out
       omega
      go_wp2
      go_ret
      exact ⟨by rw [← HE.out]; rfl, x0_ hgr.out⟩
  · obtain rfl : j = kids.length := by omega
    have i4 : decide ((kids.length : Int) < kids.length) = false := by simp
    have HE : Hid (s = min (1 + w1_ kids) (top + 1)) := by
     show s = _
     have := hsv.out
     rw [List.take_length] at this
     exact this
    go_wp2
    go_ret
    exact ⟨by rw [← HE.out]; rfl, x0_ hgr.out⟩
theorem zhY_ : ∀ N, zhX_ N
 | 0 => fun x p u top w hN _ _ _ => by have := j5_ x; omega
 | N + 1 => fun x p u top w hN h0 h1 hx => by
   obtain ⟨k, t, n, kids⟩ := x
   obtain ⟨ad, c, rfl, _, _, ht, hkn, hd⟩ := y3_ hx
   rw [x3_] at hN ⊢
   exact zmE_ N (zhY_ N) top h0 h1 k n t kids ad c p hkn om_ w hd
theorem zmF_ (n : Int) (t : List UInt8) (ht : t.length ≤ 9000000000000000000) (ad : Option Addr) (m c : Nat) (h1 : (n != 0) = true) (w : World) :
  Calls Tryz.prog 46 #[.agg #[.int .u8 1, .string (bs t), .int .i64 n, .slice ad m c]] w fun e w' => e = .returned (.bool false) ∧ Below w.heap.size w w' := by
 go_enter Tryz.func46, Tryz.ntmps46
 go_wp2
 go_ret
 exact ⟨by first | rfl | (simp; done), bl_⟩
theorem zmG_  (t : List UInt8) (ht : t.length ≤ 9000000000000000000) (ad : Option Addr) (m c : Nat) (h1 : (0 : Int) < m) (w : World) :
  Calls Tryz.prog 46 #[.agg #[.int .u8 1, .string (bs t), .int .i64 0, .slice ad m c]] w fun e w' => e = .returned (.bool false) ∧ Below w.heap.size w w' := by
 go_enter Tryz.func46, Tryz.ntmps46
 go_wp2
 go_ret
 exact ⟨by first | rfl | (simp; done), bl_⟩
theorem zmH_  (t : List UInt8) (ht : t.length ≤ 9000000000000000000) (ad : Option Addr) (m c : Nat) (hr : right t = false) (w : World) :
  Calls Tryz.prog 46 #[.agg #[.int .u8 1, .string (bs t), .int .i64 0, .slice ad 0 c]] w fun e w' => e = .returned (.bool false) ∧ Below w.heap.size w w' := by
 go_enter Tryz.func46, Tryz.ntmps46
 go_wp2_with fail
 refine (za2_ t (by first | exact ht | simp) _).mono ?_
 rintro e w1 ⟨rfl, hb1⟩
 rw [hr]
 have hq := z9_ (z3_ w _) hb1 si_
 have f0 := z2_ hq
 have f1 := z5_ hq
 clear hq
 go_wp2
 go_ret
 exact ⟨by first | rfl | (simp; done), bl_⟩
theorem zmI_ (n : Int) (t : List UInt8) (ht : t.length ≤ 9000000000000000000) (ad : Option Addr) (m c : Nat) (h1 : (n != 0) = true) (w : World) :
  Calls Tryz.prog 46 #[.agg #[.int .u8 2, .string (bs t), .int .i64 n, .slice ad m c]] w fun e w' => e = .returned (.bool false) ∧ Below w.heap.size w w' := by
 go_enter Tryz.func46, Tryz.ntmps46
 go_wp2
 go_ret
 exact ⟨by first | rfl | (simp; done), bl_⟩
theorem zmJ_  (t : List UInt8) (ht : t.length ≤ 9000000000000000000) (ad : Option Addr) (m c : Nat) (h1 : (0 : Int) < m) (w : World) :
  Calls Tryz.prog 46 #[.agg #[.int .u8 2, .string (bs t), .int .i64 0, .slice ad m c]] w fun e w' => e = .returned (.bool false) ∧ Below w.heap.size w w' := by
 go_enter Tryz.func46, Tryz.ntmps46
 go_wp2
 go_ret
 exact ⟨by first | rfl | (simp; done), bl_⟩
theorem zmK_  (t : List UInt8) (ht : t.length ≤ 9000000000000000000) (ad : Option Addr) (m c : Nat) (hr : right t = false) (w : World) :
  Calls Tryz.prog 46 #[.agg #[.int .u8 2, .string (bs t), .int .i64 0, .slice ad 0 c]] w fun e w' => e = .returned (.bool false) ∧ Below w.heap.size w w' := by
 go_enter Tryz.func46, Tryz.ntmps46
 go_wp2_with fail
 refine (za2_ t (by first | exact ht | simp) _).mono ?_
 rintro e w1 ⟨rfl, hb1⟩
 rw [hr]
 have hq := z9_ (z3_ w _) hb1 si_
 have f0 := z2_ hq
 have f1 := z5_ hq
 clear hq
 go_wp2
 go_ret
 exact ⟨by first | rfl | (simp; done), bl_⟩
theorem zmL_ (r : List UInt8) (t : List UInt8) (ht : t.length ≤ 9000000000000000000) (ad : Option Addr) (m c : Nat) (hr : right (80 :: r) = true) (hrl : r.length ≤ 8000000000000000000) (w : World) :
  Calls Tryz.prog 46 #[.agg #[.int .u8 1, .string (bs (80 :: r)), .int .i64 0, .slice ad 0 c]] w fun e w' => e = .returned (.bool true) ∧ Below w.heap.size w w' := by
 go_enter Tryz.func46, Tryz.ntmps46
 go_wp2_with fail
 refine (za2_ (80 :: r) so_ _).mono ?_
 rintro e w1 ⟨rfl, hb1⟩
 rw [hr]
 have hq := z9_ (z3_ w _) hb1 si_
 have f0 := z2_ hq
 have f1 := z5_ hq
 clear hq
 go_wp2
 go_ret
 exact ⟨by first | rfl | (simp; done), bl_⟩
theorem zmM_ (r : List UInt8) (t : List UInt8) (ht : t.length ≤ 9000000000000000000) (ad : Option Addr) (m c : Nat) (hr : right (87 :: r) = true) (hrl : r.length ≤ 8000000000000000000) (w : World) :
  Calls Tryz.prog 46 #[.agg #[.int .u8 1, .string (bs (87 :: r)), .int .i64 0, .slice ad 0 c]] w fun e w' => e = .returned (.bool true) ∧ Below w.heap.size w w' := by
 go_enter Tryz.func46, Tryz.ntmps46
 go_wp2_with fail
 refine (za2_ (87 :: r) so_ _).mono ?_
 rintro e w1 ⟨rfl, hb1⟩
 rw [hr]
 have hq := z9_ (z3_ w _) hb1 si_
 have f0 := z2_ hq
 have f1 := z5_ hq
 clear hq
 go_wp2
 go_ret
 exact ⟨by first | rfl | (simp; done), bl_⟩
theorem zmN_ (r : List UInt8) (t : List UInt8) (ht : t.length ≤ 9000000000000000000) (ad : Option Addr) (m c : Nat) (hr : right (76 :: r) = true) (hrl : r.length ≤ 8000000000000000000) (w : World) :
  Calls Tryz.prog 46 #[.agg #[.int .u8 1, .string (bs (76 :: r)), .int .i64 0, .slice ad 0 c]] w fun e w' => e = .returned (.bool true) ∧ Below w.heap.size w w' := by
 go_enter Tryz.func46, Tryz.ntmps46
 go_wp2_with fail
 refine (za2_ (76 :: r) so_ _).mono ?_
 rintro e w1 ⟨rfl, hb1⟩
 rw [hr]
 have hq := z9_ (z3_ w _) hb1 si_
 have f0 := z2_ hq
 have f1 := z5_ hq
 clear hq
 go_wp2
 go_ret
 exact ⟨by first | rfl | (simp; done), bl_⟩
theorem zmO_ (cc : UInt8) (r : List UInt8) (t : List UInt8) (ht : t.length ≤ 9000000000000000000) (ad : Option Addr) (m c : Nat) (hr : right (cc :: r) = true) (hrl : r.length ≤ 8000000000000000000) (b1 : (((cc.toNat : Nat) : Int) == 80) = false) (b2 : (((cc.toNat : Nat) : Int) == 87) = false) (b3 : (((cc.toNat : Nat) : Int) == 76) = false) (w : World) :
  Calls Tryz.prog 46 #[.agg #[.int .u8 1, .string (bs (cc :: r)), .int .i64 0, .slice ad 0 c]] w fun e w' => e = .returned (.bool false) ∧ Below w.heap.size w w' := by
 go_enter Tryz.func46, Tryz.ntmps46
 go_wp2_with fail
 refine (za2_ (cc :: r) so_ _).mono ?_
 rintro e w1 ⟨rfl, hb1⟩
 rw [hr]
 have hq := z9_ (z3_ w _) hb1 si_
 have f0 := z2_ hq
 have f1 := z5_ hq
 clear hq
 go_wp2
 go_ret
 exact ⟨by first | rfl | (simp; done), bl_⟩
theorem zmP_ (cc : UInt8) (r : List UInt8) (t : List UInt8) (ht : t.length ≤ 9000000000000000000) (ad : Option Addr) (m c : Nat) (hr : right (cc :: r) = true) (hrl : r.length ≤ 8000000000000000000) (w : World) :
  Calls Tryz.prog 46 #[.agg #[.int .u8 2, .string (bs (cc :: r)), .int .i64 0, .slice ad 0 c]] w fun e w' => e = .returned (.bool (((cc.toNat : Nat) : Int) == 72)) ∧ Below w.heap.size w w' := by
 go_enter Tryz.func46, Tryz.ntmps46
 go_wp2_with fail
 refine (za2_ (cc :: r) so_ _).mono ?_
 rintro e w1 ⟨rfl, hb1⟩
 rw [hr]
 have hq := z9_ (z3_ w _) hb1 si_
 have f0 := z2_ hq
 have f1 := z5_ hq
 clear hq
 go_wp2
 go_ret
 exact ⟨by first | rfl | (simp; done), bl_⟩
theorem zmQ_ (n : Int) (t : List UInt8) (ht : t.length ≤ 9000000000000000000) (ad : Option Addr) (m c : Nat) (h1 : (t == []) = false) (w : World) :
  Calls Tryz.prog 46 #[.agg #[.int .u8 3, .string (bs t), .int .i64 n, .slice ad m c]] w fun e w' => e = .returned (.bool false) ∧ Below w.heap.size w w' := by
 go_enter Tryz.func46, Tryz.ntmps46
 go_wp2
 go_ret
 exact ⟨by first | rfl | (simp; done), bl_⟩
theorem zmR_ (n : Int) (t : List UInt8) (ht : t.length ≤ 9000000000000000000) (ad : Option Addr) (m c : Nat) (h1 : ((m : Int) == 0) = false) (w : World) :
  Calls Tryz.prog 46 #[.agg #[.int .u8 3, .string (bs []), .int .i64 n, .slice ad m c]] w fun e w' => e = .returned (.bool false) ∧ Below w.heap.size w w' := by
 go_enter Tryz.func46, Tryz.ntmps46
 go_wp2
 go_ret
 exact ⟨by first | rfl | (simp; done), bl_⟩
theorem zmS_ (n : Int) (t : List UInt8) (ht : t.length ≤ 9000000000000000000) (ad : Option Addr) (m c : Nat) (h1 : decide (0 ≤ n) = false) (w : World) :
  Calls Tryz.prog 46 #[.agg #[.int .u8 3, .string (bs []), .int .i64 n, .slice ad 0 c]] w fun e w' => e = .returned (.bool false) ∧ Below w.heap.size w w' := by
 go_enter Tryz.func46, Tryz.ntmps46
 go_wp2
 go_ret
 exact ⟨by first | rfl | (simp; done), bl_⟩
theorem zmT_ (n : Int) (t : List UInt8) (ht : t.length ≤ 9000000000000000000) (ad : Option Addr) (m c : Nat) (h1 : 0 ≤ n) (w : World) :
  Calls Tryz.prog 46 #[.agg #[.int .u8 3, .string (bs []), .int .i64 n, .slice ad 0 c]] w fun e w' => e = .returned (.bool (decide (n < 1073741824))) ∧ Below w.heap.size w w' := by
 go_enter Tryz.func46, Tryz.ntmps46
 go_wp2
 go_ret
 exact ⟨by first | rfl | (simp; done), bl_⟩
theorem zmU_ (n : Int) (t : List UInt8) (ht : t.length ≤ 9000000000000000000) (ad : Option Addr) (m c : Nat) (h1 : (t == []) = false) (w : World) :
  Calls Tryz.prog 46 #[.agg #[.int .u8 4, .string (bs t), .int .i64 n, .slice ad m c]] w fun e w' => e = .returned (.bool false) ∧ Below w.heap.size w w' := by
 go_enter Tryz.func46, Tryz.ntmps46
 go_wp2
 go_ret
 exact ⟨by first | rfl | (simp; done), bl_⟩
theorem zmV_ (n : Int) (t : List UInt8) (ht : t.length ≤ 9000000000000000000) (ad : Option Addr) (m c : Nat) (h1 : ((m : Int) == 0) = false) (w : World) :
  Calls Tryz.prog 46 #[.agg #[.int .u8 4, .string (bs []), .int .i64 n, .slice ad m c]] w fun e w' => e = .returned (.bool false) ∧ Below w.heap.size w w' := by
 go_enter Tryz.func46, Tryz.ntmps46
 go_wp2
 go_ret
 exact ⟨by first | rfl | (simp; done), bl_⟩
theorem zmW_ (n : Int) (t : List UInt8) (ht : t.length ≤ 9000000000000000000) (ad : Option Addr) (m c : Nat) (h1 : decide (0 ≤ n) = false) (w : World) :
  Calls Tryz.prog 46 #[.agg #[.int .u8 4, .string (bs []), .int .i64 n, .slice ad 0 c]] w fun e w' => e = .returned (.bool false) ∧ Below w.heap.size w w' := by
 go_enter Tryz.func46, Tryz.ntmps46
 go_wp2
 go_ret
 exact ⟨by first | rfl | (simp; done), bl_⟩
theorem zmX_ (n : Int) (t : List UInt8) (ht : t.length ≤ 9000000000000000000) (ad : Option Addr) (m c : Nat) (h1 : 0 ≤ n) (w : World) :
  Calls Tryz.prog 46 #[.agg #[.int .u8 4, .string (bs []), .int .i64 n, .slice ad 0 c]] w fun e w' => e = .returned (.bool (decide (n < 1073741824))) ∧ Below w.heap.size w w' := by
 go_enter Tryz.func46, Tryz.ntmps46
 go_wp2
 go_ret
 exact ⟨by first | rfl | (simp; done), bl_⟩
theorem zmY_ (n : Int) (t : List UInt8) (ht : t.length ≤ 9000000000000000000) (ad : Option Addr) (m c : Nat) (h0 : ¬ t = []) (h1 : (t != []) = true) (w : World) :
  Calls Tryz.prog 46 #[.agg #[.int .u8 5, .string (bs t), .int .i64 n, .slice ad m c]] w fun e w' => e = .returned (.bool false) ∧ Below w.heap.size w w' := by
 go_enter Tryz.func46, Tryz.ntmps46
 go_wp2
 go_ret
 exact ⟨by first | rfl | (simp; done), bl_⟩
theorem zmZ_ (n : Int) (t : List UInt8) (ht : t.length ≤ 9000000000000000000) (ad : Option Addr) (m c : Nat) (h1 : (n != 0) = true) (w : World) :
  Calls Tryz.prog 46 #[.agg #[.int .u8 5, .string (bs []), .int .i64 n, .slice ad m c]] w fun e w' => e = .returned (.bool false) ∧ Below w.heap.size w w' := by
 go_enter Tryz.func46, Tryz.ntmps46
 go_wp2
 go_ret
 exact ⟨by first | rfl | (simp; done), bl_⟩
theorem zm0_  (t : List UInt8) (ht : t.length ≤ 9000000000000000000) (ad : Option Addr) (m c : Nat)  (w : World) :
  Calls Tryz.prog 46 #[.agg #[.int .u8 5, .string (bs []), .int .i64 0, .slice ad 0 c]] w fun e w' => e = .returned (.bool false) ∧ Below w.heap.size w w' := by
 go_enter Tryz.func46, Tryz.ntmps46
 go_wp2
 go_ret
 exact ⟨by first | rfl | (simp; done), bl_⟩
theorem zm1_  (t : List UInt8) (ht : t.length ≤ 9000000000000000000) (ad : Option Addr) (m c : Nat) (h1 : decide ((m : Int) < 1) = false) (h2 : decide (8 < (m : Int)) = true) (w : World) :
  Calls Tryz.prog 46 #[.agg #[.int .u8 5, .string (bs []), .int .i64 0, .slice ad m c]] w fun e w' => e = .returned (.bool false) ∧ Below w.heap.size w w' := by
 go_enter Tryz.func46, Tryz.ntmps46
 go_wp2
 go_ret
 exact ⟨by first | rfl | (simp; done), bl_⟩
theorem zm2_ (n : Int) (t : List UInt8) (ht : t.length ≤ 9000000000000000000) (ad : Option Addr) (m c : Nat) (h0 : ¬ t = []) (h1 : (t != []) = true) (w : World) :
  Calls Tryz.prog 46 #[.agg #[.int .u8 6, .string (bs t), .int .i64 n, .slice ad m c]] w fun e w' => e = .returned (.bool false) ∧ Below w.heap.size w w' := by
 go_enter Tryz.func46, Tryz.ntmps46
 go_wp2
 go_ret
 exact ⟨by first | rfl | (simp; done), bl_⟩
theorem zm3_ (n : Int) (t : List UInt8) (ht : t.length ≤ 9000000000000000000) (ad : Option Addr) (m c : Nat) (h1 : (n != 0) = true) (w : World) :
  Calls Tryz.prog 46 #[.agg #[.int .u8 6, .string (bs []), .int .i64 n, .slice ad m c]] w fun e w' => e = .returned (.bool false) ∧ Below w.heap.size w w' := by
 go_enter Tryz.func46, Tryz.ntmps46
 go_wp2
 go_ret
 exact ⟨by first | rfl | (simp; done), bl_⟩
theorem zm4_  (t : List UInt8) (ht : t.length ≤ 9000000000000000000) (ad : Option Addr) (m c : Nat)  (w : World) :
  Calls Tryz.prog 46 #[.agg #[.int .u8 6, .string (bs []), .int .i64 0, .slice ad 0 c]] w fun e w' => e = .returned (.bool false) ∧ Below w.heap.size w w' := by
 go_enter Tryz.func46, Tryz.ntmps46
 go_wp2
 go_ret
 exact ⟨by first | rfl | (simp; done), bl_⟩
theorem zm5_  (t : List UInt8) (ht : t.length ≤ 9000000000000000000) (ad : Option Addr) (m c : Nat) (h1 : decide ((m : Int) < 1) = false) (h2 : decide (8 < (m : Int)) = true) (w : World) :
  Calls Tryz.prog 46 #[.agg #[.int .u8 6, .string (bs []), .int .i64 0, .slice ad m c]] w fun e w' => e = .returned (.bool false) ∧ Below w.heap.size w w' := by
 go_enter Tryz.func46, Tryz.ntmps46
 go_wp2
 go_ret
 exact ⟨by first | rfl | (simp; done), bl_⟩
theorem zm6_ (k n : Int) (t : List UInt8) (ht : t.length ≤ 9000000000000000000) (ad : Option Addr) (m c : Nat) (b1 : (k == 1) = false) (b2 : (k == 2) = false) (b3 : (k == 3) = false) (b4 : (k == 4) = false) (b5 : (k == 5) = false) (b6 : (k == 6) = false) (w : World) :
  Calls Tryz.prog 46 #[.agg #[.int .u8 k, .string (bs t), .int .i64 n, .slice ad m c]] w fun e w' => e = .returned (.bool false) ∧ Below w.heap.size w w' := by
 go_enter Tryz.func46, Tryz.ntmps46
 go_wp2
 go_ret
 exact ⟨by first | rfl | (simp; done), bl_⟩
def zfD_ (N : Nat) : Prop := ∀ (x : LT) (p : Nat → Prop) (u : Value) (w : World), x3_ x ≤ N → y2_ p w x u →
 Calls Tryz.prog 46 #[u] w fun e w' => e = .returned (.bool (q1_ x)) ∧ Below w.heap.size w w'
theorem zdf_ : w6_ [] = true := by rw [w6_]
theorem zm7_ (N : Nat) (ih : zfD_ N) (kids : List LT) (ad : Option Addr) (c : Nat) (p : Nat → Prop) (hm0 : 0 < kids.length) (hm1 : kids.length ≤ 8) (hcN : w1_ kids ≤ N) (w : World)
  (hd : kids = [] ∨ ∃ b o, ad = some ⟨b, o, none⟩ ∧ b < w.heap.size ∧ p b ∧ x2_ p w kids b o) :
  Calls Tryz.prog 46 #[.agg #[.int .u8 5, .string (bs []), .int .i64 0, .slice ad kids.length c]] w fun e w' => e = .returned (.bool (w6_ kids)) ∧ Below w.heap.size w w' := by
 have HD := Lib.hid hd
 have IH := Lib.hid ih
 have b1 : decide ((kids.length : Int) < 1) = false := by simp; omega
 have b2 : decide (8 < (kids.length : Int)) = false := by simp; omega
 clear hd ih
 go_enter Tryz.func46, Tryz.ntmps46
 go_wp2
 go_loopw [4] (fun iv wr => ∃ j : Nat, j ≤ kids.length ∧ iv = .int .i64 j ∧ Hid (wr.heap[w.heap.size]? = some (.cells #[.int .u8 5, .string (bs []), .int .i64 0, .slice ad kids.length c] 25 (0, 0))) ∧ Hid (GL [] w wr) ∧ Hid (w6_ (kids.drop j) = w6_ kids)) (fun iv _ => kids.length - (intOf iv).toNat)
 case atStart => exact ⟨0, by omega, rfl, Lib.hid (z3_ w (.cells #[.int .u8 5, .string (bs []), .int .i64 0, .slice ad kids.length c] 25)), Lib.hid gl_, Lib.hid rfl⟩
 case round =>
  obtain ⟨j, hj, rfl, H1, hgr, hpr⟩ := hrel
  have f1 := z2_ H1.out
  have e1 := z5_ H1.out
  by_cases hlt : j < kids.length
  · have i3 : (j : Int) < kids.length := by omega
    rcases HD.out with h0' | ⟨b, o, rfl, hb, hqb, hrow⟩
    · subst h0'; simp at hlt
    obtain ⟨u0, u1, u2, u3, hx, c0, c1, c2', c3⟩ := zao_ kids b o j kids[j] (zaM_ hgr.out kids b o hb hqb hrow) (List.getElem?_eq_getElem hlt)
    obtain ⟨ku, nu, tu, au, mu, cu, rfl, rfl, rfl, rfl⟩ := zaA_ hx
    have hcx : x3_ kids[j] ≤ N := by have := zaN_ kids kids[j] (List.getElem_mem hlt); omega
    have hcall := fun (W : World) (hg : GL [] wr W) => IH.out kids[j] p _ W hcx (z7_ hg _ _ hx)
    have hp2 := hpr.out
    rw [List.drop_eq_getElem_cons hlt, zcm_] at hp2
    generalize q1_ kids[j] = z at *
    have HC := Lib.hid hcall
    clear hcall hx hrow hcx HD hpr
    cases z with
    | false =>
      have HP : Hid (w6_ kids = false) := by show _ = _; rw [← hp2]; rfl
      clear hp2
      go_wp2_with fail
      refine (HC.out _ (z1_ _ _)).mono ?_
      rintro e w1 ⟨rfl, hb1⟩
      go_wp2_with fail
      go_ret
      exact ⟨by rw [HP.out]; rfl, x0_ (z4_ hb1 hgr.out)⟩
    | true =>
      have HP : Hid (w6_ (kids.drop (j + 1)) = w6_ kids) := by show _ = _; rw [← hp2]; simp
      clear hp2
      go_wp2_with fail
      refine (HC.out _ (z1_ _ _)).mono ?_
      rintro e w1 ⟨rfl, hb1⟩
      go_wp2_with fail
      go_roundw
      case rel => exact ⟨j + 1, by omega, by go_num, Lib.hid (z9_ H1.out hb1 (z0_ H1.out)), Lib.hid (z4_ hb1 hgr.out), HP⟩
      case measure => simp [intOf]; omega
  · obtain rfl : j = kids.length := by omega
    have hz := hpr.out
    rw [List.drop_length, zdf_] at hz
    have HI := Lib.hid hz
    have i4 : decide ((kids.length : Int) < kids.length) = false := by simp
    clear hz hpr
    go_wp2
    go_ret
    exact ⟨by rw [← HI.out]; rfl, x0_ hgr.out⟩
theorem zm8_ (N : Nat) (ih : zfD_ N) (kids : List LT) (ad : Option Addr) (c : Nat) (p : Nat → Prop) (hm0 : 0 < kids.length) (hm1 : kids.length ≤ 8) (hcN : w1_ kids ≤ N) (w : World)
  (hd : kids = [] ∨ ∃ b o, ad = some ⟨b, o, none⟩ ∧ b < w.heap.size ∧ p b ∧ x2_ p w kids b o) :
  Calls Tryz.prog 46 #[.agg #[.int .u8 6, .string (bs []), .int .i64 0, .slice ad kids.length c]] w fun e w' => e = .returned (.bool (w6_ kids)) ∧ Below w.heap.size w w' := by
 have HD := Lib.hid hd
 have IH := Lib.hid ih
 have b1 : decide ((kids.length : Int) < 1) = false := by simp; omega
 have b2 : decide (8 < (kids.length : Int)) = false := by simp; omega
 clear hd ih
 go_enter Tryz.func46, Tryz.ntmps46
 go_wp2
 go_loopw [4] (fun iv wr => ∃ j : Nat, j ≤ kids.length ∧ iv = .int .i64 j ∧ Hid (wr.heap[w.heap.size]? = some (.cells #[.int .u8 6, .string (bs []), .int .i64 0, .slice ad kids.length c] 25 (0, 0))) ∧ Hid (GL [] w wr) ∧ Hid (w6_ (kids.drop j) = w6_ kids)) (fun iv _ => kids.length - (intOf iv).toNat)
 case atStart => exact ⟨0, by omega, rfl, Lib.hid (z3_ w (.cells #[.int .u8 6, .string (bs []), .int .i64 0, .slice ad kids.length c] 25)), Lib.hid gl_, Lib.hid rfl⟩
 case round =>
  obtain ⟨j, hj, rfl, H1, hgr, hpr⟩ := hrel
  have f1 := z2_ H1.out
  have e1 := z5_ H1.out
  by_cases hlt : j < kids.length
  · have i3 : (j : Int) < kids.length := by omega
    rcases HD.out with h0' | ⟨b, o, rfl, hb, hqb, hrow⟩
    · subst h0'; simp at hlt
    obtain ⟨u0, u1, u2, u3, hx, c0, c1, c2', c3⟩ := zao_ kids b o j kids[j] (zaM_ hgr.out kids b o hb hqb hrow) (List.getElem?_eq_getElem hlt)
    obtain ⟨ku, nu, tu, au, mu, cu, rfl, rfl, rfl, rfl⟩ := zaA_ hx
    have hcx : x3_ kids[j] ≤ N := by have := zaN_ kids kids[j] (List.getElem_mem hlt); omega
    have hcall := fun (W : World) (hg : GL [] wr W) => IH.out kids[j] p _ W hcx (z7_ hg _ _ hx)
    have hp2 := hpr.out
    rw [List.drop_eq_getElem_cons hlt, zcm_] at hp2
    generalize q1_ kids[j] = z at *
    have HC := Lib.hid hcall
    clear hcall hx hrow hcx HD hpr
    cases z with
    | false =>
      have HP : Hid (w6_ kids = false) := by show _ = _; rw [← hp2]; rfl
      clear hp2
      go_wp2_with fail
      refine (HC.out _ (z1_ _ _)).mono ?_
      rintro e w1 ⟨rfl, hb1⟩
      go_wp2_with fail
      go_ret
      exact ⟨by rw [HP.out]; rfl, x0_ (z4_ hb1 hgr.out)⟩
    | true =>
      have HP : Hid (w6_ (kids.drop (j + 1)) = w6_ kids) := by show _ = _; rw [← hp2]; simp
      clear hp2
      go_wp2_with fail
      refine (HC.out _ (z1_ _ _)).mono ?_
      rintro e w1 ⟨rfl, hb1⟩
      go_wp2_with fail
      go_roundw
      case rel => exact ⟨j + 1, by omega, by go_num, Lib.hid (z9_ H1.out hb1 (z0_ H1.out)), Lib.hid (z4_ hb1 hgr.out), HP⟩
      case measure => simp [intOf]; omega
  · obtain rfl : j = kids.length := by omega
    have hz := hpr.out
    rw [List.drop_length, zdf_] at hz
    have HI := Lib.hid hz
    have i4 : decide ((kids.length : Int) < kids.length) = false := by simp
    clear hz hpr
    go_wp2
    go_ret
    exact ⟨by rw [← HI.out]; rfl, x0_ hgr.out⟩
theorem zfE_ : ∀ N, zfD_ N
 | 0 => fun x p u w hN _ => by have := j5_ x; omega
 | N + 1 => fun x p u w hN hx => by
   obtain ⟨k, t, n, kids⟩ := x
   obtain ⟨ad, c, rfl, _, _, ht, hkn, hd⟩ := y3_ hx
   rw [x3_] at hN
   rw [q1_]
   by_cases h1 : k = 1
   · subst h1
     by_cases hn0 : n = 0
     · subst hn0
       by_cases hm : kids.length = 0
       · obtain rfl := zbG_ hm
         rw [zdf_, Bool.and_true]
         cases hr : right t with
         | false =>
           rw [show y9_ 1 t 0 ([] : List LT).length (x8_ t) (w4_ t) = false by simp [y9_, x8_, hr]]
           exact zmH_ t ht ad 0 c hr w
         | true =>
           have hl := zaa_ hr
           match t, ht, hr, hl with
           | [], _, _, hl => simp at hl
           | cc :: r, ht, hr, hl =>
             have hrl : r.length ≤ 8000000000000000000 := by simp at hl; omega
             by_cases h80 : cc = 80
             · subst h80
               rw [show y9_ 1 (80 :: r) 0 ([] : List LT).length (x8_ (80 :: r)) (w4_ (80 :: r)) = true by simp [y9_, x8_, hr]]
               exact zmL_ r _ ht ad 0 c hr hrl w
             by_cases h87 : cc = 87
             · subst h87
               rw [show y9_ 1 (87 :: r) 0 ([] : List LT).length (x8_ (87 :: r)) (w4_ (87 :: r)) = true by simp [y9_, x8_, hr]]
               exact zmM_ r _ ht ad 0 c hr hrl w
             by_cases h76 : cc = 76
             · subst h76
               rw [show y9_ 1 (76 :: r) 0 ([] : List LT).length (x8_ (76 :: r)) (w4_ (76 :: r)) = true by simp [y9_, x8_, hr]]
               exact zmN_ r _ ht ad 0 c hr hrl w
             rw [show y9_ 1 (cc :: r) 0 ([] : List LT).length (x8_ (cc :: r)) (w4_ (cc :: r)) = false by simp [y9_, x8_, hr, h80, h87, h76]]
             exact zmO_ cc r _ ht ad 0 c hr hrl (by have : cc.toNat ≠ 80 := fun h => h80 (UInt8.toNat_inj.1 h); simp; omega) (by have : cc.toNat ≠ 87 := fun h => h87 (UInt8.toNat_inj.1 h); simp; omega) (by have : cc.toNat ≠ 76 := fun h => h76 (UInt8.toNat_inj.1 h); simp; omega) w
       · rw [show (y9_ 1 t 0 kids.length (x8_ t) (w4_ t) && w6_ kids) = false by simp [y9_]; intro hh; subst hh; simp at hm]
         exact zmG_ t ht ad _ c om_ w
     · rw [show (y9_ 1 t n kids.length (x8_ t) (w4_ t) && w6_ kids) = false by simp [y9_, hn0]]
       exact zmF_ n t ht ad _ c (by simpa using hn0) w
   by_cases h2 : k = 2
   · subst h2
     by_cases hn0 : n = 0
     · subst hn0
       by_cases hm : kids.length = 0
       · obtain rfl := zbG_ hm
         rw [zdf_, Bool.and_true]
         cases hr : right t with
         | false =>
           rw [show y9_ 2 t 0 ([] : List LT).length (x8_ t) (w4_ t) = false by simp [y9_, w4_, hr]]
           exact zmK_ t ht ad 0 c hr w
         | true =>
           have hl := zaa_ hr
           match t, ht, hr, hl with
           | [], _, _, hl => simp at hl
           | cc :: r, ht, hr, hl =>
             have hrl : r.length ≤ 8000000000000000000 := by simp at hl; omega
             rw [show y9_ 2 (cc :: r) 0 ([] : List LT).length (x8_ (cc :: r)) (w4_ (cc :: r)) = (((cc.toNat : Nat) : Int) == 72) by
              simp only [y9_, w4_, hr]
              rw [Bool.eq_iff_iff]
              simp [← UInt8.toNat_inj]
              omega]
             exact zmP_ cc r _ ht ad 0 c hr hrl w
       · rw [show (y9_ 2 t 0 kids.length (x8_ t) (w4_ t) && w6_ kids) = false by simp [y9_]; intro hh; subst hh; simp at hm]
         exact zmJ_ t ht ad _ c om_ w
     · rw [show (y9_ 2 t n kids.length (x8_ t) (w4_ t) && w6_ kids) = false by simp [y9_, hn0]]
       exact zmI_ n t ht ad _ c (by simpa using hn0) w
   by_cases h3 : k = 3
   · subst h3
     by_cases ht0 : t = []
     · subst ht0
       by_cases hm : kids.length = 0
       · obtain rfl := zbG_ hm
         rw [zdf_, Bool.and_true]
         by_cases hl : 0 ≤ n
         · rw [show y9_ 3 [] n ([] : List LT).length (x8_ []) (w4_ []) = decide (n < 1073741824) by simp [y9_, hl]]
           exact zmT_ n [] ht ad 0 c hl w
         · rw [show y9_ 3 [] n ([] : List LT).length (x8_ []) (w4_ []) = false by simp [y9_, hl]]
           exact zmS_ n [] ht ad 0 c (by simpa using hl) w
       · rw [show (y9_ 3 [] n kids.length (x8_ []) (w4_ []) && w6_ kids) = false by simp [y9_]; intro hh; subst hh; simp at hm]
         exact zmR_ n [] ht ad _ c (k5_ om_) w
     · rw [show (y9_ 3 t n kids.length (x8_ t) (w4_ t) && w6_ kids) = false by simp [y9_, ht0]]
       exact zmQ_ n t ht ad _ c (by simpa using ht0) w
   by_cases h4 : k = 4
   · subst h4
     by_cases ht0 : t = []
     · subst ht0
       by_cases hm : kids.length = 0
       · obtain rfl := zbG_ hm
         rw [zdf_, Bool.and_true]
         by_cases hl : 0 ≤ n
         · rw [show y9_ 4 [] n ([] : List LT).length (x8_ []) (w4_ []) = decide (n < 1073741824) by simp [y9_, hl]]
           exact zmX_ n [] ht ad 0 c hl w
         · rw [show y9_ 4 [] n ([] : List LT).length (x8_ []) (w4_ []) = false by simp [y9_, hl]]
           exact zmW_ n [] ht ad 0 c (by simpa using hl) w
       · rw [show (y9_ 4 [] n kids.length (x8_ []) (w4_ []) && w6_ kids) = false by simp [y9_]; intro hh; subst hh; simp at hm]
         exact zmV_ n [] ht ad _ c (k5_ om_) w
     · rw [show (y9_ 4 t n kids.length (x8_ t) (w4_ t) && w6_ kids) = false by simp [y9_, ht0]]
       exact zmU_ n t ht ad _ c (by simpa using ht0) w
   by_cases h5 : k = 5
   · subst h5
     by_cases ht0 : t = []
     · subst ht0
       by_cases hn0 : n = 0
       · subst hn0
         by_cases hm : kids.length = 0
         · obtain rfl := zbG_ hm
           rw [show (y9_ 5 [] 0 ([] : List LT).length (x8_ []) (w4_ []) && w6_ []) = false by simp [y9_]]
           exact zm0_ [] ht ad 0 c w
         · by_cases hm8 : kids.length ≤ 8
           · rw [show y9_ 5 [] 0 kids.length (x8_ []) (w4_ []) = true by simp [y9_, hm8]; omega, Bool.true_and]
             exact zm7_ N (zfE_ N) kids ad c p om_ hm8 om_ w hd
           · rw [show (y9_ 5 [] 0 kids.length (x8_ []) (w4_ []) && w6_ kids) = false by simp [y9_]; omega]
             exact zm1_ [] ht ad _ c so_ so_ w
       · rw [show (y9_ 5 [] n kids.length (x8_ []) (w4_ []) && w6_ kids) = false by simp [y9_, hn0]]
         exact zmZ_ n [] ht ad _ c (by simpa using hn0) w
     · rw [show (y9_ 5 t n kids.length (x8_ t) (w4_ t) && w6_ kids) = false by simp [y9_, ht0]]
       exact zmY_ n t ht ad _ c ht0 (by simpa using ht0) w
   by_cases h6 : k = 6
   · subst h6
     by_cases ht0 : t = []
     · subst ht0
       by_cases hn0 : n = 0
       · subst hn0
         by_cases hm : kids.length = 0
         · obtain rfl := zbG_ hm
           rw [show (y9_ 6 [] 0 ([] : List LT).length (x8_ []) (w4_ []) && w6_ []) = false by simp [y9_]]
           exact zm4_ [] ht ad 0 c w
         · by_cases hm8 : kids.length ≤ 8
           · rw [show y9_ 6 [] 0 kids.length (x8_ []) (w4_ []) = true by simp [y9_, hm8]; omega, Bool.true_and]
             exact zm8_ N (zfE_ N) kids ad c p om_ hm8 om_ w hd
           · rw [show (y9_ 6 [] 0 kids.length (x8_ []) (w4_ []) && w6_ kids) = false by simp [y9_]; omega]
             exact zm5_ [] ht ad _ c so_ so_ w
       · rw [show (y9_ 6 [] n kids.length (x8_ []) (w4_ []) && w6_ kids) = false by simp [y9_, hn0]]
         exact zm3_ n [] ht ad _ c (by simpa using hn0) w
     · rw [show (y9_ 6 t n kids.length (x8_ t) (w4_ t) && w6_ kids) = false by simp [y9_, ht0]]
       exact zm2_ n t ht ad _ c ht0 (by simpa using ht0) w
   rw [show (y9_ k t n kids.length (x8_ t) (w4_ t) && w6_ kids) = false by simp [y9_, h1, h2, h3, h4, h5, h6]]
   exact zm6_ k n t ht ad _ c (k5_ h1) (k5_ h2) (k5_ h3) (k5_ h4) (k5_ h5) (k5_ h6) w
theorem zdg_ (x : LT) (q : Nat → Prop) (v : Value) (w : World) (hL : y2_ q w x v) :
  Calls Tryz.prog 24 #[v] w fun e w' => e = .returned (.bool (w7_ x)) ∧ Below w.heap.size w w' := by
 have hc := fun (W : World) (hgw : GL [] w W) => zhY_ (x3_ x).toNat x q v 64 W (by have := j5_ x; omega) om_ om_ (z7_ hgw _ _ hL)
 have hr := fun (W : World) (hgw : GL [] w W) => zfE_ (x3_ x).toNat x q v W (by have := j5_ x; omega) (z7_ hgw _ _ hL)
 have H : Hid (w7_ x = (decide (x3_ x ≤ 64) && q1_ x)) := rfl
 generalize w7_ x = y at *
 generalize q1_ x = z at *
 generalize x3_ x = cn at *
 obtain ⟨k, t, n, kids⟩ := x
 obtain ⟨ad, c, rfl, _⟩ := y3_ hL
 have HC := Lib.hid hc
 have HR := Lib.hid hr
 clear hc hr hL
 by_cases h : cn ≤ 64
 · have HM : Hid (min cn (64 + 1) = cn) := by show _ = _; omega
   have b1 : decide (cn ≤ 64) = true := by simpa using h
   go_enter Tryz.func24, Tryz.ntmps24
   go_wp2_with fail
   refine (HC.out _ gl_).mono ?_
   rintro e w1 ⟨rfl, hb1⟩
   rw [HM.out]
   have g1 := z9_ (z3_ w (.cells #[.int .u8 k, .string (bs t), .int .i64 n, .slice ad kids.length c] 25)) hb1 si_
   have f1 := z2_ g1
   have e1 := z5_ g1
   clear g1
   go_wp2_with fail
   refine (HR.out _ (z4_ hb1 gl_)).mono ?_
   rintro e w2 ⟨rfl, hb2⟩
   go_wp2_with fail
   go_ret
   exact ⟨by rw [H.out, b1]; rfl, bl_⟩
 · have HM : Hid (min cn (64 + 1) = 65) := by show _ = _; omega
   have b1 : decide (cn ≤ 64) = false := by simpa using h
   go_enter Tryz.func24, Tryz.ntmps24
   go_wp2_with fail
   refine (HC.out _ gl_).mono ?_
   rintro e w1 ⟨rfl, hb1⟩
   rw [HM.out]
   go_wp2_with fail
   go_ret
   exact ⟨by rw [H.out, b1]; rfl, bl_⟩
theorem zhZ_ (p m s : List UInt8) (hs : s.length ≤ 9000000000000000000) (w : World) :
  Calls Tryz.prog 77 #[.string (bs p), .string (bs m), .string (bs s)] w fun e w' => e = .returned (.bool (k3_ p m s)) ∧ Below w.heap.size w w' := by
 cases hr : rt s with
 | none =>
   have H : Hid (k3_ p m s = false) := by show k3_ p m s = false; unfold k3_; rw [hr]
   have HR := Lib.hid hr
   clear hr
   go_enter Tryz.func77, Tryz.ntmps77
   go_wp2_with fail
   refine (zcJ_ s hs _).mono ?_
   rintro e w1 hp
   rw [HR.out] at hp
   obtain ⟨rfl, hb1⟩ := hp
   go_wp2_with fail
   go_ret
   exact ⟨by first | (rw [H.out]; done) | (rw [H.out]; rfl), bl_⟩
 | some x =>
   by_cases ho : x.op.toNat = 83
   · obtain ⟨a, b, hk, ha, hb, _⟩ := zeL_ hr (by simp [arity, ← UInt8.toNat_inj, ho])
     have hal := zaa_ ha
     have HV : Hid (k3_ p m s = (b == m && w8_ a == p)) := by
      show k3_ p m s = _
      unfold k3_
      rw [hr]
      simp [ho, hk]
     have HKS := Lib.hid hk
     have HR := Lib.hid hr
     have b1 : (((x.op.toNat : Nat) : Int) == 83) = true := by simp [ho]
     clear hr ho hk hb ha
     cases hbm : (b == m) with
     | false =>
       have H : Hid (k3_ p m s = false) := by show k3_ p m s = false; rw [HV.out, hbm]; rfl
       have hne : ¬ b = m := by simpa using hbm
       clear HV
       go_enter Tryz.func77, Tryz.ntmps77
       go_wp2_with fail
       refine (zcJ_ s hs _).mono ?_
       rintro e w1 hp
       rw [HR.out] at hp
       obtain ⟨ad, kn, kc, rfl, hown, hb1⟩ := hp
       rw [HKS.out] at hown
       obtain ⟨g, cap, hv, hgb, hgw, hcap, hcap2, hcell⟩ := zaT_ hown si_
       injection hv with hv1 hv2 hv3
       subst hv1 hv2 hv3
       have c0 := zbY_ (hcell 0 (.string (bs a)) rfl) (.cells #[.int .u8 x.op.toNat, .int .i64 (q4_ x), .string (bs x.text), .slice (some ⟨g, 0, none⟩) 2 kc] 94)
       have c1 := zbY_ (hcell 1 (.string (bs b)) rfl) (.cells #[.int .u8 x.op.toNat, .int .i64 (q4_ x), .string (bs x.text), .slice (some ⟨g, 0, none⟩) 2 kc] 94)
       clear hcell hown
       go_wp2_with fail
       go_ret
       exact ⟨by first | (rw [H.out]; done) | (rw [H.out]; rfl), bl_⟩
     | true =>
       obtain rfl : b = m := by simpa using hbm
       clear hbm
       have H : Hid (k3_ p b s = (w8_ a == p)) := by show k3_ p b s = _; rw [HV.out]; simp
       clear HV
       go_enter Tryz.func77, Tryz.ntmps77
       go_wp2_with fail
       refine (zcJ_ s hs _).mono ?_
       rintro e w1 hp
       rw [HR.out] at hp
       obtain ⟨ad, kn, kc, rfl, hown, hb1⟩ := hp
       rw [HKS.out] at hown
       obtain ⟨g, cap, hv, hgb, hgw, hcap, hcap2, hcell⟩ := zaT_ hown si_
       injection hv with hv1 hv2 hv3
       subst hv1 hv2 hv3
       have c0 := zbY_ (hcell 0 (.string (bs a)) rfl) (.cells #[.int .u8 x.op.toNat, .int .i64 (q4_ x), .string (bs x.text), .slice (some ⟨g, 0, none⟩) 2 kc] 94)
       have c1 := zbY_ (hcell 1 (.string (bs b)) rfl) (.cells #[.int .u8 x.op.toNat, .int .i64 (q4_ x), .string (bs x.text), .slice (some ⟨g, 0, none⟩) 2 kc] 94)
       clear hcell hown
       go_wp2_with fail
       refine (zmB_ a om_ om_ _).mono ?_
       rintro e w2 ⟨rfl, hb3⟩
       go_wp2_with fail
       go_ret
       refine ⟨?_, bl_⟩
       rw [H.out]
       rw [show (w8_ a == p) = (p == w8_ a) from Bool.beq_comm]
       first | rfl | (congr 2; rw [Bool.eq_iff_iff]; simp; done) | (simp; done)
   · have H : Hid (k3_ p m s = false) := by show k3_ p m s = false; unfold k3_; rw [hr]; simp [ho]
     have HR := Lib.hid hr
     have b1 : (((x.op.toNat : Nat) : Int) == 83) = false := by simp; omega
     clear hr ho
     go_enter Tryz.func77, Tryz.ntmps77
     go_wp2_with fail
     refine (zcJ_ s hs _).mono ?_
     rintro e w1 hp
     rw [HR.out] at hp
     obtain ⟨ad, kn, kc, rfl, hown, hb1⟩ := hp
     clear hown
     go_wp2_with fail
     go_ret
     exact ⟨by first | (rw [H.out]; done) | (rw [H.out]; rfl), bl_⟩
def zfF_ (N : Nat) : Prop := ∀ (x : LT) (q : Nat → Prop) (v sv pv : Value) (sigs pres : List (List UInt8)) (msg : List UInt8) (after age : Int) (w : World), x3_ x ≤ N → q1_ x = true → y2_ q w x v → x5_ sv sigs w → x5_ pv pres w →
 sigs.length ≤ 9000000000000000000 → pres.length ≤ 9000000000000000000 → (∀ s ∈ sigs, s.length ≤ 9000000000000000000) → (∀ s ∈ pres, s.length ≤ 9000000000000000000) →
 Calls Tryz.prog 54 #[v, .agg #[sv, pv], .string (bs msg), .int .i64 after, .int .i64 age] w fun e w' => e = .returned (.bool (j9_ (sgP sigs msg) (prP pres) after age x)) ∧ Below w.heap.size w w'
theorem zm9_ (sigs : List (List UInt8)) (msg t : List UInt8) (j : Nat) (h : j < sigs.length) : sgP (sigs.drop j) msg t = (k3_ t msg sigs[j] || sgP (sigs.drop (j + 1)) msg t) := by
 unfold sgP; rw [List.drop_eq_getElem_cons h, List.any_cons]
theorem zna_ (pres : List (List UInt8)) (t : List UInt8) (j : Nat) (h : j < pres.length) : prP (pres.drop j) t = (((j8_ 72 pres[j]).2 == 0 && (j8_ 72 pres[j]).1 == t) || prP (pres.drop (j + 1)) t) := by
 unfold prP; rw [List.drop_eq_getElem_cons h, List.any_cons]
theorem znb_ (n : Int) (t : List UInt8) (kids : List LT) (ad : Option Addr) (c : Nat) (sa pa : Option Addr) (sc pc : Nat) (sigs pres : List (List UInt8)) (msg : List UInt8) (after age : Int) (w : World) (q : Nat → Prop)
  (hsv : x5_ (.slice sa sigs.length sc) sigs w) (hpv : x5_ (.slice pa pres.length pc) pres w) (hsn : sigs.length ≤ 9000000000000000000) (hpn : pres.length ≤ 9000000000000000000) (hst : ∀ s ∈ sigs, s.length ≤ 9000000000000000000) (hpt : ∀ s ∈ pres, s.length ≤ 9000000000000000000)  :
  Calls Tryz.prog 54 #[.agg #[.int .u8 1, .string (bs t), .int .i64 n, .slice ad kids.length c], .agg #[.slice sa sigs.length sc, .slice pa pres.length pc], .string (bs msg), .int .i64 after, .int .i64 age] w fun e w' =>
   e = .returned (.bool (sgP sigs msg t)) ∧ Below w.heap.size w w' := by
 have HSV := Lib.hid hsv
 have HPV := Lib.hid hpv
 have HST := Lib.hid hst
 have HPT := Lib.hid hpt
 clear hsv hpv hst hpt
 go_enter Tryz.func54, Tryz.ntmps54
 go_wp2
 go_loopw [11] (fun iv wr => ∃ j : Nat, j ≤ sigs.length ∧ iv = .int .i64 j ∧ Hid (wr.heap[w.heap.size]? = some (.cells #[.int .u8 1, .string (bs t), .int .i64 n, .slice ad kids.length c] 25 (0, 0))) ∧ Hid (wr.heap[w.heap.size + 1]? = some (.cells #[.slice sa sigs.length sc, .slice pa pres.length pc] 31 (0, 0))) ∧ Hid (GL [] w wr) ∧ Hid (sgP (sigs.drop j) msg t = sgP sigs msg t)) (fun iv _ => sigs.length - (intOf iv).toNat)
 case atStart => exact ⟨0, by omega, rfl, Lib.hid (z8_ (z3_ w (.cells #[.int .u8 1, .string (bs t), .int .i64 n, .slice ad kids.length c] 25)) (.cells #[.slice sa sigs.length sc, .slice pa pres.length pc] 31)), Lib.hid (by
  have h := z3_ (w.alloc (.cells #[.int .u8 1, .string (bs t), .int .i64 n, .slice ad kids.length c] 25)) (.cells #[.slice sa sigs.length sc, .slice pa pres.length pc] 31)
  rw [show (w.alloc (.cells #[.int .u8 1, .string (bs t), .int .i64 n, .slice ad kids.length c] 25)).heap.size = w.heap.size + 1 by simp] at h
  exact h), Lib.hid gl_, Lib.hid rfl⟩
 case round =>
  obtain ⟨j, hj, rfl, H1, H2, hgr, hpr⟩ := hrel
  have f1 := z2_ H1.out
  have e1 := z5_ H1.out
  have f2 := z2_ H2.out
  have e2 := z5_ H2.out
  by_cases hlt : j < sigs.length
  · have i3 : (j : Int) < sigs.length := by omega
    rcases HSV.out with ⟨_, _, h0, h1⟩ | ⟨b, o, cc, h0, hb, hc⟩
    · subst h1; simp at hlt
    injection h0 with h01 h02 h03
    subst h01 h03
    have c0 : wr.cell? ⟨b, o + j, none⟩ = some (.string (bs sigs[j])) := by
     have := hc j _ (List.getElem?_eq_getElem hlt)
     simp only [World.cell?, hgr.out.block b hb si_] at this ⊢
     exact this
    have hln := HST.out sigs[j] (List.getElem_mem hlt)
    have hp2 := hpr.out
    rw [zm9_ sigs msg t j hlt] at hp2
    generalize sigs[j] = sj at *
    obtain ⟨ve, hve⟩ : ∃ ve, k3_ t msg sj = ve := ⟨_, rfl⟩
    have HVE := Lib.hid hve
    rw [hve] at hp2
    clear hc h02 hve hpr HSV
    cases ve with
    | true =>
      have HP : Hid (sgP sigs msg t = true) := by show _ = _; rw [← hp2]; rfl
      clear hp2
      go_wp2
      go_region_held3 (fun w' => w'.cell? ⟨w.heap.size, 1, none⟩ = some (.string (bs t)) ∧ w'.cell? ⟨w.heap.size + 1, 0, none⟩ = some (.slice (some ⟨b, o, none⟩) sigs.length sc) ∧ w'.cell? ⟨b, o + j, none⟩ = some (.string (bs sj)))
       (first | go_keep | (go_split_ands; refine ⟨?_, ?_, ?_⟩ <;> exact (hbk.cell (World.block_lt_of_cell? _ _ as_)).trans as_))
       ((go_at_call 77; refine (zhZ_ t msg sj hln _).mono ?_; rintro e wk ⟨rfl, hbk⟩; rw [HVE.out]; have hgk : GL [] wr wk := z4_ hbk gl_))
      all_goals
       go_wp2
       go_ret
       exact ⟨by rw [HP.out]; rfl, x0_ (x1_ hgk hgr.out si_)⟩
    | false =>
      have HP : Hid (sgP (sigs.drop (j + 1)) msg t = sgP sigs msg t) := by show _ = _; rw [← hp2]; simp
      clear hp2
      go_wp2
      go_region_held3 (fun w' => w'.cell? ⟨w.heap.size, 1, none⟩ = some (.string (bs t)) ∧ w'.cell? ⟨w.heap.size + 1, 0, none⟩ = some (.slice (some ⟨b, o, none⟩) sigs.length sc) ∧ w'.cell? ⟨b, o + j, none⟩ = some (.string (bs sj)))
       (first | go_keep | (go_split_ands; refine ⟨?_, ?_, ?_⟩ <;> exact (hbk.cell (World.block_lt_of_cell? _ _ as_)).trans as_))
       ((go_at_call 77; refine (zhZ_ t msg sj hln _).mono ?_; rintro e wk ⟨rfl, hbk⟩; rw [HVE.out]; have hgk : GL [] wr wk := z4_ hbk gl_))
      all_goals
       go_wp2
       go_roundw
       case rel => exact ⟨j + 1, by omega, by go_num, Lib.hid (by have := y7_ H1.out hgk si_; exact this), Lib.hid (by have := y7_ H2.out hgk si_; exact this), Lib.hid (x1_ hgk hgr.out si_), HP⟩
       case measure => simp [intOf]; omega
  · obtain rfl : j = sigs.length := by omega
    have hz := hpr.out
    rw [List.drop_length] at hz
    have HI : Hid (sgP sigs msg t = false) := by show _ = _; rw [← hz]; rfl
    have i4 : decide ((sigs.length : Int) < sigs.length) = false := by simp
    clear hz hpr
    go_wp2
    go_ret
    exact ⟨by rw [HI.out]; rfl, x0_ hgr.out⟩
theorem znc_ (n : Int) (t : List UInt8) (kids : List LT) (ad : Option Addr) (c : Nat) (sa pa : Option Addr) (sc pc : Nat) (sigs pres : List (List UInt8)) (msg : List UInt8) (after age : Int) (w : World) (q : Nat → Prop)
  (hsv : x5_ (.slice sa sigs.length sc) sigs w) (hpv : x5_ (.slice pa pres.length pc) pres w) (hsn : sigs.length ≤ 9000000000000000000) (hpn : pres.length ≤ 9000000000000000000) (hst : ∀ s ∈ sigs, s.length ≤ 9000000000000000000) (hpt : ∀ s ∈ pres, s.length ≤ 9000000000000000000)  :
  Calls Tryz.prog 54 #[.agg #[.int .u8 2, .string (bs t), .int .i64 n, .slice ad kids.length c], .agg #[.slice sa sigs.length sc, .slice pa pres.length pc], .string (bs msg), .int .i64 after, .int .i64 age] w fun e w' =>
   e = .returned (.bool (prP pres t)) ∧ Below w.heap.size w w' := by
 have HSV := Lib.hid hsv
 have HPV := Lib.hid hpv
 have HST := Lib.hid hst
 have HPT := Lib.hid hpt
 clear hsv hpv hst hpt
 go_enter Tryz.func54, Tryz.ntmps54
 go_wp2
 go_loopw [12, 13, 14] (fun iv _ _ wr => ∃ j : Nat, j ≤ pres.length ∧ iv = .int .i64 j ∧ Hid (wr.heap[w.heap.size]? = some (.cells #[.int .u8 2, .string (bs t), .int .i64 n, .slice ad kids.length c] 25 (0, 0))) ∧ Hid (wr.heap[w.heap.size + 1]? = some (.cells #[.slice sa sigs.length sc, .slice pa pres.length pc] 31 (0, 0))) ∧ Hid (GL [] w wr) ∧ Hid (prP (pres.drop j) t = prP pres t)) (fun iv _ _ _ => pres.length - (intOf iv).toNat)
 case atStart => exact ⟨0, by omega, rfl, Lib.hid (z8_ (z3_ w (.cells #[.int .u8 2, .string (bs t), .int .i64 n, .slice ad kids.length c] 25)) (.cells #[.slice sa sigs.length sc, .slice pa pres.length pc] 31)), Lib.hid (by
  have h := z3_ (w.alloc (.cells #[.int .u8 2, .string (bs t), .int .i64 n, .slice ad kids.length c] 25)) (.cells #[.slice sa sigs.length sc, .slice pa pres.length pc] 31)
  rw [show (w.alloc (.cells #[.int .u8 2, .string (bs t), .int .i64 n, .slice ad kids.length c] 25)).heap.size = w.heap.size + 1 by simp] at h
  exact h), Lib.hid gl_, Lib.hid rfl⟩
 case round =>
  obtain ⟨j, hj, rfl, H1, H2, hgr, hpr⟩ := hrel
  have f1 := z2_ H1.out
  have e1 := z5_ H1.out
  have f2 := z2_ H2.out
  have e2 := z5_ H2.out
  by_cases hlt : j < pres.length
  · have i3 : (j : Int) < pres.length := by omega
    rcases HPV.out with ⟨_, _, h0, h1⟩ | ⟨b, o, cc, h0, hb, hc⟩
    · subst h1; simp at hlt
    injection h0 with h01 h02 h03
    subst h01 h03
    have c0 : wr.cell? ⟨b, o + j, none⟩ = some (.string (bs pres[j])) := by
     have := hc j _ (List.getElem?_eq_getElem hlt)
     simp only [World.cell?, hgr.out.block b hb si_] at this ⊢
     exact this
    have hln := HPT.out pres[j] (List.getElem_mem hlt)
    have hp2 := hpr.out
    rw [zna_ pres t j hlt] at hp2
    generalize pres[j] = sj at *
    have hcall := fun (W : World) => zmw_ 72 sj hln W
    generalize j8_ 72 sj = z at *
    obtain ⟨hh, nn⟩ := z
    have HC := Lib.hid hcall
    clear hc h02 hpr HPV hcall
    by_cases hn : nn = 0
    · subst hn
      by_cases he : hh = t
      · subst he
        have HP : Hid (prP pres hh = true) := by show _ = _; rw [← hp2]; simp
        clear hp2
        go_wp2_with fail
        refine (HC.out _).mono ?_
        rintro e wk ⟨rfl, hbk⟩
        have hgk : GL [] wr wk := z4_ hbk (z1_ _ _)
        have g1 := y7_ H1.out hgk si_
        have g2 := z2_ g1
        have g3 := z5_ g1
        clear g1
        go_wp2
        go_ret
        exact ⟨by rw [HP.out]; rfl, x0_ (x1_ hgk hgr.out si_)⟩
      · have he2 : (hh == t) = false := by simpa using he
        have HP : Hid (prP (pres.drop (j + 1)) t = prP pres t) := by show _ = _; rw [← hp2]; simp [he2]
        clear hp2
        go_wp2_with fail
        refine (HC.out _).mono ?_
        rintro e wk ⟨rfl, hbk⟩
        have hgk : GL [] wr wk := z4_ hbk (z1_ _ _)
        have g1 := y7_ H1.out hgk si_
        have g2 := z2_ g1
        have g3 := z5_ g1
        clear g1
        go_wp2
        go_roundw
        case rel => exact ⟨j + 1, by omega, by go_num, Lib.hid (by have := y7_ H1.out hgk si_; exact this), Lib.hid (by have := y7_ H2.out hgk si_; exact this), Lib.hid (x1_ hgk hgr.out si_), HP⟩
        case measure => simp [intOf]; omega
    · have hn2 : (nn == 0) = false := by simpa using hn
      have HP : Hid (prP (pres.drop (j + 1)) t = prP pres t) := by show _ = _; rw [← hp2]; simp [hn2]
      clear hp2
      go_wp2_with fail
      refine (HC.out _).mono ?_
      rintro e wk ⟨rfl, hbk⟩
      have hgk : GL [] wr wk := z4_ hbk (z1_ _ _)
      go_wp2
      go_roundw
      case rel => exact ⟨j + 1, by omega, by go_num, Lib.hid (by have := y7_ H1.out hgk si_; exact this), Lib.hid (by have := y7_ H2.out hgk si_; exact this), Lib.hid (x1_ hgk hgr.out si_), HP⟩
      case measure => simp [intOf]; omega
  · obtain rfl : j = pres.length := by omega
    have hz := hpr.out
    rw [List.drop_length] at hz
    have HI : Hid (prP pres t = false) := by show _ = _; rw [← hz]; rfl
    have i4 : decide ((pres.length : Int) < pres.length) = false := by simp
    clear hz hpr
    go_wp2
    go_ret
    exact ⟨by rw [HI.out]; rfl, x0_ hgr.out⟩
theorem znd_ (n : Int) (t : List UInt8) (kids : List LT) (ad : Option Addr) (c : Nat) (sa pa : Option Addr) (sc pc : Nat) (sigs pres : List (List UInt8)) (msg : List UInt8) (after age : Int) (w : World) (q : Nat → Prop)
  (hsv : x5_ (.slice sa sigs.length sc) sigs w) (hpv : x5_ (.slice pa pres.length pc) pres w) (hsn : sigs.length ≤ 9000000000000000000) (hpn : pres.length ≤ 9000000000000000000) (hst : ∀ s ∈ sigs, s.length ≤ 9000000000000000000) (hpt : ∀ s ∈ pres, s.length ≤ 9000000000000000000)  :
  Calls Tryz.prog 54 #[.agg #[.int .u8 3, .string (bs t), .int .i64 n, .slice ad kids.length c], .agg #[.slice sa sigs.length sc, .slice pa pres.length pc], .string (bs msg), .int .i64 after, .int .i64 age] w fun e w' =>
   e = .returned (.bool (decide (n ≤ after))) ∧ Below w.heap.size w w' := by
 have HSV := Lib.hid hsv
 have HPV := Lib.hid hpv
 have HST := Lib.hid hst
 have HPT := Lib.hid hpt
 clear hsv hpv hst hpt
 go_enter Tryz.func54, Tryz.ntmps54
 go_wp2
 go_ret
 exact ⟨rfl, bl_⟩
theorem zne_ (n : Int) (t : List UInt8) (kids : List LT) (ad : Option Addr) (c : Nat) (sa pa : Option Addr) (sc pc : Nat) (sigs pres : List (List UInt8)) (msg : List UInt8) (after age : Int) (w : World) (q : Nat → Prop)
  (hsv : x5_ (.slice sa sigs.length sc) sigs w) (hpv : x5_ (.slice pa pres.length pc) pres w) (hsn : sigs.length ≤ 9000000000000000000) (hpn : pres.length ≤ 9000000000000000000) (hst : ∀ s ∈ sigs, s.length ≤ 9000000000000000000) (hpt : ∀ s ∈ pres, s.length ≤ 9000000000000000000)  :
  Calls Tryz.prog 54 #[.agg #[.int .u8 4, .string (bs t), .int .i64 n, .slice ad kids.length c], .agg #[.slice sa sigs.length sc, .slice pa pres.length pc], .string (bs msg), .int .i64 after, .int .i64 age] w fun e w' =>
   e = .returned (.bool (decide (n ≤ age))) ∧ Below w.heap.size w w' := by
 have HSV := Lib.hid hsv
 have HPV := Lib.hid hpv
 have HST := Lib.hid hst
 have HPT := Lib.hid hpt
 clear hsv hpv hst hpt
 go_enter Tryz.func54, Tryz.ntmps54
 go_wp2
 go_ret
 exact ⟨rfl, bl_⟩
def j0_ (f : LT → Bool) : List LT → Nat
 | [] => 0
 | x :: r => (if f x then 1 else 0) + j0_ f r
theorem zdh_ (f : LT → Bool) : ∀ l : List LT, j0_ f l ≤ l.length
 | [] => Nat.le_refl _
 | x :: r => by rw [j0_, List.length_cons]; have := zdh_ f r; split <;> omega
theorem zh0_ (f : LT → Bool) (l : List LT) (j : Nat) (h : j < l.length) : j0_ f (l.take (j + 1)) = j0_ f (l.take j) + (if f l[j] then 1 else 0) := by
 have happ : ∀ a b : List LT, j0_ f (a ++ b) = j0_ f a + j0_ f b := by
  intro a b
  induction a with
  | nil => simp [j0_]
  | cons x r ih => rw [List.cons_append, j0_, j0_, ih]; omega
 rw [List.take_succ_eq_append_getElem h, happ, j0_, j0_]
 omega
theorem zfG_ (f : LT → Bool) : ∀ l : List LT, decide (j0_ f l = l.length) = l.all f
 | [] => rfl
 | x :: r => by
   have h1 := zdh_ f r
   have h2 := zfG_ f r
   rw [j0_, List.length_cons, List.all_cons, ← h2]
   cases hf : f x with
   | true => simp; omega
   | false => simp; omega
theorem zfH_ (f : LT → Bool) : ∀ l : List LT, decide (0 < j0_ f l) = l.any f
 | [] => rfl
 | x :: r => by
   have h2 := zfH_ f r
   rw [j0_, List.any_cons, ← h2]
   cases hf : f x with
   | true => simp; omega
   | false => simp
theorem znf_ (n : Int) (t : List UInt8) (kids : List LT) (ad : Option Addr) (c : Nat) (sa pa : Option Addr) (sc pc : Nat) (sigs pres : List (List UInt8)) (msg : List UInt8) (after age : Int) (w : World) (q : Nat → Prop)
  (hsv : x5_ (.slice sa sigs.length sc) sigs w) (hpv : x5_ (.slice pa pres.length pc) pres w) (hsn : sigs.length ≤ 9000000000000000000) (hpn : pres.length ≤ 9000000000000000000) (hst : ∀ s ∈ sigs, s.length ≤ 9000000000000000000) (hpt : ∀ s ∈ pres, s.length ≤ 9000000000000000000) (N : Nat) (ih : zfF_ N) (hcN : w1_ kids ≤ N) (hrr : w6_ kids = true) (hm0 : 0 < kids.length) (hm1 : kids.length ≤ 8) (hd : kids = [] ∨ ∃ b o, ad = some ⟨b, o, none⟩ ∧ b < w.heap.size ∧ q b ∧ x2_ q w kids b o) :
  Calls Tryz.prog 54 #[.agg #[.int .u8 5, .string (bs t), .int .i64 n, .slice ad kids.length c], .agg #[.slice sa sigs.length sc, .slice pa pres.length pc], .string (bs msg), .int .i64 after, .int .i64 age] w fun e w' =>
   e = .returned (.bool (kids.all (j9_ (sgP sigs msg) (prP pres) after age))) ∧ Below w.heap.size w w' := by
 have HSV := Lib.hid hsv
 have HPV := Lib.hid hpv
 have HST := Lib.hid hst
 have HPT := Lib.hid hpt
 clear hsv hpv hst hpt
 have HD := Lib.hid hd
 have IH := Lib.hid ih
 have HRR := Lib.hid hrr
 obtain ⟨fo, hfo⟩ : ∃ fo : LT → Bool, fo = j9_ (sgP sigs msg) (prP pres) after age := ⟨_, rfl⟩
 have HFO := Lib.hid hfo
 rw [← hfo]
 clear hd ih hrr hfo
 go_enter Tryz.func54, Tryz.ntmps54
 go_wp2
 go_loopw [15, 16] (fun nv iv wr => ∃ j : Nat, j ≤ kids.length ∧ iv = .int .i64 j ∧ nv = .int .i64 (j0_ fo (kids.take j)) ∧ Hid (wr.heap[w.heap.size]? = some (.cells #[.int .u8 5, .string (bs t), .int .i64 n, .slice ad kids.length c] 25 (0, 0))) ∧ Hid (wr.heap[w.heap.size + 1]? = some (.cells #[.slice sa sigs.length sc, .slice pa pres.length pc] 31 (0, 0))) ∧ Hid (GL [] w wr)) (fun _ iv _ => kids.length - (intOf iv).toNat)
 case atStart => exact ⟨0, by omega, rfl, rfl, Lib.hid (z8_ (z3_ w (.cells #[.int .u8 5, .string (bs t), .int .i64 n, .slice ad kids.length c] 25)) (.cells #[.slice sa sigs.length sc, .slice pa pres.length pc] 31)), Lib.hid (by
  have h := z3_ (w.alloc (.cells #[.int .u8 5, .string (bs t), .int .i64 n, .slice ad kids.length c] 25)) (.cells #[.slice sa sigs.length sc, .slice pa pres.length pc] 31)
  rw [show (w.alloc (.cells #[.int .u8 5, .string (bs t), .int .i64 n, .slice ad kids.length c] 25)).heap.size = w.heap.size + 1 by simp] at h
  exact h), Lib.hid gl_⟩
 case round =>
  obtain ⟨j, hj, rfl, rfl, H1, H2, hgr⟩ := hrel
  have f1 := z2_ H1.out
  have e1 := z5_ H1.out
  have f2 := z2_ H2.out
  have e2 := z5_ H2.out
  by_cases hlt : j < kids.length
  · have i3 : (j : Int) < kids.length := by omega
    rcases HD.out with h0' | ⟨b, o, rfl, hb, hqb, hrow⟩
    · subst h0'; simp at hlt
    obtain ⟨u0, u1, u2, u3, hx, c0, c1, c2', c3⟩ := zao_ kids b o j kids[j] (zaM_ hgr.out kids b o hb hqb hrow) (List.getElem?_eq_getElem hlt)
    obtain ⟨ku, nu, tu, au, mu, cu, rfl, rfl, rfl, rfl⟩ := zaA_ hx
    have hcx : x3_ kids[j] ≤ N := by have := zaN_ kids kids[j] (List.getElem_mem hlt); omega
    have hrx := zb0_ kids kids[j] HRR.out (List.getElem_mem hlt)
    have hcall := fun (W : World) (hg : GL [] wr W) => IH.out kids[j] q _ _ _ sigs pres msg after age W hcx hrx (z7_ hg _ _ hx) (y4_ HSV.out (x1_ hg hgr.out si_)) (y4_ HPV.out (x1_ hg hgr.out si_)) hsn hpn HST.out HPT.out
    rw [← HFO.out] at hcall
    have htk := zh0_ fo kids j hlt
    have hle := zdh_ fo (kids.take j)
    rw [List.length_take] at hle
    generalize fo kids[j] = z at *
    generalize j0_ fo (kids.take j) = m at *
    have HTK := Lib.hid htk
    have HC := Lib.hid hcall
    have hm8 : (m : Int) ≤ 8 := by omega
    clear hcall hx hrow hcx hrx htk HD hle
    cases z with
    | true =>
      go_wp2
      go_region_held3 (fun w' => w'.cell? ⟨w.heap.size, 3, none⟩ = some (.slice (some ⟨b, o, none⟩) kids.length c) ∧ w'.cell? ⟨w.heap.size + 1, 0, none⟩ = some (.slice sa sigs.length sc) ∧ w'.cell? ⟨w.heap.size + 1, 1, none⟩ = some (.slice pa pres.length pc) ∧ w'.cell? ⟨b, o + j * 4, none⟩ = some (.int .u8 ku) ∧ w'.cell? ⟨b, o + j * 4 + 1, none⟩ = some (.string (bs tu)) ∧ w'.cell? ⟨b, o + j * 4 + 2, none⟩ = some (.int .i64 nu) ∧ w'.cell? ⟨b, o + j * 4 + 3, none⟩ = some (.slice au mu cu))
       (first | go_keep | (go_split_ands; refine ⟨?_, ?_, ?_, ?_, ?_, ?_, ?_⟩ <;> exact (hbk.cell (World.block_lt_of_cell? _ _ as_)).trans as_))
       ((go_at_call 54; refine (HC.out _ (by first | exact z1_ _ _ | exact zam_ (z1_ _ _) | exact za8_ (z1_ _ _) _)).mono ?_; rintro e wk ⟨rfl, hbk⟩; have hgk : GL [] wr wk := z4_ hbk gl_))
      all_goals
       go_wp2
       go_roundw
       case rel => exact ⟨j + 1, by omega, by go_num, by rw [HTK.out]; first | rfl | (simp; done) | (congr 1; simp), Lib.hid (by have := y7_ H1.out hgk si_; exact this), Lib.hid (by have := y7_ H2.out hgk si_; exact this), Lib.hid (x1_ hgk hgr.out si_)⟩
       case measure => simp [intOf]; omega
    | false =>
      go_wp2
      go_region_held3 (fun w' => w'.cell? ⟨w.heap.size, 3, none⟩ = some (.slice (some ⟨b, o, none⟩) kids.length c) ∧ w'.cell? ⟨w.heap.size + 1, 0, none⟩ = some (.slice sa sigs.length sc) ∧ w'.cell? ⟨w.heap.size + 1, 1, none⟩ = some (.slice pa pres.length pc) ∧ w'.cell? ⟨b, o + j * 4, none⟩ = some (.int .u8 ku) ∧ w'.cell? ⟨b, o + j * 4 + 1, none⟩ = some (.string (bs tu)) ∧ w'.cell? ⟨b, o + j * 4 + 2, none⟩ = some (.int .i64 nu) ∧ w'.cell? ⟨b, o + j * 4 + 3, none⟩ = some (.slice au mu cu))
       (first | go_keep | (go_split_ands; refine ⟨?_, ?_, ?_, ?_, ?_, ?_, ?_⟩ <;> exact (hbk.cell (World.block_lt_of_cell? _ _ as_)).trans as_))
       ((go_at_call 54; refine (HC.out _ (by first | exact z1_ _ _ | exact zam_ (z1_ _ _) | exact za8_ (z1_ _ _) _)).mono ?_; rintro e wk ⟨rfl, hbk⟩; have hgk : GL [] wr wk := z4_ hbk gl_))
      all_goals
       go_wp2
       go_roundw
       case rel => exact ⟨j + 1, by omega, by go_num, by rw [HTK.out]; first | rfl | (simp; done) | (congr 1; simp), Lib.hid (by have := y7_ H1.out hgk si_; exact this), Lib.hid (by have := y7_ H2.out hgk si_; exact this), Lib.hid (x1_ hgk hgr.out si_)⟩
       case measure => simp [intOf]; omega
  · obtain rfl : j = kids.length := by omega
    have hal := zfG_ fo kids
    have han := zfH_ fo kids
    have hle := zdh_ fo kids
    rw [List.take_length]
    have i4 : decide ((kids.length : Int) < kids.length) = false := by simp
    by_cases heq : j0_ fo kids = kids.length
    · have HI : Hid ((kids.all fo) = true) := by
       show _ = true
       rw [← hal]; simpa using heq
      have e3 : (((j0_ fo kids : Nat) : Int) == (kids.length : Int)) = true := by simp [heq]
      clear hal han
      generalize j0_ fo kids = m at *
      go_wp2
      go_ret
      exact ⟨by rw [HI.out]; rfl, x0_ hgr.out⟩
    · have e3 : (((j0_ fo kids : Nat) : Int) == (kids.length : Int)) = false := by simp; omega
      have HI : Hid ((kids.all fo) = false) := by
       show _ = _
       rw [← hal]; simpa using heq
      clear hal han heq
      generalize j0_ fo kids = m at *
      go_wp2
      go_ret
      exact ⟨by rw [HI.out]; first | rfl | (simp; done), x0_ hgr.out⟩
theorem zng_ (n : Int) (t : List UInt8) (kids : List LT) (ad : Option Addr) (c : Nat) (sa pa : Option Addr) (sc pc : Nat) (sigs pres : List (List UInt8)) (msg : List UInt8) (after age : Int) (w : World) (q : Nat → Prop)
  (hsv : x5_ (.slice sa sigs.length sc) sigs w) (hpv : x5_ (.slice pa pres.length pc) pres w) (hsn : sigs.length ≤ 9000000000000000000) (hpn : pres.length ≤ 9000000000000000000) (hst : ∀ s ∈ sigs, s.length ≤ 9000000000000000000) (hpt : ∀ s ∈ pres, s.length ≤ 9000000000000000000) (N : Nat) (ih : zfF_ N) (hcN : w1_ kids ≤ N) (hrr : w6_ kids = true) (hm0 : 0 < kids.length) (hm1 : kids.length ≤ 8) (hd : kids = [] ∨ ∃ b o, ad = some ⟨b, o, none⟩ ∧ b < w.heap.size ∧ q b ∧ x2_ q w kids b o) :
  Calls Tryz.prog 54 #[.agg #[.int .u8 6, .string (bs t), .int .i64 n, .slice ad kids.length c], .agg #[.slice sa sigs.length sc, .slice pa pres.length pc], .string (bs msg), .int .i64 after, .int .i64 age] w fun e w' =>
   e = .returned (.bool (kids.any (j9_ (sgP sigs msg) (prP pres) after age))) ∧ Below w.heap.size w w' := by
 have HSV := Lib.hid hsv
 have HPV := Lib.hid hpv
 have HST := Lib.hid hst
 have HPT := Lib.hid hpt
 clear hsv hpv hst hpt
 have HD := Lib.hid hd
 have IH := Lib.hid ih
 have HRR := Lib.hid hrr
 obtain ⟨fo, hfo⟩ : ∃ fo : LT → Bool, fo = j9_ (sgP sigs msg) (prP pres) after age := ⟨_, rfl⟩
 have HFO := Lib.hid hfo
 rw [← hfo]
 clear hd ih hrr hfo
 go_enter Tryz.func54, Tryz.ntmps54
 go_wp2
 go_loopw [15, 16] (fun nv iv wr => ∃ j : Nat, j ≤ kids.length ∧ iv = .int .i64 j ∧ nv = .int .i64 (j0_ fo (kids.take j)) ∧ Hid (wr.heap[w.heap.size]? = some (.cells #[.int .u8 6, .string (bs t), .int .i64 n, .slice ad kids.length c] 25 (0, 0))) ∧ Hid (wr.heap[w.heap.size + 1]? = some (.cells #[.slice sa sigs.length sc, .slice pa pres.length pc] 31 (0, 0))) ∧ Hid (GL [] w wr)) (fun _ iv _ => kids.length - (intOf iv).toNat)
 case atStart => exact ⟨0, by omega, rfl, rfl, Lib.hid (z8_ (z3_ w (.cells #[.int .u8 6, .string (bs t), .int .i64 n, .slice ad kids.length c] 25)) (.cells #[.slice sa sigs.length sc, .slice pa pres.length pc] 31)), Lib.hid (by
  have h := z3_ (w.alloc (.cells #[.int .u8 6, .string (bs t), .int .i64 n, .slice ad kids.length c] 25)) (.cells #[.slice sa sigs.length sc, .slice pa pres.length pc] 31)
  rw [show (w.alloc (.cells #[.int .u8 6, .string (bs t), .int .i64 n, .slice ad kids.length c] 25)).heap.size = w.heap.size + 1 by simp] at h
  exact h), Lib.hid gl_⟩
 case round =>
  obtain ⟨j, hj, rfl, rfl, H1, H2, hgr⟩ := hrel
  have f1 := z2_ H1.out
  have e1 := z5_ H1.out
  have f2 := z2_ H2.out
  have e2 := z5_ H2.out
  by_cases hlt : j < kids.length
  · have i3 : (j : Int) < kids.length := by omega
    rcases HD.out with h0' | ⟨b, o, rfl, hb, hqb, hrow⟩
    · subst h0'; simp at hlt
    obtain ⟨u0, u1, u2, u3, hx, c0, c1, c2', c3⟩ := zao_ kids b o j kids[j] (zaM_ hgr.out kids b o hb hqb hrow) (List.getElem?_eq_getElem hlt)
    obtain ⟨ku, nu, tu, au, mu, cu, rfl, rfl, rfl, rfl⟩ := zaA_ hx
    have hcx : x3_ kids[j] ≤ N := by have := zaN_ kids kids[j] (List.getElem_mem hlt); omega
    have hrx := zb0_ kids kids[j] HRR.out (List.getElem_mem hlt)
    have hcall := fun (W : World) (hg : GL [] wr W) => IH.out kids[j] q _ _ _ sigs pres msg after age W hcx hrx (z7_ hg _ _ hx) (y4_ HSV.out (x1_ hg hgr.out si_)) (y4_ HPV.out (x1_ hg hgr.out si_)) hsn hpn HST.out HPT.out
    rw [← HFO.out] at hcall
    have htk := zh0_ fo kids j hlt
    have hle := zdh_ fo (kids.take j)
    rw [List.length_take] at hle
    generalize fo kids[j] = z at *
    generalize j0_ fo (kids.take j) = m at *
    have HTK := Lib.hid htk
    have HC := Lib.hid hcall
    have hm8 : (m : Int) ≤ 8 := by omega
    clear hcall hx hrow hcx hrx htk HD hle
    cases z with
    | true =>
      go_wp2
      go_region_held3 (fun w' => w'.cell? ⟨w.heap.size, 3, none⟩ = some (.slice (some ⟨b, o, none⟩) kids.length c) ∧ w'.cell? ⟨w.heap.size + 1, 0, none⟩ = some (.slice sa sigs.length sc) ∧ w'.cell? ⟨w.heap.size + 1, 1, none⟩ = some (.slice pa pres.length pc) ∧ w'.cell? ⟨b, o + j * 4, none⟩ = some (.int .u8 ku) ∧ w'.cell? ⟨b, o + j * 4 + 1, none⟩ = some (.string (bs tu)) ∧ w'.cell? ⟨b, o + j * 4 + 2, none⟩ = some (.int .i64 nu) ∧ w'.cell? ⟨b, o + j * 4 + 3, none⟩ = some (.slice au mu cu))
       (first | go_keep | (go_split_ands; refine ⟨?_, ?_, ?_, ?_, ?_, ?_, ?_⟩ <;> exact (hbk.cell (World.block_lt_of_cell? _ _ as_)).trans as_))
       ((go_at_call 54; refine (HC.out _ (by first | exact z1_ _ _ | exact zam_ (z1_ _ _) | exact za8_ (z1_ _ _) _)).mono ?_; rintro e wk ⟨rfl, hbk⟩; have hgk : GL [] wr wk := z4_ hbk gl_))
      all_goals
       go_wp2
       go_roundw
       case rel => exact ⟨j + 1, by omega, by go_num, by rw [HTK.out]; first | rfl | (simp; done) | (congr 1; simp), Lib.hid (by have := y7_ H1.out hgk si_; exact this), Lib.hid (by have := y7_ H2.out hgk si_; exact this), Lib.hid (x1_ hgk hgr.out si_)⟩
       case measure => simp [intOf]; omega
    | false =>
      go_wp2
      go_region_held3 (fun w' => w'.cell? ⟨w.heap.size, 3, none⟩ = some (.slice (some ⟨b, o, none⟩) kids.length c) ∧ w'.cell? ⟨w.heap.size + 1, 0, none⟩ = some (.slice sa sigs.length sc) ∧ w'.cell? ⟨w.heap.size + 1, 1, none⟩ = some (.slice pa pres.length pc) ∧ w'.cell? ⟨b, o + j * 4, none⟩ = some (.int .u8 ku) ∧ w'.cell? ⟨b, o + j * 4 + 1, none⟩ = some (.string (bs tu)) ∧ w'.cell? ⟨b, o + j * 4 + 2, none⟩ = some (.int .i64 nu) ∧ w'.cell? ⟨b, o + j * 4 + 3, none⟩ = some (.slice au mu cu))
       (first | go_keep | (go_split_ands; refine ⟨?_, ?_, ?_, ?_, ?_, ?_, ?_⟩ <;> exact (hbk.cell (World.block_lt_of_cell? _ _ as_)).trans as_))
       ((go_at_call 54; refine (HC.out _ (by first | exact z1_ _ _ | exact zam_ (z1_ _ _) | exact za8_ (z1_ _ _) _)).mono ?_; rintro e wk ⟨rfl, hbk⟩; have hgk : GL [] wr wk := z4_ hbk gl_))
      all_goals
       go_wp2
       go_roundw
       case rel => exact ⟨j + 1, by omega, by go_num, by rw [HTK.out]; first | rfl | (simp; done) | (congr 1; simp), Lib.hid (by have := y7_ H1.out hgk si_; exact this), Lib.hid (by have := y7_ H2.out hgk si_; exact this), Lib.hid (x1_ hgk hgr.out si_)⟩
       case measure => simp [intOf]; omega
  · obtain rfl : j = kids.length := by omega
    have hal := zfG_ fo kids
    have han := zfH_ fo kids
    have hle := zdh_ fo kids
    rw [List.take_length]
    have i4 : decide ((kids.length : Int) < kids.length) = false := by simp
    by_cases heq : j0_ fo kids = kids.length
    · have HI : Hid ((kids.any fo) = true) := by
       show _ = true
       rw [← han]; simp; omega
      have e3 : (((j0_ fo kids : Nat) : Int) == (kids.length : Int)) = true := by simp [heq]
      clear hal han
      generalize j0_ fo kids = m at *
      go_wp2
      go_ret
      exact ⟨by rw [HI.out]; rfl, x0_ hgr.out⟩
    · have e3 : (((j0_ fo kids : Nat) : Int) == (kids.length : Int)) = false := by simp; omega
      have HI : Hid ((kids.any fo) = decide ((0 : Int) < (j0_ fo kids : Nat))) := by
       show _ = _
       rw [← han]; simp
      clear hal han heq
      generalize j0_ fo kids = m at *
      go_wp2
      go_ret
      exact ⟨by rw [HI.out]; first | rfl | (simp; done), x0_ hgr.out⟩
theorem zh1_ (sg pr : List UInt8 → Bool) (a b : Int) : ∀ l : List LT, allL sg pr a b l = l.all (j9_ sg pr a b)
 | [] => by rw [allL]; rfl
 | x :: r => by rw [allL, List.all_cons, zh1_ sg pr a b r]
theorem zfI_ : ∀ N, zfF_ N
 | 0 => fun x q v sv pv sigs pres msg after age w hN _ _ _ _ _ _ _ _ => by have := j5_ x; omega
 | N + 1 => fun x q v sv pv sigs pres msg after age w hN hrr hL hS hP hsn hpn hst hpt => by
   obtain ⟨k, t, n, kids⟩ := x
   obtain ⟨ad, c, rfl, _, _, _, _, hd⟩ := y3_ hL
   obtain ⟨sa, sc, rfl, _⟩ := za6_ hS
   obtain ⟨pa, pc, rfl, _⟩ := za6_ hP
   rw [x3_] at hN
   rw [q1_, Bool.and_eq_true] at hrr
   obtain ⟨hbr, hrr⟩ := hrr
   unfold y9_ at hbr
   rw [j9_]
   by_cases h1 : k = 1
   · subst h1; rw [if_pos rfl]
     exact znb_ n t kids ad c sa pa sc pc sigs pres msg after age w q hS hP hsn hpn hst hpt
   rw [if_neg h1] at hbr ⊢
   by_cases h2 : k = 2
   · subst h2; rw [if_pos rfl]
     exact znc_ n t kids ad c sa pa sc pc sigs pres msg after age w q hS hP hsn hpn hst hpt
   rw [if_neg h2] at hbr ⊢
   by_cases h3 : k = 3
   · subst h3; rw [if_pos rfl]
     exact znd_ n t kids ad c sa pa sc pc sigs pres msg after age w q hS hP hsn hpn hst hpt
   rw [if_neg h3]
   by_cases h4 : k = 4
   · subst h4; rw [if_pos rfl]
     exact zne_ n t kids ad c sa pa sc pc sigs pres msg after age w q hS hP hsn hpn hst hpt
   rw [if_neg h4]
   rw [if_neg om_] at hbr
   by_cases h5 : k = 5
   · subst h5; rw [if_pos rfl, zh1_]
     simp at hbr
     exact znf_ n t kids ad c sa pa sc pc sigs pres msg after age w q hS hP hsn hpn hst hpt N (zfI_ N) om_ hrr om_ om_ hd
   rw [if_neg h5, zfc_]
   by_cases h6 : k = 6
   · subst h6
     simp at hbr
     exact zng_ n t kids ad c sa pa sc pc sigs pres msg after age w q hS hP hsn hpn hst hpt N (zfI_ N) om_ hrr om_ om_ hd
   · rw [if_neg om_] at hbr
     cases hbr
theorem znh_ {P : Program} {ops : Array Oper} {rest : List Oper} {o : Oper} {a : Act} {w : World} {Q : Exit → Act → World → Prop} (hgd : o.guard = none) (s x : Operand) (t : TypeId)
  (ho : o.op = .call { callee := .builtin .append, args := #[s, x], argTypes := #[t, t] })
  (base : Nat) (e : TypeId) (i : TypeInfo) (z : Value) (size bytes : Nat) (ht : P.underlying t = some (.slice e)) (hi : P.info? e = some i) (hz : i.zero = some z)
  (hsize : i.size = size) (hby : i.bytes = bytes) (hzs : z.cells.size = size) (hsz : 0 < size)
  (v : Value) (n : Nat) (xs : List Value) (hs : a.eval s = v) (hown : w.ownsRow base e size v n xs)
  (b2 : Nat) (u : Value) (m : Nat) (news : List Value) (hx : a.eval x = u) (hown2 : w.ownsRow b2 e size u m news) (h1 : ∀ u ∈ news, u.oneCell' = true)
  (h63 : n + m ≤ maxLen) (hbytes : (n + m) * bytes ≤ 140737488355328) (hbase : base ≤ w.heap.size)
  (h : ∀ v' w', w'.ownsRow base e size v' (n + m) (xs ++ news) → w.grownBy w' v.ownBlock → wpList P ops Q rest (a.put o.dst v') w') : wpList P ops Q (o :: rest) a w := by
 rcases hown2.2 with ⟨hu, hm⟩ | ⟨g, cap, cur, hu, hbg, hg, hnc, hcm, hcs, htake⟩
 · subst hm
   have hn : news = [] := List.eq_nil_of_length_eq_zero (by have := hown2.1; simpa using this)
   subst hn
   refine zfv_ hgd s x t ho base e i size ht hi v n xs hs hown 0 (hx.trans hu) (h v w ?_ ⟨rfl, rfl, rfl, Nat.le_refl _, fun _ _ _ => rfl⟩)
   rw [List.append_nil]; exact hown
 · exact wpList_append_own w hgd s x t ho base e i z size bytes ht hi hz hsize hby hzs hsz v n xs hs hown ⟨g, 0, none⟩ m cap news (hx.trans hu) hown2.1 (fun j y hj => hown2.cells (by rw [hu]; rfl) j y hj) h1 h63 hbytes hbase (fun v' w' a1 a2 _ => h v' w' a1 a2)
theorem zni_ (n : Nat) : ∀ (x : Int) (_ : x = n) (_ : n ≤ 9000000000000000000) (w : World),
  Calls Tryz.prog 59 #[.int .i64 x] w fun e w' => e = .returned (.string (bs (Lib.decDigits n))) ∧ Below w.heap.size w w' := by
 induction n using Nat.strongRecOn with
 | ind n ih =>
   intro x hx hn w
   subst hx
   have kc := fun (w : World) => zhN_ (P := Tryz.prog) w 55 9 5 (48 + (n : Int) % 10) Tryz.underlying55 Tryz.underlying5 Tryz.underlying9 om_ om_
   have H : Hid (Lib.decDigits n = if n < 10 then [UInt8.ofNat (48 + n)] else Lib.decDigits (n / 10) ++ [UInt8.ofNat (48 + n % 10)]) := by
    show Lib.decDigits n = _
    rw [Lib.decDigits]
    split <;> rfl
   by_cases h : n ≤ 9
   · clear ih
     go_enter Tryz.func59, Tryz.ntmps59
     go_wp2_with fail
     go_ret
     refine ⟨?_, ?_⟩
     · rw [H.out, if_pos om_]
       have : n % 10 = n := by omega
       simp [this]
     · exact bl_
   · have hlen : (Lib.decDigits (n / 10)).length ≤ 20 := zbQ_ _ om_
     go_enter Tryz.func59, Tryz.ntmps59
     go_wp2_with (go_at_call 59; refine (ih (n / 10) om_ _ om_ om_ _).mono ?_; rintro e w1 ⟨rfl, hb⟩)
     go_ret
     refine ⟨?_, ?_⟩
     · rw [H.out, if_neg om_]; simp
     · refine Below.trans ?_ (hb.mono si_)
       exact bl_
theorem zen_ (x : Int) (h0 : 0 ≤ x) (h1 : x ≤ 9000000000000000000) (w : World) :
  Calls Tryz.prog 59 #[.int .i64 x] w fun e w' => e = .returned (.string (bs (Lib.decDigits x.toNat))) ∧ Below w.heap.size w w' :=
 zni_ x.toNat x om_ om_ w
theorem znj_ (t : List UInt8) (ht : t.length ≤ 20000) (n : Int) (ad : Option Addr) (m c : Nat) (w : World) :
  Calls Tryz.prog 43 #[.agg #[.int .u8 1, .string (bs t), .int .i64 n, .slice ad m c]] w fun e w' => e = .returned (.string (bs (115 :: t))) ∧ Below w.heap.size w w' := by
 have hl : (115 :: t).length = t.length + 1 := rfl
 go_enter Tryz.func43, Tryz.ntmps43
 go_wp2
 go_ret
 exact ⟨by first | rfl | (simp; done), bl_⟩
theorem znk_ (t : List UInt8) (ht : t.length ≤ 20000) (n : Int) (ad : Option Addr) (m c : Nat) (w : World) :
  Calls Tryz.prog 43 #[.agg #[.int .u8 2, .string (bs t), .int .i64 n, .slice ad m c]] w fun e w' => e = .returned (.string (bs (112 :: t))) ∧ Below w.heap.size w w' := by
 have hl : (112 :: t).length = t.length + 1 := rfl
 go_enter Tryz.func43, Tryz.ntmps43
 go_wp2
 go_ret
 exact ⟨by first | rfl | (simp; done), bl_⟩
theorem znl_ (t : List UInt8) (n : Int) (h0 : 0 ≤ n) (h1 : n < 1073741824) (ad : Option Addr) (m c : Nat) (w : World) :
  Calls Tryz.prog 43 #[.agg #[.int .u8 3, .string (bs t), .int .i64 n, .slice ad m c]] w fun e w' => e = .returned (.string (bs (97 :: (Lib.decDigits n.toNat ++ [59])))) ∧ Below w.heap.size w w' := by
 have hd := zen_ n h0 om_
 have hlen : (Lib.decDigits n.toNat).length ≤ 20 := zbQ_ _ om_
 generalize Lib.decDigits n.toNat = dg at *
 have HD := Lib.hid hd
 clear hd
 go_enter Tryz.func43, Tryz.ntmps43
 go_wp2_with fail
 refine (HD.out _).mono ?_
 rintro e w1 ⟨rfl, hb1⟩
 go_wp2
 go_ret
 exact ⟨by first | rfl | (simp; done), bl_⟩
theorem znm_ (t : List UInt8) (n : Int) (h0 : 0 ≤ n) (h1 : n < 1073741824) (ad : Option Addr) (m c : Nat) (w : World) :
  Calls Tryz.prog 43 #[.agg #[.int .u8 4, .string (bs t), .int .i64 n, .slice ad m c]] w fun e w' => e = .returned (.string (bs (111 :: (Lib.decDigits n.toNat ++ [59])))) ∧ Below w.heap.size w w' := by
 have hd := zen_ n h0 om_
 have hlen : (Lib.decDigits n.toNat).length ≤ 20 := zbQ_ _ om_
 generalize Lib.decDigits n.toNat = dg at *
 have HD := Lib.hid hd
 clear hd
 go_enter Tryz.func43, Tryz.ntmps43
 go_wp2_with fail
 refine (HD.out _).mono ?_
 rintro e w1 ⟨rfl, hb1⟩
 go_wp2
 go_ret
 exact ⟨by first | rfl | (simp; done), bl_⟩
def zfJ_ (N : Nat) : Prop := ∀ (x : LT) (q : Nat → Prop) (v : Value) (w : World), x3_ x ≤ N → N ≤ 1000 → q1_ x = true → y2_ q w x v →
 Calls Tryz.prog 43 #[v] w fun e w' => e = .returned (.string (bs (w5_ x))) ∧ Below w.heap.size w w'
theorem znn_ (N : Nat) (ih : zfJ_ N) (hN : N ≤ 1000) (t : List UInt8) (n : Int) (kids : List LT) (ad : Option Addr) (c : Nat) (q : Nat → Prop) (hm : kids.length ≤ 8) (hcN : w1_ kids ≤ N) (hrr : w6_ kids = true) (w : World)
  (hd : kids = [] ∨ ∃ b o, ad = some ⟨b, o, none⟩ ∧ b < w.heap.size ∧ q b ∧ x2_ q w kids b o) :
  Calls Tryz.prog 43 #[.agg #[.int .u8 5, .string (bs t), .int .i64 n, .slice ad kids.length c]] w fun e w' => e = .returned (.string (bs (38 :: (Lib.decDigits kids.length ++ 58 :: q5_ kids)))) ∧ Below w.heap.size w w' := by
 have HD := Lib.hid hd
 have IH := Lib.hid ih
 have HR := Lib.hid hrr
 have hdc := zen_ kids.length om_ om_
 rw [Int.toNat_natCast] at hdc
 have hdl : (Lib.decDigits kids.length).length ≤ 20 := zbQ_ _ om_
 generalize Lib.decDigits kids.length = dg at *
 have HDC := Lib.hid hdc
 clear hd ih hrr hdc
 go_enter Tryz.func43, Tryz.ntmps43
 go_wp2_with fail
 refine (HDC.out _).mono ?_
 rintro e w1 ⟨rfl, hb1⟩
 have HB1 := Lib.hid (z9_ (z3_ w (.cells #[.int .u8 5, .string (bs t), .int .i64 n, .slice ad kids.length c] 25)) hb1 si_)
 have hg1 : GL [] w w1 := z4_ hb1 (z6_ (z1_ _ _) _)
 have fz1 := z2_ HB1.out
 have fz2 := z5_ HB1.out
 clear hb1
 go_wp2
 clear fz1 fz2
 go_loopw [3, 4] (fun sv iv wr => ∃ (j : Nat) (acc : List UInt8), j ≤ kids.length ∧ iv = .int .i64 j ∧ sv = .string (bs acc) ∧ acc.length ≤ 22 + 20000000 * j ∧ Hid (acc = 38 :: (dg ++ 58 :: q5_ (kids.take j))) ∧ Hid (wr.heap[w.heap.size]? = some (.cells #[.int .u8 5, .string (bs t), .int .i64 n, .slice ad kids.length c] 25 (0, 0))) ∧ Hid (GL [] w wr)) (fun _ iv _ => kids.length - (intOf iv).toNat)
 case atStart => exact ⟨0, _, by omega, rfl, rfl, sx_, Lib.hid (by simp [zbZ_]), HB1, Lib.hid hg1⟩
 case round =>
  obtain ⟨j, acc, hj, rfl, rfl, hal, hacc, H1, hgr⟩ := hrel
  have f1 := z2_ H1.out
  have e1 := z5_ H1.out
  by_cases hlt : j < kids.length
  · have i3 : (j : Int) < kids.length := by omega
    rcases HD.out with h0' | ⟨b, o, rfl, hb, hqb, hrow⟩
    · subst h0'; simp at hlt
    obtain ⟨u0, u1, u2, u3, hx, c0, c1, c2', c3⟩ := zao_ kids b o j kids[j] (zaM_ hgr.out kids b o hb hqb hrow) (List.getElem?_eq_getElem hlt)
    obtain ⟨ku, nu, tu, au, mu, cu, rfl, rfl, rfl, rfl⟩ := zaA_ hx
    have hcx : x3_ kids[j] ≤ N := by have := zaN_ kids kids[j] (List.getElem_mem hlt); omega
    have hrx := zb0_ kids kids[j] HR.out (List.getElem_mem hlt)
    have hcall := fun (W : World) (hg : GL [] wr W) => IH.out kids[j] q _ W hcx hN hrx (z7_ hg _ _ hx)
    have hll := zda_ kids[j] hrx
    have htk := zea_ kids j hlt
    generalize w5_ kids[j] = lx at *
    have hll2 : lx.length ≤ 20000000 := by omega
    have HTK := Lib.hid htk
    have HC := Lib.hid hcall
    have hal2 : acc.length ≤ 200000000 := by omega
    clear hcall hx hrow hcx hrx htk HD hll
    go_wp2_with fail
    refine (HC.out _ (z1_ _ _)).mono ?_
    rintro e w2 ⟨rfl, hb2⟩
    go_wp2_with fail
    go_roundw
    case rel => exact ⟨j + 1, acc ++ lx, by omega, by go_num, by first | rfl | (simp; done), by (rw [List.length_append]; omega), Lib.hid (by rw [HTK.out, hacc.out]; simp), Lib.hid (z9_ H1.out hb2 (z0_ H1.out)), Lib.hid (z4_ hb2 hgr.out)⟩
    case measure => simp [intOf]; omega
  · obtain rfl : j = kids.length := by omega
    have i4 : decide ((kids.length : Int) < kids.length) = false := by simp
    have hz := hacc.out
    rw [List.take_length] at hz
    have HZ := Lib.hid hz
    clear hz hacc
    go_wp2
    go_ret
    exact ⟨by rw [HZ.out]; rfl, x0_ hgr.out⟩
theorem zno_ (N : Nat) (ih : zfJ_ N) (hN : N ≤ 1000) (t : List UInt8) (n : Int) (kids : List LT) (ad : Option Addr) (c : Nat) (q : Nat → Prop) (hm : kids.length ≤ 8) (hcN : w1_ kids ≤ N) (hrr : w6_ kids = true) (w : World)
  (hd : kids = [] ∨ ∃ b o, ad = some ⟨b, o, none⟩ ∧ b < w.heap.size ∧ q b ∧ x2_ q w kids b o) :
  Calls Tryz.prog 43 #[.agg #[.int .u8 6, .string (bs t), .int .i64 n, .slice ad kids.length c]] w fun e w' => e = .returned (.string (bs (124 :: (Lib.decDigits kids.length ++ 58 :: q5_ kids)))) ∧ Below w.heap.size w w' := by
 have HD := Lib.hid hd
 have IH := Lib.hid ih
 have HR := Lib.hid hrr
 have hdc := zen_ kids.length om_ om_
 rw [Int.toNat_natCast] at hdc
 have hdl : (Lib.decDigits kids.length).length ≤ 20 := zbQ_ _ om_
 generalize Lib.decDigits kids.length = dg at *
 have HDC := Lib.hid hdc
 clear hd ih hrr hdc
 go_enter Tryz.func43, Tryz.ntmps43
 go_wp2_with fail
 refine (HDC.out _).mono ?_
 rintro e w1 ⟨rfl, hb1⟩
 have HB1 := Lib.hid (z9_ (z3_ w (.cells #[.int .u8 6, .string (bs t), .int .i64 n, .slice ad kids.length c] 25)) hb1 si_)
 have hg1 : GL [] w w1 := z4_ hb1 (z6_ (z1_ _ _) _)
 have fz1 := z2_ HB1.out
 have fz2 := z5_ HB1.out
 clear hb1
 go_wp2
 clear fz1 fz2
 go_loopw [3, 4] (fun sv iv wr => ∃ (j : Nat) (acc : List UInt8), j ≤ kids.length ∧ iv = .int .i64 j ∧ sv = .string (bs acc) ∧ acc.length ≤ 22 + 20000000 * j ∧ Hid (acc = 124 :: (dg ++ 58 :: q5_ (kids.take j))) ∧ Hid (wr.heap[w.heap.size]? = some (.cells #[.int .u8 6, .string (bs t), .int .i64 n, .slice ad kids.length c] 25 (0, 0))) ∧ Hid (GL [] w wr)) (fun _ iv _ => kids.length - (intOf iv).toNat)
 case atStart => exact ⟨0, _, by omega, rfl, rfl, sx_, Lib.hid (by simp [zbZ_]), HB1, Lib.hid hg1⟩
 case round =>
  obtain ⟨j, acc, hj, rfl, rfl, hal, hacc, H1, hgr⟩ := hrel
  have f1 := z2_ H1.out
  have e1 := z5_ H1.out
  by_cases hlt : j < kids.length
  · have i3 : (j : Int) < kids.length := by omega
    rcases HD.out with h0' | ⟨b, o, rfl, hb, hqb, hrow⟩
    · subst h0'; simp at hlt
    obtain ⟨u0, u1, u2, u3, hx, c0, c1, c2', c3⟩ := zao_ kids b o j kids[j] (zaM_ hgr.out kids b o hb hqb hrow) (List.getElem?_eq_getElem hlt)
    obtain ⟨ku, nu, tu, au, mu, cu, rfl, rfl, rfl, rfl⟩ := zaA_ hx
    have hcx : x3_ kids[j] ≤ N := by have := zaN_ kids kids[j] (List.getElem_mem hlt); omega
    have hrx := zb0_ kids kids[j] HR.out (List.getElem_mem hlt)
    have hcall := fun (W : World) (hg : GL [] wr W) => IH.out kids[j] q _ W hcx hN hrx (z7_ hg _ _ hx)
    have hll := zda_ kids[j] hrx
    have htk := zea_ kids j hlt
    generalize w5_ kids[j] = lx at *
    have hll2 : lx.length ≤ 20000000 := by omega
    have HTK := Lib.hid htk
    have HC := Lib.hid hcall
    have hal2 : acc.length ≤ 200000000 := by omega
    clear hcall hx hrow hcx hrx htk HD hll
    go_wp2_with fail
    refine (HC.out _ (z1_ _ _)).mono ?_
    rintro e w2 ⟨rfl, hb2⟩
    go_wp2_with fail
    go_roundw
    case rel => exact ⟨j + 1, acc ++ lx, by omega, by go_num, by first | rfl | (simp; done), by (rw [List.length_append]; omega), Lib.hid (by rw [HTK.out, hacc.out]; simp), Lib.hid (z9_ H1.out hb2 (z0_ H1.out)), Lib.hid (z4_ hb2 hgr.out)⟩
    case measure => simp [intOf]; omega
  · obtain rfl : j = kids.length := by omega
    have i4 : decide ((kids.length : Int) < kids.length) = false := by simp
    have hz := hacc.out
    rw [List.take_length] at hz
    have HZ := Lib.hid hz
    clear hz hacc
    go_wp2
    go_ret
    exact ⟨by rw [HZ.out]; rfl, x0_ hgr.out⟩
theorem zfK_ : ∀ N, zfJ_ N
 | 0 => fun x q v w hN _ _ _ => by have := j5_ x; omega
 | N + 1 => fun x q v w hN hK hr hL => by
   obtain ⟨k, t, n, kids⟩ := x
   obtain ⟨ad, c, rfl, _, _, _, _, hd⟩ := y3_ hL
   rw [x3_] at hN
   rw [q1_, Bool.and_eq_true] at hr
   obtain ⟨hb, hrr⟩ := hr
   unfold y9_ at hb
   rw [w5_]
   by_cases h1 : k = 1
   · subst h1
     simp only [if_true, Bool.and_eq_true, decide_eq_true_eq] at hb
     have hl : t.length ≤ 20000 := by have h := hb.2; unfold x8_ at h; rw [Bool.and_eq_true] at h; have := (zaa_ h.1).2; omega
     simpa [zat_] using znj_ t hl n ad kids.length c w
   by_cases h2 : k = 2
   · subst h2
     simp at hb
     have hl : t.length ≤ 20000 := by have h := hb.2; unfold w4_ at h; rw [Bool.and_eq_true] at h; have := (zaa_ h.1).2; omega
     simpa [zat_] using znk_ t hl n ad kids.length c w
   rw [if_neg h1, if_neg h2] at hb
   by_cases h3 : k = 3
   · subst h3
     simp at hb
     simpa [zat_] using znl_ t n om_ om_ ad kids.length c w
   by_cases h4 : k = 4
   · subst h4
     simp at hb
     simpa [zat_] using znm_ t n om_ om_ ad kids.length c w
   rw [if_neg om_] at hb
   by_cases h5 : k = 5
   · subst h5
     simp at hb
     simpa [zat_] using znn_ N (zfK_ N) om_ t n kids ad c q om_ om_ hrr w hd
   by_cases h6 : k = 6
   · subst h6
     simp at hb
     simpa [zat_] using zno_ N (zfK_ N) om_ t n kids ad c q om_ om_ hrr w hd
   · rw [if_neg om_] at hb
     cases hb
theorem znp_ (x : LT) (q : Nat → Prop) (v : Value) (w : World) (hL : y2_ q w x v) :
  Calls Tryz.prog 22 #[v] w fun e w' => e = .returned (k1_ x) ∧ Below w.heap.size w w' := by
 have hr := fun (W : World) (hgw : GL [] w W) => zdg_ x q v W (z7_ hgw _ _ hL)
 cases hx : w7_ x with
 | false =>
   have H : Hid (k1_ x = .tuple #[.string (bs []), .int .i64 110]) := by show k1_ x = _; unfold k1_; rw [hx]; rfl
   rw [hx] at hr
   obtain ⟨k, t, n, kids⟩ := x
   obtain ⟨ad, c, rfl, _⟩ := y3_ hL
   have HR := Lib.hid hr
   clear hr hL hx
   go_enter Tryz.func22, Tryz.ntmps22
   go_wp2_with fail
   refine (HR.out _ gl_).mono ?_
   rintro e w1 ⟨rfl, hb1⟩
   go_wp2_with fail
   go_ret2
   exact ⟨by rw [H.out]; rfl, bl_⟩
 | true =>
   have H : Hid (k1_ x = .tuple #[.string (bs (w5_ x)), .int .i64 0]) := by show k1_ x = _; unfold k1_; rw [if_pos hx]
   have hx2 := hx
   unfold w7_ at hx2
   rw [Bool.and_eq_true, decide_eq_true_eq] at hx2
   have hc := fun (W : World) (hgw : GL [] w W) => zfK_ (x3_ x).toNat x q v W (by have := j5_ x; omega) om_ hx2.2 (z7_ hgw _ _ hL)
   rw [hx] at hr
   generalize w5_ x = lx at *
   obtain ⟨k, t, n, kids⟩ := x
   obtain ⟨ad, c, rfl, _⟩ := y3_ hL
   have HR := Lib.hid hr
   have HC := Lib.hid hc
   clear hr hL hx hx2 hc
   go_enter Tryz.func22, Tryz.ntmps22
   go_wp2_with fail
   refine (HR.out _ gl_).mono ?_
   rintro e w1 ⟨rfl, hb1⟩
   have hg1 : GL [] w w1 := z4_ hb1 (z6_ (z1_ _ _) _)
   have HB1 := Lib.hid (z9_ (z3_ w (.cells #[.int .u8 k, .string (bs t), .int .i64 n, .slice ad kids.length c] 25)) hb1 si_)
   have f1 := z2_ HB1.out
   have f2 := z5_ HB1.out
   clear hb1
   go_wp2_with fail
   refine (HC.out _ gl_).mono ?_
   rintro e w2 ⟨rfl, hb2⟩
   go_wp2_with fail
   go_ret2
   exact ⟨by rw [H.out]; rfl, x0_ (z4_ hb2 hg1)⟩
def zdi_ (w : World) (ks : List (List UInt8)) (e : Ending) (w' : World) : Prop :=
 Below w.heap.size w w' ∧ ∃ (ad : Option Addr) (n c : Nat), e = .returned (.slice ad n c) ∧ w'.ownsRow w.heap.size 22 1 (.slice ad n c) ks.length (ks.map fun y => .string (bs y))
theorem znq_ {w w' : World} {ks : List (List UInt8)} {e : Ending} (h : zdi_ w ks e w') : Below w.heap.size w w' ∧ ∃ u, e = .returned u ∧ x5_ u ks w' := by
 obtain ⟨hb, a2, n2, c2, rfl, hown2⟩ := h
 refine ⟨hb, _, rfl, ?_⟩
 have hlen := zbm_ hown2
 by_cases hz : ks.length = 0
 · exact .inl ⟨a2, c2, by rw [hlen, hz], List.eq_nil_of_length_eq_zero hz⟩
 · obtain ⟨g, cap, hv, hgb, hgw, _, _, hcell⟩ := zaT_ hown2 om_
   refine .inr ⟨g, 0, cap, hv, hgw, fun i u hi => ?_⟩
   rw [Nat.zero_add]
   exact hcell i _ (by simp [hi])
def zh2_ (N : Nat) : Prop := ∀ (x : LT) (q : Nat → Prop) (v : Value) (w : World), x3_ x ≤ N → N ≤ 1000 → q1_ x = true → y2_ q w x v →
 Calls Tryz.prog 48 #[v] w fun e w' => zdi_ w (zaZ_ x) e w'
theorem znr_ (t : List UInt8) (n : Int) (ad : Option Addr) (c : Nat) (w : World) :
  Calls Tryz.prog 48 #[.agg #[.int .u8 1, .string (bs t), .int .i64 n, .slice ad 0 c]] w fun e w' => zdi_ w [t] e w' := by
 obtain ⟨t0, ht0, ht1, ht2, ht3⟩ := info_parts Tryz.infoTerm
 go_enter Tryz.func48, Tryz.ntmps48
 go_wp2_with (at_builtin; go_must (refine wpList_append_own _ rfl _ _ 29 rfl w.heap.size 22 t0 (.string ByteArray.empty) 1 16 Tryz.underlying29 ht0 ht1 ht2 ht3 rfl de_ _ 0 [] rfl (World.ownsRow_nil _ _ _ _) ⟨w.heap.size + 1, 0, none⟩ 1 1 [.string (bs t)] rfl rfl ?c1 ?c2 ?c3 ?c4 ?c5 ?_; (case c1 => exact zcw_ si_); (case c2 => exact one1 rfl); (case c3 => (unfold maxLen; omega)); (case c4 => omega); (case c5 => (simp; omega)); (intro v' w4 hown4 hgr4 _); (obtain ⟨ad4, n4, cp4, hv4⟩ := zai_ hown4); (subst hv4); (have HB4 := Lib.hid (j1_ (z8_ (z3_ w (.cells #[.int .u8 1, .string (bs t), .int .i64 n, .slice ad 0 c] 25)) _) hgr4 (by show ¬ some w.heap.size = (Value.slice none 0 0).ownBlock; simp [Value.ownBlock]))); (have g3 := z2_ HB4.out); (have g4 := z5_ HB4.out)))
 have hfin : zdi_ w [t] (.returned (.slice ad4 n4 cp4)) w4 := ⟨x0_ (zaL_ hgr4 (z6_ (z6_ (z1_ _ _) _) _) (fun r hr => by have hr2 : (Value.slice none 0 0).ownBlock = some r := hr; cases hr2)), ad4, n4, cp4, rfl, by simpa using hown4⟩
 have HFIN := Lib.hid hfin
 clear hfin
 go_wp2
 go_loopw [3, 4] (fun lv iv wr => iv = .int .i64 0 ∧ lv = .slice ad4 n4 cp4 ∧ Hid (wr = w4)) (fun _ _ _ => 0)
 case atStart => exact ⟨rfl, rfl, Lib.hid rfl⟩
 case round =>
  obtain ⟨rfl, rfl, hwr⟩ := hrel
  have hwr2 := hwr.out
  subst hwr2
  go_wp2
  go_ret
  exact HFIN.out
theorem zns_ (N : Nat) (ih : zh2_ N) (hN : N ≤ 1000) (k n : Int) (hk1 : (k == 1) = false) (t : List UInt8) (kids : List LT) (ad : Option Addr) (c : Nat) (q : Nat → Prop) (hcN : w1_ kids ≤ N) (hrr : w6_ kids = true) (hkn : kids.length ≤ 1000) (w : World)
  (hd : kids = [] ∨ ∃ b o, ad = some ⟨b, o, none⟩ ∧ b < w.heap.size ∧ q b ∧ x2_ q w kids b o) :
  Calls Tryz.prog 48 #[.agg #[.int .u8 k, .string (bs t), .int .i64 n, .slice ad kids.length c]] w fun e w' => zdi_ w (zaE_ kids) e w' := by
 obtain ⟨t0, ht0, ht1, ht2, ht3⟩ := info_parts Tryz.infoTerm
 have HD := Lib.hid hd
 have IH := Lib.hid ih
 have HR := Lib.hid hrr
 clear hd ih hrr
 go_enter Tryz.func48, Tryz.ntmps48
 go_wp2
 go_loopw [3, 4] (fun lv iv wr => ∃ (j : Nat) (ks : List (List UInt8)) (a : Option Addr) (m cp : Nat), j ≤ kids.length ∧ iv = .int .i64 j ∧ lv = .slice a m cp ∧ Hid (ks = zaE_ (kids.take j)) ∧ Hid (wr.ownsRow w.heap.size 22 1 (.slice a m cp) ks.length (ks.map fun y => .string (bs y))) ∧ Hid (wr.heap[w.heap.size]? = some (.cells #[.int .u8 k, .string (bs t), .int .i64 n, .slice ad kids.length c] 25 (0, 0))) ∧ Hid (GL [] w wr)) (fun _ iv _ => kids.length - (intOf iv).toNat)
 case atStart => exact ⟨0, [], none, 0, 0, by omega, rfl, rfl, Lib.hid (by rw [List.take_zero, zcS_]), Lib.hid (World.ownsRow_nil _ _ _ _), Lib.hid (z3_ w _), Lib.hid gl_⟩
 case round =>
  obtain ⟨j, ks, a, m, cp, hj, rfl, rfl, hks, HO, H1, hgr⟩ := hrel
  have f1 := z2_ H1.out
  have e1 := z5_ H1.out
  by_cases hlt : j < kids.length
  · have i3 : (j : Int) < kids.length := by omega
    rcases HD.out with h0' | ⟨b, o, rfl, hb, hqb, hrow⟩
    · subst h0'; simp at hlt
    obtain ⟨u0, u1, u2, u3, hx, c0, c1, c2', c3⟩ := zao_ kids b o j kids[j] (zaM_ hgr.out kids b o hb hqb hrow) (List.getElem?_eq_getElem hlt)
    obtain ⟨ku, nu, tu, au, mu, cu, rfl, rfl, rfl, rfl⟩ := zaA_ hx
    have hcx : x3_ kids[j] ≤ N := by have := zaN_ kids kids[j] (List.getElem_mem hlt); omega
    have hrx := zb0_ kids kids[j] HR.out (List.getElem_mem hlt)
    have hcall := fun (W : World) (hg : GL [] wr W) => IH.out kids[j] q _ W hcx hN hrx (z7_ hg _ _ hx)
    have hct := zhq_ kids j hlt
    have hkl := zec_ (kids.take j)
    have hxl := zfi_ kids[j]
    have htk := zhp_ kids j hlt
    rw [← hks.out] at hkl htk
    generalize zaZ_ kids[j] = kx at *
    have HTK := Lib.hid htk
    have HC := Lib.hid hcall
    have hks2 : ks.length ≤ 1000 := by omega
    have hkx2 : kx.length ≤ 1000 := by omega
    have hszr := hgr.out.size
    have hown0 := HO.out
    have hge := zal_ hown0
    clear hcall hx hrow hcx hrx htk HD hct hkl hxl
    have hb1 : w.heap.size ≤ wr.heap.size := hszr
    go_wp2_with (first
     | (go_at_call 48; refine (HC.out _ (z1_ _ _)).mono ?_; rintro e w2 ⟨hb2, a2, n2, cc2, rfl, hown2⟩; have hown1 := zcX_ hown0 hb2 rfl; have H2 := Lib.hid (z9_ H1.out hb2 (z0_ H1.out)); have hg2 : GL [] w w2 := z4_ hb2 hgr.out; have hs2 := hb2.size)
     | (at_builtin; go_must (refine znh_ rfl _ _ 29 rfl w.heap.size 22 t0 (.string ByteArray.empty) 1 16 Tryz.underlying29 ht0 ht1 ht2 ht3 rfl de_ _ ks.length _ rfl hown1 wr.heap.size _ kx.length _ rfl hown2 ?c2 ?c3 ?c4 ?c5 ?_; (case c2 => (intro u h; rw [List.mem_map] at h; obtain ⟨y, _, rfl⟩ := h; rfl)); (case c3 => (unfold maxLen; omega)); (case c4 => omega); (case c5 => omega); (intro v' w4 hown4 hgr4); (obtain ⟨ad4, n4, cp4, hv4⟩ := zai_ hown4); (subst hv4))))
    go_roundw
    case rel => exact ⟨j + 1, ks ++ kx, _, _, _, by omega, by go_num, rfl, Lib.hid HTK.out.symm, Lib.hid (by simpa using hown4), Lib.hid (j1_ H2.out hgr4 (j4_ hown0 H1.out de_)), Lib.hid (zaL_ hgr4 hg2 (fun r hr => .inr (hge r hr)))⟩
    case measure => simp [intOf]; omega
  · obtain rfl : j = kids.length := by omega
    have i4 : decide ((kids.length : Int) < kids.length) = false := by simp
    have hz := hks.out
    rw [List.take_length] at hz
    have hfin : zdi_ w (zaE_ kids) (.returned (.slice a m cp)) wr := ⟨x0_ hgr.out, a, m, cp, rfl, by rw [← hz]; exact HO.out⟩
    have HF := Lib.hid hfin
    clear hz hfin hks
    go_wp2
    go_ret
    exact HF.out
theorem zh3_ : ∀ N, zh2_ N
 | 0 => fun x q v w hN _ _ _ => by have := j5_ x; omega
 | N + 1 => fun x q v w hN hK hr hL => by
   obtain ⟨k, t, n, kids⟩ := x
   obtain ⟨ad, c, rfl, _, _, _, _, hd⟩ := y3_ hL
   rw [x3_] at hN
   have hpr := zbt_ kids
   rw [q1_, Bool.and_eq_true] at hr
   obtain ⟨hb, hrr⟩ := hr
   rw [zaZ_]
   by_cases h1 : k = 1
   · subst h1
     have hm : kids.length = 0 := by
      unfold y9_ at hb
      simp at hb
      rw [hb.1.2]; rfl
     obtain rfl := List.eq_nil_of_length_eq_zero hm
     rw [if_pos rfl, zcS_, List.append_nil]
     exact znr_ t n ad c w
   · rw [if_neg h1, List.nil_append]
     have hl8 : kids.length ≤ 1000 := by
      unfold y9_ at hb
      rw [if_neg h1] at hb
      split at hb
      · simp at hb; rw [hb.1.2]; simp
      · split at hb
        · simp only [Bool.and_eq_true, decide_eq_true_eq] at hb; omega
        · split at hb
          · simp only [Bool.and_eq_true, decide_eq_true_eq] at hb; omega
          · cases hb
     exact zns_ N (zh3_ N) om_ k n (by simpa using h1) t kids ad c q om_ hrr hl8 w hd
theorem znt_ (x : LT) (q : Nat → Prop) (v : Value) (w : World) (hL : y2_ q w x v) :
  Calls Tryz.prog 27 #[v] w fun e w' => Below w.heap.size w w' ∧ ∃ u, e = .returned u ∧ x5_ u (zaD_ x) w' := by
 have hr := fun (W : World) (hgw : GL [] w W) => zdg_ x q v W (z7_ hgw _ _ hL)
 cases hx : w7_ x with
 | false =>
   have H : Hid (zaD_ x = []) := by show zaD_ x = []; unfold zaD_; rw [hx]; rfl
   rw [hx] at hr
   obtain ⟨k, t, n, kids⟩ := x
   obtain ⟨ad, c, rfl, _⟩ := y3_ hL
   have HR := Lib.hid hr
   clear hr hL hx
   go_enter Tryz.func27, Tryz.ntmps27
   go_wp2_with fail
   refine (HR.out _ gl_).mono ?_
   rintro e w1 ⟨rfl, hb1⟩
   go_wp2_with fail
   go_ret
   exact ⟨bl_, .slice none 0 0, rfl, by rw [H.out]; exact .inl ⟨none, 0, rfl, rfl⟩⟩
 | true =>
   have H : Hid (zaD_ x = zaZ_ x) := by show zaD_ x = _; unfold zaD_; rw [if_pos hx]
   have hx2 := hx
   unfold w7_ at hx2
   rw [Bool.and_eq_true, decide_eq_true_eq] at hx2
   have hc := fun (W : World) (hgw : GL [] w W) => zh3_ (x3_ x).toNat x q v W (by have := j5_ x; omega) om_ hx2.2 (z7_ hgw _ _ hL)
   rw [hx] at hr
   rw [H.out]
   generalize zaZ_ x = kx at *
   obtain ⟨k, t, n, kids⟩ := x
   obtain ⟨ad, c, rfl, _⟩ := y3_ hL
   have HR := Lib.hid hr
   have HC := Lib.hid hc
   clear hr hL hx hx2 hc
   go_enter Tryz.func27, Tryz.ntmps27
   go_wp2_with fail
   refine (HR.out _ gl_).mono ?_
   rintro e w1 ⟨rfl, hb1⟩
   have hg1 : GL [] w w1 := z4_ hb1 (z6_ (z1_ _ _) _)
   have HB1 := Lib.hid (z9_ (z3_ w (.cells #[.int .u8 k, .string (bs t), .int .i64 n, .slice ad kids.length c] 25)) hb1 si_)
   have f1 := z2_ HB1.out
   have f2 := z5_ HB1.out
   clear hb1
   go_wp2_with fail
   refine (HC.out _ gl_).mono ?_
   intro e w2 hk
   obtain ⟨hb2, u, rfl, hu⟩ := znq_ hk
   obtain ⟨ad2, c2, rfl, _⟩ := za6_ hu
   go_wp2_with fail
   go_ret
   exact ⟨x0_ (z4_ hb2 hg1), _, rfl, hu⟩
theorem znu_ (xa ya : Option Addr) (xc yc m k : Nat) (h : ((m : Int) != (k : Int)) = true) (w : World) :
  Calls Tryz.prog 25 #[.slice xa m xc, .slice ya k yc] w fun e w' => e = .returned (.bool false) ∧ Below w.heap.size w w' := by
 go_enter Tryz.func25, Tryz.ntmps25
 go_wp2
 go_ret
 exact ⟨rfl, Below.refl _ _⟩
theorem znv_ (xs ys : List (List UInt8)) (xa ya : Option Addr) (xc yc : Nat) (w : World) (hl : xs.length = ys.length) (hn : xs.length ≤ 9000000000000000000)
  (hx : xs = [] ∨ ∃ b o, xa = some ⟨b, o, none⟩ ∧ b < w.heap.size ∧ ∀ (k : Nat) (t : List UInt8), xs[k]? = some t → w.cell? ⟨b, o + k, none⟩ = some (.string (bs t)))
  (hy : ys = [] ∨ ∃ b o, ya = some ⟨b, o, none⟩ ∧ b < w.heap.size ∧ ∀ (k : Nat) (t : List UInt8), ys[k]? = some t → w.cell? ⟨b, o + k, none⟩ = some (.string (bs t))) :
  Calls Tryz.prog 25 #[.slice xa xs.length xc, .slice ya xs.length yc] w fun e w' => e = .returned (.bool (decide (xs = ys))) ∧ Below w.heap.size w w' := by
 have HX := Lib.hid hx
 have HY := Lib.hid hy
 have HL := Lib.hid hl
 clear hx hy hl
 go_enter Tryz.func25, Tryz.ntmps25
 go_wp2
 go_loopw [5] (fun iv wr => ∃ (j : Nat), j ≤ xs.length ∧ iv = .int .i64 j ∧ Hid (xs.take j = ys.take j) ∧ Hid (GL [] w wr)) (fun iv _ => xs.length - (intOf iv).toNat)
 case atStart => exact ⟨0, by omega, rfl, Lib.hid rfl, Lib.hid (z1_ _ _)⟩
 case round =>
  obtain ⟨j, hj, rfl, hpre, hgr⟩ := hrel
  by_cases hlt : j < xs.length
  · have hlty : j < ys.length := by have := HL.out; omega
    have i3 : (j : Int) < xs.length := by omega
    rcases HX.out with h0 | ⟨b, o, rfl, hb, hc1⟩
    · subst h0; simp at hlt
    rcases HY.out with h0 | ⟨b2, o2, rfl, hb2, hc2⟩
    · subst h0; simp at hlty
    have d1 := hc1 j xs[j] (List.getElem?_eq_getElem hlt)
    have d2 := hc2 j ys[j] (List.getElem?_eq_getElem hlty)
    have q1 : ∀ i, wr.cell? ⟨b, i, none⟩ = w.cell? ⟨b, i, none⟩ := fun i => by simp only [World.cell?, hgr.out.block b hb si_]
    have q2 : ∀ i, wr.cell? ⟨b2, i, none⟩ = w.cell? ⟨b2, i, none⟩ := fun i => by simp only [World.cell?, hgr.out.block b2 hb2 si_]
    rw [← q1] at d1
    rw [← q2] at d2
    clear q1 q2
    have htx : xs.take (j + 1) = xs.take j ++ [xs[j]] := List.take_succ_eq_append_getElem hlt
    have hty : ys.take (j + 1) = ys.take j ++ [ys[j]] := List.take_succ_eq_append_getElem hlty
    by_cases he : xs[j] = ys[j]
    · have HN : Hid (xs.take (j + 1) = ys.take (j + 1)) := by show _ = _; rw [htx, hty, hpre.out, he]
      rw [← he] at d2
      generalize xs[j] = xj at *
      clear HX HY hc1 hc2 htx hty he hlty
      go_wp2
      go_quiet (fail)
      go_wp2
      go_roundw
      case rel => exact ⟨j + 1, by omega, by go_num, HN, Lib.hid (by have := hgr.out; exact gl_)⟩
      case measure => simp [intOf]; omega
    · have hne : (xs[j] != ys[j]) = true := by simpa using he
      have hne0 : (xs[j] == ys[j]) = false := by simpa using he
      have HI : Hid (decide (xs = ys) = false) := by
       show _ = false
       rw [decide_eq_false_iff_not]
       intro h
       subst h
       exact he rfl
      generalize xs[j] = xj at *
      generalize ys[j] = yj at *
      clear HX HY hc1 hc2 htx hty hlty
      go_wp2
      go_quiet (fail)
      go_wp2
      go_ret
      exact ⟨by first | (rw [HI.out]; done) | (rw [HI.out]; rfl), x0_ (by have := hgr.out; exact gl_)⟩
  · obtain rfl : j = xs.length := by omega
    have i4 : decide ((xs.length : Int) < xs.length) = false := by simp
    have HI : Hid (decide (xs = ys) = true) := by
     show _ = true
     have hz := hpre.out
     rw [List.take_length, HL.out, List.take_length] at hz
     rw [decide_eq_true_eq]; exact hz
    go_wp2
    go_ret
    exact ⟨by first | (rw [HI.out]; done) | (rw [HI.out]; rfl), x0_ (by have := hgr.out; exact gl_)⟩
theorem znw_ (xs ys : List (List UInt8)) (u v : Value) (w : World) (hn : xs.length ≤ 9000000000000000000) (hu : x5_ u xs w) (hv : x5_ v ys w) :
  Calls Tryz.prog 25 #[u, v] w fun e w' => e = .returned (.bool (decide (xs = ys))) ∧ Below w.heap.size w w' := by
 obtain ⟨xa, xc, rfl, hx⟩ := za6_ hu
 obtain ⟨ya, yc, rfl, hy⟩ := za6_ hv
 by_cases hl : xs.length = ys.length
 · have := znv_ xs ys xa ya xc yc w hl hn hx hy
   rw [hl] at this ⊢
   exact this
 · have h1 : decide (xs = ys) = false := by
    rw [decide_eq_false_iff_not]
    intro h
    subst h
    exact hl rfl
   rw [h1]
   exact znu_ xa ya xc yc _ _ so_ w
def nlR (e : UInt8) : Nat → Nat → Nat → List UInt8 → Option (Nat × Nat)
 | 0, _, _, _ => none
 | _ + 1, _, _, [] => none
 | f + 1, j, n, c :: r => if c = e ∧ 0 < j then some (n, j + 1) else if v3_ c = false ∨ (n = 0 ∧ 0 < j) then none else nlR e f (j + 1) (n * 10 + (c.toNat - 48)) r
theorem zeo_ {e : UInt8} (he : v3_ e = false) (r : List UInt8) : ∀ p : List UInt8, p.all v3_ = true → (p ++ r).takeWhile (· != e) = p ++ r.takeWhile (· != e)
 | [], _ => rfl
 | a :: b, h => by
   rw [List.all_cons, Bool.and_eq_true] at h
   have : (a != e) = true := by
    cases hq : (a != e) with
    | true => rfl
    | false =>
      have : a = e := by simpa using hq
      rw [this, he] at h
      simp at h
   rw [List.cons_append, List.takeWhile_cons, this, if_pos rfl, zeo_ he r b h.2, List.cons_append]
theorem numbadr {e : UInt8} {s : List UInt8} (h : zaU_ (s.takeWhile (· != e)) = false) : v7_ e s = none := by
 unfold v7_
 split
 · rw [if_neg (by rw [h]; simp)]
 · rfl
theorem zh4_ (e : UInt8) (he : v3_ e = false) : ∀ (r p : List UInt8) (f : Nat), p.all v3_ = true → f + p.length = 11 → (p.length ≤ 1 ∨ head p ≠ 48) →
  nlR e f p.length (j6_ p) r = (v7_ e (p ++ r)).map fun z => (z.1, (p ++ r).length - z.2.length)
 | r, p, 0, hp, hf, _ => by
   have hb : zaU_ ((p ++ r).takeWhile (· != e)) = false := by
    rw [zeo_ he r p hp]
    unfold zaU_
    have : decide ((p ++ r.takeWhile (· != e)).length ≤ 10) = false := by simp; omega
    rw [this]; simp
   rw [numbadr hb]
   rfl
 | [], p, f + 1, hp, hf, _ => by
   have hn : e ∉ p ++ [] := by
    rw [List.append_nil]
    intro h
    have := List.all_eq_true.1 hp e h
    rw [he] at this
    cases this
   unfold v7_
   rw [if_neg hn]
   rfl
 | c :: r, p, f + 1, hp, hf, hz => by
   rw [nlR]
   by_cases hc : c = e
   · subst hc
     by_cases hj : 0 < p.length
     · rw [if_pos ⟨rfl, hj⟩]
       have htw := zeo_ he (c :: r) p hp
       rw [List.takeWhile_cons] at htw
       simp only [bne_self_eq_false, Bool.false_eq_true, if_false, List.append_nil] at htw
       unfold v7_
       rw [if_pos si_, htw, if_pos]
       · simp; omega
       · unfold zaU_
         have hne : p ≠ [] := by intro h; subst h; simp at hj
         rw [hp]
         simp [hne]
         exact ⟨by omega, hz⟩
     · have hpn : p = [] := List.eq_nil_of_length_eq_zero om_
       subst hpn
       rw [if_neg si_, if_pos (.inl he)]
       rw [numbadr (by simp [zaU_])]
       rfl
   · rw [if_neg (by simp [hc])]
     have hce : (c != e) = true := by simpa using hc
     have htw := zeo_ he (c :: r) p hp
     rw [List.takeWhile_cons, hce, if_pos rfl] at htw
     by_cases hd : v3_ c = true
     · by_cases h0 : j6_ p = 0 ∧ 0 < p.length
       · rw [if_pos (.inr h0)]
         have hne : p ≠ [] := by intro h; subst h; simp at h0
         have hh : head p = 48 := by
          by_cases hh : head p = 48
          · exact hh
          · have := (zeZ_ p _ rfl hne hp (.inr hh)).2.2 hh
            omega
         rw [numbadr]
         · rfl
         · rw [htw]
           unfold zaU_
           have h1 : decide ((p ++ c :: r.takeWhile (· != e)).length ≤ 1) = false := by simp; omega
           have h2 : head (p ++ c :: r.takeWhile (· != e)) = 48 := by
            cases p with
            | nil => exact absurd rfl hne
            | cons a b => exact hh
           rw [h1, h2]
           simp
       · rw [if_neg (by rw [hd]; simpa using h0)]
         have hall : (p ++ [c]).all v3_ = true := by rw [List.all_append, hp]; simp [hd]
         have hlen : (p ++ [c]).length = p.length + 1 := by simp
         have h := zh4_ e he r (p ++ [c]) f hall (by rw [hlen]; omega) (by
          rw [hlen]
          by_cases h1 : p.length = 0
          · left; omega
          · right
            have hh : head (p ++ [c]) = head p := by
             cases p with
             | nil => simp at h1
             | cons a b => rfl
            rw [hh]
            rcases hz with hz | hz
            · intro h48
              apply h0
              match p, hz, h1, h48 with
              | [a], _, _, h48 =>
                have : a = 48 := h48
                subst this
                exact ⟨by decide, by simp⟩
            · exact hz)
         rw [hlen, zdv_] at h
         rw [h]
         simp
     · rw [if_pos (.inl (by simpa using hd)), numbadr]
       · rfl
       · rw [htw]
         unfold zaU_
         have : (p ++ c :: r.takeWhile (· != e)).all v3_ = false := by
          rw [List.all_append, List.all_cons]
          have : v3_ c = false := by simpa using hd
          rw [this]; simp
         rw [this]; simp
theorem zh5_ (e : UInt8) (he : v3_ e = false) (s : List UInt8) : nlR e 11 0 0 s = (v7_ e s).map fun z => (z.1, s.length - z.2.length) := by
 have := zh4_ e he s [] 11 rfl rfl (.inl si_)
 simpa [j6_] using this
theorem znx_ {e : UInt8} {s r : List UInt8} {n : Nat} (h : v7_ e s = some (n, r)) : r.length < s.length := by
 have := congrArg List.length (zaF_ h).1
 simp at this
 omega
def zcK_ (o : Option (Nat × Nat)) (a : Nat) : Value := match o with
 | some z => .tuple #[.int .i64 z.1, .int .i64 ((a : Int) + z.2)]
 | none => .tuple #[.int .i64 0, .int .i64 (-1)]
def zep_ (o : Option Nat) (a : Nat) : Value := match o with
 | some k => .int .i64 ((a : Int) + k)
 | none => .int .i64 (-1)
def zdj_ (c : UInt8) : Bool := c == 115 || c == 112 || c == 97 || c == 111 || c == 38 || c == 124
theorem zh6_ (s : List UInt8) : ∀ (f i k : Nat), zag_ s f i = some k → i ≤ k ∧ k < i + f
 | 0, _, _, h => by rw [zag_] at h; cases h
 | f + 1, i, k, h => by
   rw [zag_] at h
   split at h
   · cases h; omega
   · have := zh6_ s f (i + 1) k h; omega
theorem zeq_ (e : UInt8) (he : v3_ e = false) {s : List UInt8} {a : Nat} (h : v7_ e (s.drop a) = none) : zcK_ (nlR e 11 0 0 (s.drop a)) a = .tuple #[.int .i64 0, .int .i64 (-1)] := by
 rw [zh5_ e he, h]; rfl
theorem zdk_ (e : UInt8) (he : v3_ e = false) {s r : List UInt8} {a n : Nat} (ha : a ≤ s.length) (h : v7_ e (s.drop a) = some (n, r)) : zcK_ (nlR e 11 0 0 (s.drop a)) a = .tuple #[.int .i64 n, .int .i64 ((s.length - r.length : Nat) : Int)] := by
 have hl := znx_ h
 rw [List.length_drop] at hl
 rw [zh5_ e he, h]
 have h2 : ((a : Int) + ((s.length - a - r.length : Nat) : Int)) = ((s.length - r.length : Nat) : Int) := by omega
 simp only [Option.map_some, zcK_, List.length_drop]
 rw [h2]
theorem zh7_ {s : List UInt8} {a : Nat} (h : v1_ (s.drop a) = none) : zep_ (zag_ (s.drop a) (min (s.length - a) 16384) 1) a = .int .i64 (-1) := by
 unfold v1_ at h
 rw [List.length_drop] at h
 cases hq : zag_ (s.drop a) (min (s.length - a) 16384) 1 with
 | none => rfl
 | some k => rw [hq] at h; cases h
theorem zh8_ {s t r : List UInt8} {a : Nat} (h : v1_ (s.drop a) = some (t, r)) :
  zep_ (zag_ (s.drop a) (min (s.length - a) 16384) 1) a = .int .i64 ((a + t.length : Nat) : Int) ∧ t = (s.drop a).take t.length ∧ r.length = s.length - (a + t.length) ∧ 1 ≤ t.length ∧ t.length ≤ 16384 ∧ a + t.length ≤ s.length := by
 unfold v1_ at h
 rw [List.length_drop] at h
 cases hq : zag_ (s.drop a) (min (s.length - a) 16384) 1 with
 | none => rw [hq] at h; cases h
 | some k =>
   rw [hq] at h
   simp only [Option.map_some, Option.some.injEq, Prod.mk.injEq] at h
   obtain ⟨h1, h2⟩ := h
   have hk := zh6_ _ _ _ _ hq
   have hl : t.length = k := by rw [← h1, List.length_take, List.length_drop]; omega
   have hl2 := congrArg List.length h2
   rw [List.length_drop, List.length_drop] at hl2
   refine ⟨?_, ?_, by omega, by omega, by omega, by omega⟩
   · show Value.int .i64 ((a : Int) + k) = _
     rw [hl]
     congr 1
   · rw [hl, h1]
theorem zer_ : ∀ (f room : Nat) (s : List UInt8) (x : LT) (s' : List UInt8) (r : Nat), w2_ v1_ q2_ f room s = some (x, s', r) → (∃ p, s = p ++ s') ∧ r < room
 | 0, _, _, _, _, _, h => by cases h
 | f + 1, room, [], _, _, _, h => by cases room <;> cases h
 | f + 1, 0, c :: q, _, _, _, h => by cases h
 | f + 1, room + 1, c :: q, x, s', r, h => by
   rw [w2_] at h
   split at h
   · split at h
     · cases h
     · rename_i t s2 hc
       simp only [Option.some.injEq, Prod.mk.injEq] at h
       obtain ⟨_, rfl, rfl⟩ := h
       refine ⟨⟨c :: t, ?_⟩, by omega⟩
       rw [zg7_ _ _ _ hc, List.cons_append]
   · split at h
     · split at h
       · cases h
       · rename_i n s2 hc
         simp only [Option.some.injEq, Prod.mk.injEq] at h
         obtain ⟨_, rfl, rfl⟩ := h
         refine ⟨⟨c :: (Lib.decDigits n ++ [59]), ?_⟩, by omega⟩
         rw [(zaF_ hc).1]; simp
     · split at h
       · split at h
         · cases h
         · rename_i n s2 hc
           split at h
           · cases h
           · rename_i n2 _
             split at h
             · cases h
             · rename_i l s3 r3 hr
               simp only [Option.some.injEq, Prod.mk.injEq] at h
               obtain ⟨_, rfl, rfl⟩ := h
               obtain ⟨⟨p, hp⟩, h2⟩ := readRow_suf f n2 room s2 l _ _ hr
               refine ⟨⟨c :: (Lib.decDigits n ++ 58 :: p), ?_⟩, by omega⟩
               rw [(zaF_ hc).1, hp]; simp
       · cases h
where
 readRow_suf (f : Nat) : ∀ (n room : Nat) (s : List UInt8) (l : List LT) (s' : List UInt8) (r : Nat), v8_ (w2_ v1_ q2_ f) n room s = some (l, s', r) → (∃ p, s = p ++ s') ∧ r ≤ room
 | 0, room, s, l, s', r, h => by
   simp only [v8_, Option.some.injEq, Prod.mk.injEq] at h
   obtain ⟨_, rfl, rfl⟩ := h
   exact ⟨⟨[], rfl⟩, Nat.le_refl _⟩
 | n + 1, room, s, l, s', r, h => by
   rw [v8_] at h
   split at h
   · cases h
   · rename_i x s2 r2 hx
     split at h
     · cases h
     · rename_i l2 s3 r3 hl
       simp only [Option.some.injEq, Prod.mk.injEq] at h
       obtain ⟨_, rfl, rfl⟩ := h
       obtain ⟨⟨p, hp⟩, h1⟩ := zer_ f room s x s2 r2 hx
       obtain ⟨⟨p2, hp2⟩, h2⟩ := readRow_suf f n r2 s2 l2 _ _ hl
       exact ⟨⟨p ++ p2, by rw [hp, hp2, List.append_assoc]⟩, by omega⟩
theorem zdl_ {s p s' : List UInt8} {a : Nat} (h : s.drop a = p ++ s') : s.drop (s.length - s'.length) = s' ∧ s'.length ≤ s.length := by
 have h2 : s = (s.take a ++ p) ++ s' := by rw [List.append_assoc, ← h, List.take_append_drop]
 have h3 := congrArg List.length h2
 rw [List.length_append] at h3
 refine ⟨?_, by omega⟩
 have h4 : s.length - s'.length = (s.take a ++ p).length := by omega
 rw [h4]
 exact (congrArg (List.drop _) h2).trans List.drop_left
theorem znC_ {s : List UInt8} {i : Nat} (h : i < s.length) (e : UInt8) (f j n : Nat) : nlR e (f + 1) j n (s.drop i) =
  if s[i].toNat = e.toNat ∧ 0 < j then some (n, j + 1)
  else if s[i].toNat < 48 ∨ 57 < s[i].toNat ∨ (n = 0 ∧ 0 < j) then none
  else nlR e f (j + 1) (n * 10 + (s[i].toNat - 48)) (s.drop (i + 1)) := by
 rw [List.drop_eq_getElem_cons h, nlR]
 have h1 : (s[i] = e ∧ 0 < j) = (s[i].toNat = e.toNat ∧ 0 < j) := by rw [UInt8.toNat_inj]
 have h2 : (v3_ s[i] = false ∨ (n = 0 ∧ 0 < j)) = (s[i].toNat < 48 ∨ 57 < s[i].toNat ∨ (n = 0 ∧ 0 < j)) := by
  rw [← or_assoc]
  congr 1
  simp only [v3_, Bool.and_eq_false_iff, decide_eq_false_iff_not, eq_iff_iff]
  omega
 simp only [h1, h2]
theorem znD_ {s : List UInt8} {i : Nat} (h : s.length ≤ i) (e : UInt8) (f j n : Nat) : nlR e f j n (s.drop i) = none := by
 rw [List.drop_of_length_le h]
 cases f <;> rw [nlR]
theorem znE_ {a n k : Nat} {x y : Int} (hx : x = n) (hy : y = (a + k : Nat)) : Ending.returned (.tuple #[.int .i64 x, .int .i64 y]) = Ending.returned (zcK_ (some (n, k)) a) := by
 subst hx hy; simp [zcK_]
theorem znF_ (a : Nat) : Ending.returned (.tuple #[.int .i64 0, .int .i64 (-1)]) = Ending.returned (zcK_ none a) := rfl
theorem znG_ (e : UInt8) (s : List UInt8) (a : Nat) (ha : a ≤ s.length) (hs : s.length ≤ 1000000000000) (w : World) :
  Calls Tryz.prog 82 #[.string (bs s), .int .i64 a, .int .u8 e.toNat] w fun en w' => en = .returned (zcK_ (nlR e 11 0 0 (s.drop a)) a) ∧ w = w' := by
 have HX : Hid (nlR e 11 0 0 (s.drop a) = nlR e (11 - 0) 0 0 (s.drop (a + 0))) := rfl
 go_enter Tryz.func82, Tryz.ntmps82
 go_wp2
 go_loop [8, 9] (fun n i => ∃ (k m : Nat), a + k ≤ s.length ∧ k ≤ 11 ∧ m < 10 ^ k ∧ i = .int .i64 (a + k : Nat) ∧ n = .int .i64 m ∧ (nlR e 11 0 0 (s.drop a) = nlR e (11 - k) k m (s.drop (a + k)))) (fun _ i => s.length - (intOf i).toNat)
 case atStart => exact ⟨0, 0, by omega, by omega, by simp, rfl, rfl, HX⟩
 case round =>
  obtain ⟨k, m, hk, hk11, hm, rfl, rfl, hnum⟩ := hrel
  have hmb : m ≤ 100000000000 := by
   have : 10 ^ k ≤ 10 ^ 11 := Nat.pow_le_pow_right om_ hk11
   omega
  have hpw : 10 ^ (k + 1) = 10 * 10 ^ k := by rw [Nat.pow_succ, Nat.mul_comm]
  have HM := Lib.hid hm
  have HPW := Lib.hid hpw
  clear hm hpw
  by_cases hlt : a + k < s.length
  · by_cases hlt2 : k < 11
    · obtain ⟨f, hf⟩ : ∃ f, 11 - k = f + 1 := ⟨10 - k, by omega⟩
      have hf2 : 11 - (k + 1) = f := by omega
      rw [hf, znC_ hlt] at hnum
      have hc : s[a + k].toNat < 256 := s[a + k].toNat_lt
      have HN := Lib.hid hnum
      have HF2 := Lib.hid hf2
      clear hnum HX hf hf2
      go_wp2
      all_goals first
       | (go_ret2
          refine ⟨?_, rfl⟩
          rw [HN.out]
          repeat' split
          all_goals first
           | (refine znE_ ?_ ?_ <;> omega)
           | exact znF_ _
           | (exfalso; omega))
       | (go_round
          case rel =>
           have h := HN.out
           rw [if_neg om_, if_neg om_] at h
           refine ⟨k + 1, m * 10 + (s[a + k].toNat - 48), by omega, by omega, by (have h1 := HPW.out; have h2 := HM.out; omega), by go_num, ?_, by rw [HF2.out, h, Nat.add_assoc]⟩
           congr 1; omega
          case measure => simp [intOf]; omega)
    · obtain rfl : k = 11 := by omega
      rw [show 11 - 11 = 0 by rfl, nlR] at hnum
      have HN := Lib.hid hnum
      clear hnum HX
      go_wp2
      go_ret2
      exact ⟨by rw [HN.out]; rfl, rfl⟩
  · rw [znD_ (i := a + k) om_] at hnum
    have HN := Lib.hid hnum
    clear hnum HX
    go_wp2
    go_ret2
    exact ⟨by rw [HN.out]; rfl, rfl⟩
theorem zb8_ (e : UInt8) (s : List UInt8) (a x : Int) (h0 : 0 ≤ a) (ha : a ≤ s.length) (hx : x = e.toNat) (hs : s.length ≤ 1000000000000) (w : World) :
  Calls Tryz.prog 82 #[.string (bs s), .int .i64 a, .int .u8 x] w fun en w' => en = .returned (zcK_ (nlR e 11 0 0 (s.drop a.toNat)) a.toNat) ∧ w = w' := by
 obtain ⟨i, rfl⟩ := Int.eq_ofNat_of_zero_le h0
 subst hx
 simpa using znG_ e s i om_ hs w
theorem zes_ (c : UInt8) (w : World) :
  Calls Tryz.prog 100 #[.int .u8 c.toNat] w fun en w' => en = .returned (.bool (zdj_ c)) ∧ w = w' := by
 have H : Hid (zdj_ c = (c.toNat == 115 || c.toNat == 112 || c.toNat == 97 || c.toNat == 111 || c.toNat == 38 || c.toNat == 124)) := by
  show zdj_ c = _
  unfold zdj_
  have : ∀ d : UInt8, (c == d) = (c.toNat == d.toNat) := fun d => by
   rw [Bool.eq_iff_iff]; simp [UInt8.toNat_inj]
  simp only [this, UInt8.reduceToNat]
 have hc : c.toNat < 256 := c.toNat_lt
 go_enter Tryz.func100, Tryz.ntmps100
 go_wp2
 all_goals
  go_ret
  refine ⟨?_, rfl⟩
  rw [H.out]
  (refine congrArg (fun b : Bool => Ending.returned (.bool b)) ?_; rw [Bool.eq_iff_iff]; simp only [beq_iff_eq, beq_eq_false_iff_ne, bne_iff_ne, bne_eq_false_iff_eq, ne_eq, Bool.or_eq_true, Bool.and_eq_true, Bool.not_eq_true', decide_eq_true_eq, decide_eq_false_iff_not, Bool.or_eq_false_iff, Bool.and_eq_false_iff, eq_self, true_iff, iff_true, Bool.false_eq_true, Bool.true_eq_false, false_iff, iff_false] at *; omega)
theorem znH_ (s : List UInt8) (a : Nat) (ha : a ≤ s.length) (hs : s.length ≤ 1000000000000) (w : World) :
  Calls Tryz.prog 81 #[.string (bs s), .int .i64 a] w fun en w' => en = .returned (zep_ (zag_ (s.drop a) (min (s.length - a) 16384) 1) a) ∧ Below w.heap.size w w' := by
 obtain ⟨tot, htot⟩ : ∃ tot, zag_ (s.drop a) (min (s.length - a) 16384) 1 = tot := ⟨_, rfl⟩
 obtain ⟨m, hm⟩ : ∃ m, min (s.length - a) 16384 = m := ⟨_, rfl⟩
 rw [htot]
 rw [hm] at htot
 have hm1 : m ≤ s.length - a := by omega
 have hm2 : m ≤ 16384 := by omega
 have hm3 : m = s.length - a ∨ m = 16384 := by omega
 have HM := Lib.hid hm3
 have HTOT := Lib.hid htot
 clear hm hm3 htot
 go_enter Tryz.func81, Tryz.ntmps81
 go_wp2
 go_loopw [5] (fun iv wr => ∃ (k : Nat), 1 ≤ k ∧ k ≤ m + 1 ∧ iv = .int .i64 (a + k : Nat) ∧ Hid (zag_ (s.drop a) (m + 1 - k) k = tot) ∧ Hid (GL [] w wr)) (fun iv _ => s.length + 1 - (intOf iv).toNat)
 case atStart => exact ⟨1, by omega, by omega, rfl, HTOT, Lib.hid (z1_ _ _)⟩
 case round =>
  obtain ⟨k, hk1, hkm, rfl, ht, hgr⟩ := hrel
  by_cases hlt : k ≤ m
  · have i1 : (a : Int) + k ≤ s.length := by omega
    have i2 : (k : Int) ≤ 16384 := by omega
    obtain ⟨f, hf⟩ : ∃ f, m + 1 - k = f + 1 := ⟨m - k, by omega⟩
    have hsk : m + 1 - (k + 1) = f := by omega
    have htt := ht.out
    rw [hf, zag_, List.drop_drop] at htt
    have hkl : ((s.drop a).take k).length ≤ 9000000000000000000 := by simp; omega
    have hrt := fun (W : World) => za2_ ((s.drop a).take k) hkl W
    have HSK := Lib.hid hsk
    have HT := Lib.hid htt
    have HRT := Lib.hid hrt
    clear htt ht hsk hf hrt hkl
    cases hr : right ((s.drop a).take k) with
    | true =>
      have HRU := Lib.hid hr
      clear hr
      by_cases hl : a + k = s.length
      · have b3 : ((a : Int) + k == s.length) = true := by simp; omega
        have hl2 : s.length ≤ a + k := by omega
        clear hl
        have HI : Hid (tot = some k) := by
         show tot = some k
         have h := HT.out
         rw [HRU.out, List.drop_eq_nil_of_le om_] at h
         simpa [za1_] using h.symm
        clear HT
        go_wp2_with fail
        refine (HRT.out _).mono ?_
        rintro e w2 ⟨rfl, hb2⟩
        rw [HRU.out]
        go_wp2_with fail
        go_ret
        exact ⟨by rw [HI.out]; rfl, x0_ (z4_ hb2 hgr.out)⟩
      · have hlt2 : a + k < s.length := by omega
        have b3 : ((a : Int) + k == s.length) = false := by simp; omega
        have i4 : (a : Int) + k < s.length := by omega
        have HD : Hid (s.drop (a + k) = s[a + k] :: s.drop (a + k + 1)) := List.drop_eq_getElem_cons hlt2
        clear hl
        cases hec : zdj_ s[a + k] with
        | true =>
          have HEC := Lib.hid hec
          clear hec
          have HI : Hid (tot = some k) := by
           show tot = some k
           have h := HT.out
           rw [HRU.out, HD.out] at h
           have he : za1_ (s[a + k] :: s.drop (a + k + 1)) = true := HEC.out
           rw [he] at h
           simpa [za1_] using h.symm
          clear HT
          go_wp2_with fail
          refine (zes_ _ _).mono ?_
          rintro e w1 ⟨rfl, rfl⟩
          rw [HEC.out]
          go_wp2_with fail
          refine (HRT.out _).mono ?_
          rintro e w2 ⟨rfl, hb2⟩
          rw [HRU.out]
          go_wp2_with fail
          go_ret
          exact ⟨by rw [HI.out]; rfl, x0_ (z4_ hb2 hgr.out)⟩
        | false =>
          have HEC := Lib.hid hec
          clear hec
          have HI : Hid (zag_ (s.drop a) f (k + 1) = tot) := by
           show zag_ (s.drop a) f (k + 1) = tot
           have h := HT.out
           rw [HRU.out, HD.out] at h
           have he : za1_ (s[a + k] :: s.drop (a + k + 1)) = false := HEC.out
           rw [he] at h
           simpa [za1_] using h
          clear HT
          go_wp2_with fail
          refine (zes_ _ _).mono ?_
          rintro e w1 ⟨rfl, rfl⟩
          rw [HEC.out]
          go_wp2_with fail
          go_roundw
          case rel => exact ⟨k + 1, by omega, by omega, by go_num, Lib.hid (by rw [HSK.out]; exact HI.out), Lib.hid (hgr.out)⟩
          case measure => simp [intOf]; omega
    | false =>
      have HRU := Lib.hid hr
      clear hr
      by_cases hl : a + k = s.length
      · have b3 : ((a : Int) + k == s.length) = true := by simp; omega
        have hl2 : s.length ≤ a + k := by omega
        clear hl
        have HI : Hid (zag_ (s.drop a) f (k + 1) = tot) := by
         show zag_ (s.drop a) f (k + 1) = tot
         have h := HT.out
         rw [HRU.out] at h
         simpa [za1_] using h
        clear HT
        go_wp2_with fail
        refine (HRT.out _).mono ?_
        rintro e w2 ⟨rfl, hb2⟩
        rw [HRU.out]
        go_wp2_with fail
        go_roundw
        case rel => exact ⟨k + 1, by omega, by omega, by go_num, Lib.hid (by rw [HSK.out]; exact HI.out), Lib.hid (z4_ hb2 hgr.out)⟩
        case measure => simp [intOf]; omega
      · have hlt2 : a + k < s.length := by omega
        have b3 : ((a : Int) + k == s.length) = false := by simp; omega
        have i4 : (a : Int) + k < s.length := by omega
        have HD : Hid (s.drop (a + k) = s[a + k] :: s.drop (a + k + 1)) := List.drop_eq_getElem_cons hlt2
        clear hl
        cases hec : zdj_ s[a + k] with
        | true =>
          have HEC := Lib.hid hec
          clear hec
          have HI : Hid (zag_ (s.drop a) f (k + 1) = tot) := by
           show zag_ (s.drop a) f (k + 1) = tot
           have h := HT.out
           rw [HRU.out, HD.out] at h
           have he : za1_ (s[a + k] :: s.drop (a + k + 1)) = true := HEC.out
           rw [he] at h
           simpa [za1_] using h
          clear HT
          go_wp2_with fail
          refine (zes_ _ _).mono ?_
          rintro e w1 ⟨rfl, rfl⟩
          rw [HEC.out]
          go_wp2_with fail
          refine (HRT.out _).mono ?_
          rintro e w2 ⟨rfl, hb2⟩
          rw [HRU.out]
          go_wp2_with fail
          go_roundw
          case rel => exact ⟨k + 1, by omega, by omega, by go_num, Lib.hid (by rw [HSK.out]; exact HI.out), Lib.hid (z4_ hb2 hgr.out)⟩
          case measure => simp [intOf]; omega
        | false =>
          have HEC := Lib.hid hec
          clear hec
          have HI : Hid (zag_ (s.drop a) f (k + 1) = tot) := by
           show zag_ (s.drop a) f (k + 1) = tot
           have h := HT.out
           rw [HRU.out, HD.out] at h
           have he : za1_ (s[a + k] :: s.drop (a + k + 1)) = false := HEC.out
           rw [he] at h
           simpa [za1_] using h
          clear HT
          go_wp2_with fail
          refine (zes_ _ _).mono ?_
          rintro e w1 ⟨rfl, rfl⟩
          rw [HEC.out]
          go_wp2_with fail
          go_roundw
          case rel => exact ⟨k + 1, by omega, by omega, by go_num, Lib.hid (by rw [HSK.out]; exact HI.out), Lib.hid (hgr.out)⟩
          case measure => simp [intOf]; omega
  · have hke : k = m + 1 := by omega
    have HI : Hid (tot = none) := by
     show tot = _
     have h := ht.out
     rw [hke, show m + 1 - (m + 1) = 0 by omega, zag_] at h
     exact h.symm
    clear ht
    have hmm := HM.out
    by_cases hl : s.length < a + k
    · have i1 : decide ((a : Int) + k ≤ s.length) = false := by simp; omega
      clear hmm HM hke hl hlt
      go_wp2
      go_ret
      exact ⟨by rw [HI.out]; rfl, x0_ hgr.out⟩
    · have i0 : (a : Int) + k ≤ s.length := by omega
      have i1 : decide ((k : Int) ≤ 16384) = false := by simp; omega
      have i2 : decide ((a : Int) + k ≤ (a : Int) + 16384) = false := by simp; omega
      clear hmm HM hke hl hlt
      go_wp2
      go_ret
      exact ⟨by rw [HI.out]; rfl, x0_ hgr.out⟩
theorem zet_ (s : List UInt8) (a : Int) (h0 : 0 ≤ a) (ha : a ≤ s.length) (hs : s.length ≤ 1000000000000) (w : World) :
  Calls Tryz.prog 81 #[.string (bs s), .int .i64 a] w fun en w' => en = .returned (zep_ (zag_ (s.drop a.toNat) (min (s.length - a.toNat) 16384) 1) a.toNat) ∧ Below w.heap.size w w' := by
 obtain ⟨i, rfl⟩ := Int.eq_ofNat_of_zero_le h0
 simpa using znH_ s i om_ hs w
end Go.Proofs.YtiplnofaejpeoaaGreatDoor
