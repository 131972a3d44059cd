/- The program's invoices: words of numbers, texts, fields. -/
import Derived.Test.YtembdkodajichaaGreatDoorRegI
import Derived.Test.YtembdkodajichaaGreatDoorMTerm
import Derived.Test.YtembdkodajichaaGreatDoorByteR
import Derived.Test.YtembdkodajichaaGreatDoorInvS
import Derived.Defers
import Derived.Recover
import Derived.Test.YtembdkodajichaaGreatDoorBitsA
set_option maxRecDepth 100000
set_option maxHeartbeats 4000000
set_option linter.unusedSimpArgs false
set_option linter.unusedVariables false
namespace Go.Proofs.YtembdkodajichaaGreatDoor
open Go.RowKit
def opN (l : List UInt8) : Nat := match rt l with
 | none => 0
 | some x => x.op.toNat
theorem zjv_ (l : List UInt8) (hl : l.length ≤ 9000000000000000000) (w : World) (hG : GOk w) :
  Calls Tryz.prog 72 #[.string (bs l)] w fun e w' => ∃ n t ad kn kc b, e = .returned (.tuple #[.agg #[.int .u8 (opN l : Nat), .int .i64 n, .string (bs t), .slice ad kn kc], .bool b]) ∧ Below w.heap.size w w' := by
 refine (zdF_ l hl w hG).mono fun e w' h => ?_
 unfold ze5_ at h
 unfold opN
 cases hr : rt l with
 | none => rw [hr] at h; exact ⟨_, _, _, _, _, _, h⟩
 | some x =>
   rw [hr] at h
   obtain ⟨ad, n, c, he, _, hb⟩ := h
   exact ⟨_, _, _, _, _, _, he, hb⟩
theorem zjw_ (l : List UInt8) : zfd_ l = decide (opN l = 72) := by
 unfold zfd_ opN right
 cases hr : rt l with
 | none => rfl
 | some x =>
   simp only [Option.isSome_some, Bool.true_and]
   rw [← zgi_ hr, Bool.eq_iff_iff, beq_iff_eq, decide_eq_true_eq, ← UInt8.toNat_inj]
   rfl
theorem zjx_ (l : List UInt8) : zfe_ l = decide (opN l = 80 ∨ opN l = 87 ∨ opN l = 76) := by
 unfold zfe_ opN right
 cases hr : rt l with
 | none => rfl
 | some x =>
   simp only [Option.isSome_some, Bool.true_and]
   rw [← zgi_ hr, zgg_]
theorem zjy_ (x : Int) (h0 : -9223372036854775808 ≤ x) (h1 : x ≤ 9223372036854775807) : ((x / 34359738368 == 0) : Bool) = (decide (0 ≤ x) && decide (x < 34359738368)) := by
 rw [Bool.eq_iff_iff, beq_iff_eq, Bool.and_eq_true, decide_eq_true_eq, decide_eq_true_eq]
 omega
theorem zoV_ (x : Int) (h0 : -9223372036854775808 ≤ x) (h1 : x ≤ 9223372036854775807) : ((x / 2147483648 == 0) : Bool) = (decide (0 ≤ x) && decide (x < 2147483648)) := by
 rw [Bool.eq_iff_iff, beq_iff_eq, Bool.and_eq_true, decide_eq_true_eq, decide_eq_true_eq]
 omega
structure zcr_ (x : Inv) : Prop where
 am0 : -9223372036854775808 ≤ x.am
 am1 : x.am ≤ 9223372036854775807
 st0 : -9223372036854775808 ≤ x.st
 st1 : x.st ≤ 9223372036854775807
 ex0 : -9223372036854775808 ≤ x.ex
 ex1 : x.ex ≤ 9223372036854775807
 de0 : -9223372036854775808 ≤ x.de
 de1 : x.de ≤ 9223372036854775807
 hash : x.hash.length ≤ 1000000
 payee : x.payee.length ≤ 1000000
 memo : x.memo.length ≤ 1000000
 sig : x.sig.length ≤ 1000000
def q4_ (x : Inv) : Array Value := #[.int .i64 x.am, .int .i64 x.st, .string (bs x.hash), .string (bs x.payee), .string (bs x.memo), .int .i64 x.ex, .int .i64 x.de, .string (bs x.sig)]
theorem zoW_ (x : Inv) (hx : zcr_ x) : w3_ x = (decide (opN x.hash = 72) && decide (opN x.payee = 80 ∨ opN x.payee = 87 ∨ opN x.payee = 76) && decide (x.hash.length ≤ 639) && decide (x.payee.length ≤ 639) && decide (x.memo.length ≤ 639) && (x.st / 34359738368 == 0) && (x.ex / 34359738368 == 0) && (x.de / 2147483648 == 0)) := by
 unfold w3_
 rw [zjw_, zjx_, zjy_ _ hx.st0 hx.st1, zjy_ _ hx.ex0 hx.ex1, zoV_ _ hx.de0 hx.de1]
 simp only [Bool.and_assoc]
theorem Tryz.sizeStr1 : (Tryz.prog.info? 9).map (·.size) = some 1 := by kernel_rfl
theorem zg3_ (w : World) (cs : Array Value) (i : Nat) (x : Value) (hi : i < 3) (hx : cs[i]? = some x) : (Instr.index 101 (.agg cs) (.int .i64 (i : Int))).run Tryz.prog w = .ok x w := by
 have h2 : (0 : Int) ≤ (i : Int) ∧ (i : Int) < 3 := by omega
 obtain ⟨j, hj, hjs⟩ := Option.map_eq_some_iff.1 Tryz.sizeStr1
 simp [Instr.index, run_underlying Tryz.underlying101, asIntOf, sizeOf, typeInfo, hj, hjs, part, h2]
 rw [if_pos hi, hx]
 rfl
theorem iMay (x : Inv) (hx : zcr_ x) (w : World) (hG : GOk w) :
  Calls Tryz.prog 35 #[invV x] w fun e w' => e = .returned (.bool (w3_ x)) ∧ Below w.heap.size w w' := by
 have hM := Lib.hid (zoW_ x hx)
 have hh := hx.hash
 have hp := hx.payee
 have hm := hx.memo
 have HG := Lib.hid hG
 clear hx hG
 obtain ⟨am, st, hash, payee, memo, ex, de, sig⟩ := x
 unfold invV
 simp only at hM hh hp hm ⊢
 go_enter Tryz.func35, Tryz.ntmps35
 go_wp2_with fail
 have hB1 := y8_ w (.cells #[.int .i64 am, .int .i64 st, .string (bs hash), .string (bs payee), .string (bs memo), .int .i64 ex, .int .i64 de, .string (bs sig)] 31)
 refine (zjv_ hash om_ _ (zbP_ HG.out _)).mono ?_
 rintro e w1 ⟨n1, t1, ad1, kn1, kc1, b1, rfl, hb1⟩
 have hB2 := x0_ hB1 hb1 (z4_ hB1)
 have HG1 := Lib.hid (zcq_ (zbP_ HG.out _) hb1)
 have HL1 : Hid (GL [] w w1) := Lib.hid (y6_ hb1 (y2_ (y1_ _ _) _))
 have HB2 := Lib.hid hB2
 clear hB1 hb1 hB2
 have f2 := z0_ HB2.out
 have hs1 := z4_ HB2.out
 go_wp2_with fail
 have hC1 := y8_ w1 (.cells #[.int .u8 (opN hash : Nat), .int .i64 n1, .string (bs t1), .slice ad1 kn1 kc1] 98)
 refine (zjv_ payee om_ _ (zbP_ HG1.out _)).mono ?_
 rintro e w2 ⟨n2, t2, ad2, kn2, kc2, b2, rfl, hb2⟩
 have hC2 := Lib.hid (x0_ hC1 hb2 (z4_ hC1))
 have HB3 := Lib.hid (x0_ (x3_ HB2.out _) hb2 (z4_ (x3_ HB2.out _)))
 have HL2 : Hid (GL [] w w2) := Lib.hid (y6_ hb2 (y2_ HL1.out _))
 generalize w1.heap.size = C at *
 clear hC1 hb2 f2 hs1
 have f3 := z0_ HB3.out
 have hs3 := z4_ HB3.out
 have g3 := z0_ hC2.out
 have gs3 := z4_ hC2.out
 go_wp2_with fail
 have HD4 := Lib.hid (y8_ w2 (.cells #[.int .u8 (opN payee : Nat), .int .i64 n2, .string (bs t2), .slice ad2 kn2 kc2] 98))
 have HC4 := Lib.hid (x3_ hC2.out (.cells #[.int .u8 (opN payee : Nat), .int .i64 n2, .string (bs t2), .slice ad2 kn2 kc2] 98))
 have HB4 := Lib.hid (x3_ HB3.out (.cells #[.int .u8 (opN payee : Nat), .int .i64 n2, .string (bs t2), .slice ad2 kn2 kc2] 98))
 have HL4 : Hid (GL [] w (w2.alloc (.cells #[.int .u8 (opN payee : Nat), .int .i64 n2, .string (bs t2), .slice ad2 kn2 kc2] 98))) := Lib.hid (y2_ HL2.out _)
 generalize w2.alloc (.cells #[.int .u8 (opN payee : Nat), .int .i64 n2, .string (bs t2), .slice ad2 kn2 kc2] 98) = w3 at *
 generalize w2.heap.size = D at *
 clear f3 hs3 g3 gs3 hC2 HB3 HL2 HB2 HG1 HL1
 go_loopw [8, 28] (fun _ iv wr => ∃ i : Nat, i ≤ 3 ∧ iv = .int .i64 i ∧ Hid (1 ≤ i → hash.length ≤ 639) ∧ Hid (2 ≤ i → payee.length ≤ 639) ∧ Hid (3 ≤ i → memo.length ≤ 639) ∧ Hid (wr = w3)) (fun _ iv _ => 3 - (intOf iv).toNat)
 case atStart => exact ⟨0, by omega, rfl, Lib.hid om_, Lib.hid om_, Lib.hid om_, Lib.hid rfl⟩
 case round =>
  obtain ⟨i, hi, rfl, h1, h2, h3, hw⟩ := hrel
  have hww := hw.out
  subst hww
  have i0 : (Instr.index 101 (.agg #[Value.string (bs hash), .string (bs payee), .string (bs memo)]) (.int .i64 0)).run Tryz.prog wr = .ok (.string (bs hash)) wr := zg3_ wr _ 0 _ om_ rfl
  have i1 : (Instr.index 101 (.agg #[Value.string (bs hash), .string (bs payee), .string (bs memo)]) (.int .i64 1)).run Tryz.prog wr = .ok (.string (bs payee)) wr := zg3_ wr _ 1 _ om_ rfl
  have i2 : (Instr.index 101 (.agg #[Value.string (bs hash), .string (bs payee), .string (bs memo)]) (.int .i64 2)).run Tryz.prog wr = .ok (.string (bs memo)) wr := zg3_ wr _ 2 _ om_ rfl
  rcases (by omega : i = 0 ∨ i = 1 ∨ i = 2 ∨ i = 3) with rfl | rfl | rfl | rfl
  · by_cases hb : hash.length ≤ 639
    · have hb1 : (hash.length : Int) ≤ 639 := by omega
      have HB := Lib.hid hb
      clear hb
      go_wp2_with fail
      exact ⟨⟨1, by omega, by first | rfl | (simp; done), (by first | exact Lib.hid (fun _ => HB.out) | exact Lib.hid (fun _ => trivial) | exact Lib.hid trivial), Lib.hid om_, Lib.hid om_, by first | exact hw | exact Lib.hid trivial⟩, by first | (simp [intOf]; done) | (simp [intOf]; omega)⟩
    · have hb1 : (639 : Int) < hash.length := by omega
      have HE : Hid (w3_ { am := am, st := st, hash := hash, payee := payee, memo := memo, ex := ex, de := de, sig := sig } = false) := Lib.hid (by rw [hM.out, decide_eq_false hb]; simp)
      clear hb
      go_wp2_with fail
      exact bodyPost_ret (v := .bool false) (by simp [results, Tryz.results35, go_sem]) rfl ⟨by rw [HE.out], y0_ HL4.out⟩
  · by_cases hb : payee.length ≤ 639
    · have hb1 : (payee.length : Int) ≤ 639 := by omega
      have HB := Lib.hid hb
      clear hb
      go_wp2_with fail
      exact ⟨⟨2, by omega, by first | rfl | (simp; done), Lib.hid (fun _ => h1.out om_), (by first | exact Lib.hid (fun _ => HB.out) | exact Lib.hid (fun _ => trivial) | exact Lib.hid trivial), Lib.hid om_, by first | exact hw | exact Lib.hid trivial⟩, by first | (simp [intOf]; done) | (simp [intOf]; omega)⟩
    · have hb1 : (639 : Int) < payee.length := by omega
      have HE : Hid (w3_ { am := am, st := st, hash := hash, payee := payee, memo := memo, ex := ex, de := de, sig := sig } = false) := Lib.hid (by rw [hM.out, decide_eq_false hb]; simp)
      clear hb
      go_wp2_with fail
      exact bodyPost_ret (v := .bool false) (by simp [results, Tryz.results35, go_sem]) rfl ⟨by rw [HE.out], y0_ HL4.out⟩
  · by_cases hb : memo.length ≤ 639
    · have hb1 : (memo.length : Int) ≤ 639 := by omega
      have HB := Lib.hid hb
      clear hb
      go_wp2_with fail
      exact ⟨⟨3, by omega, by first | rfl | (simp; done), Lib.hid (fun _ => h1.out om_), Lib.hid (fun _ => h2.out om_), (by first | exact Lib.hid (fun _ => HB.out) | exact Lib.hid (fun _ => trivial) | exact Lib.hid trivial), by first | exact hw | exact Lib.hid trivial⟩, by first | (simp [intOf]; done) | (simp [intOf]; omega)⟩
    · have hb1 : (639 : Int) < memo.length := by omega
      have HE : Hid (w3_ { am := am, st := st, hash := hash, payee := payee, memo := memo, ex := ex, de := de, sig := sig } = false) := Lib.hid (by rw [hM.out, decide_eq_false hb]; simp)
      clear hb
      go_wp2_with fail
      exact bodyPost_ret (v := .bool false) (by simp [results, Tryz.results35, go_sem]) rfl ⟨by rw [HE.out], y0_ HL4.out⟩
  · have l1 := h1.out om_
    have l2 := h2.out om_
    have l3 := h3.out om_
    have f3 := z0_ HB4.out
    have g3 := z0_ HC4.out
    have e3 := z0_ HD4.out
    have hM2 := hM.out
    rw [decide_eq_true l1, decide_eq_true l2, decide_eq_true l3] at hM2
    simp only [Bool.and_true] at hM2
    have HM2 := Lib.hid hM2
    clear hM2 l1 l2 l3 i0 i1 i2
    generalize opN hash = o1 at *
    generalize opN payee = o2 at *
    by_cases ho1 : o1 = 72
    · subst ho1
      by_cases ho2 : o2 = 80 ∨ o2 = 87 ∨ o2 = 76
      · cases hs : (st / 34359738368 == 0) with
        | false =>
          have HE : Hid (w3_ { am := am, st := st, hash := hash, payee := payee, memo := memo, ex := ex, de := de, sig := sig } = false) := Lib.hid (by rw [HM2.out, decide_eq_true ho2]; simp only [hs]; rfl)
          clear HM2
          rcases ho2 with rfl | rfl | rfl
          all_goals go_wp2_with fail
          all_goals exact bodyPost_ret (v := .bool false) (by simp [results, Tryz.results35, go_sem]) rfl ⟨by rw [HE.out], y0_ HL4.out⟩
        | true =>
          cases he : (ex / 34359738368 == 0) with
          | false =>
            have HE : Hid (w3_ { am := am, st := st, hash := hash, payee := payee, memo := memo, ex := ex, de := de, sig := sig } = false) := Lib.hid (by rw [HM2.out, decide_eq_true ho2]; simp only [hs, he]; rfl)
            clear HM2
            rcases ho2 with rfl | rfl | rfl
            all_goals go_wp2_with fail
            all_goals exact bodyPost_ret (v := .bool false) (by simp [results, Tryz.results35, go_sem]) rfl ⟨by rw [HE.out], y0_ HL4.out⟩
          | true =>
            cases hd : (de / 2147483648 == 0) with
            | false =>
              have HE : Hid (w3_ { am := am, st := st, hash := hash, payee := payee, memo := memo, ex := ex, de := de, sig := sig } = false) := Lib.hid (by rw [HM2.out, decide_eq_true ho2]; simp only [hs, he, hd]; rfl)
              clear HM2
              rcases ho2 with rfl | rfl | rfl
              all_goals go_wp2_with fail
              all_goals exact bodyPost_ret (v := .bool false) (by simp [results, Tryz.results35, go_sem]) rfl ⟨by rw [HE.out], y0_ HL4.out⟩
            | true =>
              have HE : Hid (w3_ { am := am, st := st, hash := hash, payee := payee, memo := memo, ex := ex, de := de, sig := sig } = true) := Lib.hid (by rw [HM2.out, decide_eq_true ho2]; simp only [hs, he, hd]; rfl)
              clear HM2
              rcases ho2 with rfl | rfl | rfl
              all_goals go_wp2_with fail
              all_goals exact bodyPost_ret (v := .bool true) (by simp [results, Tryz.results35, go_sem]) rfl ⟨by rw [HE.out], y0_ HL4.out⟩
      · have HE : Hid (w3_ { am := am, st := st, hash := hash, payee := payee, memo := memo, ex := ex, de := de, sig := sig } = false) := Lib.hid (by rw [HM2.out, decide_eq_false ho2]; simp)
        have h80 : ((o2 : Int) == 80) = false := by simp; omega
        have h87 : ((o2 : Int) == 87) = false := by simp; omega
        have h76 : ((o2 : Int) == 76) = false := by simp; omega
        clear ho2 HM2
        go_wp2_with fail
        exact bodyPost_ret (v := .bool false) (by simp [results, Tryz.results35, go_sem]) rfl ⟨by rw [HE.out], y0_ HL4.out⟩
    · have HE : Hid (w3_ { am := am, st := st, hash := hash, payee := payee, memo := memo, ex := ex, de := de, sig := sig } = false) := Lib.hid (by rw [HM2.out, decide_eq_false ho1]; simp)
      have ho2 : ((o1 : Int) == 72) = false := by simp; omega
      clear ho1 HM2
      go_wp2_with fail
      exact bodyPost_ret (v := .bool false) (by simp [results, Tryz.results35, go_sem]) rfl ⟨by rw [HE.out], y0_ HL4.out⟩
def InvO (R : Nat) (o : Option Inv) (w : World) (e : Ending) (w' : World) : Prop :=
 GL [R] w w' ∧ match o with
 | none => e = .panicked [oddP]
 | some x => e = .returned (invV x)
theorem zcY_ {R : Nat} {o : Option Inv} {w w' : World} (h : o = none) (hg : GL [R] w w') : InvO R o w (.panicked [oddP]) w' := by
 subst h; exact ⟨hg, rfl⟩
theorem zoX_ {R : Nat} {o : Option Inv} {w w' : World} {x : Inv} {v : Value} (h : o = some x) (hg : GL [R] w w') (hv : v = invV x) : InvO R o w (.returned v) w' := by
 subst h hv; exact ⟨hg, rfl⟩
theorem zeH_ {tag : UInt8} {l t r : List UInt8} (h : v2_ tag l = some (t, r)) (h32 : ∀ x ∈ l, x.toNat < 32) : t.length ≤ 639 ∧ r.length ≤ l.length ∧ ∀ x ∈ r, x.toNat < 32 := by
 obtain ⟨h1, h2⟩ := zeq_ h h32
 refine ⟨h2, ?_, fun x hx => h32 x ?_⟩
 · rw [h1, List.length_append]; omega
 · rw [h1]; simp [hx]
theorem zg6_ {tag : UInt8} {l r : List UInt8} {n : Nat} (h : k5_ tag l = some (n, r)) (h32 : ∀ x ∈ l, x.toNat < 32) : n < 34359738368 ∧ r.length ≤ l.length ∧ ∀ x ∈ r, x.toNat < 32 := by
 obtain ⟨h1, h2⟩ := zgu_ h h32
 refine ⟨h2, ?_, fun x hx => h32 x ?_⟩
 · rw [h1, List.length_append]; omega
 · rw [h1]; simp [hx]
theorem zjz_ {n : Nat} {l a r : List UInt8} (h : q8_ n l = some (a, r)) (h32 : ∀ x ∈ l, x.toNat < 32) : a.length = n ∧ r.length ≤ l.length ∧ (∀ x ∈ a, x.toNat < 32) ∧ ∀ x ∈ r, x.toNat < 32 := by
 obtain ⟨h1, h2, h3⟩ := zgX_ h
 refine ⟨h1, h2, fun x hx => h32 x ?_, fun x hx => h32 x ?_⟩ <;> rw [h3] <;> simp [hx]
structure IvSt (R X : Nat) (l : List UInt8) (x : Inv) (w0 wr : World) : Prop where
 rd : RAt R l wr
 blk : wr.heap[X]? = some (.cells (q4_ x) 31 (0, 0))
 gl : GL [R] w0 wr
theorem zdI_ {R X : Nat} {l r : List UInt8} {x : Inv} {w0 wr w1 : World} (h : IvSt R X l x w0 wr) (hg : GL [R] wr w1) (hr : RAt R r w1) (hX : X ≠ R) : IvSt R X r x w0 w1 :=
 ⟨hr, x6_ h.blk hg (by simpa using hX), y7_ hg h.gl si_⟩
theorem zoY_ {R X : Nat} {l : List UInt8} {w : World} {cs : Array Value} {T : Nat} {fz : Nat × Nat} (h : RAt R l w) (hX : w.heap[X]? = some (.cells cs T fz)) (hRX : X ≠ R) (j : Nat) (v : Value) (hall : ∀ (i : Nat) (n : Int), cs[i]? ≠ some (Value.int .u8 n)) : RAt R l (w.setCell ⟨X, j, none⟩ v) := by
 obtain ⟨ad, c, h1, h2⟩ := h
 refine ⟨ad, c, v0_ h1 (fun e => hRX e.symm) _, ?_⟩
 obtain ⟨a', c', e, hc, hb⟩ := j6_ h2
 injection e with e1 _ e3
 subst e1 e3
 refine zbQ_ rfl hc fun hn => ?_
 obtain ⟨G, o, rfl, hB, hj⟩ := hb hn
 refine ⟨G, o, rfl, zbf_ (rs := [X]) ⟨hB, hj⟩ (z2_ (y1_ _ _) (.inl si_) _) (fun hm => ?_)⟩
 obtain rfl : G = X := by simpa using hm
 have h0 := hj 0 (List.length_pos_iff.2 hn)
 rw [z0_ hX] at h0
 exact hall _ _ h0
theorem zdJ_ {R X : Nat} {l : List UInt8} {x y : Inv} {w0 wr : World} (h : IvSt R X l x w0 wr) (hX : X ≠ R) (hX0 : w0.heap.size ≤ X) (j : Nat) (v : Value) (hy : (q4_ x).setIfInBounds j v = q4_ y) : IvSt R X l y w0 (wr.setCell ⟨X, j, none⟩ v) := by
 have hall : ∀ (i : Nat) (n : Int), (q4_ x)[i]? ≠ some (Value.int .u8 n) := by
  intro i n
  match i with
  | 0 | 1 | 2 | 3 | 4 | 5 | 6 | 7 => simp [q4_]
  | k + 8 => simp [q4_]
 refine ⟨zoY_ h.rd h.blk hX j v hall, ?_, z2_ h.gl (.inr hX0) _⟩
 rw [← hy]
 exact z3_ h.blk j v
theorem zjA_ (R : Nat) (l : List UInt8) (w : World) (h : RAt R l w) (hR : gN ≤ R) (hG : GOk w) (hl : l.length ≤ 100000000) (h32 : ∀ x ∈ l, x.toNat < 32) :
  Calls Tryz.prog 54 #[.pointer (some ⟨R, 0, none⟩)] w (InvO R (invR l) w) := by
 have hRw : R < w.heap.size := by
  obtain ⟨_, _, h1, _⟩ := h
  exact z4_ h1
 have HG := Lib.hid hG
 have S0 : Hid (IvSt R w.heap.size l Inv.zero w (w.alloc (.cells (q4_ Inv.zero) 31))) := Lib.hid ⟨zfF_ h (y2_ (y1_ _ _) _), y8_ _ _, y2_ (y1_ _ _) _⟩
 have HX : w.heap.size ≠ R := by omega
 clear h hG
 have HIR : Hid (invR l = (q8_ 7 l).bind fun (s, l0) => (v2_ 1 l0).bind fun (h, l1) => (v2_ 19 l1).bind fun (p, l2) => (v2_ 13 l2).bind fun (m, l3) =>
 (k5_ 6 l3).bind fun (x, l4) => (k5_ 24 l4).bind fun (d, l5) => (v2_ 16 l5).bind fun (g, l6) =>
 if l6 = [] ∧ w3_ ⟨0, y3_ 32 s, h, p, m, x, d, g⟩ = true then some ⟨0, y3_ 32 s, h, p, m, x, d, g⟩ else none) := Lib.hid rfl
 go_enter Tryz.func54, Tryz.ntmps54
 go_wp2_with fail
 have S1 : Hid (IvSt R w.heap.size l Inv.zero w (w.alloc (.cells #[.int .i64 0, .int .i64 0, .string (bs []), .string (bs []), .string (bs []), .int .i64 0, .int .i64 0, .string (bs [])] 31))) := S0
 generalize w.alloc (.cells #[.int .i64 0, .int .i64 0, .string (bs []), .string (bs []), .string (bs []), .int .i64 0, .int .i64 0, .string (bs [])] 31) = w1 at *
 clear S0
 have CUR := S1
 clear S1
 have h32 := Lib.hid h32
 cases hq0 : q8_ 7 l with
 | none =>
   have HN : Hid (invR l = none) := Lib.hid (by rw [HIR.out, hq0]; rfl)
   have HQ := Lib.hid hq0
   clear hq0
   go_wp2_with fail
   refine (zd1_ R 7 7 rfl l _ CUR.out.rd om_ om_).mono ?_
   rintro e w2 ⟨hg, hp⟩
   rw [HQ.out] at hp
   have hp : e = .panicked [oddP] := hp
   subst hp
   go_wp2_with fail
   exact ⟨rfl, zcY_ HN.out (y7_ hg CUR.out.gl si_)⟩
 | some ar0 =>
   obtain ⟨s, l0⟩ := ar0
   obtain ⟨q0a, q0b, q0c, q0d⟩ := zjz_ hq0 h32.out
   have hl0 : l0.length ≤ 100000000 := by omega
   have hh0 := Lib.hid q0d
   clear q0d
   have HIR := Lib.hid (HIR.out.trans (by rw [hq0]))
   simp only [Option.bind_some] at HIR
   have HQ0 := Lib.hid hq0
   clear hq0
   go_wp2_with fail
   refine (zd1_ R 7 7 rfl l _ CUR.out.rd om_ om_).mono ?_
   rintro e w2 ⟨hg, hp⟩
   rw [HQ0.out] at hp
   obtain ⟨ad, c, rfl, hin, hr⟩ := hp
   have CUR2 := Lib.hid (zdI_ CUR.out hg hr HX)
   rw [q0a] at hin
   have HIN := Lib.hid hin
   have HS := Lib.hid q0c
   clear CUR hg hr hin q0c
   have CUR := CUR2
   clear CUR2
   go_wp2_with fail
   refine (zgZ_ s _ _ _ _ _ HIN.out HS.out om_).mono ?_
   rintro e w2b ⟨rfl, he⟩
   rw [if_neg om_] at he
   subst he
   have f2 := z0_ CUR.out.blk
   have e2 := z8_ CUR.out.blk
   have CUR2 := Lib.hid (zdJ_ CUR.out HX (Nat.le_refl _) 1 (.int .i64 (y3_ 32 s : Nat)) (y := ⟨0, y3_ 32 s, [], [], [], 0, 0, []⟩) rfl)
   have f21 : w2b.cell? ⟨w.heap.size, 1, none⟩ = some (.int .i64 0) := f2 1
   clear f2
   go_upto_region 2 with fail
   generalize w2b.setCell ⟨w.heap.size, 1, none⟩ (.int .i64 (y3_ 32 s : Nat)) = w2c at *
   clear CUR f21 e2
   have CUR := CUR2
   clear CUR2
   cases hq1 : v2_ 1 l0 with
   | none =>
     have HN : Hid (invR l = none) := Lib.hid (by rw [HIR.out, hq1]; rfl)
     have HQ := Lib.hid hq1
     clear hq1
     go_wp2_with fail
     refine (zdl_ R 1 1 rfl l0 _ CUR.out.rd hl0 hh0.out).mono ?_
     rintro e w2 ⟨hg, hp⟩
     rw [HQ.out] at hp
     have hp : e = .panicked [oddP] := hp
     subst hp
     go_wp2_with fail
     exact ⟨rfl, zcY_ HN.out (y7_ hg CUR.out.gl si_)⟩
   | some ar1 =>
     obtain ⟨h, l1⟩ := ar1
     obtain ⟨q1a, q1b, q1d⟩ := zeH_ hq1 hh0.out
     have hl1 : l1.length ≤ 100000000 := by omega
     have hh1 := Lib.hid q1d
     clear q1d
     have HIR := Lib.hid (HIR.out.trans (by rw [hq1]))
     simp only [Option.bind_some] at HIR
     have HQ1 := Lib.hid hq1
     clear hq1
     go_wp2_with fail
     refine (zdl_ R 1 1 rfl l0 _ CUR.out.rd hl0 hh0.out).mono ?_
     rintro e w3 ⟨hg, hp⟩
     rw [HQ1.out] at hp
     obtain ⟨rfl, hr⟩ := hp
     have CUR2 := Lib.hid (zdI_ CUR.out hg hr HX)
     clear CUR hg hr
     have CUR := CUR2
     clear CUR2
     cases hq2 : v2_ 19 l1 with
     | none =>
       have HN : Hid (invR l = none) := Lib.hid (by rw [HIR.out, hq2]; rfl)
       have HQ := Lib.hid hq2
       clear hq2
       go_wp2_with fail
       refine (zdl_ R 19 19 rfl l1 _ CUR.out.rd hl1 hh1.out).mono ?_
       rintro e w2 ⟨hg, hp⟩
       rw [HQ.out] at hp
       have hp : e = .panicked [oddP] := hp
       subst hp
       go_wp2_with fail
       exact ⟨rfl, zcY_ HN.out (y7_ hg CUR.out.gl si_)⟩
     | some ar2 =>
       obtain ⟨p, l2⟩ := ar2
       obtain ⟨q2a, q2b, q2d⟩ := zeH_ hq2 hh1.out
       have hl2 : l2.length ≤ 100000000 := by omega
       have hh2 := Lib.hid q2d
       clear q2d
       have HIR := Lib.hid (HIR.out.trans (by rw [hq2]))
       simp only [Option.bind_some] at HIR
       have HQ2 := Lib.hid hq2
       clear hq2
       go_wp2_with fail
       refine (zdl_ R 19 19 rfl l1 _ CUR.out.rd hl1 hh1.out).mono ?_
       rintro e w4 ⟨hg, hp⟩
       rw [HQ2.out] at hp
       obtain ⟨rfl, hr⟩ := hp
       have CUR2 := Lib.hid (zdI_ CUR.out hg hr HX)
       clear CUR hg hr
       have CUR := CUR2
       clear CUR2
       cases hq3 : v2_ 13 l2 with
       | none =>
         have HN : Hid (invR l = none) := Lib.hid (by rw [HIR.out, hq3]; rfl)
         have HQ := Lib.hid hq3
         clear hq3
         go_wp2_with fail
         refine (zdl_ R 13 13 rfl l2 _ CUR.out.rd hl2 hh2.out).mono ?_
         rintro e w2 ⟨hg, hp⟩
         rw [HQ.out] at hp
         have hp : e = .panicked [oddP] := hp
         subst hp
         go_wp2_with fail
         exact ⟨rfl, zcY_ HN.out (y7_ hg CUR.out.gl si_)⟩
       | some ar3 =>
         obtain ⟨m, l3⟩ := ar3
         obtain ⟨q3a, q3b, q3d⟩ := zeH_ hq3 hh2.out
         have hl3 : l3.length ≤ 100000000 := by omega
         have hh3 := Lib.hid q3d
         clear q3d
         have HIR := Lib.hid (HIR.out.trans (by rw [hq3]))
         simp only [Option.bind_some] at HIR
         have HQ3 := Lib.hid hq3
         clear hq3
         go_wp2_with fail
         refine (zdl_ R 13 13 rfl l2 _ CUR.out.rd hl2 hh2.out).mono ?_
         rintro e w5 ⟨hg, hp⟩
         rw [HQ3.out] at hp
         obtain ⟨rfl, hr⟩ := hp
         have CUR2 := Lib.hid (zdI_ CUR.out hg hr HX)
         clear CUR hg hr
         have CUR := CUR2
         clear CUR2
         have f := z0_ CUR.out.blk
         have ef := z8_ CUR.out.blk
         have f2 : w5.cell? ⟨w.heap.size, 2, none⟩ = some (.string (bs [])) := f 2
         have f3 : w5.cell? ⟨w.heap.size, 3, none⟩ = some (.string (bs [])) := f 3
         have f4 : w5.cell? ⟨w.heap.size, 4, none⟩ = some (.string (bs [])) := f 4
         clear f
         have CUR2 := Lib.hid (zdJ_ (zdJ_ (zdJ_ CUR.out HX (Nat.le_refl _) 2 (.string (bs h)) (y := ⟨0, y3_ 32 s, h, [], [], 0, 0, []⟩) rfl) HX (Nat.le_refl _) 3 (.string (bs p)) (y := ⟨0, y3_ 32 s, h, p, [], 0, 0, []⟩) rfl) HX (Nat.le_refl _) 4 (.string (bs m)) (y := ⟨0, y3_ 32 s, h, p, m, 0, 0, []⟩) rfl)
         go_upto_region 3 with fail
         generalize (((w5.setCell ⟨w.heap.size, 2, none⟩ (.string (bs h))).setCell ⟨w.heap.size, 3, none⟩ (.string (bs p))).setCell ⟨w.heap.size, 4, none⟩ (.string (bs m))) = w5c at *
         clear CUR ef f2 f3 f4
         have CUR := CUR2
         clear CUR2
         cases hq4 : k5_ 6 l3 with
         | none =>
           have HN : Hid (invR l = none) := Lib.hid (by rw [HIR.out, hq4]; rfl)
           have HQ := Lib.hid hq4
           clear hq4
           go_wp2_with fail
           refine (zfI_ R 6 6 rfl l3 _ CUR.out.rd om_ hh3.out).mono ?_
           rintro e w2 ⟨hg, hp⟩
           rw [HQ.out] at hp
           have hp : e = .panicked [oddP] := hp
           subst hp
           go_wp2_with fail
           exact ⟨rfl, zcY_ HN.out (y7_ hg CUR.out.gl si_)⟩
         | some ar4 =>
           obtain ⟨x, l4⟩ := ar4
           obtain ⟨q4a, q4b, q4d⟩ := zg6_ hq4 hh3.out
           have hl4 : l4.length ≤ 100000000 := by omega
           have hh4 := Lib.hid q4d
           clear q4d
           have HIR := Lib.hid (HIR.out.trans (by rw [hq4]))
           simp only [Option.bind_some] at HIR
           have HQ4 := Lib.hid hq4
           clear hq4
           go_wp2_with fail
           refine (zfI_ R 6 6 rfl l3 _ CUR.out.rd om_ hh3.out).mono ?_
           rintro e w6 ⟨hg, hp⟩
           rw [HQ4.out] at hp
           obtain ⟨rfl, hr⟩ := hp
           have CUR2 := Lib.hid (zdI_ CUR.out hg hr HX)
           clear CUR hg hr
           have CUR := CUR2
           clear CUR2
           have f := z0_ CUR.out.blk
           have ef := z8_ CUR.out.blk
           have f5 : w6.cell? ⟨w.heap.size, 5, none⟩ = some (.int .i64 0) := f 5
           clear f
           have CUR2 := Lib.hid (zdJ_ CUR.out HX (Nat.le_refl _) 5 (.int .i64 (x : Nat)) (y := ⟨0, y3_ 32 s, h, p, m, x, 0, []⟩) rfl)
           go_upto_region 4 with fail
           generalize (w6.setCell ⟨w.heap.size, 5, none⟩ (.int .i64 (x : Nat))) = w6c at *
           clear CUR ef f5
           have CUR := CUR2
           clear CUR2
           cases hq5 : k5_ 24 l4 with
           | none =>
             have HN : Hid (invR l = none) := Lib.hid (by rw [HIR.out, hq5]; rfl)
             have HQ := Lib.hid hq5
             clear hq5
             go_wp2_with fail
             refine (zfI_ R 24 24 rfl l4 _ CUR.out.rd om_ hh4.out).mono ?_
             rintro e w2 ⟨hg, hp⟩
             rw [HQ.out] at hp
             have hp : e = .panicked [oddP] := hp
             subst hp
             go_wp2_with fail
             exact ⟨rfl, zcY_ HN.out (y7_ hg CUR.out.gl si_)⟩
           | some ar5 =>
             obtain ⟨d, l5⟩ := ar5
             obtain ⟨q5a, q5b, q5d⟩ := zg6_ hq5 hh4.out
             have hl5 : l5.length ≤ 100000000 := by omega
             have hh5 := Lib.hid q5d
             clear q5d
             have HIR := Lib.hid (HIR.out.trans (by rw [hq5]))
             simp only [Option.bind_some] at HIR
             have HQ5 := Lib.hid hq5
             clear hq5
             go_wp2_with fail
             refine (zfI_ R 24 24 rfl l4 _ CUR.out.rd om_ hh4.out).mono ?_
             rintro e w7 ⟨hg, hp⟩
             rw [HQ5.out] at hp
             obtain ⟨rfl, hr⟩ := hp
             have CUR2 := Lib.hid (zdI_ CUR.out hg hr HX)
             clear CUR hg hr
             have CUR := CUR2
             clear CUR2
             have f := z0_ CUR.out.blk
             have ef := z8_ CUR.out.blk
             have f6 : w7.cell? ⟨w.heap.size, 6, none⟩ = some (.int .i64 0) := f 6
             clear f
             have CUR2 := Lib.hid (zdJ_ CUR.out HX (Nat.le_refl _) 6 (.int .i64 (d : Nat)) (y := ⟨0, y3_ 32 s, h, p, m, x, d, []⟩) rfl)
             go_upto_region 5 with fail
             generalize (w7.setCell ⟨w.heap.size, 6, none⟩ (.int .i64 (d : Nat))) = w7c at *
             clear CUR ef f6
             have CUR := CUR2
             clear CUR2
             cases hq6 : v2_ 16 l5 with
             | none =>
               have HN : Hid (invR l = none) := Lib.hid (by rw [HIR.out, hq6]; rfl)
               have HQ := Lib.hid hq6
               clear hq6
               go_wp2_with fail
               refine (zdl_ R 16 16 rfl l5 _ CUR.out.rd hl5 hh5.out).mono ?_
               rintro e w2 ⟨hg, hp⟩
               rw [HQ.out] at hp
               have hp : e = .panicked [oddP] := hp
               subst hp
               go_wp2_with fail
               exact ⟨rfl, zcY_ HN.out (y7_ hg CUR.out.gl si_)⟩
             | some ar6 =>
               obtain ⟨g, l6⟩ := ar6
               obtain ⟨q6a, q6b, q6d⟩ := zeH_ hq6 hh5.out
               have hl6 : l6.length ≤ 100000000 := by omega
               have hh6 := Lib.hid q6d
               clear q6d
               have HIR := Lib.hid (HIR.out.trans (by rw [hq6]))
               simp only [Option.bind_some] at HIR
               have HQ6 := Lib.hid hq6
               clear hq6
               go_wp2_with fail
               refine (zdl_ R 16 16 rfl l5 _ CUR.out.rd hl5 hh5.out).mono ?_
               rintro e w8 ⟨hg, hp⟩
               rw [HQ6.out] at hp
               obtain ⟨rfl, hr⟩ := hp
               have CUR2 := Lib.hid (zdI_ CUR.out hg hr HX)
               clear CUR hg hr
               have CUR := CUR2
               clear CUR2
               have f := z0_ CUR.out.blk
               have ef := z8_ CUR.out.blk
               have f7 : w8.cell? ⟨w.heap.size, 7, none⟩ = some (.string (bs [])) := f 7
               clear f
               have CUR2 := Lib.hid (zdJ_ CUR.out HX (Nat.le_refl _) 7 (.string (bs g)) (y := ⟨0, y3_ 32 s, h, p, m, x, d, g⟩) rfl)
               go_upto_region 6 with fail
               generalize (w8.setCell ⟨w.heap.size, 7, none⟩ (.string (bs g))) = w8c at *
               clear CUR ef f7
               have CUR := CUR2
               clear CUR2
               have hvs : y3_ 32 s < 34359738368 := by
                have := zcR_ (b := 32) s HS.out
                rw [q0a] at this
                exact this
               have HOK : Hid (zcr_ ⟨0, y3_ 32 s, h, p, m, x, d, g⟩) := Lib.hid ⟨sx_, sx_, sx_, sx_, sx_, sx_, sx_, sx_, sx_, sx_, sx_, sx_⟩
               have HG8 : Hid (GOk w8c) := Lib.hid (za8_ HG.out CUR.out.gl (by simp; exact hR))
               have hbk : w8c.heap[w.heap.size]? = some (.cells #[.int .i64 0, .int .i64 (y3_ 32 s : Nat), .string (bs h), .string (bs p), .string (bs m), .int .i64 (x : Nat), .int .i64 (d : Nat), .string (bs g)] 31 (0, 0)) := CUR.out.blk
               have f8 := z0_ hbk
               obtain ⟨ad8, c8, h81, h82⟩ := CUR.out.rd
               have r8 := z0_ h81 0
               clear h81 h82 q0a q0b
               have HGL := Lib.hid CUR.out.gl
               have HBK := Lib.hid hbk
               clear hbk
               by_cases hl6 : l6 = []
               · subst hl6
                 cases hm : w3_ ⟨0, y3_ 32 s, h, p, m, x, d, g⟩ with
                 | false =>
                   have HN : Hid (invR l = none) := Lib.hid (by rw [HIR.out, hm]; simp)
                   have HM := Lib.hid hm
                   clear hm
                   go_wp2_with fail
                   refine (iMay ⟨0, y3_ 32 s, h, p, m, x, d, g⟩ HOK.out _ HG8.out).mono ?_
                   rintro e w9 ⟨rfl, hb9⟩
                   rw [HM.out]
                   go_wp2_with fail
                   exact ⟨rfl, zcY_ HN.out (y6_ hb9 HGL.out)⟩
                 | true =>
                   have HN : Hid (invR l = some ⟨0, y3_ 32 s, h, p, m, x, d, g⟩) := Lib.hid (by rw [HIR.out, hm]; simp)
                   have HM := Lib.hid hm
                   clear hm
                   go_wp2_with fail
                   refine (iMay ⟨0, y3_ 32 s, h, p, m, x, d, g⟩ HOK.out _ HG8.out).mono ?_
                   rintro e w9 ⟨rfl, hb9⟩
                   rw [HM.out]
                   have HB9 := Lib.hid (x0_ HBK.out hb9 (z4_ HBK.out))
                   have HL9 := Lib.hid (y6_ hb9 HGL.out)
                   clear hb9 f8 r8
                   have f9 := z0_ HB9.out
                   have e9 := z8_ HB9.out
                   go_wp2_with fail
                   have hB10 : ((((((((w9.setCell ⟨w.heap.size, 0, none⟩ (.int .i64 0)).setCell ⟨w.heap.size, 1, none⟩ (.int .i64 (y3_ 32 s : Nat))).setCell ⟨w.heap.size, 2, none⟩ (.string (bs h))).setCell ⟨w.heap.size, 3, none⟩ (.string (bs p))).setCell ⟨w.heap.size, 4, none⟩ (.string (bs m))).setCell ⟨w.heap.size, 5, none⟩ (.int .i64 (x : Nat))).setCell ⟨w.heap.size, 6, none⟩ (.int .i64 (d : Nat))).setCell ⟨w.heap.size, 7, none⟩ (.string (bs g))).heap[w.heap.size]? = some (.cells #[.int .i64 0, .int .i64 (y3_ 32 s : Nat), .string (bs h), .string (bs p), .string (bs m), .int .i64 (x : Nat), .int .i64 (d : Nat), .string (bs g)] 31 (0, 0)) := (z3_ (z3_ (z3_ (z3_ (z3_ (z3_ (z3_ (z3_ HB9.out 0 (.int .i64 0)) 1 (.int .i64 (y3_ 32 s : Nat))) 2 (.string (bs h))) 3 (.string (bs p))) 4 (.string (bs m))) 5 (.int .i64 (x : Nat))) 6 (.int .i64 (d : Nat))) 7 (.string (bs g)))
                   have HL10 : Hid (GL [R] w ((((((((w9.setCell ⟨w.heap.size, 0, none⟩ (.int .i64 0)).setCell ⟨w.heap.size, 1, none⟩ (.int .i64 (y3_ 32 s : Nat))).setCell ⟨w.heap.size, 2, none⟩ (.string (bs h))).setCell ⟨w.heap.size, 3, none⟩ (.string (bs p))).setCell ⟨w.heap.size, 4, none⟩ (.string (bs m))).setCell ⟨w.heap.size, 5, none⟩ (.int .i64 (x : Nat))).setCell ⟨w.heap.size, 6, none⟩ (.int .i64 (d : Nat))).setCell ⟨w.heap.size, 7, none⟩ (.string (bs g)))) := Lib.hid (z2_ (z2_ (z2_ (z2_ (z2_ (z2_ (z2_ (z2_ HL9.out (.inr (Nat.le_refl _)) (.int .i64 0)) (.inr (Nat.le_refl _)) (.int .i64 (y3_ 32 s : Nat))) (.inr (Nat.le_refl _)) (.string (bs h))) (.inr (Nat.le_refl _)) (.string (bs p))) (.inr (Nat.le_refl _)) (.string (bs m))) (.inr (Nat.le_refl _)) (.int .i64 (x : Nat))) (.inr (Nat.le_refl _)) (.int .i64 (d : Nat))) (.inr (Nat.le_refl _)) (.string (bs g)))
                   generalize ((((((((w9.setCell ⟨w.heap.size, 0, none⟩ (.int .i64 0)).setCell ⟨w.heap.size, 1, none⟩ (.int .i64 (y3_ 32 s : Nat))).setCell ⟨w.heap.size, 2, none⟩ (.string (bs h))).setCell ⟨w.heap.size, 3, none⟩ (.string (bs p))).setCell ⟨w.heap.size, 4, none⟩ (.string (bs m))).setCell ⟨w.heap.size, 5, none⟩ (.int .i64 (x : Nat))).setCell ⟨w.heap.size, 6, none⟩ (.int .i64 (d : Nat))).setCell ⟨w.heap.size, 7, none⟩ (.string (bs g))) = w10 at *
                   have f10 := z0_ hB10
                   clear hB10 f9 e9
                   exact bodyPost_ret (v := invV ⟨0, y3_ 32 s, h, p, m, x, d, g⟩) (by simp [results, Tryz.results54, go_sem, f10, invV]) rfl (zoX_ HN.out HL10.out rfl)
               · have HN : Hid (invR l = none) := Lib.hid (by rw [HIR.out, if_neg (fun h => hl6 h.1)])
                 have hpos2 : 0 < l6.length := List.length_pos_iff.2 hl6
                 have hpos : (0 : Int) < l6.length := by omega
                 clear hl6
                 go_wp2_with fail
                 exact ⟨rfl, zcY_ HN.out HGL.out⟩
theorem zoZ_ (xT : Nat) (w : World) : (Instr.typeAssert (.iface 76 (.agg #[])) xT 76 true).run Tryz.prog w = .ok (.tuple #[.agg #[], .bool true]) w := by
 simp [Instr.typeAssert, run_underlying Tryz.underlying76]
theorem zjB_ (X E : Nat) (w : World) :
  CallsD Tryz.prog 53 #[.pointer (some ⟨X, 0, none⟩), .pointer (some ⟨E, 0, none⟩)] .returning w fun e u' w' =>
   e = .returned (.tuple #[]) ∧ u' = .returning ∧ w' = w := by
 refine callsD_of_wpS Tryz.func53 rfl fun c₀ cs hu => ?_
 apply wpS_seq
 apply wpS_region
 simp [wpOpsS, go_sem, recoverD, hu, Tryz.ntmps53, Exit.thenS, Array.replicate, List.replicate]
 refine wpS_of_wp ?_
 go_wp2_with fail
 cases c₀
 simp_all [bodyPostS, results, Tryz.results53]
theorem zo0_ (X E : Nat) (x : Inv) (e0 : Int) (w : World) (hX : w.heap[X]? = some (.cells (q4_ x) 31 (0, 0))) (hE : w.heap[E]? = some (.cells #[.int .i64 e0] 23 (0, 0))) (hXE : X ≠ E) :
  CallsD Tryz.prog 53 #[.pointer (some ⟨X, 0, none⟩), .pointer (some ⟨E, 0, none⟩)] (.panicking [oddP]) w fun e u' w' =>
   e = .returned (.tuple #[]) ∧ u' = .panicking [{ oddP with recovered := true }] ∧ w'.heap[X]? = some (.cells (q4_ Inv.zero) 31 (0, 0)) ∧ w'.heap[E]? = some (.cells #[.int .i64 70] 23 (0, 0)) ∧ GL [X, E] w w' := by
 have hta := zoZ_
 have hX2 : w.heap[X]? = some (.cells #[.int .i64 x.am, .int .i64 x.st, .string (bs x.hash), .string (bs x.payee), .string (bs x.memo), .int .i64 x.ex, .int .i64 x.de, .string (bs x.sig)] 31 (0, 0)) := hX
 have f1 := z0_ hX2
 have f2 := z8_ hX2
 have f3 := z4_ hX2
 have g1 := z0_ hE
 have g2 := z8_ hE
 have g3 := z4_ hE
 have HX := Lib.hid hX
 have HE := Lib.hid hE
 clear hX hX2 hE
 refine callsD_of_wpS Tryz.func53 rfl fun c₀ cs hu => ?_
 apply wpS_seq
 apply wpS_region
 simp [wpOpsS, go_sem, recoverD, hu, Tryz.ntmps53, Exit.thenS, oddP, Array.replicate, List.replicate]
 refine wpS_of_wp ?_
 go_wp2_with fail
 clear hta f1 f2 g1 g2
 simp [bodyPostS, results, Tryz.results53]
 exact ⟨x3_ (v0_ (z3_ (z3_ (z3_ (z3_ (z3_ (z3_ (z3_ (z3_ HX.out 0 (.int .i64 0)) 1 (.int .i64 0)) 2 (.string (bs []))) 3 (.string (bs []))) 4 (.string (bs []))) 5 (.int .i64 0)) 6 (.int .i64 0)) 7 (.string (bs []))) hXE (.int .i64 70)) _, x3_ (z3_ (v0_ (v0_ (v0_ (v0_ (v0_ (v0_ (v0_ (v0_ HE.out (fun e => hXE e.symm) (.int .i64 0)) (fun e => hXE e.symm) (.int .i64 0)) (fun e => hXE e.symm) (.string (bs []))) (fun e => hXE e.symm) (.string (bs []))) (fun e => hXE e.symm) (.string (bs []))) (fun e => hXE e.symm) (.int .i64 0)) (fun e => hXE e.symm) (.int .i64 0)) (fun e => hXE e.symm) (.string (bs []))) 0 (.int .i64 70)) _, y2_ (z2_ (z2_ (z2_ (z2_ (z2_ (z2_ (z2_ (z2_ (z2_ (y1_ _ _) (.inl si_) (.int .i64 0)) (.inl si_) (.int .i64 0)) (.inl si_) (.string (bs []))) (.inl si_) (.string (bs []))) (.inl si_) (.string (bs []))) (.inl si_) (.int .i64 0)) (.inl si_) (.int .i64 0)) (.inl si_) (.string (bs []))) (.inl si_) (.int .i64 70)) _⟩
def DcO (s : List UInt8) (w : World) (e : Ending) (w' : World) : Prop := e = .returned (.tuple #[invV (decI s).1, .int .i64 (decI s).2]) ∧ Below w.heap.size w w'
theorem zcC_ {s : List UInt8} {w w' : World} {x : Inv} {n : Int} {v : Value} (h : decI s = (x, n)) (hv : v = invV x) (hb : Below w.heap.size w w') : DcO s w (.returned (.tuple #[v, .int .i64 n])) w' := by
 subst hv; exact ⟨by rw [h], hb⟩
theorem zjC_ {s : List UInt8} (h : v9_ s ≠ 0) : decI s = (Inv.zero, v9_ s) := by unfold decI; rw [if_pos h]
theorem zg7_ {s : List UInt8} (h : v9_ s = 0) (hp : lnsw.isPrefixOf (x5_ s) = false) : decI s = (Inv.zero, 70) := by unfold decI; rw [if_neg (by simp [h]), if_pos hp]
theorem zjD_ {s : List UInt8} (h : v9_ s = 0) (hp : lnsw.isPrefixOf (x5_ s) = true) (ha : (z5_ ((x5_ s).drop 4)).2 ≠ 0) : decI s = (Inv.zero, (z5_ ((x5_ s).drop 4)).2) := by unfold decI; rw [if_neg (by simp [h]), if_neg (by simp [hp]), if_pos ha]
theorem zg8_ {s : List UInt8} (h : v9_ s = 0) (hp : lnsw.isPrefixOf (x5_ s) = true) (ha : (z5_ ((x5_ s).drop 4)).2 = 0) : decI s = match invR (k4_ s) with
 | none => (Inv.zero, 70)
 | some x => if q1_ x.payee (bodyT { x with am := (z5_ ((x5_ s).drop 4)).1 }) x.sig = true then ({ x with am := (z5_ ((x5_ s).drop 4)).1 }, 0) else (Inv.zero, 71) := by unfold decI; rw [if_neg (by simp [h]), if_neg (by simp [hp]), if_neg (by simp [ha])]; rfl
theorem zo1_ (lo : Nat) (v : Value) (l : List UInt8) (a : Option Addr) (c : Nat) (w : World) (hown : x1_ lo v l w) :
  (Builtin.append_ #[47, 47] 47 #[v, .slice a 0 c]).run Tryz.prog w = .ok v w := by
 obtain ⟨t0, ht0, ht1, ht2, ht3⟩ := info_parts Tryz.infoB8
 rcases hown.2 with ⟨rfl, hn⟩ | ⟨g, cap, cur, rfl, hbg, hg, hnc, hcm, hcs, htake⟩
 · cases a with
   | none => simp [Builtin.append_, run_underlying Tryz.underlying47, sizeOf, typeInfo, ht0, Builtin.lenOf, Builtin.firstCells, loadCells, loadCellsFrom]
   | some a => simp [Builtin.append_, run_underlying Tryz.underlying47, sizeOf, typeInfo, ht0, Builtin.lenOf, Builtin.firstCells, loadCells, loadCellsFrom]
 · cases a with
   | none => simp [Builtin.append_, run_underlying Tryz.underlying47, sizeOf, typeInfo, ht0, Builtin.lenOf, Builtin.firstCells, loadCells, loadCellsFrom, storeCells, hnc]
   | some a => simp [Builtin.append_, run_underlying Tryz.underlying47, sizeOf, typeInfo, ht0, Builtin.lenOf, Builtin.firstCells, loadCells, loadCellsFrom, storeCells, hnc]
theorem zcZ_ (lo : Nat) (v yv : Value) (l ys : List UInt8) (w : World) (hown : x1_ lo v l w) (hin : x8_ yv ys w) (hlen : l.length + ys.length ≤ 1000000000000) (hlo : lo ≤ w.heap.size) :
  ∃ ad cap w', (Builtin.append_ #[47, 47] 47 #[v, yv]).run Tryz.prog w = .ok (.slice ad (l.length + ys.length) cap) w' ∧
   x1_ lo (.slice ad (l.length + ys.length) cap) (l ++ ys) w' ∧ GL v.ownBlock.toList w w' := by
 obtain ⟨a, c, rfl, hc, hb⟩ := j6_ hin
 by_cases hy : ys = []
 · subst hy
   obtain ⟨ad, cap, rfl⟩ := zaO_ hown
   have h := zo1_ lo _ l a c w hown
   exact ⟨ad, cap, w, h, by rw [List.append_nil]; exact hown, y1_ _ _⟩
 · obtain ⟨G, o, rfl, hB, hj⟩ := hb hy
   obtain ⟨g, cap, w', h1, h2, h3, h4, h5⟩ := zgH_ lo v l ys ⟨G, o, none⟩ c w hown (List.length_pos_iff.2 hy) (fun j hjl => by
    have e : (⟨G, o, none⟩ : Addr).add j = ⟨G, o + j, none⟩ := by unfold Addr.add; split <;> simp_all
    rw [e]
    exact hj j hjl) hlen hlo
   exact ⟨some ⟨g, 0, none⟩, cap, w', h1, h2, zcu_ h3 (y1_ _ _) (fun r hr => .inl (by simp [hr]))⟩
theorem zeI_ (n : Nat) (h : n ≤ 4611686018427387903) : bits .and .i64 (n : Int) 31 = ((n % 32 : Nat) : Int) := zap_ n 5 om_ om_ 31 de_
theorem zjE_ : w0_ 0 = [] := by rw [w0_, dif_pos rfl]
theorem zjF_ {n : Nat} (h : 0 < n) : w0_ n = w0_ (n / 32) ++ [UInt8.ofNat (n % 32)] := by rw [w0_, dif_neg om_]
theorem zjG_ (n : Nat) (h : n ≤ 4611686018427387903) : (w0_ n).length ≤ 13 := zde_ 13 n om_
theorem iNum (n : Nat) (w : World) (hn : n ≤ 4611686018427387903) :
  Calls Tryz.prog 75 #[.int .i64 n] w fun e w' => ∃ ad c, e = .returned (.slice ad (w0_ n).length c) ∧ x1_ w.heap.size (.slice ad (w0_ n).length c) (w0_ n) w' ∧ Below w.heap.size w w' := by
 induction n using Nat.strongRecOn generalizing w with
 | ind n ih =>
   by_cases h0 : n = 0
   · subst h0
     have HE := Lib.hid zjE_
     go_enter Tryz.func75, Tryz.ntmps75
     go_wp2_with fail
     exact bodyPost_ret (v := .slice none 0 0) (by simp [results, Tryz.results75, go_sem]) rfl ⟨none, 0, by rw [HE.out]; rfl, by rw [HE.out]; exact zbN_ _ _, bl_⟩
   · have hpos : 0 < n := by omega
     have hp1 : (0 : Int) < n := by omega
     have HE := Lib.hid (zjF_ hpos)
     have HS := Lib.hid (zjG_ (n / 32) om_)
     have HI := Lib.hid (fun w => ih (n / 32) om_ w om_)
     have hand := zeI_ n hn
     have hn2 : (n : Int) ≤ 4611686018427387903 := by omega
     clear ih h0
     go_enter Tryz.func75, Tryz.ntmps75
     go_wp2_with fail
     refine (show Calls Tryz.prog 75 #[.int .i64 ((n / 32 : Nat) : Int)] w _ from HI.out w).mono ?_
     rintro e w1 ⟨ad, c, rfl, hown, hb1⟩
     have HB := Lib.hid hb1
     have hx8 : ((n : Int) % 32) = ((UInt8.ofNat (n % 32)).toNat : Nat) := by rw [UInt8.toNat_ofNat']; omega
     obtain ⟨g, cap, w2, hrun, hown2, hgr, _, _⟩ := k7_ w.heap.size (.slice ad (w0_ (n / 32)).length c) _ (UInt8.ofNat (n % 32)) ((n : Int) % 32) hx8 w1 _ (.inr rfl) hown (by have := HS.out; omega) hb1.size
     have HL2 : Hid (GL [] w w2) := Lib.hid (y7_ hgr (y6_ hb1 (y1_ _ _)) (fun r hr => .inr (v4_ hown r (by simpa using hr)).1))
     have HRUN := Lib.hid hrun
     have HO2 := Lib.hid hown2
     have hlen : (w0_ n).length = (w0_ (n / 32)).length + 1 := by rw [HE.out]; simp
     have HLN := Lib.hid hlen
     clear hown hb1 hrun hown2 hgr hx8 hlen
     go_wp2_with (at_builtin; refine w8_ _ rfl (.tmp 7) (.tmp 11) 47 47 rfl _ _ (by simp [Act.eval, Act.put]) (by simp [Act.eval, Act.put]) HRUN.out ?_)
     exact bodyPost_ret (v := .slice (some ⟨g, 0, none⟩) ((w0_ (n / 32)).length + 1) cap) (by simp [results, Tryz.results75, go_sem]) rfl ⟨some ⟨g, 0, none⟩, cap, by rw [HLN.out], by rw [HLN.out, HE.out]; exact HO2.out, y0_ HL2.out⟩
theorem zfJ_ (s : List UInt8) (hs : s.length ≤ 10000000) (w : World) :
  Calls Tryz.prog 46 #[.string (bs s)] w fun e w' => ∃ ad c, e = .returned (.slice ad (x4_ s).length c) ∧ x1_ w.heap.size (.slice ad (x4_ s).length c) (x4_ s) w' ∧ Below w.heap.size w w' := by
 obtain ⟨c, w1, hcv, hin, hg⟩ := zfA_ 9 Tryz.underlying9 s w om_
 have HIN := Lib.hid (zjn_ hin)
 have HG := Lib.hid hg
 have HB := Lib.hid (zfc_ s)
 clear hin hg
 go_enter Tryz.func46, Tryz.ntmps46
 go_wp2_with fail
 refine (zoQ_ s _ _ HIN.out om_).mono ?_
 rintro e w2 ⟨he, hb⟩
 rw [HB.out] at he
 obtain ⟨ad, c2, rfl, hown⟩ := he
 have HO := Lib.hid (zdv_ hown HG.out.size)
 have HL : Hid (GL [] w w2) := Lib.hid (y6_ hb HG.out)
 clear hown hb
 go_wp2_with fail
 exact bodyPost_ret (v := .slice ad (x4_ s).length c2) (by simp [results, Tryz.results46, go_sem]) rfl ⟨ad, c2, rfl, HO.out, y0_ HL.out⟩
theorem iFld (lo lo2 : Nat) (tag : UInt8) (T : Int) (hT : T = tag.toNat) (l o : List UInt8) (v bv : Value) (w : World) (hv : x1_ lo v l w) (hb : x1_ lo2 bv o w) (hap : ∀ g, v.ownBlock = some g → g < lo2) (hll : l.length ≤ 100000000) (hol : o.length ≤ 1023) (hlo : lo ≤ w.heap.size) :
  Calls Tryz.prog 45 #[v, .int .u8 T, bv] w fun e w' => ∃ ad c, e = .returned (.slice ad (l ++ y5_ tag o).length c) ∧ x1_ lo (.slice ad (l ++ y5_ tag o).length c) (l ++ y5_ tag o) w' ∧ GL v.ownBlock.toList w w' := by
 subst hT
 obtain ⟨ad, c, rfl⟩ := zaO_ hv
 obtain ⟨ad2, c2, rfl⟩ := zaO_ hb
 have e1 : ((o.length : Int) / 32) = ((UInt8.ofNat (o.length / 32)).toNat : Nat) := by rw [UInt8.toNat_ofNat']; omega
 have e2 : ((o.length : Int) % 32) = ((UInt8.ofNat (o.length % 32)).toNat : Nat) := by rw [UInt8.toNat_ofNat']; omega
 have hand := zeI_ o.length om_
 have hn := y8_ w (.cells #[.int .u8 (tag.toNat : Nat), .int .u8 ((o.length : Int) / 32), .int .u8 ((o.length : Int) % 32)] 5)
 obtain ⟨g1, cap1, w2, hr1, ho1, hg1, hb1, hs1⟩ := zgH_ lo _ l [tag, UInt8.ofNat (o.length / 32), UInt8.ofNat (o.length % 32)] ⟨w.heap.size, 0, none⟩ 3 (w.alloc (.cells #[.int .u8 (tag.toNat : Nat), .int .u8 ((o.length : Int) / 32), .int .u8 ((o.length : Int) % 32)] 5)) (zbT_ hv _) si_ (fun j hj => by
  rw [e1, e2] at hn ⊢
  rcases (by simp at hj; omega : j = 0 ∨ j = 1 ∨ j = 2) with rfl | rfl | rfl
  · exact z0_ hn 0
  · exact z0_ hn 1
  · exact z0_ hn 2) so_ (by rw [World.size_alloc]; omega)
 have hb2 : x8_ (.slice ad2 o.length c2) o w2 := by
  obtain ⟨a, c', e, hc', hbb⟩ := j6_ (zaT_ (zbT_ hb (.cells #[.int .u8 (tag.toNat : Nat), .int .u8 ((o.length : Int) / 32), .int .u8 ((o.length : Int) % 32)] 5))).1
  injection e with ea _ ec
  subst ea ec
  refine zbQ_ rfl hc' fun hne => ?_
  obtain ⟨G, of, rfl, hB⟩ := hbb hne
  have hG : lo2 ≤ G := (zaT_ hb).2 G of c2 rfl hne
  refine ⟨G, of, rfl, ?_⟩
  exact zbf_ (rs := (Value.slice ad l.length c).ownBlock.toList) hB (zcu_ hg1 (y1_ _ _) (fun r hr => .inl (by simp [hr]))) (fun hm => by
   have := hap G (by simpa using hm)
   omega)
 have hlo2 : lo ≤ w2.heap.size := Nat.le_trans (by rw [World.size_alloc]; omega) hg1.size
 obtain ⟨ad3, cap3, w3, hr2, ho2, hg2⟩ := zcZ_ lo _ _ _ o w2 ho1 hb2 so_ hlo2
 have hw1 : GL [] w (w.alloc (.cells #[.int .u8 (tag.toNat : Nat), .int .u8 ((o.length : Int) / 32), .int .u8 ((o.length : Int) % 32)] 5)) := y2_ (y1_ _ _) _
 have hw2 : GL (Value.slice ad l.length c).ownBlock.toList w w2 := zcu_ hg1 (y7_ hw1 (y1_ _ _) si_) (fun r hr => .inl (by simp [hr]))
 have hw3 : GL (Value.slice ad l.length c).ownBlock.toList w w3 := by
  refine y7_ hg2 hw2 (fun r hr => ?_)
  have : r = g1 := by simp [Value.ownBlock] at hr; exact hr
  subst this
  rcases hb1 with h | h
  · exact .inl (by simp [h])
  · exact .inr (by rw [h, World.size_alloc]; omega)
 have hfin : l ++ [tag, UInt8.ofNat (o.length / 32), UInt8.ofNat (o.length % 32)] ++ o = l ++ y5_ tag o := by unfold y5_; simp
 have hl1 : (l ++ [tag, UInt8.ofNat (o.length / 32), UInt8.ofNat (o.length % 32)]).length = l.length + 3 := by simp
 have hl3 : l.length + 3 + o.length = (l ++ y5_ tag o).length := by rw [← hfin]; simp; omega
 rw [hfin] at ho2
 rw [show ([tag, UInt8.ofNat (o.length / 32), UInt8.ofNat (o.length % 32)] : List UInt8).length = 3 from rfl] at hr1 hr2
 rw [hl1, hl3] at hr2
 rw [hl1, hl3] at ho2
 have HR1 := Lib.hid hr1
 have HR2 := Lib.hid hr2
 have HO := Lib.hid ho2
 have HG := Lib.hid hw3
 have ho3 : (o.length : Int) ≤ 1023 := by omega
 clear hr1 hr2 ho2 hw3 hw2 hw1 hg2 hb2 hb1 ho1 hg1 hn hv hb hap hl1 hl3 hfin hlo2 hs1 e1 e2
 go_enter Tryz.func45, Tryz.ntmps45
 go_wp2_with (first | ((with_reducible (at_builtin; refine w8_ _ rfl (.tmp 7) (.tmp 17) 47 47 rfl _ _ ?ha ?hb HR1.out ?_)); (case ha => simp [Act.eval, Act.put]); (case hb => simp [Act.eval, Act.put])) | ((with_reducible (at_builtin; refine w8_ _ rfl (.tmp 18) (.tmp 19) 47 47 rfl _ _ ?ha ?hb HR2.out ?_)); (case ha => simp [Act.eval, Act.put]); (case hb => simp [Act.eval, Act.put])))
 exact bodyPost_ret (v := .slice ad3 (l ++ y5_ tag o).length cap3) (by simp [results, Tryz.results45, go_sem]) rfl ⟨ad3, cap3, rfl, HO.out, HG.out⟩
end Go.Proofs.YtembdkodajichaaGreatDoor
