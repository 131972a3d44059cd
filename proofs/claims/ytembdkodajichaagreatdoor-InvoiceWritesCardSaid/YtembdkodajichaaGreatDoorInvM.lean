/- The program's invoices: may one be? -/
import Derived.Test.YtembdkodajichaaGreatDoorInvP
import Derived.Test.YtembdkodajichaaGreatDoorMTerm
import Derived.Test.YtembdkodajichaaGreatDoorBldK
set_option maxRecDepth 100000
set_option maxHeartbeats 4000000
set_option linter.unusedSimpArgs false
set_option linter.unusedVariables false
namespace Go.Proofs.YtembdkodajichaaGreatDoor
open Go.RowKit
def opN (l : List UInt8) : Nat := match rt l with
 | none => 0
 | some x => x.op.toNat
theorem opN_lt (l : List UInt8) : opN l < 256 := by
 unfold opN
 cases rt l with
 | none => decide
 | some x => exact x.op.toNat_lt
theorem tOpenG (l : List UInt8) (hl : l.length ≤ 9000000000000000000) (w : World) (hG : GOk w) :
  Calls Tryz.prog 72 #[.string (bs l)] w fun e w' => ∃ n t ad kn kc b, e = .returned (.tuple #[.agg #[.int .u8 (opN l : Nat), .int .i64 n, .string (bs t), .slice ad kn kc], .bool b]) ∧ Below w.heap.size w w' := by
 refine (tOpen l hl w hG).mono fun e w' h => ?_
 unfold OpenPost at h
 unfold opN
 cases hr : rt l with
 | none => rw [hr] at h; exact ⟨_, _, _, _, _, _, h⟩
 | some x =>
   rw [hr] at h
   obtain ⟨ad, n, c, he, _, hb⟩ := h
   exact ⟨_, _, _, _, _, _, he, hb⟩
theorem isHashT_op (l : List UInt8) : isHashT l = decide (opN l = 72) := by
 unfold isHashT opN right
 cases hr : rt l with
 | none => rfl
 | some x =>
   simp only [Option.isSome_some, Bool.true_and]
   rw [← head_op hr, Bool.eq_iff_iff, beq_iff_eq, decide_eq_true_eq, ← UInt8.toNat_inj]
   rfl
theorem isPubT_op (l : List UInt8) : isPubT l = decide (opN l = 80 ∨ opN l = 87 ∨ opN l = 76) := by
 unfold isPubT opN right
 cases hr : rt l with
 | none => rfl
 | some x =>
   simp only [Option.isSome_some, Bool.true_and]
   rw [← head_op hr, pubC_nat]
theorem zero_35 (x : Int) (h0 : -9223372036854775808 ≤ x) (h1 : x ≤ 9223372036854775807) : ((x / 34359738368 == 0) : Bool) = (decide (0 ≤ x) && decide (x < 34359738368)) := by
 rw [Bool.eq_iff_iff, beq_iff_eq, Bool.and_eq_true, decide_eq_true_eq, decide_eq_true_eq]
 omega
theorem zero_31 (x : Int) (h0 : -9223372036854775808 ≤ x) (h1 : x ≤ 9223372036854775807) : ((x / 2147483648 == 0) : Bool) = (decide (0 ≤ x) && decide (x < 2147483648)) := by
 rw [Bool.eq_iff_iff, beq_iff_eq, Bool.and_eq_true, decide_eq_true_eq, decide_eq_true_eq]
 omega
structure InvOk (x : Inv) : Prop where
 am0 : -9223372036854775808 ≤ x.am
 am1 : x.am ≤ 9223372036854775807
 st0 : -9223372036854775808 ≤ x.st
 st1 : x.st ≤ 9223372036854775807
 ex0 : -9223372036854775808 ≤ x.ex
 ex1 : x.ex ≤ 9223372036854775807
 de0 : -9223372036854775808 ≤ x.de
 de1 : x.de ≤ 9223372036854775807
 hash : x.hash.length ≤ 1000000
 payee : x.payee.length ≤ 1000000
 memo : x.memo.length ≤ 1000000
 sig : x.sig.length ≤ 1000000
def invC (x : Inv) : Array Value := #[.int .i64 x.am, .int .i64 x.st, .string (bs x.hash), .string (bs x.payee), .string (bs x.memo), .int .i64 x.ex, .int .i64 x.de, .string (bs x.sig)]
theorem may_eq (x : Inv) (hx : InvOk x) : mayI x = (decide (opN x.hash = 72) && decide (opN x.payee = 80 ∨ opN x.payee = 87 ∨ opN x.payee = 76) && decide (x.hash.length ≤ 639) && decide (x.payee.length ≤ 639) && decide (x.memo.length ≤ 639) && (x.st / 34359738368 == 0) && (x.ex / 34359738368 == 0) && (x.de / 2147483648 == 0)) := by
 unfold mayI
 rw [isHashT_op, isPubT_op, zero_35 _ hx.st0 hx.st1, zero_35 _ hx.ex0 hx.ex1, zero_31 _ hx.de0 hx.de1]
 simp only [Bool.and_assoc]
theorem Tryz.sizeStr1 : (Tryz.prog.info? 9).map (·.size) = some 1 := by kernel_rfl
theorem index_aggS3 (w : World) (cs : Array Value) (i : Nat) (x : Value) (hi : i < 3) (hx : cs[i]? = some x) : (Instr.index 101 (.agg cs) (.int .i64 (i : Int))).run Tryz.prog w = .ok x w := by
 have h2 : (0 : Int) ≤ (i : Int) ∧ (i : Int) < 3 := by omega
 obtain ⟨j, hj, hjs⟩ := Option.map_eq_some_iff.1 Tryz.sizeStr1
 simp [Instr.index, run_underlying Tryz.underlying101, asIntOf, sizeOf, typeInfo, hj, hjs, part, h2]
 rw [if_pos hi, hx]
 rfl
theorem iMay (x : Inv) (hx : InvOk x) (w : World) (hG : GOk w) :
  Calls Tryz.prog 35 #[invV x] w fun e w' => e = .returned (.bool (mayI x)) ∧ Below w.heap.size w w' := by
 have hM := Lib.hid (may_eq x hx)
 have hh := hx.hash
 have hp := hx.payee
 have hm := hx.memo
 have HG := Lib.hid hG
 clear hx hG
 obtain ⟨am, st, hash, payee, memo, ex, de, sig⟩ := x
 unfold invV
 simp only at hM hh hp hm ⊢
 go_enter Tryz.func35, Tryz.ntmps35
 go_wp2_with fail
 have hB1 := blk_new w (.cells #[.int .i64 am, .int .i64 st, .string (bs hash), .string (bs payee), .string (bs memo), .int .i64 ex, .int .i64 de, .string (bs sig)] 31)
 refine (tOpenG hash om_ _ (gok_alloc HG.out _)).mono ?_
 rintro e w1 ⟨n1, t1, ad1, kn1, kc1, b1, rfl, hb1⟩
 have hB2 := blk_below hB1 hb1 (blk_lt hB1)
 have HG1 := Lib.hid (gok_below (gok_alloc HG.out _) hb1)
 have HL1 : Hid (GL [] w w1) := Lib.hid (gl_below hb1 (gl_alloc (gl_refl _ _) _))
 have HB2 := Lib.hid hB2
 clear hB1 hb1 hB2
 have f2 := blk_cell HB2.out
 have hs1 := blk_lt HB2.out
 go_wp2_with fail
 have hC1 := blk_new w1 (.cells #[.int .u8 (opN hash : Nat), .int .i64 n1, .string (bs t1), .slice ad1 kn1 kc1] 98)
 refine (tOpenG payee om_ _ (gok_alloc HG1.out _)).mono ?_
 rintro e w2 ⟨n2, t2, ad2, kn2, kc2, b2, rfl, hb2⟩
 have hC2 := Lib.hid (blk_below hC1 hb2 (blk_lt hC1))
 have HB3 := Lib.hid (blk_below (blk_alloc HB2.out _) hb2 (blk_lt (blk_alloc HB2.out _)))
 have HL2 : Hid (GL [] w w2) := Lib.hid (gl_below hb2 (gl_alloc HL1.out _))
 generalize w1.heap.size = C at *
 clear hC1 hb2 f2 hs1
 have f3 := blk_cell HB3.out
 have hs3 := blk_lt HB3.out
 have g3 := blk_cell hC2.out
 have gs3 := blk_lt hC2.out
 go_wp2_with fail
 have HD4 := Lib.hid (blk_new w2 (.cells #[.int .u8 (opN payee : Nat), .int .i64 n2, .string (bs t2), .slice ad2 kn2 kc2] 98))
 have HC4 := Lib.hid (blk_alloc hC2.out (.cells #[.int .u8 (opN payee : Nat), .int .i64 n2, .string (bs t2), .slice ad2 kn2 kc2] 98))
 have HB4 := Lib.hid (blk_alloc HB3.out (.cells #[.int .u8 (opN payee : Nat), .int .i64 n2, .string (bs t2), .slice ad2 kn2 kc2] 98))
 have HL4 : Hid (GL [] w (w2.alloc (.cells #[.int .u8 (opN payee : Nat), .int .i64 n2, .string (bs t2), .slice ad2 kn2 kc2] 98))) := Lib.hid (gl_alloc HL2.out _)
 generalize w2.alloc (.cells #[.int .u8 (opN payee : Nat), .int .i64 n2, .string (bs t2), .slice ad2 kn2 kc2] 98) = w3 at *
 generalize w2.heap.size = D at *
 clear f3 hs3 g3 gs3 hC2 HB3 HL2 HB2 HG1 HL1
 go_loopw [8, 28] (fun _ iv wr => ∃ i : Nat, i ≤ 3 ∧ iv = .int .i64 i ∧ Hid (1 ≤ i → hash.length ≤ 639) ∧ Hid (2 ≤ i → payee.length ≤ 639) ∧ Hid (3 ≤ i → memo.length ≤ 639) ∧ Hid (wr = w3)) (fun _ iv _ => 3 - (intOf iv).toNat)
 case atStart => exact ⟨0, by omega, rfl, Lib.hid om_, Lib.hid om_, Lib.hid om_, Lib.hid rfl⟩
 case round =>
  obtain ⟨i, hi, rfl, h1, h2, h3, hw⟩ := hrel
  have hww := hw.out
  subst hww
  have i0 : (Instr.index 101 (.agg #[Value.string (bs hash), .string (bs payee), .string (bs memo)]) (.int .i64 0)).run Tryz.prog wr = .ok (.string (bs hash)) wr := index_aggS3 wr _ 0 _ om_ rfl
  have i1 : (Instr.index 101 (.agg #[Value.string (bs hash), .string (bs payee), .string (bs memo)]) (.int .i64 1)).run Tryz.prog wr = .ok (.string (bs payee)) wr := index_aggS3 wr _ 1 _ om_ rfl
  have i2 : (Instr.index 101 (.agg #[Value.string (bs hash), .string (bs payee), .string (bs memo)]) (.int .i64 2)).run Tryz.prog wr = .ok (.string (bs memo)) wr := index_aggS3 wr _ 2 _ om_ rfl
  rcases (by omega : i = 0 ∨ i = 1 ∨ i = 2 ∨ i = 3) with rfl | rfl | rfl | rfl
  · by_cases hb : hash.length ≤ 639
    · have hb1 : (hash.length : Int) ≤ 639 := by omega
      have HB := Lib.hid hb
      clear hb
      go_wp2_with fail
      exact ⟨⟨1, by omega, by first | rfl | (simp; done), (by first | exact Lib.hid (fun _ => HB.out) | exact Lib.hid (fun _ => trivial) | exact Lib.hid trivial), Lib.hid om_, Lib.hid om_, by first | exact hw | exact Lib.hid trivial⟩, by first | (simp [intOf]; done) | (simp [intOf]; omega)⟩
    · have hb1 : (639 : Int) < hash.length := by omega
      have HE : Hid (mayI { am := am, st := st, hash := hash, payee := payee, memo := memo, ex := ex, de := de, sig := sig } = false) := Lib.hid (by rw [hM.out, decide_eq_false hb]; simp)
      clear hb
      go_wp2_with fail
      exact bodyPost_ret (v := .bool false) (by simp [results, Tryz.results35, go_sem]) rfl ⟨by rw [HE.out], gl_to_below HL4.out⟩
  · by_cases hb : payee.length ≤ 639
    · have hb1 : (payee.length : Int) ≤ 639 := by omega
      have HB := Lib.hid hb
      clear hb
      go_wp2_with fail
      exact ⟨⟨2, by omega, by first | rfl | (simp; done), Lib.hid (fun _ => h1.out om_), (by first | exact Lib.hid (fun _ => HB.out) | exact Lib.hid (fun _ => trivial) | exact Lib.hid trivial), Lib.hid om_, by first | exact hw | exact Lib.hid trivial⟩, by first | (simp [intOf]; done) | (simp [intOf]; omega)⟩
    · have hb1 : (639 : Int) < payee.length := by omega
      have HE : Hid (mayI { am := am, st := st, hash := hash, payee := payee, memo := memo, ex := ex, de := de, sig := sig } = false) := Lib.hid (by rw [hM.out, decide_eq_false hb]; simp)
      clear hb
      go_wp2_with fail
      exact bodyPost_ret (v := .bool false) (by simp [results, Tryz.results35, go_sem]) rfl ⟨by rw [HE.out], gl_to_below HL4.out⟩
  · by_cases hb : memo.length ≤ 639
    · have hb1 : (memo.length : Int) ≤ 639 := by omega
      have HB := Lib.hid hb
      clear hb
      go_wp2_with fail
      exact ⟨⟨3, by omega, by first | rfl | (simp; done), Lib.hid (fun _ => h1.out om_), Lib.hid (fun _ => h2.out om_), (by first | exact Lib.hid (fun _ => HB.out) | exact Lib.hid (fun _ => trivial) | exact Lib.hid trivial), by first | exact hw | exact Lib.hid trivial⟩, by first | (simp [intOf]; done) | (simp [intOf]; omega)⟩
    · have hb1 : (639 : Int) < memo.length := by omega
      have HE : Hid (mayI { am := am, st := st, hash := hash, payee := payee, memo := memo, ex := ex, de := de, sig := sig } = false) := Lib.hid (by rw [hM.out, decide_eq_false hb]; simp)
      clear hb
      go_wp2_with fail
      exact bodyPost_ret (v := .bool false) (by simp [results, Tryz.results35, go_sem]) rfl ⟨by rw [HE.out], gl_to_below HL4.out⟩
  · have l1 := h1.out om_
    have l2 := h2.out om_
    have l3 := h3.out om_
    have f3 := blk_cell HB4.out
    have g3 := blk_cell HC4.out
    have e3 := blk_cell HD4.out
    have hM2 := hM.out
    rw [decide_eq_true l1, decide_eq_true l2, decide_eq_true l3] at hM2
    simp only [Bool.and_true] at hM2
    have HM2 := Lib.hid hM2
    clear hM2 l1 l2 l3 i0 i1 i2
    generalize opN hash = o1 at *
    generalize opN payee = o2 at *
    by_cases ho1 : o1 = 72
    · subst ho1
      by_cases ho2 : o2 = 80 ∨ o2 = 87 ∨ o2 = 76
      · cases hs : (st / 34359738368 == 0) with
        | false =>
          have HE : Hid (mayI { am := am, st := st, hash := hash, payee := payee, memo := memo, ex := ex, de := de, sig := sig } = false) := Lib.hid (by rw [HM2.out, decide_eq_true ho2]; simp only [hs]; rfl)
          clear HM2
          rcases ho2 with rfl | rfl | rfl
          all_goals go_wp2_with fail
          all_goals exact bodyPost_ret (v := .bool false) (by simp [results, Tryz.results35, go_sem]) rfl ⟨by rw [HE.out], gl_to_below HL4.out⟩
        | true =>
          cases he : (ex / 34359738368 == 0) with
          | false =>
            have HE : Hid (mayI { am := am, st := st, hash := hash, payee := payee, memo := memo, ex := ex, de := de, sig := sig } = false) := Lib.hid (by rw [HM2.out, decide_eq_true ho2]; simp only [hs, he]; rfl)
            clear HM2
            rcases ho2 with rfl | rfl | rfl
            all_goals go_wp2_with fail
            all_goals exact bodyPost_ret (v := .bool false) (by simp [results, Tryz.results35, go_sem]) rfl ⟨by rw [HE.out], gl_to_below HL4.out⟩
          | true =>
            cases hd : (de / 2147483648 == 0) with
            | false =>
              have HE : Hid (mayI { am := am, st := st, hash := hash, payee := payee, memo := memo, ex := ex, de := de, sig := sig } = false) := Lib.hid (by rw [HM2.out, decide_eq_true ho2]; simp only [hs, he, hd]; rfl)
              clear HM2
              rcases ho2 with rfl | rfl | rfl
              all_goals go_wp2_with fail
              all_goals exact bodyPost_ret (v := .bool false) (by simp [results, Tryz.results35, go_sem]) rfl ⟨by rw [HE.out], gl_to_below HL4.out⟩
            | true =>
              have HE : Hid (mayI { am := am, st := st, hash := hash, payee := payee, memo := memo, ex := ex, de := de, sig := sig } = true) := Lib.hid (by rw [HM2.out, decide_eq_true ho2]; simp only [hs, he, hd]; rfl)
              clear HM2
              rcases ho2 with rfl | rfl | rfl
              all_goals go_wp2_with fail
              all_goals exact bodyPost_ret (v := .bool true) (by simp [results, Tryz.results35, go_sem]) rfl ⟨by rw [HE.out], gl_to_below HL4.out⟩
      · have HE : Hid (mayI { am := am, st := st, hash := hash, payee := payee, memo := memo, ex := ex, de := de, sig := sig } = false) := Lib.hid (by rw [HM2.out, decide_eq_false ho2]; simp)
        have h80 : ((o2 : Int) == 80) = false := by simp; omega
        have h87 : ((o2 : Int) == 87) = false := by simp; omega
        have h76 : ((o2 : Int) == 76) = false := by simp; omega
        clear ho2 HM2
        go_wp2_with fail
        exact bodyPost_ret (v := .bool false) (by simp [results, Tryz.results35, go_sem]) rfl ⟨by rw [HE.out], gl_to_below HL4.out⟩
    · have HE : Hid (mayI { am := am, st := st, hash := hash, payee := payee, memo := memo, ex := ex, de := de, sig := sig } = false) := Lib.hid (by rw [HM2.out, decide_eq_false ho1]; simp)
      have ho2 : ((o1 : Int) == 72) = false := by simp; omega
      clear ho1 HM2
      go_wp2_with fail
      exact bodyPost_ret (v := .bool false) (by simp [results, Tryz.results35, go_sem]) rfl ⟨by rw [HE.out], gl_to_below HL4.out⟩
end Go.Proofs.YtembdkodajichaaGreatDoor
