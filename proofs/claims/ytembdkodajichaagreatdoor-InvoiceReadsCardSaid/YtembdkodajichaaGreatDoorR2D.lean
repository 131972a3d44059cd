/- The reference's SHA-256: a block taken. -/
import Derived.Test.YtembdkodajichaaGreatDoorAmtQ
import Derived.Test.YtembdkodajichaaGreatDoorMRef
import Derived.Test.YtembdkodajichaaGreatDoorR7W
import Derived.Test.YtembdkodajichaaGreatDoorBitsR
import Derived.StillTactics
import Derived.StillTailTactics
set_option maxRecDepth 100000
set_option maxHeartbeats 4000000
set_option linter.unusedSimpArgs false
set_option linter.unusedVariables false
namespace Go.Proofs.YtembdkodajichaaGreatDoor
open Go.RowKit
theorem zrL_ (p m s : List UInt8) (hs : s.length ≤ 9000000000000000000) (w : World) :
  Calls Tryz.prog 47 #[.string (bs p), .string (bs m), .string (bs s)] w fun e w' => e = .returned (.bool (q1_ p m s)) ∧ Below w.heap.size w w' := by
 cases hr : rt s with
 | none =>
   have H : Hid (q1_ p m s = false) := by show q1_ p m s = false; unfold q1_; rw [hr]
   have HR := Lib.hid hr
   clear hr
   go_enter Tryz.func47, Tryz.ntmps47
   go_wp2_with fail
   refine (zc3_ s hs _).mono ?_
   rintro e w1 hp
   rw [HR.out] at hp
   obtain ⟨rfl, hb1⟩ := hp
   go_wp2_with fail
   go_ret
   exact ⟨by first | (rw [H.out]; done) | (rw [H.out]; rfl), bl_⟩
 | some x =>
   by_cases ho : x.op.toNat = 83
   · obtain ⟨a, b, hk, ha, hb, _⟩ := zh8_ hr (by simp [arity, ← UInt8.toNat_inj, ho])
     have hal := zaU_ ha
     have HV : Hid (q1_ p m s = (b == m && w4_ a == p)) := by
      show q1_ p m s = _
      unfold q1_
      rw [hr]
      simp [ho, hk]
     have HKS := Lib.hid hk
     have HR := Lib.hid hr
     have b1 : (((x.op.toNat : Nat) : Int) == 83) = true := by simp [ho]
     clear hr ho hk hb ha
     cases hbm : (b == m) with
     | false =>
       have H : Hid (q1_ p m s = false) := by show q1_ p m s = false; rw [HV.out, hbm]; rfl
       have hne : ¬ b = m := by simpa using hbm
       clear HV
       go_enter Tryz.func47, Tryz.ntmps47
       go_wp2_with fail
       refine (zc3_ s hs _).mono ?_
       rintro e w1 hp
       rw [HR.out] at hp
       obtain ⟨ad, kn, kc, rfl, hown, hb1⟩ := hp
       rw [HKS.out] at hown
       obtain ⟨g, cap, hv, hgb, hgw, hcap, hcap2, hcell⟩ := zbv_ hown si_
       injection hv with hv1 hv2 hv3
       subst hv1 hv2 hv3
       have c0 := zdm_ (hcell 0 (.string (bs a)) rfl) (.cells #[.int .u8 x.op.toNat, .int .i64 (q6_ x), .string (bs x.text), .slice (some ⟨g, 0, none⟩) 2 kc] 98)
       have c1 := zdm_ (hcell 1 (.string (bs b)) rfl) (.cells #[.int .u8 x.op.toNat, .int .i64 (q6_ x), .string (bs x.text), .slice (some ⟨g, 0, none⟩) 2 kc] 98)
       clear hcell hown
       go_wp2_with fail
       go_ret
       exact ⟨by first | (rw [H.out]; done) | (rw [H.out]; rfl), bl_⟩
     | true =>
       obtain rfl : b = m := by simpa using hbm
       clear hbm
       have H : Hid (q1_ p b s = (w4_ a == p)) := by show q1_ p b s = _; rw [HV.out]; simp
       clear HV
       go_enter Tryz.func47, Tryz.ntmps47
       go_wp2_with fail
       refine (zc3_ s hs _).mono ?_
       rintro e w1 hp
       rw [HR.out] at hp
       obtain ⟨ad, kn, kc, rfl, hown, hb1⟩ := hp
       rw [HKS.out] at hown
       obtain ⟨g, cap, hv, hgb, hgw, hcap, hcap2, hcell⟩ := zbv_ hown si_
       injection hv with hv1 hv2 hv3
       subst hv1 hv2 hv3
       have c0 := zdm_ (hcell 0 (.string (bs a)) rfl) (.cells #[.int .u8 x.op.toNat, .int .i64 (q6_ x), .string (bs x.text), .slice (some ⟨g, 0, none⟩) 2 kc] 98)
       have c1 := zdm_ (hcell 1 (.string (bs b)) rfl) (.cells #[.int .u8 x.op.toNat, .int .i64 (q6_ x), .string (bs x.text), .slice (some ⟨g, 0, none⟩) 2 kc] 98)
       clear hcell hown
       go_wp2_with fail
       refine (zqg_ a om_ om_ _).mono ?_
       rintro e w2 ⟨rfl, hb3⟩
       go_wp2_with fail
       go_ret
       refine ⟨?_, bl_⟩
       rw [H.out]
       rw [show (w4_ a == p) = (p == w4_ a) from Bool.beq_comm]
       first | rfl | (congr 2; rw [Bool.eq_iff_iff]; simp; done) | (simp; done)
   · have H : Hid (q1_ p m s = false) := by show q1_ p m s = false; unfold q1_; rw [hr]; simp [ho]
     have HR := Lib.hid hr
     have b1 : (((x.op.toNat : Nat) : Int) == 83) = false := by simp; omega
     clear hr ho
     go_enter Tryz.func47, Tryz.ntmps47
     go_wp2_with fail
     refine (zc3_ s hs _).mono ?_
     rintro e w1 hp
     rw [HR.out] at hp
     obtain ⟨ad, kn, kc, rfl, hown, hb1⟩ := hp
     clear hown
     go_wp2_with fail
     go_ret
     exact ⟨by first | (rw [H.out]; done) | (rw [H.out]; rfl), bl_⟩
theorem zkP_ (l : List UInt8) (hl : l.length ≤ 9000000000000000000) (w : World) :
  Calls Tryz.prog 76 #[.string (bs l)] w fun e w' => ∃ n t ad kn kc b, e = .returned (.tuple #[.agg #[.int .u8 (opN l : Nat), .int .i64 n, .string (bs t), .slice ad kn kc], .bool b]) ∧ (b = false → opN l = 0) ∧ Below w.heap.size w w' := by
 refine (zc3_ l hl w).mono fun e w' h => ?_
 unfold ze5_ at h
 unfold opN
 cases hr : rt l with
 | none => rw [hr] at h; exact ⟨_, _, _, _, _, _, h.1, fun _ => rfl, h.2⟩
 | some x =>
   rw [hr] at h
   obtain ⟨ad, n, c, he, _, hb⟩ := h
   refine ⟨_, _, _, _, _, _, he, ?_, hb⟩
   intro h
   exact absurd h si_
theorem zkQ_ (x : Inv) (hx : zcr_ x) (w : World) :
  Calls Tryz.prog 39 #[invV x] w fun e w' => e = .returned (.bool (w3_ x)) ∧ Below w.heap.size w w' := by
 have hM : Hid (w3_ x = (zfd_ x.hash && zfe_ x.payee && decide (x.hash.length ≤ 639) && decide (x.payee.length ≤ 639) && decide (x.memo.length ≤ 639) && decide (0 ≤ x.st) && decide (x.st < 34359738368) && decide (0 ≤ x.ex) && decide (x.ex < 34359738368) && decide (0 ≤ x.de) && decide (x.de < 2147483648))) := Lib.hid rfl
 rw [zjw_, zjx_] at hM
 have hh := hx.hash
 have hp := hx.payee
 have hm := hx.memo
 clear hx
 obtain ⟨am, st, hash, payee, memo, ex, de, sig⟩ := x
 unfold invV
 simp only at hM hh hp hm ⊢
 go_enter Tryz.func39, Tryz.ntmps39
 go_wp2_with fail
 have hB1 := y8_ w (.cells #[.int .i64 am, .int .i64 st, .string (bs hash), .string (bs payee), .string (bs memo), .int .i64 ex, .int .i64 de, .string (bs sig)] 31)
 refine (zkP_ hash om_ _).mono ?_
 rintro e w1 ⟨n1, t1, ad1, kn1, kc1, b1, rfl, hz1, hb1⟩
 have hB2 := x0_ hB1 hb1 (z4_ hB1)
 have HL1 : Hid (GL [] w w1) := Lib.hid (y6_ hb1 (y2_ (y1_ _ _) _))
 have HB2 := Lib.hid hB2
 have HZ1 := Lib.hid hz1
 clear hB1 hb1 hB2 hz1
 have f2 := z0_ HB2.out
 have hs1 := z4_ HB2.out
 go_wp2_with fail
 have hC1 := y8_ w1 (.cells #[.int .u8 (opN hash : Nat), .int .i64 n1, .string (bs t1), .slice ad1 kn1 kc1] 98)
 refine (zkP_ payee om_ _).mono ?_
 rintro e w2 ⟨n2, t2, ad2, kn2, kc2, b2, rfl, hz2, hb2⟩
 have hC2 := Lib.hid (x0_ hC1 hb2 (z4_ hC1))
 have HB3 := Lib.hid (x0_ (x3_ HB2.out _) hb2 (z4_ (x3_ HB2.out _)))
 have HL2 : Hid (GL [] w w2) := Lib.hid (y6_ hb2 (y2_ HL1.out _))
 have HZ2 := Lib.hid hz2
 generalize w1.heap.size = C at *
 clear hC1 hb2 f2 hs1 hz2 HB2
 have f3 := z0_ HB3.out
 have hs3 := z4_ HB3.out
 have g3 := z0_ hC2.out
 have gs3 := z4_ hC2.out
 generalize opN hash = H at *
 generalize opN payee = P at *
 clear hC2 HB3
 rcases (by omega : P = 80 ∨ P = 87 ∨ P = 76 ∨ (P ≠ 80 ∧ P ≠ 87 ∧ P ≠ 76)) with rfl | rfl | rfl | ⟨hp1, hp2, hp3⟩
 case' inr.inr.inr =>
  have p1 : (((P : Nat) : Int) == 80) = false := by simp; omega
  have p2 : (((P : Nat) : Int) == 87) = false := by simp; omega
  have p3 : (((P : Nat) : Int) == 76) = false := by simp; omega
 case inr.inr.inr =>
  by_cases q1 : 0 ≤ st
  · have q1b : decide (0 ≤ st) = true := by simp; omega
    by_cases q2 : st < 34359738368
    · have q2b : decide (st < 34359738368) = true := by simp; omega
      cases b1 with
      | false =>
        have HE : Hid (w3_ ⟨am, st, hash, payee, memo, ex, de, sig⟩ = false) := Lib.hid (by rw [hM.out, decide_eq_false (show ¬ (P = 80 ∨ P = 87 ∨ P = 76) by omega)]; simp)
        go_wp2_with fail
        exact bodyPost_ret (v := .bool false) (by simp [results, Tryz.results39, go_sem]) rfl ⟨by rw [HE.out], y0_ (y2_ HL2.out _)⟩
      | true =>
        by_cases q4 : H = 72
        · have q4b : ((H : Int) == 72) = true := by simp; omega
          cases b2 with
          | false =>
            have HE : Hid (w3_ ⟨am, st, hash, payee, memo, ex, de, sig⟩ = false) := Lib.hid (by rw [hM.out, decide_eq_false (show ¬ (P = 80 ∨ P = 87 ∨ P = 76) by omega)]; simp)
            go_wp2_with fail
            exact bodyPost_ret (v := .bool false) (by simp [results, Tryz.results39, go_sem]) rfl ⟨by rw [HE.out], y0_ (y2_ HL2.out _)⟩
          | true =>
            have HE : Hid (w3_ ⟨am, st, hash, payee, memo, ex, de, sig⟩ = false) := Lib.hid (by rw [hM.out, decide_eq_false (show ¬ (P = 80 ∨ P = 87 ∨ P = 76) by omega)]; simp)
            go_wp2_with fail
            exact bodyPost_ret (v := .bool false) (by simp [results, Tryz.results39, go_sem]) rfl ⟨by rw [HE.out], y0_ (y2_ HL2.out _)⟩
        · have q4b : ((H : Int) == 72) = false := by simp; omega
          have HE : Hid (w3_ ⟨am, st, hash, payee, memo, ex, de, sig⟩ = false) := Lib.hid (by rw [hM.out, decide_eq_false (show ¬ (P = 80 ∨ P = 87 ∨ P = 76) by omega)]; simp)
          go_wp2_with fail
          exact bodyPost_ret (v := .bool false) (by simp [results, Tryz.results39, go_sem]) rfl ⟨by rw [HE.out], y0_ (y2_ HL2.out _)⟩
    · have q2b : decide (st < 34359738368) = false := by simp; omega
      have HE : Hid (w3_ ⟨am, st, hash, payee, memo, ex, de, sig⟩ = false) := Lib.hid (by rw [hM.out, decide_eq_false (show ¬ (P = 80 ∨ P = 87 ∨ P = 76) by omega)]; simp)
      go_wp2_with fail
      exact bodyPost_ret (v := .bool false) (by simp [results, Tryz.results39, go_sem]) rfl ⟨by rw [HE.out], y0_ (y2_ HL2.out _)⟩
  · have q1b : decide (0 ≤ st) = false := by simp; omega
    have HE : Hid (w3_ ⟨am, st, hash, payee, memo, ex, de, sig⟩ = false) := Lib.hid (by rw [hM.out, decide_eq_false (show ¬ (P = 80 ∨ P = 87 ∨ P = 76) by omega)]; simp)
    go_wp2_with fail
    exact bodyPost_ret (v := .bool false) (by simp [results, Tryz.results39, go_sem]) rfl ⟨by rw [HE.out], y0_ (y2_ HL2.out _)⟩
 all_goals
  by_cases q1 : 0 ≤ st
  · have q1b : decide (0 ≤ st) = true := by simp; omega
    by_cases q2 : st < 34359738368
    · have q2b : decide (st < 34359738368) = true := by simp; omega
      cases b1 with
      | false =>
        have hz := HZ1.out rfl
        have HE : Hid (w3_ ⟨am, st, hash, payee, memo, ex, de, sig⟩ = false) := Lib.hid (by rw [hM.out, hz]; simp)
        go_wp2_with fail
        exact bodyPost_ret (v := .bool false) (by simp [results, Tryz.results39, go_sem]) rfl ⟨by rw [HE.out], y0_ (y2_ HL2.out _)⟩
      | true =>
        by_cases q4 : H = 72
        · have q4b : ((H : Int) == 72) = true := by simp; omega
          cases b2 with
          | false =>
            exact absurd (HZ2.out rfl) de_
          | true =>
            by_cases q7 : hash.length ≤ 639
            · have q7b : decide ((hash.length : Int) ≤ 639) = true := by simp; omega
              by_cases q8 : payee.length ≤ 639
              · have q8b : decide ((payee.length : Int) ≤ 639) = true := by simp; omega
                by_cases q9 : memo.length ≤ 639
                · have q9b : decide ((memo.length : Int) ≤ 639) = true := by simp; omega
                  by_cases q10 : 0 ≤ ex
                  · have q10b : decide (0 ≤ ex) = true := by simp; omega
                    by_cases q11 : ex < 34359738368
                    · have q11b : decide (ex < 34359738368) = true := by simp; omega
                      by_cases q12 : 0 ≤ de
                      · have q12b : decide (0 ≤ de) = true := by simp; omega
                        by_cases q13 : de < 2147483648
                        · have q13b : decide (de < 2147483648) = true := by simp; omega
                          have HE : Hid (w3_ ⟨am, st, hash, payee, memo, ex, de, sig⟩ = true) := Lib.hid (by rw [hM.out]; simp; first | done | omega)
                          go_wp2_with fail
                          exact bodyPost_ret (v := .bool true) (by simp [results, Tryz.results39, go_sem]) rfl ⟨by rw [HE.out], y0_ (y2_ HL2.out _)⟩
                        · have q13b : decide (de < 2147483648) = false := by simp; omega
                          have HE : Hid (w3_ ⟨am, st, hash, payee, memo, ex, de, sig⟩ = false) := Lib.hid (by rw [hM.out, decide_eq_false q13]; simp)
                          go_wp2_with fail
                          exact bodyPost_ret (v := .bool false) (by simp [results, Tryz.results39, go_sem]) rfl ⟨by rw [HE.out], y0_ (y2_ HL2.out _)⟩
                      · have q12b : decide (0 ≤ de) = false := by simp; omega
                        have HE : Hid (w3_ ⟨am, st, hash, payee, memo, ex, de, sig⟩ = false) := Lib.hid (by rw [hM.out, decide_eq_false q12]; simp)
                        go_wp2_with fail
                        exact bodyPost_ret (v := .bool false) (by simp [results, Tryz.results39, go_sem]) rfl ⟨by rw [HE.out], y0_ (y2_ HL2.out _)⟩
                    · have q11b : decide (ex < 34359738368) = false := by simp; omega
                      have HE : Hid (w3_ ⟨am, st, hash, payee, memo, ex, de, sig⟩ = false) := Lib.hid (by rw [hM.out, decide_eq_false q11]; simp)
                      go_wp2_with fail
                      exact bodyPost_ret (v := .bool false) (by simp [results, Tryz.results39, go_sem]) rfl ⟨by rw [HE.out], y0_ (y2_ HL2.out _)⟩
                  · have q10b : decide (0 ≤ ex) = false := by simp; omega
                    have HE : Hid (w3_ ⟨am, st, hash, payee, memo, ex, de, sig⟩ = false) := Lib.hid (by rw [hM.out, decide_eq_false q10]; simp)
                    go_wp2_with fail
                    exact bodyPost_ret (v := .bool false) (by simp [results, Tryz.results39, go_sem]) rfl ⟨by rw [HE.out], y0_ (y2_ HL2.out _)⟩
                · have q9b : decide ((memo.length : Int) ≤ 639) = false := by simp; omega
                  have HE : Hid (w3_ ⟨am, st, hash, payee, memo, ex, de, sig⟩ = false) := Lib.hid (by rw [hM.out, decide_eq_false q9]; simp)
                  go_wp2_with fail
                  exact bodyPost_ret (v := .bool false) (by simp [results, Tryz.results39, go_sem]) rfl ⟨by rw [HE.out], y0_ (y2_ HL2.out _)⟩
              · have q8b : decide ((payee.length : Int) ≤ 639) = false := by simp; omega
                have HE : Hid (w3_ ⟨am, st, hash, payee, memo, ex, de, sig⟩ = false) := Lib.hid (by rw [hM.out, decide_eq_false q8]; simp)
                go_wp2_with fail
                exact bodyPost_ret (v := .bool false) (by simp [results, Tryz.results39, go_sem]) rfl ⟨by rw [HE.out], y0_ (y2_ HL2.out _)⟩
            · have q7b : decide ((hash.length : Int) ≤ 639) = false := by simp; omega
              have HE : Hid (w3_ ⟨am, st, hash, payee, memo, ex, de, sig⟩ = false) := Lib.hid (by rw [hM.out, decide_eq_false q7]; simp)
              go_wp2_with fail
              exact bodyPost_ret (v := .bool false) (by simp [results, Tryz.results39, go_sem]) rfl ⟨by rw [HE.out], y0_ (y2_ HL2.out _)⟩
        · have q4b : ((H : Int) == 72) = false := by simp; omega
          have HE : Hid (w3_ ⟨am, st, hash, payee, memo, ex, de, sig⟩ = false) := Lib.hid (by rw [hM.out, decide_eq_false q4]; simp)
          go_wp2_with fail
          exact bodyPost_ret (v := .bool false) (by simp [results, Tryz.results39, go_sem]) rfl ⟨by rw [HE.out], y0_ (y2_ HL2.out _)⟩
    · have q2b : decide (st < 34359738368) = false := by simp; omega
      have HE : Hid (w3_ ⟨am, st, hash, payee, memo, ex, de, sig⟩ = false) := Lib.hid (by rw [hM.out, decide_eq_false q2]; simp)
      go_wp2_with fail
      exact bodyPost_ret (v := .bool false) (by simp [results, Tryz.results39, go_sem]) rfl ⟨by rw [HE.out], y0_ (y2_ HL2.out _)⟩
  · have q1b : decide (0 ≤ st) = false := by simp; omega
    have HE : Hid (w3_ ⟨am, st, hash, payee, memo, ex, de, sig⟩ = false) := Lib.hid (by rw [hM.out, decide_eq_false q1]; simp)
    go_wp2_with fail
    exact bodyPost_ret (v := .bool false) (by simp [results, Tryz.results39, go_sem]) rfl ⟨by rw [HE.out], y0_ (y2_ HL2.out _)⟩
def j4_ : List (Option Nat) := [some 49, some 50, some 51, some 52, some 53, some 54, some 55, some 56, some 57, some 58, some 59, some 60, some 61, some 62, some 63, some 64, some 65, some 66, some 67, some 68, some 69, some 70, some 71, some 72, some 73, some 74, some 75, some 76, some 77, some 16]
def tkGS (g1 c1 g2 c2 i : Nat) (t : S8) (kv wv : Int) : List (Option Value) := [some (.int .u32 (t.h)), some (.int .u32 (t.e)), some (.int .u32 (rotr 6 t.e)), some (.int .u32 (t.e)), some (.int .u32 (rotr 11 t.e)), some (.int .u32 (xo (rotr 6 t.e) (rotr 11 t.e))), some (.int .u32 (t.e)), some (.int .u32 (rotr 25 t.e)), some (.int .u32 (xo (xo (rotr 6 t.e) (rotr 11 t.e)) (rotr 25 t.e))), some (.int .u32 (u32 (t.h + xo (xo (rotr 6 t.e) (rotr 11 t.e)) (rotr 25 t.e)))), some (.int .u32 (t.e)), some (.int .u32 (t.f)), some (.int .u32 (an t.e t.f)), some (.int .u32 (t.e)), some (.int .u32 (nt t.e)), some (.int .u32 (t.g)), some (.int .u32 (an (nt t.e) t.g)), some (.int .u32 (xo (an t.e t.f) (an (nt t.e) t.g))), some (.int .u32 (u32 (u32 (t.h + xo (xo (rotr 6 t.e) (rotr 11 t.e)) (rotr 25 t.e)) + xo (an t.e t.f) (an (nt t.e) t.g)))), some (.slice (some ⟨g1, 0, none⟩) 64 c1), some (.int .i64 (i : Int)), some (.pointer (some ⟨g1, i, none⟩)), some (.int .u32 (kv)), some (.int .u32 (u32 (u32 (u32 (t.h + xo (xo (rotr 6 t.e) (rotr 11 t.e)) (rotr 25 t.e)) + xo (an t.e t.f) (an (nt t.e) t.g)) + kv))), some (.slice (some ⟨g2, 0, none⟩) 64 c2), some (.int .i64 (i : Int)), some (.pointer (some ⟨g2, i, none⟩)), some (.int .u32 (wv)), some (.int .u32 (rX t kv wv)), some (.int .u32 (rX t kv wv))]
section
variable {ops : Array Oper} {Q : Exit → Act → World → Prop} {a0 : Act} {I : World → Prop} {af : Array Edge} {ty : Nat} {pos : String} {at_ : Array TypeId} {g1 c1 g2 c2 i : Nat} {t : S8} {kv wv : Int}
theorem tk49 (o14 : a0.tmps[14]? = some (.int .u32 (t.h))) : y4_ Tryz.prog ops Q a0 j4_ I (GV (tkGS g1 c1 g2 c2 i t kv wv)) 0 { dst := some 49, op := .move (.tmp 14), type := ty, pos := pos, after := af, guard := none } := by
 intro a w hout hI hdep K hK
 rw [if_pos (by simp [Region.wanted])]
 have o14w := (hout 14 de_).trans o14
 clear hout hdep
 clear o14
 go_simp
 exact hK _ _ (z7_ rfl rs_) hI
theorem tk50 (o11 : a0.tmps[11]? = some (.int .u32 (t.e))) : y4_ Tryz.prog ops Q a0 j4_ I (GV (tkGS g1 c1 g2 c2 i t kv wv)) 1 { dst := some 50, op := .move (.tmp 11), type := ty, pos := pos, after := af, guard := none } := by
 intro a w hout hI hdep K hK
 rw [if_pos (by simp [Region.wanted])]
 have o11w := (hout 11 de_).trans o11
 clear hout hdep
 clear o11
 go_simp
 exact hK _ _ (z7_ rfl rs_) hI
theorem tk51 (h50 : (⟨1, .data⟩ : Edge) ∈ af.toList) (hC : ∀ w, I w → Calls Tryz.prog 163 #[.int .u32 (t.e), .int .i64 6] w fun e w' => e = .returned (.int .u32 (rotr 6 t.e)) ∧ I w') : y4_ Tryz.prog ops Q a0 j4_ I (GV (tkGS g1 c1 g2 c2 i t kv wv)) 2 { dst := some 51, op := .call { callee := .value (.func 163), args := #[.tmp 50, .const (.int .i64 6)], argTypes := at_ }, type := ty, pos := pos, after := af, guard := none } := by
 intro a w hout hI hdep K hK
 rw [if_pos (by simp [Region.wanted])]
 obtain ⟨v50, g50, e50⟩ := hdep ⟨1, .data⟩ h50 rfl
 have e50 := e50 50 rfl
 have g50 := g50 _ rfl
 subst g50
 clear hout hdep
 go_simp
 refine (hC w hI).mono ?_
 rintro e w1 ⟨rfl, hI1⟩
 exact hK _ _ (z7_ rfl rfl) hI1
theorem tk52 (o11 : a0.tmps[11]? = some (.int .u32 (t.e))) : y4_ Tryz.prog ops Q a0 j4_ I (GV (tkGS g1 c1 g2 c2 i t kv wv)) 3 { dst := some 52, op := .move (.tmp 11), type := ty, pos := pos, after := af, guard := none } := by
 intro a w hout hI hdep K hK
 rw [if_pos (by simp [Region.wanted])]
 have o11w := (hout 11 de_).trans o11
 clear hout hdep
 clear o11
 go_simp
 exact hK _ _ (z7_ rfl rs_) hI
theorem tk53 (h52 : (⟨3, .data⟩ : Edge) ∈ af.toList) (hC : ∀ w, I w → Calls Tryz.prog 163 #[.int .u32 (t.e), .int .i64 11] w fun e w' => e = .returned (.int .u32 (rotr 11 t.e)) ∧ I w') : y4_ Tryz.prog ops Q a0 j4_ I (GV (tkGS g1 c1 g2 c2 i t kv wv)) 4 { dst := some 53, op := .call { callee := .value (.func 163), args := #[.tmp 52, .const (.int .i64 11)], argTypes := at_ }, type := ty, pos := pos, after := af, guard := none } := by
 intro a w hout hI hdep K hK
 rw [if_pos (by simp [Region.wanted])]
 obtain ⟨v52, g52, e52⟩ := hdep ⟨3, .data⟩ h52 rfl
 have e52 := e52 52 rfl
 have g52 := g52 _ rfl
 subst g52
 clear hout hdep
 go_simp
 refine (hC w hI).mono ?_
 rintro e w1 ⟨rfl, hI1⟩
 exact hK _ _ (z7_ rfl rfl) hI1
theorem tk54 (h51 : (⟨2, .data⟩ : Edge) ∈ af.toList) (h53 : (⟨4, .data⟩ : Edge) ∈ af.toList) : y4_ Tryz.prog ops Q a0 j4_ I (GV (tkGS g1 c1 g2 c2 i t kv wv)) 5 { dst := some 54, op := .binOp .xor 121 (.tmp 51) (.tmp 53) 121, type := ty, pos := pos, after := af, guard := none } := by
 intro a w hout hI hdep K hK
 rw [if_pos (by simp [Region.wanted])]
 obtain ⟨v51, g51, e51⟩ := hdep ⟨2, .data⟩ h51 rfl
 have e51 := e51 51 rfl
 have g51 := g51 _ rfl
 subst g51
 obtain ⟨v53, g53, e53⟩ := hdep ⟨4, .data⟩ h53 rfl
 have e53 := e53 53 rfl
 have g53 := g53 _ rfl
 subst g53
 clear hout hdep
 go_simp
 exact hK _ _ (z7_ rfl rs_) hI
theorem tk55 (o11 : a0.tmps[11]? = some (.int .u32 (t.e))) : y4_ Tryz.prog ops Q a0 j4_ I (GV (tkGS g1 c1 g2 c2 i t kv wv)) 6 { dst := some 55, op := .move (.tmp 11), type := ty, pos := pos, after := af, guard := none } := by
 intro a w hout hI hdep K hK
 rw [if_pos (by simp [Region.wanted])]
 have o11w := (hout 11 de_).trans o11
 clear hout hdep
 clear o11
 go_simp
 exact hK _ _ (z7_ rfl rs_) hI
theorem tk56 (h55 : (⟨6, .data⟩ : Edge) ∈ af.toList) (hC : ∀ w, I w → Calls Tryz.prog 163 #[.int .u32 (t.e), .int .i64 25] w fun e w' => e = .returned (.int .u32 (rotr 25 t.e)) ∧ I w') : y4_ Tryz.prog ops Q a0 j4_ I (GV (tkGS g1 c1 g2 c2 i t kv wv)) 7 { dst := some 56, op := .call { callee := .value (.func 163), args := #[.tmp 55, .const (.int .i64 25)], argTypes := at_ }, type := ty, pos := pos, after := af, guard := none } := by
 intro a w hout hI hdep K hK
 rw [if_pos (by simp [Region.wanted])]
 obtain ⟨v55, g55, e55⟩ := hdep ⟨6, .data⟩ h55 rfl
 have e55 := e55 55 rfl
 have g55 := g55 _ rfl
 subst g55
 clear hout hdep
 go_simp
 refine (hC w hI).mono ?_
 rintro e w1 ⟨rfl, hI1⟩
 exact hK _ _ (z7_ rfl rfl) hI1
theorem tk57 (h54 : (⟨5, .data⟩ : Edge) ∈ af.toList) (h56 : (⟨7, .data⟩ : Edge) ∈ af.toList) : y4_ Tryz.prog ops Q a0 j4_ I (GV (tkGS g1 c1 g2 c2 i t kv wv)) 8 { dst := some 57, op := .binOp .xor 121 (.tmp 54) (.tmp 56) 121, type := ty, pos := pos, after := af, guard := none } := by
 intro a w hout hI hdep K hK
 rw [if_pos (by simp [Region.wanted])]
 obtain ⟨v54, g54, e54⟩ := hdep ⟨5, .data⟩ h54 rfl
 have e54 := e54 54 rfl
 have g54 := g54 _ rfl
 subst g54
 obtain ⟨v56, g56, e56⟩ := hdep ⟨7, .data⟩ h56 rfl
 have e56 := e56 56 rfl
 have g56 := g56 _ rfl
 subst g56
 clear hout hdep
 go_simp
 exact hK _ _ (z7_ rfl rs_) hI
theorem tk58 (h49 : (⟨0, .data⟩ : Edge) ∈ af.toList) (h57 : (⟨8, .data⟩ : Edge) ∈ af.toList) : y4_ Tryz.prog ops Q a0 j4_ I (GV (tkGS g1 c1 g2 c2 i t kv wv)) 9 { dst := some 58, op := .binOp .add 121 (.tmp 49) (.tmp 57) 121, type := ty, pos := pos, after := af, guard := none } := by
 intro a w hout hI hdep K hK
 rw [if_pos (by simp [Region.wanted])]
 obtain ⟨v49, g49, e49⟩ := hdep ⟨0, .data⟩ h49 rfl
 have e49 := e49 49 rfl
 have g49 := g49 _ rfl
 subst g49
 obtain ⟨v57, g57, e57⟩ := hdep ⟨8, .data⟩ h57 rfl
 have e57 := e57 57 rfl
 have g57 := g57 _ rfl
 subst g57
 clear hout hdep
 go_simp
 exact hK _ _ (z7_ rfl rs_) hI
theorem tk59 (o11 : a0.tmps[11]? = some (.int .u32 (t.e))) : y4_ Tryz.prog ops Q a0 j4_ I (GV (tkGS g1 c1 g2 c2 i t kv wv)) 10 { dst := some 59, op := .move (.tmp 11), type := ty, pos := pos, after := af, guard := none } := by
 intro a w hout hI hdep K hK
 rw [if_pos (by simp [Region.wanted])]
 have o11w := (hout 11 de_).trans o11
 clear hout hdep
 clear o11
 go_simp
 exact hK _ _ (z7_ rfl rs_) hI
theorem tk60 (o12 : a0.tmps[12]? = some (.int .u32 (t.f))) : y4_ Tryz.prog ops Q a0 j4_ I (GV (tkGS g1 c1 g2 c2 i t kv wv)) 11 { dst := some 60, op := .move (.tmp 12), type := ty, pos := pos, after := af, guard := none } := by
 intro a w hout hI hdep K hK
 rw [if_pos (by simp [Region.wanted])]
 have o12w := (hout 12 de_).trans o12
 clear hout hdep
 clear o12
 go_simp
 exact hK _ _ (z7_ rfl rs_) hI
theorem tk61 (h59 : (⟨10, .data⟩ : Edge) ∈ af.toList) (h60 : (⟨11, .data⟩ : Edge) ∈ af.toList) : y4_ Tryz.prog ops Q a0 j4_ I (GV (tkGS g1 c1 g2 c2 i t kv wv)) 12 { dst := some 61, op := .binOp .and 121 (.tmp 59) (.tmp 60) 121, type := ty, pos := pos, after := af, guard := none } := by
 intro a w hout hI hdep K hK
 rw [if_pos (by simp [Region.wanted])]
 obtain ⟨v59, g59, e59⟩ := hdep ⟨10, .data⟩ h59 rfl
 have e59 := e59 59 rfl
 have g59 := g59 _ rfl
 subst g59
 obtain ⟨v60, g60, e60⟩ := hdep ⟨11, .data⟩ h60 rfl
 have e60 := e60 60 rfl
 have g60 := g60 _ rfl
 subst g60
 clear hout hdep
 go_simp
 exact hK _ _ (z7_ rfl rs_) hI
theorem tk62 (o11 : a0.tmps[11]? = some (.int .u32 (t.e))) : y4_ Tryz.prog ops Q a0 j4_ I (GV (tkGS g1 c1 g2 c2 i t kv wv)) 13 { dst := some 62, op := .move (.tmp 11), type := ty, pos := pos, after := af, guard := none } := by
 intro a w hout hI hdep K hK
 rw [if_pos (by simp [Region.wanted])]
 have o11w := (hout 11 de_).trans o11
 clear hout hdep
 clear o11
 go_simp
 exact hK _ _ (z7_ rfl rs_) hI
theorem tk63 (h62 : (⟨13, .data⟩ : Edge) ∈ af.toList) : y4_ Tryz.prog ops Q a0 j4_ I (GV (tkGS g1 c1 g2 c2 i t kv wv)) 14 { dst := some 63, op := .unOp .xor 121 (.tmp 62), type := ty, pos := pos, after := af, guard := none } := by
 intro a w hout hI hdep K hK
 rw [if_pos (by simp [Region.wanted])]
 obtain ⟨v62, g62, e62⟩ := hdep ⟨13, .data⟩ h62 rfl
 have e62 := e62 62 rfl
 have g62 := g62 _ rfl
 subst g62
 clear hout hdep
 go_simp
 exact hK _ _ (z7_ rfl rfl) hI
theorem tk64 (o13 : a0.tmps[13]? = some (.int .u32 (t.g))) : y4_ Tryz.prog ops Q a0 j4_ I (GV (tkGS g1 c1 g2 c2 i t kv wv)) 15 { dst := some 64, op := .move (.tmp 13), type := ty, pos := pos, after := af, guard := none } := by
 intro a w hout hI hdep K hK
 rw [if_pos (by simp [Region.wanted])]
 have o13w := (hout 13 de_).trans o13
 clear hout hdep
 clear o13
 go_simp
 exact hK _ _ (z7_ rfl rs_) hI
theorem tk65 (h63 : (⟨14, .data⟩ : Edge) ∈ af.toList) (h64 : (⟨15, .data⟩ : Edge) ∈ af.toList) : y4_ Tryz.prog ops Q a0 j4_ I (GV (tkGS g1 c1 g2 c2 i t kv wv)) 16 { dst := some 65, op := .binOp .and 121 (.tmp 63) (.tmp 64) 121, type := ty, pos := pos, after := af, guard := none } := by
 intro a w hout hI hdep K hK
 rw [if_pos (by simp [Region.wanted])]
 obtain ⟨v63, g63, e63⟩ := hdep ⟨14, .data⟩ h63 rfl
 have e63 := e63 63 rfl
 have g63 := g63 _ rfl
 subst g63
 obtain ⟨v64, g64, e64⟩ := hdep ⟨15, .data⟩ h64 rfl
 have e64 := e64 64 rfl
 have g64 := g64 _ rfl
 subst g64
 clear hout hdep
 go_simp
 exact hK _ _ (z7_ rfl rs_) hI
theorem tk66 (h61 : (⟨12, .data⟩ : Edge) ∈ af.toList) (h65 : (⟨16, .data⟩ : Edge) ∈ af.toList) : y4_ Tryz.prog ops Q a0 j4_ I (GV (tkGS g1 c1 g2 c2 i t kv wv)) 17 { dst := some 66, op := .binOp .xor 121 (.tmp 61) (.tmp 65) 121, type := ty, pos := pos, after := af, guard := none } := by
 intro a w hout hI hdep K hK
 rw [if_pos (by simp [Region.wanted])]
 obtain ⟨v61, g61, e61⟩ := hdep ⟨12, .data⟩ h61 rfl
 have e61 := e61 61 rfl
 have g61 := g61 _ rfl
 subst g61
 obtain ⟨v65, g65, e65⟩ := hdep ⟨16, .data⟩ h65 rfl
 have e65 := e65 65 rfl
 have g65 := g65 _ rfl
 subst g65
 clear hout hdep
 go_simp
 exact hK _ _ (z7_ rfl rs_) hI
theorem tk67 (h58 : (⟨9, .data⟩ : Edge) ∈ af.toList) (h66 : (⟨17, .data⟩ : Edge) ∈ af.toList) : y4_ Tryz.prog ops Q a0 j4_ I (GV (tkGS g1 c1 g2 c2 i t kv wv)) 18 { dst := some 67, op := .binOp .add 121 (.tmp 58) (.tmp 66) 121, type := ty, pos := pos, after := af, guard := none } := by
 intro a w hout hI hdep K hK
 rw [if_pos (by simp [Region.wanted])]
 obtain ⟨v58, g58, e58⟩ := hdep ⟨9, .data⟩ h58 rfl
 have e58 := e58 58 rfl
 have g58 := g58 _ rfl
 subst g58
 obtain ⟨v66, g66, e66⟩ := hdep ⟨17, .data⟩ h66 rfl
 have e66 := e66 66 rfl
 have g66 := g66 _ rfl
 subst g66
 clear hout hdep
 go_simp
 exact hK _ _ (z7_ rfl rs_) hI
theorem tk68 (o5 : a0.tmps[5]? = some (.slice (some ⟨g1, 0, none⟩) 64 c1)) : y4_ Tryz.prog ops Q a0 j4_ I (GV (tkGS g1 c1 g2 c2 i t kv wv)) 19 { dst := some 68, op := .move (.tmp 5), type := ty, pos := pos, after := af, guard := none } := by
 intro a w hout hI hdep K hK
 rw [if_pos (by simp [Region.wanted])]
 have o5w := (hout 5 de_).trans o5
 clear hout hdep
 clear o5
 go_simp
 exact hK _ _ (z7_ rfl rs_) hI
theorem tk69 (o15 : a0.tmps[15]? = some (.int .i64 (i : Int))) : y4_ Tryz.prog ops Q a0 j4_ I (GV (tkGS g1 c1 g2 c2 i t kv wv)) 20 { dst := some 69, op := .move (.tmp 15), type := ty, pos := pos, after := af, guard := none } := by
 intro a w hout hI hdep K hK
 rw [if_pos (by simp [Region.wanted])]
 have o15w := (hout 15 de_).trans o15
 clear hout hdep
 clear o15
 go_simp
 exact hK _ _ (z7_ rfl rs_) hI
theorem tk70 (h68 : (⟨19, .data⟩ : Edge) ∈ af.toList) (h69 : (⟨20, .data⟩ : Edge) ∈ af.toList) (hi : (0 : Int) ≤ (i : Int) ∧ (i : Int) < 64) : y4_ Tryz.prog ops Q a0 j4_ I (GV (tkGS g1 c1 g2 c2 i t kv wv)) 21 { dst := some 70, op := .indexAddr 166 (.tmp 68) (.tmp 69), type := ty, pos := pos, after := af, guard := none } := by
 intro a w hout hI hdep K hK
 rw [if_pos (by simp [Region.wanted])]
 obtain ⟨v68, g68, e68⟩ := hdep ⟨19, .data⟩ h68 rfl
 have e68 := e68 68 rfl
 have g68 := g68 _ rfl
 subst g68
 obtain ⟨v69, g69, e69⟩ := hdep ⟨20, .data⟩ h69 rfl
 have e69 := e69 69 rfl
 have g69 := g69 _ rfl
 subst g69
 clear hout hdep
 go_simp
 exact hK _ _ (z7_ rfl rs_) hI
theorem tk71 (h70 : (⟨21, .data⟩ : Edge) ∈ af.toList) (hL : ∀ w, I w → w.cell? ⟨g1, i, none⟩ = some (.int .u32 (kv))) : y4_ Tryz.prog ops Q a0 j4_ I (GV (tkGS g1 c1 g2 c2 i t kv wv)) 22 { dst := some 71, op := .load 121 (.tmp 70), type := ty, pos := pos, after := af, guard := none } := by
 intro a w hout hI hdep K hK
 rw [if_pos (by simp [Region.wanted])]
 obtain ⟨v70, g70, e70⟩ := hdep ⟨21, .data⟩ h70 rfl
 have e70 := e70 70 rfl
 have g70 := g70 _ rfl
 subst g70
 have hLw := hL w hI
 clear hout hdep
 go_simp
 exact hK _ _ (z7_ rfl rs_) hI
theorem tk72 (h67 : (⟨18, .data⟩ : Edge) ∈ af.toList) (h71 : (⟨22, .data⟩ : Edge) ∈ af.toList) : y4_ Tryz.prog ops Q a0 j4_ I (GV (tkGS g1 c1 g2 c2 i t kv wv)) 23 { dst := some 72, op := .binOp .add 121 (.tmp 67) (.tmp 71) 121, type := ty, pos := pos, after := af, guard := none } := by
 intro a w hout hI hdep K hK
 rw [if_pos (by simp [Region.wanted])]
 obtain ⟨v67, g67, e67⟩ := hdep ⟨18, .data⟩ h67 rfl
 have e67 := e67 67 rfl
 have g67 := g67 _ rfl
 subst g67
 obtain ⟨v71, g71, e71⟩ := hdep ⟨22, .data⟩ h71 rfl
 have e71 := e71 71 rfl
 have g71 := g71 _ rfl
 subst g71
 clear hout hdep
 go_simp
 exact hK _ _ (z7_ rfl rs_) hI
theorem tk73 (o6 : a0.tmps[6]? = some (.slice (some ⟨g2, 0, none⟩) 64 c2)) : y4_ Tryz.prog ops Q a0 j4_ I (GV (tkGS g1 c1 g2 c2 i t kv wv)) 24 { dst := some 73, op := .move (.tmp 6), type := ty, pos := pos, after := af, guard := none } := by
 intro a w hout hI hdep K hK
 rw [if_pos (by simp [Region.wanted])]
 have o6w := (hout 6 de_).trans o6
 clear hout hdep
 clear o6
 go_simp
 exact hK _ _ (z7_ rfl rs_) hI
theorem tk74 (o15 : a0.tmps[15]? = some (.int .i64 (i : Int))) : y4_ Tryz.prog ops Q a0 j4_ I (GV (tkGS g1 c1 g2 c2 i t kv wv)) 25 { dst := some 74, op := .move (.tmp 15), type := ty, pos := pos, after := af, guard := none } := by
 intro a w hout hI hdep K hK
 rw [if_pos (by simp [Region.wanted])]
 have o15w := (hout 15 de_).trans o15
 clear hout hdep
 clear o15
 go_simp
 exact hK _ _ (z7_ rfl rs_) hI
theorem tk75 (h73 : (⟨24, .data⟩ : Edge) ∈ af.toList) (h74 : (⟨25, .data⟩ : Edge) ∈ af.toList) (hi : (0 : Int) ≤ (i : Int) ∧ (i : Int) < 64) : y4_ Tryz.prog ops Q a0 j4_ I (GV (tkGS g1 c1 g2 c2 i t kv wv)) 26 { dst := some 75, op := .indexAddr 166 (.tmp 73) (.tmp 74), type := ty, pos := pos, after := af, guard := none } := by
 intro a w hout hI hdep K hK
 rw [if_pos (by simp [Region.wanted])]
 obtain ⟨v73, g73, e73⟩ := hdep ⟨24, .data⟩ h73 rfl
 have e73 := e73 73 rfl
 have g73 := g73 _ rfl
 subst g73
 obtain ⟨v74, g74, e74⟩ := hdep ⟨25, .data⟩ h74 rfl
 have e74 := e74 74 rfl
 have g74 := g74 _ rfl
 subst g74
 clear hout hdep
 go_simp
 exact hK _ _ (z7_ rfl rs_) hI
theorem tk76 (h75 : (⟨26, .data⟩ : Edge) ∈ af.toList) (hL : ∀ w, I w → w.cell? ⟨g2, i, none⟩ = some (.int .u32 (wv))) : y4_ Tryz.prog ops Q a0 j4_ I (GV (tkGS g1 c1 g2 c2 i t kv wv)) 27 { dst := some 76, op := .load 121 (.tmp 75), type := ty, pos := pos, after := af, guard := none } := by
 intro a w hout hI hdep K hK
 rw [if_pos (by simp [Region.wanted])]
 obtain ⟨v75, g75, e75⟩ := hdep ⟨26, .data⟩ h75 rfl
 have e75 := e75 75 rfl
 have g75 := g75 _ rfl
 subst g75
 have hLw := hL w hI
 clear hout hdep
 go_simp
 exact hK _ _ (z7_ rfl rs_) hI
theorem tk77 (h72 : (⟨23, .data⟩ : Edge) ∈ af.toList) (h76 : (⟨27, .data⟩ : Edge) ∈ af.toList) : y4_ Tryz.prog ops Q a0 j4_ I (GV (tkGS g1 c1 g2 c2 i t kv wv)) 28 { dst := some 77, op := .binOp .add 121 (.tmp 72) (.tmp 76) 121, type := ty, pos := pos, after := af, guard := none } := by
 intro a w hout hI hdep K hK
 rw [if_pos (by simp [Region.wanted])]
 obtain ⟨v72, g72, e72⟩ := hdep ⟨23, .data⟩ h72 rfl
 have e72 := e72 72 rfl
 have g72 := g72 _ rfl
 subst g72
 obtain ⟨v76, g76, e76⟩ := hdep ⟨27, .data⟩ h76 rfl
 have e76 := e76 76 rfl
 have g76 := g76 _ rfl
 subst g76
 clear hout hdep
 go_simp
 exact hK _ _ (z7_ rfl rs_) hI
theorem tk16 (h77 : (⟨28, .data⟩ : Edge) ∈ af.toList) : y4_ Tryz.prog ops Q a0 j4_ I (GV (tkGS g1 c1 g2 c2 i t kv wv)) 29 { dst := some 16, op := .assign (.tmp 77), type := ty, pos := pos, after := af, guard := none } := by
 intro a w hout hI hdep K hK
 rw [if_pos (by simp [Region.wanted])]
 obtain ⟨v77, g77, e77⟩ := hdep ⟨28, .data⟩ h77 rfl
 have e77 := e77 77 rfl
 have g77 := g77 _ rfl
 subst g77
 clear hout hdep
 go_simp
 exact hK _ _ (z7_ rfl rs_) hI
end
theorem zsg_ (l : List UInt8) (hl : l.length = 64) : (zam_ l).length = 64 := by unfold zam_; rw [zej_, zdi_ 16 l om_]
theorem zsh_ (l : List Int) (hl : l.length = 64) (s : S8) (i : Nat) (h : i < 64) : zaV_ ((kTab.zip l).take (i + 1)) s = zek_ (zaV_ ((kTab.zip l).take i) s) (kTab.getD i 0) (l.getD i 0) := by
 have hk := zem_
 have h1 : i < (kTab.zip l).length := by rw [List.length_zip]; omega
 rw [List.take_succ_eq_append_getElem h1, List.getElem_zip, zif_, List.getD_eq_getElem?_getD, List.getD_eq_getElem?_getD, List.getElem?_eq_getElem om_, List.getElem?_eq_getElem om_]
 rfl
theorem zf0_ {v : Value} {l : List Int} {w : World} (h : InW v l w) : ∃ g c, v = .slice (some ⟨g, 0, none⟩) l.length c ∧ g < w.heap.size ∧ ∀ j, j < l.length → w.cell? ⟨g, j, none⟩ = some (.int .u32 (l.getD j 0)) := by
 obtain ⟨g, c, hv, _, hg, hc⟩ := h
 refine ⟨g, c, hv, hg, fun j hj => ?_⟩
 rw [hc j hj, List.getD_eq_getElem?_getD, List.getElem?_eq_getElem hj]
 rfl
theorem zsi_ (s : S8) (l : List UInt8) (hl : l.length = 64) (lv bv : Value) (w : World) (hlv : InW lv (s8L s) w) (hin : x8_ bv l w) :
  Calls Tryz.prog 132 #[lv, bv] w fun e w' => ∃ v, e = .returned v ∧ InW v (s8L (zbx_ s l)) w' ∧ Below w.heap.size w w' := by
 have HIN := Lib.hid hin
 have HLV := Lib.hid hlv
 obtain ⟨g0, c0, rfl, hg0, hc0⟩ := zf0_ hlv
 have h8 : (s8L s).length = 8 := rfl
 rw [h8] at hc0 HLV
 rw [h8]
 clear hin hlv h8
 go_enter Tryz.func132, Tryz.ntmps132
 go_wp2_with fail
 refine (zrk_ w).mono ?_
 rintro e w1 ⟨kvv, rfl, hk1, hb1⟩
 obtain ⟨g1, c1, rfl, hg1, hkc⟩ := zf0_ hk1
 have HK1 := Lib.hid hk1
 rw [zem_] at hkc
 rw [zem_]
 have HL1 : Hid (GL [] w w1) := Lib.hid (y6_ hb1 (y1_ _ _))
 go_wp2_with fail
 refine (zrj_ l hl bv w1 (za1_ HIN.out HL1.out)).mono ?_
 rintro e w2 ⟨wvv, rfl, hw2, hb2⟩
 have hwl := zsg_ l hl
 obtain ⟨g2, c2, rfl, hg2, hwc⟩ := zf0_ (zhp_ hw2 (fun e => by rw [e] at hwl; simp at hwl))
 rw [hwl] at hwc
 rw [hwl]
 have HL2 : Hid (GL [] w w2) := Lib.hid (y6_ hb2 HL1.out)
 have HG1 : Hid (g1 < w2.heap.size ∧ ∀ j, j < 64 → w2.cell? ⟨g1, j, none⟩ = some (.int .u32 (kTab.getD j 0))) := Lib.hid ⟨Nat.lt_of_lt_of_le hg1 hb2.size, fun j hj => zbF_ hg1 (hkc j hj) (y6_ hb2 (y1_ _ _))⟩
 have HG2 : Hid (g2 < w2.heap.size ∧ ∀ j, j < 64 → w2.cell? ⟨g2, j, none⟩ = some (.int .u32 ((zam_ l).getD j 0))) := Lib.hid ⟨hg2, hwc⟩
 have HWL := Lib.hid hwl
 have HG0 : Hid (∀ j, j < 8 → w2.cell? ⟨g0, j, none⟩ = some (.int .u32 ((s8L s).getD j 0))) := Lib.hid (fun j hj => zbF_ hg0 (hc0 j hj) HL2.out)
 have f0 : w2.cell? ⟨g0, 0, none⟩ = some (.int .u32 s.a) := HG0.out 0 om_
 have f1 : w2.cell? ⟨g0, 1, none⟩ = some (.int .u32 s.b) := HG0.out 1 om_
 have f2 : w2.cell? ⟨g0, 2, none⟩ = some (.int .u32 s.c) := HG0.out 2 om_
 have f3 : w2.cell? ⟨g0, 3, none⟩ = some (.int .u32 s.d) := HG0.out 3 om_
 have f4 : w2.cell? ⟨g0, 4, none⟩ = some (.int .u32 s.e) := HG0.out 4 om_
 have f5 : w2.cell? ⟨g0, 5, none⟩ = some (.int .u32 s.f) := HG0.out 5 om_
 have f6 : w2.cell? ⟨g0, 6, none⟩ = some (.int .u32 s.g) := HG0.out 6 om_
 have f7 : w2.cell? ⟨g0, 7, none⟩ = some (.int .u32 s.h) := HG0.out 7 om_
 clear hk1 hb1 hb2 hw2 hwl hwc hkc hg1 hg2 hc0 HL1
 go_wp2_with fail
 go_still (by kernel_rfl)
 clear f0 f1 f2 f3 f4 f5 f6 f7
 rw [show ({ heap := w2.heap, tape := w2.tape, drawn := w2.drawn + 1, os := w2.os, output := w2.output } : World) = w2.drew from rfl]
 have HL3 : Hid (GL [] w w2.drew) := Lib.hid (x9_ HL2.out)
 have HD3 : Hid (GL [] w2 w2.drew) := Lib.hid (x9_ (y1_ _ _))
 generalize w2.drew = w3 at *
 go_wp2_with fail
 go_loopw [7, 8, 9, 10, 11, 12, 13, 14, 15] (fun va vb vc vd ve vf vg vh iv wr => ∃ (i : Nat) (t : S8), i ≤ 64 ∧ va = .int .u32 t.a ∧ vb = .int .u32 t.b ∧ vc = .int .u32 t.c ∧ vd = .int .u32 t.d ∧ ve = .int .u32 t.e ∧ vf = .int .u32 t.f ∧ vg = .int .u32 t.g ∧ vh = .int .u32 t.h ∧ iv = .int .i64 (i : Int) ∧ Hid (t = zaV_ ((kTab.zip (zam_ l)).take i) s) ∧ Hid (GL [] w wr) ∧ Hid (GL [] w2 wr)) (fun _ _ _ _ _ _ _ _ iv _ => 64 - (intOf iv).toNat)
 case atStart => exact ⟨0, s, by omega, rfl, rfl, rfl, rfl, rfl, rfl, rfl, rfl, rfl, Lib.hid rfl, HL3, HD3⟩
 case round =>
  obtain ⟨i, t, hi, rfl, rfl, rfl, rfl, rfl, rfl, rfl, rfl, rfl, HT, HL, HD⟩ := hrel
  by_cases hlt : i < 64
  · have HS := Lib.hid (zsh_ (zam_ l) HWL.out s i hlt)
    rw [← HT.out] at HS
    have hk := HG1.out.2 i hlt
    have hw := HG2.out.2 i hlt
    have hg1 := HG1.out.1
    have hg2 := HG2.out.1
    have i64 : (0 : Int) ≤ (i : Int) ∧ (i : Int) < 64 := by omega
    have hb5 : decide ((i : Int) < 64) = true := by simp; omega
    have hb6 : (i : Int) < 64 := by omega
    generalize kTab.getD i 0 = kv at *
    generalize (zam_ l).getD i 0 = wv at *
    have hR : ∀ (n : Nat) (N : Int), N = n → 1 ≤ n → n ≤ 31 → ∀ (x : Int) (W : World), GL [] w2 W → Calls Tryz.prog 163 #[.int .u32 x, .int .i64 N] W fun e w' => e = .returned (.int .u32 (rotr n x)) ∧ GL [] w2 w' := fun n N hN h1 h2 x W hg => (zdr_ n N hN h1 h2 x W).mono (fun e w' hh => ⟨hh.1, by rw [hh.2]; exact x9_ hg⟩)
    go_upto_region 6 with fail
    refine zfm_ (ds := j4_) (I := (fun W => GL [] w2 W)) (G := GV (tkGS g1 c1 g2 c2 i t kv wv)) rfl rfl (zdf_ _ (by decide +kernel)) ?_ (by kernel_rfl) (x9_ HD.out) ?_ ?_
    · intro d hd
      exact Nat.lt_of_lt_of_le (zdg_ (n := 151) j4_ (by decide +kernel) d hd) si_
    · exact ⟨tk49 si_, tk50 si_, tk51 si_ (hR 6 6 rfl de_ de_ t.e), tk52 si_, tk53 si_ (hR 11 11 rfl de_ de_ t.e), tk54 si_ si_, tk55 si_, tk56 si_ (hR 25 25 rfl de_ de_ t.e), tk57 si_ si_, tk58 si_ si_, tk59 si_, tk60 si_, tk61 si_ si_, tk62 si_, tk63 si_, tk64 si_, tk65 si_ si_, tk66 si_ si_, tk67 si_ si_, tk68 si_, tk69 si_, tk70 si_ si_ i64, tk71 si_ (fun W h => zbF_ hg1 hk h), tk72 si_ si_, tk73 si_, tk74 si_, tk75 si_ si_ i64, tk76 si_ (fun W h => zbF_ hg2 hw h), tk77 si_ si_, tk16 si_, trivial⟩
    · intro vs w' hl hv hI
      have hl0 : vs.length = 30 := hl
      clear hl
      obtain ⟨x0, r0, rfl, hl1⟩ := z6_ hl0
      clear hl0
      obtain ⟨x1, r1, rfl, hl2⟩ := z6_ hl1
      clear hl1
      obtain ⟨x2, r2, rfl, hl3⟩ := z6_ hl2
      clear hl2
      obtain ⟨x3, r3, rfl, hl4⟩ := z6_ hl3
      clear hl3
      obtain ⟨x4, r4, rfl, hl5⟩ := z6_ hl4
      clear hl4
      obtain ⟨x5, r5, rfl, hl6⟩ := z6_ hl5
      clear hl5
      obtain ⟨x6, r6, rfl, hl7⟩ := z6_ hl6
      clear hl6
      obtain ⟨x7, r7, rfl, hl8⟩ := z6_ hl7
      clear hl7
      obtain ⟨x8, r8, rfl, hl9⟩ := z6_ hl8
      clear hl8
      obtain ⟨x9, r9, rfl, hl10⟩ := z6_ hl9
      clear hl9
      obtain ⟨x10, r10, rfl, hl11⟩ := z6_ hl10
      clear hl10
      obtain ⟨x11, r11, rfl, hl12⟩ := z6_ hl11
      clear hl11
      obtain ⟨x12, r12, rfl, hl13⟩ := z6_ hl12
      clear hl12
      obtain ⟨x13, r13, rfl, hl14⟩ := z6_ hl13
      clear hl13
      obtain ⟨x14, r14, rfl, hl15⟩ := z6_ hl14
      clear hl14
      obtain ⟨x15, r15, rfl, hl16⟩ := z6_ hl15
      clear hl15
      obtain ⟨x16, r16, rfl, hl17⟩ := z6_ hl16
      clear hl16
      obtain ⟨x17, r17, rfl, hl18⟩ := z6_ hl17
      clear hl17
      obtain ⟨x18, r18, rfl, hl19⟩ := z6_ hl18
      clear hl18
      obtain ⟨x19, r19, rfl, hl20⟩ := z6_ hl19
      clear hl19
      obtain ⟨x20, r20, rfl, hl21⟩ := z6_ hl20
      clear hl20
      obtain ⟨x21, r21, rfl, hl22⟩ := z6_ hl21
      clear hl21
      obtain ⟨x22, r22, rfl, hl23⟩ := z6_ hl22
      clear hl22
      obtain ⟨x23, r23, rfl, hl24⟩ := z6_ hl23
      clear hl23
      obtain ⟨x24, r24, rfl, hl25⟩ := z6_ hl24
      clear hl24
      obtain ⟨x25, r25, rfl, hl26⟩ := z6_ hl25
      clear hl25
      obtain ⟨x26, r26, rfl, hl27⟩ := z6_ hl26
      clear hl26
      obtain ⟨x27, r27, rfl, hl28⟩ := z6_ hl27
      clear hl27
      obtain ⟨x28, r28, rfl, hl29⟩ := z6_ hl28
      clear hl28
      obtain ⟨x29, r29, rfl, hl30⟩ := z6_ hl29
      clear hl29
      have e29 : x29 = .int .u32 (rX t kv wv) := hv 29 x29 si_ _ rfl
      subst e29
      obtain rfl : r29 = [] := List.eq_nil_of_length_eq_zero hl30
      clear hv
      simp only [j4_, q0_, List.setIfInBounds_toArray, List.set_cons_zero, List.set_cons_succ]
      have HL4 : Hid (GL [] w w') := Lib.hid (y7_ hI HL2.out si_)
      have HD4 := Lib.hid hI
      clear hI HL HD
      generalize hrx : rX t kv wv = rx at *
      go_wp2_with fail
      refine (zdr_ 2 2 rfl om_ om_ t.a _).mono ?_
      rintro e v0 ⟨rfl, rfl⟩
      go_wp2_with fail
      refine (zdr_ 13 13 rfl om_ om_ t.a _).mono ?_
      rintro e v1 ⟨rfl, rfl⟩
      go_wp2_with fail
      refine (zdr_ 22 22 rfl om_ om_ t.a _).mono ?_
      rintro e v2 ⟨rfl, rfl⟩
      go_wp2_with fail
      have HS2 : Hid (zaV_ (List.take (i + 1) (kTab.zip (zam_ l))) s = ⟨IntKind.u32.wrap (rx + IntKind.u32.wrap (bits .xor .u32 (bits .xor .u32 (rotr 2 t.a) (rotr 13 t.a)) (rotr 22 t.a) + bits .xor .u32 (bits .xor .u32 (bits .and .u32 t.a t.b) (bits .and .u32 t.a t.c)) (bits .and .u32 t.b t.c))), t.a, t.b, t.c, IntKind.u32.wrap (t.d + rx), t.e, t.f, t.g⟩) := Lib.hid (by rw [HS.out, ← hrx]; rfl)
      exact ⟨⟨i + 1, ⟨IntKind.u32.wrap (rx + IntKind.u32.wrap (bits .xor .u32 (bits .xor .u32 (rotr 2 t.a) (rotr 13 t.a)) (rotr 22 t.a) + bits .xor .u32 (bits .xor .u32 (bits .and .u32 t.a t.b) (bits .and .u32 t.a t.c)) (bits .and .u32 t.b t.c))), t.a, t.b, t.c, IntKind.u32.wrap (t.d + rx), t.e, t.f, t.g⟩, by omega, rfl, rfl, rfl, rfl, rfl, rfl, rfl, rfl, by go_num, Lib.hid HS2.out.symm, Lib.hid (x9_ (x9_ (x9_ HL4.out))), Lib.hid (x9_ (x9_ (x9_ HD4.out)))⟩, by simp [intOf]; omega⟩
  · obtain rfl : i = 64 := by omega
    clear hlt
    have HG3 : Hid (∀ j, j < 8 → wr.cell? ⟨g0, j, none⟩ = some (.int .u32 ((s8L s).getD j 0))) := Lib.hid (fun j hj => zbF_ (Nat.lt_of_lt_of_le hg0 HL2.out.size) (HG0.out j hj) HD.out)
    have f0 : wr.cell? ⟨g0, 0, none⟩ = some (.int .u32 s.a) := HG3.out 0 om_
    have f1 : wr.cell? ⟨g0, 1, none⟩ = some (.int .u32 s.b) := HG3.out 1 om_
    have f2 : wr.cell? ⟨g0, 2, none⟩ = some (.int .u32 s.c) := HG3.out 2 om_
    have f3 : wr.cell? ⟨g0, 3, none⟩ = some (.int .u32 s.d) := HG3.out 3 om_
    have f4 : wr.cell? ⟨g0, 4, none⟩ = some (.int .u32 s.e) := HG3.out 4 om_
    have f5 : wr.cell? ⟨g0, 5, none⟩ = some (.int .u32 s.f) := HG3.out 5 om_
    have f6 : wr.cell? ⟨g0, 6, none⟩ = some (.int .u32 s.g) := HG3.out 6 om_
    have f7 : wr.cell? ⟨g0, 7, none⟩ = some (.int .u32 s.h) := HG3.out 7 om_
    go_wp2_with fail
    go_still_tail 40, (by kernel_rfl)
    clear f0 f1 f2 f3 f4 f5 f6 f7
    rw [show ({ heap := wr.heap, tape := wr.tape, drawn := wr.drawn + 1, os := wr.os, output := wr.output } : World) = wr.drew from rfl]
    have HL4 : Hid (GL [] w wr.drew) := Lib.hid (x9_ HL.out)
    generalize wr.drew = w4 at *
    have HTT : Hid (t = zaV_ (kTab.zip (zam_ l)) s) := Lib.hid (by rw [HT.out, List.take_of_length_le (by rw [List.length_zip, zem_, HWL.out]; decide)])
    go_wp2_with fail
    refine bodyPost_ret (v := .slice (some ⟨w4.heap.size, 0, none⟩) 8 8) (by simp [results, Tryz.results132, go_sem]) rfl ⟨_, rfl, ?_, y0_ (y2_ HL4.out _)⟩
    have he : zbx_ s l = ⟨Go.Proofs.YtembdkodajichaaGreatDoor.u32 (s.a + t.a), Go.Proofs.YtembdkodajichaaGreatDoor.u32 (s.b + t.b), Go.Proofs.YtembdkodajichaaGreatDoor.u32 (s.c + t.c), Go.Proofs.YtembdkodajichaaGreatDoor.u32 (s.d + t.d), Go.Proofs.YtembdkodajichaaGreatDoor.u32 (s.e + t.e), Go.Proofs.YtembdkodajichaaGreatDoor.u32 (s.f + t.f), Go.Proofs.YtembdkodajichaaGreatDoor.u32 (s.g + t.g), Go.Proofs.YtembdkodajichaaGreatDoor.u32 (s.h + t.h)⟩ := by unfold zbx_; rw [← HTT.out]; rfl
    refine zhy_ (l := s8L (zbx_ s l)) (T := 121) ?_ (Nat.le_refl _)
    rw [he]
    simp only [wL, s8L, Go.Proofs.YtembdkodajichaaGreatDoor.u32, zcc_, List.map_cons, List.map_nil]
    exact y8_ w4 _
end Go.Proofs.YtembdkodajichaaGreatDoor
