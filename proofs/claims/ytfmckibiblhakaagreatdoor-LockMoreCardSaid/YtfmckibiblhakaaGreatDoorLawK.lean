/- The laws of layer 11: a number picked; LockNeeds. -/
import Derived.Test.YtfmckibiblhakaaGreatDoorLawL
set_option linter.unusedSimpArgs false
set_option linter.unusedVariables false
namespace Go.Proofs.YtfmckibiblhakaaGreatDoor
open Go.RowKit

def pickM (i n : Int) : Int := (i.tmod n + n).tmod n
theorem pickM_in (i n : Int) (hn : 0 < n) : 0 ≤ pickM i n ∧ pickM i n < n ∧ (i.tmod n + n).tmod n = (i.tmod n + n) % n ∧ -n < i.tmod n ∧ i.tmod n < n := by
  have h1 := Int.tmod_lt_of_pos i hn
  have h2 : -n < i.tmod n := by
    rw [Int.tmod_eq_emod]
    have := Int.emod_nonneg i (show n ≠ 0 by omega)
    split <;> omega
  have e := Int.tmod_eq_emod_of_nonneg (a := i.tmod n + n) (b := n) (by omega)
  unfold pickM
  rw [e]
  exact ⟨Int.emod_nonneg _ (by omega), Int.emod_lt_of_pos _ hn, rfl, h2, h1⟩

set_option maxRecDepth 100000 in
set_option maxHeartbeats 1000000 in
theorem lPickK4 (i : Int) (h0 : -9223372036854775808 ≤ i) (h1 : i ≤ 9223372036854775807) (w : World) :
    Calls Tryz.prog 30 #[.int .i64 i, .int .i64 4] w fun e w' => e = .returned (.int .i64 (pickM i 4)) ∧ w' = w := by
  obtain ⟨b0, b3, be, b2, b1⟩ := pickM_in i 4 (by omega)
  have H : Hid (pickM i 4 = (i.tmod 4 + 4) % 4) := by show pickM i 4 = _; unfold pickM; exact be
  clear b0 b3 be
  go_enter Tryz.func30, Tryz.ntmps30
  go_wp2
  go_ret
  exact ⟨by rw [H.out]; first | rfl | simp, (by first | exact Lib.hid rfl | exact Lib.hid trivial)⟩

set_option maxRecDepth 100000 in
set_option maxHeartbeats 1000000 in
theorem lPickK1000 (i : Int) (h0 : -9223372036854775808 ≤ i) (h1 : i ≤ 9223372036854775807) (w : World) :
    Calls Tryz.prog 30 #[.int .i64 i, .int .i64 1000] w fun e w' => e = .returned (.int .i64 (pickM i 1000)) ∧ w' = w := by
  obtain ⟨b0, b3, be, b2, b1⟩ := pickM_in i 1000 (by omega)
  have H : Hid (pickM i 1000 = (i.tmod 1000 + 1000) % 1000) := by show pickM i 1000 = _; unfold pickM; exact be
  clear b0 b3 be
  go_enter Tryz.func30, Tryz.ntmps30
  go_wp2
  go_ret
  exact ⟨by rw [H.out]; first | rfl | simp, (by first | exact Lib.hid rfl | exact Lib.hid trivial)⟩

theorem four_cell (K : Nat) (h : K < 4) : (#[Value.string (bs [110, 49, 59]), .string (bs [110, 50, 59]), .string (bs [110, 51, 59]), .string (bs [110, 52, 59])] : Array Value)[K]? = some (.string (bs (four K))) := by
  match K, h with
  | 0, _ => rfl
  | 1, _ => rfl
  | 2, _ => rfl
  | 3, _ => rfl
theorem any_take (l : List (List UInt8)) (t : List UInt8) (j : Nat) (h : j < l.length) : (l.take (j + 1)).any (· == t) = ((l.take j).any (· == t) || (l[j] == t)) := by
  rw [List.take_succ_eq_append_getElem h, List.any_append]
  simp

set_option maxRecDepth 100000 in
set_option maxHeartbeats 16000000 in
theorem lLockNeeds (k p0 n : Int) (rk : -9223372036854775808 ≤ k ∧ k ≤ 9223372036854775807) (rp : -9223372036854775808 ≤ p0 ∧ p0 ≤ 9223372036854775807) (rn : -9223372036854775808 ≤ n ∧ n ≤ 9223372036854775807) (sa pa : Option Addr) (sc pc : Nat) (sigs pres : List (List UInt8)) (after age : Int)
    (ra : -9223372036854775808 ≤ after ∧ after ≤ 9223372036854775807) (rg : -9223372036854775808 ≤ age ∧ age ≤ 9223372036854775807) (w : World) (hS : TermsAt (.slice sa sigs.length sc) sigs w) (hP : TermsAt (.slice pa pres.length pc) pres w)
    (hsn : sigs.length ≤ 9000000000000000000) (hpn : pres.length ≤ 9000000000000000000) (hst : ∀ s ∈ sigs, s.length ≤ 9000000000000000000) (hpt : ∀ s ∈ pres, s.length ≤ 9000000000000000000) (hG : GOk w) :
    Calls Tryz.prog 9 #[.int .i64 k, .int .i64 p0, .int .i64 n, .agg #[.slice sa sigs.length sc, .slice pa pres.length pc], .int .i64 after, .int .i64 age] w fun e w' => e = .returned (.bool true) ∧ Below w.heap.size w w' := by
  have HG0 := Lib.hid hG
  have HS0 := Lib.hid hS
  have HP0 := Lib.hid hP
  have HST := Lib.hid hst
  have HPT := Lib.hid hpt
  obtain ⟨k0, k1, _⟩ := pickM_in k 4 (by omega)
  obtain ⟨q0, q1, _⟩ := pickM_in p0 4 (by omega)
  obtain ⟨m0, m1, _⟩ := pickM_in n 1000 (by omega)
  have hpk := lPickK4 k rk.1 rk.2
  have hpp := lPickK4 p0 rp.1 rp.2
  have hpn2 := lPickK1000 n rn.1 rn.2
  generalize pickM k 4 = kz at *
  generalize pickM p0 4 = pz at *
  generalize pickM n 1000 = m at *
  obtain ⟨K, rfl⟩ : ∃ K : Nat, kz = (K : Int) := ⟨kz.toNat, by omega⟩
  obtain ⟨Q, rfl⟩ : ∃ Q : Nat, pz = (Q : Int) := ⟨pz.toNat, by omega⟩
  have hK : K < 4 := by omega
  have hQ : Q < 4 := by omega
  have hne := needs_plain ⟨K, hK⟩ ⟨Q, hQ⟩ m m0 (by omega) sigs pres after age
  simp only at hne
  unfold needL at hne
  obtain ⟨z, hz⟩ : ∃ z : Int, m.tdiv 2 = z := ⟨_, rfl⟩
  have hz2 : m / 2 = z := by rw [← hz, Int.tdiv_eq_ediv_of_nonneg m0]
  have hz3 : 0 ≤ z ∧ z ≤ 1000 := by omega
  rw [hz2] at hne
  have HNE := Lib.hid hne
  have HK := Lib.hid hpk
  have HQ := Lib.hid hpp
  have HN := Lib.hid hpn2
  clear hG hS hP hst hpt hpk hpp hpn2 hne hz2
  go_enter Tryz.func9, Tryz.ntmps9
  have hg0 : GL [] w w := gl_refl _ _
  have hs0 : w.heap.size ≤ w.heap.size := Nat.le_refl _
  go_wp2_with fail
  have HS1 := Lib.hid (termsAt_gl HS0.out (gl_alloc (gl_refl _ _) (.cells #[.slice sa sigs.length sc, .slice pa pres.length pc] 40)))
  have HP1 := Lib.hid (termsAt_gl HP0.out (gl_alloc (gl_refl _ _) (.cells #[.slice sa sigs.length sc, .slice pa pres.length pc] 40)))
  have HWB1 : Hid ((w.alloc (.cells #[.slice sa sigs.length sc, .slice pa pres.length pc] 40)).heap[w.heap.size]? = some (.cells #[.slice sa sigs.length sc, .slice pa pres.length pc] 40 (0, 0))) := by
    have h := blk_new w (.cells #[.slice sa sigs.length sc, .slice pa pres.length pc] 40)
    exact h
  have HG1 := Lib.hid (gok_alloc HG0.out (.cells #[.slice sa sigs.length sc, .slice pa pres.length pc] 40))
  have hg1 : GL [] w (w.alloc (.cells #[.slice sa sigs.length sc, .slice pa pres.length pc] 40)) := (gl_alloc hg0 (.cells #[.slice sa sigs.length sc, .slice pa pres.length pc] 40))
  have geWB : w.heap.size ≤ w.heap.size := by have := hg0.size; omega
  have gnWB : gN ≤ w.heap.size := by have := HG0.out.size; omega
  generalize (w.alloc (.cells #[.slice sa sigs.length sc, .slice pa pres.length pc] 40)) = w1 at *
  generalize w.heap.size = WB at *
  have hs1 : w.heap.size ≤ w1.heap.size := hg1.size
  refine (lLarge sa pa sc pc sigs pres [] _ HS1.out HP1.out hsn hpn).mono ?_
  rintro e w2 ⟨hb2, bl, rfl⟩
  have HWB2 := Lib.hid (blk_below HWB1.out hb2 (blk_lt HWB1.out))
  have HG2 := Lib.hid (gok_below HG1.out hb2)
  have hg2 : GL [] w w2 := gl_below hb2 hg1
  have hs2 : w.heap.size ≤ w2.heap.size := hg2.size
  have HS2 := Lib.hid (termsAt_gl HS1.out (gl_below hb2 (gl_refl _ _)))
  have HP2 := Lib.hid (termsAt_gl HP1.out (gl_below hb2 (gl_refl _ _)))
  cases bl with
  | true =>
    go_wp2_with fail
    go_ret
    exact ⟨rfl, gl_to_below hg2⟩
  | false =>
    go_wp2
    have HS3 := Lib.hid (termsAt_gl HS2.out (gl_alloc (gl_refl _ _) (.cells #[.string (bs [110, 49, 59]), .string (bs [110, 50, 59]), .string (bs [110, 51, 59]), .string (bs [110, 52, 59])] 22)))
    have HP3 := Lib.hid (termsAt_gl HP2.out (gl_alloc (gl_refl _ _) (.cells #[.string (bs [110, 49, 59]), .string (bs [110, 50, 59]), .string (bs [110, 51, 59]), .string (bs [110, 52, 59])] 22)))
    have HWB3 := Lib.hid (blk_alloc HWB2.out (.cells #[.string (bs [110, 49, 59]), .string (bs [110, 50, 59]), .string (bs [110, 51, 59]), .string (bs [110, 52, 59])] 22))
    have ltWBNM : WB < w2.heap.size := by have := blk_lt HWB2.out; omega
    have neWBNM : WB ≠ w2.heap.size := by omega
    have neNMWB : w2.heap.size ≠ WB := by omega
    have HNM3 : Hid ((w2.alloc (.cells #[.string (bs [110, 49, 59]), .string (bs [110, 50, 59]), .string (bs [110, 51, 59]), .string (bs [110, 52, 59])] 22)).heap[w2.heap.size]? = some (.cells #[.string (bs [110, 49, 59]), .string (bs [110, 50, 59]), .string (bs [110, 51, 59]), .string (bs [110, 52, 59])] 22 (0, 0))) := by
      have h := blk_new w2 (.cells #[.string (bs [110, 49, 59]), .string (bs [110, 50, 59]), .string (bs [110, 51, 59]), .string (bs [110, 52, 59])] 22)
      exact h
    have HG3 := Lib.hid (gok_alloc HG2.out (.cells #[.string (bs [110, 49, 59]), .string (bs [110, 50, 59]), .string (bs [110, 51, 59]), .string (bs [110, 52, 59])] 22))
    have hg3 : GL [] w (w2.alloc (.cells #[.string (bs [110, 49, 59]), .string (bs [110, 50, 59]), .string (bs [110, 51, 59]), .string (bs [110, 52, 59])] 22)) := (gl_alloc hg2 (.cells #[.string (bs [110, 49, 59]), .string (bs [110, 50, 59]), .string (bs [110, 51, 59]), .string (bs [110, 52, 59])] 22))
    have geNM : w.heap.size ≤ w2.heap.size := by have := hg2.size; omega
    have gnNM : gN ≤ w2.heap.size := by have := HG2.out.size; omega
    generalize (w2.alloc (.cells #[.string (bs [110, 49, 59]), .string (bs [110, 50, 59]), .string (bs [110, 51, 59]), .string (bs [110, 52, 59])] 22)) = w3 at *
    generalize w2.heap.size = NM at *
    have hs3 : w.heap.size ≤ w3.heap.size := hg3.size
    have cK := (blk_cell HNM3.out K).trans (four_cell K hK)
    have cP := (blk_cell HNM3.out Q).trans (four_cell Q hQ)
    have fNM := blk_free HNM3.out
    have iK : (K : Int) < 4 := by omega
    have iQ : (Q : Int) < 4 := by omega
    have lk3 : (four K).length = 3 := rfl
    have lp3 : (four Q).length = 3 := rfl
    generalize four K = kt at *
    generalize four Q = pt at *
    go_quiet ((go_at_call 30; first | with_reducible exact Calls.quiet_of_same (HK.out _) | with_reducible exact Calls.quiet_of_same (HQ.out _)))
    clear cK cP fNM iK iQ
    go_wp2_with fail
    refine (HN.out _).mono ?_
    rintro e w4 ⟨rfl, hw4⟩
    subst hw4
    go_wp2_with fail
    have HS5 := Lib.hid (termsAt_gl HS3.out (gl_drewN (gl_refl _ _) nq))
    have HP5 := Lib.hid (termsAt_gl HP3.out (gl_drewN (gl_refl _ _) nq))
    have HWB5 := Lib.hid (blk_drewN HWB3.out nq)
    have HG5 := Lib.hid (gok_drewN HG3.out nq)
    have hg5 : GL [] w (w3.drewN nq) := gl_drewN hg3 nq
    generalize w3.drewN nq = w5 at *
    refine (lkSig (80 :: kt) _).mono ?_
    rintro e w6 ⟨rfl, hb6⟩
    have HWB6 := Lib.hid (blk_below HWB5.out hb6 (blk_lt HWB5.out))
    have HG6 := Lib.hid (gok_below HG5.out hb6)
    have hg6 : GL [] w w6 := gl_below hb6 hg5
    have hs6 : w.heap.size ≤ w6.heap.size := hg6.size
    have HS6 := Lib.hid (termsAt_gl HS5.out (gl_below hb6 (gl_refl _ _)))
    have HP6 := Lib.hid (termsAt_gl HP5.out (gl_below hb6 (gl_refl _ _)))
    go_wp2_with fail
    refine (lkPre (72 :: pt) _).mono ?_
    rintro e w7 ⟨rfl, hb7⟩
    have HWB7 := Lib.hid (blk_below HWB6.out hb7 (blk_lt HWB6.out))
    have HG7 := Lib.hid (gok_below HG6.out hb7)
    have hg7 : GL [] w w7 := gl_below hb7 hg6
    have hs7 : w.heap.size ≤ w7.heap.size := hg7.size
    have HS7 := Lib.hid (termsAt_gl HS6.out (gl_below hb7 (gl_refl _ _)))
    have HP7 := Lib.hid (termsAt_gl HP6.out (gl_below hb7 (gl_refl _ _)))
    go_wp2_with fail
    refine (lkAfter m _).mono ?_
    rintro e w8 ⟨rfl, hb8⟩
    have HWB8 := Lib.hid (blk_below HWB7.out hb8 (blk_lt HWB7.out))
    have HG8 := Lib.hid (gok_below HG7.out hb8)
    have hg8 : GL [] w w8 := gl_below hb8 hg7
    have hs8 : w.heap.size ≤ w8.heap.size := hg8.size
    have HS8 := Lib.hid (termsAt_gl HS7.out (gl_below hb8 (gl_refl _ _)))
    have HP8 := Lib.hid (termsAt_gl HP7.out (gl_below hb8 (gl_refl _ _)))
    go_wp2_with fail
    refine (lkOlder z _).mono ?_
    rintro e w9 ⟨rfl, hb9⟩
    have HWB9 := Lib.hid (blk_below HWB8.out hb9 (blk_lt HWB8.out))
    have HG9 := Lib.hid (gok_below HG8.out hb9)
    have hg9 : GL [] w w9 := gl_below hb9 hg8
    have hs9 : w.heap.size ≤ w9.heap.size := hg9.size
    have HS9 := Lib.hid (termsAt_gl HS8.out (gl_below hb9 (gl_refl _ _)))
    have HP9 := Lib.hid (termsAt_gl HP8.out (gl_below hb9 (gl_refl _ _)))
    go_wp2_with fail
    have hrow10 : RowIn (fun _ => True) (w9.alloc (.cells #[.int .u8 1, .string (bs (80 :: kt)), .int .i64 0, .slice none 0 0, .int .u8 2, .string (bs (72 :: pt)), .int .i64 0, .slice none 0 0, .int .u8 3, .string (bs []), .int .i64 m, .slice none 0 0, .int .u8 4, .string (bs []), .int .i64 z, .slice none 0 0] 25)) [.mk 1 (80 :: kt) 0 [], .mk 2 (72 :: pt) 0 [], .mk 3 [] m [], .mk 4 [] z []] w9.heap.size 0 := alloc_row (rowV4 (inSig (80 :: kt) (by simp; omega) _ _) (inPre (72 :: pt) (by simp; omega) _ _) (inAfter m (by omega) (by omega) _ _) (inOlder z (by omega) (by omega) _ _))
    have HS10 := Lib.hid (termsAt_gl HS9.out (gl_alloc (gl_refl _ _) (.cells #[.int .u8 1, .string (bs (80 :: kt)), .int .i64 0, .slice none 0 0, .int .u8 2, .string (bs (72 :: pt)), .int .i64 0, .slice none 0 0, .int .u8 3, .string (bs []), .int .i64 m, .slice none 0 0, .int .u8 4, .string (bs []), .int .i64 z, .slice none 0 0] 25)))
    have HP10 := Lib.hid (termsAt_gl HP9.out (gl_alloc (gl_refl _ _) (.cells #[.int .u8 1, .string (bs (80 :: kt)), .int .i64 0, .slice none 0 0, .int .u8 2, .string (bs (72 :: pt)), .int .i64 0, .slice none 0 0, .int .u8 3, .string (bs []), .int .i64 m, .slice none 0 0, .int .u8 4, .string (bs []), .int .i64 z, .slice none 0 0] 25)))
    have HWB10 := Lib.hid (blk_alloc HWB9.out (.cells #[.int .u8 1, .string (bs (80 :: kt)), .int .i64 0, .slice none 0 0, .int .u8 2, .string (bs (72 :: pt)), .int .i64 0, .slice none 0 0, .int .u8 3, .string (bs []), .int .i64 m, .slice none 0 0, .int .u8 4, .string (bs []), .int .i64 z, .slice none 0 0] 25))
    have ltWBRB : WB < w9.heap.size := by have := blk_lt HWB9.out; omega
    have neWBRB : WB ≠ w9.heap.size := by omega
    have neRBWB : w9.heap.size ≠ WB := by omega
    have HRB10 : Hid ((w9.alloc (.cells #[.int .u8 1, .string (bs (80 :: kt)), .int .i64 0, .slice none 0 0, .int .u8 2, .string (bs (72 :: pt)), .int .i64 0, .slice none 0 0, .int .u8 3, .string (bs []), .int .i64 m, .slice none 0 0, .int .u8 4, .string (bs []), .int .i64 z, .slice none 0 0] 25)).heap[w9.heap.size]? = some (.cells #[.int .u8 1, .string (bs (80 :: kt)), .int .i64 0, .slice none 0 0, .int .u8 2, .string (bs (72 :: pt)), .int .i64 0, .slice none 0 0, .int .u8 3, .string (bs []), .int .i64 m, .slice none 0 0, .int .u8 4, .string (bs []), .int .i64 z, .slice none 0 0] 25 (0, 0))) := by
      have h := blk_new w9 (.cells #[.int .u8 1, .string (bs (80 :: kt)), .int .i64 0, .slice none 0 0, .int .u8 2, .string (bs (72 :: pt)), .int .i64 0, .slice none 0 0, .int .u8 3, .string (bs []), .int .i64 m, .slice none 0 0, .int .u8 4, .string (bs []), .int .i64 z, .slice none 0 0] 25)
      exact h
    have HG10 := Lib.hid (gok_alloc HG9.out (.cells #[.int .u8 1, .string (bs (80 :: kt)), .int .i64 0, .slice none 0 0, .int .u8 2, .string (bs (72 :: pt)), .int .i64 0, .slice none 0 0, .int .u8 3, .string (bs []), .int .i64 m, .slice none 0 0, .int .u8 4, .string (bs []), .int .i64 z, .slice none 0 0] 25))
    have hg10 : GL [] w (w9.alloc (.cells #[.int .u8 1, .string (bs (80 :: kt)), .int .i64 0, .slice none 0 0, .int .u8 2, .string (bs (72 :: pt)), .int .i64 0, .slice none 0 0, .int .u8 3, .string (bs []), .int .i64 m, .slice none 0 0, .int .u8 4, .string (bs []), .int .i64 z, .slice none 0 0] 25)) := (gl_alloc hg9 (.cells #[.int .u8 1, .string (bs (80 :: kt)), .int .i64 0, .slice none 0 0, .int .u8 2, .string (bs (72 :: pt)), .int .i64 0, .slice none 0 0, .int .u8 3, .string (bs []), .int .i64 m, .slice none 0 0, .int .u8 4, .string (bs []), .int .i64 z, .slice none 0 0] 25))
    have geRB : w.heap.size ≤ w9.heap.size := by have := hg9.size; omega
    have gnRB : gN ≤ w9.heap.size := by have := HG9.out.size; omega
    generalize (w9.alloc (.cells #[.int .u8 1, .string (bs (80 :: kt)), .int .i64 0, .slice none 0 0, .int .u8 2, .string (bs (72 :: pt)), .int .i64 0, .slice none 0 0, .int .u8 3, .string (bs []), .int .i64 m, .slice none 0 0, .int .u8 4, .string (bs []), .int .i64 z, .slice none 0 0] 25)) = w10 at *
    generalize w9.heap.size = RB at *
    have hs10 : w.heap.size ≤ w10.heap.size := hg10.size
    refine (lkAll [.mk 1 (80 :: kt) 0 [], .mk 2 (72 :: pt) 0 [], .mk 3 [] m [], .mk 4 [] z []] RB 0 _ _ (by simp) (by simp) _ (blk_lt HRB10.out) trivial hrow10).mono ?_
    rintro e w11 ⟨hb11, v11, rfl, hl11⟩
    obtain ⟨ad11, c11, rfl, _⟩ := lockIn_open hl11
    have HX11 := Lib.hid (lockIn_mono (q := fun _ => True) (fun _ _ _ => trivial) _ _ hl11)
    clear hl11 hrow10
    have HS11 := Lib.hid (termsAt_gl HS10.out (gl_below hb11 (gl_refl _ _)))
    have HP11 := Lib.hid (termsAt_gl HP10.out (gl_below hb11 (gl_refl _ _)))
    have HWB11 := Lib.hid (blk_below HWB10.out hb11 (blk_lt HWB10.out))
    have HG11 := Lib.hid (gok_below HG10.out hb11)
    have hg11 : GL [] w w11 := gl_below hb11 hg10
    have hs11 := hg11.size
    have fa1 := blk_cell HWB11.out
    have fb1 := blk_free HWB11.out
    have fl1 := blk_lt HWB11.out
    have flx1 : WB < w11.heap.size + 1 := by omega
    go_wp2_with fail
    clear fa1 fb1 fl1
    clear flx1
    have HS12 := Lib.hid (termsAt_gl HS11.out (gl_alloc (gl_refl _ _) (.cells #[.int .u8 5, .string (bs []), .int .i64 0, .slice ad11 ([.mk 1 (80 :: kt) 0 [], .mk 2 (72 :: pt) 0 [], .mk 3 [] m [], .mk 4 [] z []] : List LT).length c11] 25)))
    have HP12 := Lib.hid (termsAt_gl HP11.out (gl_alloc (gl_refl _ _) (.cells #[.int .u8 5, .string (bs []), .int .i64 0, .slice ad11 ([.mk 1 (80 :: kt) 0 [], .mk 2 (72 :: pt) 0 [], .mk 3 [] m [], .mk 4 [] z []] : List LT).length c11] 25)))
    have HX12 := Lib.hid (lockIn_gl (gl_alloc (gl_refl _ _) (.cells #[.int .u8 5, .string (bs []), .int .i64 0, .slice ad11 ([.mk 1 (80 :: kt) 0 [], .mk 2 (72 :: pt) 0 [], .mk 3 [] m [], .mk 4 [] z []] : List LT).length c11] 25)) _ _ HX11.out)
    have HWB12 := Lib.hid (blk_alloc HWB11.out (.cells #[.int .u8 5, .string (bs []), .int .i64 0, .slice ad11 ([.mk 1 (80 :: kt) 0 [], .mk 2 (72 :: pt) 0 [], .mk 3 [] m [], .mk 4 [] z []] : List LT).length c11] 25))
    have ltWBLB : WB < w11.heap.size := by have := blk_lt HWB11.out; omega
    have neWBLB : WB ≠ w11.heap.size := by omega
    have neLBWB : w11.heap.size ≠ WB := by omega
    have HLB12 : Hid ((w11.alloc (.cells #[.int .u8 5, .string (bs []), .int .i64 0, .slice ad11 ([.mk 1 (80 :: kt) 0 [], .mk 2 (72 :: pt) 0 [], .mk 3 [] m [], .mk 4 [] z []] : List LT).length c11] 25)).heap[w11.heap.size]? = some (.cells #[.int .u8 5, .string (bs []), .int .i64 0, .slice ad11 ([.mk 1 (80 :: kt) 0 [], .mk 2 (72 :: pt) 0 [], .mk 3 [] m [], .mk 4 [] z []] : List LT).length c11] 25 (0, 0))) := by
      have h := blk_new w11 (.cells #[.int .u8 5, .string (bs []), .int .i64 0, .slice ad11 ([.mk 1 (80 :: kt) 0 [], .mk 2 (72 :: pt) 0 [], .mk 3 [] m [], .mk 4 [] z []] : List LT).length c11] 25)
      exact h
    have HG12 := Lib.hid (gok_alloc HG11.out (.cells #[.int .u8 5, .string (bs []), .int .i64 0, .slice ad11 ([.mk 1 (80 :: kt) 0 [], .mk 2 (72 :: pt) 0 [], .mk 3 [] m [], .mk 4 [] z []] : List LT).length c11] 25))
    have hg12 : GL [] w (w11.alloc (.cells #[.int .u8 5, .string (bs []), .int .i64 0, .slice ad11 ([.mk 1 (80 :: kt) 0 [], .mk 2 (72 :: pt) 0 [], .mk 3 [] m [], .mk 4 [] z []] : List LT).length c11] 25)) := (gl_alloc hg11 (.cells #[.int .u8 5, .string (bs []), .int .i64 0, .slice ad11 ([.mk 1 (80 :: kt) 0 [], .mk 2 (72 :: pt) 0 [], .mk 3 [] m [], .mk 4 [] z []] : List LT).length c11] 25))
    have geLB : w.heap.size ≤ w11.heap.size := by have := hg11.size; omega
    have gnLB : gN ≤ w11.heap.size := by have := HG11.out.size; omega
    generalize (w11.alloc (.cells #[.int .u8 5, .string (bs []), .int .i64 0, .slice ad11 ([.mk 1 (80 :: kt) 0 [], .mk 2 (72 :: pt) 0 [], .mk 3 [] m [], .mk 4 [] z []] : List LT).length c11] 25)) = w12 at *
    generalize w11.heap.size = LB at *
    have hs12 : w.heap.size ≤ w12.heap.size := hg12.size
    go_wp2_with fail
    have fa2 := blk_cell HWB12.out
    have fb2 := blk_free HWB12.out
    have fl2 := blk_lt HWB12.out
    go_loopw [17, 19] (fun hv iv wr => ∃ j : Nat, j ≤ sigs.length ∧ iv = .int .i64 j ∧ hv = .bool ((sigs.take j).any (· == (83 :: (kt ++ [116, 49, 58, 109])))) ∧ Hid (wr = w12)) (fun _ iv _ => sigs.length - (intOf iv).toNat)
    case atStart => exact ⟨0, by omega, rfl, rfl, rfl⟩
    case round =>
      obtain ⟨j, hj, rfl, rfl, hwr⟩ := hrel
      obtain rfl : wr = w12 := hwr.out
      by_cases hlt : j < sigs.length
      · have i1 : (j : Int) < sigs.length := by omega
        rcases HS12.out with ⟨_, _, h0, h1⟩ | ⟨b, o, cc, h0, hb, hc⟩
        · subst h1; simp at hlt
        injection h0 with h01 h02 h03
        subst h01 h03
        have c0 := hc j _ (List.getElem?_eq_getElem hlt)
        have hat := any_take sigs (83 :: (kt ++ [116, 49, 58, 109])) j hlt
        have HAT := Lib.hid hat
        clear hat hc h02
        generalize hhb : (sigs.take j).any (· == (83 :: (kt ++ [116, 49, 58, 109]))) = hbv at *
        clear hhb
        generalize sigs[j] = sj at *
        cases hbv with
        | true =>
          go_wp2
          go_roundw
          case rel => exact ⟨j + 1, by omega, by go_num, by rw [HAT.out]; rfl, (by first | exact Lib.hid rfl | exact Lib.hid trivial)⟩
          case measure => simp [intOf]; omega
        | false =>
          by_cases he : sj = (83 :: (kt ++ [116, 49, 58, 109]))
          · subst he
            go_wp2
            go_roundw
            case rel => exact ⟨j + 1, by omega, by go_num, by rw [HAT.out]; first | rfl | simp, (by first | exact Lib.hid rfl | exact Lib.hid trivial)⟩
            case measure => simp [intOf]; omega
          · have he2 : (sj == (83 :: (kt ++ [116, 49, 58, 109]))) = false := by simpa using he
            go_wp2
            go_roundw
            case rel => exact ⟨j + 1, by omega, by go_num, by rw [HAT.out]; first | rfl | (simp [he2]; done) | simp [he], (by first | exact Lib.hid rfl | exact Lib.hid trivial)⟩
            case measure => simp [intOf]; omega
      · obtain rfl : j = sigs.length := by omega
        have i4 : decide ((sigs.length : Int) < sigs.length) = false := by simp
        rw [List.take_length]
        obtain ⟨wo, hwo⟩ : ∃ wo : World, wo = wr := ⟨_, rfl⟩
        subst hwo
        go_wp2
        clear fa2 fb2 fl2
        have fa3 := blk_cell HWB12.out
        have fb3 := blk_free HWB12.out
        have fl3 := blk_lt HWB12.out
        go_loopw [18, 20] (fun hv iv wr => ∃ j : Nat, j ≤ pres.length ∧ iv = .int .i64 j ∧ hv = .bool ((pres.take j).any (· == pt)) ∧ Hid (wr = wo)) (fun _ iv _ => pres.length - (intOf iv).toNat)
        case atStart => exact ⟨0, by omega, rfl, rfl, rfl⟩
        case round =>
          obtain ⟨j, hj, rfl, rfl, hwr⟩ := hrel
          obtain rfl : wr = wo := hwr.out
          by_cases hlt : j < pres.length
          · have i1 : (j : Int) < pres.length := by omega
            rcases HP12.out with ⟨_, _, h0, h1⟩ | ⟨b, o, cc, h0, hb, hc⟩
            · subst h1; simp at hlt
            injection h0 with h01 h02 h03
            subst h01 h03
            have c0 := hc j _ (List.getElem?_eq_getElem hlt)
            have hat := any_take pres pt j hlt
            have HAT := Lib.hid hat
            clear hat hc h02
            generalize hhb : (pres.take j).any (· == pt) = hbv at *
            clear hhb
            generalize pres[j] = sj at *
            cases hbv with
            | true =>
              go_wp2
              go_roundw
              case rel => exact ⟨j + 1, by omega, by go_num, by rw [HAT.out]; rfl, (by first | exact Lib.hid rfl | exact Lib.hid trivial)⟩
              case measure => simp [intOf]; omega
            | false =>
              by_cases he : sj = pt
              · subst he
                go_wp2
                go_roundw
                case rel => exact ⟨j + 1, by omega, by go_num, by rw [HAT.out]; first | rfl | simp, (by first | exact Lib.hid rfl | exact Lib.hid trivial)⟩
                case measure => simp [intOf]; omega
              · have he2 : (sj == pt) = false := by simpa using he
                go_wp2
                go_roundw
                case rel => exact ⟨j + 1, by omega, by go_num, by rw [HAT.out]; first | rfl | (simp [he2]; done) | simp [he], (by first | exact Lib.hid rfl | exact Lib.hid trivial)⟩
                case measure => simp [intOf]; omega
          · obtain rfl : j = pres.length := by omega
            have i4 : decide ((pres.length : Int) < pres.length) = false := by simp
            rw [List.take_length]
            have fa4 := blk_cell HLB12.out
            have fb4 := blk_free HLB12.out
            have fl4 := blk_lt HLB12.out
            unfold msgM at HNE
            generalize hhA : sigs.any (· == (83 :: (kt ++ [116, 49, 58, 109]))) = hA at *
            generalize hkN : pres.any (· == pt) = kN at *
            clear hhA hkN
            by_cases hp0 : sigs.length ≤ 16
            · skip
              have bb0 : decide ((sigs.length : Int) ≤ 16) = true := by simp; omega
              by_cases hp1 : pres.length ≤ 16
              · skip
                have bb1 : decide ((pres.length : Int) ≤ 16) = true := by simp; omega
                cases hA with
                | false =>
                  have HV : Hid (opensP sigs pres [116, 49, 58, 109] after age (.mk 5 [] 0 [.mk 1 (80 :: kt) 0 [], .mk 2 (72 :: pt) 0 [], .mk 3 [] m [], .mk 4 [] z []]) = false) := by
                    show _ = _
                    rw [HNE.out]
                    simp [hp0, hp1]
                  clear HNE
                  have fa5 := blk_cell HLB12.out
                  have fb5 := blk_free HLB12.out
                  have fl5 := blk_lt HLB12.out
                  go_wp2_with fail
                  refine (lkOpens (.mk 5 [] 0 [.mk 1 (80 :: kt) 0 [], .mk 2 (72 :: pt) 0 [], .mk 3 [] m [], .mk 4 [] z []]) _ _ _ _ sigs pres [116, 49, 58, 109] after age _ HX12.out HS12.out HP12.out hsn hpn HST.out HPT.out ra rg HG12.out).mono ?_
                  rintro e w13 ⟨rfl, hb13⟩
                  rw [HV.out]
                  clear fa3 fb3 fl3 fa4 fb4 fl4 fa5 fb5 fl5
                  have HWB13 := Lib.hid (blk_below HWB12.out hb13 (blk_lt HWB12.out))
                  have HLB13 := Lib.hid (blk_below HLB12.out hb13 (blk_lt HLB12.out))
                  have HG13 := Lib.hid (gok_below HG12.out hb13)
                  have hg13 : GL [] w w13 := gl_below hb13 hg12
                  have hs13 : w.heap.size ≤ w13.heap.size := hg13.size
                  have HS13 := Lib.hid (termsAt_gl HS12.out (gl_below hb13 (gl_refl _ _)))
                  have HP13 := Lib.hid (termsAt_gl HP12.out (gl_below hb13 (gl_refl _ _)))
                  have HX13 := Lib.hid (lockIn_gl (gl_below hb13 (gl_refl _ _)) _ _ HX12.out)
                  go_wp2_with fail
                  refine (lWorks11 _ HG13.out).mono ?_
                  rintro e wz ⟨rfl, hbz⟩
                  have HWBz := Lib.hid (blk_below HWB13.out hbz (blk_lt HWB13.out))
                  have HLBz := Lib.hid (blk_below HLB13.out hbz (blk_lt HLB13.out))
                  have HGz := Lib.hid (gok_below HG13.out hbz)
                  have hgz : GL [] w wz := gl_below hbz hg13
                  have hsz : w.heap.size ≤ wz.heap.size := hgz.size
                  have HSz := Lib.hid (termsAt_gl HS13.out (gl_below hbz (gl_refl _ _)))
                  have HPz := Lib.hid (termsAt_gl HP13.out (gl_below hbz (gl_refl _ _)))
                  have HXz := Lib.hid (lockIn_gl (gl_below hbz (gl_refl _ _)) _ _ HX13.out)
                  go_wp2_with fail
                  go_ret
                  exact ⟨rfl, gl_to_below hgz⟩
                | true =>
                  cases kN with
                  | false =>
                    have HV : Hid (opensP sigs pres [116, 49, 58, 109] after age (.mk 5 [] 0 [.mk 1 (80 :: kt) 0 [], .mk 2 (72 :: pt) 0 [], .mk 3 [] m [], .mk 4 [] z []]) = false) := by
                      show _ = _
                      rw [HNE.out]
                      simp [hp0, hp1]
                    clear HNE
                    have fa5 := blk_cell HLB12.out
                    have fb5 := blk_free HLB12.out
                    have fl5 := blk_lt HLB12.out
                    go_wp2_with fail
                    refine (lkOpens (.mk 5 [] 0 [.mk 1 (80 :: kt) 0 [], .mk 2 (72 :: pt) 0 [], .mk 3 [] m [], .mk 4 [] z []]) _ _ _ _ sigs pres [116, 49, 58, 109] after age _ HX12.out HS12.out HP12.out hsn hpn HST.out HPT.out ra rg HG12.out).mono ?_
                    rintro e w13 ⟨rfl, hb13⟩
                    rw [HV.out]
                    clear fa3 fb3 fl3 fa4 fb4 fl4 fa5 fb5 fl5
                    have HWB13 := Lib.hid (blk_below HWB12.out hb13 (blk_lt HWB12.out))
                    have HLB13 := Lib.hid (blk_below HLB12.out hb13 (blk_lt HLB12.out))
                    have HG13 := Lib.hid (gok_below HG12.out hb13)
                    have hg13 : GL [] w w13 := gl_below hb13 hg12
                    have hs13 : w.heap.size ≤ w13.heap.size := hg13.size
                    have HS13 := Lib.hid (termsAt_gl HS12.out (gl_below hb13 (gl_refl _ _)))
                    have HP13 := Lib.hid (termsAt_gl HP12.out (gl_below hb13 (gl_refl _ _)))
                    have HX13 := Lib.hid (lockIn_gl (gl_below hb13 (gl_refl _ _)) _ _ HX12.out)
                    go_wp2_with fail
                    refine (lWorks11 _ HG13.out).mono ?_
                    rintro e wz ⟨rfl, hbz⟩
                    have HWBz := Lib.hid (blk_below HWB13.out hbz (blk_lt HWB13.out))
                    have HLBz := Lib.hid (blk_below HLB13.out hbz (blk_lt HLB13.out))
                    have HGz := Lib.hid (gok_below HG13.out hbz)
                    have hgz : GL [] w wz := gl_below hbz hg13
                    have hsz : w.heap.size ≤ wz.heap.size := hgz.size
                    have HSz := Lib.hid (termsAt_gl HS13.out (gl_below hbz (gl_refl _ _)))
                    have HPz := Lib.hid (termsAt_gl HP13.out (gl_below hbz (gl_refl _ _)))
                    have HXz := Lib.hid (lockIn_gl (gl_below hbz (gl_refl _ _)) _ _ HX13.out)
                    go_wp2_with fail
                    go_ret
                    exact ⟨rfl, gl_to_below hgz⟩
                  | true =>
                    by_cases hp4 : m ≤ after
                    · skip
                      have bb4 : decide (m ≤ after) = true := by simpa using hp4
                      by_cases hp5 : z ≤ age
                      · skip
                        have bb5 : decide (z ≤ age) = true := by simpa using hp5
                        have HV : Hid (opensP sigs pres [116, 49, 58, 109] after age (.mk 5 [] 0 [.mk 1 (80 :: kt) 0 [], .mk 2 (72 :: pt) 0 [], .mk 3 [] m [], .mk 4 [] z []]) = true) := by
                          show _ = _
                          rw [HNE.out]
                          simp [hp0, hp1, hp4, hp5]
                        clear HNE
                        have fa5 := blk_cell HLB12.out
                        have fb5 := blk_free HLB12.out
                        have fl5 := blk_lt HLB12.out
                        go_wp2_with fail
                        refine (lkOpens (.mk 5 [] 0 [.mk 1 (80 :: kt) 0 [], .mk 2 (72 :: pt) 0 [], .mk 3 [] m [], .mk 4 [] z []]) _ _ _ _ sigs pres [116, 49, 58, 109] after age _ HX12.out HS12.out HP12.out hsn hpn HST.out HPT.out ra rg HG12.out).mono ?_
                        rintro e w13 ⟨rfl, hb13⟩
                        rw [HV.out]
                        clear fa3 fb3 fl3 fa4 fb4 fl4 fa5 fb5 fl5
                        have HWB13 := Lib.hid (blk_below HWB12.out hb13 (blk_lt HWB12.out))
                        have HLB13 := Lib.hid (blk_below HLB12.out hb13 (blk_lt HLB12.out))
                        have HG13 := Lib.hid (gok_below HG12.out hb13)
                        have hg13 : GL [] w w13 := gl_below hb13 hg12
                        have hs13 : w.heap.size ≤ w13.heap.size := hg13.size
                        have HS13 := Lib.hid (termsAt_gl HS12.out (gl_below hb13 (gl_refl _ _)))
                        have HP13 := Lib.hid (termsAt_gl HP12.out (gl_below hb13 (gl_refl _ _)))
                        have HX13 := Lib.hid (lockIn_gl (gl_below hb13 (gl_refl _ _)) _ _ HX12.out)
                        go_wp2_with fail
                        refine (lWorks11 _ HG13.out).mono ?_
                        rintro e wz ⟨rfl, hbz⟩
                        have HWBz := Lib.hid (blk_below HWB13.out hbz (blk_lt HWB13.out))
                        have HLBz := Lib.hid (blk_below HLB13.out hbz (blk_lt HLB13.out))
                        have HGz := Lib.hid (gok_below HG13.out hbz)
                        have hgz : GL [] w wz := gl_below hbz hg13
                        have hsz : w.heap.size ≤ wz.heap.size := hgz.size
                        have HSz := Lib.hid (termsAt_gl HS13.out (gl_below hbz (gl_refl _ _)))
                        have HPz := Lib.hid (termsAt_gl HP13.out (gl_below hbz (gl_refl _ _)))
                        have HXz := Lib.hid (lockIn_gl (gl_below hbz (gl_refl _ _)) _ _ HX13.out)
                        go_wp2_with fail
                        go_ret
                        exact ⟨rfl, gl_to_below hgz⟩
                      · skip
                        have bb5 : decide (z ≤ age) = false := by simpa using hp5
                        have HV : Hid (opensP sigs pres [116, 49, 58, 109] after age (.mk 5 [] 0 [.mk 1 (80 :: kt) 0 [], .mk 2 (72 :: pt) 0 [], .mk 3 [] m [], .mk 4 [] z []]) = false) := by
                          show _ = _
                          rw [HNE.out]
                          simp [hp0, hp1, hp4, hp5]
                        clear HNE
                        have fa5 := blk_cell HLB12.out
                        have fb5 := blk_free HLB12.out
                        have fl5 := blk_lt HLB12.out
                        go_wp2_with fail
                        refine (lkOpens (.mk 5 [] 0 [.mk 1 (80 :: kt) 0 [], .mk 2 (72 :: pt) 0 [], .mk 3 [] m [], .mk 4 [] z []]) _ _ _ _ sigs pres [116, 49, 58, 109] after age _ HX12.out HS12.out HP12.out hsn hpn HST.out HPT.out ra rg HG12.out).mono ?_
                        rintro e w13 ⟨rfl, hb13⟩
                        rw [HV.out]
                        clear fa3 fb3 fl3 fa4 fb4 fl4 fa5 fb5 fl5
                        have HWB13 := Lib.hid (blk_below HWB12.out hb13 (blk_lt HWB12.out))
                        have HLB13 := Lib.hid (blk_below HLB12.out hb13 (blk_lt HLB12.out))
                        have HG13 := Lib.hid (gok_below HG12.out hb13)
                        have hg13 : GL [] w w13 := gl_below hb13 hg12
                        have hs13 : w.heap.size ≤ w13.heap.size := hg13.size
                        have HS13 := Lib.hid (termsAt_gl HS12.out (gl_below hb13 (gl_refl _ _)))
                        have HP13 := Lib.hid (termsAt_gl HP12.out (gl_below hb13 (gl_refl _ _)))
                        have HX13 := Lib.hid (lockIn_gl (gl_below hb13 (gl_refl _ _)) _ _ HX12.out)
                        go_wp2_with fail
                        refine (lWorks11 _ HG13.out).mono ?_
                        rintro e wz ⟨rfl, hbz⟩
                        have HWBz := Lib.hid (blk_below HWB13.out hbz (blk_lt HWB13.out))
                        have HLBz := Lib.hid (blk_below HLB13.out hbz (blk_lt HLB13.out))
                        have HGz := Lib.hid (gok_below HG13.out hbz)
                        have hgz : GL [] w wz := gl_below hbz hg13
                        have hsz : w.heap.size ≤ wz.heap.size := hgz.size
                        have HSz := Lib.hid (termsAt_gl HS13.out (gl_below hbz (gl_refl _ _)))
                        have HPz := Lib.hid (termsAt_gl HP13.out (gl_below hbz (gl_refl _ _)))
                        have HXz := Lib.hid (lockIn_gl (gl_below hbz (gl_refl _ _)) _ _ HX13.out)
                        go_wp2_with fail
                        go_ret
                        exact ⟨rfl, gl_to_below hgz⟩
                    · skip
                      have bb4 : decide (m ≤ after) = false := by simpa using hp4
                      have HV : Hid (opensP sigs pres [116, 49, 58, 109] after age (.mk 5 [] 0 [.mk 1 (80 :: kt) 0 [], .mk 2 (72 :: pt) 0 [], .mk 3 [] m [], .mk 4 [] z []]) = false) := by
                        show _ = _
                        rw [HNE.out]
                        simp [hp0, hp1, hp4]
                      clear HNE
                      have fa5 := blk_cell HLB12.out
                      have fb5 := blk_free HLB12.out
                      have fl5 := blk_lt HLB12.out
                      go_wp2_with fail
                      refine (lkOpens (.mk 5 [] 0 [.mk 1 (80 :: kt) 0 [], .mk 2 (72 :: pt) 0 [], .mk 3 [] m [], .mk 4 [] z []]) _ _ _ _ sigs pres [116, 49, 58, 109] after age _ HX12.out HS12.out HP12.out hsn hpn HST.out HPT.out ra rg HG12.out).mono ?_
                      rintro e w13 ⟨rfl, hb13⟩
                      rw [HV.out]
                      clear fa3 fb3 fl3 fa4 fb4 fl4 fa5 fb5 fl5
                      have HWB13 := Lib.hid (blk_below HWB12.out hb13 (blk_lt HWB12.out))
                      have HLB13 := Lib.hid (blk_below HLB12.out hb13 (blk_lt HLB12.out))
                      have HG13 := Lib.hid (gok_below HG12.out hb13)
                      have hg13 : GL [] w w13 := gl_below hb13 hg12
                      have hs13 : w.heap.size ≤ w13.heap.size := hg13.size
                      have HS13 := Lib.hid (termsAt_gl HS12.out (gl_below hb13 (gl_refl _ _)))
                      have HP13 := Lib.hid (termsAt_gl HP12.out (gl_below hb13 (gl_refl _ _)))
                      have HX13 := Lib.hid (lockIn_gl (gl_below hb13 (gl_refl _ _)) _ _ HX12.out)
                      go_wp2_with fail
                      refine (lWorks11 _ HG13.out).mono ?_
                      rintro e wz ⟨rfl, hbz⟩
                      have HWBz := Lib.hid (blk_below HWB13.out hbz (blk_lt HWB13.out))
                      have HLBz := Lib.hid (blk_below HLB13.out hbz (blk_lt HLB13.out))
                      have HGz := Lib.hid (gok_below HG13.out hbz)
                      have hgz : GL [] w wz := gl_below hbz hg13
                      have hsz : w.heap.size ≤ wz.heap.size := hgz.size
                      have HSz := Lib.hid (termsAt_gl HS13.out (gl_below hbz (gl_refl _ _)))
                      have HPz := Lib.hid (termsAt_gl HP13.out (gl_below hbz (gl_refl _ _)))
                      have HXz := Lib.hid (lockIn_gl (gl_below hbz (gl_refl _ _)) _ _ HX13.out)
                      go_wp2_with fail
                      go_ret
                      exact ⟨rfl, gl_to_below hgz⟩
              · skip
                have bb1 : decide ((pres.length : Int) ≤ 16) = false := by simp; omega
                have HV : Hid (opensP sigs pres [116, 49, 58, 109] after age (.mk 5 [] 0 [.mk 1 (80 :: kt) 0 [], .mk 2 (72 :: pt) 0 [], .mk 3 [] m [], .mk 4 [] z []]) = false) := by
                  show _ = _
                  rw [HNE.out]
                  simp [hp0, hp1]
                clear HNE
                have fa5 := blk_cell HLB12.out
                have fb5 := blk_free HLB12.out
                have fl5 := blk_lt HLB12.out
                go_wp2_with fail
                refine (lkOpens (.mk 5 [] 0 [.mk 1 (80 :: kt) 0 [], .mk 2 (72 :: pt) 0 [], .mk 3 [] m [], .mk 4 [] z []]) _ _ _ _ sigs pres [116, 49, 58, 109] after age _ HX12.out HS12.out HP12.out hsn hpn HST.out HPT.out ra rg HG12.out).mono ?_
                rintro e w13 ⟨rfl, hb13⟩
                rw [HV.out]
                clear fa3 fb3 fl3 fa4 fb4 fl4 fa5 fb5 fl5
                have HWB13 := Lib.hid (blk_below HWB12.out hb13 (blk_lt HWB12.out))
                have HLB13 := Lib.hid (blk_below HLB12.out hb13 (blk_lt HLB12.out))
                have HG13 := Lib.hid (gok_below HG12.out hb13)
                have hg13 : GL [] w w13 := gl_below hb13 hg12
                have hs13 : w.heap.size ≤ w13.heap.size := hg13.size
                have HS13 := Lib.hid (termsAt_gl HS12.out (gl_below hb13 (gl_refl _ _)))
                have HP13 := Lib.hid (termsAt_gl HP12.out (gl_below hb13 (gl_refl _ _)))
                have HX13 := Lib.hid (lockIn_gl (gl_below hb13 (gl_refl _ _)) _ _ HX12.out)
                go_wp2_with fail
                refine (lWorks11 _ HG13.out).mono ?_
                rintro e wz ⟨rfl, hbz⟩
                have HWBz := Lib.hid (blk_below HWB13.out hbz (blk_lt HWB13.out))
                have HLBz := Lib.hid (blk_below HLB13.out hbz (blk_lt HLB13.out))
                have HGz := Lib.hid (gok_below HG13.out hbz)
                have hgz : GL [] w wz := gl_below hbz hg13
                have hsz : w.heap.size ≤ wz.heap.size := hgz.size
                have HSz := Lib.hid (termsAt_gl HS13.out (gl_below hbz (gl_refl _ _)))
                have HPz := Lib.hid (termsAt_gl HP13.out (gl_below hbz (gl_refl _ _)))
                have HXz := Lib.hid (lockIn_gl (gl_below hbz (gl_refl _ _)) _ _ HX13.out)
                go_wp2_with fail
                go_ret
                exact ⟨rfl, gl_to_below hgz⟩
            · skip
              have bb0 : decide ((sigs.length : Int) ≤ 16) = false := by simp; omega
              have HV : Hid (opensP sigs pres [116, 49, 58, 109] after age (.mk 5 [] 0 [.mk 1 (80 :: kt) 0 [], .mk 2 (72 :: pt) 0 [], .mk 3 [] m [], .mk 4 [] z []]) = false) := by
                show _ = _
                rw [HNE.out]
                simp [hp0]
              clear HNE
              have fa5 := blk_cell HLB12.out
              have fb5 := blk_free HLB12.out
              have fl5 := blk_lt HLB12.out
              go_wp2_with fail
              refine (lkOpens (.mk 5 [] 0 [.mk 1 (80 :: kt) 0 [], .mk 2 (72 :: pt) 0 [], .mk 3 [] m [], .mk 4 [] z []]) _ _ _ _ sigs pres [116, 49, 58, 109] after age _ HX12.out HS12.out HP12.out hsn hpn HST.out HPT.out ra rg HG12.out).mono ?_
              rintro e w13 ⟨rfl, hb13⟩
              rw [HV.out]
              clear fa3 fb3 fl3 fa4 fb4 fl4 fa5 fb5 fl5
              have HWB13 := Lib.hid (blk_below HWB12.out hb13 (blk_lt HWB12.out))
              have HLB13 := Lib.hid (blk_below HLB12.out hb13 (blk_lt HLB12.out))
              have HG13 := Lib.hid (gok_below HG12.out hb13)
              have hg13 : GL [] w w13 := gl_below hb13 hg12
              have hs13 : w.heap.size ≤ w13.heap.size := hg13.size
              have HS13 := Lib.hid (termsAt_gl HS12.out (gl_below hb13 (gl_refl _ _)))
              have HP13 := Lib.hid (termsAt_gl HP12.out (gl_below hb13 (gl_refl _ _)))
              have HX13 := Lib.hid (lockIn_gl (gl_below hb13 (gl_refl _ _)) _ _ HX12.out)
              go_wp2_with fail
              refine (lWorks11 _ HG13.out).mono ?_
              rintro e wz ⟨rfl, hbz⟩
              have HWBz := Lib.hid (blk_below HWB13.out hbz (blk_lt HWB13.out))
              have HLBz := Lib.hid (blk_below HLB13.out hbz (blk_lt HLB13.out))
              have HGz := Lib.hid (gok_below HG13.out hbz)
              have hgz : GL [] w wz := gl_below hbz hg13
              have hsz : w.heap.size ≤ wz.heap.size := hgz.size
              have HSz := Lib.hid (termsAt_gl HS13.out (gl_below hbz (gl_refl _ _)))
              have HPz := Lib.hid (termsAt_gl HP13.out (gl_below hbz (gl_refl _ _)))
              have HXz := Lib.hid (lockIn_gl (gl_below hbz (gl_refl _ _)) _ _ HX13.out)
              go_wp2_with fail
              go_ret
              exact ⟨rfl, gl_to_below hgz⟩

end Go.Proofs.YtfmckibiblhakaaGreatDoor
