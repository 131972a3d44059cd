/- The document's layer 3: is there a rule that makes a term of what can be made. -/
import Derived.Test.YtdipkblmcloifaaGreatDoorR3C
set_option linter.unusedSimpArgs false
set_option linter.unusedVariables false
namespace Go.Proofs.YtdipkblmcloifaaGreatDoor
open Go.RowKit

theorem agr_one (K : List UInt8 → Bool) {x j : List UInt8} (hj : right j = true) : agrB K x j = ((oneT 80 j).2 == 0 && K x && K (oneT 80 j).1) := by
  cases hr : right (80 :: j) with
  | true =>
    have h1 := one_pub_of hj hr
    have h2 := (one_pub h1).1
    have h3 : pubT j = (80 :: j, 0) := by unfold pubT made; rw [if_pos hj, key_self hr, if_pos hr]
    unfold agrB
    rw [h3, h1, h2]
    rfl
  | false =>
    have h1 : ((oneT 80 j).2 == 0) = false := by
      cases h : ((oneT 80 j).2 == 0) with
      | false => rfl
      | true => have := (one_pub (by simpa using h)).2; rw [hr] at this; cases this
    have h2 : ((pubT j).2 == 0 && head (pubT j).1 == 80) = false := by
      cases h : ((pubT j).2 == 0 && head (pubT j).1 == 80) with
      | false => rfl
      | true => have := (pub_plain h).2.1; rw [hr] at this; cases this
    unfold agrB
    rw [h1, h2]
    rfl
theorem makes_rest (K : List UInt8 → Bool) {t : List UInt8} {s : Sh} (hr : rt t = some s) (h110 : s.op.toNat ≠ 110) (h88 : s.op.toNat ≠ 88) (h80 : s.op.toNat ≠ 80) : makesB K t = (s.kids.all K || ((secT t).isSome && K ((secT t).getD []))) := by
  rw [makes_some K hr, if_neg h110, if_neg h88]
  by_cases hp : s.op.toNat = 80 ∨ s.op.toNat = 87 ∨ s.op.toNat = 76
  · rw [if_pos hp, show (s.op.toNat != 80) = true by simp [h80]]
    cases secT t with
    | none => simp
    | some u => simp [Bool.or_comm]
  · rw [if_neg hp, show secT t = none by rw [secT_eq hr, if_neg (fun h => hp (.inl h)), if_neg (fun h => hp (.inr (.inl h))), if_neg (fun h => hp (.inr (.inr h)))]]
    simp
theorem makes_pub (K : List UInt8 → Bool) {t : List UInt8} {s : Sh} (hr : rt t = some s) (h80 : s.op.toNat = 80) : makesB K t = ((secT t).isSome && K ((secT t).getD [])) := by
  rw [makes_some K hr, if_neg (by omega), if_neg (by omega), if_pos (.inl h80), show (s.op.toNat != 80) = false by simp [h80]]
  cases secT t <;> simp
theorem makes_kids2 (K : List UInt8 → Bool) {t : List UInt8} {s : Sh} (hr : rt t = some s) (h : s.op.toNat = 116 ∨ s.op.toNat = 84 ∨ s.op.toNat = 72 ∨ s.op.toNat = 83 ∨ s.op.toNat = 66 ∨ s.op.toNat = 68 ∨ s.op.toNat = 86 ∨ s.op.toNat = 75) : makesB K t = s.kids.all K := by
  rw [makes_some K hr, if_neg (by omega), if_neg (by omega), if_neg (by omega)]
theorem all_snoc (K : List UInt8 → Bool) (l : List (List UInt8)) (i : Nat) (x : List UInt8) (h : l[i]? = some x) : (l.take (i + 1)).all K = ((l.take i).all K && K x) := by
  rw [List.take_add_one, h, List.all_append]; simp

set_option maxRecDepth 100000 in
set_option maxHeartbeats 4000000 in
theorem r3Makes (M : List (List UInt8)) (hM : M.length ≤ 9000000000000000000) (t : List UInt8) (ht : right t = true) (v : Value) (w : World) (hv : TermsAt v M w) :
    Calls Tryz.prog 59 #[v, .string (bs t)] w fun e w' => e = .returned (.bool (makesB M.contains t)) ∧ Below w.heap.size w w' := by
  obtain ⟨va, vc, rfl, _⟩ := termsAt_sp hv
  obtain ⟨s, hr⟩ := right_some ht
  have htl := (right_len ht).2
  have hkl := kids_len hr
  have HV := Lib.hid hv
  have HR := Lib.hid hr
  have HKR := Lib.hid (rt_kids hr)
  clear hv hr ht
  go_enter Tryz.func59, Tryz.ntmps59
  go_wp2_with fail
  refine (refOpen t (by omega) _).mono ?_
  rintro e w1 hp
  rw [HR.out] at hp
  obtain ⟨ad, kn, kc, rfl, hown, hb1⟩ := hp
  obtain ⟨hts, hkn, _⟩ := own_terms hown
  subst hkn
  have HP := Lib.hid (blk_new w1 (.cells #[.int .u8 s.op.toNat, .int .i64 (numOf s), .string (bs s.text), .slice ad s.kids.length kc] 63))
  have HK := Lib.hid (termsAt_glx hts (gl_alloc (gl_refl [] _) (.cells #[.int .u8 s.op.toNat, .int .i64 (numOf s), .string (bs s.text), .slice ad s.kids.length kc] 63)) (by simp))
  have HV1 := Lib.hid (termsAt_glx HV.out (gl_alloc (gl_below hb1 (gl_refl [] _)) (.cells #[.int .u8 s.op.toNat, .int .i64 (numOf s), .string (bs s.text), .slice ad s.kids.length kc] 63)) (by simp))
  have hg1 : GL [] w (w1.alloc (.cells #[.int .u8 s.op.toNat, .int .i64 (numOf s), .string (bs s.text), .slice ad s.kids.length kc] 63)) := gl_alloc (gl_below hb1 (gl_refl _ _)) _
  clear hown hts hb1
  go_wp2_with fail
  generalize w1.alloc (.cells #[.int .u8 s.op.toNat, .int .i64 (numOf s), .string (bs s.text), .slice ad s.kids.length kc] 63) = v1 at *
  generalize w1.heap.size = B at *
  obtain ⟨u0, u1, hku, hkd⟩ := termsAt_sp HK.out
  have HKD := Lib.hid hkd
  injection hku with hku1 hku2 hku3
  subst hku1 hku3
  clear hkd
  go_loopw [7, 8] (fun bv iv wr => ∃ k : Nat, k ≤ s.kids.length ∧ iv = .int .i64 k ∧ bv = .bool ((s.kids.take k).all M.contains) ∧ Hid (GL [] v1 wr)) (fun _ iv _ => s.kids.length - (intOf iv).toNat)
  case atStart => exact ⟨0, by omega, rfl, rfl, Lib.hid (gl_refl _ _)⟩
  case round =>
    obtain ⟨k, hk, rfl, rfl, hgr⟩ := hrel
    have HPr := Lib.hid (blk_gl HP.out hgr.out (by simp))
    have a1 := blk_cell HPr.out
    have a2 := blk_free HPr.out
    have a3 := blk_lt HPr.out
    by_cases hlt : k < s.kids.length
    · have i1 : (k : Int) < s.kids.length := by omega
      rcases HKD.out with h0 | ⟨b, o, rfl, hb, hc⟩
      · rw [h0] at hlt; simp at hlt
      have hx : s.kids[k]? = some s.kids[k] := List.getElem?_eq_getElem hlt
      have c0 := cell_glx (hc k _ hx) hgr.out (by simp)
      have HN := Lib.hid (all_snoc M.contains s.kids k _ hx)
      have hl := (right_len (HKR.out _ (List.getElem_mem hlt)).1).2
      clear hc hx
      generalize s.kids[k] = x at *
      cases ha : (s.kids.take k).all M.contains with
      | false =>
        rw [ha] at HN
        have HN2 : Hid ((s.kids.take (k + 1)).all M.contains = false) := by show _ = _; rw [HN.out]; rfl
        clear ha HN
        go_wp2_with fail
        go_roundw
        case rel => exact ⟨k + 1, by omega, by go_num, by rw [HN2.out], hgr⟩
        case measure => simp [intOf]; omega
      | true =>
        rw [ha] at HN
        have HN2 : Hid ((s.kids.take (k + 1)).all M.contains = M.contains x) := by show _ = _; rw [HN.out]; rfl
        clear ha HN
        go_wp2_with fail
        refine (r3Has x M hM _ _ (termsAt_glx HV1.out hgr.out (by simp))).mono ?_
        rintro e w2 ⟨rfl, hb2⟩
        have hg2 : GL [] v1 w2 := gl_below hb2 hgr.out
        clear hb2 c0 a1 a2 a3
        generalize M.contains x = z at *
        go_wp2_with fail
        go_roundw
        case rel => exact ⟨k + 1, by omega, by go_num, by rw [HN2.out], Lib.hid hg2⟩
        case measure => simp [intOf]; omega
    · obtain rfl : k = s.kids.length := by omega
      rw [List.take_length]
      generalize hall : s.kids.all M.contains = wh at *
      have HALL := Lib.hid hall
      clear hall
      go_wp2_with fail
      refine (r3Secret t (by omega) _).mono ?_
      rintro e w2 ⟨rfl, hb2⟩
      have hg2 : GL [] v1 w2 := gl_below hb2 hgr.out
      have HP2 := Lib.hid (blk_gl HP.out hg2 (by simp))
      have HV2 := Lib.hid (termsAt_glx HV1.out hg2 (by simp))
      have hsl := sec_len t (by omega)
      have hgw2 : GL [] w w2 := gl_step hg2 hg1 (by simp)
      clear hb2 a1 a2 a3
      have a1 := blk_cell HP2.out
      have a2 := blk_free HP2.out
      have a3 := blk_lt HP2.out
      by_cases h110 : s.op.toNat = 110
      · have b110 : (((s.op.toNat : Nat) : Int) == 110) = true := by simp [h110]
        have H : Hid (makesB M.contains t = false) := by show _ = _; rw [makes_some _ HR.out, if_pos h110]
        clear h110
        go_wp2_with fail
        go_ret
        exact ⟨by (rw [H.out]) <;> first | rfl | (simp; done), gl_to_below hgw2⟩
      have b110 : (((s.op.toNat : Nat) : Int) == 110) = false := by simp; omega
      by_cases h116 : s.op.toNat = 116
      · have b116 : (((s.op.toNat : Nat) : Int) == 116) = true := by simp [h116]
        have H : Hid (makesB M.contains t = wh) := by show _ = _; rw [makes_kids2 _ HR.out (.inl h116), HALL.out]
        clear h110 h116
        go_wp2_with fail
        go_ret
        exact ⟨by (rw [H.out]) <;> first | rfl | (simp; done), gl_to_below hgw2⟩
      have b116 : (((s.op.toNat : Nat) : Int) == 116) = false := by simp; omega
      by_cases h84 : s.op.toNat = 84
      · have b84 : (((s.op.toNat : Nat) : Int) == 84) = true := by simp [h84]
        have H : Hid (makesB M.contains t = wh) := by show _ = _; rw [makes_kids2 _ HR.out (.inr (.inl h84)), HALL.out]
        clear h110 h116 h84
        go_wp2_with fail
        go_ret
        exact ⟨by (rw [H.out]) <;> first | rfl | (simp; done), gl_to_below hgw2⟩
      have b84 : (((s.op.toNat : Nat) : Int) == 84) = false := by simp; omega
      by_cases h72 : s.op.toNat = 72
      · have b72 : (((s.op.toNat : Nat) : Int) == 72) = true := by simp [h72]
        have H : Hid (makesB M.contains t = wh) := by show _ = _; rw [makes_kids2 _ HR.out (.inr (.inr (.inl h72))), HALL.out]
        clear h110 h116 h84 h72
        go_wp2_with fail
        go_ret
        exact ⟨by (rw [H.out]) <;> first | rfl | (simp; done), gl_to_below hgw2⟩
      have b72 : (((s.op.toNat : Nat) : Int) == 72) = false := by simp; omega
      by_cases h83 : s.op.toNat = 83
      · have b83 : (((s.op.toNat : Nat) : Int) == 83) = true := by simp [h83]
        have H : Hid (makesB M.contains t = wh) := by show _ = _; rw [makes_kids2 _ HR.out (.inr (.inr (.inr (.inl h83)))), HALL.out]
        clear h110 h116 h84 h72 h83
        go_wp2_with fail
        go_ret
        exact ⟨by (rw [H.out]) <;> first | rfl | (simp; done), gl_to_below hgw2⟩
      have b83 : (((s.op.toNat : Nat) : Int) == 83) = false := by simp; omega
      by_cases h66 : s.op.toNat = 66
      · have b66 : (((s.op.toNat : Nat) : Int) == 66) = true := by simp [h66]
        have H : Hid (makesB M.contains t = wh) := by show _ = _; rw [makes_kids2 _ HR.out (.inr (.inr (.inr (.inr (.inl h66))))), HALL.out]
        clear h110 h116 h84 h72 h83 h66
        go_wp2_with fail
        go_ret
        exact ⟨by (rw [H.out]) <;> first | rfl | (simp; done), gl_to_below hgw2⟩
      have b66 : (((s.op.toNat : Nat) : Int) == 66) = false := by simp; omega
      by_cases h68 : s.op.toNat = 68
      · have b68 : (((s.op.toNat : Nat) : Int) == 68) = true := by simp [h68]
        have H : Hid (makesB M.contains t = wh) := by show _ = _; rw [makes_kids2 _ HR.out (.inr (.inr (.inr (.inr (.inr (.inl h68)))))), HALL.out]
        clear h110 h116 h84 h72 h83 h66 h68
        go_wp2_with fail
        go_ret
        exact ⟨by (rw [H.out]) <;> first | rfl | (simp; done), gl_to_below hgw2⟩
      have b68 : (((s.op.toNat : Nat) : Int) == 68) = false := by simp; omega
      by_cases h86 : s.op.toNat = 86
      · have b86 : (((s.op.toNat : Nat) : Int) == 86) = true := by simp [h86]
        have H : Hid (makesB M.contains t = wh) := by show _ = _; rw [makes_kids2 _ HR.out (.inr (.inr (.inr (.inr (.inr (.inr (.inl h86))))))), HALL.out]
        clear h110 h116 h84 h72 h83 h66 h68 h86
        go_wp2_with fail
        go_ret
        exact ⟨by (rw [H.out]) <;> first | rfl | (simp; done), gl_to_below hgw2⟩
      have b86 : (((s.op.toNat : Nat) : Int) == 86) = false := by simp; omega
      by_cases h75 : s.op.toNat = 75
      · have b75 : (((s.op.toNat : Nat) : Int) == 75) = true := by simp [h75]
        have H : Hid (makesB M.contains t = wh) := by show _ = _; rw [makes_kids2 _ HR.out (.inr (.inr (.inr (.inr (.inr (.inr (.inr (h75)))))))), HALL.out]
        clear h110 h116 h84 h72 h83 h66 h68 h86 h75
        go_wp2_with fail
        go_ret
        exact ⟨by (rw [H.out]) <;> first | rfl | (simp; done), gl_to_below hgw2⟩
      have b75 : (((s.op.toNat : Nat) : Int) == 75) = false := by simp; omega
      by_cases h88 : s.op.toNat = 88
      · obtain ⟨a, b, hks, hra, hrb, hla, hlb⟩ := rt_two_kids HR.out (by rw [show s.op = 88 from UInt8.toNat_inj.1 h88]; rfl)
        have H : Hid (makesB M.contains t = (agrB M.contains a b || agrB M.contains b a)) := by show _ = _; rw [makes_some _ HR.out, if_neg h110, if_pos h88, hks]; rfl
        have E1 := Lib.hid (agr_one M.contains (x := a) hrb)
        have E2 := Lib.hid (agr_one M.contains (x := b) hra)
        have la := (right_len hra).2
        have lb := (right_len hrb).2
        have b88 : (((s.op.toNat : Nat) : Int) == 88) = true := by simp [h88]
        clear h88 h110 h116 h84 h72 h83 h66 h68 h86 h75
        rw [hks] at HP2 HKD a1
        rcases HKD.out with h0 | ⟨g, o, hua, hb, hc⟩
        · cases h0
        subst hua
        have c0 := cell_glx (hc 0 a rfl) hg2 (by simp)
        have c1 := cell_glx (hc 1 b rfl) hg2 (by simp)
        simp only [Nat.add_zero, List.length_cons, List.length_nil, Nat.zero_add, Nat.reduceAdd] at c0 HP2 a1
        have HC := Lib.hid (And.intro c0 c1)
        clear hc hks c0 c1 HKD
        go_wp2_with fail
        clear a1 a2 a3
        go_loopw [11] (fun iv wr => ∃ k : Nat, k ≤ 2 ∧ iv = .int .i64 k ∧ Hid (GL [] w2 wr) ∧ (1 ≤ k → agrB M.contains a b = false) ∧ (2 ≤ k → agrB M.contains b a = false)) (fun iv _ => 2 - (intOf iv).toNat)
        case atStart => exact ⟨0, by omega, rfl, Lib.hid (gl_refl _ _), fun h => by omega, fun h => by omega⟩
        case round =>
          obtain ⟨k, hk, rfl, hgr3, hf1, hf2⟩ := hrel
          have HPr := Lib.hid (blk_gl HP2.out hgr3.out (by simp))
          have a1 := blk_cell HPr.out
          have a2 := blk_free HPr.out
          have a3 := blk_lt HPr.out
          have c0 := cell_glx HC.out.1 hgr3.out (by simp)
          have c1 := cell_glx HC.out.2 hgr3.out (by simp)
          have HF1 := Lib.hid hf1
          have HF2 := Lib.hid hf2
          clear hf1 hf2
          by_cases hk0 : k = 0
          · subst hk0
            go_wp2_with fail
            refine (refOne 80 b (by omega) _).mono ?_
            rintro e w3 ⟨rfl, hb3⟩
            have hg3 : GL [] w2 w3 := gl_below hb3 hgr3.out
            have d0 := cell_glx HC.out.1 hg3 (by simp)
            have d1 := cell_glx HC.out.2 hg3 (by simp)
            have HP3 := Lib.hid (blk_gl HP2.out hg3 (by simp))
            have HV3 := Lib.hid (termsAt_glx HV2.out hg3 (by simp))
            have f1 := blk_cell HP3.out
            have f2 := blk_free HP3.out
            have f3 := blk_lt HP3.out
            clear hb3 c0 c1 a1 a2 a3
            have hol : (oneT 80 b).1.length ≤ 9000000000000000000 := by unfold oneT made; split <;> (try split) <;> simp <;> omega
            generalize oneT 80 b = r at *
            obtain ⟨q, z⟩ := r
            have hol : q.length ≤ 9000000000000000000 := hol
            by_cases hz : z = 0
            · subst hz
              cases hk1 : M.contains a with
              | false =>
                have HFF : Hid (agrB M.contains a b = false) := by show _ = _; rw [E1.out, hk1]; simp
                have HCK := Lib.hid hk1
                clear hk1
                go_wp2_with fail
                refine (r3Has a M hM _ _ HV3.out).mono ?_
                rintro e w4 ⟨rfl, hb4⟩
                rw [HCK.out]
                have hg4 : GL [] w2 w4 := gl_below hb4 hg3
                clear hb4 d0 d1 f1 f2 f3
                go_wp2_with fail
                go_roundw
                case rel => exact ⟨1, by omega, by go_num, Lib.hid hg4, fun _ => HFF.out, fun h => by omega⟩
                case measure => simp [intOf]
              | true =>
                have HCK := Lib.hid hk1
                clear hk1
                go_wp2_with fail
                refine (r3Has a M hM _ _ HV3.out).mono ?_
                rintro e w4 ⟨rfl, hb4⟩
                rw [HCK.out]
                have hg4 : GL [] w2 w4 := gl_below hb4 hg3
                have HV4 := Lib.hid (termsAt_glx HV2.out hg4 (by simp))
                clear hb4 d0 d1 f1 f2 f3
                cases hk2 : M.contains q with
                | false =>
                  have HFF : Hid (agrB M.contains a b = false) := by show _ = _; rw [E1.out]; show (_ && _ && M.contains q) = false; rw [hk2, Bool.and_false]
                  have HCQ := Lib.hid hk2
                  clear hk2
                  go_wp2_with fail
                  refine (r3Has q M hM _ _ HV4.out).mono ?_
                  rintro e w5 ⟨rfl, hb5⟩
                  rw [HCQ.out]
                  have hg5 : GL [] w2 w5 := gl_below hb5 hg4
                  clear hb5
                  go_wp2_with fail
                  go_roundw
                  case rel => exact ⟨1, by omega, by go_num, Lib.hid hg5, fun _ => HFF.out, fun h => by omega⟩
                  case measure => simp [intOf]
                | true =>
                  have h : agrB M.contains a b = true := by rw [E1.out, HCK.out]; show (_ && _ && M.contains q) = true; rw [hk2]; rfl
                  have HT : Hid (makesB M.contains t = true) := (by show _ = _; rw [H.out, h]; rfl)
                  have HCQ := Lib.hid hk2
                  clear hk2 h
                  go_wp2_with fail
                  refine (r3Has q M hM _ _ HV4.out).mono ?_
                  rintro e w5 ⟨rfl, hb5⟩
                  rw [HCQ.out]
                  go_wp2_with fail
                  go_ret
                  exact ⟨by (rw [HT.out]) <;> first | rfl | (simp; done), gl_to_below (gl_step (gl_below hb5 hg4) hgw2 (by simp))⟩
            · have bz : (z == 0) = false := by simp [hz]
              have HFF : Hid (agrB M.contains a b = false) := by show _ = _; rw [E1.out]; show ((z == 0) && _ && _) = false; rw [bz]; rfl
              clear hz
              go_wp2_with fail
              go_roundw
              case rel => exact ⟨1, by omega, by go_num, Lib.hid hg3, fun _ => HFF.out, fun h => by omega⟩
              case measure => simp [intOf]
          · by_cases hk1 : k = 1
            · subst hk1
              go_wp2_with fail
              refine (refOne 80 a (by omega) _).mono ?_
              rintro e w3 ⟨rfl, hb3⟩
              have hg3 : GL [] w2 w3 := gl_below hb3 hgr3.out
              have d0 := cell_glx HC.out.1 hg3 (by simp)
              have d1 := cell_glx HC.out.2 hg3 (by simp)
              have HP3 := Lib.hid (blk_gl HP2.out hg3 (by simp))
              have HV3 := Lib.hid (termsAt_glx HV2.out hg3 (by simp))
              have f1 := blk_cell HP3.out
              have f2 := blk_free HP3.out
              have f3 := blk_lt HP3.out
              clear hb3 c0 c1 a1 a2 a3
              have hol : (oneT 80 a).1.length ≤ 9000000000000000000 := by unfold oneT made; split <;> (try split) <;> simp <;> omega
              generalize oneT 80 a = r at *
              obtain ⟨q, z⟩ := r
              have hol : q.length ≤ 9000000000000000000 := hol
              by_cases hz : z = 0
              · subst hz
                cases hk1 : M.contains b with
                | false =>
                  have HFF : Hid (agrB M.contains b a = false) := by show _ = _; rw [E2.out, hk1]; simp
                  have HCK := Lib.hid hk1
                  clear hk1
                  go_wp2_with fail
                  refine (r3Has b M hM _ _ HV3.out).mono ?_
                  rintro e w4 ⟨rfl, hb4⟩
                  rw [HCK.out]
                  have hg4 : GL [] w2 w4 := gl_below hb4 hg3
                  clear hb4 d0 d1 f1 f2 f3
                  go_wp2_with fail
                  go_roundw
                  case rel => exact ⟨2, by omega, by go_num, Lib.hid hg4, fun _ => HF1.out (by omega), fun _ => HFF.out⟩
                  case measure => simp [intOf]
                | true =>
                  have HCK := Lib.hid hk1
                  clear hk1
                  go_wp2_with fail
                  refine (r3Has b M hM _ _ HV3.out).mono ?_
                  rintro e w4 ⟨rfl, hb4⟩
                  rw [HCK.out]
                  have hg4 : GL [] w2 w4 := gl_below hb4 hg3
                  have HV4 := Lib.hid (termsAt_glx HV2.out hg4 (by simp))
                  clear hb4 d0 d1 f1 f2 f3
                  cases hk2 : M.contains q with
                  | false =>
                    have HFF : Hid (agrB M.contains b a = false) := by show _ = _; rw [E2.out]; show (_ && _ && M.contains q) = false; rw [hk2, Bool.and_false]
                    have HCQ := Lib.hid hk2
                    clear hk2
                    go_wp2_with fail
                    refine (r3Has q M hM _ _ HV4.out).mono ?_
                    rintro e w5 ⟨rfl, hb5⟩
                    rw [HCQ.out]
                    have hg5 : GL [] w2 w5 := gl_below hb5 hg4
                    clear hb5
                    go_wp2_with fail
                    go_roundw
                    case rel => exact ⟨2, by omega, by go_num, Lib.hid hg5, fun _ => HF1.out (by omega), fun _ => HFF.out⟩
                    case measure => simp [intOf]
                  | true =>
                    have h : agrB M.contains b a = true := by rw [E2.out, HCK.out]; show (_ && _ && M.contains q) = true; rw [hk2]; rfl
                    have HT : Hid (makesB M.contains t = true) := (by show _ = _; rw [H.out, h, Bool.or_true])
                    have HCQ := Lib.hid hk2
                    clear hk2 h
                    go_wp2_with fail
                    refine (r3Has q M hM _ _ HV4.out).mono ?_
                    rintro e w5 ⟨rfl, hb5⟩
                    rw [HCQ.out]
                    go_wp2_with fail
                    go_ret
                    exact ⟨by (rw [HT.out]) <;> first | rfl | (simp; done), gl_to_below (gl_step (gl_below hb5 hg4) hgw2 (by simp))⟩
              · have bz : (z == 0) = false := by simp [hz]
                have HFF : Hid (agrB M.contains b a = false) := by show _ = _; rw [E2.out]; show ((z == 0) && _ && _) = false; rw [bz]; rfl
                clear hz
                go_wp2_with fail
                go_roundw
                case rel => exact ⟨2, by omega, by go_num, Lib.hid hg3, fun _ => HF1.out (by omega), fun _ => HFF.out⟩
                case measure => simp [intOf]
            · obtain rfl : k = 2 := by omega
              have HR2 : Hid (makesB M.contains t = false) := by show _ = _; rw [H.out, HF1.out (by omega), HF2.out (by omega)]; rfl
              go_wp2_with fail
              go_ret
              exact ⟨by (rw [HR2.out]) <;> first | rfl | (simp; done), gl_to_below (gl_step hgr3.out hgw2 (by simp))⟩
      have b88 : (((s.op.toNat : Nat) : Int) == 88) = false := by simp; omega
      generalize hso : (secT t).isSome = so at *
      generalize hsv : (secT t).getD [] = sv at *
      by_cases h80 : s.op.toNat = 80
      · have H : Hid (makesB M.contains t = (so && M.contains sv)) := by show _ = _; rw [makes_pub _ HR.out h80, hso, hsv]
        have b80 : (((s.op.toNat : Nat) : Int) == 80) = true := by simp [h80]
        clear h80 h88 h110 h116 h84 h72 h83 h66 h68 h86 h75 hso hsv
        cases so with
        | false =>
          go_wp2_with fail
          go_ret
          exact ⟨by (rw [H.out]) <;> first | rfl | (simp; done), gl_to_below hgw2⟩
        | true =>
          go_wp2_with fail
          refine (r3Has sv M hM _ _ HV2.out).mono ?_
          rintro e w3 ⟨rfl, hb3⟩
          go_wp2_with fail
          go_ret
          exact ⟨by (rw [H.out]) <;> first | rfl | (simp; done), gl_to_below (gl_below hb3 hgw2)⟩
      have b80 : (((s.op.toNat : Nat) : Int) == 80) = false := by simp; omega
      have H : Hid (makesB M.contains t = (wh || (so && M.contains sv))) := by show _ = _; rw [makes_rest _ HR.out h110 h88 h80, hso, hsv, HALL.out]
      clear h80 h88 h110 h116 h84 h72 h83 h66 h68 h86 h75 hso hsv
      cases wh with
      | true =>
        go_wp2_with fail
        go_ret
        exact ⟨by (rw [H.out]) <;> first | rfl | (simp; done), gl_to_below hgw2⟩
      | false =>
        cases so with
        | false =>
          go_wp2_with fail
          go_ret
          exact ⟨by (rw [H.out]) <;> first | rfl | (simp; done), gl_to_below hgw2⟩
        | true =>
          go_wp2_with fail
          refine (r3Has sv M hM _ _ HV2.out).mono ?_
          rintro e w3 ⟨rfl, hb3⟩
          go_wp2_with fail
          go_ret
          exact ⟨by (rw [H.out]) <;> first | rfl | (simp; done), gl_to_below (gl_below hb3 hgw2)⟩
end Go.Proofs.YtdipkblmcloifaaGreatDoor
