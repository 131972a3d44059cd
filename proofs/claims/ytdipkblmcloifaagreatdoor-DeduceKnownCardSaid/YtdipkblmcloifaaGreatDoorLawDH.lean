/- The laws of layer 3: a box under a fresh key hides what is in it. -/
import Derived.Test.YtdipkblmcloifaaGreatDoorLawDB
set_option linter.unusedSimpArgs false
set_option linter.unusedVariables false
namespace Go.Proofs.YtdipkblmcloifaaGreatDoor
open Go.RowKit

set_option maxRecDepth 100000 in
set_option maxHeartbeats 8000000 in
theorem lDeduceHides (ts : List (List UInt8)) (v : Value) (kk ss : Int) (rk : -9223372036854775808 ≤ kk ∧ kk ≤ 9223372036854775807) (rs : -9223372036854775808 ≤ ss ∧ ss ≤ 9223372036854775807) (w : World) (hv : TermsAt v ts w)
    (hn1 : ts.length ≤ 9000000000000000000) (ht1 : ∀ t ∈ ts, t.length ≤ 9000000000000000000) (hG : GOk w) :
    Calls Tryz.prog 7 #[v, .int .i64 kk, .int .i64 ss] w fun e w' => e = .returned (.bool true) ∧ Below w.heap.size w w' := by
  obtain ⟨va, vc, hvv, _⟩ := termsAt_open hv
  have HV := Lib.hid hv
  have HT1 := Lib.hid ht1
  have HG := Lib.hid hG
  clear hv ht1 hG
  subst hvv
  by_cases hk0 : kk < 0
  · have d1 : decide (kk < 0) = true := by simp [hk0]
    go_enter Tryz.func7, Tryz.ntmps7
    go_wp2_with fail
    refine (lSmall ts hn1 HT1.out _ _ HV.out).mono ?_
    rintro e w1 ⟨b1, rfl, _, hw1⟩
    have hw1 := hw1.symm
    subst hw1
    cases b1 <;>
      (go_wp2_with fail
       go_ret
       exact ⟨by first | rfl | (simp; done), Below.refl _ _⟩)
  by_cases hs0 : ss < 0
  · have d2 : decide (ss < 0) = true := by simp [hs0]
    go_enter Tryz.func7, Tryz.ntmps7
    go_wp2_with fail
    refine (lSmall ts hn1 HT1.out _ _ HV.out).mono ?_
    rintro e w1 ⟨b1, rfl, _, hw1⟩
    have hw1 := hw1.symm
    subst hw1
    cases b1 <;>
      (go_wp2_with fail
       go_ret
       exact ⟨by first | rfl | (simp; done), Below.refl _ _⟩)
  by_cases hks : kk = ss
  · have d3 : (kk == ss) = true := by simp [hks]
    go_enter Tryz.func7, Tryz.ntmps7
    go_wp2_with fail
    refine (lSmall ts hn1 HT1.out _ _ HV.out).mono ?_
    rintro e w1 ⟨b1, rfl, _, hw1⟩
    have hw1 := hw1.symm
    subst hw1
    cases b1 <;>
      (go_wp2_with fail
       go_ret
       exact ⟨by first | rfl | (simp; done), Below.refl _ _⟩)
  have d3 : (kk == ss) = false := by simp [hks]
  obtain ⟨K, hK⟩ : ∃ K : Nat, kk = K := ⟨kk.toNat, by omega⟩
  obtain ⟨N, hN⟩ : ∃ N : Nat, ss = N := ⟨ss.toNat, by omega⟩
  subst hK hN
  have hK9 : K ≤ 9223372036854775807 := by omega
  have hN9 : N ≤ 9223372036854775807 := by omega
  have hKl := nameL_len hK9
  have hNl := nameL_len hN9
  have HnK := Lib.hid (show nameL K ≠ [] by simp [nameL])
  have HnN := Lib.hid (show nameL N ≠ [] by simp [nameL])
  have FB := Lib.hid (nameL_box hK9 hN9)
  have F2 := Lib.hid (nameL_key hK9)
  have F3 := Lib.hid (nameL_key hN9)
  have F4 := Lib.hid (nameL_hash hN9)
  have RK := Lib.hid (nameL_right hK9).1
  have RN := Lib.hid (nameL_right hN9).1
  have FH := Lib.hid (show ∀ S, Least (heardP ts) S → (∀ t, heardP ts t = true → stands (nameL K) t = false ∧ stands (nameL N) t = false) → ∀ H4 S4, Least H4 S4 → (∀ t, H4 t = true → heardP ts t = true ∨ t = 66 :: (nameL K ++ nameL N) ∨ t = 80 :: nameL K ∨ t = 80 :: nameL N ∨ t = 72 :: nameL N) → kn S4 (nameL K) = false ∧ kn S4 (nameL N) = false from fun S hL hf H4 S4 hL4 h4 => hides_plain hL hL4 hK9 hN9 (heardP_right ts) (fun t ht => (hf t ht).1) (fun t ht => (hf t ht).2) h4)
  have FO := Lib.hid (show ∀ H S, Least H S → H (66 :: (nameL K ++ nameL N)) = true → H (nameL K) = true → kn S (nameL N) = true ∧ kn S (nameL K) = true from fun H S hL h1 h2 => opens_plain hL hK9 hN9 h1 h2)
  have NK := Lib.hid (nameT_ok K)
  have NN := Lib.hid (nameT_ok N)
  clear hk0 hs0 hks hK9 hN9
  generalize nameL K = nk at *
  generalize nameL N = nm at *
  go_enter Tryz.func7, Tryz.ntmps7
  go_wp2_with fail
  refine (lSmall ts hn1 HT1.out _ _ HV.out).mono ?_
  rintro e w1 ⟨b1, rfl, hb1, hw1⟩
  have hw1 := hw1.symm
  subst hw1
  cases b1 with
  | false =>
    go_wp2_with fail
    go_ret
    exact ⟨by first | rfl | (simp; done), Below.refl _ _⟩
  | true =>
  have h40 := hb1 rfl
  clear hb1
  go_wp2_with fail
  refine (tMkName K rk.1 rk.2 _ HG.out).mono ?_
  rintro e w2 ⟨rfl, hb2⟩
  rw [NK.out]
  have hg2 : GL [] w w2 := gl_below hb2 (gl_refl _ _)
  have HG2 := Lib.hid (gok_below HG.out hb2)
  clear hb2
  go_wp2_with fail
  refine (tMkName N rs.1 rs.2 _ HG2.out).mono ?_
  rintro e w3 ⟨rfl, hb3⟩
  rw [NN.out]
  have hg3 : GL [] w w3 := gl_below hb3 hg2
  have HG3 := Lib.hid (gok_below HG2.out hb3)
  have HV3 := Lib.hid (termsAt_glx HV.out hg3 (by simp))
  clear hb3
  go_wp2_with fail
  refine (lMind ts h40 HT1.out _ _ HV3.out HG3.out).mono ?_
  rintro e w4 ⟨M, bh, be, k, S, hd, rfl, hM4, hk, hH4, hq1, hq2, hq3, _, hb4⟩
  have HM4 := Lib.hid hM4
  have HH4 := Lib.hid hH4
  have HG4 := Lib.hid (gok_below HG3.out hb4)
  have hg4 : GL [] w w4 := gl_below hb4 hg3
  obtain ⟨ha, hc, hdv, _⟩ := termsAt_open hH4
  have hsz3 := hg3.size
  have hlow := hM4.low
  have HRS := Lib.hid (show ∀ r ∈ [bh, be], r ∈ ([] : List Nat) ∨ w.heap.size ≤ r from fun r hr => .inr (by simp at hr; rcases hr with rfl | rfl <;> omega))
  have HLO := Lib.hid (show ∀ r ∈ [bh, be], gN ≤ r from fun r hr => by simp at hr; rcases hr with rfl | rfl; exact hlow.2.1; exact hlow.2.2)
  clear hM4 hH4 hb4 hlow
  subst hdv
  have hfl : (ts.filter right).length ≤ 40 := by have := List.length_filter_le right ts; omega
  have HFT := Lib.hid (show ∀ t ∈ ts.filter right, t.length ≤ 9000000000000000000 from fun t ht => HT1.out t (List.mem_filter.1 ht).1)
  have HFH := Lib.hid (show (∀ t ∈ ts.filter right, stands nk t = false ∧ stands nm t = false) → ∀ t, heardP ts t = true → stands nk t = false ∧ stands nm t = false from fun h t ht => h t (by unfold heardP at ht; rw [Bool.and_eq_true, decide_eq_true_eq] at ht; exact List.mem_filter.2 ⟨ht.2, ht.1⟩))
  generalize ts.filter right = fs at *
  go_wp2_with fail
  go_loopw [13] (fun iv wr => ∃ i : Nat, i ≤ fs.length ∧ iv = .int .i64 i ∧ Hid (GL [] w wr) ∧ Hid (MindAt wr M bh be (heardP ts) S k) ∧ Hid (GOk wr) ∧ Hid (TermsAt (.slice ha fs.length hc) fs wr) ∧ Hid (∀ j t, j < i → fs[j]? = some t → stands nk t = false ∧ stands nm t = false)) (fun iv _ => fs.length - (intOf iv).toNat)
  case atStart => exact ⟨0, by omega, rfl, Lib.hid hg4, HM4, HG4, HH4, Lib.hid (fun j t h => absurd h (Nat.not_lt_zero j))⟩
  case round =>
    obtain ⟨i, hi, rfl, hgr, HMr, HGr, HHr, HNr⟩ := hrel
    by_cases hlt : i < fs.length
    · have i1 : (i : Int) < fs.length := by omega
      rcases HHr.out with ⟨_, _, _, h0⟩ | ⟨g, o, c, hv, hgl, hcc⟩
      · rw [h0] at hlt; simp at hlt
      · injection hv with hv1 hv2 hv3
        subst hv1
        have hx : fs[i]? = some fs[i] := List.getElem?_eq_getElem hlt
        have c0 := hcc i _ hx
        have hl := HFT.out _ (List.getElem_mem hlt)
        have HX := Lib.hid hx
        clear hcc hv3 hx
        generalize fs[i] = y at *
        go_wp2_with fail
        refine (lStands nk y HnK.out hl _ HGr.out).mono ?_
        rintro e w5 ⟨rfl, hb5⟩
        have hg5 : GL [] w w5 := gl_below hb5 hgr.out
        have HM5 := Lib.hid (mind_below HMr.out hb5)
        have HG5 := Lib.hid (gok_below HGr.out hb5)
        have HH5 := Lib.hid (termsAt_glx HHr.out (gl_below hb5 (gl_refl [] _)) (by simp))
        have c5 := dcell_below c0 hb5
        clear hb5 c0
        cases hst : stands nk y with
        | true =>
          go_wp2_with fail
          refine (lWorks03 _ HG5.out).mono ?_
          rintro e w6 ⟨rfl, hb6⟩
          go_wp2_with fail
          go_ret
          exact ⟨by first | rfl | (simp; done), gl_to_below (gl_below hb6 hg5)⟩
        | false =>
          have HST := Lib.hid hst
          clear hst
          go_wp2_with fail
          refine (lStands nm y HnN.out hl _ HG5.out).mono ?_
          rintro e w6 ⟨rfl, hb6⟩
          have hg6 : GL [] w w6 := gl_below hb6 hg5
          have HM6 := Lib.hid (mind_below HM5.out hb6)
          have HG6 := Lib.hid (gok_below HG5.out hb6)
          have HH6 := Lib.hid (termsAt_glx HH5.out (gl_below hb6 (gl_refl [] _)) (by simp))
          clear hb6 c5
          cases hst2 : stands nm y with
          | true =>
            go_wp2_with fail
            refine (lWorks03 _ HG6.out).mono ?_
            rintro e w7 ⟨rfl, hb7⟩
            go_wp2_with fail
            go_ret
            exact ⟨by first | rfl | (simp; done), gl_to_below (gl_below hb7 hg6)⟩
          | false =>
            have HST2 := Lib.hid hst2
            clear hst2
            go_wp2_with fail
            go_roundw
            case rel => exact ⟨i + 1, by omega, by go_num, Lib.hid hg6, HM6, HG6, HH6, Lib.hid (fun j t hj ht => by
              by_cases e : j = i
              · subst e; have := HX.out; rw [this] at ht; injection ht with ht; rw [← ht]; exact ⟨HST.out, HST2.out⟩
              · exact HNr.out j t (by omega) ht)⟩
            case measure => simp [intOf]; omega
    · obtain rfl : i = fs.length := by omega
      have FH2 := Lib.hid (FH.out S HMr.out.least (HFH.out (fun t ht => by obtain ⟨j, hj⟩ := List.getElem?_of_mem ht; exact HNr.out j t (List.getElem?_eq_some_iff.1 hj).1 hj)))
      clear HNr HFH HFT HHr HH4 HM4 HG4 HG3 HG2
      go_wp2_with fail
      refine (tBox nk nm (by omega) (by omega) _ HGr.out).mono ?_
      rintro e w10 ⟨rfl, hb10⟩
      rw [FB.out.1]
      have hg10 : GL [] w w10 := gl_below hb10 hgr.out
      have HM10 := Lib.hid (mind_below HMr.out hb10)
      have HG10 := Lib.hid (gok_below HGr.out hb10)
      clear hb10
      go_wp2_with fail
      refine (tPub nk (by omega) _ HG10.out).mono ?_
      rintro e w11 ⟨rfl, hb11⟩
      rw [F2.out.1]
      have hg11 : GL [] w w11 := gl_below hb11 hg10
      have HM11 := Lib.hid (mind_below HM10.out hb11)
      have HG11 := Lib.hid (gok_below HG10.out hb11)
      clear hb11
      go_wp2_with fail
      refine (tPub nm (by omega) _ HG11.out).mono ?_
      rintro e w12 ⟨rfl, hb12⟩
      rw [F3.out.1]
      have hg12 : GL [] w w12 := gl_below hb12 hg11
      have HM12 := Lib.hid (mind_below HM11.out hb12)
      have HG12 := Lib.hid (gok_below HG11.out hb12)
      clear hb12
      go_wp2_with fail
      refine (tHash nm (by omega) _ HG12.out).mono ?_
      rintro e w13 ⟨rfl, hb13⟩
      rw [F4.out.1]
      have hg13 : GL [] w w13 := gl_below hb13 hg12
      have HM13 := Lib.hid (mind_below HM12.out hb13)
      have HG13 := Lib.hid (gok_below HG12.out hb13)
      clear hb13
      go_wp2_with fail
      refine (dLearn M bh be k _ _ (66 :: (nk ++ nm)) (by simp; omega) _ HG13.out HM13.out).mono ?_
      rintro e w14 ⟨S14, rfl, hM14, hg14q⟩
      rw [learnC_few _ _ _ (by omega), if_pos FB.out.2]
      have hn14 := (learnN_le (heardP ts) k ((66 :: (nk ++ nm)))).2.1
      have HI14 := Lib.hid (fun (s : List UInt8) (h : learnH (heardP ts) k ((66 :: (nk ++ nm))) s = true) => learnH_inv h)
      have HO14 := Lib.hid (fun (s : List UInt8) (h : heardP ts s = true) => (learnH_old h : learnH (heardP ts) k ((66 :: (nk ++ nm))) s = true))
      have HT14 := Lib.hid (learnH_has (H := heardP ts) (n := k) (t := (66 :: (nk ++ nm))) FB.out.2 (by omega))
      have HM14 := Lib.hid hM14
      have HG14 := Lib.hid (gok_gl HG13.out hg14q HLO.out)
      have hg14 : GL [] w w14 := gl_step hg14q hg13 HRS.out
      clear hM14 hg14q
      generalize learnH (heardP ts) k ((66 :: (nk ++ nm))) = H14 at *
      generalize learnN (heardP ts) k ((66 :: (nk ++ nm))) = n14 at *
      go_wp2_with fail
      refine (dLearn M bh be n14 _ _ (80 :: nk) (by simp; omega) _ HG14.out HM14.out).mono ?_
      rintro e w15 ⟨S15, rfl, hM15, hg15q⟩
      rw [learnC_few _ _ _ (by omega), if_pos F2.out.2]
      have hn15 := (learnN_le (H14) n14 ((80 :: nk))).2.1
      have HI15 := Lib.hid (fun (s : List UInt8) (h : learnH (H14) n14 ((80 :: nk)) s = true) => learnH_inv h)
      have HO15 := Lib.hid (fun (s : List UInt8) (h : H14 s = true) => (learnH_old h : learnH (H14) n14 ((80 :: nk)) s = true))
      have HT15 := Lib.hid (learnH_has (H := H14) (n := n14) (t := (80 :: nk)) F2.out.2 (by omega))
      have HM15 := Lib.hid hM15
      have HG15 := Lib.hid (gok_gl HG14.out hg15q HLO.out)
      have hg15 : GL [] w w15 := gl_step hg15q hg14 HRS.out
      clear hM15 hg15q
      generalize learnH (H14) n14 ((80 :: nk)) = H15 at *
      generalize learnN (H14) n14 ((80 :: nk)) = n15 at *
      go_wp2_with fail
      refine (dLearn M bh be n15 _ _ (80 :: nm) (by simp; omega) _ HG15.out HM15.out).mono ?_
      rintro e w16 ⟨S16, rfl, hM16, hg16q⟩
      rw [learnC_few _ _ _ (by omega), if_pos F3.out.2]
      have hn16 := (learnN_le (H15) n15 ((80 :: nm))).2.1
      have HI16 := Lib.hid (fun (s : List UInt8) (h : learnH (H15) n15 ((80 :: nm)) s = true) => learnH_inv h)
      have HO16 := Lib.hid (fun (s : List UInt8) (h : H15 s = true) => (learnH_old h : learnH (H15) n15 ((80 :: nm)) s = true))
      have HT16 := Lib.hid (learnH_has (H := H15) (n := n15) (t := (80 :: nm)) F3.out.2 (by omega))
      have HM16 := Lib.hid hM16
      have HG16 := Lib.hid (gok_gl HG15.out hg16q HLO.out)
      have hg16 : GL [] w w16 := gl_step hg16q hg15 HRS.out
      clear hM16 hg16q
      generalize learnH (H15) n15 ((80 :: nm)) = H16 at *
      generalize learnN (H15) n15 ((80 :: nm)) = n16 at *
      go_wp2_with fail
      refine (dLearn M bh be n16 _ _ (72 :: nm) (by simp; omega) _ HG16.out HM16.out).mono ?_
      rintro e w17 ⟨S17, rfl, hM17, hg17q⟩
      rw [learnC_few _ _ _ (by omega), if_pos F4.out.2]
      have hn17 := (learnN_le (H16) n16 ((72 :: nm))).2.1
      have HI17 := Lib.hid (fun (s : List UInt8) (h : learnH (H16) n16 ((72 :: nm)) s = true) => learnH_inv h)
      have HO17 := Lib.hid (fun (s : List UInt8) (h : H16 s = true) => (learnH_old h : learnH (H16) n16 ((72 :: nm)) s = true))
      have HT17 := Lib.hid (learnH_has (H := H16) (n := n16) (t := (72 :: nm)) F4.out.2 (by omega))
      have HM17 := Lib.hid hM17
      have HG17 := Lib.hid (gok_gl HG16.out hg17q HLO.out)
      have hg17 : GL [] w w17 := gl_step hg17q hg16 HRS.out
      clear hM17 hg17q
      generalize learnH (H16) n16 ((72 :: nm)) = H17 at *
      generalize learnN (H16) n16 ((72 :: nm)) = n17 at *
      obtain ⟨z1, z2⟩ := FH2.out H17 S17 HM17.out.least (fun t ht => by
        rcases HI17.out t ht with h | h
        · rcases HI16.out t h with h | h
          · rcases HI15.out t h with h | h
            · rcases HI14.out t h with h | h
              · exact .inl h
              · exact .inr (.inl h)
            · exact .inr (.inr (.inl h))
          · exact .inr (.inr (.inr (.inl h)))
        · exact .inr (.inr (.inr (.inr h))))
      have Z1 := Lib.hid z1
      have Z2 := Lib.hid z2
      have hBox : H17 (66 :: (nk ++ nm)) = true := HO17.out _ (HO16.out _ (HO15.out _ HT14.out))
      have HBX := Lib.hid hBox
      have ZB := Lib.hid (kn_held FB.out.2 (HM17.out.least.1 _ hBox))
      have ZH := Lib.hid (kn_held F4.out.2 (HM17.out.least.1 _ HT17.out))
      clear z1 z2 hBox
      go_wp2_with fail
      refine (dKnows M bh be _ _ _ nm (by omega) _ HG17.out HM17.out).mono ?_
      rintro e w18 ⟨rfl, hb18⟩
      rw [Z2.out, Bool.and_false]
      have hg18 : GL [] w w18 := gl_below hb18 hg17
      have HM18 := Lib.hid (mind_below HM17.out hb18)
      have HG18 := Lib.hid (gok_below HG17.out hb18)
      clear hb18
      go_wp2_with fail
      refine (dKnows M bh be _ _ _ nk (by omega) _ HG18.out HM18.out).mono ?_
      rintro e w19 ⟨rfl, hb19⟩
      rw [Z1.out, Bool.and_false]
      have hg19 : GL [] w w19 := gl_below hb19 hg18
      have HM19 := Lib.hid (mind_below HM18.out hb19)
      have HG19 := Lib.hid (gok_below HG18.out hb19)
      clear hb19
      go_wp2_with fail
      refine (dKnows M bh be _ _ _ (66 :: (nk ++ nm)) (by simp; omega) _ HG19.out HM19.out).mono ?_
      rintro e w20 ⟨rfl, hb20⟩
      rw [ZB.out, FB.out.2, Bool.and_self]
      have hg20 : GL [] w w20 := gl_below hb20 hg19
      have HM20 := Lib.hid (mind_below HM19.out hb20)
      have HG20 := Lib.hid (gok_below HG19.out hb20)
      clear hb20
      go_wp2_with fail
      refine (dKnows M bh be _ _ _ (72 :: nm) (by simp; omega) _ HG20.out HM20.out).mono ?_
      rintro e w21 ⟨rfl, hb21⟩
      rw [ZH.out, F4.out.2, Bool.and_self]
      have hg21 : GL [] w w21 := gl_below hb21 hg20
      have HM21 := Lib.hid (mind_below HM20.out hb21)
      have HG21 := Lib.hid (gok_below HG20.out hb21)
      clear hb21
      go_wp2_with fail
      refine (dLearn M bh be n17 _ _ nk (by omega) _ HG21.out HM21.out).mono ?_
      rintro e w22 ⟨S22, rfl, hM22, hg22q⟩
      rw [learnC_few _ _ _ (by omega), if_pos RK.out]
      have hn22 := (learnN_le (H17) n17 (nk)).2.1
      have HI22 := Lib.hid (fun (s : List UInt8) (h : learnH (H17) n17 (nk) s = true) => learnH_inv h)
      have HO22 := Lib.hid (fun (s : List UInt8) (h : H17 s = true) => (learnH_old h : learnH (H17) n17 (nk) s = true))
      have HT22 := Lib.hid (learnH_has (H := H17) (n := n17) (t := nk) RK.out (by omega))
      have HM22 := Lib.hid hM22
      have HG22 := Lib.hid (gok_gl HG21.out hg22q HLO.out)
      have hg22 : GL [] w w22 := gl_step hg22q hg21 HRS.out
      clear hM22 hg22q
      generalize learnH (H17) n17 (nk) = H22 at *
      generalize learnN (H17) n17 (nk) = n22 at *
      obtain ⟨y1, y2⟩ := FO.out H22 S22 HM22.out.least (HO22.out _ HBX.out) HT22.out
      have Y1 := Lib.hid y1
      have Y2 := Lib.hid y2
      clear y1 y2
      go_wp2_with fail
      refine (dKnows M bh be _ _ _ nm (by omega) _ HG22.out HM22.out).mono ?_
      rintro e w23 ⟨rfl, hb23⟩
      rw [Y1.out, RN.out, Bool.and_self]
      have hg23 : GL [] w w23 := gl_below hb23 hg22
      have HM23 := Lib.hid (mind_below HM22.out hb23)
      have HG23 := Lib.hid (gok_below HG22.out hb23)
      clear hb23
      go_wp2_with fail
      refine (dKnows M bh be _ _ _ nk (by omega) _ HG23.out HM23.out).mono ?_
      rintro e w24 ⟨rfl, hb24⟩
      rw [Y2.out, RK.out, Bool.and_self]
      have hg24 : GL [] w w24 := gl_below hb24 hg23
      have HM24 := Lib.hid (mind_below HM23.out hb24)
      have HG24 := Lib.hid (gok_below HG23.out hb24)
      clear hb24
      go_wp2_with fail
      refine (lWorks03 _ HG24.out).mono ?_
      rintro e w99 ⟨rfl, hb99⟩
      go_wp2_with fail
      go_ret
      exact ⟨by first | rfl | (simp; done), gl_to_below (gl_below hb99 hg24)⟩
end Go.Proofs.YtdipkblmcloifaaGreatDoor
