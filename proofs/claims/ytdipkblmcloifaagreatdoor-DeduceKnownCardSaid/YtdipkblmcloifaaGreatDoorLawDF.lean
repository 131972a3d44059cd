/- The laws of layer 3: a secret that nobody heard of is not known. -/
import Derived.Test.YtdipkblmcloifaaGreatDoorLawDB
set_option linter.unusedSimpArgs false
set_option linter.unusedVariables false
namespace Go.Proofs.YtdipkblmcloifaaGreatDoor
open Go.RowKit

set_option maxRecDepth 100000 in
set_option maxHeartbeats 8000000 in
theorem lDeduceFresh (ts asks : List (List UInt8)) (v u : Value) (n : Int) (rn : -9223372036854775808 ≤ n ∧ n ≤ 9223372036854775807) (w : World) (hv : TermsAt v ts w) (hu : TermsAt u asks w)
    (hn1 : ts.length ≤ 9000000000000000000) (hn2 : asks.length ≤ 9000000000000000000) (ht1 : ∀ t ∈ ts, t.length ≤ 9000000000000000000) (ht2 : ∀ t ∈ asks, t.length ≤ 9000000000000000000) (hG : GOk w) :
    Calls Tryz.prog 6 #[v, u, .int .i64 n] w fun e w' => e = .returned (.bool true) ∧ Below w.heap.size w w' := by
  obtain ⟨va, vc, hvv, _⟩ := termsAt_open hv
  obtain ⟨ua, uc, huu, _⟩ := termsAt_open hu
  have HV := Lib.hid hv
  have HU := Lib.hid hu
  have HT1 := Lib.hid ht1
  have HT2 := Lib.hid ht2
  have HG := Lib.hid hG
  clear hv hu ht1 ht2 hG
  subst hvv huu
  go_enter Tryz.func6, Tryz.ntmps6
  go_wp2_with fail
  refine (lSmall ts hn1 HT1.out _ _ HV.out).mono ?_
  rintro e w1 ⟨b1, rfl, hb1, hw1⟩
  have hw1 := hw1.symm
  subst hw1
  cases b1 with
  | false =>
    go_wp2_with fail
    go_ret
    exact ⟨by first | rfl | (simp; done), Below.refl _ _⟩
  | true =>
  have h40 := hb1 rfl
  clear hb1
  go_wp2_with fail
  refine (lSmall asks hn2 HT2.out _ _ HU.out).mono ?_
  rintro e w2 ⟨b2, rfl, hb2, hw2⟩
  have hw2 := hw2.symm
  subst hw2
  cases b2 with
  | false =>
    go_wp2_with fail
    go_ret
    exact ⟨by first | rfl | (simp; done), Below.refl _ _⟩
  | true =>
  clear hb2
  go_wp2_with fail
  refine (lMind ts h40 HT1.out _ _ HV.out HG.out).mono ?_
  rintro e w3 ⟨M, bh, be, k, S, hd, rfl, hM3, hk, hH3, hq1, hq2, hq3, _, hb3⟩
  have HM3 := Lib.hid hM3
  have HH3 := Lib.hid hH3
  have HG3 := Lib.hid (gok_below HG.out hb3)
  have hg3 : GL [] w w3 := gl_below hb3 (gl_refl _ _)
  obtain ⟨ha, hc, hdv, _⟩ := termsAt_open hH3
  clear hM3 hH3 hb3
  subst hdv
  go_wp2_with fail
  refine (tMkName n rn.1 rn.2 _ HG3.out).mono ?_
  rintro e w4 ⟨rfl, hb4⟩
  have HM4 := Lib.hid (mind_below HM3.out hb4)
  have HG4 := Lib.hid (gok_below HG3.out hb4)
  have HH4 := Lib.hid (termsAt_glx HH3.out (gl_below hb4 (gl_refl [] _)) (by simp))
  have hg4 : GL [] w w4 := gl_below hb4 hg3
  clear hb4
  by_cases hneg : n < 0
  · rw [show nameT n = ([], 2) by unfold nameT; rw [if_pos hneg]]
    go_wp2_with fail
    refine (lWorks03 _ HG4.out).mono ?_
    rintro e w5 ⟨rfl, hb5⟩
    go_wp2_with fail
    go_ret
    exact ⟨by first | rfl | (simp; done), gl_to_below (gl_below hb5 hg4)⟩
  · obtain ⟨N, hN⟩ : ∃ N : Nat, n = N := ⟨n.toNat, by omega⟩
    subst hN
    rw [nameT_ok N]
    have hN9 : N ≤ 9223372036854775807 := by omega
    have hNL := nameL_len hN9
    have hnm : nameL N ≠ [] := by simp [nameL]
    have HKEY := Lib.hid (nameL_key hN9).1
    have HKR := Lib.hid (nameL_key hN9).2
    have HFR := Lib.hid (show (∀ t, heardP ts t = true → stands (nameL N) t = false) → (∀ t, right t = true → kn S t = true → stands (nameL N) t = false) ∧ kn S (nameL N) = false ∧ kn S (80 :: nameL N) = false from fun hf => ⟨kn_fresh HM4.out.least (nameL_right hN9).2 HM4.out.rights hf, fresh_not HM4.out.least hN9 HM4.out.rights hf⟩)
    have HNM := Lib.hid hnm
    clear hnm hN9
    have hfl : (ts.filter right).length ≤ 40 := by have := List.length_filter_le right ts; omega
    have HFT := Lib.hid (show ∀ t ∈ ts.filter right, t.length ≤ 9000000000000000000 from fun t ht => HT1.out t (List.mem_filter.1 ht).1)
    have HFH := Lib.hid (show (∀ t ∈ ts.filter right, stands (nameL N) t = false) → ∀ t, heardP ts t = true → stands (nameL N) t = false from fun h t ht => h t (by unfold heardP at ht; rw [Bool.and_eq_true, decide_eq_true_eq] at ht; exact List.mem_filter.2 ⟨ht.2, ht.1⟩))
    generalize ts.filter right = fs at *
    generalize nameL N = nm at *
    go_wp2_with fail
    go_loopw [11] (fun iv wr => ∃ i : Nat, i ≤ fs.length ∧ iv = .int .i64 i ∧ Hid (GL [] w wr) ∧ Hid (MindAt wr M bh be (heardP ts) S k) ∧ Hid (GOk wr) ∧ Hid (TermsAt (.slice ha fs.length hc) fs wr) ∧ Hid (∀ j t, j < i → fs[j]? = some t → stands nm t = false)) (fun iv _ => fs.length - (intOf iv).toNat)
    case atStart => exact ⟨0, by omega, rfl, Lib.hid hg4, HM4, HG4, HH4, Lib.hid (fun j t h => absurd h (Nat.not_lt_zero j))⟩
    case round =>
      obtain ⟨i, hi, rfl, hgr, HMr, HGr, HHr, HNr⟩ := hrel
      by_cases hlt : i < fs.length
      · have i1 : (i : Int) < fs.length := by omega
        rcases HHr.out with ⟨_, _, _, h0⟩ | ⟨g, o, c, hv, hgl, hcc⟩
        · rw [h0] at hlt; simp at hlt
        · injection hv with hv1 hv2 hv3
          subst hv1
          have hx : fs[i]? = some fs[i] := List.getElem?_eq_getElem hlt
          have c0 := hcc i _ hx
          have hl := HFT.out _ (List.getElem_mem hlt)
          have HX := Lib.hid hx
          clear hcc hv3 hx
          generalize fs[i] = y at *
          go_wp2_with fail
          refine (lStands nm y HNM.out hl _ HGr.out).mono ?_
          rintro e w5 ⟨rfl, hb5⟩
          have hg5 : GL [] w w5 := gl_below hb5 hgr.out
          have HM5 := Lib.hid (mind_below HMr.out hb5)
          have HG5 := Lib.hid (gok_below HGr.out hb5)
          have HH5 := Lib.hid (termsAt_glx HHr.out (gl_below hb5 (gl_refl [] _)) (by simp))
          clear hb5 c0
          cases hst : stands nm y with
          | true =>
            go_wp2_with fail
            refine (lWorks03 _ HG5.out).mono ?_
            rintro e w6 ⟨rfl, hb6⟩
            go_wp2_with fail
            go_ret
            exact ⟨by first | rfl | (simp; done), gl_to_below (gl_below hb6 hg5)⟩
          | false =>
            have HST := Lib.hid hst
            clear hst
            go_wp2_with fail
            go_roundw
            case rel => exact ⟨i + 1, by omega, by go_num, Lib.hid hg5, HM5, HG5, HH5, Lib.hid (fun j t hj ht => by
              by_cases e : j = i
              · subst e; have := HX.out; rw [this] at ht; injection ht with ht; rw [← ht]; exact HST.out
              · exact HNr.out j t (by omega) ht)⟩
            case measure => simp [intOf]; omega
      · obtain rfl : i = fs.length := by omega
        obtain ⟨hf1, hf2, hf3⟩ := HFR.out (HFH.out (fun t ht => by obtain ⟨j, hj⟩ := List.getElem?_of_mem ht; exact HNr.out j t (List.getElem?_eq_some_iff.1 hj).1 hj))
        have HF1 := Lib.hid hf1
        have HF2 := Lib.hid hf2
        have HF3 := Lib.hid hf3
        clear hf1 hf2 hf3
        have HUr := Lib.hid (termsAt_glx HU.out hgr.out (by simp))
        go_wp2_with fail
        go_loopw [12] (fun iv wr2 => ∃ i : Nat, i ≤ asks.length ∧ iv = .int .i64 i ∧ Hid (GL [] w wr2) ∧ Hid (MindAt wr2 M bh be (heardP ts) S k) ∧ Hid (GOk wr2) ∧ Hid (TermsAt (.slice ua asks.length uc) asks wr2)) (fun iv _ => asks.length - (intOf iv).toNat)
        case atStart => exact ⟨0, by omega, rfl, hgr, HMr, HGr, HUr⟩
        case round =>
          obtain ⟨i, hi, rfl, hgs, HMs, HGs, HUs⟩ := hrel
          by_cases hlt : i < asks.length
          · have i1 : (i : Int) < asks.length := by omega
            rcases HUs.out with ⟨_, _, _, h0⟩ | ⟨g, o, c, hv, hgl, hcc⟩
            · rw [h0] at hlt; simp at hlt
            · injection hv with hv1 hv2 hv3
              subst hv1
              have c0 := hcc i _ (List.getElem?_eq_getElem hlt)
              have hl := HT2.out _ (List.getElem_mem hlt)
              clear hcc hv3
              generalize asks[i] = y at *
              go_wp2_with fail
              refine (dKnows M bh be k _ S y hl _ HGs.out HMs.out).mono ?_
              rintro e w5 ⟨rfl, hb5⟩
              have hg5 : GL [] w w5 := gl_below hb5 hgs.out
              have HM5 := Lib.hid (mind_below HMs.out hb5)
              have HG5 := Lib.hid (gok_below HGs.out hb5)
              have HU5 := Lib.hid (termsAt_glx HUs.out (gl_below hb5 (gl_refl [] _)) (by simp))
              have c5 := dcell_below c0 hb5
              clear hb5 c0
              cases hkn : (right y && kn S y) with
              | false =>
                clear hkn c5
                go_wp2_with fail
                go_roundw
                case rel => exact ⟨i + 1, by omega, by go_num, Lib.hid hg5, HM5, HG5, HU5⟩
                case measure => simp [intOf]; omega
              | true =>
                rw [Bool.and_eq_true] at hkn
                have hst := HF1.out y hkn.1 hkn.2
                have HST := Lib.hid hst
                clear hkn hst
                go_wp2_with fail
                refine (lStands nm y HNM.out hl _ HG5.out).mono ?_
                rintro e w6 ⟨rfl, hb6⟩
                rw [HST.out]
                have hg6 : GL [] w w6 := gl_below hb6 hg5
                have HM6 := Lib.hid (mind_below HM5.out hb6)
                have HG6 := Lib.hid (gok_below HG5.out hb6)
                have HU6 := Lib.hid (termsAt_glx HU5.out (gl_below hb6 (gl_refl [] _)) (by simp))
                clear hb6 c5
                go_wp2_with fail
                go_roundw
                case rel => exact ⟨i + 1, by omega, by go_num, Lib.hid hg6, HM6, HG6, HU6⟩
                case measure => simp [intOf]; omega
          · obtain rfl : i = asks.length := by omega
            go_wp2_with fail
            refine (tPub nm (by omega) _ HGs.out).mono ?_
            rintro e w5 ⟨rfl, hb5⟩
            rw [HKEY.out]
            have hg5 : GL [] w w5 := gl_below hb5 hgs.out
            have HM5 := Lib.hid (mind_below HMs.out hb5)
            have HG5 := Lib.hid (gok_below HGs.out hb5)
            clear hb5
            go_wp2_with fail
            refine (dKnows M bh be k _ S nm (by omega) _ HG5.out HM5.out).mono ?_
            rintro e w6 ⟨rfl, hb6⟩
            rw [HF2.out, Bool.and_false]
            have hg6 : GL [] w w6 := gl_below hb6 hg5
            have HM6 := Lib.hid (mind_below HM5.out hb6)
            have HG6 := Lib.hid (gok_below HG5.out hb6)
            clear hb6
            go_wp2_with fail
            refine (dKnows M bh be k _ S (80 :: nm) (by simp; omega) _ HG6.out HM6.out).mono ?_
            rintro e w7 ⟨rfl, hb7⟩
            rw [HF3.out, Bool.and_false]
            have hg7 : GL [] w w7 := gl_below hb7 hg6
            have HG7 := Lib.hid (gok_below HG6.out hb7)
            clear hb7
            go_wp2_with fail
            refine (lWorks03 _ HG7.out).mono ?_
            rintro e w8 ⟨rfl, hb8⟩
            go_wp2_with fail
            go_ret
            exact ⟨by first | rfl | (simp; done), gl_to_below (gl_below hb8 hg7)⟩
end Go.Proofs.YtdipkblmcloifaaGreatDoor
