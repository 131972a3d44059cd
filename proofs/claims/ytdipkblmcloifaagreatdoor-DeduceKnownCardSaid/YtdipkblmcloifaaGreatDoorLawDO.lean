/- The laws of layer 3: who hears more knows no less. -/
import Derived.Test.YtdipkblmcloifaaGreatDoorLawDP
import Derived.Test.YtdipkblmcloifaaGreatDoorLawDB
import Derived.Test.YtdipkblmcloifaaGreatDoorDedO
set_option linter.unusedSimpArgs false
set_option linter.unusedVariables false
namespace Go.Proofs.YtdipkblmcloifaaGreatDoor
open Go.RowKit

theorem Tryz.infoBool : (Tryz.prog.info? 4).map (fun i => (i.zero, i.size, i.bytes)) = some (some (.bool false), 1, 1) := by kernel_rfl
/-- What is known of a list, in a row of its own. -/
def KnewAt (v : Value) (us : List (List UInt8)) (P : List UInt8 → Bool) (lo : Nat) (w : World) : Prop :=
  ∃ (ad : Option Addr) (c : Nat), v = .slice ad us.length c ∧ (us = [] ∨ ∃ g, ad = some ⟨g, 0, none⟩ ∧ lo ≤ g ∧ g < w.heap.size ∧ ∀ (i : Nat) (t : List UInt8), us[i]? = some t → w.cell? ⟨g, i, none⟩ = some (.bool (P t)))
theorem knew_of {w : World} {lo : Nat} {v : Value} {us : List (List UInt8)} {P : List UInt8 → Bool} (h : w.ownsRow lo 4 1 v us.length (us.map fun t => .bool (P t))) : KnewAt v us P lo w := by
  by_cases h0 : us = []
  · subst h0
    obtain ⟨ad, m, c, rfl⟩ := own_slice h
    have := own_len h
    subst this
    exact ⟨ad, c, rfl, .inl rfl⟩
  · have hp : 0 < us.length := by cases us with
      | nil => exact absurd rfl h0
      | cons a r => simp
    obtain ⟨g, cap, rfl, h1, h2, _, _, h3⟩ := own_cells h hp
    exact ⟨_, cap, rfl, .inr ⟨g, rfl, h1, h2, fun i t ht => h3 i _ (by rw [List.getElem?_map, ht]; rfl)⟩⟩
theorem ag_start {H S : List UInt8 → Bool} (hL : Least H S) (hr : ∀ t, H t = true → right t = true) : ∀ t, H t = true → kn S t = true := fun t h => kn_held (hr t h) (hL.1 t h)
theorem ag_learn {H2 S : List UInt8 → Bool} {n : Nat} {t : List UInt8} (h : ∀ t, H2 t = true → kn S t = true) (ht : kn S t = true) : ∀ s, learnH H2 n t s = true → kn S s = true := fun s hs => by
  rcases learnH_inv hs with h1 | rfl
  · exact h s h1
  · exact ht
theorem ag_same {H H2 S S2 : List UInt8 → Bool} (hr : ∀ t, H2 t = true → right t = true) (h : Least H S) (h' : Least H2 S2) (hh : ∀ t, H t = true → H2 t = true) (hk : ∀ t, H2 t = true → kn S t = true) (t : List UInt8) : (right t && kn S2 t) = (right t && kn S t) := by
  cases hq : right t with
  | false => rfl
  | true => rw [least_again hr h h' hh hk t hq]
theorem ag_more {H H2 S S2 : List UInt8 → Bool} (h : Least H S) (h' : Least H2 S2) (hh : ∀ t, H t = true → H2 t = true) (t : List UInt8) (ht : (right t && kn S t) = true) : (right t && kn S2 t) = true := by
  rw [Bool.and_eq_true] at ht ⊢
  exact ⟨ht.1, kn_mono (least_mono h h' hh) ht.2⟩
/-- All that stays while the two minds hear. -/
structure MoreI (w w3 wr : World) (M bh be C ch ce : Nat) : Prop where
  gl : GL [bh, be, ch, ce] w3 wr
  old : GL [] w wr
  gok : GOk wr

set_option maxRecDepth 100000 in
set_option maxHeartbeats 8000000 in
theorem lDeduceMore (ls ms us : List (List UInt8)) (v1 v2 v3 : Value) (w : World) (hv1 : TermsAt v1 ls w) (hv2 : TermsAt v2 ms w) (hv3 : TermsAt v3 us w)
    (hn1 : ls.length ≤ 9000000000000000000) (hn2 : ms.length ≤ 9000000000000000000) (hn3 : us.length ≤ 9000000000000000000) (ht1 : ∀ t ∈ ls, t.length ≤ 9000000000000000000) (ht2 : ∀ t ∈ ms, t.length ≤ 9000000000000000000) (ht3 : ∀ t ∈ us, t.length ≤ 9000000000000000000) (hG : GOk w) :
    Calls Tryz.prog 8 #[v1, v2, v3] w fun e w' => e = .returned (.bool true) ∧ Below w.heap.size w w' := by
  obtain ⟨la, lc, hl1, _⟩ := termsAt_open hv1
  obtain ⟨ma, mc, hl2, _⟩ := termsAt_open hv2
  obtain ⟨ua, uc, hl3, _⟩ := termsAt_open hv3
  have HV1 := Lib.hid hv1
  have HV2 := Lib.hid hv2
  have HV3 := Lib.hid hv3
  have HT1 := Lib.hid ht1
  have HT2 := Lib.hid ht2
  have HT3 := Lib.hid ht3
  have HG := Lib.hid hG
  obtain ⟨t0, ht0, htq1, htq2, htq3⟩ := info_parts Tryz.infoBool
  clear hv1 hv2 hv3 ht1 ht2 ht3 hG
  subst hl1 hl2 hl3
  go_enter Tryz.func8, Tryz.ntmps8
  go_wp2_with fail
  refine (lSmall ls hn1 HT1.out _ _ HV1.out).mono ?_
  rintro e z1 ⟨b1, rfl, hb1, hz1⟩
  have hz1 := hz1.symm
  subst hz1
  cases b1 with
  | false =>
    go_wp2_with fail
    go_ret
    exact ⟨by first | rfl | (simp; done), Below.refl _ _⟩
  | true =>
  have h41 := hb1 rfl
  clear hb1
  go_wp2_with fail
  refine (lSmall ms hn2 HT2.out _ _ HV2.out).mono ?_
  rintro e z2 ⟨b2, rfl, hb2, hz2⟩
  have hz2 := hz2.symm
  subst hz2
  cases b2 with
  | false =>
    go_wp2_with fail
    go_ret
    exact ⟨by first | rfl | (simp; done), Below.refl _ _⟩
  | true =>
  have h42 := hb2 rfl
  clear hb2
  go_wp2_with fail
  refine (lSmall us hn3 HT3.out _ _ HV3.out).mono ?_
  rintro e z3 ⟨b3, rfl, hb3, hz3⟩
  have hz3 := hz3.symm
  subst hz3
  cases b3 with
  | false =>
    go_wp2_with fail
    go_ret
    exact ⟨by first | rfl | (simp; done), Below.refl _ _⟩
  | true =>
  have h43 := hb3 rfl
  clear hb3
  go_wp2_with fail
  refine (lMind ls h41 HT1.out _ _ HV1.out HG.out).mono ?_
  rintro e w1 ⟨M, bh, be, k, S, hd, rfl, hM1, hk, hH1, hq1, hq2, hq3, _, hb1⟩
  have HM1 := Lib.hid hM1
  have HG1 := Lib.hid (gok_below HG.out hb1)
  have hg1 : GL [] w w1 := gl_below hb1 (gl_refl _ _)
  have hml := mind_lt hM1
  have hlow := hM1.low
  have hR := Lib.hid hM1.rights
  have hL := Lib.hid hM1.least
  obtain ⟨ha, hc, hdv, _⟩ := termsAt_open hH1
  clear hM1 hH1 hb1 HV1 HT1
  subst hdv
  generalize heardP ls = H at *
  obtain ⟨P, hP⟩ : ∃ P : List UInt8 → Bool, P = fun t => right t && kn S t := ⟨_, rfl⟩
  have HP := Lib.hid hP
  clear hP
  go_wp2_with fail
  go_loopw [9, 10] (fun nv iv wr => ∃ i : Nat, i ≤ us.length ∧ iv = .int .i64 i ∧ Hid (GL [] w1 wr) ∧ Hid (MindAt wr M bh be H S k) ∧ Hid (GOk wr) ∧ Hid (wr.ownsRow w1.heap.size 4 1 nv i ((us.take i).map fun t => .bool (P t)))) (fun _ iv _ => us.length - (intOf iv).toNat)
  case atStart => exact ⟨0, by omega, rfl, Lib.hid (gl_refl _ _), HM1, HG1, Lib.hid (World.ownsRow_nil _ _ _ _)⟩
  case round =>
    obtain ⟨i, hi, rfl, hgr, HMr, HGr, HOr⟩ := hrel
    by_cases hlt : i < us.length
    · have i1 : (i : Int) < us.length := by omega
      rcases HV3.out with ⟨_, _, _, h0⟩ | ⟨g, o, c, hv, hgl, hcc⟩
      · rw [h0] at hlt; simp at hlt
      · injection hv with hv1 hv2 hv3
        subst hv1
        have hx : us[i]? = some us[i] := List.getElem?_eq_getElem hlt
        have hc0 := hcc i _ hx
        have c0 := cell_glx (cell_glx hc0 hg1 (by simp)) hgr.out (by simp)
        have hl := HT3.out _ (List.getElem_mem hlt)
        have HX := Lib.hid (show (us.take (i + 1)).map (fun t => Value.bool (P t)) = (us.take i).map (fun t => Value.bool (P t)) ++ [.bool (P us[i])] by rw [List.take_add_one, hx, List.map_append]; rfl)
        clear hcc hv3 hx hc0
        generalize us[i] = x at *
        go_wp2_with fail
        refine (dKnows M bh be k H S x hl _ HGr.out HMr.out).mono ?_
        rintro e w2 ⟨rfl, hb2⟩
        rw [show (right x && kn S x) = P x by rw [HP.out]]
        have hg2 : GL [] w1 w2 := gl_below hb2 hgr.out
        have HM2 := Lib.hid (mind_below HMr.out hb2)
        have HG2 := Lib.hid (gok_below HGr.out hb2)
        have HO2 := Lib.hid (own_gl HOr.out (gl_below hb2 (gl_refl [] _)) (by simp))
        obtain ⟨vad, vm, vc, hvv⟩ := own_slice HO2.out
        subst hvv
        have hge6 := own_ge HO2.out
        have hsz2 := hg2.size
        have hgs := HG1.out.size
        clear hb2 c0
        go_wp2_with (at_builtin; go_must (refine wpList_append_own _ rfl _ _ 45 rfl w1.heap.size 4 t0 (.bool false) 1 1 Tryz.underlying45 ht0 htq1 htq2 htq3 rfl (by decide) _ _ _ rfl (own_alloc HO2.out _) ⟨w2.heap.size, 0, none⟩ 1 1 [.bool (P x)] rfl rfl ?c1 ?c2 ?c3 ?c4 ?c5 ?_; (case c1 => (exact cell_one_at rfl)); (case c2 => exact one1 rfl); (case c3 => (unfold maxLen; omega)); (case c4 => omega); (case c5 => (first | (simp; done) | (simp; omega))); (intro v6 w6 hown6 hgr6 _); (have HO6 := Lib.hid hown6); (have hgl6 : GL (Value.slice vad vm vc).ownBlock.toList (w2.alloc (.cells #[.bool (P x)] 4)) w6 := gl_grown hgr6 (gl_refl _ _) (fun r hr => .inl (Option.mem_toList.2 (show (Value.slice vad vm vc).ownBlock = some r from hr)))); (have hnot : ∀ r, r < w1.heap.size → r ∉ (Value.slice vad vm vc).ownBlock.toList := fun r hr hm => by (have := hge6 r (by simpa using hm)); omega); (have HM6 := Lib.hid (mind_gl (mind_gl HM2.out (gl_alloc (gl_refl [] _) (.cells #[.bool (P x)] 4)) (by simp) (by simp) (by simp)) hgl6 (hnot M hml.1) (hnot bh hml.2.1) (hnot be hml.2.2))); (have hg6 : GL [] w1 w6 := gl_step hgl6 (gl_alloc hg2 _) (fun r hr => .inr (hge6 r (by simpa using hr)))); (have HG6 := Lib.hid (gok_gl (gok_alloc HG2.out (.cells #[.bool (P x)] 4)) hgl6 (fun r hr => by (have := hge6 r (by simpa using hr)); omega))); (clear hown6 hgr6 hgl6 hnot)))
        go_roundw
        case rel => exact ⟨i + 1, by omega, by go_num, Lib.hid hg6, HM6, HG6, Lib.hid (by rw [HX.out]; simpa using HO6.out)⟩
        case measure => simp [intOf]; omega
    · obtain rfl : i = us.length := by omega
      have hOr := HOr.out
      rw [List.take_length] at hOr
      obtain ⟨qa, qc, hqv, hqq⟩ := knew_of hOr
      have HQ := Lib.hid hqq
      have hgwr : GL [] w wr := gl_step hgr.out hg1 (by simp)
      have hszr := hgr.out.size
      have hgs := HG1.out.size
      subst hqv
      clear hOr HOr hqq
      generalize w1.heap.size = B at *
      go_wp2_with fail
      refine (dCopy M bh be k H S _ HMr.out HGr.out).mono ?_
      rintro e w3 ⟨C, ch, ce, rfl, hC3, hr1, hr2, hr3, hb3⟩
      have hg3 : GL [] w w3 := gl_below hb3 hgwr
      have HM3 := Lib.hid (mind_below HMr.out hb3)
      have HG3 := Lib.hid (gok_below HGr.out hb3)
      have HC3 := Lib.hid hC3
      have hQ3 : us = [] ∨ ∃ g, qa = some ⟨g, 0, none⟩ ∧ B ≤ g ∧ g < wr.heap.size ∧ ∀ (i : Nat) (t : List UInt8), us[i]? = some t → w3.cell? ⟨g, i, none⟩ = some (.bool (P t)) := by
        rcases HQ.out with h | ⟨g, q1, q2, q3, q4⟩
        · exact .inl h
        · exact .inr ⟨g, q1, q2, q3, fun i t ht => cell_glx (q4 i t ht) (gl_below hb3 (gl_refl [] _)) (by simp)⟩
      have HQ3 := Lib.hid hQ3
      have HU3 := Lib.hid (show us = [] ∨ ∃ g o, ua = some ⟨g, o, none⟩ ∧ g < w.heap.size ∧ ∀ (i : Nat) (t : List UInt8), us[i]? = some t → w3.cell? ⟨g, o + i, none⟩ = some (.string (bs t)) by
        rcases HV3.out with ⟨_, _, _, h0⟩ | ⟨g, o, c, hv, hgl, hcc⟩
        · exact .inl h0
        · injection hv with hv1 hv2 hv3
          exact .inr ⟨g, o, hv1, hgl, fun i t ht => cell_glx (hcc i t ht) hg3 (by simp)⟩)
      have HW3 := Lib.hid (show ms = [] ∨ ∃ g o, ma = some ⟨g, o, none⟩ ∧ g < w.heap.size ∧ ∀ (i : Nat) (t : List UInt8), ms[i]? = some t → w3.cell? ⟨g, o + i, none⟩ = some (.string (bs t)) by
        rcases HV2.out with ⟨_, _, _, h0⟩ | ⟨g, o, c, hv, hgl, hcc⟩
        · exact .inl h0
        · injection hv with hv1 hv2 hv3
          exact .inr ⟨g, o, hv1, hgl, fun i t ht => cell_glx (hcc i t ht) hg3 (by simp)⟩)
      have hRS : ∀ r ∈ [bh, be, ch, ce], r ∈ ([] : List Nat) ∨ w.heap.size ≤ r := fun r hr => .inr (by have := hgwr.size; simp at hr; rcases hr with rfl | rfl | rfl | rfl <;> omega)
      have hLO : ∀ r ∈ [bh, be, ch, ce], gN ≤ r := fun r hr => by have := hgwr.size; simp at hr; rcases hr with rfl | rfl | rfl | rfl <;> omega
      have hno : ∀ g, g < w.heap.size → g ∉ [bh, be, ch, ce] := fun g hg hm => by rcases hRS g hm with h | h; simp at h; omega
      have hno2 : ∀ g, B ≤ g → g < wr.heap.size → g ∉ [bh, be, ch, ce] := fun g h1 h2 hm => by simp at hm; omega
      have HR4 := Lib.hid (And.intro hRS (And.intro hLO (And.intro hno hno2)))
      have hneC := hC3.ne
      have hneM := HM3.out.ne
      have HNE := Lib.hid (show C ∉ [bh, be] ∧ ch ∉ [bh, be] ∧ ce ∉ [bh, be] ∧ M ∉ [ch, ce] ∧ bh ∉ [ch, ce] ∧ be ∉ [ch, ce] by simp; omega)
      clear hC3 hb3 hQ3 hRS hLO hno hno2 HMr HGr HM1 HG1 HQ hgr HG HV2 HV3
      generalize wr.heap.size = D at *
      go_wp2_with fail
      go_loopw [12] (fun iv wr => ∃ (i : Nat) (H2 S2 : List UInt8 → Bool) (n2 : Nat), i ≤ us.length ∧ iv = .int .i64 i ∧ n2 ≤ k + i ∧ Hid (GL [bh, be, ch, ce] w3 wr) ∧ Hid (MindAt wr M bh be H S k) ∧ Hid (GOk wr) ∧ Hid (MindAt wr C ch ce H2 S2 n2) ∧ Hid (∀ t, H t = true → H2 t = true) ∧ Hid (∀ t, H2 t = true → kn S t = true)) (fun iv _ => us.length - (intOf iv).toNat)
      case atStart => exact ⟨0, H, S, k, by omega, rfl, by omega, Lib.hid (gl_refl _ _), HM3, HG3, HC3, Lib.hid (fun _ h => h), Lib.hid (ag_start hL.out hR.out)⟩
      case round =>
        obtain ⟨i, H2, S2, n2, hi, rfl, hn2k, hgr, HMr, HGr, HCr, HHr, HKr⟩ := hrel
        by_cases hlt : i < us.length
        · have i1 : (i : Int) < us.length := by omega
          rcases HU3.out with h0 | ⟨g, o, hua, hgl, hcc⟩
          · rw [h0] at hlt; simp at hlt
          rcases HQ3.out with h0 | ⟨q, hqa, hqb, hqd, hqq⟩
          · rw [h0] at hlt; simp at hlt
          subst hua hqa
          have hx : us[i]? = some us[i] := List.getElem?_eq_getElem hlt
          have c0 := cell_glx (hcc i _ hx) hgr.out (HR4.out.2.2.1 g hgl)
          have c1 := cell_glx (hqq i _ hx) hgr.out (HR4.out.2.2.2 q hqb hqd)
          have hl := HT3.out _ (List.getElem_mem hlt)
          clear hcc hqq hx
          generalize us[i] = x at *
          cases hPx : P x with
          | false =>
            rw [hPx] at c1
            clear hPx
            go_wp2_with fail
            go_roundw
            case rel => exact ⟨i + 1, H2, S2, n2, by omega, by go_num, by omega, hgr, HMr, HGr, HCr, HHr, HKr⟩
            case measure => simp [intOf]; omega
          | true =>
            rw [hPx] at c1
            rw [HP.out] at hPx
            simp only [Bool.and_eq_true] at hPx
            obtain ⟨hrx, hkx⟩ := hPx
            have hcz : learnC H2 n2 x = 0 := by rw [learnC_few H2 n2 x (by omega), if_pos hrx]
            have HCZ := Lib.hid hcz
            have HK2 := Lib.hid (ag_learn (n := n2) HKr.out hkx)
            have hn3 := (learnN_le H2 n2 x).2.1
            clear hrx hkx hcz
            go_wp2_with fail
            refine (dLearn C ch ce n2 _ S2 x hl _ HGr.out HCr.out).mono ?_
            rintro e w4 ⟨S4, rfl, hC4, hg4⟩
            rw [HCZ.out]
            have HC4 := Lib.hid hC4
            have HG4 := Lib.hid (gok_gl HGr.out hg4 (fun r hr => HR4.out.2.1 r (by simp at hr ⊢; omega)))
            have HM4 := Lib.hid (mind_gl HMr.out hg4 HNE.out.2.2.2.1 HNE.out.2.2.2.2.1 HNE.out.2.2.2.2.2)
            have HH4 := Lib.hid (show ∀ t, H t = true → learnH H2 n2 x t = true from fun t h => learnH_old (HHr.out t h))
            have hgw4 : GL [bh, be, ch, ce] w3 w4 := gl_step hg4 hgr.out (fun r hr => .inl (by simp at hr ⊢; omega))
            clear hC4 hg4 c0 c1
            generalize learnN H2 n2 x = n4 at *
            generalize learnH H2 n2 x = H4 at *
            go_wp2_with fail
            go_roundw
            case rel => exact ⟨i + 1, H4, S4, n4, by omega, by go_num, by omega, Lib.hid hgw4, HM4, HG4, HC4, HH4, HK2⟩
            case measure => simp [intOf]; omega
        · obtain rfl : i = us.length := by omega
          have HSAME := Lib.hid (show ∀ t, (right t && kn S2 t) = P t from fun t => by rw [HP.out]; exact ag_same HCr.out.rights hL.out HCr.out.least HHr.out HKr.out t)
          clear HHr HKr hn2k
          go_wp2_with fail
          go_loopw [13] (fun iv wr => ∃ i : Nat, i ≤ us.length ∧ iv = .int .i64 i ∧ Hid (GL [bh, be, ch, ce] w3 wr) ∧ Hid (MindAt wr M bh be H S k) ∧ Hid (GOk wr) ∧ Hid (MindAt wr C ch ce H2 S2 n2)) (fun iv _ => us.length - (intOf iv).toNat)
          case atStart => exact ⟨0, by omega, rfl, hgr, HMr, HGr, HCr⟩
          case round =>
            clear hgr HMr HGr HCr
            obtain ⟨i, hi, rfl, hgr, HMr, HGr, HCr⟩ := hrel
            by_cases hlt : i < us.length
            · have i1 : (i : Int) < us.length := by omega
              rcases HU3.out with h0 | ⟨g, o, hua, hgl, hcc⟩
              · rw [h0] at hlt; simp at hlt
              rcases HQ3.out with h0 | ⟨q, hqa, hqb, hqd, hqq⟩
              · rw [h0] at hlt; simp at hlt
              subst hua hqa
              have hx : us[i]? = some us[i] := List.getElem?_eq_getElem hlt
              have c0 := cell_glx (hcc i _ hx) hgr.out (HR4.out.2.2.1 g hgl)
              have c1 := cell_glx (hqq i _ hx) hgr.out (HR4.out.2.2.2 q hqb hqd)
              have hl := HT3.out _ (List.getElem_mem hlt)
              clear hcc hqq hx
              generalize us[i] = x at *
              have hCall : ∀ W, GL [] wr W → Calls Tryz.prog 12 #[.pointer (some ⟨C, 0, none⟩), .string (bs x)] W fun e W' => e = .returned (.bool (P x)) ∧ GL [] wr W' := fun W hW => (dKnows C ch ce n2 H2 S2 x hl W (gok_gl HGr.out hW (by simp)) (mind_gl HCr.out hW (by simp) (by simp) (by simp))).mono (fun e W' h => ⟨by rw [h.1, HSAME.out], gl_below h.2 hW⟩)
              generalize P x = b at *
              go_upto_region 20 with fail
              refine wp_region_I (ds := m20DS) (I := (fun W => GL [] wr W)) (G := GV (m20GS C g o q us.length uc qc i x b)) rfl rfl (distinct_of _ (by decide +kernel)) ?_ (by kernel_rfl) (gl_drew (gl_refl [] _)) ?_ ?_
              · intro d hd
                exact Nat.lt_of_lt_of_le (ltB_of (n := 154) m20DS (by decide +kernel) d hd) (by simp)
              · exact ⟨m2079 (by simp), m2080 (by simp), m2081 (by simp), m2082 (by simp) (by simp) i1, m2083 (by simp) (fun w h => cell_glx c0 h (by simp)), m2084 (by simp) (by simp) hCall, m2085 (by simp), m2086 (by simp), m2087 (by simp) (by simp) i1, m2088 (by simp) (fun w h => cell_glx c1 h (by simp)), m2089 (by simp) (by simp), trivial⟩
              · intro vs w' hl hv hI
                have hl0 : vs.length = 11 := hl
                clear hl
                obtain ⟨x0, r0, rfl, hl1⟩ := cons_of hl0
                clear hl0
                obtain ⟨x1, r1, rfl, hl2⟩ := cons_of hl1
                clear hl1
                obtain ⟨x2, r2, rfl, hl3⟩ := cons_of hl2
                clear hl2
                obtain ⟨x3, r3, rfl, hl4⟩ := cons_of hl3
                clear hl3
                obtain ⟨x4, r4, rfl, hl5⟩ := cons_of hl4
                clear hl4
                obtain ⟨x5, r5, rfl, hl6⟩ := cons_of hl5
                clear hl5
                obtain ⟨x6, r6, rfl, hl7⟩ := cons_of hl6
                clear hl6
                obtain ⟨x7, r7, rfl, hl8⟩ := cons_of hl7
                clear hl7
                obtain ⟨x8, r8, rfl, hl9⟩ := cons_of hl8
                clear hl8
                obtain ⟨x9, r9, rfl, hl10⟩ := cons_of hl9
                clear hl9
                obtain ⟨x10, r10, rfl, hl11⟩ := cons_of hl10
                clear hl10
                have e10 : x10 = .bool false := hv 10 x10 (by simp) _ rfl
                subst e10
                obtain rfl : r10 = [] := List.eq_nil_of_length_eq_zero hl11
                clear hv
                simp only [m20DS, setAll, List.setIfInBounds_toArray, List.set_cons_zero, List.set_cons_succ]
                have HM5 := Lib.hid (mind_gl HMr.out hI (by simp) (by simp) (by simp))
                have HC5 := Lib.hid (mind_gl HCr.out hI (by simp) (by simp) (by simp))
                have HG5 := Lib.hid (gok_gl HGr.out hI (by simp))
                have hg5 : GL [bh, be, ch, ce] w3 w' := gl_step hI hgr.out (by simp)
                clear hI
                go_wp2_with fail
                go_roundw
                case rel => exact ⟨i + 1, by omega, by go_num, Lib.hid hg5, HM5, HG5, HC5⟩
                case measure => simp [intOf]; omega
            · obtain rfl : i = us.length := by omega
              clear HSAME HCr
              go_wp2_with fail
              go_loopw [14] (fun iv wr => ∃ i : Nat, i ≤ us.length ∧ iv = .int .i64 i ∧ Hid (GL [bh, be, ch, ce] w3 wr) ∧ Hid (MindAt wr M bh be H S k) ∧ Hid (GOk wr)) (fun iv _ => us.length - (intOf iv).toNat)
              case atStart => exact ⟨0, by omega, rfl, hgr, HMr, HGr⟩
              case round =>
                clear hgr HMr HGr
                obtain ⟨i, hi, rfl, hgr, HMr, HGr⟩ := hrel
                by_cases hlt : i + 1 < us.length
                · have i1 : (i : Int) < us.length := by omega
                  have i2 : (i : Int) + 1 < us.length := by omega
                  have i5 : IntKind.i64.wrap ((i : Int) + 1) = (i : Int) + 1 := IntWalk.i64_in _ (by omega)
                  rcases HU3.out with h0 | ⟨g, o, hua, hgl, hcc⟩
                  · rw [h0] at hlt; simp at hlt
                  rcases HQ3.out with h0 | ⟨q, hqa, hqb, hqd, hqq⟩
                  · rw [h0] at hlt; simp at hlt
                  subst hua hqa
                  have hx : us[i]? = some us[i] := List.getElem?_eq_getElem (by omega)
                  have hy : us[i + 1]? = some us[i + 1] := List.getElem?_eq_getElem hlt
                  have c0 := cell_glx (hcc i _ hx) hgr.out (HR4.out.2.2.1 g hgl)
                  have c3 := cell_glx (hcc (i + 1) _ hy) hgr.out (HR4.out.2.2.1 g hgl)
                  have c1 := cell_glx (hqq i _ hx) hgr.out (HR4.out.2.2.2 q hqb hqd)
                  have c2 := cell_glx (hqq (i + 1) _ hy) hgr.out (HR4.out.2.2.2 q hqb hqd)
                  clear hcc hqq hx hy
                  generalize us[i] = x at *
                  generalize us[i + 1] = y at *
                  have HCALL := Lib.hid (show P x = true → P y = true → ∀ W, GL [] wr W → Calls Tryz.prog 25 #[.pointer (some ⟨M, 0, none⟩), .string (bs x), .string (bs y)] W fun e W' => e = .returned (.bool true) ∧ GL [] wr W' from fun h1 h2 W hW => by
                    rw [HP.out] at h1 h2
                    simp only [Bool.and_eq_true] at h1 h2
                    have l1 := (right_len h1.1).2
                    have l2 := (right_len h2.1).2
                    exact (lMakes03 M bh be k H S x y (by omega) (by omega) h1.1 h2.1 h1.2 h2.2 W (gok_gl HGr.out hW (by simp)) (mind_gl HMr.out hW (by simp) (by simp) (by simp))).mono (fun e W' h => ⟨h.1, gl_below h.2 hW⟩))
                  generalize P x = b1 at *
                  generalize P y = b2 at *
                  go_upto_region 25 with fail
                  cases b1 with
                  | false =>
                    refine wp_region_I (ds := m25aDS) (I := (fun W => GL [] wr W)) (G := GV (m25aGS M g o q us.length uc qc i x y)) rfl rfl (distinct_of _ (by decide +kernel)) ?_ (by kernel_rfl) (gl_drew (gl_refl [] _)) ?_ ?_
                    · intro d hd
                      exact Nat.lt_of_lt_of_le (ltB_of (n := 154) m25aDS (by decide +kernel) d hd) (by simp)
                    · exact ⟨m25a97 (by simp), m25a98 (by simp), m25a99 (by simp) (by simp) i1, m25a100 (by simp) (fun w h => cell_glx c1 h (by simp)), m25a101 (by simp), m25a102 (by simp) rfl, m25a103 (by simp) rfl, m25a104 (by simp) rfl, m25a105 (by simp) rfl, m25a106 (by simp) rfl, m25a107 (by simp), m25a108 (by simp), m25a109 (by simp) rfl, m25a110 (by simp) rfl, m25a111 (by simp) rfl, m25a112 (by simp) rfl, m25a113 (by simp) rfl, m25a114 (by simp) rfl, m25a115 (by simp) rfl, m25a116 (by simp) rfl, m25a117 (by simp) rfl, m25a118 (by simp) rfl, m25a119 (by simp) rfl, m25a120 (by simp) rfl, m25a121 (by simp), trivial⟩
                    · intro vs w' hl hv hI
                      have hl0 : vs.length = 25 := hl
                      clear hl
                      obtain ⟨x0, r0, rfl, hl1⟩ := cons_of hl0
                      clear hl0
                      obtain ⟨x1, r1, rfl, hl2⟩ := cons_of hl1
                      clear hl1
                      obtain ⟨x2, r2, rfl, hl3⟩ := cons_of hl2
                      clear hl2
                      obtain ⟨x3, r3, rfl, hl4⟩ := cons_of hl3
                      clear hl3
                      obtain ⟨x4, r4, rfl, hl5⟩ := cons_of hl4
                      clear hl4
                      obtain ⟨x5, r5, rfl, hl6⟩ := cons_of hl5
                      clear hl5
                      obtain ⟨x6, r6, rfl, hl7⟩ := cons_of hl6
                      clear hl6
                      obtain ⟨x7, r7, rfl, hl8⟩ := cons_of hl7
                      clear hl7
                      obtain ⟨x8, r8, rfl, hl9⟩ := cons_of hl8
                      clear hl8
                      obtain ⟨x9, r9, rfl, hl10⟩ := cons_of hl9
                      clear hl9
                      obtain ⟨x10, r10, rfl, hl11⟩ := cons_of hl10
                      clear hl10
                      obtain ⟨x11, r11, rfl, hl12⟩ := cons_of hl11
                      clear hl11
                      obtain ⟨x12, r12, rfl, hl13⟩ := cons_of hl12
                      clear hl12
                      obtain ⟨x13, r13, rfl, hl14⟩ := cons_of hl13
                      clear hl13
                      obtain ⟨x14, r14, rfl, hl15⟩ := cons_of hl14
                      clear hl14
                      obtain ⟨x15, r15, rfl, hl16⟩ := cons_of hl15
                      clear hl15
                      obtain ⟨x16, r16, rfl, hl17⟩ := cons_of hl16
                      clear hl16
                      obtain ⟨x17, r17, rfl, hl18⟩ := cons_of hl17
                      clear hl17
                      obtain ⟨x18, r18, rfl, hl19⟩ := cons_of hl18
                      clear hl18
                      obtain ⟨x19, r19, rfl, hl20⟩ := cons_of hl19
                      clear hl19
                      obtain ⟨x20, r20, rfl, hl21⟩ := cons_of hl20
                      clear hl20
                      obtain ⟨x21, r21, rfl, hl22⟩ := cons_of hl21
                      clear hl21
                      obtain ⟨x22, r22, rfl, hl23⟩ := cons_of hl22
                      clear hl22
                      obtain ⟨x23, r23, rfl, hl24⟩ := cons_of hl23
                      clear hl23
                      obtain ⟨x24, r24, rfl, hl25⟩ := cons_of hl24
                      clear hl24
                      have e24 : x24 = .bool false := hv 24 x24 (by simp) _ rfl
                      subst e24
                      obtain rfl : r24 = [] := List.eq_nil_of_length_eq_zero hl25
                      clear hv
                      simp only [m25aDS, setAll, List.setIfInBounds_toArray, List.set_cons_zero, List.set_cons_succ]
                      have HM5 := Lib.hid (mind_gl HMr.out hI (by simp) (by simp) (by simp))
                      have HG5 := Lib.hid (gok_gl HGr.out hI (by simp))
                      have hg5 : GL [bh, be, ch, ce] w3 w' := gl_step hI hgr.out (by simp)
                      clear hI HCALL c0 c1 c2 c3
                      go_wp2_with fail
                      go_roundw
                      case rel => exact ⟨i + 1, by omega, by go_num, Lib.hid hg5, HM5, HG5⟩
                      case measure => simp [intOf]; omega
                  | true =>
                    cases b2 with
                    | false =>
                      refine wp_region_I (ds := m25bDS) (I := (fun W => GL [] wr W)) (G := GV (m25bGS M g o q us.length uc qc i x y)) rfl rfl (distinct_of _ (by decide +kernel)) ?_ (by kernel_rfl) (gl_drew (gl_refl [] _)) ?_ ?_
                      · intro d hd
                        exact Nat.lt_of_lt_of_le (ltB_of (n := 154) m25bDS (by decide +kernel) d hd) (by simp)
                      · exact ⟨m25b97 (by simp), m25b98 (by simp), m25b99 (by simp) (by simp) i1, m25b100 (by simp) (fun w h => cell_glx c1 h (by simp)), m25b101 (by simp), m25b102 (by simp) rfl (by simp), m25b103 (by simp) rfl (by simp), m25b104 (by simp) rfl (by simp) i5, m25b105 (by simp) rfl (by simp) (by simp) i2 (by omega) (by omega), m25b106 (by simp) rfl (by simp) (fun w h => cell_glx c2 h (by simp)), m25b107 (by simp) (by simp), m25b108 (by simp), m25b109 (by simp) rfl, m25b110 (by simp) rfl, m25b111 (by simp) rfl, m25b112 (by simp) rfl, m25b113 (by simp) rfl, m25b114 (by simp) rfl, m25b115 (by simp) rfl, m25b116 (by simp) rfl, m25b117 (by simp) rfl, m25b118 (by simp) rfl, m25b119 (by simp) rfl, m25b120 (by simp) rfl, m25b121 (by simp), trivial⟩
                      · intro vs w' hl hv hI
                        have hl0 : vs.length = 25 := hl
                        clear hl
                        obtain ⟨x0, r0, rfl, hl1⟩ := cons_of hl0
                        clear hl0
                        obtain ⟨x1, r1, rfl, hl2⟩ := cons_of hl1
                        clear hl1
                        obtain ⟨x2, r2, rfl, hl3⟩ := cons_of hl2
                        clear hl2
                        obtain ⟨x3, r3, rfl, hl4⟩ := cons_of hl3
                        clear hl3
                        obtain ⟨x4, r4, rfl, hl5⟩ := cons_of hl4
                        clear hl4
                        obtain ⟨x5, r5, rfl, hl6⟩ := cons_of hl5
                        clear hl5
                        obtain ⟨x6, r6, rfl, hl7⟩ := cons_of hl6
                        clear hl6
                        obtain ⟨x7, r7, rfl, hl8⟩ := cons_of hl7
                        clear hl7
                        obtain ⟨x8, r8, rfl, hl9⟩ := cons_of hl8
                        clear hl8
                        obtain ⟨x9, r9, rfl, hl10⟩ := cons_of hl9
                        clear hl9
                        obtain ⟨x10, r10, rfl, hl11⟩ := cons_of hl10
                        clear hl10
                        obtain ⟨x11, r11, rfl, hl12⟩ := cons_of hl11
                        clear hl11
                        obtain ⟨x12, r12, rfl, hl13⟩ := cons_of hl12
                        clear hl12
                        obtain ⟨x13, r13, rfl, hl14⟩ := cons_of hl13
                        clear hl13
                        obtain ⟨x14, r14, rfl, hl15⟩ := cons_of hl14
                        clear hl14
                        obtain ⟨x15, r15, rfl, hl16⟩ := cons_of hl15
                        clear hl15
                        obtain ⟨x16, r16, rfl, hl17⟩ := cons_of hl16
                        clear hl16
                        obtain ⟨x17, r17, rfl, hl18⟩ := cons_of hl17
                        clear hl17
                        obtain ⟨x18, r18, rfl, hl19⟩ := cons_of hl18
                        clear hl18
                        obtain ⟨x19, r19, rfl, hl20⟩ := cons_of hl19
                        clear hl19
                        obtain ⟨x20, r20, rfl, hl21⟩ := cons_of hl20
                        clear hl20
                        obtain ⟨x21, r21, rfl, hl22⟩ := cons_of hl21
                        clear hl21
                        obtain ⟨x22, r22, rfl, hl23⟩ := cons_of hl22
                        clear hl22
                        obtain ⟨x23, r23, rfl, hl24⟩ := cons_of hl23
                        clear hl23
                        obtain ⟨x24, r24, rfl, hl25⟩ := cons_of hl24
                        clear hl24
                        have e24 : x24 = .bool false := hv 24 x24 (by simp) _ rfl
                        subst e24
                        obtain rfl : r24 = [] := List.eq_nil_of_length_eq_zero hl25
                        clear hv
                        simp only [m25bDS, setAll, List.setIfInBounds_toArray, List.set_cons_zero, List.set_cons_succ]
                        have HM5 := Lib.hid (mind_gl HMr.out hI (by simp) (by simp) (by simp))
                        have HG5 := Lib.hid (gok_gl HGr.out hI (by simp))
                        have hg5 : GL [bh, be, ch, ce] w3 w' := gl_step hI hgr.out (by simp)
                        clear hI HCALL c0 c1 c2 c3
                        go_wp2_with fail
                        go_roundw
                        case rel => exact ⟨i + 1, by omega, by go_num, Lib.hid hg5, HM5, HG5⟩
                        case measure => simp [intOf]; omega
                    | true =>
                      have hCall := HCALL.out rfl rfl
                      refine wp_region_I (ds := m25cDS) (I := (fun W => GL [] wr W)) (G := GV (m25cGS M g o q us.length uc qc i x y)) rfl rfl (distinct_of _ (by decide +kernel)) ?_ (by kernel_rfl) (gl_drew (gl_refl [] _)) ?_ ?_
                      · intro d hd
                        exact Nat.lt_of_lt_of_le (ltB_of (n := 154) m25cDS (by decide +kernel) d hd) (by simp)
                      · exact ⟨m25c97 (by simp), m25c98 (by simp), m25c99 (by simp) (by simp) i1, m25c100 (by simp) (fun w h => cell_glx c1 h (by simp)), m25c101 (by simp), m25c102 (by simp) rfl (by simp), m25c103 (by simp) rfl (by simp), m25c104 (by simp) rfl (by simp) i5, m25c105 (by simp) rfl (by simp) (by simp) i2 (by omega) (by omega), m25c106 (by simp) rfl (by simp) (fun w h => cell_glx c2 h (by simp)), m25c107 (by simp) (by simp), m25c108 (by simp), m25c109 (by simp) rfl (by simp), m25c110 (by simp) rfl (by simp), m25c111 (by simp) rfl (by simp), m25c112 (by simp) rfl (by simp) (by simp) i1, m25c113 (by simp) rfl (by simp) (fun w h => cell_glx c0 h (by simp)), m25c114 (by simp) rfl (by simp), m25c115 (by simp) rfl (by simp), m25c116 (by simp) rfl (by simp) i5, m25c117 (by simp) rfl (by simp) (by simp) i2 (by omega) (by omega), m25c118 (by simp) rfl (by simp) (fun w h => cell_glx c3 h (by simp)), m25c119 (by simp) rfl (by simp) (by simp) (by simp) hCall, m25c120 (by simp) rfl (by simp), m25c121 (by simp) (by simp), trivial⟩
                      · intro vs w' hl hv hI
                        have hl0 : vs.length = 25 := hl
                        clear hl
                        obtain ⟨x0, r0, rfl, hl1⟩ := cons_of hl0
                        clear hl0
                        obtain ⟨x1, r1, rfl, hl2⟩ := cons_of hl1
                        clear hl1
                        obtain ⟨x2, r2, rfl, hl3⟩ := cons_of hl2
                        clear hl2
                        obtain ⟨x3, r3, rfl, hl4⟩ := cons_of hl3
                        clear hl3
                        obtain ⟨x4, r4, rfl, hl5⟩ := cons_of hl4
                        clear hl4
                        obtain ⟨x5, r5, rfl, hl6⟩ := cons_of hl5
                        clear hl5
                        obtain ⟨x6, r6, rfl, hl7⟩ := cons_of hl6
                        clear hl6
                        obtain ⟨x7, r7, rfl, hl8⟩ := cons_of hl7
                        clear hl7
                        obtain ⟨x8, r8, rfl, hl9⟩ := cons_of hl8
                        clear hl8
                        obtain ⟨x9, r9, rfl, hl10⟩ := cons_of hl9
                        clear hl9
                        obtain ⟨x10, r10, rfl, hl11⟩ := cons_of hl10
                        clear hl10
                        obtain ⟨x11, r11, rfl, hl12⟩ := cons_of hl11
                        clear hl11
                        obtain ⟨x12, r12, rfl, hl13⟩ := cons_of hl12
                        clear hl12
                        obtain ⟨x13, r13, rfl, hl14⟩ := cons_of hl13
                        clear hl13
                        obtain ⟨x14, r14, rfl, hl15⟩ := cons_of hl14
                        clear hl14
                        obtain ⟨x15, r15, rfl, hl16⟩ := cons_of hl15
                        clear hl15
                        obtain ⟨x16, r16, rfl, hl17⟩ := cons_of hl16
                        clear hl16
                        obtain ⟨x17, r17, rfl, hl18⟩ := cons_of hl17
                        clear hl17
                        obtain ⟨x18, r18, rfl, hl19⟩ := cons_of hl18
                        clear hl18
                        obtain ⟨x19, r19, rfl, hl20⟩ := cons_of hl19
                        clear hl19
                        obtain ⟨x20, r20, rfl, hl21⟩ := cons_of hl20
                        clear hl20
                        obtain ⟨x21, r21, rfl, hl22⟩ := cons_of hl21
                        clear hl21
                        obtain ⟨x22, r22, rfl, hl23⟩ := cons_of hl22
                        clear hl22
                        obtain ⟨x23, r23, rfl, hl24⟩ := cons_of hl23
                        clear hl23
                        obtain ⟨x24, r24, rfl, hl25⟩ := cons_of hl24
                        clear hl24
                        have e24 : x24 = .bool false := hv 24 x24 (by simp) _ rfl
                        subst e24
                        obtain rfl : r24 = [] := List.eq_nil_of_length_eq_zero hl25
                        clear hv
                        simp only [m25cDS, setAll, List.setIfInBounds_toArray, List.set_cons_zero, List.set_cons_succ]
                        have HM5 := Lib.hid (mind_gl HMr.out hI (by simp) (by simp) (by simp))
                        have HG5 := Lib.hid (gok_gl HGr.out hI (by simp))
                        have hg5 : GL [bh, be, ch, ce] w3 w' := gl_step hI hgr.out (by simp)
                        clear hI HCALL c0 c1 c2 c3
                        go_wp2_with fail
                        go_roundw
                        case rel => exact ⟨i + 1, by omega, by go_num, Lib.hid hg5, HM5, HG5⟩
                        case measure => simp [intOf]; omega
                · have i4 : ¬ ((i : Int) + 1 < us.length) := by omega
                  clear hlt
                  go_wp2_with fail
                  go_loopw [15] (fun iv wr => ∃ (i : Nat) (H4 S4 : List UInt8 → Bool) (n4 : Nat), i ≤ ms.length ∧ iv = .int .i64 i ∧ Hid (GL [bh, be, ch, ce] w3 wr) ∧ Hid (MindAt wr M bh be H4 S4 n4) ∧ Hid (GOk wr) ∧ Hid (∀ t, H t = true → H4 t = true)) (fun iv _ => ms.length - (intOf iv).toNat)
                  case atStart => exact ⟨0, H, S, k, by omega, rfl, hgr, HMr, HGr, Lib.hid (fun _ h => h)⟩
                  case round =>
                    clear hgr HMr HGr i4 hi
                    obtain ⟨i, H4, S4, n4, hi, rfl, hgr, HMr, HGr, HHr⟩ := hrel
                    by_cases hlt : i < ms.length
                    · have i1 : (i : Int) < ms.length := by omega
                      rcases HW3.out with h0 | ⟨g, o, hua, hgl, hcc⟩
                      · rw [h0] at hlt; simp at hlt
                      subst hua
                      have hx : ms[i]? = some ms[i] := List.getElem?_eq_getElem hlt
                      have c0 := cell_glx (hcc i _ hx) hgr.out (HR4.out.2.2.1 g hgl)
                      have hl := HT2.out _ (List.getElem_mem hlt)
                      clear hcc hx
                      generalize ms[i] = x at *
                      go_wp2_with fail
                      refine (dLearn M bh be n4 _ S4 x hl _ HGr.out HMr.out).mono ?_
                      rintro e w5 ⟨S5, rfl, hM5, hg5⟩
                      have HM5 := Lib.hid hM5
                      have HG5 := Lib.hid (gok_gl HGr.out hg5 (fun r hr => HR4.out.2.1 r (by simp at hr ⊢; omega)))
                      have HH5 := Lib.hid (show ∀ t, H t = true → learnH H4 n4 x t = true from fun t h => learnH_old (HHr.out t h))
                      have hgw5 : GL [bh, be, ch, ce] w3 w5 := gl_step hg5 hgr.out (fun r hr => .inl (by simp at hr ⊢; omega))
                      clear hM5 hg5 c0
                      generalize learnC H4 n4 x = z5 at *
                      generalize learnN H4 n4 x = n5 at *
                      generalize learnH H4 n4 x = H5 at *
                      go_wp2_with fail
                      go_roundw
                      case rel => exact ⟨i + 1, H5, S5, n5, by omega, by go_num, Lib.hid hgw5, HM5, HG5, HH5⟩
                      case measure => simp [intOf]; omega
                    · obtain rfl : i = ms.length := by omega
                      have HMORE := Lib.hid (show ∀ t, P t = true → (right t && kn S4 t) = true from fun t ht => by rw [HP.out] at ht; exact ag_more hL.out HMr.out.least HHr.out t ht)
                      clear HHr
                      go_wp2_with fail
                      go_loopw [16] (fun iv wr => ∃ i : Nat, i ≤ us.length ∧ iv = .int .i64 i ∧ Hid (GL [bh, be, ch, ce] w3 wr) ∧ Hid (MindAt wr M bh be H4 S4 n4) ∧ Hid (GOk wr)) (fun iv _ => us.length - (intOf iv).toNat)
                      case atStart => exact ⟨0, by omega, rfl, hgr, HMr, HGr⟩
                      case round =>
                        clear hgr HMr HGr hi
                        obtain ⟨i, hi, rfl, hgr, HMr, HGr⟩ := hrel
                        by_cases hlt : i < us.length
                        · have i1 : (i : Int) < us.length := by omega
                          rcases HU3.out with h0 | ⟨g, o, hua, hgl, hcc⟩
                          · rw [h0] at hlt; simp at hlt
                          rcases HQ3.out with h0 | ⟨q, hqa, hqb, hqd, hqq⟩
                          · rw [h0] at hlt; simp at hlt
                          subst hua hqa
                          have hx : us[i]? = some us[i] := List.getElem?_eq_getElem hlt
                          have c0 := cell_glx (hcc i _ hx) hgr.out (HR4.out.2.2.1 g hgl)
                          have c1 := cell_glx (hqq i _ hx) hgr.out (HR4.out.2.2.2 q hqb hqd)
                          have hl := HT3.out _ (List.getElem_mem hlt)
                          clear hcc hqq hx
                          generalize us[i] = x at *
                          cases hPx : P x with
                          | false =>
                            rw [hPx] at c1
                            clear hPx
                            go_wp2_with fail
                            go_roundw
                            case rel => exact ⟨i + 1, by omega, by go_num, hgr, HMr, HGr⟩
                            case measure => simp [intOf]; omega
                          | true =>
                            rw [hPx] at c1
                            have HKX := Lib.hid (HMORE.out x hPx)
                            clear hPx
                            go_wp2_with fail
                            refine (dKnows M bh be n4 H4 S4 x hl _ HGr.out HMr.out).mono ?_
                            rintro e w6 ⟨rfl, hb6⟩
                            rw [HKX.out]
                            have HM6 := Lib.hid (mind_below HMr.out hb6)
                            have HG6 := Lib.hid (gok_below HGr.out hb6)
                            have hg6 : GL [bh, be, ch, ce] w3 w6 := gl_below hb6 hgr.out
                            clear hb6
                            go_wp2_with fail
                            go_roundw
                            case rel => exact ⟨i + 1, by omega, by go_num, Lib.hid hg6, HM6, HG6⟩
                            case measure => simp [intOf]; omega
                        · obtain rfl : i = us.length := by omega
                          go_wp2_with fail
                          refine (lWorks03 _ HGr.out).mono ?_
                          rintro e w7 ⟨rfl, hb7⟩
                          have hg7 : GL [] w w7 := gl_below hb7 (gl_step hgr.out hg3 HR4.out.1)
                          go_wp2_with fail
                          go_ret
                          exact ⟨by first | rfl | (simp; done), gl_to_below hg7⟩
                end Go.Proofs.YtdipkblmcloifaaGreatDoor
