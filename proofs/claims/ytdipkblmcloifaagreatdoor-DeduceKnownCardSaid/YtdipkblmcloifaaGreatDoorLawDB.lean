/- The laws of layer 3: one that has heard a list. -/
import Derived.Test.YtdipkblmcloifaaGreatDoorLawDA
import Derived.Test.YtdipkblmcloifaaGreatDoorMRef
set_option linter.unusedSimpArgs false
set_option linter.unusedVariables false
namespace Go.Proofs.YtdipkblmcloifaaGreatDoor
open Go.RowKit

theorem filter_snoc (p : List UInt8 → Bool) (l : List (List UInt8)) (i : Nat) (x : List UInt8) (h : l[i]? = some x) : (l.take (i + 1)).filter p = if p x = true then (l.take i).filter p ++ [x] else (l.take i).filter p := by
  rw [List.take_add_one, h, List.filter_append]
  cases hq : p x <;> simp [hq]
theorem heardP_snoc (l : List (List UInt8)) (i n : Nat) (x : List UInt8) (h : l[i]? = some x) (hn : n < 1024) : learnH (heardP (l.take i)) n x = heardP (l.take (i + 1)) := by
  rw [heardP_add _ _ _ hn, List.take_add_one, h]; rfl

/-- What is answered: a mind, and a row of its own of what it took. -/
def MindP (ts : List (List UInt8)) (w : World) (e : Ending) (w' : World) : Prop :=
  ∃ M bh be n S hd B, e = .returned (.tuple #[.pointer (some ⟨M, 0, none⟩), hd]) ∧ MindAt w' M bh be (heardP ts) S n ∧ n ≤ ts.length ∧ w'.ownsRow B 28 1 hd (ts.filter right).length ((ts.filter right).map fun y => .string (bs y)) ∧ w.heap.size ≤ M ∧ w.heap.size ≤ bh ∧ w.heap.size ≤ be ∧ M < B ∧ bh < B ∧ be < B ∧ Below w.heap.size w w'
set_option maxRecDepth 100000 in
set_option maxHeartbeats 4000000 in
theorem lMindO (ts : List (List UInt8)) (hn : ts.length ≤ 40) (htl : ∀ t ∈ ts, t.length ≤ 9000000000000000000) (v : Value) (w : World) (hv : TermsAt v ts w) (hG : GOk w) :
    Calls Tryz.prog 11 #[v] w (MindP ts w) := by
  obtain ⟨ad, c, rfl, hd⟩ := termsAt_open hv
  have HD := Lib.hid hd
  have HTL := Lib.hid htl
  have HG := Lib.hid hG
  clear hd hv htl hG
  obtain ⟨t0, ht0, ht1, ht2, ht3⟩ := info_parts Tryz.infoTerm
  go_enter Tryz.func11, Tryz.ntmps11
  go_wp2_with fail
  refine (dNew _ HG.out).mono ?_
  rintro e w1 ⟨M, bh, be, rfl, hM1, hq1, hq2, hq3, hb1⟩
  have hml := mind_lt hM1
  have hlow := hM1.low
  rw [← heardP_nil] at hM1
  have HM1 := Lib.hid hM1
  have HG1 := Lib.hid (gok_below HG.out hb1)
  have hg1 : GL [] w w1 := gl_below hb1 (gl_refl _ _)
  have HRS := Lib.hid (show ∀ r ∈ [bh, be], r ∈ ([] : List Nat) ∨ w.heap.size ≤ r from fun r hr => .inr (by simp at hr; rcases hr with rfl | rfl <;> assumption))
  have HLO := Lib.hid (show ∀ r ∈ [bh, be], gN ≤ r from fun r hr => by simp at hr; rcases hr with rfl | rfl; exact hlow.2.1; exact hlow.2.2)
  clear hM1 hb1
  go_wp2_with fail
  go_loopw [5, 6] (fun nv iv wr => ∃ (i n : Nat) (S : List UInt8 → Bool), i ≤ ts.length ∧ iv = .int .i64 i ∧ n ≤ i ∧ Hid (MindAt wr M bh be (heardP (ts.take i)) S n) ∧ Hid (wr.ownsRow w1.heap.size 28 1 nv ((ts.take i).filter right).length (((ts.take i).filter right).map fun y => .string (bs y))) ∧ Hid (GL [] w wr) ∧ Hid (GOk wr) ∧ w1.heap.size ≤ wr.heap.size) (fun _ iv _ => ts.length - (intOf iv).toNat)
  case atStart => exact ⟨0, 0, _, by omega, rfl, by omega, HM1, Lib.hid (World.ownsRow_nil _ _ _ _), Lib.hid hg1, HG1, Nat.le_refl _⟩
  case round =>
    obtain ⟨i, n, S, hi, rfl, hni, HMr, HOr, hgr, HGr, hszr⟩ := hrel
    by_cases hlt : i < ts.length
    · have i1 : (i : Int) < ts.length := by omega
      rcases HD.out with h0 | ⟨b, o, rfl, hb, hc⟩
      · subst h0; simp at hlt
      · have hx : ts[i]? = some ts[i] := List.getElem?_eq_getElem hlt
        have hc0 := hc i _ hx
        have c0 : wr.cell? ⟨b, o + i, none⟩ = some (.string (bs ts[i])) := cell_glx hc0 hgr.out (by simp)
        have hl := HTL.out _ (List.getElem_mem hlt)
        have HF := Lib.hid (filter_snoc right ts i _ hx)
        have HH := Lib.hid (heardP_snoc ts i n _ hx (by omega))
        clear hx hc
        generalize ts[i] = x at *
        go_wp2_with fail
        refine (dLearn M bh be n _ S x hl _ HGr.out HMr.out).mono ?_
        rintro e w3 ⟨S3, rfl, hM3, hg3⟩
        rw [HH.out] at hM3
        have hn3 := (learnN_le (heardP (ts.take i)) n x).2.1
        have hcc := learnC_few (heardP (ts.take i)) n x (by omega)
        have HM3 := Lib.hid hM3
        have HG3 := Lib.hid (gok_gl HGr.out hg3 HLO.out)
        have hgw3 : GL [] w w3 := gl_step hg3 hgr.out HRS.out
        have HO3 := Lib.hid (own_gl HOr.out hg3 (fun r hr e => by have := own_ge HOr.out r e; simp at hr; rcases hr with rfl | rfl <;> omega))
        have hsz3 := hg3.size
        have c3 : w3.cell? ⟨b, o + i, none⟩ = some (.string (bs x)) := cell_glx hc0 hgw3 (by simp)
        clear hM3 c0 hg3
        obtain ⟨cz, hcz⟩ : ∃ cz : Int, cz = (if right x = true then 0 else 10) := ⟨_, rfl⟩
        rw [hcc, ← hcz]
        clear hcc
        have HCZ := Lib.hid hcz
        clear hcz
        generalize learnN (heardP (ts.take i)) n x = n3 at *
        go_wp2_with fail
        refine (refRight x hl _).mono ?_
        rintro e w4 ⟨rfl, hb4⟩
        have HM4 := Lib.hid (mind_below HM3.out hb4)
        have HG4 := Lib.hid (gok_below HG3.out hb4)
        have hgw4 : GL [] w w4 := gl_below hb4 hgw3
        have HO4 := Lib.hid (own_gl HO3.out (gl_below hb4 (gl_refl [] _)) (by simp))
        have hsz4 := hb4.size
        have c4 : w4.cell? ⟨b, o + i, none⟩ = some (.string (bs x)) := cell_glx hc0 hgw4 (by simp)
        clear hb4 c3
        cases hr : right x with
        | true =>
          have HF2 : Hid ((ts.take (i + 1)).filter right = (ts.take i).filter right ++ [x]) := by show _ = _; rw [HF.out, if_pos hr]
          have hfl : ((ts.take i).filter right).length ≤ 40 := by have := List.length_filter_le right (ts.take i); rw [List.length_take] at this; omega
          have HL4 := Lib.hid hfl
          obtain rfl : cz = 0 := by rw [HCZ.out, if_pos hr]
          obtain ⟨vad, vm, vc, hvv⟩ := own_slice HO4.out
          subst hvv
          clear hr hfl
          go_wp2_with (at_builtin; go_must (refine wpList_append_own _ rfl _ _ 22 rfl w1.heap.size 28 t0 (.string ByteArray.empty) 1 16 Tryz.underlying22 ht0 ht1 ht2 ht3 rfl (by decide) _ _ _ rfl (own_alloc HO4.out _) ⟨w4.heap.size, 0, none⟩ 1 1 [.string (bs x)] rfl rfl ?c1 ?c2 ?c3 ?c4 ?c5 ?_; (case c1 => (exact cell_one_at rfl)); (case c2 => exact one1 rfl); (case c3 => (have := HL4.out; unfold maxLen; omega)); (case c4 => (have := HL4.out; omega)); (case c5 => (first | (simp; done) | (simp; omega))); (intro v6 w6 hown6 hgr6 _); (have HO6 := Lib.hid hown6); (have hge6 := own_ge HO4.out); (have hgl6 : GL (Value.slice vad vm vc).ownBlock.toList (w4.alloc (.cells #[.string (bs x)] 28)) w6 := gl_grown hgr6 (gl_refl _ _) (fun r hr => .inl (Option.mem_toList.2 (show (Value.slice vad vm vc).ownBlock = some r from hr)))); (have hnot : ∀ r, r < w1.heap.size → r ∉ (Value.slice vad vm vc).ownBlock.toList := fun r hr hm => by (have := hge6 r (by simpa using hm)); omega); (have HM6 := Lib.hid (mind_gl (mind_gl HM4.out (gl_alloc (gl_refl [] _) (.cells #[.string (bs x)] 28)) (by simp) (by simp) (by simp)) hgl6 (hnot M hml.1) (hnot bh hml.2.1) (hnot be hml.2.2))); (have hg6 : GL [] w w6 := gl_step hgl6 (gl_alloc hgw4 _) (fun r hr => .inr (by (have := hge6 r (by simpa using hr)); (have := hg1.size); omega))); (have HG6 := Lib.hid (gok_gl (gok_alloc HG4.out (.cells #[.string (bs x)] 28)) hgl6 (fun r hr => by (have := hge6 r (by simpa using hr)); (have := hg1.size); (have := HG.out.size); omega))); (have hsz6 := hgl6.size); (clear hown6 hgr6 hgl6 hnot hge6)))
          go_roundw
          case rel => exact ⟨i + 1, n3, S3, by omega, by go_num, by omega, HM6, Lib.hid (by rw [HF2.out]; simpa using HO6.out), Lib.hid hg6, HG6, by (simp at hsz6; omega)⟩
          case measure => simp [intOf]; omega
        | false =>
          have HF2 : Hid ((ts.take (i + 1)).filter right = (ts.take i).filter right) := by show _ = _; rw [HF.out, hr]; rfl
          obtain rfl : cz = 10 := by rw [HCZ.out, hr]; rfl
          clear hr
          go_wp2_with fail
          go_roundw
          case rel => exact ⟨i + 1, n3, S3, by omega, by go_num, by omega, HM4, Lib.hid (by rw [HF2.out]; exact HO4.out), Lib.hid hgw4, HG4, by omega⟩
          case measure => simp [intOf]; omega
    · obtain rfl : i = ts.length := by omega
      have hOr := HOr.out
      have hMr := HMr.out
      rw [List.take_length] at hOr hMr
      obtain ⟨hda, hdn, hdc, hdv⟩ := own_slice hOr
      subst hdv
      obtain ⟨hts, hlen, _⟩ := own_terms hOr
      have hge := own_ge hOr
      have HOR := Lib.hid hOr
      have HTS := Lib.hid hts
      have HGE := Lib.hid hge
      have HMR := Lib.hid hMr
      clear hOr hts hge HOr hMr
      go_wp2_with fail
      go_ret2
      exact ⟨M, bh, be, n, S, _, w1.heap.size, by first | rfl | (simp; done), HMR.out, hni, HOR.out, hq1, hq2, hq3, hml.1, hml.2.1, hml.2.2, gl_to_below hgr.out⟩
theorem lMind (ts : List (List UInt8)) (hn : ts.length ≤ 40) (htl : ∀ t ∈ ts, t.length ≤ 9000000000000000000) (v : Value) (w : World) (hv : TermsAt v ts w) (hG : GOk w) :
    Calls Tryz.prog 11 #[v] w fun e w' => ∃ M bh be n S hd, e = .returned (.tuple #[.pointer (some ⟨M, 0, none⟩), hd]) ∧ MindAt w' M bh be (heardP ts) S n ∧ n ≤ ts.length ∧ TermsAt hd (ts.filter right) w' ∧ w.heap.size ≤ M ∧ w.heap.size ≤ bh ∧ w.heap.size ≤ be ∧ (∀ g, hd.ownBlock = some g → bh < g ∧ be < g ∧ M < g) ∧ Below w.heap.size w w' :=
  (lMindO ts hn htl v w hv hG).mono fun e w' ⟨M, bh, be, n, S, hd, B, h1, h2, h3, h4, h5, h6, h7, h8, h9, h10, h11⟩ => by
    obtain ⟨ad, m, c, rfl⟩ := own_slice h4
    exact ⟨M, bh, be, n, S, _, h1, h2, h3, (own_terms h4).1, h5, h6, h7, fun g hg => by have := own_ge h4 g hg; omega, h11⟩
end Go.Proofs.YtdipkblmcloifaaGreatDoor
