/- The program: a term is heard. -/
import Derived.Test.YtaaiaahkakkleaaGreatDoorDedE
set_option maxRecDepth 100000
set_option maxHeartbeats 4000000
set_option linter.unusedSimpArgs false
set_option linter.unusedVariables false
namespace Go.Proofs.YtaaiaahkakkleaaGreatDoor
open Go.RowKit
def mapLen (w : World) (b : Nat) : Nat := match w.heap[b]? with | some (.map es _) => es.size | _ => 0
theorem mapLen_is {w : World} {b m : Nat} {f : List UInt8 → Option Bool} (h : MapT w b m f) : mapLen w b = m := by
 obtain ⟨D, ⟨es, clock, hb, F, hs, hD⟩, h1, _⟩ := h
 unfold mapLen
 rw [hb]
 rw [hD] at h1
 simpa [Maps.size, length_sorted] using h1
structure LrnI (w wr : World) (M bh be n : Nat) (H : List UInt8 → Bool) (U : List (List UInt8)) (S1 : List UInt8 → Bool) (m1 : Nat) : Prop where
 blk : wr.heap[M]? = some (.cells #[.map (some bh), .map (some be)] 94 (0, 0))
 heard : MapT wr bh n (setF H)
 held : MapT wr be m1 (setF S1)
 made : Made H S1
 inU : ∀ t, S1 t = true → t ∈ U
 gok : GOk wr
 gl : GL [bh, be] w wr
theorem dLearn (M bh be n : Nat) (H S : List UInt8 → Bool) (t : List UInt8) (ht : t.length ≤ 9000000000000000000) (w : World) (hG : GOk w) (hM : MindAt w M bh be H S n) :
  Calls Tryz.prog 22 #[.pointer (some ⟨M, 0, none⟩), .string (bs t)] w fun e w' => ∃ S', e = .returned (.int .i64 (learnC H n t)) ∧ MindAt w' M bh be (learnH H n t) S' (learnN H n t) ∧ GL [bh, be] w w' := by
 have HG := Lib.hid hG
 have HM := Lib.hid hM
 clear hG hM
 cases hr : right t with
 | false =>
   have HR := Lib.hid hr
   have HC := Lib.hid (show learnC H n t = 10 ∧ learnH H n t = H ∧ learnN H n t = n by unfold learnC learnH learnN; rw [hr]; simp)
   clear hr
   go_enter Tryz.func22, Tryz.ntmps22
   go_wp2_with fail
   refine (tRight t ht _ HG.out).mono ?_
   rintro e w1 ⟨rfl, hb1⟩
   rw [HR.out]
   go_wp2_with fail
   go_ret
   exact ⟨S, by rw [HC.out.1]; rfl, by rw [HC.out.2.1, HC.out.2.2]; exact mind_below HM.out hb1, gl_below hb1 (gl_refl _ _)⟩
 | true =>
   have HR := Lib.hid hr
   have lt := right_len hr
   cases hh : H t with
   | true =>
     have HC := Lib.hid (show learnC H n t = 0 ∧ learnH H n t = H ∧ learnN H n t = n by unfold learnC learnH learnN; rw [hr, hh]; simp)
     have HH := Lib.hid hh
     clear hr hh
     go_enter Tryz.func22, Tryz.ntmps22
     go_wp2_with fail
     refine (tRight t ht _ HG.out).mono ?_
     rintro e w1 ⟨rfl, hb1⟩
     rw [HR.out]
     have HM1 := Lib.hid (mind_below HM.out hb1)
     have hl := mapB_look Tryz.underlying22 Tryz.underlying92 Tryz.underlying4 (zBool _) HM1.out.heard (t := t) (by unfold maxLen; omega)
     rw [setF_getD, HH.out] at hl
     have a1 := blk_cell HM1.out.blk
     have a2 := blk_free HM1.out.blk
     have a3 := blk_lt HM1.out.blk
     go_wp2_with fail
     go_ret
     exact ⟨S, by rw [HC.out.1]; rfl, by rw [HC.out.2.1, HC.out.2.2]; exact HM1.out, gl_below hb1 (gl_refl _ _)⟩
   | false =>
     have HH := Lib.hid hh
     by_cases hn : 1024 ≤ n
     · have HC := Lib.hid (show learnC H n t = 3 ∧ learnH H n t = H ∧ learnN H n t = n by unfold learnC learnH learnN; rw [hr, hh]; (simp [hn]) <;> omega)
       have i1 : (((n : Nat) : Int) ≥ 1024) := by omega
       have i2 : decide ((1024 : Int) ≤ (n : Int)) = true := by simp; omega
       clear hr hh
       go_enter Tryz.func22, Tryz.ntmps22
       go_wp2_with fail
       refine (tRight t ht _ HG.out).mono ?_
       rintro e w1 ⟨rfl, hb1⟩
       rw [HR.out]
       have HM1 := Lib.hid (mind_below HM.out hb1)
       have hl := mapB_look Tryz.underlying22 Tryz.underlying92 Tryz.underlying4 (zBool _) HM1.out.heard (t := t) (by unfold maxLen; omega)
       rw [setF_getD, HH.out] at hl
       have a1 := blk_cell HM1.out.blk
       have a2 := blk_free HM1.out.blk
       have a3 := blk_lt HM1.out.blk
       go_wp2_with (first
        | (at_len; refine wpList_lenB _ rfl _ rfl Tryz.underlying92 bh n _ HM1.out.heard rfl ?_)
        | fail)
       go_ret
       exact ⟨S, by rw [HC.out.1]; rfl, by rw [HC.out.2.1, HC.out.2.2]; exact HM1.out, gl_below hb1 (gl_refl _ _)⟩
     · have HC := Lib.hid (show learnC H n t = 0 ∧ learnH H n t = ins H t ∧ learnN H n t = n + 1 by unfold learnC learnH learnN; rw [hr, hh]; (simp [hn]) <;> omega)
       have i1 : ¬ (((n : Nat) : Int) ≥ 1024) := by omega
       have i2 : decide ((1024 : Int) ≤ (n : Int)) = false := by simp; omega
       obtain ⟨L, hL1, hL2⟩ := mind_list HM.out
       have hLr : ∀ u ∈ t :: L, right u = true := fun u hu => by
        rcases List.mem_cons.1 hu with rfl | hu
        · exact hr
        · exact HM.out.rights u ((hL2 u).1 hu)
       have hUl := flatS_len hLr
       have hUr : ∀ u ∈ (t :: L).flatMap subs, right u = true := fun u hu => flat_right hLr hu
       have hUk : ∀ u x, u ∈ (t :: L).flatMap subs → rt u = some x → ∀ k ∈ x.kids, k ∈ (t :: L).flatMap subs := fun u x hu hx k hk => by
        obtain ⟨z, hz, hu⟩ := List.mem_flatMap.1 hu
        exact List.mem_flatMap.2 ⟨z, hz, subs_kid z.length z (Nat.le_refl _) (hLr z hz) u x hu hx k hk⟩
       have hmade : Made (ins H t) (ins S t) := made_ins HM.out.least t
       have hHL : ∀ u, ins H t u = true → u ∈ t :: L := fun u hu => by
        unfold ins at hu
        simp only [Bool.or_eq_true, beq_iff_eq] at hu
        rcases hu with hu | rfl
        · exact List.mem_cons_of_mem _ ((hL2 u).2 hu)
        · exact List.mem_cons_self
       have HIN := Lib.hid (show ∀ S1, Made (ins H t) S1 → ∀ u, S1 u = true → u ∈ (t :: L).flatMap subs from fun S1 h => made_in h hHL hLr)
       rw [List.length_cons, hL1] at hUl
       have hU : ((t :: L).flatMap subs).length ≤ 9000000000000000 := by omega
       have HUR := Lib.hid hUr
       have HUK := Lib.hid hUk
       have HMD := Lib.hid hmade
       have HRT : Hid (∀ u, ins H t u = true → right u = true) := Lib.hid (fun u hu => hLr u (hHL u hu))
       obtain ⟨me, hme⟩ := HM.out.held
       have HME := Lib.hid hme
       have hmel := mapB_le Tryz.underlying22 hme ((t :: L).flatMap subs) (fun u hu => HIN.out _ hmade u (ins_old (by rwa [setF_some] at hu)))
       generalize (t :: L).flatMap subs = U at *
       have hne := HM.out.ne
       have hlo := HM.out.low
       clear hr hh hUr hUk hmade hHL hLr hL2 hme
       go_enter Tryz.func22, Tryz.ntmps22
       go_wp2_with fail
       refine (tRight t ht _ HG.out).mono ?_
       rintro e w1 ⟨rfl, hb1⟩
       rw [HR.out]
       have HM1 := Lib.hid (mind_below HM.out hb1)
       have HG1 := Lib.hid (gok_below HG.out hb1)
       have HE1 := Lib.hid (mapB_gl HME.out (gl_below hb1 (gl_refl [] w)) si_)
       have hgw1 : GL [bh, be] w w1 := gl_below hb1 (gl_refl _ _)
       have hl := mapB_look Tryz.underlying22 Tryz.underlying92 Tryz.underlying4 (zBool _) HM1.out.heard (t := t) (by unfold maxLen; omega)
       rw [setF_getD, HH.out] at hl
       have a1 := blk_cell HM1.out.blk
       have a2 := blk_free HM1.out.blk
       have a3 := blk_lt HM1.out.blk
       clear hb1
       go_upto_region 9 with (first
        | (at_len; refine wpList_lenB _ rfl _ rfl Tryz.underlying92 bh n _ HM1.out.heard rfl ?_)
        | fail)
       go_wp2_with (first
        | (at_mapUpdate; refine wpList_storeB _ rfl _ _ _ rfl Tryz.underlying22 Tryz.underlying92 Tryz.underlying4 bh n (setF H) HM1.out.heard (by unfold maxLen; omega) t (by unfold maxLen; omega) true rfl rfl rfl ?_; (intro w2 hm2 hg2); (clear hl a1 a2 a3); (have HB2 := Lib.hid (blk_gl HM1.out.blk hg2 (by simpa using hne.1))); (have HE2 := Lib.hid (mapB_gl HE1.out hg2 (by simpa using fun e => hne.2.2 e.symm))); (have HG2 := Lib.hid (gok_gl HG1.out hg2 (by simpa using hlo.2.1))); (have HH2 := Lib.hid hm2); (have hgw2 : GL [bh, be] w w2 := gl_step hg2 hgw1 (fun r hr => .inl (by simp at hr; simp [hr]))); (clear hm2 hg2); (have a1 := blk_cell HB2.out); (have a2 := blk_free HB2.out); (have a3 := blk_lt HB2.out))
        | (at_mapUpdate; refine wpList_storeB _ rfl _ _ _ rfl Tryz.underlying22 Tryz.underlying92 Tryz.underlying4 be me (setF S) HE2.out (by unfold maxLen; omega) t (by unfold maxLen; omega) true rfl rfl rfl ?_; (intro w3 hm3 hg3); (clear a1 a2 a3); (have HB3 := Lib.hid (blk_gl HB2.out hg3 (by simpa using hne.2.1))); (have HH3 := Lib.hid (mapB_gl HH2.out hg3 (by simpa using hne.2.2))); (have HG3 := Lib.hid (gok_gl HG2.out hg3 (by simpa using hlo.2.2))); (have HE3 := Lib.hid hm3); (have hgw3 : GL [bh, be] w w3 := gl_step hg3 hgw2 (fun r hr => .inl (by simp at hr; simp [hr]))); (clear hm3 hg3))
        | fail)
       go_frame
       rw [setF_ins] at HH3 HE3
       have hmn : (if (setF H t).isSome = true then n else n + 1) = n + 1 := by rw [setF_some, HH.out]; rfl
       rw [hmn] at HH3
       obtain ⟨m3, hm3⟩ : ∃ m3, m3 = (if (setF S t).isSome = true then me else me + 1) := ⟨_, rfl⟩
       rw [← hm3] at HE3
       have HI3 : Hid (LrnI w w3 M bh be (n + 1) (ins H t) U (ins S t) m3) := Lib.hid ⟨HB3.out, HH3.out, HE3.out, HMD.out, HIN.out _ HMD.out, HG3.out, hgw3⟩
       clear HB3 HH3 HE3 HG3 hgw3 hmn hm3
       go_loopw [36, 37] (fun _ _ wr => ∃ S1 m1, Hid (LrnI w wr M bh be (n + 1) (ins H t) U S1 m1)) (fun _ _ wr => U.length - mapLen wr be)
       case atStart => exact ⟨ins S t, m3, HI3⟩
       case round =>
        obtain ⟨S1, m1, HI⟩ := hrel
        go_wp2_with fail
        refine (dApart M bh be m1 S1 U hU HUR.out HUK.out HI.out.inU _ HI.out.gok HI.out.blk HI.out.held hne.2.1 hlo.2.2).mono ?_
        rintro e w5 ⟨S5, m5, rfl, q1, q2, q3, q4, q5, q6⟩
        have HI5 : Hid (LrnI w w5 M bh be (n + 1) (ins H t) U S5 m5) := Lib.hid ⟨blk_gl HI.out.blk q6 (by simpa using hne.2.1), mapB_gl HI.out.heard q6 (by simpa using hne.2.2), q1, made_grow HI.out.made q2, q3, gok_gl HI.out.gok q6 (by simpa using hlo.2.2), gl_step q6 HI.out.gl (fun r hr => .inl (by simp at hr; simp [hr]))⟩
        have hlen5 : m5 ≤ U.length := mapB_le Tryz.underlying22 q1 U (fun u hu => q3 u (by rwa [setF_some] at hu))
        have hL0 := mapLen_is HI.out.held
        have hL5 := mapLen_is q1
        by_cases hgt : m1 < m5
        · have hd : decide (m1 < m5) = true := by simp [hgt]
          rw [hd]
          clear q1 q2 q3 q5 q6
          go_wp2_with fail
          go_roundw
          case rel => exact ⟨S5, m5, HI5⟩
          case measure => rw [hL0, hL5]; omega
        · have hd : decide (m1 < m5) = false := by simp [hgt]
          rw [hd]
          have hA := q5 om_
          have HA := Lib.hid hA
          clear q1 q2 q3 q5 q6 hA
          go_wp2_with fail
          go_ret
          exact ⟨S5, by (rw [HC.out.1]) <;> rfl, by
           rw [HC.out.2.1, HC.out.2.2]
           exact ⟨HI5.out.blk, HI5.out.heard, ⟨m5, HI5.out.held⟩, hne, hlo, made_least HI5.out.made HA.out, HRT.out, by omega⟩, HI5.out.gl⟩
end Go.Proofs.YtaaiaahkakkleaaGreatDoor
