/- The program: what is known of what is held. -/
import Derived.Test.YtaaiaahkakkleaaGreatDoorDedC
set_option maxRecDepth 100000
set_option maxHeartbeats 2000000
set_option linter.unusedSimpArgs false
set_option linter.unusedVariables false
namespace Go.Proofs.YtaaiaahkakkleaaGreatDoor
open Go.RowKit
theorem tld_in {U : List (List UInt8)} {S : List UInt8 → Bool} {n : Nat} {f : List UInt8 → Option Bool} {t : List UInt8} (hT : Tld U S t.length f) (hu : t ∈ U) (hn : n + 1 = t.length) : Tld U S n (putB f t false) := fun s x hs => by
 unfold putB at hs
 split at hs
 · rename_i e; subst e; exact ⟨hu, fun h => by omega⟩
 · have := hT s x hs; exact ⟨this.1, fun h => this.2 om_⟩
theorem ext_out {U : List (List UInt8)} {S : List UInt8 → Bool} {n m : Nat} {f f' : List UInt8 → Option Bool} {t : List UInt8} (h : Ext U S n (putB f t false) f') (hu : t ∈ U) (hn : n ≤ m) (ht : t.length ≤ m) : Ext U S m f (putB f' t (kn S t)) := fun s x hs => by
 unfold putB at hs
 split at hs
 · rename_i e; subst e
   injection hs with hs
   exact .inr ⟨hu, ht, hs.symm⟩
 · rename_i e
   rcases h s x hs with h1 | ⟨h1, h2, h3⟩
   · unfold putB at h1
     rw [if_neg e] at h1
     exact .inl h1
   · exact .inr ⟨h1, by omega, h3⟩
theorem dKnowsN {U : List (List UInt8)} (hU : Shut U) (hul : U.length ≤ 9000000000000000) : ∀ n, KnN U n := by
 intro n
 induction n with
 | zero => intro t h; exact absurd h (Nat.not_lt_zero _)
 | succ n ih =>
 intro t hn hr hu A bh bt S f w hG hA hT
 have lt := right_len hr
 obtain ⟨ne, hh⟩ := hA.held
 obtain ⟨k, hm, hk⟩ := ask_told hA hT
 have hl := mapB_look Tryz.underlying22 Tryz.underlying92 Tryz.underlying4 (zBool _) hh (t := t) (by unfold maxLen; omega)
 rw [setF_getD] at hl
 have hl2 := mapB_look_ok Tryz.underlying22 Tryz.underlying92 Tryz.underlying4 (zBool _) hm (t := t) (by unfold maxLen; omega)
 have a1 := blk_cell hA.blk
 have a2 := blk_free hA.blk
 have a3 := blk_lt hA.blk
 have HG := Lib.hid hG
 have HA := Lib.hid hA
 have HT := Lib.hid hT
 have IH := Lib.hid ih
 have HM := Lib.hid hm
 have HK := Lib.hid (kn_eq S t hr)
 clear hG hA hT ih hh hm
 cases hs : S t with
 | true =>
   rw [hs] at hl
   have HS : Hid (kn S t = true) := by show kn S t = true; rw [HK.out, hs]; rfl
   clear hl2 hs HK
   go_enter Tryz.func41, Tryz.ntmps41
   go_wp2_with fail
   go_ret
   exact ⟨by (rw [HS.out]) <;> first | rfl | (simp; done), f, HA.out, ext_refl _ _ _ _, gl_refl _ _⟩
 | false =>
   rw [hs] at hl
   have hmk : kn S t = makesB (kn S) t := by rw [HK.out, hs, Bool.false_or]
   cases hf : f t with
   | some x =>
     have HX := Lib.hid ((HT.out t x hf).2 (Nat.le_refl _))
     rw [hf] at hl2
     simp only [Option.getD_some, Option.isSome_some] at hl2
     clear hf hs hmk HK
     go_enter Tryz.func41, Tryz.ntmps41
     go_wp2_with fail
     go_ret
     exact ⟨by (rw [HX.out]) <;> first | rfl | (simp; done), f, HA.out, ext_refl _ _ _ _, gl_refl _ _⟩
   | none =>
     rw [hf] at hl2
     simp only [Option.getD_none, Option.isSome_none] at hl2
     have HMK := Lib.hid hmk
     have HF := Lib.hid hf
     obtain ⟨j, hj⟩ : ∃ j, j + 1 = t.length := ⟨t.length - 1, by omega⟩
     clear hf hs hmk HK
     go_enter Tryz.func41, Tryz.ntmps41
     go_wp2_with (at_mapUpdate; go_must (refine wpList_storeB _ rfl _ _ _ rfl Tryz.underlying22 Tryz.underlying92 Tryz.underlying4 bt k f HM.out (by unfold maxLen; omega) t (by unfold maxLen; omega) false rfl rfl rfl ?_; (intro w1 hm1 hg1); (have HA1 := Lib.hid (ask_set HA.out hg1 hm1)); (have HG1 := Lib.hid (gok_bt HG.out hg1 HA1.out.low)); (clear hm1 a1 a2 a3 hl hl2); (have a1 := blk_cell HA1.out.blk); (have a2 := blk_free HA1.out.blk); (have a3 := blk_lt HA1.out.blk)))
     refine (dMakes hU IH.out t hr hu om_ j om_ A bh bt S (putB f t false) _ HG1.out HA1.out (tld_in HT.out hu hj)).mono ?_
     rintro e w2 ⟨rfl, f2, hA2, hE2, hg2⟩
     have HA2 := Lib.hid hA2
     have HE2 := Lib.hid hE2
     have hg3 : GL [bt] w w2 := gl_step hg2 hg1 (fun r hr => .inl hr)
     obtain ⟨k2, hm2, hk2⟩ := ask_told hA2 (tld_ext (tld_in HT.out hu hj) hE2)
     have HM2 := Lib.hid hm2
     clear hA2 hE2 hm2 a1 a2 a3
     have a1 := blk_cell HA2.out.blk
     have a2 := blk_free HA2.out.blk
     have a3 := blk_lt HA2.out.blk
     rw [← HMK.out]
     have HZ := Lib.hid (ext_out HE2.out hu (show j ≤ t.length by omega) (Nat.le_refl _))
     generalize kn S t = z at *
     go_wp2_with (at_mapUpdate; go_must (refine wpList_storeB _ rfl _ _ _ rfl Tryz.underlying22 Tryz.underlying92 Tryz.underlying4 bt k2 f2 HM2.out (by unfold maxLen; omega) t (by unfold maxLen; omega) z rfl rfl rfl ?_; (intro w3 hm3 hg4); (have HA3 := Lib.hid (ask_set HA2.out hg4 hm3)); (clear hm3 a1 a2 a3)))
     go_ret
     exact ⟨rfl, _, HA3.out, HZ.out, gl_step hg4 hg3 (fun r hr => .inl hr)⟩
theorem dNew (w : World) (hG : GOk w) : Calls Tryz.prog 19 #[] w fun e w' => ∃ M bh be, e = .returned (.pointer (some ⟨M, 0, none⟩)) ∧ MindAt w' M bh be (fun _ => false) (fun _ => false) 0 ∧ w.heap.size ≤ M ∧ w.heap.size ≤ bh ∧ w.heap.size ≤ be ∧ Below w.heap.size w w' := by
 have hsz := hG.size
 have hmm := @run_makeMap Tryz.prog
 go_enter Tryz.func19, Tryz.ntmps19
 go_wp2_with fail
 go_ret
 have h1 := blk_new w (.map #[] 0)
 refine ⟨w.heap.size + 1 + 1, w.heap.size, w.heap.size + 1, by simp, ⟨?_, ?_, ⟨0, ?_⟩, by omega, by omega, least_none, (fun t h => by cases h), by omega⟩, by omega, by omega, by omega, bl_⟩
 · have := blk_new ((w.alloc (.map #[] 0)).alloc (.map #[] 0)) (.cells #[.map (some w.heap.size), .map (some (w.heap.size + 1))] 94)
   simpa using this
 · have := mapB_gl (mapB_new (P := Tryz.prog) (K := 22) (E := 4) w) (gl_alloc (gl_alloc (gl_refl [] _) (.map #[] 0)) (.cells #[.map (some w.heap.size), .map (some (w.heap.size + 1))] 94)) si_
   rw [setF_none] at this
   exact this
 · have := mapB_gl (mapB_new (P := Tryz.prog) (K := 22) (E := 4) (w.alloc (.map #[] 0))) (gl_alloc (gl_refl [] _) (.cells #[.map (some w.heap.size), .map (some (w.heap.size + 1))] 94)) si_
   rw [setF_none, show (w.alloc (.map #[] 0)).heap.size = w.heap.size + 1 by simp] at this
   exact this
structure HeldAt (w : World) (M bh be : Nat) (S : List UInt8 → Bool) : Prop where
 blk : w.heap[M]? = some (.cells #[.map (some bh), .map (some be)] 94 (0, 0))
 held : ∃ ne, MapT w be ne (setF S)
theorem dAsks (M bh be : Nat) (S : List UInt8 → Bool) (w : World) (hG : GOk w) (hH : HeldAt w M bh be S) :
  Calls Tryz.prog 40 #[.pointer (some ⟨M, 0, none⟩)] w fun e w' => ∃ A bt, e = .returned (.pointer (some ⟨A, 0, none⟩)) ∧ AskAt w' A be bt S (fun _ => none) ∧ w.heap.size ≤ bt ∧ Below w.heap.size w w' := by
 have hsz := hG.size
 have hmm := @run_makeMap Tryz.prog
 have a1 := blk_cell hH.blk
 have a2 := blk_free hH.blk
 have a3 := blk_lt hH.blk
 have HH := Lib.hid hH
 obtain ⟨ne, hne⟩ := hH.held
 have HNE := Lib.hid hne
 have hbe := mapB_lt hne
 clear hH hG hne
 go_enter Tryz.func40, Tryz.ntmps40
 go_wp2_with fail
 go_ret
 refine ⟨w.heap.size + 1, w.heap.size, by simp, ⟨?_, ⟨ne, ?_⟩, ⟨0, ?_⟩, by omega, by omega⟩, by omega, bl_⟩
 · have := blk_new (w.alloc (.map #[] 0)) (.cells #[.map (some be), .map (some w.heap.size)] 122)
   simpa using this
 · exact mapB_gl HNE.out (gl_alloc (gl_alloc (gl_refl [] _) (.map #[] 0)) (.cells #[.map (some be), .map (some w.heap.size)] 122)) si_
 · exact mapB_gl (mapB_new (P := Tryz.prog) (K := 22) (E := 4) w) (gl_alloc (gl_refl [] _) (.cells #[.map (some be), .map (some w.heap.size)] 122)) si_
theorem dKnowsA (t : List UInt8) (hr : right t = true) (A bh bt : Nat) (S : List UInt8 → Bool) (w : World) (hG : GOk w) (hA : AskAt w A bh bt S (fun _ => none)) :
  Calls Tryz.prog 41 #[.pointer (some ⟨A, 0, none⟩), .string (bs t)] w fun e w' => e = .returned (.bool (kn S t)) ∧ GL [bt] w w' := by
 have hl := univ_len hr
 have h2 := right_len hr
 refine (dKnowsN (univ_shut hr) om_ (t.length + 1) t (Nat.lt_succ_self _) hr (univ_self hr) A bh bt S _ w hG hA (fun s x h => by cases h)).mono ?_
 rintro e w' ⟨he, f', _, _, h4⟩
 exact ⟨he, h4⟩
theorem dKnows (M bh be n : Nat) (H S : List UInt8 → Bool) (t : List UInt8) (ht : t.length ≤ 9000000000000000000) (w : World) (hG : GOk w) (hM : MindAt w M bh be H S n) :
  Calls Tryz.prog 24 #[.pointer (some ⟨M, 0, none⟩), .string (bs t)] w fun e w' => e = .returned (.bool (right t && kn S t)) ∧ Below w.heap.size w w' := by
 have HG := Lib.hid hG
 have HH := Lib.hid (show HeldAt w M bh be S from ⟨hM.blk, hM.held⟩)
 clear hG hM
 cases hr : right t with
 | false =>
   have HR := Lib.hid hr
   clear hr
   go_enter Tryz.func24, Tryz.ntmps24
   go_wp2_with fail
   refine (tRight t ht _ HG.out).mono ?_
   rintro e w1 ⟨rfl, hb1⟩
   rw [HR.out]
   go_wp2_with fail
   go_ret
   exact ⟨by first | rfl | (simp; done), bl_⟩
 | true =>
   have HR := Lib.hid hr
   clear hr
   go_enter Tryz.func24, Tryz.ntmps24
   go_wp2_with fail
   refine (tRight t ht _ HG.out).mono ?_
   rintro e w1 ⟨rfl, hb1⟩
   rw [HR.out]
   have HG1 := Lib.hid (gok_below HG.out hb1)
   have HH1 : Hid (HeldAt w1 M bh be S) := by
    obtain ⟨ne, hne⟩ := HH.out.held
    exact ⟨blk_below HH.out.blk hb1 (blk_lt HH.out.blk), ⟨ne, mapB_gl hne (gl_below hb1 (gl_refl [] _)) si_⟩⟩
   go_wp2_with fail
   refine (dAsks M bh be S _ HG1.out HH1.out).mono ?_
   rintro e w2 ⟨A, bt, rfl, hA2, hbt, hb2⟩
   have HA2 := Lib.hid hA2
   have HG2 := Lib.hid (gok_below HG1.out hb2)
   clear hA2
   go_wp2_with fail
   refine (dKnowsA t HR.out A be bt S _ HG2.out HA2.out).mono ?_
   rintro e w3 ⟨rfl, hg3⟩
   have hb3 : Below w.heap.size w w3 := by
    have h12 : Below w.heap.size w w2 := bl_
    have hbs := hb1.size
    exact gl_to_below (gl_step hg3 (gl_below h12 (gl_refl [] w)) so_)
   go_wp2_with fail
   go_ret
   exact ⟨by first | rfl | (simp; done), hb3⟩
end Go.Proofs.YtaaiaahkakkleaaGreatDoor
