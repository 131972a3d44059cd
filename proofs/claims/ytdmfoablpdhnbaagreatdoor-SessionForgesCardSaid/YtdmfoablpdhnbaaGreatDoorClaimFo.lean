/- SessionForges: whoever heard all that two sessions with four unlike names said to each other, the public keys besides, and terms made without the names, knows none of the four secrets, can make no frame but those that were said, and what was said is heard once: for every input the law returns true. Conditions: package variables start as the program's text lays them (the card ties them). -/
import Derived.Test.YtdmfoablpdhnbaaGreatDoorLawFo
import Derived.Test.YtdmfoablpdhnbaaGreatDoorLiftC
import Derived.Test.YtdmfoablpdhnbaaGreatDoorLiftD
import Derived.Test.YtdmfoablpdhnbaaGreatDoorLiftH
import Derived.Test.YtdmfoablpdhnbaaGreatDoorCards
import Derived.Test.YtdmfoablpdhnbaaGreatDoorTie
import Derived.SevenTiedAt
import Derived.Carry
set_option linter.unusedSimpArgs false
set_option linter.unusedVariables false
namespace Go.Proofs.YtdmfoablpdhnbaaGreatDoor
open Go.ChangeShapes Go.WideShapes Go.ChangeAt Go.RowKit
open Go.ChangeMaps (open_string shut_string)

theorem sforge_laid {W : World} (h : laidMetH Tryz.prog Rows.sessionForgesRow.laid W) : GOk W := by
  rw [MakeChecks.laidMetH_plain _ _ _ (by kernel_rfl)] at h
  obtain ⟨ps, ⟨g0, t0, cs0, f0, p0, q0, hg0, ht0, hv0, hd0, ⟨g1, t1, cs1, f1, p1, q1, hg1, ht1, hv1, hd1, ⟨g2, t2, cs2, f2, p2, q2, hg2, ht2, hv2, hd2, ⟨g3, t3, cs3, f3, p3, q3, hg3, ht3, hv3, hd3, ⟨g4, t4, cs4, f4, p4, q4, hg4, ht4, hv4, hd4, _, _⟩, _⟩, _⟩, _⟩, _⟩, _, _⟩ := h
  refine ⟨⟨syntax_of hg4 ht4 hv4 hd4, range_of hg3 ht3 hv3 hd3⟩, pow_of hg2 ht2 hv2 hd2, ?_⟩
  obtain rfl := Option.some.inj (Tryz.gRange.symm.trans hg3)
  exact size_of hg3 hv3

theorem sforge_door (os : Os) (args : Array Value) : laidMetH Tryz.prog Rows.sessionForgesRow.laid ((World.doorLaid Tryz.prog 400 os).forCall (fun _ _ => 0) ⟨#[], args, []⟩).memory :=
  laidMetH_of_parts3 (fuel := 8) (laidMet_of_run' 8 (by kernel_rfl) (by kernel_rfl)) (by kernel_rfl) (by kernel_rfl)

set_option maxRecDepth 100000 in
set_option maxHeartbeats 1000000 in
theorem sforge_lifted (os : Os) (started : os.Started) (H : Type) (enc : TypeId × Value → H) :
    ReturnsInHanded {} Tryz.checked os 5 .any (fun w args => (Rows.sessionForgesSpec.pre enc Tryz.prog Tryz.f5 [] false w args ∧ laidMetH Tryz.prog Rows.sessionForgesRow.laid w) ∧ sizedMet enc Tryz.prog Tryz.f5 (OpenSpec.ofChange Rows.sessionForgesSpec) false w args)
      (Rows.sessionForgesSpec.post enc Tryz.prog Tryz.f5 false true false false) := by
  refine returnsInHanded_of_change_and (C := Tryz.checked) (X := fun w _ => laidMetH Tryz.prog Rows.sessionForgesRow.laid w) (fun _ _ _ hh h => h.of_heap hh) Tryz.own started (by kernel_rfl) Tryz.func5
    (ChangeSpec.witness_shaped (enc := enc) (C := Tryz.checked) (os := os) (X := fun w _ => laidMetH Tryz.prog Rows.sessionForgesRow.laid w) false (World.doorLaid Tryz.prog 400 os) #[.int .i64 0, .int .i64 0, .int .i64 0, .int .i64 0, .slice none 0 0, .slice none 0 0, .string ByteArray.empty] 8 rfl (World.shaped_of_RefB (by kernel_rfl) (by kernel_rfl)) (by kernel_rfl) (by kernel_rfl) (by kernel_rfl) (sforge_door os _)) ?_
  intro W base args ds gs before hval0 hW _ hsz hL _
  have hval : ∀ (j : Nat) t v, Tryz.f5.params[j]? = some t → args[j]? = some v → Value.okWide Tryz.prog W .any base t v := hval0
  have hW' := hW
  obtain ⟨p, q, hA0, hV, rfl, hfz, hnd⟩ := hW
  have hA : DataW.TrodAll enc Tryz.prog W 0 (fun _ => true) true Tryz.f5.params.toList args.toList ds p := hA0
  rw [Tryz.params5] at hA hval hsz
  obtain ⟨args⟩ := args
  obtain ⟨v0, vs0, d0, ds0, p0, q0, hq0, rfl, rfl, h0, hA1⟩ := trodAll_cons hA
  simp only at hq0
  subst hq0
  obtain ⟨v1, vs1, d1, ds1, p1, q1, hq1, rfl, rfl, h1, hA2⟩ := trodAll_cons hA1
  subst hq1
  obtain ⟨v2, vs2, d2, ds2, p2, q2, hq2, rfl, rfl, h2, hA3⟩ := trodAll_cons hA2
  subst hq2
  obtain ⟨v3, vs3, d3, ds3, p3, q3, hq3, rfl, rfl, h3, hA4⟩ := trodAll_cons hA3
  subst hq3
  obtain ⟨v4, vs4, d4, ds4, p4, q4, hq4, rfl, rfl, h4, hA5⟩ := trodAll_cons hA4
  subst hq4
  obtain ⟨v5, vs5, d5, ds5, p5, q5, hq5, rfl, rfl, h5, hA6⟩ := trodAll_cons hA5
  subst hq5
  obtain ⟨v6, vs6, d6, ds6, p6, q6, hq6, rfl, rfl, h6, hA7⟩ := trodAll_cons hA6
  subst hq6
  obtain ⟨rfl, rfl, rfl⟩ := trodAll_nil hA7
  obtain ⟨rfl, rfl⟩ := trodVars_none hV
  obtain ⟨i, rfl, rfl, rfl, hwi⟩ := open_int Tryz.underlying2 (hval 0 2 v0 rfl rfl) h0
  obtain ⟨e, rfl, rfl, rfl, hwe⟩ := open_int Tryz.underlying2 (hval 1 2 v1 rfl rfl) h1
  obtain ⟨s, rfl, rfl, rfl, hws⟩ := open_int Tryz.underlying2 (hval 2 2 v2 rfl rfl) h2
  obtain ⟨f, rfl, rfl, rfl, hwf⟩ := open_int Tryz.underlying2 (hval 3 2 v3 rfl rfl) h3
  have h4k := h4
  have h5k := h5
  obtain ⟨trB, rfl, rfl, rfl, hwtr⟩ := open_string Tryz.underlying9 (hval 6 9 v6 rfl rfl) h6
  have hri : -9223372036854775808 ≤ i ∧ i ≤ 9223372036854775807 := by
    have := hwi
    simp only [Lit.wf, Bool.and_eq_true, decide_eq_true_eq] at this
    exact this
  have hre : -9223372036854775808 ≤ e ∧ e ≤ 9223372036854775807 := by
    have := hwe
    simp only [Lit.wf, Bool.and_eq_true, decide_eq_true_eq] at this
    exact this
  have hrs : -9223372036854775808 ≤ s ∧ s ≤ 9223372036854775807 := by
    have := hws
    simp only [Lit.wf, Bool.and_eq_true, decide_eq_true_eq] at this
    exact this
  have hrf : -9223372036854775808 ≤ f ∧ f ≤ 9223372036854775807 := by
    have := hwf
    simp only [Lit.wf, Bool.and_eq_true, decide_eq_true_eq] at this
    exact this
  obtain ⟨ad4, c4, ws4, rfl, hWA4, hwl4, hwt4⟩ := open_words Tryz.underlying56 Tryz.underlying68 (by kernel_rfl) (by kernel_rfl) Tryz.underlying4 Tryz.underlying9 (hval 4 56 v4 rfl rfl) h4
  obtain ⟨ad5, c5, ms, rfl, hTms, hnms, htms⟩ := open_termsV Tryz.underlying35 Tryz.underlying22 (by kernel_rfl) (by kernel_rfl) (hval 5 35 v5 rfl rfl) h5 (sized_any (t := 35) hsz (j := 5) (by simp) (by simp))
  have hrtr : trB.data.toList.length ≤ reachBytes := sized_text (t := 9) hsz (j := 6) (by simp) (by simp)
  obtain ⟨tr, htrB⟩ : ∃ l, trB.data.toList = l := ⟨_, rfl⟩
  have htrC : trB = bs tr := by rw [← htrB, bs_ofData]
  rw [htrB] at hrtr
  have hG := sforge_laid hL
  clear hA0 hval0
  simp only [List.append_nil, List.nil_append] at hW'
  have hr : reachBytes ≤ 140737488355328 := by decide
  have hl := lSessionForges i e s f ad4 c4 ws4 _ _ ms tr hri.1 hri.2 hre.1 hre.2 hrs.1 hrs.2 hrf.1 hrf.2 (Nat.le_trans hwl4 (by decide)) (fun x hx => Nat.le_trans (hwt4 x hx) (by decide)) hnms htms (by omega) W hWA4 hTms hG
  rw [← htrC] at hl
  refine Calls.mono (show Calls Tryz.prog 5 #[.int .i64 i, .int .i64 e, .int .i64 s, .int .i64 f, .slice ad4 ws4.length c4, .slice ad5 ms.length c5, .string trB] W _ from hl) fun r W' ⟨he, hb⟩ => ?_
  subst he
  have e1 : Rows.sessionForgesSpec.fn H ([.lit (.int .i64 i), .lit (.int .i64 e), .lit (.int .i64 s), .lit (.int .i64 f), d4, d5, .lit (.string trB.data.toList)] ++ []) = { results := [.lit (.bool true)], args := [.lit (.int .i64 i), .lit (.int .i64 e), .lit (.int .i64 s), .lit (.int .i64 f), d4, d5, .lit (.string trB.data.toList)] } := by simp [Rows.sessionForgesSpec]
  refine ⟨_, rfl, _, _, _, [], p4 ++ p5, [], hW', ?_, ?_, ?_, hb.frame _, fun h => by cases h⟩
  · rw [e1]; exact trodAll_mk1 (shut_bool Tryz.underlying4 true)
  · rw [e1]; exact ⟨_, _, (shut_int Tryz.underlying2 hwi), ⟨_, _, (shut_int Tryz.underlying2 hwe), ⟨_, _, (shut_int Tryz.underlying2 hws), ⟨_, _, (shut_int Tryz.underlying2 hwf), ⟨_, _, (Below.trod (by kernel_rfl) (by kernel_rfl) (of_decide_eq_true (by kernel_rfl)) h4k hb (fun x hx => by have := hW'.lt x (by simp [hx]); simpa using this)), ⟨_, _, (Below.trod (by kernel_rfl) (by kernel_rfl) (of_decide_eq_true (by kernel_rfl)) h5k hb (fun x hx => by have := hW'.lt x (by simp [hx]); simpa using this)), ⟨_, _, (shut_string Tryz.underlying9 hwtr), trodAll_mk0, rfl⟩, rfl⟩, rfl⟩, rfl⟩, rfl⟩, rfl⟩, by simp⟩
  · rw [e1]; rfl

theorem sforge_name : Tryz.pinned.checked.prog.funcNamed Rows.sessionForgesRow.func = some 5 := by kernel_rfl
theorem sforge_facts : joinedFacts Tryz.pinned.checked.prog 5 Tryz.f5 Rows.sessionForgesSpec Rows.sessionForgesRow = true := by kernel_rfl
theorem sforge_inst : Tryz.f5.isInstance Tryz.pinned.checked.prog Rows.sessionForgesRow.origin Rows.sessionForgesRow.targs := of_decide_eq_true (by kernel_rfl)
theorem sforge_wrap : Tryz.f5.isWrapper Tryz.pinned.checked.prog Rows.sessionForgesRow.wrapper Rows.sessionForgesRow.mainSum := by unfold Func.isWrapper; first | (rw [if_pos (by decide +kernel)]; kernel_rfl) | (rw [if_neg (by decide +kernel)]; exact ⟨rfl, rfl⟩)
theorem sforge_holds : Rows.SessionForgesSaid :=
  OpenClaim.holds_of_wide 5 Tryz.f5 rfl rfl rfl rfl rfl rfl rfl ⟨rfl, rfl, rfl, rfl, rfl⟩ rfl rfl rfl rfl rfl sforge_name Tryz.func5 sforge_facts
    sforge_inst sforge_wrap
    (fun os started H enc _ => sforge_lifted os started H enc)

theorem sforge_card : Rows.SessionForgesCardSaid :=
  Claim7.holds_tied_plain_at .later [] [.data, .data, .data, .sentinel, .sentinel] true Rows.sessionForgesCard.stood.harness true
    sforge_holds (fun _ h => by cases h) (by kernel_rfl) (fun _ h => by cases h) sessionForges_row_tie rfl ⟨rfl, rfl⟩ (by kernel_rfl) rfl
    (fun f fn hf hfn => by
      obtain rfl : f = 5 := Option.some.inj ((show Tryz.prog.funcNamed "sluiceway/sluicewaylaw21.SessionForges" = some 5 by kernel_rfl).symm.trans hf) |>.symm
      obtain rfl : fn = Tryz.f5 := (Option.some.inj (Tryz.func5.symm.trans hfn)).symm
      exact ⟨by kernel_rfl, fun j t ht => by
        rw [Tryz.params5] at ht
        have hm : t ∈ [2, 2, 2, 2, 56, 35, 9] := by simpa using Array.mem_of_getElem? ht
        have hall : ([2, 2, 2, 2, 56, 35, 9].all fun u => !Tryz.prog.wantsStandIn u) = true := by kernel_rfl
        exact (show Tryz.prog.wantsStandIn t = false by simpa using List.all_eq_true.1 hall t hm)⟩)
    (by kernel_rfl)
#print axioms sforge_card
end Go.Proofs.YtdmfoablpdhnbaaGreatDoor
