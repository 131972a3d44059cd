/- SessionTalks: two sessions open, each knows the other's public key, and each hears just what the other said, in its order, however often keys were changed: for every input the law returns true. Conditions: package variables start as the program's text lays them (the card ties them). -/
import Derived.Test.YtchbhainmalbbaaDoorLawR
import Derived.Test.YtchbhainmalbbaaDoorLiftC
import Derived.Test.YtchbhainmalbbaaDoorLiftD
import Derived.Test.YtchbhainmalbbaaDoorCards
import Derived.Test.YtchbhainmalbbaaDoorTie
import Derived.SevenTiedAt
import Derived.Carry
set_option linter.unusedSimpArgs false
set_option linter.unusedVariables false
namespace Go.Proofs.YtchbhainmalbbaaDoor
open Go.ChangeShapes Go.WideShapes Go.ChangeAt Go.RowKit
open Go.ChangeMaps (open_string shut_string)

theorem stalk_laid {W : World} (h : laidMetH Tryd.prog Rows.sessionTalksRow.laid W) : GOk W := by
  rw [MakeChecks.laidMetH_plain _ _ _ (by kernel_rfl)] at h
  obtain ⟨ps, ⟨g0, t0, cs0, f0, p0, q0, hg0, ht0, hv0, hd0, ⟨g1, t1, cs1, f1, p1, q1, hg1, ht1, hv1, hd1, ⟨g2, t2, cs2, f2, p2, q2, hg2, ht2, hv2, hd2, ⟨g3, t3, cs3, f3, p3, q3, hg3, ht3, hv3, hd3, ⟨g4, t4, cs4, f4, p4, q4, hg4, ht4, hv4, hd4, _, _⟩, _⟩, _⟩, _⟩, _⟩, _, _⟩ := h
  refine ⟨⟨syntax_of hg4 ht4 hv4 hd4, range_of hg3 ht3 hv3 hd3⟩, pow_of hg2 ht2 hv2 hd2, ?_⟩
  obtain rfl := Option.some.inj (Tryd.gRange.symm.trans hg3)
  exact size_of hg3 hv3

theorem stalk_door (os : Os) (args : Array Value) : laidMetH Tryd.prog Rows.sessionTalksRow.laid ((World.doorLaid Tryd.prog 400 os).forCall (fun _ _ => 0) ⟨#[], args, []⟩).memory :=
  laidMetH_of_parts3 (fuel := 8) (laidMet_of_run' 8 (by kernel_rfl) (by kernel_rfl)) (by kernel_rfl) (by kernel_rfl)

set_option maxRecDepth 100000 in
set_option maxHeartbeats 1000000 in
theorem stalk_lifted (os : Os) (started : os.Started) (H : Type) (enc : TypeId × Value → H) :
    ReturnsInHanded {} Tryd.checked os 8 .any (fun w args => (Rows.sessionTalksSpec.pre enc Tryd.prog Tryd.f8 [] false w args ∧ laidMetH Tryd.prog Rows.sessionTalksRow.laid w) ∧ sizedMet enc Tryd.prog Tryd.f8 (OpenSpec.ofChange Rows.sessionTalksSpec) false w args)
      (Rows.sessionTalksSpec.post enc Tryd.prog Tryd.f8 false true false false) := by
  refine returnsInHanded_of_change_and (C := Tryd.checked) (X := fun w _ => laidMetH Tryd.prog Rows.sessionTalksRow.laid w) (fun _ _ _ hh h => h.of_heap hh) Tryd.own started (by kernel_rfl) Tryd.func8
    (ChangeSpec.witness_shaped (enc := enc) (C := Tryd.checked) (os := os) (X := fun w _ => laidMetH Tryd.prog Rows.sessionTalksRow.laid w) false (World.doorLaid Tryd.prog 400 os) #[.int .i64 0, .int .i64 0, .int .i64 0, .int .i64 0, .slice none 0 0, .int .i64 0] 8 rfl (World.shaped_of_RefB (by kernel_rfl) (by kernel_rfl)) (by kernel_rfl) (by kernel_rfl) (by kernel_rfl) (stalk_door os _)) ?_
  intro W base args ds gs before hval0 hW _ hsz hL _
  have hval : ∀ (j : Nat) t v, Tryd.f8.params[j]? = some t → args[j]? = some v → Value.okWide Tryd.prog W .any base t v := hval0
  have hW' := hW
  obtain ⟨p, q, hA0, hV, rfl, hfz, hnd⟩ := hW
  have hA : DataW.TrodAll enc Tryd.prog W 0 (fun _ => true) true Tryd.f8.params.toList args.toList ds p := hA0
  rw [Tryd.params8] at hA hval hsz
  obtain ⟨args⟩ := args
  obtain ⟨v0, vs0, d0, ds0, p0, q0, hq0, rfl, rfl, h0, hA1⟩ := trodAll_cons hA
  simp only at hq0
  subst hq0
  obtain ⟨v1, vs1, d1, ds1, p1, q1, hq1, rfl, rfl, h1, hA2⟩ := trodAll_cons hA1
  subst hq1
  obtain ⟨v2, vs2, d2, ds2, p2, q2, hq2, rfl, rfl, h2, hA3⟩ := trodAll_cons hA2
  subst hq2
  obtain ⟨v3, vs3, d3, ds3, p3, q3, hq3, rfl, rfl, h3, hA4⟩ := trodAll_cons hA3
  subst hq3
  obtain ⟨v4, vs4, d4, ds4, p4, q4, hq4, rfl, rfl, h4, hA5⟩ := trodAll_cons hA4
  subst hq4
  obtain ⟨v5, vs5, d5, ds5, p5, q5, hq5, rfl, rfl, h5, hA6⟩ := trodAll_cons hA5
  subst hq5
  obtain ⟨rfl, rfl, rfl⟩ := trodAll_nil hA6
  obtain ⟨rfl, rfl⟩ := trodVars_none hV
  obtain ⟨i, rfl, rfl, rfl, hwi⟩ := open_int Tryd.underlying2 (hval 0 2 v0 rfl rfl) h0
  obtain ⟨e, rfl, rfl, rfl, hwe⟩ := open_int Tryd.underlying2 (hval 1 2 v1 rfl rfl) h1
  obtain ⟨s, rfl, rfl, rfl, hws⟩ := open_int Tryd.underlying2 (hval 2 2 v2 rfl rfl) h2
  obtain ⟨f, rfl, rfl, rfl, hwf⟩ := open_int Tryd.underlying2 (hval 3 2 v3 rfl rfl) h3
  have h4k := h4
  obtain ⟨tm, rfl, rfl, rfl, hwtm⟩ := open_int Tryd.underlying3 (hval 5 3 v5 rfl rfl) h5
  have hri : -9223372036854775808 ≤ i ∧ i ≤ 9223372036854775807 := by
    have := hwi
    simp only [Lit.wf, Bool.and_eq_true, decide_eq_true_eq] at this
    exact this
  have hre : -9223372036854775808 ≤ e ∧ e ≤ 9223372036854775807 := by
    have := hwe
    simp only [Lit.wf, Bool.and_eq_true, decide_eq_true_eq] at this
    exact this
  have hrs : -9223372036854775808 ≤ s ∧ s ≤ 9223372036854775807 := by
    have := hws
    simp only [Lit.wf, Bool.and_eq_true, decide_eq_true_eq] at this
    exact this
  have hrf : -9223372036854775808 ≤ f ∧ f ≤ 9223372036854775807 := by
    have := hwf
    simp only [Lit.wf, Bool.and_eq_true, decide_eq_true_eq] at this
    exact this
  obtain ⟨ad4, c4, ws4, rfl, hWA4, hwl4, hwt4⟩ := open_words Tryd.underlying58 Tryd.underlying65 (by kernel_rfl) (by kernel_rfl) Tryd.underlying4 Tryd.underlying9 (hval 4 58 v4 rfl rfl) h4
  have hrtm : -9223372036854775808 ≤ tm ∧ tm ≤ 9223372036854775807 := by
    have := hwtm
    simp only [Lit.wf, Bool.and_eq_true, decide_eq_true_eq] at this
    exact this
  have hG := stalk_laid hL
  clear hA0 hval0
  simp only [List.append_nil, List.nil_append] at hW'
  have hr : reachBytes ≤ 140737488355328 := by decide
  have hl := lSessionTalks i e s f tm ad4 c4 ws4 hri.1 hri.2 hre.1 hre.2 hrs.1 hrs.2 hrf.1 hrf.2 hrtm.1 hrtm.2 (Nat.le_trans hwl4 (by decide)) (fun x hx => Nat.le_trans (hwt4 x hx) (by decide)) W hWA4 hG
  refine Calls.mono (show Calls Tryd.prog 8 #[.int .i64 i, .int .i64 e, .int .i64 s, .int .i64 f, .slice ad4 ws4.length c4, .int .i64 tm] W _ from hl) fun r W' ⟨he, hb⟩ => ?_
  subst he
  have e1 : Rows.sessionTalksSpec.fn H ([.lit (.int .i64 i), .lit (.int .i64 e), .lit (.int .i64 s), .lit (.int .i64 f), d4, .lit (.int .i64 tm)] ++ []) = { results := [.lit (.bool true)], args := [.lit (.int .i64 i), .lit (.int .i64 e), .lit (.int .i64 s), .lit (.int .i64 f), d4, .lit (.int .i64 tm)] } := by simp [Rows.sessionTalksSpec]
  refine ⟨_, rfl, _, _, _, [], p4, [], hW', ?_, ?_, ?_, hb.frame _, fun h => by cases h⟩
  · rw [e1]; exact trodAll_mk1 (shut_bool Tryd.underlying4 true)
  · rw [e1]; exact ⟨_, _, (shut_int Tryd.underlying2 hwi), ⟨_, _, (shut_int Tryd.underlying2 hwe), ⟨_, _, (shut_int Tryd.underlying2 hws), ⟨_, _, (shut_int Tryd.underlying2 hwf), ⟨_, _, (Below.trod (by kernel_rfl) (by kernel_rfl) (of_decide_eq_true (by kernel_rfl)) h4k hb (fun x hx => by have := hW'.lt x (by simp [hx]); simpa using this)), ⟨_, _, (shut_int Tryd.underlying3 hwtm), trodAll_mk0, rfl⟩, rfl⟩, rfl⟩, rfl⟩, rfl⟩, by simp⟩
  · rw [e1]; rfl

theorem stalk_holds : Rows.SessionTalksSaid :=
  OpenClaim.holds_of_wide 8 Tryd.f8 rfl rfl rfl rfl rfl rfl rfl ⟨rfl, rfl, rfl, rfl, rfl⟩ rfl rfl rfl rfl rfl (by kernel_rfl) Tryd.func8 (by kernel_rfl)
    (of_decide_eq_true (by kernel_rfl)) (by unfold Func.isWrapper; first | (rw [if_pos (by decide +kernel)]; kernel_rfl) | (rw [if_neg (by decide +kernel)]; exact ⟨rfl, rfl⟩))
    (fun os started H enc _ => stalk_lifted os started H enc)

theorem stalk_card : Rows.SessionTalksCardSaid :=
  Claim7.holds_tied_plain_at .later [] [.data, .data, .data, .sentinel, .sentinel] true Rows.sessionTalksCard.stood.harness true
    stalk_holds (fun _ h => by cases h) (by kernel_rfl) (fun _ h => by cases h) sessionTalks_row_tie rfl ⟨rfl, rfl⟩ (by kernel_rfl) rfl
    (fun f fn hf hfn => by
      obtain rfl : f = 8 := Option.some.inj ((show Tryd.prog.funcNamed "sluiceway/sluicewaylaw21.SessionTalks" = some 8 by kernel_rfl).symm.trans hf) |>.symm
      obtain rfl : fn = Tryd.f8 := (Option.some.inj (Tryd.func8.symm.trans hfn)).symm
      exact ⟨by kernel_rfl, fun j t ht => by
        rw [Tryd.params8] at ht
        have hm : t ∈ [2, 2, 2, 2, 58, 3] := by simpa using Array.mem_of_getElem? ht
        have hall : ([2, 2, 2, 2, 58, 3].all fun u => !Tryd.prog.wantsStandIn u) = true := by kernel_rfl
        exact (show Tryd.prog.wantsStandIn t = false by simpa using List.all_eq_true.1 hall t hm)⟩)
    (by kernel_rfl)
#print axioms stalk_card
end Go.Proofs.YtchbhainmalbbaaDoor
