/- SessionPlays: every row of calls on two sessions of any secrets, each hearing what the other said, and anything besides, answers what the document says: for every input the law returns true. Conditions: package variables start as the program's text lays them (the card ties them). -/
import Derived.Test.YtdmfoablpdhnbaaGreatDoorLiftS
import Derived.Test.YtdmfoablpdhnbaaGreatDoorCards
import Derived.Test.YtdmfoablpdhnbaaGreatDoorTie
import Derived.SevenTiedAt
import Derived.Carry
set_option linter.unusedSimpArgs false
set_option linter.unusedVariables false
namespace Go.Proofs.YtdmfoablpdhnbaaGreatDoor
open Go.ChangeShapes Go.WideShapes Go.ChangeAt Go.RowKit
open Go.ChangeMaps (open_string shut_string)

theorem splays_laid {W : World} (h : laidMetH Tryz.prog Rows.sessionPlaysRow.laid W) : GOk W := by
  rw [MakeChecks.laidMetH_plain _ _ _ (by kernel_rfl)] at h
  obtain ⟨ps, ⟨g0, t0, cs0, f0, p0, q0, hg0, ht0, hv0, hd0, ⟨g1, t1, cs1, f1, p1, q1, hg1, ht1, hv1, hd1, ⟨g2, t2, cs2, f2, p2, q2, hg2, ht2, hv2, hd2, ⟨g3, t3, cs3, f3, p3, q3, hg3, ht3, hv3, hd3, ⟨g4, t4, cs4, f4, p4, q4, hg4, ht4, hv4, hd4, _, _⟩, _⟩, _⟩, _⟩, _⟩, _, _⟩ := h
  refine ⟨⟨syntax_of hg4 ht4 hv4 hd4, range_of hg3 ht3 hv3 hd3⟩, pow_of hg2 ht2 hv2 hd2, ?_⟩
  obtain rfl := Option.some.inj (Tryz.gRange.symm.trans hg3)
  exact size_of hg3 hv3

theorem splays_door (os : Os) (args : Array Value) : laidMetH Tryz.prog Rows.sessionPlaysRow.laid ((World.doorLaid Tryz.prog 400 os).forCall (fun _ _ => 0) ⟨#[], args, []⟩).memory :=
  laidMetH_of_parts3 (fuel := 8) (laidMet_of_run' 8 (by kernel_rfl) (by kernel_rfl)) (by kernel_rfl) (by kernel_rfl)

set_option maxRecDepth 100000 in
set_option maxHeartbeats 1000000 in
theorem splays_lifted (os : Os) (started : os.Started) (H : Type) (enc : TypeId × Value → H) :
    ReturnsInHanded {} Tryz.checked os 3 .any (fun w args => (Rows.sessionPlaysSpec.pre enc Tryz.prog Tryz.f3 [] false w args ∧ laidMetH Tryz.prog Rows.sessionPlaysRow.laid w) ∧ sizedMet enc Tryz.prog Tryz.f3 (OpenSpec.ofChange Rows.sessionPlaysSpec) false w args)
      (Rows.sessionPlaysSpec.post enc Tryz.prog Tryz.f3 false true false false) := by
  refine returnsInHanded_of_change_and (C := Tryz.checked) (X := fun w _ => laidMetH Tryz.prog Rows.sessionPlaysRow.laid w) (fun _ _ _ hh h => h.of_heap hh) Tryz.own started (by kernel_rfl) Tryz.func3
    (ChangeSpec.witness_shaped (enc := enc) (C := Tryz.checked) (os := os) (X := fun w _ => laidMetH Tryz.prog Rows.sessionPlaysRow.laid w) false (World.doorLaid Tryz.prog 400 os) #[.agg #[.string ByteArray.empty, .string ByteArray.empty, .string ByteArray.empty, .string ByteArray.empty, .string ByteArray.empty], .slice none 0 0] 8 rfl (World.shaped_of_RefB (by kernel_rfl) (by kernel_rfl)) (by kernel_rfl) (by kernel_rfl) (by kernel_rfl) (splays_door os _)) ?_
  intro W base args ds gs before hval0 hW _ hsz hL _
  have hval : ∀ (j : Nat) t v, Tryz.f3.params[j]? = some t → args[j]? = some v → Value.okWide Tryz.prog W .any base t v := hval0
  have hW' := hW
  obtain ⟨p, q, hA0, hV, rfl, hfz, hnd⟩ := hW
  have hA : DataW.TrodAll enc Tryz.prog W 0 (fun _ => true) true Tryz.f3.params.toList args.toList ds p := hA0
  rw [Tryz.params3] at hA hval hsz
  obtain ⟨args⟩ := args
  obtain ⟨v0, vs0, d0, ds0, p0, q0, hq0, rfl, rfl, h0, hA1⟩ := trodAll_cons hA
  simp only at hq0
  subst hq0
  obtain ⟨v1, vs1, d1, ds1, p1, q1, hq1, rfl, rfl, h1, hA2⟩ := trodAll_cons hA1
  subst hq1
  obtain ⟨rfl, rfl, rfl⟩ := trodAll_nil hA2
  obtain ⟨rfl, rfl⟩ := trodVars_none hV
  obtain ⟨ls0, hll0, rfl, rfl, rfl, hlm0⟩ := open_texts Tryz.underlying24 (by kernel_rfl) (by kernel_rfl) (by rfl) Tryz.underlying22 (hval 0 24 v0 rfl rfl) h0
  have h1k := h1
  have hss0 : ∀ l ∈ ls0, l.length ≤ reachBytes := sized_texts (t := 24) hsz (j := 0) (by simp) (by simp) Tryz.underlying24 hll0
  have hlx0 : ls0.length = 5 := by simpa using hll0
  obtain ⟨I, E, S, F, P, rfl⟩ := texts_of5 hlx0
  clear hll0 hlx0
  have hrI := hss0 I (by simp)
  have hrE := hss0 E (by simp)
  have hrS := hss0 S (by simp)
  have hrF := hss0 F (by simp)
  have hrP := hss0 P (by simp)
  obtain ⟨ad1, c1, ws1, rfl, hWA1, hwl1, hwo1⟩ := open_steps Tryz.underlying25 Tryz.underlying27 (by kernel_rfl) (by kernel_rfl) (by kernel_rfl) Tryz.underlying3 Tryz.underlying4 Tryz.underlying22 Tryz.underlying9 Tryz.underlying3 (hval 1 25 v1 rfl rfl) h1 (sized_in (t := 25) hsz (j := 1) (by simp) (by simp))
  have hG := splays_laid hL
  clear hA0 hval0
  simp only [List.append_nil, List.nil_append] at hW'
  have hr : reachBytes ≤ 140737488355328 := by decide
  have hl := lSessionPlays I E S F P (Nat.le_trans hrI (by decide)) (Nat.le_trans hrE (by decide)) (Nat.le_trans hrS (by decide)) (Nat.le_trans hrF (by decide)) (Nat.le_trans hrP (by decide)) ad1 c1 ws1 hwl1 W hG hWA1 hwo1
  refine Calls.mono (show Calls Tryz.prog 3 #[textsV [I, E, S, F, P], .slice ad1 ws1.length c1] W _ from hl) fun r W' ⟨he, hb⟩ => ?_
  subst he
  have e1 : Rows.sessionPlaysSpec.fn H ([textsD H [I, E, S, F, P], d1] ++ []) = { results := [.lit (.bool true)], args := [textsD H [I, E, S, F, P], d1] } := by simp [Rows.sessionPlaysSpec]
  refine ⟨_, rfl, _, _, _, [], p1, [], hW', ?_, ?_, ?_, hb.frame _, fun h => by cases h⟩
  · rw [e1]; exact trodAll_mk1 (shut_bool Tryz.underlying4 true)
  · rw [e1]; exact ⟨_, _, (shut_texts Tryz.underlying24 (by kernel_rfl) (by kernel_rfl) (by rfl) Tryz.underlying22 rfl hlm0), ⟨_, _, (Below.trod (by kernel_rfl) (by kernel_rfl) (of_decide_eq_true (by kernel_rfl)) h1k hb (fun x hx => by have := hW'.lt x (by simp [hx]); simpa using this)), trodAll_mk0, rfl⟩, by simp⟩
  · rw [e1]; rfl

theorem splays_name : Tryz.pinned.checked.prog.funcNamed Rows.sessionPlaysRow.func = some 3 := by kernel_rfl
theorem splays_facts : joinedFacts Tryz.pinned.checked.prog 3 Tryz.f3 Rows.sessionPlaysSpec Rows.sessionPlaysRow = true := by kernel_rfl
theorem splays_inst : Tryz.f3.isInstance Tryz.pinned.checked.prog Rows.sessionPlaysRow.origin Rows.sessionPlaysRow.targs := of_decide_eq_true (by kernel_rfl)
theorem splays_wrap : Tryz.f3.isWrapper Tryz.pinned.checked.prog Rows.sessionPlaysRow.wrapper Rows.sessionPlaysRow.mainSum := by unfold Func.isWrapper; first | (rw [if_pos (by decide +kernel)]; kernel_rfl) | (rw [if_neg (by decide +kernel)]; exact ⟨rfl, rfl⟩)
theorem splays_holds : Rows.SessionPlaysSaid :=
  OpenClaim.holds_of_wide 3 Tryz.f3 rfl rfl rfl rfl rfl rfl rfl ⟨rfl, rfl, rfl, rfl, rfl⟩ rfl rfl rfl rfl rfl splays_name Tryz.func3 splays_facts
    splays_inst splays_wrap
    (fun os started H enc _ => splays_lifted os started H enc)

theorem splays_card : Rows.SessionPlaysCardSaid :=
  Claim7.holds_tied_plain_at .later [] [.data, .data, .data, .sentinel, .sentinel] true Rows.sessionPlaysCard.stood.harness true
    splays_holds (fun _ h => by cases h) (by kernel_rfl) (fun _ h => by cases h) sessionPlays_row_tie rfl ⟨rfl, rfl⟩ (by kernel_rfl) rfl
    (fun f fn hf hfn => by
      obtain rfl : f = 3 := Option.some.inj ((show Tryz.prog.funcNamed "sluiceway/sluicewaylaw21.SessionPlays" = some 3 by kernel_rfl).symm.trans hf) |>.symm
      obtain rfl : fn = Tryz.f3 := (Option.some.inj (Tryz.func3.symm.trans hfn)).symm
      exact ⟨by kernel_rfl, fun j t ht => by
        rw [Tryz.params3] at ht
        have hm : t ∈ [24, 25] := by simpa using Array.mem_of_getElem? ht
        have hall : ([24, 25].all fun u => !Tryz.prog.wantsStandIn u) = true := by kernel_rfl
        exact (show Tryz.prog.wantsStandIn t = false by simpa using List.all_eq_true.1 hall t hm)⟩)
    (by kernel_rfl)
#print axioms splays_card
end Go.Proofs.YtdmfoablpdhnbaaGreatDoor
