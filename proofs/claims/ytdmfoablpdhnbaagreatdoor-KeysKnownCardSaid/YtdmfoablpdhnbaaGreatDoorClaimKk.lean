/- KeysKnown: the examples hold; about each bound, and for terms that are none, the document's answer is told: the law returns true. Conditions: package variables start as the program's text lays them (the card ties them). -/
import Derived.Test.YtdmfoablpdhnbaaGreatDoorLawKk
import Derived.Test.YtdmfoablpdhnbaaGreatDoorLiftC
import Derived.Test.YtdmfoablpdhnbaaGreatDoorCards
import Derived.Test.YtdmfoablpdhnbaaGreatDoorTie
import Derived.SevenTiedAt
import Derived.Carry
set_option linter.unusedSimpArgs false
set_option linter.unusedVariables false
namespace Go.Proofs.YtdmfoablpdhnbaaGreatDoor
open Go.ChangeShapes Go.WideShapes Go.ChangeAt Go.RowKit
open Go.ChangeMaps (open_string shut_string)

theorem kknown_laid {W : World} (h : laidMetH Tryz.prog Rows.keysKnownRow.laid W) : GOk W ∧ WordsOk W := by
  rw [MakeChecks.laidMetH_plain _ _ _ (by kernel_rfl)] at h
  obtain ⟨ps, ⟨g0, t0, cs0, f0, p0, q0, hg0, ht0, hv0, hd0, ⟨g1, t1, cs1, f1, p1, q1, hg1, ht1, hv1, hd1, ⟨g2, t2, cs2, f2, p2, q2, hg2, ht2, hv2, hd2, ⟨g3, t3, cs3, f3, p3, q3, hg3, ht3, hv3, hd3, ⟨g4, t4, cs4, f4, p4, q4, hg4, ht4, hv4, hd4, ⟨g5, t5, cs5, f5, p5, q5, hg5, ht5, hv5, hd5, _, _⟩, _⟩, _⟩, _⟩, _⟩, _⟩, _, _⟩ := h
  refine ⟨⟨⟨syntax_of hg4 ht4 hv4 hd4, range_of hg3 ht3 hv3 hd3⟩, pow_of hg2 ht2 hv2 hd2, ?_⟩, words_of hg5 ht5 hv5 hd5⟩
  obtain rfl := Option.some.inj (Tryz.gRange.symm.trans hg3)
  exact size_of hg3 hv3

theorem kknown_door (os : Os) (args : Array Value) : laidMetH Tryz.prog Rows.keysKnownRow.laid ((World.doorLaid Tryz.prog 400 os).forCall (fun _ _ => 0) ⟨#[], args, []⟩).memory :=
  laidMetH_of_parts3 (fuel := 8) (laidMet_of_run' 8 (by kernel_rfl) (by kernel_rfl)) (by kernel_rfl) (by kernel_rfl)

set_option maxRecDepth 100000 in
set_option maxHeartbeats 1000000 in
theorem kknown_lifted (os : Os) (started : os.Started) (H : Type) (enc : TypeId × Value → H) :
    ReturnsInHanded {} Tryz.checked os 4 .any (fun w args => (Rows.keysKnownSpec.pre enc Tryz.prog Tryz.f4 [] false w args ∧ laidMetH Tryz.prog Rows.keysKnownRow.laid w) ∧ sizedMet enc Tryz.prog Tryz.f4 (OpenSpec.ofChange Rows.keysKnownSpec) false w args)
      (Rows.keysKnownSpec.post enc Tryz.prog Tryz.f4 false true false false) := by
  refine returnsInHanded_of_change_and (C := Tryz.checked) (X := fun w _ => laidMetH Tryz.prog Rows.keysKnownRow.laid w) (fun _ _ _ hh h => h.of_heap hh) Tryz.own started (by kernel_rfl) Tryz.func4
    (ChangeSpec.witness_shaped (enc := enc) (C := Tryz.checked) (os := os) (X := fun w _ => laidMetH Tryz.prog Rows.keysKnownRow.laid w) false (World.doorLaid Tryz.prog 400 os) #[] 8 rfl (World.shaped_of_RefB (by kernel_rfl) (by kernel_rfl)) (by kernel_rfl) (by kernel_rfl) (by kernel_rfl) (kknown_door os _)) ?_
  intro W base args ds gs before hval0 hW _ hsz hL _
  have hval : ∀ (j : Nat) t v, Tryz.f4.params[j]? = some t → args[j]? = some v → Value.okWide Tryz.prog W .any base t v := hval0
  have hW' := hW
  obtain ⟨p, q, hA0, hV, rfl, hfz, hnd⟩ := hW
  have hA : DataW.TrodAll enc Tryz.prog W 0 (fun _ => true) true Tryz.f4.params.toList args.toList ds p := hA0
  rw [Tryz.params4] at hA hval hsz
  obtain ⟨rfl, rfl, rfl⟩ := trodAll_none hA
  obtain ⟨rfl, rfl⟩ := trodVars_none hV
  obtain ⟨hG, hWd⟩ := kknown_laid hL
  clear hA0 hval0
  simp only [List.append_nil] at hW'
  have hr : reachBytes ≤ 140737488355328 := by decide
  have hl := lKeysKnown W hG hWd
  refine Calls.mono (show Calls Tryz.prog 4 #[] W _ from hl) fun r W' ⟨he, hb⟩ => ?_
  subst he
  have e1 : Rows.keysKnownSpec.fn H ([] ++ []) = { results := [.lit (.bool true)], args := [] } := by simp [Rows.keysKnownSpec]
  refine ⟨_, rfl, _, _, _, [], [], [], hW', ?_, ?_, ?_, hb.frame _, fun h => by cases h⟩
  · rw [e1]; exact trodAll_mk1 (shut_bool Tryz.underlying4 true)
  · rw [e1]; exact trodAll_mk0 
  · rw [e1]; rfl

theorem kknown_name : Tryz.pinned.checked.prog.funcNamed Rows.keysKnownRow.func = some 4 := by kernel_rfl
theorem kknown_facts : joinedFacts Tryz.pinned.checked.prog 4 Tryz.f4 Rows.keysKnownSpec Rows.keysKnownRow = true := by kernel_rfl
theorem kknown_inst : Tryz.f4.isInstance Tryz.pinned.checked.prog Rows.keysKnownRow.origin Rows.keysKnownRow.targs := of_decide_eq_true (by kernel_rfl)
theorem kknown_wrap : Tryz.f4.isWrapper Tryz.pinned.checked.prog Rows.keysKnownRow.wrapper Rows.keysKnownRow.mainSum := by unfold Func.isWrapper; first | (rw [if_pos (by decide +kernel)]; kernel_rfl) | (rw [if_neg (by decide +kernel)]; exact ⟨rfl, rfl⟩)
theorem kknown_holds : Rows.KeysKnownSaid :=
  OpenClaim.holds_of_wide 4 Tryz.f4 rfl rfl rfl rfl rfl rfl rfl ⟨rfl, rfl, rfl, rfl, rfl⟩ rfl rfl rfl rfl rfl kknown_name Tryz.func4 kknown_facts
    kknown_inst kknown_wrap
    (fun os started H enc _ => kknown_lifted os started H enc)

theorem kknown_card : Rows.KeysKnownCardSaid :=
  Claim7.holds_tied_plain_at .later [] [.data, .data, .data, .sentinel, .sentinel, .data] true Rows.keysKnownCard.stood.harness true
    kknown_holds (fun _ h => by cases h) (by kernel_rfl) (fun _ h => by cases h) keysKnown_row_tie rfl ⟨rfl, rfl⟩ (by kernel_rfl) rfl
    (fun f fn hf hfn => by
      obtain rfl : f = 4 := Option.some.inj ((show Tryz.prog.funcNamed "sluiceway/sluicewaylaw16.KeysKnown" = some 4 by kernel_rfl).symm.trans hf) |>.symm
      obtain rfl : fn = Tryz.f4 := (Option.some.inj (Tryz.func4.symm.trans hfn)).symm
      exact ⟨by kernel_rfl, fun j t ht => by
        rw [Tryz.params4] at ht
        simp at ht⟩)
    (by kernel_rfl)
#print axioms kknown_card
end Go.Proofs.YtdmfoablpdhnbaaGreatDoor
