/- LockReads: any text is read as the lock that it is, or refused: for every input the law returns true. Conditions: package variables start as the program's text lays them (the card ties them). -/
import Derived.Test.YtfmckibiblhakaaGreatDoorLawV
import Derived.Test.YtfmckibiblhakaaGreatDoorLiftC
import Derived.Test.YtfmckibiblhakaaGreatDoorLiftE
import Derived.Test.YtfmckibiblhakaaGreatDoorCards
import Derived.Test.YtfmckibiblhakaaGreatDoorTie
import Derived.SevenTiedAt
import Derived.Carry
set_option linter.unusedSimpArgs false
set_option linter.unusedVariables false
namespace Go.Proofs.YtfmckibiblhakaaGreatDoor
open Go.ChangeShapes Go.WideShapes Go.ChangeAt Go.RowKit
open Go.ChangeMaps (open_string shut_string)

theorem lread_laid {W : World} (h : laidMetH Tryz.prog Rows.lockReadsRow.laid W) : GOk W := by
  rw [MakeChecks.laidMetH_plain _ _ _ (by kernel_rfl)] at h
  obtain ⟨ps, ⟨g0, t0, cs0, f0, p0, q0, hg0, ht0, hv0, hd0, ⟨g1, t1, cs1, f1, p1, q1, hg1, ht1, hv1, hd1, ⟨g2, t2, cs2, f2, p2, q2, hg2, ht2, hv2, hd2, ⟨g3, t3, cs3, f3, p3, q3, hg3, ht3, hv3, hd3, ⟨g4, t4, cs4, f4, p4, q4, hg4, ht4, hv4, hd4, _, _⟩, _⟩, _⟩, _⟩, _⟩, _, _⟩ := h
  refine ⟨⟨syntax_of hg4 ht4 hv4 hd4, range_of hg3 ht3 hv3 hd3⟩, pow_of hg2 ht2 hv2 hd2, ?_⟩
  have hgs : g1 + 1 = gN := by
    obtain rfl := Option.some.inj ((show Tryz.prog.globalNamed "math/bits.deBruijn64tab" = some 6 by kernel_rfl).symm.trans hg1)
    rfl
  have := size_of hg1 hv1
  omega

theorem lread_door (os : Os) (args : Array Value) : laidMetH Tryz.prog Rows.lockReadsRow.laid ((World.doorLaid Tryz.prog 400 os).forCall (fun _ _ => 0) ⟨#[], args, []⟩).memory :=
  laidMetH_of_parts3 (fuel := 8) (laidMet_of_run' 8 (by kernel_rfl) (by kernel_rfl)) (by kernel_rfl) (by kernel_rfl)

set_option maxRecDepth 100000 in
set_option maxHeartbeats 1000000 in
theorem lread_lifted (os : Os) (started : os.Started) (H : Type) (enc : TypeId × Value → H) :
    ReturnsInHanded {} Tryz.checked os 4 .any (fun w args => (Rows.lockReadsSpec.pre enc Tryz.prog Tryz.f4 [] false w args ∧ laidMetH Tryz.prog Rows.lockReadsRow.laid w) ∧ sizedMet enc Tryz.prog Tryz.f4 (OpenSpec.ofChange Rows.lockReadsSpec) false w args)
      (Rows.lockReadsSpec.post enc Tryz.prog Tryz.f4 false true false false) := by
  refine returnsInHanded_of_change_and (C := Tryz.checked) (X := fun w _ => laidMetH Tryz.prog Rows.lockReadsRow.laid w) (fun _ _ _ hh h => h.of_heap hh) Tryz.own started (by kernel_rfl) Tryz.func4
    (ChangeSpec.witness_shaped (enc := enc) (C := Tryz.checked) (os := os) (X := fun w _ => laidMetH Tryz.prog Rows.lockReadsRow.laid w) false (World.doorLaid Tryz.prog 400 os) #[.string ByteArray.empty] 8 rfl (World.shaped_of_RefB (by kernel_rfl) (by kernel_rfl)) (by kernel_rfl) (by kernel_rfl) (by kernel_rfl) (lread_door os _)) ?_
  intro W base args ds gs before hval0 hW _ hsz hL _
  have hval : ∀ (j : Nat) t v, Tryz.f4.params[j]? = some t → args[j]? = some v → Value.okWide Tryz.prog W .any base t v := hval0
  have hW' := hW
  obtain ⟨p, q, hA0, hV, rfl, hfz, hnd⟩ := hW
  have hA : DataW.TrodAll enc Tryz.prog W 0 (fun _ => true) true Tryz.f4.params.toList args.toList ds p := hA0
  rw [Tryz.params4] at hA hval hsz
  obtain ⟨v0, d0, rfl, rfl, h0⟩ := trodAll_one hA
  obtain ⟨rfl, rfl⟩ := trodVars_none hV
  obtain ⟨sB, rfl, rfl, rfl, hws⟩ := open_string Tryz.underlying9 (hval 0 9 v0 rfl rfl) h0
  have hrs : sB.data.toList.length ≤ reachBytes := sized_text (t := 9) hsz (j := 0) (by simp) (by simp)
  obtain ⟨s, hsB⟩ : ∃ l, sB.data.toList = l := ⟨_, rfl⟩
  have hsC : sB = bs s := by rw [← hsB, bs_ofData]
  rw [hsB] at hrs
  have hG := lread_laid hL
  clear hA0 hval0
  simp only [List.append_nil] at hW'
  have hr : reachBytes ≤ 140737488355328 := by decide
  have hl := lLockReads s (by omega) W hG
  rw [← hsC] at hl
  refine Calls.mono (show Calls Tryz.prog 4 #[.string sB] W _ from hl) fun r W' ⟨he, hb⟩ => ?_
  subst he
  have e1 : Rows.lockReadsSpec.fn H ([.lit (.string sB.data.toList)] ++ []) = { results := [.lit (.bool true)], args := [.lit (.string sB.data.toList)] } := by simp [Rows.lockReadsSpec]
  refine ⟨_, rfl, _, _, _, [], [], [], hW', ?_, ?_, ?_, hb.frame _, fun h => by cases h⟩
  · rw [e1]; exact trodAll_mk1 (shut_bool Tryz.underlying4 true)
  · rw [e1]; exact trodAll_mk1 (shut_string Tryz.underlying9 hws)
  · rw [e1]; rfl

theorem lread_name : Tryz.pinned.checked.prog.funcNamed Rows.lockReadsRow.func = some 4 := by kernel_rfl
theorem lread_facts : joinedFacts Tryz.pinned.checked.prog 4 Tryz.f4 Rows.lockReadsSpec Rows.lockReadsRow = true := by kernel_rfl
theorem lread_inst : Tryz.f4.isInstance Tryz.pinned.checked.prog Rows.lockReadsRow.origin Rows.lockReadsRow.targs := of_decide_eq_true (by kernel_rfl)
theorem lread_wrap : Tryz.f4.isWrapper Tryz.pinned.checked.prog Rows.lockReadsRow.wrapper Rows.lockReadsRow.mainSum := by unfold Func.isWrapper; first | (rw [if_pos (by decide +kernel)]; kernel_rfl) | (rw [if_neg (by decide +kernel)]; exact ⟨rfl, rfl⟩)
theorem lread_holds : Rows.LockReadsSaid :=
  OpenClaim.holds_of_wide 4 Tryz.f4 rfl rfl rfl rfl rfl rfl rfl ⟨rfl, rfl, rfl, rfl, rfl⟩ rfl rfl rfl rfl rfl lread_name Tryz.func4 lread_facts
    lread_inst lread_wrap
    (fun os started H enc _ => lread_lifted os started H enc)

theorem lread_card : Rows.LockReadsCardSaid :=
  Claim7.holds_tied_plain_at .later [] [.data, .data, .data, .sentinel, .sentinel] true Rows.lockReadsCard.stood.harness true
    lread_holds (fun _ h => by cases h) (by kernel_rfl) (fun _ h => by cases h) lockReads_row_tie rfl ⟨rfl, rfl⟩ (by kernel_rfl) rfl
    (fun f fn hf hfn => by
      obtain rfl : f = 4 := Option.some.inj ((show Tryz.prog.funcNamed "sluiceway/sluicewaylaw11.LockReads" = some 4 by kernel_rfl).symm.trans hf) |>.symm
      obtain rfl : fn = Tryz.f4 := (Option.some.inj (Tryz.func4.symm.trans hfn)).symm
      exact ⟨by kernel_rfl, fun j t ht => by
        rw [Tryz.params4] at ht
        have hm : t ∈ [9] := by simpa using Array.mem_of_getElem? ht
        have hall : ([9].all fun u => !Tryz.prog.wantsStandIn u) = true := by kernel_rfl
        exact (show Tryz.prog.wantsStandIn t = false by simpa using List.all_eq_true.1 hall t hm)⟩)
    (by kernel_rfl)
#print axioms lread_card
end Go.Proofs.YtfmckibiblhakaaGreatDoor
