/- LockBack: a right lock that is written is read as itself; what is read is written as it was; two right locks are written alike just if they are the same: for every input the law returns true. Conditions: package variables start as the program's text lays them (the card ties them). -/
import Derived.Test.YtfmckibiblhakaaGreatDoorLawM
import Derived.Test.YtfmckibiblhakaaGreatDoorLiftC
import Derived.Test.YtfmckibiblhakaaGreatDoorLiftE
import Derived.Test.YtfmckibiblhakaaGreatDoorCards
import Derived.Test.YtfmckibiblhakaaGreatDoorTie
import Derived.SevenTiedAt
import Derived.Carry
set_option linter.unusedSimpArgs false
set_option linter.unusedVariables false
namespace Go.Proofs.YtfmckibiblhakaaGreatDoor
open Go.ChangeShapes Go.WideShapes Go.ChangeAt Go.RowKit
open Go.ChangeMaps (open_string shut_string)

theorem lback_laid {W : World} (h : laidMetH Tryz.prog Rows.lockBackRow.laid W) : GOk W := by
  rw [MakeChecks.laidMetH_plain _ _ _ (by kernel_rfl)] at h
  obtain ⟨ps, ⟨g0, t0, cs0, f0, p0, q0, hg0, ht0, hv0, hd0, ⟨g1, t1, cs1, f1, p1, q1, hg1, ht1, hv1, hd1, ⟨g2, t2, cs2, f2, p2, q2, hg2, ht2, hv2, hd2, ⟨g3, t3, cs3, f3, p3, q3, hg3, ht3, hv3, hd3, ⟨g4, t4, cs4, f4, p4, q4, hg4, ht4, hv4, hd4, _, _⟩, _⟩, _⟩, _⟩, _⟩, _, _⟩ := h
  refine ⟨⟨syntax_of hg4 ht4 hv4 hd4, range_of hg3 ht3 hv3 hd3⟩, pow_of hg2 ht2 hv2 hd2, ?_⟩
  have hgs : g1 + 1 = gN := by
    obtain rfl := Option.some.inj ((show Tryz.prog.globalNamed "math/bits.deBruijn64tab" = some 6 by kernel_rfl).symm.trans hg1)
    rfl
  have := size_of hg1 hv1
  omega

theorem lback_door (os : Os) (args : Array Value) : laidMetH Tryz.prog Rows.lockBackRow.laid ((World.doorLaid Tryz.prog 400 os).forCall (fun _ _ => 0) ⟨#[], args, []⟩).memory :=
  laidMetH_of_parts3 (fuel := 8) (laidMet_of_run' 8 (by kernel_rfl) (by kernel_rfl)) (by kernel_rfl) (by kernel_rfl)

set_option maxRecDepth 100000 in
set_option maxHeartbeats 1000000 in
theorem lback_lifted (os : Os) (started : os.Started) (H : Type) (enc : TypeId × Value → H) :
    ReturnsInHanded {} Tryz.checked os 6 .any (fun w args => (Rows.lockBackSpec.pre enc Tryz.prog Tryz.f6 [] false w args ∧ laidMetH Tryz.prog Rows.lockBackRow.laid w) ∧ sizedMet enc Tryz.prog Tryz.f6 (OpenSpec.ofChange Rows.lockBackSpec) false w args)
      (Rows.lockBackSpec.post enc Tryz.prog Tryz.f6 false true false false) := by
  refine returnsInHanded_of_change_and (C := Tryz.checked) (X := fun w _ => laidMetH Tryz.prog Rows.lockBackRow.laid w) (fun _ _ _ hh h => h.of_heap hh) Tryz.own started (by kernel_rfl) Tryz.func6
    (ChangeSpec.witness_shaped (enc := enc) (C := Tryz.checked) (os := os) (X := fun w _ => laidMetH Tryz.prog Rows.lockBackRow.laid w) false (World.doorLaid Tryz.prog 400 os) #[.agg #[.int .u8 0, .string ByteArray.empty, .int .i64 0, .slice none 0 0], .agg #[.int .u8 0, .string ByteArray.empty, .int .i64 0, .slice none 0 0], .string ByteArray.empty] 8 rfl (World.shaped_of_RefB (by kernel_rfl) (by kernel_rfl)) (by kernel_rfl) (by kernel_rfl) (by kernel_rfl) (lback_door os _)) ?_
  intro W base args ds gs before hval0 hW _ hsz hL _
  have hval : ∀ (j : Nat) t v, Tryz.f6.params[j]? = some t → args[j]? = some v → Value.okWide Tryz.prog W .any base t v := hval0
  have hW' := hW
  obtain ⟨p, q, hA0, hV, rfl, hfz, hnd⟩ := hW
  have hA : DataW.TrodAll enc Tryz.prog W 0 (fun _ => true) true Tryz.f6.params.toList args.toList ds p := hA0
  rw [Tryz.params6] at hA hval hsz
  obtain ⟨args⟩ := args
  obtain ⟨v0, vs0, d0, ds0, p0, q0, hq0, rfl, rfl, h0, hA1⟩ := trodAll_cons hA
  simp only at hq0
  subst hq0
  obtain ⟨v1, vs1, d1, ds1, p1, q1, hq1, rfl, rfl, h1, hA2⟩ := trodAll_cons hA1
  subst hq1
  obtain ⟨v2, vs2, d2, ds2, p2, q2, hq2, rfl, rfl, h2, hA3⟩ := trodAll_cons hA2
  subst hq2
  obtain ⟨rfl, rfl, rfl⟩ := trodAll_nil hA3
  obtain ⟨rfl, rfl⟩ := trodVars_none hV
  have h0k := h0
  have h1k := h1
  obtain ⟨sB, rfl, rfl, rfl, hws⟩ := open_string Tryz.underlying9 (hval 2 9 v2 rfl rfl) h2
  obtain ⟨la, hlla⟩ := open_lockV Tryz.underlying25 (by kernel_rfl) (by kernel_rfl) (by kernel_rfl) Tryz.underlying5 Tryz.underlying22 Tryz.underlying3 Tryz.underlying23 (hval 0 25 v0 rfl rfl) h0 (sized_any (t := 25) hsz (j := 0) (by simp) (by simp))
  obtain ⟨lb, hllb⟩ := open_lockV Tryz.underlying25 (by kernel_rfl) (by kernel_rfl) (by kernel_rfl) Tryz.underlying5 Tryz.underlying22 Tryz.underlying3 Tryz.underlying23 (hval 1 25 v1 rfl rfl) h1 (sized_any (t := 25) hsz (j := 1) (by simp) (by simp))
  have hrs : sB.data.toList.length ≤ reachBytes := sized_text (t := 9) hsz (j := 2) (by simp) (by simp)
  obtain ⟨s, hsB⟩ : ∃ l, sB.data.toList = l := ⟨_, rfl⟩
  have hsC : sB = bs s := by rw [← hsB, bs_ofData]
  rw [hsB] at hrs
  have hG := lback_laid hL
  clear hA0 hval0
  simp only [List.append_nil, List.nil_append] at hW'
  have hr : reachBytes ≤ 140737488355328 := by decide
  have hl := lLockBack la lb v0 v1 s (by omega) _ _ W hlla hllb hG
  rw [← hsC] at hl
  refine Calls.mono (show Calls Tryz.prog 6 #[v0, v1, .string sB] W _ from hl) fun r W' ⟨he, hb⟩ => ?_
  subst he
  have e1 : Rows.lockBackSpec.fn H ([d0, d1, .lit (.string sB.data.toList)] ++ []) = { results := [.lit (.bool true)], args := [d0, d1, .lit (.string sB.data.toList)] } := by simp [Rows.lockBackSpec]
  refine ⟨_, rfl, _, _, _, [], p0 ++ p1, [], hW', ?_, ?_, ?_, hb.frame _, fun h => by cases h⟩
  · rw [e1]; exact trodAll_mk1 (shut_bool Tryz.underlying4 true)
  · rw [e1]; exact ⟨_, _, (Below.trod (by kernel_rfl) (by kernel_rfl) (of_decide_eq_true (by kernel_rfl)) h0k hb (fun x hx => by have := hW'.lt x (by simp [hx]); simpa using this)), ⟨_, _, (Below.trod (by kernel_rfl) (by kernel_rfl) (of_decide_eq_true (by kernel_rfl)) h1k hb (fun x hx => by have := hW'.lt x (by simp [hx]); simpa using this)), ⟨_, _, (shut_string Tryz.underlying9 hws), trodAll_mk0, rfl⟩, rfl⟩, by simp⟩
  · rw [e1]; rfl

theorem lback_name : Tryz.pinned.checked.prog.funcNamed Rows.lockBackRow.func = some 6 := by kernel_rfl
theorem lback_facts : joinedFacts Tryz.pinned.checked.prog 6 Tryz.f6 Rows.lockBackSpec Rows.lockBackRow = true := by kernel_rfl
theorem lback_inst : Tryz.f6.isInstance Tryz.pinned.checked.prog Rows.lockBackRow.origin Rows.lockBackRow.targs := of_decide_eq_true (by kernel_rfl)
theorem lback_wrap : Tryz.f6.isWrapper Tryz.pinned.checked.prog Rows.lockBackRow.wrapper Rows.lockBackRow.mainSum := by unfold Func.isWrapper; first | (rw [if_pos (by decide +kernel)]; kernel_rfl) | (rw [if_neg (by decide +kernel)]; exact ⟨rfl, rfl⟩)
theorem lback_holds : Rows.LockBackSaid :=
  OpenClaim.holds_of_wide 6 Tryz.f6 rfl rfl rfl rfl rfl rfl rfl ⟨rfl, rfl, rfl, rfl, rfl⟩ rfl rfl rfl rfl rfl lback_name Tryz.func6 lback_facts
    lback_inst lback_wrap
    (fun os started H enc _ => lback_lifted os started H enc)

theorem lback_card : Rows.LockBackCardSaid :=
  Claim7.holds_tied_plain_at .later [] [.data, .data, .data, .sentinel, .sentinel] true Rows.lockBackCard.stood.harness true
    lback_holds (fun _ h => by cases h) (by kernel_rfl) (fun _ h => by cases h) lockBack_row_tie rfl ⟨rfl, rfl⟩ (by kernel_rfl) rfl
    (fun f fn hf hfn => by
      obtain rfl : f = 6 := Option.some.inj ((show Tryz.prog.funcNamed "sluiceway/sluicewaylaw11.LockBack" = some 6 by kernel_rfl).symm.trans hf) |>.symm
      obtain rfl : fn = Tryz.f6 := (Option.some.inj (Tryz.func6.symm.trans hfn)).symm
      exact ⟨by kernel_rfl, fun j t ht => by
        rw [Tryz.params6] at ht
        have hm : t ∈ [25, 25, 9] := by simpa using Array.mem_of_getElem? ht
        have hall : ([25, 25, 9].all fun u => !Tryz.prog.wantsStandIn u) = true := by kernel_rfl
        exact (show Tryz.prog.wantsStandIn t = false by simpa using List.all_eq_true.1 hall t hm)⟩)
    (by kernel_rfl)
#print axioms lback_card
end Go.Proofs.YtfmckibiblhakaaGreatDoor
