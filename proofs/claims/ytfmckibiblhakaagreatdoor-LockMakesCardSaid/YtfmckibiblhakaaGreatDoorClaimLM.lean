/- LockMakes: the calls that put locks together tell the locks of their kinds; what is handed in stays: for every input the law returns true. Conditions: package variables start as the program's text lays them (the card ties them). -/
import Derived.Test.YtfmckibiblhakaaGreatDoorLawX
import Derived.Test.YtfmckibiblhakaaGreatDoorLiftC
import Derived.Test.YtfmckibiblhakaaGreatDoorLiftG
import Derived.Test.YtfmckibiblhakaaGreatDoorCards
import Derived.Test.YtfmckibiblhakaaGreatDoorTie
import Derived.SevenTiedAt
import Derived.Carry
set_option linter.unusedSimpArgs false
set_option linter.unusedVariables false
namespace Go.Proofs.YtfmckibiblhakaaGreatDoor
open Go.ChangeShapes Go.WideShapes Go.ChangeAt Go.RowKit
open Go.ChangeMaps (open_string shut_string)

theorem lmake_laid {W : World} (h : laidMetH Tryz.prog Rows.lockMakesRow.laid W) : GOk W := by
  rw [MakeChecks.laidMetH_plain _ _ _ (by kernel_rfl)] at h
  obtain ⟨ps, ⟨g0, t0, cs0, f0, p0, q0, hg0, ht0, hv0, hd0, ⟨g1, t1, cs1, f1, p1, q1, hg1, ht1, hv1, hd1, ⟨g2, t2, cs2, f2, p2, q2, hg2, ht2, hv2, hd2, ⟨g3, t3, cs3, f3, p3, q3, hg3, ht3, hv3, hd3, ⟨g4, t4, cs4, f4, p4, q4, hg4, ht4, hv4, hd4, _, _⟩, _⟩, _⟩, _⟩, _⟩, _, _⟩ := h
  refine ⟨⟨syntax_of hg4 ht4 hv4 hd4, range_of hg3 ht3 hv3 hd3⟩, pow_of hg2 ht2 hv2 hd2, ?_⟩
  have hgs : g1 + 1 = gN := by
    obtain rfl := Option.some.inj ((show Tryz.prog.globalNamed "math/bits.deBruijn64tab" = some 6 by kernel_rfl).symm.trans hg1)
    rfl
  have := size_of hg1 hv1
  omega

theorem lmake_door (os : Os) (args : Array Value) : laidMetH Tryz.prog Rows.lockMakesRow.laid ((World.doorLaid Tryz.prog 400 os).forCall (fun _ _ => 0) ⟨#[], args, []⟩).memory :=
  laidMetH_of_parts3 (fuel := 8) (laidMet_of_run' 8 (by kernel_rfl) (by kernel_rfl)) (by kernel_rfl) (by kernel_rfl)

set_option maxRecDepth 100000 in
set_option maxHeartbeats 1000000 in
theorem lmake_lifted (os : Os) (started : os.Started) (H : Type) (enc : TypeId × Value → H) :
    ReturnsInHanded {} Tryz.checked os 8 .any (fun w args => (Rows.lockMakesSpec.pre enc Tryz.prog Tryz.f8 [] false w args ∧ laidMetH Tryz.prog Rows.lockMakesRow.laid w) ∧ sizedMet enc Tryz.prog Tryz.f8 (OpenSpec.ofChange Rows.lockMakesSpec) false w args)
      (Rows.lockMakesSpec.post enc Tryz.prog Tryz.f8 false true false false) := by
  refine returnsInHanded_of_change_and (C := Tryz.checked) (X := fun w _ => laidMetH Tryz.prog Rows.lockMakesRow.laid w) (fun _ _ _ hh h => h.of_heap hh) Tryz.own started (by kernel_rfl) Tryz.func8
    (ChangeSpec.witness_shaped (enc := enc) (C := Tryz.checked) (os := os) (X := fun w _ => laidMetH Tryz.prog Rows.lockMakesRow.laid w) false (World.doorLaid Tryz.prog 400 os) #[.string ByteArray.empty, .int .i64 0, .slice none 0 0] 8 rfl (World.shaped_of_RefB (by kernel_rfl) (by kernel_rfl)) (by kernel_rfl) (by kernel_rfl) (by kernel_rfl) (lmake_door os _)) ?_
  intro W base args ds gs before hval0 hW _ hsz hL _
  have hval : ∀ (j : Nat) t v, Tryz.f8.params[j]? = some t → args[j]? = some v → Value.okWide Tryz.prog W .any base t v := hval0
  have hW' := hW
  obtain ⟨p, q, hA0, hV, rfl, hfz, hnd⟩ := hW
  have hA : DataW.TrodAll enc Tryz.prog W 0 (fun _ => true) true Tryz.f8.params.toList args.toList ds p := hA0
  rw [Tryz.params8] at hA hval hsz
  obtain ⟨args⟩ := args
  obtain ⟨v0, vs0, d0, ds0, p0, q0, hq0, rfl, rfl, h0, hA1⟩ := trodAll_cons hA
  simp only at hq0
  subst hq0
  obtain ⟨v1, vs1, d1, ds1, p1, q1, hq1, rfl, rfl, h1, hA2⟩ := trodAll_cons hA1
  subst hq1
  obtain ⟨v2, vs2, d2, ds2, p2, q2, hq2, rfl, rfl, h2, hA3⟩ := trodAll_cons hA2
  subst hq2
  obtain ⟨rfl, rfl, rfl⟩ := trodAll_nil hA3
  obtain ⟨rfl, rfl⟩ := trodVars_none hV
  obtain ⟨tB, rfl, rfl, rfl, hwt⟩ := open_string Tryz.underlying22 (hval 0 22 v0 rfl rfl) h0
  obtain ⟨n, rfl, rfl, rfl, hwn⟩ := open_int Tryz.underlying3 (hval 1 3 v1 rfl rfl) h1
  have h2k := h2
  have hrt : tB.data.toList.length ≤ reachBytes := sized_text (t := 22) hsz (j := 0) (by simp) (by simp)
  obtain ⟨t, htB⟩ : ∃ l, tB.data.toList = l := ⟨_, rfl⟩
  have htC : tB = bs t := by rw [← htB, bs_ofData]
  rw [htB] at hrt
  have hrn : -9223372036854775808 ≤ n ∧ n ≤ 9223372036854775807 := by
    have := hwn
    simp only [Lit.wf, Bool.and_eq_true, decide_eq_true_eq] at this
    exact this
  obtain ⟨ad2, c2, kids, rfl, hlkids⟩ := open_locks Tryz.underlying23 Tryz.underlying25 (by kernel_rfl) (by kernel_rfl) (by kernel_rfl) Tryz.underlying5 Tryz.underlying22 Tryz.underlying3 Tryz.underlying23 (hval 2 23 v2 rfl rfl) h2 (sized_any (t := 23) hsz (j := 2) (by simp) (by simp))
  have hG := lmake_laid hL
  clear hA0 hval0
  simp only [List.append_nil, List.nil_append] at hW'
  have hr : reachBytes ≤ 140737488355328 := by decide
  have hl := lLockMakes t n hrn kids ad2 c2 W hlkids hG
  rw [← htC] at hl
  refine Calls.mono (show Calls Tryz.prog 8 #[.string tB, .int .i64 n, .slice ad2 kids.length c2] W _ from hl) fun r W' ⟨he, hb⟩ => ?_
  subst he
  have e1 : Rows.lockMakesSpec.fn H ([.lit (.string tB.data.toList), .lit (.int .i64 n), d2] ++ []) = { results := [.lit (.bool true)], args := [.lit (.string tB.data.toList), .lit (.int .i64 n), d2] } := by simp [Rows.lockMakesSpec]
  refine ⟨_, rfl, _, _, _, [], p2, [], hW', ?_, ?_, ?_, hb.frame _, fun h => by cases h⟩
  · rw [e1]; exact trodAll_mk1 (shut_bool Tryz.underlying4 true)
  · rw [e1]; exact ⟨_, _, (shut_string Tryz.underlying22 hwt), ⟨_, _, (shut_int Tryz.underlying3 hwn), ⟨_, _, (Below.trod (by kernel_rfl) (by kernel_rfl) (of_decide_eq_true (by kernel_rfl)) h2k hb (fun x hx => by have := hW'.lt x (by simp [hx]); simpa using this)), trodAll_mk0, rfl⟩, rfl⟩, by simp⟩
  · rw [e1]; rfl

theorem lmake_name : Tryz.pinned.checked.prog.funcNamed Rows.lockMakesRow.func = some 8 := by kernel_rfl
theorem lmake_facts : joinedFacts Tryz.pinned.checked.prog 8 Tryz.f8 Rows.lockMakesSpec Rows.lockMakesRow = true := by kernel_rfl
theorem lmake_inst : Tryz.f8.isInstance Tryz.pinned.checked.prog Rows.lockMakesRow.origin Rows.lockMakesRow.targs := of_decide_eq_true (by kernel_rfl)
theorem lmake_wrap : Tryz.f8.isWrapper Tryz.pinned.checked.prog Rows.lockMakesRow.wrapper Rows.lockMakesRow.mainSum := by unfold Func.isWrapper; first | (rw [if_pos (by decide +kernel)]; kernel_rfl) | (rw [if_neg (by decide +kernel)]; exact ⟨rfl, rfl⟩)
theorem lmake_holds : Rows.LockMakesSaid :=
  OpenClaim.holds_of_wide 8 Tryz.f8 rfl rfl rfl rfl rfl rfl rfl ⟨rfl, rfl, rfl, rfl, rfl⟩ rfl rfl rfl rfl rfl lmake_name Tryz.func8 lmake_facts
    lmake_inst lmake_wrap
    (fun os started H enc _ => lmake_lifted os started H enc)

theorem lmake_card : Rows.LockMakesCardSaid :=
  Claim7.holds_tied_plain_at .later [] [.data, .data, .data, .sentinel, .sentinel] true Rows.lockMakesCard.stood.harness true
    lmake_holds (fun _ h => by cases h) (by kernel_rfl) (fun _ h => by cases h) lockMakes_row_tie rfl ⟨rfl, rfl⟩ (by kernel_rfl) rfl
    (fun f fn hf hfn => by
      obtain rfl : f = 8 := Option.some.inj ((show Tryz.prog.funcNamed "sluiceway/sluicewaylaw11.LockMakes" = some 8 by kernel_rfl).symm.trans hf) |>.symm
      obtain rfl : fn = Tryz.f8 := (Option.some.inj (Tryz.func8.symm.trans hfn)).symm
      exact ⟨by kernel_rfl, fun j t ht => by
        rw [Tryz.params8] at ht
        have hm : t ∈ [22, 3, 23] := by simpa using Array.mem_of_getElem? ht
        have hall : ([22, 3, 23].all fun u => !Tryz.prog.wantsStandIn u) = true := by kernel_rfl
        exact (show Tryz.prog.wantsStandIn t = false by simpa using List.all_eq_true.1 hall t hm)⟩)
    (by kernel_rfl)
#print axioms lmake_card
end Go.Proofs.YtfmckibiblhakaaGreatDoor
