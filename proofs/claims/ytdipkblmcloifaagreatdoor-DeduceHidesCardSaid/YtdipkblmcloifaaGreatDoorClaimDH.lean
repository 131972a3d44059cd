/- DeduceHides: a box under a fresh key hides what is in it, and opens to who has the key: for every input the law returns true. Conditions: package variables start as the program's text lays them (the card ties them). -/
import Derived.Test.YtdipkblmcloifaaGreatDoorLawDH
import Derived.Test.YtdipkblmcloifaaGreatDoorLiftC
import Derived.Test.YtdipkblmcloifaaGreatDoorLiftH
import Derived.Test.YtdipkblmcloifaaGreatDoorCards
import Derived.Test.YtdipkblmcloifaaGreatDoorTie
import Derived.SevenTiedAt
import Derived.Carry
set_option linter.unusedSimpArgs false
set_option linter.unusedVariables false
namespace Go.Proofs.YtdipkblmcloifaaGreatDoor
open Go.ChangeShapes Go.WideShapes Go.ChangeAt Go.RowKit
open Go.ChangeMaps (open_string shut_string)

theorem dhides_laid {W : World} (h : laidMetH Tryz.prog Rows.deduceHidesRow.laid W) : GOk W := by
  rw [MakeChecks.laidMetH_plain _ _ _ (by kernel_rfl)] at h
  obtain ⟨ps, ⟨g0, t0, cs0, f0, p0, q0, hg0, ht0, hv0, hd0, ⟨g1, t1, cs1, f1, p1, q1, hg1, ht1, hv1, hd1, ⟨g2, t2, cs2, f2, p2, q2, hg2, ht2, hv2, hd2, ⟨g3, t3, cs3, f3, p3, q3, hg3, ht3, hv3, hd3, ⟨g4, t4, cs4, f4, p4, q4, hg4, ht4, hv4, hd4, _, _⟩, _⟩, _⟩, _⟩, _⟩, _, _⟩ := h
  refine ⟨⟨syntax_of hg4 ht4 hv4 hd4, range_of hg3 ht3 hv3 hd3⟩, pow_of hg2 ht2 hv2 hd2, ?_⟩
  obtain rfl := Option.some.inj (Tryz.gRange.symm.trans hg3)
  exact size_of hg3 hv3

theorem dhides_door (os : Os) (args : Array Value) : laidMetH Tryz.prog Rows.deduceHidesRow.laid ((World.doorLaid Tryz.prog 400 os).forCall (fun _ _ => 0) ⟨#[], args, []⟩).memory :=
  laidMetH_of_parts3 (fuel := 8) (laidMet_of_run' 8 (by kernel_rfl) (by kernel_rfl)) (by kernel_rfl) (by kernel_rfl)

set_option maxRecDepth 100000 in
set_option maxHeartbeats 1000000 in
theorem dhides_lifted (os : Os) (started : os.Started) (H : Type) (enc : TypeId × Value → H) :
    ReturnsInHanded {} Tryz.checked os 7 .any (fun w args => (Rows.deduceHidesSpec.pre enc Tryz.prog Tryz.f7 [] false w args ∧ laidMetH Tryz.prog Rows.deduceHidesRow.laid w) ∧ sizedMet enc Tryz.prog Tryz.f7 (OpenSpec.ofChange Rows.deduceHidesSpec) false w args)
      (Rows.deduceHidesSpec.post enc Tryz.prog Tryz.f7 false true false false) := by
  refine returnsInHanded_of_change_and (C := Tryz.checked) (X := fun w _ => laidMetH Tryz.prog Rows.deduceHidesRow.laid w) (fun _ _ _ hh h => h.of_heap hh) Tryz.own started (by kernel_rfl) Tryz.func7
    (ChangeSpec.witness_shaped (enc := enc) (C := Tryz.checked) (os := os) (X := fun w _ => laidMetH Tryz.prog Rows.deduceHidesRow.laid w) false (World.doorLaid Tryz.prog 400 os) #[.slice none 0 0, .int .i64 0, .int .i64 0] 8 rfl (World.shaped_of_RefB (by kernel_rfl) (by kernel_rfl)) (by kernel_rfl) (by kernel_rfl) (by kernel_rfl) (dhides_door os _)) ?_
  intro W base args ds gs before hval0 hW _ hsz hL _
  have hval : ∀ (j : Nat) t v, Tryz.f7.params[j]? = some t → args[j]? = some v → Value.okWide Tryz.prog W .any base t v := hval0
  have hW' := hW
  obtain ⟨p, q, hA0, hV, rfl, hfz, hnd⟩ := hW
  have hA : DataW.TrodAll enc Tryz.prog W 0 (fun _ => true) true Tryz.f7.params.toList args.toList ds p := hA0
  rw [Tryz.params7] at hA hval hsz
  obtain ⟨args⟩ := args
  obtain ⟨v0, vs0, d0, ds0, p0, q0, hq0, rfl, rfl, h0, hA1⟩ := trodAll_cons hA
  simp only at hq0
  subst hq0
  obtain ⟨v1, vs1, d1, ds1, p1, q1, hq1, rfl, rfl, h1, hA2⟩ := trodAll_cons hA1
  subst hq1
  obtain ⟨v2, vs2, d2, ds2, p2, q2, hq2, rfl, rfl, h2, hA3⟩ := trodAll_cons hA2
  subst hq2
  obtain ⟨rfl, rfl, rfl⟩ := trodAll_nil hA3
  obtain ⟨rfl, rfl⟩ := trodVars_none hV
  have h0k := h0
  obtain ⟨k, rfl, rfl, rfl, hwk⟩ := open_int Tryz.underlying2 (hval 1 2 v1 rfl rfl) h1
  obtain ⟨s, rfl, rfl, rfl, hws⟩ := open_int Tryz.underlying2 (hval 2 2 v2 rfl rfl) h2
  obtain ⟨ad0, c0, ts, rfl, hTts, hnts, htts⟩ := open_termsV Tryz.underlying22 Tryz.underlying28 (by kernel_rfl) (by kernel_rfl) (hval 0 22 v0 rfl rfl) h0 (sized_any (t := 22) hsz (j := 0) (by simp) (by simp))
  have hrk : -9223372036854775808 ≤ k ∧ k ≤ 9223372036854775807 := by
    have := hwk
    simp only [Lit.wf, Bool.and_eq_true, decide_eq_true_eq] at this
    exact this
  have hrs : -9223372036854775808 ≤ s ∧ s ≤ 9223372036854775807 := by
    have := hws
    simp only [Lit.wf, Bool.and_eq_true, decide_eq_true_eq] at this
    exact this
  have hG := dhides_laid hL
  clear hA0 hval0
  simp only [List.append_nil, List.nil_append] at hW'
  have hr : reachBytes ≤ 140737488355328 := by decide
  have hl := lDeduceHides ts _ k s hrk hrs W hTts hnts htts hG
  refine Calls.mono (show Calls Tryz.prog 7 #[.slice ad0 ts.length c0, .int .i64 k, .int .i64 s] W _ from hl) fun r W' ⟨he, hb⟩ => ?_
  subst he
  have e1 : Rows.deduceHidesSpec.fn H ([d0, .lit (.int .i64 k), .lit (.int .i64 s)] ++ []) = { results := [.lit (.bool true)], args := [d0, .lit (.int .i64 k), .lit (.int .i64 s)] } := by simp [Rows.deduceHidesSpec]
  refine ⟨_, rfl, _, _, _, [], p0, [], hW', ?_, ?_, ?_, hb.frame _, fun h => by cases h⟩
  · rw [e1]; exact trodAll_mk1 (shut_bool Tryz.underlying4 true)
  · rw [e1]; exact ⟨_, _, (Below.trod (by kernel_rfl) (by kernel_rfl) (of_decide_eq_true (by kernel_rfl)) h0k hb (fun x hx => by have := hW'.lt x (by simp [hx]); simpa using this)), ⟨_, _, (shut_int Tryz.underlying2 hwk), ⟨_, _, (shut_int Tryz.underlying2 hws), trodAll_mk0, rfl⟩, rfl⟩, by simp⟩
  · rw [e1]; rfl

theorem dhides_name : Tryz.pinned.checked.prog.funcNamed Rows.deduceHidesRow.func = some 7 := by kernel_rfl
theorem dhides_facts : joinedFacts Tryz.pinned.checked.prog 7 Tryz.f7 Rows.deduceHidesSpec Rows.deduceHidesRow = true := by kernel_rfl
theorem dhides_inst : Tryz.f7.isInstance Tryz.pinned.checked.prog Rows.deduceHidesRow.origin Rows.deduceHidesRow.targs := of_decide_eq_true (by kernel_rfl)
theorem dhides_wrap : Tryz.f7.isWrapper Tryz.pinned.checked.prog Rows.deduceHidesRow.wrapper Rows.deduceHidesRow.mainSum := by unfold Func.isWrapper; first | (rw [if_pos (by decide +kernel)]; kernel_rfl) | (rw [if_neg (by decide +kernel)]; exact ⟨rfl, rfl⟩)
theorem dhides_holds : Rows.DeduceHidesSaid :=
  OpenClaim.holds_of_wide 7 Tryz.f7 rfl rfl rfl rfl rfl rfl rfl ⟨rfl, rfl, rfl, rfl, rfl⟩ rfl rfl rfl rfl rfl dhides_name Tryz.func7 dhides_facts
    dhides_inst dhides_wrap
    (fun os started H enc _ => dhides_lifted os started H enc)

theorem dhides_card : Rows.DeduceHidesCardSaid :=
  Claim7.holds_tied_plain_at .later [] [.data, .data, .data, .sentinel, .sentinel] true Rows.deduceHidesCard.stood.harness true
    dhides_holds (fun _ h => by cases h) (by kernel_rfl) (fun _ h => by cases h) deduceHides_row_tie rfl ⟨rfl, rfl⟩ (by kernel_rfl) rfl
    (fun f fn hf hfn => by
      obtain rfl : f = 7 := Option.some.inj ((show Tryz.prog.funcNamed "sluiceway/sluicewaylaw03.DeduceHides" = some 7 by kernel_rfl).symm.trans hf) |>.symm
      obtain rfl : fn = Tryz.f7 := (Option.some.inj (Tryz.func7.symm.trans hfn)).symm
      exact ⟨by kernel_rfl, fun j t ht => by
        rw [Tryz.params7] at ht
        have hm : t ∈ [22, 2, 2] := by simpa using Array.mem_of_getElem? ht
        have hall : ([22, 2, 2].all fun u => !Tryz.prog.wantsStandIn u) = true := by kernel_rfl
        exact (show Tryz.prog.wantsStandIn t = false by simpa using List.all_eq_true.1 hall t hm)⟩)
    (by kernel_rfl)
#print axioms dhides_card
end Go.Proofs.YtdipkblmcloifaaGreatDoor
