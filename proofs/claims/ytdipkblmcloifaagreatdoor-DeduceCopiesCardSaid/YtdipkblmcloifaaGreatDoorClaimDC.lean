/- DeduceCopies: what a copy hears the first one does not, and the other way round: for every input the law returns true. Conditions: package variables start as the program's text lays them (the card ties them). -/
import Derived.Test.YtdipkblmcloifaaGreatDoorLawDQ
import Derived.Test.YtdipkblmcloifaaGreatDoorLiftC
import Derived.Test.YtdipkblmcloifaaGreatDoorLiftH
import Derived.Test.YtdipkblmcloifaaGreatDoorCards
import Derived.Test.YtdipkblmcloifaaGreatDoorTie
import Derived.SevenTiedAt
import Derived.Carry
set_option linter.unusedSimpArgs false
set_option linter.unusedVariables false
namespace Go.Proofs.YtdipkblmcloifaaGreatDoor
open Go.ChangeShapes Go.WideShapes Go.ChangeAt Go.RowKit
open Go.ChangeMaps (open_string shut_string)

theorem dcopy_laid {W : World} (h : laidMetH Tryz.prog Rows.deduceCopiesRow.laid W) : GOk W := by
  rw [MakeChecks.laidMetH_plain _ _ _ (by kernel_rfl)] at h
  obtain ⟨ps, ⟨g0, t0, cs0, f0, p0, q0, hg0, ht0, hv0, hd0, ⟨g1, t1, cs1, f1, p1, q1, hg1, ht1, hv1, hd1, ⟨g2, t2, cs2, f2, p2, q2, hg2, ht2, hv2, hd2, ⟨g3, t3, cs3, f3, p3, q3, hg3, ht3, hv3, hd3, ⟨g4, t4, cs4, f4, p4, q4, hg4, ht4, hv4, hd4, _, _⟩, _⟩, _⟩, _⟩, _⟩, _, _⟩ := h
  refine ⟨⟨syntax_of hg4 ht4 hv4 hd4, range_of hg3 ht3 hv3 hd3⟩, pow_of hg2 ht2 hv2 hd2, ?_⟩
  obtain rfl := Option.some.inj (Tryz.gRange.symm.trans hg3)
  exact size_of hg3 hv3

theorem dcopy_door (os : Os) (args : Array Value) : laidMetH Tryz.prog Rows.deduceCopiesRow.laid ((World.doorLaid Tryz.prog 400 os).forCall (fun _ _ => 0) ⟨#[], args, []⟩).memory :=
  laidMetH_of_parts3 (fuel := 8) (laidMet_of_run' 8 (by kernel_rfl) (by kernel_rfl)) (by kernel_rfl) (by kernel_rfl)

set_option maxRecDepth 100000 in
set_option maxHeartbeats 1000000 in
theorem dcopy_lifted (os : Os) (started : os.Started) (H : Type) (enc : TypeId × Value → H) :
    ReturnsInHanded {} Tryz.checked os 4 .any (fun w args => (Rows.deduceCopiesSpec.pre enc Tryz.prog Tryz.f4 [] false w args ∧ laidMetH Tryz.prog Rows.deduceCopiesRow.laid w) ∧ sizedMet enc Tryz.prog Tryz.f4 (OpenSpec.ofChange Rows.deduceCopiesSpec) false w args)
      (Rows.deduceCopiesSpec.post enc Tryz.prog Tryz.f4 false true false false) := by
  refine returnsInHanded_of_change_and (C := Tryz.checked) (X := fun w _ => laidMetH Tryz.prog Rows.deduceCopiesRow.laid w) (fun _ _ _ hh h => h.of_heap hh) Tryz.own started (by kernel_rfl) Tryz.func4
    (ChangeSpec.witness_shaped (enc := enc) (C := Tryz.checked) (os := os) (X := fun w _ => laidMetH Tryz.prog Rows.deduceCopiesRow.laid w) false (World.doorLaid Tryz.prog 400 os) #[.slice none 0 0, .slice none 0 0, .slice none 0 0, .slice none 0 0] 8 rfl (World.shaped_of_RefB (by kernel_rfl) (by kernel_rfl)) (by kernel_rfl) (by kernel_rfl) (by kernel_rfl) (dcopy_door os _)) ?_
  intro W base args ds gs before hval0 hW _ hsz hL _
  have hval : ∀ (j : Nat) t v, Tryz.f4.params[j]? = some t → args[j]? = some v → Value.okWide Tryz.prog W .any base t v := hval0
  have hW' := hW
  obtain ⟨p, q, hA0, hV, rfl, hfz, hnd⟩ := hW
  have hA : DataW.TrodAll enc Tryz.prog W 0 (fun _ => true) true Tryz.f4.params.toList args.toList ds p := hA0
  rw [Tryz.params4] at hA hval hsz
  obtain ⟨args⟩ := args
  obtain ⟨v0, vs0, d0, ds0, p0, q0, hq0, rfl, rfl, h0, hA1⟩ := trodAll_cons hA
  simp only at hq0
  subst hq0
  obtain ⟨v1, vs1, d1, ds1, p1, q1, hq1, rfl, rfl, h1, hA2⟩ := trodAll_cons hA1
  subst hq1
  obtain ⟨v2, vs2, d2, ds2, p2, q2, hq2, rfl, rfl, h2, hA3⟩ := trodAll_cons hA2
  subst hq2
  obtain ⟨v3, vs3, d3, ds3, p3, q3, hq3, rfl, rfl, h3, hA4⟩ := trodAll_cons hA3
  subst hq3
  obtain ⟨rfl, rfl, rfl⟩ := trodAll_nil hA4
  obtain ⟨rfl, rfl⟩ := trodVars_none hV
  have h0k := h0
  have h1k := h1
  have h2k := h2
  have h3k := h3
  obtain ⟨ad0, c0, la, rfl, hTla, hnla, htla⟩ := open_termsV Tryz.underlying22 Tryz.underlying28 (by kernel_rfl) (by kernel_rfl) (hval 0 22 v0 rfl rfl) h0 (sized_any (t := 22) hsz (j := 0) (by simp) (by simp))
  obtain ⟨ad1, c1, lb, rfl, hTlb, hnlb, htlb⟩ := open_termsV Tryz.underlying22 Tryz.underlying28 (by kernel_rfl) (by kernel_rfl) (hval 1 22 v1 rfl rfl) h1 (sized_any (t := 22) hsz (j := 1) (by simp) (by simp))
  obtain ⟨ad2, c2, lc, rfl, hTlc, hnlc, htlc⟩ := open_termsV Tryz.underlying22 Tryz.underlying28 (by kernel_rfl) (by kernel_rfl) (hval 2 22 v2 rfl rfl) h2 (sized_any (t := 22) hsz (j := 2) (by simp) (by simp))
  obtain ⟨ad3, c3, ld, rfl, hTld, hnld, htld⟩ := open_termsV Tryz.underlying22 Tryz.underlying28 (by kernel_rfl) (by kernel_rfl) (hval 3 22 v3 rfl rfl) h3 (sized_any (t := 22) hsz (j := 3) (by simp) (by simp))
  have hG := dcopy_laid hL
  clear hA0 hval0
  simp only [List.append_nil, List.nil_append] at hW'
  have hr : reachBytes ≤ 140737488355328 := by decide
  have hl := lDeduceCopies la lb lc ld _ _ _ _ W hTla hTlb hTlc hTld hnla hnlb hnlc hnld htla htlb htlc htld hG
  refine Calls.mono (show Calls Tryz.prog 4 #[.slice ad0 la.length c0, .slice ad1 lb.length c1, .slice ad2 lc.length c2, .slice ad3 ld.length c3] W _ from hl) fun r W' ⟨he, hb⟩ => ?_
  subst he
  have e1 : Rows.deduceCopiesSpec.fn H ([d0, d1, d2, d3] ++ []) = { results := [.lit (.bool true)], args := [d0, d1, d2, d3] } := by simp [Rows.deduceCopiesSpec]
  refine ⟨_, rfl, _, _, _, [], p0 ++ p1 ++ p2 ++ p3, [], hW', ?_, ?_, ?_, hb.frame _, fun h => by cases h⟩
  · rw [e1]; exact trodAll_mk1 (shut_bool Tryz.underlying4 true)
  · rw [e1]; exact ⟨_, _, (Below.trod (by kernel_rfl) (by kernel_rfl) (of_decide_eq_true (by kernel_rfl)) h0k hb (fun x hx => by have := hW'.lt x (by simp [hx]); simpa using this)), ⟨_, _, (Below.trod (by kernel_rfl) (by kernel_rfl) (of_decide_eq_true (by kernel_rfl)) h1k hb (fun x hx => by have := hW'.lt x (by simp [hx]); simpa using this)), ⟨_, _, (Below.trod (by kernel_rfl) (by kernel_rfl) (of_decide_eq_true (by kernel_rfl)) h2k hb (fun x hx => by have := hW'.lt x (by simp [hx]); simpa using this)), ⟨_, _, (Below.trod (by kernel_rfl) (by kernel_rfl) (of_decide_eq_true (by kernel_rfl)) h3k hb (fun x hx => by have := hW'.lt x (by simp [hx]); simpa using this)), trodAll_mk0, rfl⟩, rfl⟩, rfl⟩, by simp⟩
  · rw [e1]; rfl

theorem dcopy_name : Tryz.pinned.checked.prog.funcNamed Rows.deduceCopiesRow.func = some 4 := by kernel_rfl
theorem dcopy_facts : joinedFacts Tryz.pinned.checked.prog 4 Tryz.f4 Rows.deduceCopiesSpec Rows.deduceCopiesRow = true := by kernel_rfl
theorem dcopy_inst : Tryz.f4.isInstance Tryz.pinned.checked.prog Rows.deduceCopiesRow.origin Rows.deduceCopiesRow.targs := of_decide_eq_true (by kernel_rfl)
theorem dcopy_wrap : Tryz.f4.isWrapper Tryz.pinned.checked.prog Rows.deduceCopiesRow.wrapper Rows.deduceCopiesRow.mainSum := by unfold Func.isWrapper; first | (rw [if_pos (by decide +kernel)]; kernel_rfl) | (rw [if_neg (by decide +kernel)]; exact ⟨rfl, rfl⟩)
theorem dcopy_holds : Rows.DeduceCopiesSaid :=
  OpenClaim.holds_of_wide 4 Tryz.f4 rfl rfl rfl rfl rfl rfl rfl ⟨rfl, rfl, rfl, rfl, rfl⟩ rfl rfl rfl rfl rfl dcopy_name Tryz.func4 dcopy_facts
    dcopy_inst dcopy_wrap
    (fun os started H enc _ => dcopy_lifted os started H enc)

theorem dcopy_card : Rows.DeduceCopiesCardSaid :=
  Claim7.holds_tied_plain_at .later [] [.data, .data, .data, .sentinel, .sentinel] true Rows.deduceCopiesCard.stood.harness true
    dcopy_holds (fun _ h => by cases h) (by kernel_rfl) (fun _ h => by cases h) deduceCopies_row_tie rfl ⟨rfl, rfl⟩ (by kernel_rfl) rfl
    (fun f fn hf hfn => by
      obtain rfl : f = 4 := Option.some.inj ((show Tryz.prog.funcNamed "sluiceway/sluicewaylaw03.DeduceCopies" = some 4 by kernel_rfl).symm.trans hf) |>.symm
      obtain rfl : fn = Tryz.f4 := (Option.some.inj (Tryz.func4.symm.trans hfn)).symm
      exact ⟨by kernel_rfl, fun j t ht => by
        rw [Tryz.params4] at ht
        have hm : t ∈ [22, 22, 22, 22] := by simpa using Array.mem_of_getElem? ht
        have hall : ([22, 22, 22, 22].all fun u => !Tryz.prog.wantsStandIn u) = true := by kernel_rfl
        exact (show Tryz.prog.wantsStandIn t = false by simpa using List.all_eq_true.1 hall t hm)⟩)
    (by kernel_rfl)
#print axioms dcopy_card
end Go.Proofs.YtdipkblmcloifaaGreatDoor
