/- LockNeeds: a lock that only a signature, a preimage, a time, an age opens does not open without it: for every input the law returns true. Conditions: package variables start as the program's text lays them (the card ties them). -/
import Derived.Test.YtfmckibiblhakaaGreatDoorLawK
import Derived.Test.YtfmckibiblhakaaGreatDoorLiftC
import Derived.Test.YtfmckibiblhakaaGreatDoorLiftF
import Derived.Test.YtfmckibiblhakaaGreatDoorCards
import Derived.Test.YtfmckibiblhakaaGreatDoorTie
import Derived.SevenTiedAt
import Derived.Carry
set_option linter.unusedSimpArgs false
set_option linter.unusedVariables false
namespace Go.Proofs.YtfmckibiblhakaaGreatDoor
open Go.ChangeShapes Go.WideShapes Go.ChangeAt Go.RowKit
open Go.ChangeMaps (open_string shut_string)

theorem lneed_laid {W : World} (h : laidMetH Tryz.prog Rows.lockNeedsRow.laid W) : GOk W := by
  rw [MakeChecks.laidMetH_plain _ _ _ (by kernel_rfl)] at h
  obtain ⟨ps, ⟨g0, t0, cs0, f0, p0, q0, hg0, ht0, hv0, hd0, ⟨g1, t1, cs1, f1, p1, q1, hg1, ht1, hv1, hd1, ⟨g2, t2, cs2, f2, p2, q2, hg2, ht2, hv2, hd2, ⟨g3, t3, cs3, f3, p3, q3, hg3, ht3, hv3, hd3, ⟨g4, t4, cs4, f4, p4, q4, hg4, ht4, hv4, hd4, _, _⟩, _⟩, _⟩, _⟩, _⟩, _, _⟩ := h
  refine ⟨⟨syntax_of hg4 ht4 hv4 hd4, range_of hg3 ht3 hv3 hd3⟩, pow_of hg2 ht2 hv2 hd2, ?_⟩
  have hgs : g1 + 1 = gN := by
    obtain rfl := Option.some.inj ((show Tryz.prog.globalNamed "math/bits.deBruijn64tab" = some 6 by kernel_rfl).symm.trans hg1)
    rfl
  have := size_of hg1 hv1
  omega

theorem lneed_door (os : Os) (args : Array Value) : laidMetH Tryz.prog Rows.lockNeedsRow.laid ((World.doorLaid Tryz.prog 400 os).forCall (fun _ _ => 0) ⟨#[], args, []⟩).memory :=
  laidMetH_of_parts3 (fuel := 8) (laidMet_of_run' 8 (by kernel_rfl) (by kernel_rfl)) (by kernel_rfl) (by kernel_rfl)

set_option maxRecDepth 100000 in
set_option maxHeartbeats 1000000 in
theorem lneed_lifted (os : Os) (started : os.Started) (H : Type) (enc : TypeId × Value → H) :
    ReturnsInHanded {} Tryz.checked os 9 .any (fun w args => (Rows.lockNeedsSpec.pre enc Tryz.prog Tryz.f9 [] false w args ∧ laidMetH Tryz.prog Rows.lockNeedsRow.laid w) ∧ sizedMet enc Tryz.prog Tryz.f9 (OpenSpec.ofChange Rows.lockNeedsSpec) false w args)
      (Rows.lockNeedsSpec.post enc Tryz.prog Tryz.f9 false true false false) := by
  refine returnsInHanded_of_change_and (C := Tryz.checked) (X := fun w _ => laidMetH Tryz.prog Rows.lockNeedsRow.laid w) (fun _ _ _ hh h => h.of_heap hh) Tryz.own started (by kernel_rfl) Tryz.func9
    (ChangeSpec.witness_shaped (enc := enc) (C := Tryz.checked) (os := os) (X := fun w _ => laidMetH Tryz.prog Rows.lockNeedsRow.laid w) false (World.doorLaid Tryz.prog 400 os) #[.int .i64 0, .int .i64 0, .int .i64 0, .agg #[.slice none 0 0, .slice none 0 0], .int .i64 0, .int .i64 0] 8 rfl (World.shaped_of_RefB (by kernel_rfl) (by kernel_rfl)) (by kernel_rfl) (by kernel_rfl) (by kernel_rfl) (lneed_door os _)) ?_
  intro W base args ds gs before hval0 hW _ hsz hL _
  have hval : ∀ (j : Nat) t v, Tryz.f9.params[j]? = some t → args[j]? = some v → Value.okWide Tryz.prog W .any base t v := hval0
  have hW' := hW
  obtain ⟨p, q, hA0, hV, rfl, hfz, hnd⟩ := hW
  have hA : DataW.TrodAll enc Tryz.prog W 0 (fun _ => true) true Tryz.f9.params.toList args.toList ds p := hA0
  rw [Tryz.params9] at hA hval hsz
  obtain ⟨args⟩ := args
  obtain ⟨v0, vs0, d0, ds0, p0, q0, hq0, rfl, rfl, h0, hA1⟩ := trodAll_cons hA
  simp only at hq0
  subst hq0
  obtain ⟨v1, vs1, d1, ds1, p1, q1, hq1, rfl, rfl, h1, hA2⟩ := trodAll_cons hA1
  subst hq1
  obtain ⟨v2, vs2, d2, ds2, p2, q2, hq2, rfl, rfl, h2, hA3⟩ := trodAll_cons hA2
  subst hq2
  obtain ⟨v3, vs3, d3, ds3, p3, q3, hq3, rfl, rfl, h3, hA4⟩ := trodAll_cons hA3
  subst hq3
  obtain ⟨v4, vs4, d4, ds4, p4, q4, hq4, rfl, rfl, h4, hA5⟩ := trodAll_cons hA4
  subst hq4
  obtain ⟨v5, vs5, d5, ds5, p5, q5, hq5, rfl, rfl, h5, hA6⟩ := trodAll_cons hA5
  subst hq5
  obtain ⟨rfl, rfl, rfl⟩ := trodAll_nil hA6
  obtain ⟨rfl, rfl⟩ := trodVars_none hV
  obtain ⟨k, rfl, rfl, rfl, hwk⟩ := open_int Tryz.underlying3 (hval 0 3 v0 rfl rfl) h0
  obtain ⟨pq, rfl, rfl, rfl, hwpq⟩ := open_int Tryz.underlying3 (hval 1 3 v1 rfl rfl) h1
  obtain ⟨n, rfl, rfl, rfl, hwn⟩ := open_int Tryz.underlying3 (hval 2 3 v2 rfl rfl) h2
  have h3k := h3
  obtain ⟨after, rfl, rfl, rfl, hwafter⟩ := open_int Tryz.underlying3 (hval 4 3 v4 rfl rfl) h4
  obtain ⟨age, rfl, rfl, rfl, hwage⟩ := open_int Tryz.underlying3 (hval 5 3 v5 rfl rfl) h5
  have hrk : -9223372036854775808 ≤ k ∧ k ≤ 9223372036854775807 := by
    have := hwk
    simp only [Lit.wf, Bool.and_eq_true, decide_eq_true_eq] at this
    exact this
  have hrpq : -9223372036854775808 ≤ pq ∧ pq ≤ 9223372036854775807 := by
    have := hwpq
    simp only [Lit.wf, Bool.and_eq_true, decide_eq_true_eq] at this
    exact this
  have hrn : -9223372036854775808 ≤ n ∧ n ≤ 9223372036854775807 := by
    have := hwn
    simp only [Lit.wf, Bool.and_eq_true, decide_eq_true_eq] at this
    exact this
  obtain ⟨sa3, pa3, sc3, pc3, sigs3, pres3, rfl, hS3, hP3, hsn3, hpn3, hst3, hpt3⟩ := open_wit Tryz.underlying40 (by kernel_rfl) (by kernel_rfl) Tryz.underlying32 Tryz.underlying32 Tryz.underlying22 (by kernel_rfl) (by kernel_rfl) (hval 3 40 v3 rfl rfl) h3 (sized_any (t := 40) hsz (j := 3) (by simp) (by simp))
  have hrafter : -9223372036854775808 ≤ after ∧ after ≤ 9223372036854775807 := by
    have := hwafter
    simp only [Lit.wf, Bool.and_eq_true, decide_eq_true_eq] at this
    exact this
  have hrage : -9223372036854775808 ≤ age ∧ age ≤ 9223372036854775807 := by
    have := hwage
    simp only [Lit.wf, Bool.and_eq_true, decide_eq_true_eq] at this
    exact this
  have hG := lneed_laid hL
  clear hA0 hval0
  simp only [List.append_nil, List.nil_append] at hW'
  have hr : reachBytes ≤ 140737488355328 := by decide
  have hl := lLockNeeds k pq n hrk hrpq hrn sa3 pa3 sc3 pc3 sigs3 pres3 after age hrafter hrage W hS3 hP3 hsn3 hpn3 hst3 hpt3 hG
  refine Calls.mono (show Calls Tryz.prog 9 #[.int .i64 k, .int .i64 pq, .int .i64 n, .agg #[.slice sa3 sigs3.length sc3, .slice pa3 pres3.length pc3], .int .i64 after, .int .i64 age] W _ from hl) fun r W' ⟨he, hb⟩ => ?_
  subst he
  have e1 : Rows.lockNeedsSpec.fn H ([.lit (.int .i64 k), .lit (.int .i64 pq), .lit (.int .i64 n), d3, .lit (.int .i64 after), .lit (.int .i64 age)] ++ []) = { results := [.lit (.bool true)], args := [.lit (.int .i64 k), .lit (.int .i64 pq), .lit (.int .i64 n), d3, .lit (.int .i64 after), .lit (.int .i64 age)] } := by simp [Rows.lockNeedsSpec]
  refine ⟨_, rfl, _, _, _, [], p3, [], hW', ?_, ?_, ?_, hb.frame _, fun h => by cases h⟩
  · rw [e1]; exact trodAll_mk1 (shut_bool Tryz.underlying4 true)
  · rw [e1]; exact ⟨_, _, (shut_int Tryz.underlying3 hwk), ⟨_, _, (shut_int Tryz.underlying3 hwpq), ⟨_, _, (shut_int Tryz.underlying3 hwn), ⟨_, _, (Below.trod (by kernel_rfl) (by kernel_rfl) (of_decide_eq_true (by kernel_rfl)) h3k hb (fun x hx => by have := hW'.lt x (by simp [hx]); simpa using this)), ⟨_, _, (shut_int Tryz.underlying3 hwafter), ⟨_, _, (shut_int Tryz.underlying3 hwage), trodAll_mk0, rfl⟩, rfl⟩, rfl⟩, rfl⟩, rfl⟩, by simp⟩
  · rw [e1]; rfl

theorem lneed_name : Tryz.pinned.checked.prog.funcNamed Rows.lockNeedsRow.func = some 9 := by kernel_rfl
theorem lneed_facts : joinedFacts Tryz.pinned.checked.prog 9 Tryz.f9 Rows.lockNeedsSpec Rows.lockNeedsRow = true := by kernel_rfl
theorem lneed_inst : Tryz.f9.isInstance Tryz.pinned.checked.prog Rows.lockNeedsRow.origin Rows.lockNeedsRow.targs := of_decide_eq_true (by kernel_rfl)
theorem lneed_wrap : Tryz.f9.isWrapper Tryz.pinned.checked.prog Rows.lockNeedsRow.wrapper Rows.lockNeedsRow.mainSum := by unfold Func.isWrapper; first | (rw [if_pos (by decide +kernel)]; kernel_rfl) | (rw [if_neg (by decide +kernel)]; exact ⟨rfl, rfl⟩)
theorem lneed_holds : Rows.LockNeedsSaid :=
  OpenClaim.holds_of_wide 9 Tryz.f9 rfl rfl rfl rfl rfl rfl rfl ⟨rfl, rfl, rfl, rfl, rfl⟩ rfl rfl rfl rfl rfl lneed_name Tryz.func9 lneed_facts
    lneed_inst lneed_wrap
    (fun os started H enc _ => lneed_lifted os started H enc)

theorem lneed_card : Rows.LockNeedsCardSaid :=
  Claim7.holds_tied_plain_at .later [] [.data, .data, .data, .sentinel, .sentinel] true Rows.lockNeedsCard.stood.harness true
    lneed_holds (fun _ h => by cases h) (by kernel_rfl) (fun _ h => by cases h) lockNeeds_row_tie rfl ⟨rfl, rfl⟩ (by kernel_rfl) rfl
    (fun f fn hf hfn => by
      obtain rfl : f = 9 := Option.some.inj ((show Tryz.prog.funcNamed "sluiceway/sluicewaylaw11.LockNeeds" = some 9 by kernel_rfl).symm.trans hf) |>.symm
      obtain rfl : fn = Tryz.f9 := (Option.some.inj (Tryz.func9.symm.trans hfn)).symm
      exact ⟨by kernel_rfl, fun j t ht => by
        rw [Tryz.params9] at ht
        have hm : t ∈ [3, 3, 3, 40, 3, 3] := by simpa using Array.mem_of_getElem? ht
        have hall : ([3, 3, 3, 40, 3, 3].all fun u => !Tryz.prog.wantsStandIn u) = true := by kernel_rfl
        exact (show Tryz.prog.wantsStandIn t = false by simpa using List.all_eq_true.1 hall t hm)⟩)
    (by kernel_rfl)
#print axioms lneed_card
end Go.Proofs.YtfmckibiblhakaaGreatDoor
