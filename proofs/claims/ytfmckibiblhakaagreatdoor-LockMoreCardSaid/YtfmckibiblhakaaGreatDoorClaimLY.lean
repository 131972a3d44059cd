/- LockMore: what opens a lock opens it with more signatures and preimages, a later time and a greater age, too; a lock that is opened opens within any, and with one that opens within all: for every input the law returns true. Conditions: package variables start as the program's text lays them (the card ties them). -/
import Derived.Test.YtfmckibiblhakaaGreatDoorLawY
import Derived.Test.YtfmckibiblhakaaGreatDoorLiftC
import Derived.Test.YtfmckibiblhakaaGreatDoorLiftF
import Derived.Test.YtfmckibiblhakaaGreatDoorCards
import Derived.Test.YtfmckibiblhakaaGreatDoorTie
import Derived.SevenTiedAt
import Derived.Carry
set_option linter.unusedSimpArgs false
set_option linter.unusedVariables false
namespace Go.Proofs.YtfmckibiblhakaaGreatDoor
open Go.ChangeShapes Go.WideShapes Go.ChangeAt Go.RowKit
open Go.ChangeMaps (open_string shut_string)

theorem lmore_laid {W : World} (h : laidMetH Tryz.prog Rows.lockMoreRow.laid W) : GOk W := by
  rw [MakeChecks.laidMetH_plain _ _ _ (by kernel_rfl)] at h
  obtain ⟨ps, ⟨g0, t0, cs0, f0, p0, q0, hg0, ht0, hv0, hd0, ⟨g1, t1, cs1, f1, p1, q1, hg1, ht1, hv1, hd1, ⟨g2, t2, cs2, f2, p2, q2, hg2, ht2, hv2, hd2, ⟨g3, t3, cs3, f3, p3, q3, hg3, ht3, hv3, hd3, ⟨g4, t4, cs4, f4, p4, q4, hg4, ht4, hv4, hd4, _, _⟩, _⟩, _⟩, _⟩, _⟩, _, _⟩ := h
  refine ⟨⟨syntax_of hg4 ht4 hv4 hd4, range_of hg3 ht3 hv3 hd3⟩, pow_of hg2 ht2 hv2 hd2, ?_⟩
  have hgs : g1 + 1 = gN := by
    obtain rfl := Option.some.inj ((show Tryz.prog.globalNamed "math/bits.deBruijn64tab" = some 6 by kernel_rfl).symm.trans hg1)
    rfl
  have := size_of hg1 hv1
  omega

theorem lmore_door (os : Os) (args : Array Value) : laidMetH Tryz.prog Rows.lockMoreRow.laid ((World.doorLaid Tryz.prog 400 os).forCall (fun _ _ => 0) ⟨#[], args, []⟩).memory :=
  laidMetH_of_parts3 (fuel := 8) (laidMet_of_run' 8 (by kernel_rfl) (by kernel_rfl)) (by kernel_rfl) (by kernel_rfl)

set_option maxRecDepth 100000 in
set_option maxHeartbeats 1000000 in
theorem lmore_lifted (os : Os) (started : os.Started) (H : Type) (enc : TypeId × Value → H) :
    ReturnsInHanded {} Tryz.checked os 7 .any (fun w args => (Rows.lockMoreSpec.pre enc Tryz.prog Tryz.f7 [] false w args ∧ laidMetH Tryz.prog Rows.lockMoreRow.laid w) ∧ sizedMet enc Tryz.prog Tryz.f7 (OpenSpec.ofChange Rows.lockMoreSpec) false w args)
      (Rows.lockMoreSpec.post enc Tryz.prog Tryz.f7 false true false false) := by
  refine returnsInHanded_of_change_and (C := Tryz.checked) (X := fun w _ => laidMetH Tryz.prog Rows.lockMoreRow.laid w) (fun _ _ _ hh h => h.of_heap hh) Tryz.own started (by kernel_rfl) Tryz.func7
    (ChangeSpec.witness_shaped (enc := enc) (C := Tryz.checked) (os := os) (X := fun w _ => laidMetH Tryz.prog Rows.lockMoreRow.laid w) false (World.doorLaid Tryz.prog 400 os) #[.agg #[.int .u8 0, .string ByteArray.empty, .int .i64 0, .slice none 0 0], .agg #[.int .u8 0, .string ByteArray.empty, .int .i64 0, .slice none 0 0], .agg #[.slice none 0 0, .slice none 0 0], .string ByteArray.empty, .string ByteArray.empty, .int .i64 0, .int .i64 0, .int .i64 0] 8 rfl (World.shaped_of_RefB (by kernel_rfl) (by kernel_rfl)) (by kernel_rfl) (by kernel_rfl) (by kernel_rfl) (lmore_door os _)) ?_
  intro W base args ds gs before hval0 hW _ hsz hL _
  have hval : ∀ (j : Nat) t v, Tryz.f7.params[j]? = some t → args[j]? = some v → Value.okWide Tryz.prog W .any base t v := hval0
  have hW' := hW
  obtain ⟨p, q, hA0, hV, rfl, hfz, hnd⟩ := hW
  have hA : DataW.TrodAll enc Tryz.prog W 0 (fun _ => true) true Tryz.f7.params.toList args.toList ds p := hA0
  rw [Tryz.params7] at hA hval hsz
  obtain ⟨args⟩ := args
  obtain ⟨v0, vs0, d0, ds0, p0, q0, hq0, rfl, rfl, h0, hA1⟩ := trodAll_cons hA
  simp only at hq0
  subst hq0
  obtain ⟨v1, vs1, d1, ds1, p1, q1, hq1, rfl, rfl, h1, hA2⟩ := trodAll_cons hA1
  subst hq1
  obtain ⟨v2, vs2, d2, ds2, p2, q2, hq2, rfl, rfl, h2, hA3⟩ := trodAll_cons hA2
  subst hq2
  obtain ⟨v3, vs3, d3, ds3, p3, q3, hq3, rfl, rfl, h3, hA4⟩ := trodAll_cons hA3
  subst hq3
  obtain ⟨v4, vs4, d4, ds4, p4, q4, hq4, rfl, rfl, h4, hA5⟩ := trodAll_cons hA4
  subst hq4
  obtain ⟨v5, vs5, d5, ds5, p5, q5, hq5, rfl, rfl, h5, hA6⟩ := trodAll_cons hA5
  subst hq5
  obtain ⟨v6, vs6, d6, ds6, p6, q6, hq6, rfl, rfl, h6, hA7⟩ := trodAll_cons hA6
  subst hq6
  obtain ⟨v7, vs7, d7, ds7, p7, q7, hq7, rfl, rfl, h7, hA8⟩ := trodAll_cons hA7
  subst hq7
  obtain ⟨rfl, rfl, rfl⟩ := trodAll_nil hA8
  obtain ⟨rfl, rfl⟩ := trodVars_none hV
  have h0k := h0
  have h1k := h1
  have h2k := h2
  obtain ⟨msgB, rfl, rfl, rfl, hwmsg⟩ := open_string Tryz.underlying22 (hval 3 22 v3 rfl rfl) h3
  obtain ⟨moreB, rfl, rfl, rfl, hwmore⟩ := open_string Tryz.underlying22 (hval 4 22 v4 rfl rfl) h4
  obtain ⟨after, rfl, rfl, rfl, hwafter⟩ := open_int Tryz.underlying3 (hval 5 3 v5 rfl rfl) h5
  obtain ⟨age, rfl, rfl, rfl, hwage⟩ := open_int Tryz.underlying3 (hval 6 3 v6 rfl rfl) h6
  obtain ⟨later, rfl, rfl, rfl, hwlater⟩ := open_int Tryz.underlying3 (hval 7 3 v7 rfl rfl) h7
  obtain ⟨la, hlla⟩ := open_lockV Tryz.underlying25 (by kernel_rfl) (by kernel_rfl) (by kernel_rfl) Tryz.underlying5 Tryz.underlying22 Tryz.underlying3 Tryz.underlying23 (hval 0 25 v0 rfl rfl) h0 (sized_any (t := 25) hsz (j := 0) (by simp) (by simp))
  obtain ⟨lb, hllb⟩ := open_lockV Tryz.underlying25 (by kernel_rfl) (by kernel_rfl) (by kernel_rfl) Tryz.underlying5 Tryz.underlying22 Tryz.underlying3 Tryz.underlying23 (hval 1 25 v1 rfl rfl) h1 (sized_any (t := 25) hsz (j := 1) (by simp) (by simp))
  obtain ⟨sa2, pa2, sc2, pc2, sigs2, pres2, rfl, hS2, hP2, hsn2, hpn2, hst2, hpt2⟩ := open_wit Tryz.underlying40 (by kernel_rfl) (by kernel_rfl) Tryz.underlying32 Tryz.underlying32 Tryz.underlying22 (by kernel_rfl) (by kernel_rfl) (hval 2 40 v2 rfl rfl) h2 (sized_any (t := 40) hsz (j := 2) (by simp) (by simp))
  have hrmsg : msgB.data.toList.length ≤ reachBytes := sized_text (t := 22) hsz (j := 3) (by simp) (by simp)
  obtain ⟨msg, hmsgB⟩ : ∃ l, msgB.data.toList = l := ⟨_, rfl⟩
  have hmsgC : msgB = bs msg := by rw [← hmsgB, bs_ofData]
  rw [hmsgB] at hrmsg
  have hrmore : moreB.data.toList.length ≤ reachBytes := sized_text (t := 22) hsz (j := 4) (by simp) (by simp)
  obtain ⟨more, hmoreB⟩ : ∃ l, moreB.data.toList = l := ⟨_, rfl⟩
  have hmoreC : moreB = bs more := by rw [← hmoreB, bs_ofData]
  rw [hmoreB] at hrmore
  have hrafter : -9223372036854775808 ≤ after ∧ after ≤ 9223372036854775807 := by
    have := hwafter
    simp only [Lit.wf, Bool.and_eq_true, decide_eq_true_eq] at this
    exact this
  have hrage : -9223372036854775808 ≤ age ∧ age ≤ 9223372036854775807 := by
    have := hwage
    simp only [Lit.wf, Bool.and_eq_true, decide_eq_true_eq] at this
    exact this
  have hrlater : -9223372036854775808 ≤ later ∧ later ≤ 9223372036854775807 := by
    have := hwlater
    simp only [Lit.wf, Bool.and_eq_true, decide_eq_true_eq] at this
    exact this
  have hG := lmore_laid hL
  clear hA0 hval0
  simp only [List.append_nil, List.nil_append] at hW'
  have hr : reachBytes ≤ 140737488355328 := by decide
  have hl := lLockMore la lb v0 v1 _ _ sa2 pa2 sc2 pc2 sigs2 pres2 msg more after age later (Nat.le_trans hrmsg (by decide)) (Nat.le_trans hrmore (by decide)) hrafter hrage hrlater.1 hrlater.2 W hlla hllb hS2 hP2 hsn2 hpn2 hst2 hpt2 hG
  rw [← hmsgC] at hl
  rw [← hmoreC] at hl
  refine Calls.mono (show Calls Tryz.prog 7 #[v0, v1, .agg #[.slice sa2 sigs2.length sc2, .slice pa2 pres2.length pc2], .string msgB, .string moreB, .int .i64 after, .int .i64 age, .int .i64 later] W _ from hl) fun r W' ⟨he, hb⟩ => ?_
  subst he
  have e1 : Rows.lockMoreSpec.fn H ([d0, d1, d2, .lit (.string msgB.data.toList), .lit (.string moreB.data.toList), .lit (.int .i64 after), .lit (.int .i64 age), .lit (.int .i64 later)] ++ []) = { results := [.lit (.bool true)], args := [d0, d1, d2, .lit (.string msgB.data.toList), .lit (.string moreB.data.toList), .lit (.int .i64 after), .lit (.int .i64 age), .lit (.int .i64 later)] } := by simp [Rows.lockMoreSpec]
  refine ⟨_, rfl, _, _, _, [], p0 ++ p1 ++ p2, [], hW', ?_, ?_, ?_, hb.frame _, fun h => by cases h⟩
  · rw [e1]; exact trodAll_mk1 (shut_bool Tryz.underlying4 true)
  · rw [e1]; exact ⟨_, _, (Below.trod (by kernel_rfl) (by kernel_rfl) (of_decide_eq_true (by kernel_rfl)) h0k hb (fun x hx => by have := hW'.lt x (by simp [hx]); simpa using this)), ⟨_, _, (Below.trod (by kernel_rfl) (by kernel_rfl) (of_decide_eq_true (by kernel_rfl)) h1k hb (fun x hx => by have := hW'.lt x (by simp [hx]); simpa using this)), ⟨_, _, (Below.trod (by kernel_rfl) (by kernel_rfl) (of_decide_eq_true (by kernel_rfl)) h2k hb (fun x hx => by have := hW'.lt x (by simp [hx]); simpa using this)), ⟨_, _, (shut_string Tryz.underlying22 hwmsg), ⟨_, _, (shut_string Tryz.underlying22 hwmore), ⟨_, _, (shut_int Tryz.underlying3 hwafter), ⟨_, _, (shut_int Tryz.underlying3 hwage), ⟨_, _, (shut_int Tryz.underlying3 hwlater), trodAll_mk0, rfl⟩, rfl⟩, rfl⟩, rfl⟩, rfl⟩, rfl⟩, rfl⟩, by simp⟩
  · rw [e1]; rfl

theorem lmore_name : Tryz.pinned.checked.prog.funcNamed Rows.lockMoreRow.func = some 7 := by kernel_rfl
theorem lmore_facts : joinedFacts Tryz.pinned.checked.prog 7 Tryz.f7 Rows.lockMoreSpec Rows.lockMoreRow = true := by kernel_rfl
theorem lmore_inst : Tryz.f7.isInstance Tryz.pinned.checked.prog Rows.lockMoreRow.origin Rows.lockMoreRow.targs := of_decide_eq_true (by kernel_rfl)
theorem lmore_wrap : Tryz.f7.isWrapper Tryz.pinned.checked.prog Rows.lockMoreRow.wrapper Rows.lockMoreRow.mainSum := by unfold Func.isWrapper; first | (rw [if_pos (by decide +kernel)]; kernel_rfl) | (rw [if_neg (by decide +kernel)]; exact ⟨rfl, rfl⟩)
theorem lmore_holds : Rows.LockMoreSaid :=
  OpenClaim.holds_of_wide 7 Tryz.f7 rfl rfl rfl rfl rfl rfl rfl ⟨rfl, rfl, rfl, rfl, rfl⟩ rfl rfl rfl rfl rfl lmore_name Tryz.func7 lmore_facts
    lmore_inst lmore_wrap
    (fun os started H enc _ => lmore_lifted os started H enc)

theorem lmore_card : Rows.LockMoreCardSaid :=
  Claim7.holds_tied_plain_at .later [] [.data, .data, .data, .sentinel, .sentinel] true Rows.lockMoreCard.stood.harness true
    lmore_holds (fun _ h => by cases h) (by kernel_rfl) (fun _ h => by cases h) lockMore_row_tie rfl ⟨rfl, rfl⟩ (by kernel_rfl) rfl
    (fun f fn hf hfn => by
      obtain rfl : f = 7 := Option.some.inj ((show Tryz.prog.funcNamed "sluiceway/sluicewaylaw11.LockMore" = some 7 by kernel_rfl).symm.trans hf) |>.symm
      obtain rfl : fn = Tryz.f7 := (Option.some.inj (Tryz.func7.symm.trans hfn)).symm
      exact ⟨by kernel_rfl, fun j t ht => by
        rw [Tryz.params7] at ht
        have hm : t ∈ [25, 25, 40, 22, 22, 3, 3, 3] := by simpa using Array.mem_of_getElem? ht
        have hall : ([25, 25, 40, 22, 22, 3, 3, 3].all fun u => !Tryz.prog.wantsStandIn u) = true := by kernel_rfl
        exact (show Tryz.prog.wantsStandIn t = false by simpa using List.all_eq_true.1 hall t hm)⟩)
    (by kernel_rfl)
#print axioms lmore_card
end Go.Proofs.YtfmckibiblhakaaGreatDoor
