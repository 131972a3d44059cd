/- LockOpens: any lock opens, or not, by any witness of any message at any time, as the document says: for every input the law returns true. Conditions: package variables start as the program's text lays them (the card ties them). -/
import Derived.Test.YtfmckibiblhakaaGreatDoorLawT
import Derived.Test.YtfmckibiblhakaaGreatDoorLiftC
import Derived.Test.YtfmckibiblhakaaGreatDoorLiftF
import Derived.Test.YtfmckibiblhakaaGreatDoorCards
import Derived.Test.YtfmckibiblhakaaGreatDoorTie
import Derived.SevenTiedAt
import Derived.Carry
set_option linter.unusedSimpArgs false
set_option linter.unusedVariables false
namespace Go.Proofs.YtfmckibiblhakaaGreatDoor
open Go.ChangeShapes Go.WideShapes Go.ChangeAt Go.RowKit
open Go.ChangeMaps (open_string shut_string)

theorem lopen_laid {W : World} (h : laidMetH Tryz.prog Rows.lockOpensRow.laid W) : GOk W := by
  rw [MakeChecks.laidMetH_plain _ _ _ (by kernel_rfl)] at h
  obtain ⟨ps, ⟨g0, t0, cs0, f0, p0, q0, hg0, ht0, hv0, hd0, ⟨g1, t1, cs1, f1, p1, q1, hg1, ht1, hv1, hd1, ⟨g2, t2, cs2, f2, p2, q2, hg2, ht2, hv2, hd2, ⟨g3, t3, cs3, f3, p3, q3, hg3, ht3, hv3, hd3, ⟨g4, t4, cs4, f4, p4, q4, hg4, ht4, hv4, hd4, _, _⟩, _⟩, _⟩, _⟩, _⟩, _, _⟩ := h
  refine ⟨⟨syntax_of hg4 ht4 hv4 hd4, range_of hg3 ht3 hv3 hd3⟩, pow_of hg2 ht2 hv2 hd2, ?_⟩
  have hgs : g1 + 1 = gN := by
    obtain rfl := Option.some.inj ((show Tryz.prog.globalNamed "math/bits.deBruijn64tab" = some 6 by kernel_rfl).symm.trans hg1)
    rfl
  have := size_of hg1 hv1
  omega

theorem lopen_door (os : Os) (args : Array Value) : laidMetH Tryz.prog Rows.lockOpensRow.laid ((World.doorLaid Tryz.prog 400 os).forCall (fun _ _ => 0) ⟨#[], args, []⟩).memory :=
  laidMetH_of_parts3 (fuel := 8) (laidMet_of_run' 8 (by kernel_rfl) (by kernel_rfl)) (by kernel_rfl) (by kernel_rfl)

set_option maxRecDepth 100000 in
set_option maxHeartbeats 1000000 in
theorem lopen_lifted (os : Os) (started : os.Started) (H : Type) (enc : TypeId × Value → H) :
    ReturnsInHanded {} Tryz.checked os 5 .any (fun w args => (Rows.lockOpensSpec.pre enc Tryz.prog Tryz.f5 [] false w args ∧ laidMetH Tryz.prog Rows.lockOpensRow.laid w) ∧ sizedMet enc Tryz.prog Tryz.f5 (OpenSpec.ofChange Rows.lockOpensSpec) false w args)
      (Rows.lockOpensSpec.post enc Tryz.prog Tryz.f5 false true false false) := by
  refine returnsInHanded_of_change_and (C := Tryz.checked) (X := fun w _ => laidMetH Tryz.prog Rows.lockOpensRow.laid w) (fun _ _ _ hh h => h.of_heap hh) Tryz.own started (by kernel_rfl) Tryz.func5
    (ChangeSpec.witness_shaped (enc := enc) (C := Tryz.checked) (os := os) (X := fun w _ => laidMetH Tryz.prog Rows.lockOpensRow.laid w) false (World.doorLaid Tryz.prog 400 os) #[.agg #[.int .u8 0, .string ByteArray.empty, .int .i64 0, .slice none 0 0], .agg #[.slice none 0 0, .slice none 0 0], .string ByteArray.empty, .int .i64 0, .int .i64 0] 8 rfl (World.shaped_of_RefB (by kernel_rfl) (by kernel_rfl)) (by kernel_rfl) (by kernel_rfl) (by kernel_rfl) (lopen_door os _)) ?_
  intro W base args ds gs before hval0 hW _ hsz hL _
  have hval : ∀ (j : Nat) t v, Tryz.f5.params[j]? = some t → args[j]? = some v → Value.okWide Tryz.prog W .any base t v := hval0
  have hW' := hW
  obtain ⟨p, q, hA0, hV, rfl, hfz, hnd⟩ := hW
  have hA : DataW.TrodAll enc Tryz.prog W 0 (fun _ => true) true Tryz.f5.params.toList args.toList ds p := hA0
  rw [Tryz.params5] at hA hval hsz
  obtain ⟨args⟩ := args
  obtain ⟨v0, vs0, d0, ds0, p0, q0, hq0, rfl, rfl, h0, hA1⟩ := trodAll_cons hA
  simp only at hq0
  subst hq0
  obtain ⟨v1, vs1, d1, ds1, p1, q1, hq1, rfl, rfl, h1, hA2⟩ := trodAll_cons hA1
  subst hq1
  obtain ⟨v2, vs2, d2, ds2, p2, q2, hq2, rfl, rfl, h2, hA3⟩ := trodAll_cons hA2
  subst hq2
  obtain ⟨v3, vs3, d3, ds3, p3, q3, hq3, rfl, rfl, h3, hA4⟩ := trodAll_cons hA3
  subst hq3
  obtain ⟨v4, vs4, d4, ds4, p4, q4, hq4, rfl, rfl, h4, hA5⟩ := trodAll_cons hA4
  subst hq4
  obtain ⟨rfl, rfl, rfl⟩ := trodAll_nil hA5
  obtain ⟨rfl, rfl⟩ := trodVars_none hV
  have h0k := h0
  have h1k := h1
  obtain ⟨msgB, rfl, rfl, rfl, hwmsg⟩ := open_string Tryz.underlying22 (hval 2 22 v2 rfl rfl) h2
  obtain ⟨after, rfl, rfl, rfl, hwafter⟩ := open_int Tryz.underlying3 (hval 3 3 v3 rfl rfl) h3
  obtain ⟨age, rfl, rfl, rfl, hwage⟩ := open_int Tryz.underlying3 (hval 4 3 v4 rfl rfl) h4
  obtain ⟨l, hll⟩ := open_lockV Tryz.underlying25 (by kernel_rfl) (by kernel_rfl) (by kernel_rfl) Tryz.underlying5 Tryz.underlying22 Tryz.underlying3 Tryz.underlying23 (hval 0 25 v0 rfl rfl) h0 (sized_any (t := 25) hsz (j := 0) (by simp) (by simp))
  obtain ⟨sa1, pa1, sc1, pc1, sigs1, pres1, rfl, hS1, hP1, hsn1, hpn1, hst1, hpt1⟩ := open_wit Tryz.underlying40 (by kernel_rfl) (by kernel_rfl) Tryz.underlying32 Tryz.underlying32 Tryz.underlying22 (by kernel_rfl) (by kernel_rfl) (hval 1 40 v1 rfl rfl) h1 (sized_any (t := 40) hsz (j := 1) (by simp) (by simp))
  have hrmsg : msgB.data.toList.length ≤ reachBytes := sized_text (t := 22) hsz (j := 2) (by simp) (by simp)
  obtain ⟨msg, hmsgB⟩ : ∃ l, msgB.data.toList = l := ⟨_, rfl⟩
  have hmsgC : msgB = bs msg := by rw [← hmsgB, bs_ofData]
  rw [hmsgB] at hrmsg
  have hrafter : -9223372036854775808 ≤ after ∧ after ≤ 9223372036854775807 := by
    have := hwafter
    simp only [Lit.wf, Bool.and_eq_true, decide_eq_true_eq] at this
    exact this
  have hrage : -9223372036854775808 ≤ age ∧ age ≤ 9223372036854775807 := by
    have := hwage
    simp only [Lit.wf, Bool.and_eq_true, decide_eq_true_eq] at this
    exact this
  have hG := lopen_laid hL
  clear hA0 hval0
  simp only [List.append_nil, List.nil_append] at hW'
  have hr : reachBytes ≤ 140737488355328 := by decide
  have hl := lLockOpens l v0 _ sa1 pa1 sc1 pc1 sigs1 pres1 msg after age (Nat.le_trans hrmsg (by decide)) hrafter hrage W hll hS1 hP1 hsn1 hpn1 hst1 hpt1 hG
  rw [← hmsgC] at hl
  refine Calls.mono (show Calls Tryz.prog 5 #[v0, .agg #[.slice sa1 sigs1.length sc1, .slice pa1 pres1.length pc1], .string msgB, .int .i64 after, .int .i64 age] W _ from hl) fun r W' ⟨he, hb⟩ => ?_
  subst he
  have e1 : Rows.lockOpensSpec.fn H ([d0, d1, .lit (.string msgB.data.toList), .lit (.int .i64 after), .lit (.int .i64 age)] ++ []) = { results := [.lit (.bool true)], args := [d0, d1, .lit (.string msgB.data.toList), .lit (.int .i64 after), .lit (.int .i64 age)] } := by simp [Rows.lockOpensSpec]
  refine ⟨_, rfl, _, _, _, [], p0 ++ p1, [], hW', ?_, ?_, ?_, hb.frame _, fun h => by cases h⟩
  · rw [e1]; exact trodAll_mk1 (shut_bool Tryz.underlying4 true)
  · rw [e1]; exact ⟨_, _, (Below.trod (by kernel_rfl) (by kernel_rfl) (of_decide_eq_true (by kernel_rfl)) h0k hb (fun x hx => by have := hW'.lt x (by simp [hx]); simpa using this)), ⟨_, _, (Below.trod (by kernel_rfl) (by kernel_rfl) (of_decide_eq_true (by kernel_rfl)) h1k hb (fun x hx => by have := hW'.lt x (by simp [hx]); simpa using this)), ⟨_, _, (shut_string Tryz.underlying22 hwmsg), ⟨_, _, (shut_int Tryz.underlying3 hwafter), ⟨_, _, (shut_int Tryz.underlying3 hwage), trodAll_mk0, rfl⟩, rfl⟩, rfl⟩, rfl⟩, by simp⟩
  · rw [e1]; rfl

theorem lopen_name : Tryz.pinned.checked.prog.funcNamed Rows.lockOpensRow.func = some 5 := by kernel_rfl
theorem lopen_facts : joinedFacts Tryz.pinned.checked.prog 5 Tryz.f5 Rows.lockOpensSpec Rows.lockOpensRow = true := by kernel_rfl
theorem lopen_inst : Tryz.f5.isInstance Tryz.pinned.checked.prog Rows.lockOpensRow.origin Rows.lockOpensRow.targs := of_decide_eq_true (by kernel_rfl)
theorem lopen_wrap : Tryz.f5.isWrapper Tryz.pinned.checked.prog Rows.lockOpensRow.wrapper Rows.lockOpensRow.mainSum := by unfold Func.isWrapper; first | (rw [if_pos (by decide +kernel)]; kernel_rfl) | (rw [if_neg (by decide +kernel)]; exact ⟨rfl, rfl⟩)
theorem lopen_holds : Rows.LockOpensSaid :=
  OpenClaim.holds_of_wide 5 Tryz.f5 rfl rfl rfl rfl rfl rfl rfl ⟨rfl, rfl, rfl, rfl, rfl⟩ rfl rfl rfl rfl rfl lopen_name Tryz.func5 lopen_facts
    lopen_inst lopen_wrap
    (fun os started H enc _ => lopen_lifted os started H enc)

theorem lopen_card : Rows.LockOpensCardSaid :=
  Claim7.holds_tied_plain_at .later [] [.data, .data, .data, .sentinel, .sentinel] true Rows.lockOpensCard.stood.harness true
    lopen_holds (fun _ h => by cases h) (by kernel_rfl) (fun _ h => by cases h) lockOpens_row_tie rfl ⟨rfl, rfl⟩ (by kernel_rfl) rfl
    (fun f fn hf hfn => by
      obtain rfl : f = 5 := Option.some.inj ((show Tryz.prog.funcNamed "sluiceway/sluicewaylaw11.LockOpens" = some 5 by kernel_rfl).symm.trans hf) |>.symm
      obtain rfl : fn = Tryz.f5 := (Option.some.inj (Tryz.func5.symm.trans hfn)).symm
      exact ⟨by kernel_rfl, fun j t ht => by
        rw [Tryz.params5] at ht
        have hm : t ∈ [25, 40, 22, 3, 3] := by simpa using Array.mem_of_getElem? ht
        have hall : ([25, 40, 22, 3, 3].all fun u => !Tryz.prog.wantsStandIn u) = true := by kernel_rfl
        exact (show Tryz.prog.wantsStandIn t = false by simpa using List.all_eq_true.1 hall t hm)⟩)
    (by kernel_rfl)
#print axioms lopen_card
end Go.Proofs.YtfmckibiblhakaaGreatDoor
