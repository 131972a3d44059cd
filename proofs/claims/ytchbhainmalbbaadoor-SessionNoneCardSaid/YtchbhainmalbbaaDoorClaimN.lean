/- SessionNone: a session that is not there answers so to every call: for every input the law returns true. Conditions: package variables start as the program's text lays them (the card ties them). -/
import Derived.Test.YtchbhainmalbbaaDoorLawN
import Derived.Test.YtchbhainmalbbaaDoorLiftC
import Derived.Test.YtchbhainmalbbaaDoorCards
import Derived.Test.YtchbhainmalbbaaDoorTie
import Derived.SevenTiedAt
import Derived.Carry
set_option linter.unusedSimpArgs false
set_option linter.unusedVariables false
namespace Go.Proofs.YtchbhainmalbbaaDoor
open Go.ChangeShapes Go.WideShapes Go.ChangeAt Go.RowKit
open Go.ChangeMaps (open_string shut_string)

theorem snone_laid {W : World} (h : laidMetH Tryd.prog Rows.sessionNoneRow.laid W) : GOk W := by
  rw [MakeChecks.laidMetH_plain _ _ _ (by kernel_rfl)] at h
  obtain ⟨ps, ⟨g0, t0, cs0, f0, p0, q0, hg0, ht0, hv0, hd0, ⟨g1, t1, cs1, f1, p1, q1, hg1, ht1, hv1, hd1, ⟨g2, t2, cs2, f2, p2, q2, hg2, ht2, hv2, hd2, ⟨g3, t3, cs3, f3, p3, q3, hg3, ht3, hv3, hd3, ⟨g4, t4, cs4, f4, p4, q4, hg4, ht4, hv4, hd4, _, _⟩, _⟩, _⟩, _⟩, _⟩, _, _⟩ := h
  refine ⟨⟨syntax_of hg4 ht4 hv4 hd4, range_of hg3 ht3 hv3 hd3⟩, pow_of hg2 ht2 hv2 hd2, ?_⟩
  obtain rfl := Option.some.inj (Tryd.gRange.symm.trans hg3)
  exact size_of hg3 hv3

theorem snone_door (os : Os) (args : Array Value) : laidMetH Tryd.prog Rows.sessionNoneRow.laid ((World.doorLaid Tryd.prog 400 os).forCall (fun _ _ => 0) ⟨#[], args, []⟩).memory :=
  laidMetH_of_parts3 (fuel := 8) (laidMet_of_run' 8 (by kernel_rfl) (by kernel_rfl)) (by kernel_rfl) (by kernel_rfl)

set_option maxRecDepth 100000 in
set_option maxHeartbeats 1000000 in
theorem snone_lifted (os : Os) (started : os.Started) (H : Type) (enc : TypeId × Value → H) :
    ReturnsInHanded {} Tryd.checked os 7 .any (fun w args => (Rows.sessionNoneSpec.pre enc Tryd.prog Tryd.f7 [] false w args ∧ laidMetH Tryd.prog Rows.sessionNoneRow.laid w) ∧ sizedMet enc Tryd.prog Tryd.f7 (OpenSpec.ofChange Rows.sessionNoneSpec) false w args)
      (Rows.sessionNoneSpec.post enc Tryd.prog Tryd.f7 false true false false) := by
  refine returnsInHanded_of_change_and (C := Tryd.checked) (X := fun w _ => laidMetH Tryd.prog Rows.sessionNoneRow.laid w) (fun _ _ _ hh h => h.of_heap hh) Tryd.own started (by kernel_rfl) Tryd.func7
    (ChangeSpec.witness_shaped (enc := enc) (C := Tryd.checked) (os := os) (X := fun w _ => laidMetH Tryd.prog Rows.sessionNoneRow.laid w) false (World.doorLaid Tryd.prog 400 os) #[.string ByteArray.empty, .string ByteArray.empty] 8 rfl (World.shaped_of_RefB (by kernel_rfl) (by kernel_rfl)) (by kernel_rfl) (by kernel_rfl) (by kernel_rfl) (snone_door os _)) ?_
  intro W base args ds gs before hval0 hW _ hsz hL _
  have hval : ∀ (j : Nat) t v, Tryd.f7.params[j]? = some t → args[j]? = some v → Value.okWide Tryd.prog W .any base t v := hval0
  have hW' := hW
  obtain ⟨p, q, hA0, hV, rfl, hfz, hnd⟩ := hW
  have hA : DataW.TrodAll enc Tryd.prog W 0 (fun _ => true) true Tryd.f7.params.toList args.toList ds p := hA0
  rw [Tryd.params7] at hA hval hsz
  obtain ⟨v0, v1, d0, d1, p0, p1, rfl, rfl, rfl, h0, h1⟩ := trodAll_two hA
  obtain ⟨rfl, rfl⟩ := trodVars_none hV
  obtain ⟨tB, rfl, rfl, rfl, hwt⟩ := open_string Tryd.underlying22 (hval 0 22 v0 rfl rfl) h0
  obtain ⟨sB, rfl, rfl, rfl, hws⟩ := open_string Tryd.underlying9 (hval 1 9 v1 rfl rfl) h1
  have hrt : tB.data.toList.length ≤ reachBytes := sized_text (t := 22) hsz (j := 0) (by simp) (by simp)
  obtain ⟨t, htB⟩ : ∃ l, tB.data.toList = l := ⟨_, rfl⟩
  have htC : tB = bs t := by rw [← htB, bs_ofData]
  rw [htB] at hrt
  have hrs : sB.data.toList.length ≤ reachBytes := sized_text (t := 9) hsz (j := 1) (by simp) (by simp)
  obtain ⟨s, hsB⟩ : ∃ l, sB.data.toList = l := ⟨_, rfl⟩
  have hsC : sB = bs s := by rw [← hsB, bs_ofData]
  rw [hsB] at hrs
  have hG := snone_laid hL
  clear hA0 hval0
  simp only [List.append_nil] at hW'
  have hr : reachBytes ≤ 140737488355328 := by decide
  have hl := lSessionNone t s W hG
  rw [← htC] at hl
  rw [← hsC] at hl
  refine Calls.mono (show Calls Tryd.prog 7 #[.string tB, .string sB] W _ from hl) fun r W' ⟨he, hb⟩ => ?_
  subst he
  have e1 : Rows.sessionNoneSpec.fn H ([.lit (.string tB.data.toList), .lit (.string sB.data.toList)] ++ []) = { results := [.lit (.bool true)], args := [.lit (.string tB.data.toList), .lit (.string sB.data.toList)] } := by simp [Rows.sessionNoneSpec]
  refine ⟨_, rfl, _, _, _, [], [], [], hW', ?_, ?_, ?_, hb.frame _, fun h => by cases h⟩
  · rw [e1]; exact trodAll_mk1 (shut_bool Tryd.underlying4 true)
  · rw [e1]; exact trodAll_mk2 (shut_string Tryd.underlying22 hwt) (shut_string Tryd.underlying9 hws)
  · rw [e1]; rfl

theorem snone_holds : Rows.SessionNoneSaid :=
  OpenClaim.holds_of_wide 7 Tryd.f7 rfl rfl rfl rfl rfl rfl rfl ⟨rfl, rfl, rfl, rfl, rfl⟩ rfl rfl rfl rfl rfl (by kernel_rfl) Tryd.func7 (by kernel_rfl)
    (of_decide_eq_true (by kernel_rfl)) (by unfold Func.isWrapper; first | (rw [if_pos (by decide +kernel)]; kernel_rfl) | (rw [if_neg (by decide +kernel)]; exact ⟨rfl, rfl⟩))
    (fun os started H enc _ => snone_lifted os started H enc)

theorem snone_card : Rows.SessionNoneCardSaid :=
  Claim7.holds_tied_plain_at .later [] [.data, .data, .data, .sentinel, .sentinel] true Rows.sessionNoneCard.stood.harness true
    snone_holds (fun _ h => by cases h) (by kernel_rfl) (fun _ h => by cases h) sessionNone_row_tie rfl ⟨rfl, rfl⟩ (by kernel_rfl) rfl
    (fun f fn hf hfn => by
      obtain rfl : f = 7 := Option.some.inj ((show Tryd.prog.funcNamed "sluiceway/sluicewaylaw21.SessionNone" = some 7 by kernel_rfl).symm.trans hf) |>.symm
      obtain rfl : fn = Tryd.f7 := (Option.some.inj (Tryd.func7.symm.trans hfn)).symm
      exact ⟨by kernel_rfl, fun j t ht => by
        rw [Tryd.params7] at ht
        have hm : t ∈ [22, 9] := by simpa using Array.mem_of_getElem? ht
        have hall : ([22, 9].all fun u => !Tryd.prog.wantsStandIn u) = true := by kernel_rfl
        exact (show Tryd.prog.wantsStandIn t = false by simpa using List.all_eq_true.1 hall t hm)⟩)
    (by kernel_rfl)
#print axioms snone_card
end Go.Proofs.YtchbhainmalbbaaDoor
