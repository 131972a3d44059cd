/- KeysSets: of any two sides' public keys and any point the keys of a commitment are the document's, or refused, and secrets are bound and joined: for every input the law returns true. Conditions: package variables start as the program's text lays them (the card ties them). -/
import Derived.Test.YtchbhainmalbbaaDoorLawC
import Derived.Test.YtchbhainmalbbaaDoorLiftC
import Derived.Test.YtchbhainmalbbaaDoorCards
import Derived.Test.YtchbhainmalbbaaDoorTie
import Derived.SevenTiedAt
import Derived.Carry
set_option linter.unusedSimpArgs false
set_option linter.unusedVariables false
namespace Go.Proofs.YtchbhainmalbbaaDoor
open Go.ChangeShapes Go.WideShapes Go.ChangeAt Go.RowKit
open Go.ChangeMaps (open_string shut_string)

theorem sets_laid {W : World} (h : laidMetH Tryd.prog Rows.keysSetsRow.laid W) : GOk W ∧ WordsOk W := by
  rw [MakeChecks.laidMetH_plain _ _ _ (by kernel_rfl)] at h
  obtain ⟨ps, ⟨g0, t0, cs0, f0, p0, q0, hg0, ht0, hv0, hd0, ⟨g1, t1, cs1, f1, p1, q1, hg1, ht1, hv1, hd1, ⟨g2, t2, cs2, f2, p2, q2, hg2, ht2, hv2, hd2, ⟨g3, t3, cs3, f3, p3, q3, hg3, ht3, hv3, hd3, ⟨g4, t4, cs4, f4, p4, q4, hg4, ht4, hv4, hd4, ⟨g5, t5, cs5, f5, p5, q5, hg5, ht5, hv5, hd5, _, _⟩, _⟩, _⟩, _⟩, _⟩, _⟩, _, _⟩ := h
  refine ⟨⟨⟨syntax_of hg4 ht4 hv4 hd4, range_of hg3 ht3 hv3 hd3⟩, pow_of hg2 ht2 hv2 hd2, ?_⟩, words_of hg5 ht5 hv5 hd5⟩
  obtain rfl := Option.some.inj (Tryd.gRange.symm.trans hg3)
  exact size_of hg3 hv3

theorem sets_door (os : Os) (args : Array Value) : laidMetH Tryd.prog Rows.keysSetsRow.laid ((World.doorLaid Tryd.prog 400 os).forCall (fun _ _ => 0) ⟨#[], args, []⟩).memory :=
  laidMetH_of_parts3 (fuel := 8) (laidMet_of_run' 8 (by kernel_rfl) (by kernel_rfl)) (by kernel_rfl) (by kernel_rfl)

set_option maxRecDepth 100000 in
set_option maxHeartbeats 1000000 in
theorem sets_lifted (os : Os) (started : os.Started) (H : Type) (enc : TypeId × Value → H) :
    ReturnsInHanded {} Tryd.checked os 4 .any (fun w args => (Rows.keysSetsSpec.pre enc Tryd.prog Tryd.f4 [] false w args ∧ laidMetH Tryd.prog Rows.keysSetsRow.laid w) ∧ sizedMet enc Tryd.prog Tryd.f4 (OpenSpec.ofChange Rows.keysSetsSpec) false w args)
      (Rows.keysSetsSpec.post enc Tryd.prog Tryd.f4 false true false false) := by
  refine returnsInHanded_of_change_and (C := Tryd.checked) (X := fun w _ => laidMetH Tryd.prog Rows.keysSetsRow.laid w) (fun _ _ _ hh h => h.of_heap hh) Tryd.own started (by kernel_rfl) Tryd.func4
    (ChangeSpec.witness_shaped (enc := enc) (C := Tryd.checked) (os := os) (X := fun w _ => laidMetH Tryd.prog Rows.keysSetsRow.laid w) false (World.doorLaid Tryd.prog 400 os) #[.agg #[.string ByteArray.empty, .string ByteArray.empty, .string ByteArray.empty, .string ByteArray.empty, .string ByteArray.empty], .agg #[.string ByteArray.empty, .string ByteArray.empty, .string ByteArray.empty, .string ByteArray.empty, .string ByteArray.empty], .string ByteArray.empty] 8 rfl (World.shaped_of_RefB (by kernel_rfl) (by kernel_rfl)) (by kernel_rfl) (by kernel_rfl) (by kernel_rfl) (sets_door os _)) ?_
  intro W base args ds gs before hval0 hW _ hsz hL _
  have hval : ∀ (j : Nat) t v, Tryd.f4.params[j]? = some t → args[j]? = some v → Value.okWide Tryd.prog W .any base t v := hval0
  have hW' := hW
  obtain ⟨p, q, hA0, hV, rfl, hfz, hnd⟩ := hW
  have hA : DataW.TrodAll enc Tryd.prog W 0 (fun _ => true) true Tryd.f4.params.toList args.toList ds p := hA0
  rw [Tryd.params4] at hA hval hsz
  obtain ⟨v0, v1, v2, d0, d1, d2, p0, p1, p2, rfl, rfl, rfl, h0, h1, h2⟩ := trodAll_three hA
  obtain ⟨rfl, rfl⟩ := trodVars_none hV
  obtain ⟨ls0, hll0, rfl, rfl, rfl, hlm0⟩ := open_texts Tryd.underlying34 (by kernel_rfl) (by kernel_rfl) (by rfl) Tryd.underlying22 (hval 0 34 v0 rfl rfl) h0
  obtain ⟨ls1, hll1, rfl, rfl, rfl, hlm1⟩ := open_texts Tryd.underlying34 (by kernel_rfl) (by kernel_rfl) (by rfl) Tryd.underlying22 (hval 1 34 v1 rfl rfl) h1
  obtain ⟨ptB, rfl, rfl, rfl, hwpt⟩ := open_string Tryd.underlying22 (hval 2 22 v2 rfl rfl) h2
  have hss0 : ∀ l ∈ ls0, l.length ≤ reachBytes := sized_texts (t := 34) hsz (j := 0) (by simp) (by simp) Tryd.underlying34 hll0
  have hlx0 : ls0.length = 5 := by simpa using hll0
  obtain ⟨oF, oR, oP, oL, oH, rfl⟩ := texts_of5 hlx0
  clear hll0 hlx0
  have hroF := hss0 oF (by simp)
  have hroR := hss0 oR (by simp)
  have hroP := hss0 oP (by simp)
  have hroL := hss0 oL (by simp)
  have hroH := hss0 oH (by simp)
  have hss1 : ∀ l ∈ ls1, l.length ≤ reachBytes := sized_texts (t := 34) hsz (j := 1) (by simp) (by simp) Tryd.underlying34 hll1
  have hlx1 : ls1.length = 5 := by simpa using hll1
  obtain ⟨tF, tR, tP, tL, tH, rfl⟩ := texts_of5 hlx1
  clear hll1 hlx1
  have hrtF := hss1 tF (by simp)
  have hrtR := hss1 tR (by simp)
  have hrtP := hss1 tP (by simp)
  have hrtL := hss1 tL (by simp)
  have hrtH := hss1 tH (by simp)
  have hrpt : ptB.data.toList.length ≤ reachBytes := sized_text (t := 22) hsz (j := 2) (by simp) (by simp)
  obtain ⟨pt, hptB⟩ : ∃ l, ptB.data.toList = l := ⟨_, rfl⟩
  have hptC : ptB = bs pt := by rw [← hptB, bs_ofData]
  rw [hptB] at hrpt
  obtain ⟨hG, hWd⟩ := sets_laid hL
  clear hA0 hval0
  simp only [List.append_nil] at hW'
  have hr : reachBytes ≤ 140737488355328 := by decide
  have hl := lKeysSets oF oR oP oL oH tF tR tP tL tH pt (Nat.le_trans hroF hr) (Nat.le_trans hroR hr) (Nat.le_trans hroP hr) (Nat.le_trans hroL hr) (Nat.le_trans hroH hr) (Nat.le_trans hrtF hr) (Nat.le_trans hrtR hr) (Nat.le_trans hrtP hr) (Nat.le_trans hrtL hr) (Nat.le_trans hrtH hr) (Nat.le_trans hrpt hr) W hG hWd
  rw [← hptC] at hl
  refine Calls.mono (show Calls Tryd.prog 4 #[textsV [oF, oR, oP, oL, oH], textsV [tF, tR, tP, tL, tH], .string ptB] W _ from hl) fun r W' ⟨he, hb⟩ => ?_
  subst he
  have e1 : Rows.keysSetsSpec.fn H ([textsD H [oF, oR, oP, oL, oH], textsD H [tF, tR, tP, tL, tH], .lit (.string ptB.data.toList)] ++ []) = { results := [.lit (.bool true)], args := [textsD H [oF, oR, oP, oL, oH], textsD H [tF, tR, tP, tL, tH], .lit (.string ptB.data.toList)] } := by simp [Rows.keysSetsSpec]
  refine ⟨_, rfl, _, _, _, [], [], [], hW', ?_, ?_, ?_, hb.frame _, fun h => by cases h⟩
  · rw [e1]; exact trodAll_mk1 (shut_bool Tryd.underlying4 true)
  · rw [e1]; exact trodAll_mk3 (shut_texts Tryd.underlying34 (by kernel_rfl) (by kernel_rfl) (by rfl) Tryd.underlying22 rfl hlm0) (shut_texts Tryd.underlying34 (by kernel_rfl) (by kernel_rfl) (by rfl) Tryd.underlying22 rfl hlm1) (shut_string Tryd.underlying22 hwpt)
  · rw [e1]; rfl

theorem sets_holds : Rows.KeysSetsSaid :=
  OpenClaim.holds_of_wide 4 Tryd.f4 rfl rfl rfl rfl rfl rfl rfl ⟨rfl, rfl, rfl, rfl, rfl⟩ rfl rfl rfl rfl rfl (by kernel_rfl) Tryd.func4 (by kernel_rfl)
    (of_decide_eq_true (by kernel_rfl)) (by unfold Func.isWrapper; first | (rw [if_pos (by decide +kernel)]; kernel_rfl) | (rw [if_neg (by decide +kernel)]; exact ⟨rfl, rfl⟩))
    (fun os started H enc _ => sets_lifted os started H enc)

theorem sets_card : Rows.KeysSetsCardSaid :=
  Claim7.holds_tied_plain_at .later [] [.data, .data, .data, .sentinel, .sentinel, .data] true Rows.keysSetsCard.stood.harness true
    sets_holds (fun _ h => by cases h) (by kernel_rfl) (fun _ h => by cases h) keysSets_row_tie rfl ⟨rfl, rfl⟩ (by kernel_rfl) rfl
    (fun f fn hf hfn => by
      obtain rfl : f = 4 := Option.some.inj ((show Tryd.prog.funcNamed "sluiceway/sluicewaylaw16.KeysSets" = some 4 by kernel_rfl).symm.trans hf) |>.symm
      obtain rfl : fn = Tryd.f4 := (Option.some.inj (Tryd.func4.symm.trans hfn)).symm
      exact ⟨by kernel_rfl, fun j t ht => by
        rw [Tryd.params4] at ht
        have hm : t ∈ [34, 34, 22] := by simpa using Array.mem_of_getElem? ht
        have hall : ([34, 34, 22].all fun u => !Tryd.prog.wantsStandIn u) = true := by kernel_rfl
        exact (show Tryd.prog.wantsStandIn t = false by simpa using List.all_eq_true.1 hall t hm)⟩)
    (by kernel_rfl)
#print axioms sets_card
end Go.Proofs.YtchbhainmalbbaaDoor
