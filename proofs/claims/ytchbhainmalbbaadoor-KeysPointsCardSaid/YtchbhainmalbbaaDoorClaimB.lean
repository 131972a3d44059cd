/- KeysPoints: of any secrets the public keys, a commitment's secret and its point are the document's, or refused: for every input the law returns true. Conditions: package variables start as the program's text lays them (the card ties them). -/
import Derived.Test.YtchbhainmalbbaaDoorLawB
import Derived.Test.YtchbhainmalbbaaDoorLiftB
import Derived.Test.YtchbhainmalbbaaDoorCards
import Derived.Test.YtchbhainmalbbaaDoorTie
import Derived.SevenTiedAt
set_option linter.unusedSimpArgs false
set_option linter.unusedVariables false
namespace Go.Proofs.YtchbhainmalbbaaDoor
open Go.ChangeShapes Go.WideShapes Go.ChangeAt Go.RowKit
open Go.ChangeMaps (open_string shut_string)

theorem six_of {ls : List (List UInt8)} (h : ls.length = 6) : ∃ a b c d e f, ls = [a, b, c, d, e, f] := by
  match ls, h with
  | [a, b, c, d, e, f], _ => exact ⟨a, b, c, d, e, f, rfl⟩

theorem laidB_ok {W : World} (h : laidMetH Tryd.prog Rows.keysPointsRow.laid W) : GOk W ∧ WordsOk W := by
  rw [MakeChecks.laidMetH_plain _ _ _ (by kernel_rfl)] at h
  obtain ⟨ps, ⟨g0, t0, cs0, f0, p0, q0, hg0, ht0, hv0, hd0, ⟨g1, t1, cs1, f1, p1, q1, hg1, ht1, hv1, hd1, ⟨g2, t2, cs2, f2, p2, q2, hg2, ht2, hv2, hd2, ⟨g3, t3, cs3, f3, p3, q3, hg3, ht3, hv3, hd3, ⟨g4, t4, cs4, f4, p4, q4, hg4, ht4, hv4, hd4, ⟨g5, t5, cs5, f5, p5, q5, hg5, ht5, hv5, hd5, _, _⟩, _⟩, _⟩, _⟩, _⟩, _⟩, _, _⟩ := h
  refine ⟨⟨⟨syntax_of hg4 ht4 hv4 hd4, range_of hg3 ht3 hv3 hd3⟩, pow_of hg2 ht2 hv2 hd2, ?_⟩, words_of hg5 ht5 hv5 hd5⟩
  obtain rfl := Option.some.inj (Tryd.gRange.symm.trans hg3)
  exact size_of hg3 hv3

theorem door_metB (os : Os) (args : Array Value) : laidMetH Tryd.prog Rows.keysPointsRow.laid ((World.doorLaid Tryd.prog 400 os).forCall (fun _ _ => 0) ⟨#[], args, []⟩).memory :=
  laidMetH_of_parts3 (fuel := 8) (laidMet_of_run' 8 (by kernel_rfl) (by kernel_rfl)) (by kernel_rfl) (by kernel_rfl)

set_option maxRecDepth 100000 in
set_option maxHeartbeats 1000000 in
theorem points_lifted (os : Os) (started : os.Started) (H : Type) (enc : TypeId × Value → H) :
    ReturnsInHanded {} Tryd.checked os 5 .any (fun w args => (Rows.keysPointsSpec.pre enc Tryd.prog Tryd.f5 [] false w args ∧ laidMetH Tryd.prog Rows.keysPointsRow.laid w) ∧ sizedMet enc Tryd.prog Tryd.f5 (OpenSpec.ofChange Rows.keysPointsSpec) false w args)
      (Rows.keysPointsSpec.post enc Tryd.prog Tryd.f5 false true false false) := by
  refine returnsInHanded_of_change_and (C := Tryd.checked) (X := fun w _ => laidMetH Tryd.prog Rows.keysPointsRow.laid w) (fun _ _ _ hh h => h.of_heap hh) Tryd.own started (by kernel_rfl) Tryd.func5
    (ChangeSpec.witness_shaped (enc := enc) (C := Tryd.checked) (os := os) (X := fun w _ => laidMetH Tryd.prog Rows.keysPointsRow.laid w) false (World.doorLaid Tryd.prog 400 os) #[.agg #[.string ByteArray.empty, .string ByteArray.empty, .string ByteArray.empty, .string ByteArray.empty, .string ByteArray.empty, .string ByteArray.empty], .int .i64 0] 8 rfl (World.shaped_of_RefB (by kernel_rfl) (by kernel_rfl)) (by kernel_rfl) (by kernel_rfl) (by kernel_rfl) (door_metB os _)) ?_
  intro W base args ds gs before hval0 hW _ hsz hL _
  have hval : ∀ (j : Nat) t v, Tryd.f5.params[j]? = some t → args[j]? = some v → Value.okWide Tryd.prog W .any base t v := hval0
  have hW' := hW
  obtain ⟨p, q, hA0, hV, rfl, hfz, hnd⟩ := hW
  have hA : DataW.TrodAll enc Tryd.prog W 0 (fun _ => true) true Tryd.f5.params.toList args.toList ds p := hA0
  rw [Tryd.params5] at hA hval hsz
  obtain ⟨v0, v1, d0, d1, p0, p1, rfl, rfl, rfl, h0, h1⟩ := trodAll_two hA
  obtain ⟨rfl, rfl⟩ := trodVars_none hV
  obtain ⟨ls, hll, rfl, rfl, rfl, hlm⟩ := open_texts Tryd.underlying28 (by kernel_rfl) (by kernel_rfl) (by rfl) Tryd.underlying22 (hval 0 28 v0 rfl rfl) h0
  obtain ⟨n, rfl, rfl, rfl, hn⟩ := open_int Tryd.underlying2 (hval 1 2 v1 rfl rfl) h1
  have hss : ∀ l ∈ ls, l.length ≤ reachBytes := sized_texts (t := 28) hsz (j := 0) (by simp) (by simp) Tryd.underlying28 hll
  have hll6 : ls.length = 6 := by simpa using hll
  obtain ⟨hG, hWd⟩ := laidB_ok hL
  clear hA0 hval0
  simp only [List.append_nil] at hW'
  have hn' : -9223372036854775808 ≤ n ∧ n ≤ 9223372036854775807 := by
    simp only [Lit.wf, Bool.and_eq_true, decide_eq_true_eq] at hn
    exact hn
  have hr : reachBytes ≤ 140737488355328 := by decide
  obtain ⟨a, b, c, d, e, f, rfl⟩ := six_of hll6
  clear hll hll6
  have hl := lKeysPoints a b c d e f n hn'.1 hn'.2 (Nat.le_trans (hss a (by simp)) hr) (Nat.le_trans (hss b (by simp)) hr) (Nat.le_trans (hss c (by simp)) hr) (Nat.le_trans (hss d (by simp)) hr) (Nat.le_trans (hss e (by simp)) hr) (Nat.le_trans (hss f (by simp)) hr) W hG hWd
  refine Calls.mono (show Calls Tryd.prog 5 #[textsV [a, b, c, d, e, f], .int .i64 n] W _ from hl) fun r W' ⟨he, hb⟩ => ?_
  subst he
  have e1 : Rows.keysPointsSpec.fn H ([textsD H [a, b, c, d, e, f], .lit (.int .i64 n)] ++ []) = { results := [.lit (.bool true)], args := [textsD H [a, b, c, d, e, f], .lit (.int .i64 n)] } := by simp [Rows.keysPointsSpec]
  refine ⟨_, rfl, _, _, _, [], [], [], hW', ?_, ?_, ?_, hb.frame _, fun h => by cases h⟩
  · rw [e1]; exact trodAll_mk1 (shut_bool Tryd.underlying4 true)
  · rw [e1]; exact trodAll_mk2 (shut_texts Tryd.underlying28 (by kernel_rfl) (by kernel_rfl) (by rfl) Tryd.underlying22 rfl hlm) (shut_int Tryd.underlying2 hn)
  · rw [e1]; rfl

theorem points_holds : Rows.KeysPointsSaid :=
  OpenClaim.holds_of_wide 5 Tryd.f5 rfl rfl rfl rfl rfl rfl rfl ⟨rfl, rfl, rfl, rfl, rfl⟩ rfl rfl rfl rfl rfl (by kernel_rfl) Tryd.func5 (by kernel_rfl)
    (of_decide_eq_true (by kernel_rfl)) (by unfold Func.isWrapper; first | (rw [if_pos (by decide +kernel)]; kernel_rfl) | (rw [if_neg (by decide +kernel)]; exact ⟨rfl, rfl⟩))
    (fun os started H enc _ => points_lifted os started H enc)

theorem points_card : Rows.KeysPointsCardSaid :=
  Claim7.holds_tied_plain_at .later [] [.data, .data, .data, .sentinel, .sentinel, .data] true Rows.keysPointsCard.stood.harness true
    points_holds (fun _ h => by cases h) (by kernel_rfl) (fun _ h => by cases h) keysPoints_row_tie rfl ⟨rfl, rfl⟩ (by kernel_rfl) rfl
    (fun f fn hf hfn => by
      obtain rfl : f = 5 := Option.some.inj ((show Tryd.prog.funcNamed "sluiceway/sluicewaylaw16.KeysPoints" = some 5 by kernel_rfl).symm.trans hf) |>.symm
      obtain rfl : fn = Tryd.f5 := (Option.some.inj (Tryd.func5.symm.trans hfn)).symm
      exact ⟨by kernel_rfl, fun j t ht => by
        rw [Tryd.params5] at ht
        have hm : t ∈ [28, 2] := by simpa using Array.mem_of_getElem? ht
        have hall : ([28, 2].all fun u => !Tryd.prog.wantsStandIn u) = true := by kernel_rfl
        exact (show Tryd.prog.wantsStandIn t = false by simpa using List.all_eq_true.1 hall t hm)⟩)
    (by kernel_rfl)
#print axioms points_card
end Go.Proofs.YtchbhainmalbbaaDoor
