/- KeysSecret: who has heard all public keys, the point and the set, and all secrets of the one side, makes none of the other's; without the commitment's secret nobody revokes; with it, it takes the other side's secret too: for every input the law returns true. Conditions: package variables start as the program's text lays them (the card ties them). -/
import Derived.Test.YtoogobcoccapiaaDoorKsC
import Derived.Test.YtoogobcoccapiaaDoorLiftC
import Derived.Test.YtoogobcoccapiaaDoorCards
import Derived.Test.YtoogobcoccapiaaDoorTie
import Derived.SevenTiedAt
import Derived.Carry
set_option linter.unusedSimpArgs false
set_option linter.unusedVariables false
namespace Go.Proofs.YtoogobcoccapiaaDoor
open Go.ChangeShapes Go.WideShapes Go.ChangeAt Go.RowKit
open Go.ChangeMaps (open_string shut_string)

theorem ksec_laid {W : World} (h : laidMetH Tryd.prog Rows.keysSecretRow.laid W) : GOk W ∧ WordsOk W := by
  rw [MakeChecks.laidMetH_plain _ _ _ (by kernel_rfl)] at h
  obtain ⟨ps, ⟨g0, t0, cs0, f0, p0, q0, hg0, ht0, hv0, hd0, ⟨g1, t1, cs1, f1, p1, q1, hg1, ht1, hv1, hd1, ⟨g2, t2, cs2, f2, p2, q2, hg2, ht2, hv2, hd2, ⟨g3, t3, cs3, f3, p3, q3, hg3, ht3, hv3, hd3, ⟨g4, t4, cs4, f4, p4, q4, hg4, ht4, hv4, hd4, ⟨g5, t5, cs5, f5, p5, q5, hg5, ht5, hv5, hd5, _, _⟩, _⟩, _⟩, _⟩, _⟩, _⟩, _, _⟩ := h
  refine ⟨⟨⟨syntax_of hg4 ht4 hv4 hd4, range_of hg3 ht3 hv3 hd3⟩, pow_of hg2 ht2 hv2 hd2, ?_⟩, words_of hg5 ht5 hv5 hd5⟩
  obtain rfl := Option.some.inj (Tryd.gRange.symm.trans hg3)
  exact size_of hg3 hv3

theorem ksec_door (os : Os) (args : Array Value) : laidMetH Tryd.prog Rows.keysSecretRow.laid ((World.doorLaid Tryd.prog 400 os).forCall (fun _ _ => 0) ⟨#[], args, []⟩).memory :=
  laidMetH_of_parts3 (fuel := 8) (laidMet_of_run' 8 (by kernel_rfl) (by kernel_rfl)) (by kernel_rfl) (by kernel_rfl)

set_option maxRecDepth 100000 in
set_option maxHeartbeats 1000000 in
theorem ksec_lifted (os : Os) (started : os.Started) (H : Type) (enc : TypeId × Value → H) :
    ReturnsInHanded {} Tryd.checked os 3 .any (fun w args => (Rows.keysSecretSpec.pre enc Tryd.prog Tryd.f3 [] false w args ∧ laidMetH Tryd.prog Rows.keysSecretRow.laid w) ∧ sizedMet enc Tryd.prog Tryd.f3 (OpenSpec.ofChange Rows.keysSecretSpec) false w args)
      (Rows.keysSecretSpec.post enc Tryd.prog Tryd.f3 false true false false) := by
  refine returnsInHanded_of_change_and (C := Tryd.checked) (X := fun w _ => laidMetH Tryd.prog Rows.keysSecretRow.laid w) (fun _ _ _ hh h => h.of_heap hh) Tryd.own started (by kernel_rfl) Tryd.func3
    (ChangeSpec.witness_shaped (enc := enc) (C := Tryd.checked) (os := os) (X := fun w _ => laidMetH Tryd.prog Rows.keysSecretRow.laid w) false (World.doorLaid Tryd.prog 400 os) #[.int .i64 0, .int .i64 0, .int .i64 0] 8 rfl (World.shaped_of_RefB (by kernel_rfl) (by kernel_rfl)) (by kernel_rfl) (by kernel_rfl) (by kernel_rfl) (ksec_door os _)) ?_
  intro W base args ds gs before hval0 hW _ hsz hL _
  have hval : ∀ (j : Nat) t v, Tryd.f3.params[j]? = some t → args[j]? = some v → Value.okWide Tryd.prog W .any base t v := hval0
  have hW' := hW
  obtain ⟨p, q, hA0, hV, rfl, hfz, hnd⟩ := hW
  have hA : DataW.TrodAll enc Tryd.prog W 0 (fun _ => true) true Tryd.f3.params.toList args.toList ds p := hA0
  rw [Tryd.params3] at hA hval hsz
  obtain ⟨v0, v1, v2, d0, d1, d2, p0, p1, p2, rfl, rfl, rfl, h0, h1, h2⟩ := trodAll_three hA
  obtain ⟨rfl, rfl⟩ := trodVars_none hV
  obtain ⟨a, rfl, rfl, rfl, hwa⟩ := open_int Tryd.underlying2 (hval 0 2 v0 rfl rfl) h0
  obtain ⟨b, rfl, rfl, rfl, hwb⟩ := open_int Tryd.underlying2 (hval 1 2 v1 rfl rfl) h1
  obtain ⟨n, rfl, rfl, rfl, hwn⟩ := open_int Tryd.underlying2 (hval 2 2 v2 rfl rfl) h2
  have hra : -9223372036854775808 ≤ a ∧ a ≤ 9223372036854775807 := by
    have := hwa
    simp only [Lit.wf, Bool.and_eq_true, decide_eq_true_eq] at this
    exact this
  have hrb : -9223372036854775808 ≤ b ∧ b ≤ 9223372036854775807 := by
    have := hwb
    simp only [Lit.wf, Bool.and_eq_true, decide_eq_true_eq] at this
    exact this
  have hrn : -9223372036854775808 ≤ n ∧ n ≤ 9223372036854775807 := by
    have := hwn
    simp only [Lit.wf, Bool.and_eq_true, decide_eq_true_eq] at this
    exact this
  obtain ⟨hG, hWd⟩ := ksec_laid hL
  clear hA0 hval0
  simp only [List.append_nil] at hW'
  have hr : reachBytes ≤ 140737488355328 := by decide
  have hl := lKeysSecret a b n hra.1 hra.2 hrb.1 hrb.2 hrn.1 hrn.2 W hG hWd
  refine Calls.mono (show Calls Tryd.prog 3 #[.int .i64 a, .int .i64 b, .int .i64 n] W _ from hl) fun r W' ⟨he, hb⟩ => ?_
  subst he
  have e1 : Rows.keysSecretSpec.fn H ([.lit (.int .i64 a), .lit (.int .i64 b), .lit (.int .i64 n)] ++ []) = { results := [.lit (.bool true)], args := [.lit (.int .i64 a), .lit (.int .i64 b), .lit (.int .i64 n)] } := by simp [Rows.keysSecretSpec]
  refine ⟨_, rfl, _, _, _, [], [], [], hW', ?_, ?_, ?_, hb.frame _, fun h => by cases h⟩
  · rw [e1]; exact trodAll_mk1 (shut_bool Tryd.underlying4 true)
  · rw [e1]; exact trodAll_mk3 (shut_int Tryd.underlying2 hwa) (shut_int Tryd.underlying2 hwb) (shut_int Tryd.underlying2 hwn)
  · rw [e1]; rfl

theorem ksec_name : Tryd.pinned.checked.prog.funcNamed Rows.keysSecretRow.func = some 3 := by kernel_rfl
theorem ksec_facts : joinedFacts Tryd.pinned.checked.prog 3 Tryd.f3 Rows.keysSecretSpec Rows.keysSecretRow = true := by kernel_rfl
theorem ksec_inst : Tryd.f3.isInstance Tryd.pinned.checked.prog Rows.keysSecretRow.origin Rows.keysSecretRow.targs := of_decide_eq_true (by kernel_rfl)
theorem ksec_wrap : Tryd.f3.isWrapper Tryd.pinned.checked.prog Rows.keysSecretRow.wrapper Rows.keysSecretRow.mainSum := by unfold Func.isWrapper; first | (rw [if_pos (by decide +kernel)]; kernel_rfl) | (rw [if_neg (by decide +kernel)]; exact ⟨rfl, rfl⟩)
theorem ksec_holds : Rows.KeysSecretSaid :=
  OpenClaim.holds_of_wide 3 Tryd.f3 rfl rfl rfl rfl rfl rfl rfl ⟨rfl, rfl, rfl, rfl, rfl⟩ rfl rfl rfl rfl rfl ksec_name Tryd.func3 ksec_facts
    ksec_inst ksec_wrap
    (fun os started H enc _ => ksec_lifted os started H enc)

theorem ksec_card : Rows.KeysSecretCardSaid :=
  Claim7.holds_tied_plain_at .later [] [.data, .data, .data, .sentinel, .sentinel, .data] true Rows.keysSecretCard.stood.harness true
    ksec_holds (fun _ h => by cases h) (by kernel_rfl) (fun _ h => by cases h) keysSecret_row_tie rfl ⟨rfl, rfl⟩ (by kernel_rfl) rfl
    (fun f fn hf hfn => by
      obtain rfl : f = 3 := Option.some.inj ((show Tryd.prog.funcNamed "sluiceway/sluicewaylaw16.KeysSecret" = some 3 by kernel_rfl).symm.trans hf) |>.symm
      obtain rfl : fn = Tryd.f3 := (Option.some.inj (Tryd.func3.symm.trans hfn)).symm
      exact ⟨by kernel_rfl, fun j t ht => by
        rw [Tryd.params3] at ht
        have hm : t ∈ [2, 2, 2] := by simpa using Array.mem_of_getElem? ht
        have hall : ([2, 2, 2].all fun u => !Tryd.prog.wantsStandIn u) = true := by kernel_rfl
        exact (show Tryd.prog.wantsStandIn t = false by simpa using List.all_eq_true.1 hall t hm)⟩)
    (by kernel_rfl)
#print axioms ksec_card
end Go.Proofs.YtoogobcoccapiaaDoor
