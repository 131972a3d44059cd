/- LockKnown: the examples hold; each kind of lock with what may not be, each bound, texts that are locks and that are none, are told as the document says: the law returns true. Conditions: package variables start as the program's text lays them (the card ties them). -/
import Derived.Test.YtiplnofaejpeoaaGreatDoorLawLk
import Derived.Test.YtiplnofaejpeoaaGreatDoorLiftBn
import Derived.Test.YtiplnofaejpeoaaGreatDoorCards
import Derived.Test.YtiplnofaejpeoaaGreatDoorTie
import Derived.SevenTiedAt
import Derived.Carry
set_option maxRecDepth 100000
set_option maxHeartbeats 1000000
set_option linter.unusedSimpArgs false
set_option linter.unusedVariables false
namespace Go.Proofs.YtiplnofaejpeoaaGreatDoor
open Go.ChangeShapes Go.WideShapes Go.ChangeAt Go.RowKit
open Go.ChangeMaps (open_string shut_string)
theorem zpu_ {W : World} (h : laidMetH Tryz.prog Rows.lockKnownRow.laid W) : GOk W := by
 rw [MakeChecks.laidMetH_plain _ _ _ (by kernel_rfl)] at h
 obtain ⟨ps, ⟨g0, t0, cs0, f0, p0, q0, hg0, ht0, hv0, hd0, ⟨g1, t1, cs1, f1, p1, q1, hg1, ht1, hv1, hd1, ⟨g2, t2, cs2, f2, p2, q2, hg2, ht2, hv2, hd2, ⟨g3, t3, cs3, f3, p3, q3, hg3, ht3, hv3, hd3, ⟨g4, t4, cs4, f4, p4, q4, hg4, ht4, hv4, hd4, _, _⟩, _⟩, _⟩, _⟩, _⟩, _, _⟩ := h
 refine ⟨⟨zps_ hg4 ht4 hv4 hd4, zpr_ hg3 ht3 hv3 hd3⟩, zpq_ hg2 ht2 hv2 hd2, ?_⟩
 have hgs : g1 + 1 = gN := by
  obtain rfl := Option.some.inj ((show Tryz.prog.globalNamed "math/bits.deBruijn64tab" = some 5 by kernel_rfl).symm.trans hg1)
  rfl
 have := zpt_ hg1 hv1
 omega
theorem zpv_ (os : Os) (args : Array Value) : laidMetH Tryz.prog Rows.lockKnownRow.laid ((World.doorLaid Tryz.prog 400 os).forCall (fun _ _ => 0) ⟨#[], args, []⟩).memory :=
 laidMetH_of_parts3 (fuel := 8) (laidMet_of_run' 8 (by kernel_rfl) (by kernel_rfl)) (by kernel_rfl) (by kernel_rfl)
theorem zpw_ (os : Os) (started : os.Started) (H : Type) (enc : TypeId × Value → H) :
  ReturnsInHanded {} Tryz.checked os 3 .any (fun w args => (Rows.lockKnownSpec.pre enc Tryz.prog Tryz.f3 [] false w args ∧ laidMetH Tryz.prog Rows.lockKnownRow.laid w) ∧ sizedMet enc Tryz.prog Tryz.f3 (OpenSpec.ofChange Rows.lockKnownSpec) false w args)
   (Rows.lockKnownSpec.post enc Tryz.prog Tryz.f3 false true false false) := by
 refine returnsInHanded_of_change_and (C := Tryz.checked) (X := fun w _ => laidMetH Tryz.prog Rows.lockKnownRow.laid w) (fun _ _ _ hh h => h.of_heap hh) Tryz.own started (by kernel_rfl) Tryz.func3
  (ChangeSpec.witness_shaped (enc := enc) (C := Tryz.checked) (os := os) (X := fun w _ => laidMetH Tryz.prog Rows.lockKnownRow.laid w) false (World.doorLaid Tryz.prog 400 os) #[] 8 rfl (World.shaped_of_RefB (by kernel_rfl) (by kernel_rfl)) (by kernel_rfl) (by kernel_rfl) (by kernel_rfl) (zpv_ os _)) ?_
 intro W base args ds gs before hval0 hW _ hsz hL _
 have hval : ∀ (j : Nat) t v, Tryz.f3.params[j]? = some t → args[j]? = some v → Value.okWide Tryz.prog W .any base t v := hval0
 have hW' := hW
 obtain ⟨p, q, hA0, hV, rfl, hfz, hnd⟩ := hW
 have hA : DataW.TrodAll enc Tryz.prog W 0 (fun _ => true) true Tryz.f3.params.toList args.toList ds p := hA0
 rw [Tryz.params3] at hA hval hsz
 obtain ⟨rfl, rfl, rfl⟩ := trodAll_none hA
 obtain ⟨rfl, rfl⟩ := trodVars_none hV
 have hG := zpu_ hL
 clear hA0 hval0
 simp only [List.append_nil] at hW'
 have hr : reachBytes ≤ 140737488355328 := by decide
 have hl := zpo_ W hG
 refine Calls.mono (show Calls Tryz.prog 3 #[] W _ from hl) fun r W' ⟨he, hb⟩ => ?_
 subst he
 have e1 : Rows.lockKnownSpec.fn H ([] ++ []) = { results := [.lit (.bool true)], args := [] } := by simp [Rows.lockKnownSpec]
 refine ⟨_, rfl, _, _, _, [], [], [], hW', ?_, ?_, ?_, hb.frame _, fun h => by cases h⟩
 · rw [e1]; exact trodAll_mk1 (shut_bool Tryz.underlying4 true)
 · rw [e1]; exact trodAll_mk0
 · rw [e1]; rfl
theorem zpx_ : Tryz.pinned.checked.prog.funcNamed Rows.lockKnownRow.func = some 3 := by kernel_rfl
theorem zpy_ : joinedFacts Tryz.pinned.checked.prog 3 Tryz.f3 Rows.lockKnownSpec Rows.lockKnownRow = true := by kernel_rfl
theorem zpz_ : Tryz.f3.isInstance Tryz.pinned.checked.prog Rows.lockKnownRow.origin Rows.lockKnownRow.targs := of_decide_eq_true (by kernel_rfl)
theorem zpA_ : Tryz.f3.isWrapper Tryz.pinned.checked.prog Rows.lockKnownRow.wrapper Rows.lockKnownRow.mainSum := by unfold Func.isWrapper; first | (rw [if_pos (by decide +kernel)]; kernel_rfl) | (rw [if_neg (by decide +kernel)]; exact ⟨rfl, rfl⟩)
theorem zpB_ : Rows.LockKnownSaid :=
 OpenClaim.holds_of_wide 3 Tryz.f3 rfl rfl rfl rfl rfl rfl rfl ⟨rfl, rfl, rfl, rfl, rfl⟩ rfl rfl rfl rfl rfl zpx_ Tryz.func3 zpy_
  zpz_ zpA_
  (fun os started H enc _ => zpw_ os started H enc)
theorem lkknown_card : Rows.LockKnownCardSaid :=
 Claim7.holds_tied_plain_at .later [] [.data, .data, .data, .sentinel, .sentinel] true Rows.lockKnownCard.stood.harness true
  zpB_ (fun _ h => by cases h) (by kernel_rfl) (fun _ h => by cases h) lockKnown_row_tie rfl ⟨rfl, rfl⟩ (by kernel_rfl) rfl
  (fun f fn hf hfn => by
    obtain rfl : f = 3 := Option.some.inj ((show Tryz.prog.funcNamed "sluiceway/sluicewaylaw11.LockKnown" = some 3 by kernel_rfl).symm.trans hf) |>.symm
    obtain rfl : fn = Tryz.f3 := (Option.some.inj (Tryz.func3.symm.trans hfn)).symm
    exact ⟨by kernel_rfl, fun j t ht => by
     rw [Tryz.params3] at ht
     simp at ht⟩)
  (by kernel_rfl)
#print axioms lkknown_card
end Go.Proofs.YtiplnofaejpeoaaGreatDoor
