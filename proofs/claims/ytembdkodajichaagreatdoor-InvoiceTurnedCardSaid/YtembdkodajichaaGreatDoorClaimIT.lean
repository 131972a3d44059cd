/- InvoiceTurned: a written invoice of which one letter behind the last 1 is turned is refused for its sum; another name's signature is refused: for every input the law returns true. Conditions: package variables start as the program's text lays them (the card ties them). -/
import Derived.Test.YtembdkodajichaaGreatDoorLawI4
import Derived.Test.YtembdkodajichaaGreatDoorLiftC
import Derived.Test.YtembdkodajichaaGreatDoorLiftI
import Derived.Test.YtembdkodajichaaGreatDoorCards
import Derived.Test.YtembdkodajichaaGreatDoorTie
import Derived.SevenTiedAt
import Derived.Carry
import Derived.Lay
set_option maxRecDepth 100000
set_option maxHeartbeats 1000000
set_option linter.unusedSimpArgs false
set_option linter.unusedVariables false
namespace Go.Proofs.YtembdkodajichaaGreatDoor
open Go.ChangeShapes Go.WideShapes Go.ChangeAt Go.RowKit
open Go.ChangeMaps (open_string shut_string)
theorem iturn_laid {W : World} (h : laidMetH Tryz.prog Rows.invoiceTurnedRow.laid W) : IOk W := by
 rw [MakeChecks.laidMetH_plain _ _ _ (by kernel_rfl)] at h
 obtain ⟨ps, ⟨g0, t0, cs0, f0, p0, q0, hg0, ht0, hv0, hd0, ⟨g1, t1, cs1, f1, p1, q1, hg1, ht1, hv1, hd1, ⟨g2, t2, cs2, f2, p2, q2, hg2, ht2, hv2, hd2, ⟨g3, t3, cs3, f3, p3, q3, hg3, ht3, hv3, hd3, ⟨g4, t4, cs4, f4, p4, q4, hg4, ht4, hv4, hd4, ⟨g5, t5, cs5, f5, p5, q5, hg5, ht5, hv5, hd5, ⟨g6, t6, cs6, f6, p6, q6, hg6, ht6, hv6, hd6, ⟨g7, t7, cs7, f7, p7, q7, hg7, ht7, hv7, hd7, ⟨g8, t8, cs8, f8, p8, q8, hg8, ht8, hv8, hd8, ⟨g9, t9, cs9, f9, p9, q9, hg9, ht9, hv9, hd9, _, _⟩, _⟩, _⟩, _⟩, _⟩, _⟩, _⟩, _⟩, _⟩, _⟩, _, _⟩ := h
 refine ⟨⟨⟨syntax_of hg6 ht6 hv6 hd6, range_of hg5 ht5 hv5 hd5⟩, pow_of hg2 ht2 hv2 hd2, ?_⟩, table_of hg3 ht3 hv3 hd3, units_of hg7 ht7 hv7 hd7⟩
 have hgs : g1 + 1 = gN := by
  obtain rfl := Option.some.inj ((show Tryz.prog.globalNamed "math/bits.deBruijn64tab" = some 10 by kernel_rfl).symm.trans hg1)
  rfl
 have := size_of hg1 hv1
 omega
theorem iturn_lifted (os : Os) (started : os.Started) (H : Type) (enc : TypeId × Value → H) :
  ReturnsInHanded {} Tryz.checked os 8 .any (fun w args => (Rows.invoiceTurnedSpec.pre enc Tryz.prog Tryz.f8 [] false w args ∧ laidMetH Tryz.prog Rows.invoiceTurnedRow.laid w) ∧ sizedMet enc Tryz.prog Tryz.f8 (OpenSpec.ofChange Rows.invoiceTurnedSpec) false w args)
   (Rows.invoiceTurnedSpec.post enc Tryz.prog Tryz.f8 false true false false) := by
 refine returnsInHanded_of_change_and (C := Tryz.checked) (X := fun w _ => laidMetH Tryz.prog Rows.invoiceTurnedRow.laid w) (fun _ _ _ hh h => h.of_heap hh) Tryz.own started (by kernel_rfl) Tryz.func8
  (ChangeSpec.witness_shaped (enc := enc) (C := Tryz.checked) (os := os) (X := fun w _ => laidMetH Tryz.prog Rows.invoiceTurnedRow.laid w) false (World.laidAll Tryz.prog os Rows.invoiceTurnedRow.laid) #[.agg #[.int .i64 0, .int .i64 0, .string ByteArray.empty, .string ByteArray.empty, .string ByteArray.empty, .int .i64 0, .int .i64 0, .string ByteArray.empty], .int .i64 0, .int .u8 0, .int .i64 0] 8 (World.laidAll_os _ _ _) (World.shaped_of_ZipB (by kernel_rfl) (by kernel_rfl)) (by kernel_rfl) (by kernel_rfl) (by kernel_rfl) (by rw [MakeChecks.laidMetH_plain _ _ _ (by kernel_rfl)]; exact laidMet_laidAll _ (by kernel_rfl) (by kernel_rfl))) ?_
 intro W base args ds gs before hval0 hW _ hsz hL _
 have hval : ∀ (j : Nat) t v, Tryz.f8.params[j]? = some t → args[j]? = some v → Value.okWide Tryz.prog W .any base t v := hval0
 have hW' := hW
 obtain ⟨p, q, hA0, hV, rfl, hfz, hnd⟩ := hW
 have hA : DataW.TrodAll enc Tryz.prog W 0 (fun _ => true) true Tryz.f8.params.toList args.toList ds p := hA0
 rw [Tryz.params8] at hA hval hsz
 obtain ⟨args⟩ := args
 obtain ⟨v0, vs0, d0, ds0, p0, q0, hq0, rfl, rfl, h0, hA1⟩ := trodAll_cons hA
 simp only at hq0
 subst hq0
 obtain ⟨v1, vs1, d1, ds1, p1, q1, hq1, rfl, rfl, h1, hA2⟩ := trodAll_cons hA1
 subst hq1
 obtain ⟨v2, vs2, d2, ds2, p2, q2, hq2, rfl, rfl, h2, hA3⟩ := trodAll_cons hA2
 subst hq2
 obtain ⟨v3, vs3, d3, ds3, p3, q3, hq3, rfl, rfl, h3, hA4⟩ := trodAll_cons hA3
 subst hq3
 obtain ⟨rfl, rfl, rfl⟩ := trodAll_nil hA4
 obtain ⟨rfl, rfl⟩ := trodVars_none hV
 obtain ⟨x, rfl, rfl, rfl, hwx⟩ := open_inv (hval 0 31 v0 rfl rfl) h0
 obtain ⟨a, rfl, rfl, rfl, hwa⟩ := open_int Tryz.underlying3 (hval 1 3 v1 rfl rfl) h1
 obtain ⟨bI, rfl, rfl, rfl, hwb⟩ := open_int Tryz.underlying5 (hval 2 5 v2 rfl rfl) h2
 obtain ⟨o, rfl, rfl, rfl, hwo⟩ := open_int Tryz.underlying2 (hval 3 2 v3 rfl rfl) h3
 have hrx : InvBig x := sized_inv (j := 0) hsz si_ si_ hwx
 have hra : -9223372036854775808 ≤ a ∧ a ≤ 9223372036854775807 := by
  have := hwa
  simp only [Lit.wf, Bool.and_eq_true, decide_eq_true_eq] at this
  exact this
 have hrbI : 0 ≤ bI ∧ bI ≤ 255 := by
  have := hwb
  simp only [Lit.wf, Bool.and_eq_true, decide_eq_true_eq] at this
  exact this
 obtain ⟨b, rfl⟩ : ∃ n : Nat, bI = n := ⟨bI.toNat, by omega⟩
 have hrb : b < 256 := by omega
 have hro : -9223372036854775808 ≤ o ∧ o ≤ 9223372036854775807 := by
  have := hwo
  simp only [Lit.wf, Bool.and_eq_true, decide_eq_true_eq] at this
  exact this
 have hG := iturn_laid hL
 clear hA0 hval0
 simp only [List.append_nil] at hW'
 have hr : reachBytes ≤ 140737488355328 := by decide
 have hl := lInvoiceTurned x hrx a o b hrb hra.1 hra.2 hro.1 hro.2 W hG
 refine Calls.mono (show Calls Tryz.prog 8 #[invV x, .int .i64 a, .int .u8 b, .int .i64 o] W _ from hl) fun r W' ⟨he, hb⟩ => ?_
 subst he
 have e1 : Rows.invoiceTurnedSpec.fn H ([invD H x, .lit (.int .i64 a), .lit (.int .u8 b), .lit (.int .i64 o)] ++ []) = { results := [.lit (.bool true)], args := [invD H x, .lit (.int .i64 a), .lit (.int .u8 b), .lit (.int .i64 o)] } := by simp [Rows.invoiceTurnedSpec]
 refine ⟨_, rfl, _, _, _, [], [], [], hW', ?_, ?_, ?_, hb.frame _, fun h => by cases h⟩
 · rw [e1]; exact trodAll_mk1 (shut_bool Tryz.underlying4 true)
 · rw [e1]; exact ⟨_, _, (shut_inv hwx), ⟨_, _, (shut_int Tryz.underlying3 hwa), ⟨_, _, (shut_int Tryz.underlying5 hwb), ⟨_, _, (shut_int Tryz.underlying2 hwo), trodAll_mk0, rfl⟩, rfl⟩, rfl⟩, rfl⟩
 · rw [e1]; rfl
theorem iturn_name : Tryz.pinned.checked.prog.funcNamed Rows.invoiceTurnedRow.func = some 8 := by kernel_rfl
theorem iturn_facts : joinedFacts Tryz.pinned.checked.prog 8 Tryz.f8 Rows.invoiceTurnedSpec Rows.invoiceTurnedRow = true := by kernel_rfl
theorem iturn_inst : Tryz.f8.isInstance Tryz.pinned.checked.prog Rows.invoiceTurnedRow.origin Rows.invoiceTurnedRow.targs := of_decide_eq_true (by kernel_rfl)
theorem iturn_wrap : Tryz.f8.isWrapper Tryz.pinned.checked.prog Rows.invoiceTurnedRow.wrapper Rows.invoiceTurnedRow.mainSum := by unfold Func.isWrapper; first | (rw [if_pos (by decide +kernel)]; kernel_rfl) | (rw [if_neg (by decide +kernel)]; exact ⟨rfl, rfl⟩)
theorem iturn_holds : Rows.InvoiceTurnedSaid :=
 OpenClaim.holds_of_wide 8 Tryz.f8 rfl rfl rfl rfl rfl rfl rfl ⟨rfl, rfl, rfl, rfl, rfl⟩ rfl rfl rfl rfl rfl iturn_name Tryz.func8 iturn_facts
  iturn_inst iturn_wrap
  (fun os started H enc _ => iturn_lifted os started H enc)
theorem iturn_card : Rows.InvoiceTurnedCardSaid :=
 Claim7.holds_tied_plain_at .later [] [.data, .data, .data, .data, .data, .sentinel, .sentinel, .data, .pinned, .pinned] true Rows.invoiceTurnedCard.stood.harness true
  iturn_holds (fun _ h => by cases h) (by kernel_rfl) (fun _ h => by cases h) invoiceTurned_row_tie rfl ⟨rfl, rfl⟩ (by kernel_rfl) rfl
  (fun f fn hf hfn => by
    obtain rfl : f = 8 := Option.some.inj ((show Tryz.prog.funcNamed "sluiceway/sluicewaylaw07.InvoiceTurned" = some 8 by kernel_rfl).symm.trans hf) |>.symm
    obtain rfl : fn = Tryz.f8 := (Option.some.inj (Tryz.func8.symm.trans hfn)).symm
    exact ⟨by kernel_rfl, fun j t ht => by
     rw [Tryz.params8] at ht
     have hm : t ∈ [31, 3, 5, 2] := by simpa using Array.mem_of_getElem? ht
     have hall : ([31, 3, 5, 2].all fun u => !Tryz.prog.wantsStandIn u) = true := by kernel_rfl
     exact (show Tryz.prog.wantsStandIn t = false by simpa using List.all_eq_true.1 hall t hm)⟩)
  (by kernel_rfl)
#print axioms iturn_card
end Go.Proofs.YtembdkodajichaaGreatDoor
