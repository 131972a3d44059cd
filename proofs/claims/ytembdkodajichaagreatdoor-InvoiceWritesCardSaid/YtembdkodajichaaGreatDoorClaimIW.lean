/- InvoiceWrites: what is signed, an invoice's text and the errors are as the document says, for any invoice: for every input the law returns true. Conditions: package variables start as the program's text lays them (the card ties them). -/
import Derived.Test.YtembdkodajichaaGreatDoorLawI7
import Derived.Test.YtembdkodajichaaGreatDoorLiftC
import Derived.Test.YtembdkodajichaaGreatDoorLiftI
import Derived.Test.YtembdkodajichaaGreatDoorCards
import Derived.Test.YtembdkodajichaaGreatDoorTie
import Derived.SevenTiedAt
import Derived.Carry
import Derived.Lay
set_option maxRecDepth 100000
set_option maxHeartbeats 1000000
set_option linter.unusedSimpArgs false
set_option linter.unusedVariables false
namespace Go.Proofs.YtembdkodajichaaGreatDoor
open Go.ChangeShapes Go.WideShapes Go.ChangeAt Go.RowKit
open Go.ChangeMaps (open_string shut_string)
theorem iwrite_laid {W : World} (h : laidMetH Tryz.prog Rows.invoiceWritesRow.laid W) : IOk W := by
 rw [MakeChecks.laidMetH_plain _ _ _ (by kernel_rfl)] at h
 obtain ⟨ps, ⟨g0, t0, cs0, f0, p0, q0, hg0, ht0, hv0, hd0, ⟨g1, t1, cs1, f1, p1, q1, hg1, ht1, hv1, hd1, ⟨g2, t2, cs2, f2, p2, q2, hg2, ht2, hv2, hd2, ⟨g3, t3, cs3, f3, p3, q3, hg3, ht3, hv3, hd3, ⟨g4, t4, cs4, f4, p4, q4, hg4, ht4, hv4, hd4, ⟨g5, t5, cs5, f5, p5, q5, hg5, ht5, hv5, hd5, ⟨g6, t6, cs6, f6, p6, q6, hg6, ht6, hv6, hd6, ⟨g7, t7, cs7, f7, p7, q7, hg7, ht7, hv7, hd7, ⟨g8, t8, cs8, f8, p8, q8, hg8, ht8, hv8, hd8, ⟨g9, t9, cs9, f9, p9, q9, hg9, ht9, hv9, hd9, _, _⟩, _⟩, _⟩, _⟩, _⟩, _⟩, _⟩, _⟩, _⟩, _⟩, _, _⟩ := h
 refine ⟨⟨⟨syntax_of hg6 ht6 hv6 hd6, range_of hg5 ht5 hv5 hd5⟩, pow_of hg2 ht2 hv2 hd2, ?_⟩, table_of hg3 ht3 hv3 hd3, units_of hg7 ht7 hv7 hd7⟩
 have hgs : g1 + 1 = gN := by
  obtain rfl := Option.some.inj ((show Tryz.prog.globalNamed "math/bits.deBruijn64tab" = some 10 by kernel_rfl).symm.trans hg1)
  rfl
 have := size_of hg1 hv1
 omega
theorem iwrite_lifted (os : Os) (started : os.Started) (H : Type) (enc : TypeId × Value → H) :
  ReturnsInHanded {} Tryz.checked os 4 .any (fun w args => (Rows.invoiceWritesSpec.pre enc Tryz.prog Tryz.f4 [] false w args ∧ laidMetH Tryz.prog Rows.invoiceWritesRow.laid w) ∧ sizedMet enc Tryz.prog Tryz.f4 (OpenSpec.ofChange Rows.invoiceWritesSpec) false w args)
   (Rows.invoiceWritesSpec.post enc Tryz.prog Tryz.f4 false true false false) := by
 refine returnsInHanded_of_change_and (C := Tryz.checked) (X := fun w _ => laidMetH Tryz.prog Rows.invoiceWritesRow.laid w) (fun _ _ _ hh h => h.of_heap hh) Tryz.own started (by kernel_rfl) Tryz.func4
  (ChangeSpec.witness_shaped (enc := enc) (C := Tryz.checked) (os := os) (X := fun w _ => laidMetH Tryz.prog Rows.invoiceWritesRow.laid w) false (World.laidAll Tryz.prog os Rows.invoiceWritesRow.laid) #[.agg #[.int .i64 0, .int .i64 0, .string ByteArray.empty, .string ByteArray.empty, .string ByteArray.empty, .int .i64 0, .int .i64 0, .string ByteArray.empty]] 8 (World.laidAll_os _ _ _) (World.shaped_of_ZipB (by kernel_rfl) (by kernel_rfl)) (by kernel_rfl) (by kernel_rfl) (by kernel_rfl) (by rw [MakeChecks.laidMetH_plain _ _ _ (by kernel_rfl)]; exact laidMet_laidAll _ (by kernel_rfl) (by kernel_rfl))) ?_
 intro W base args ds gs before hval0 hW _ hsz hL _
 have hval : ∀ (j : Nat) t v, Tryz.f4.params[j]? = some t → args[j]? = some v → Value.okWide Tryz.prog W .any base t v := hval0
 have hW' := hW
 obtain ⟨p, q, hA0, hV, rfl, hfz, hnd⟩ := hW
 have hA : DataW.TrodAll enc Tryz.prog W 0 (fun _ => true) true Tryz.f4.params.toList args.toList ds p := hA0
 rw [Tryz.params4] at hA hval hsz
 obtain ⟨args⟩ := args
 obtain ⟨v0, vs0, d0, ds0, p0, q0, hq0, rfl, rfl, h0, hA1⟩ := trodAll_cons hA
 simp only at hq0
 subst hq0
 obtain ⟨rfl, rfl, rfl⟩ := trodAll_nil hA1
 obtain ⟨rfl, rfl⟩ := trodVars_none hV
 obtain ⟨x, rfl, rfl, rfl, hwx⟩ := open_inv (hval 0 31 v0 rfl rfl) h0
 have hrx : InvBig x := sized_inv (j := 0) hsz si_ si_ hwx
 have hG := iwrite_laid hL
 clear hA0 hval0
 simp only [List.append_nil] at hW'
 have hr : reachBytes ≤ 140737488355328 := by decide
 have hl := lInvoiceWrites x hrx W hG
 refine Calls.mono (show Calls Tryz.prog 4 #[invV x] W _ from hl) fun r W' ⟨he, hb⟩ => ?_
 subst he
 have e1 : Rows.invoiceWritesSpec.fn H ([invD H x] ++ []) = { results := [.lit (.bool true)], args := [invD H x] } := by simp [Rows.invoiceWritesSpec]
 refine ⟨_, rfl, _, _, _, [], [], [], hW', ?_, ?_, ?_, hb.frame _, fun h => by cases h⟩
 · rw [e1]; exact trodAll_mk1 (shut_bool Tryz.underlying4 true)
 · rw [e1]; exact ⟨_, _, (shut_inv hwx), trodAll_mk0, rfl⟩
 · rw [e1]; rfl
theorem iwrite_name : Tryz.pinned.checked.prog.funcNamed Rows.invoiceWritesRow.func = some 4 := by kernel_rfl
theorem iwrite_facts : joinedFacts Tryz.pinned.checked.prog 4 Tryz.f4 Rows.invoiceWritesSpec Rows.invoiceWritesRow = true := by kernel_rfl
theorem iwrite_inst : Tryz.f4.isInstance Tryz.pinned.checked.prog Rows.invoiceWritesRow.origin Rows.invoiceWritesRow.targs := of_decide_eq_true (by kernel_rfl)
theorem iwrite_wrap : Tryz.f4.isWrapper Tryz.pinned.checked.prog Rows.invoiceWritesRow.wrapper Rows.invoiceWritesRow.mainSum := by unfold Func.isWrapper; first | (rw [if_pos (by decide +kernel)]; kernel_rfl) | (rw [if_neg (by decide +kernel)]; exact ⟨rfl, rfl⟩)
theorem iwrite_holds : Rows.InvoiceWritesSaid :=
 OpenClaim.holds_of_wide 4 Tryz.f4 rfl rfl rfl rfl rfl rfl rfl ⟨rfl, rfl, rfl, rfl, rfl⟩ rfl rfl rfl rfl rfl iwrite_name Tryz.func4 iwrite_facts
  iwrite_inst iwrite_wrap
  (fun os started H enc _ => iwrite_lifted os started H enc)
theorem iwrite_card : Rows.InvoiceWritesCardSaid :=
 Claim7.holds_tied_plain_at .later [] [.data, .data, .data, .data, .data, .sentinel, .sentinel, .data, .pinned, .pinned] true Rows.invoiceWritesCard.stood.harness true
  iwrite_holds (fun _ h => by cases h) (by kernel_rfl) (fun _ h => by cases h) invoiceWrites_row_tie rfl ⟨rfl, rfl⟩ (by kernel_rfl) rfl
  (fun f fn hf hfn => by
    obtain rfl : f = 4 := Option.some.inj ((show Tryz.prog.funcNamed "sluiceway/sluicewaylaw07.InvoiceWrites" = some 4 by kernel_rfl).symm.trans hf) |>.symm
    obtain rfl : fn = Tryz.f4 := (Option.some.inj (Tryz.func4.symm.trans hfn)).symm
    exact ⟨by kernel_rfl, fun j t ht => by
     rw [Tryz.params4] at ht
     have hm : t ∈ [31] := by simpa using Array.mem_of_getElem? ht
     have hall : ([31].all fun u => !Tryz.prog.wantsStandIn u) = true := by kernel_rfl
     exact (show Tryz.prog.wantsStandIn t = false by simpa using List.all_eq_true.1 hall t hm)⟩)
  (by kernel_rfl)
#print axioms iwrite_card
end Go.Proofs.YtembdkodajichaaGreatDoor
