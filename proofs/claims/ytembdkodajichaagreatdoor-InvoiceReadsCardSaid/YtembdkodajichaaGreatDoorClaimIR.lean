/- InvoiceReads: any text is read as the document says, or refused with the same error: for every input the law returns true. Conditions: package variables start as the program's text lays them (the card ties them). -/
import Derived.Test.YtembdkodajichaaGreatDoorLawI8
import Derived.Test.YtembdkodajichaaGreatDoorLiftI
import Derived.Test.YtembdkodajichaaGreatDoorCards
import Derived.Test.YtembdkodajichaaGreatDoorTie
import Derived.SevenTiedAt
import Derived.Carry
import Derived.Lay
set_option maxRecDepth 100000
set_option maxHeartbeats 1000000
set_option linter.unusedSimpArgs false
set_option linter.unusedVariables false
namespace Go.Proofs.YtembdkodajichaaGreatDoor
open Go.ChangeShapes Go.WideShapes Go.ChangeAt Go.RowKit
open Go.ChangeMaps (open_string shut_string)
theorem ztf_ {W : World} (h : laidMetH Tryz.prog Rows.invoiceReadsRow.laid W) : IOk W := by
 rw [MakeChecks.laidMetH_plain _ _ _ (by kernel_rfl)] at h
 obtain ⟨ps, ⟨g0, t0, cs0, f0, p0, q0, hg0, ht0, hv0, hd0, ⟨g1, t1, cs1, f1, p1, q1, hg1, ht1, hv1, hd1, ⟨g2, t2, cs2, f2, p2, q2, hg2, ht2, hv2, hd2, ⟨g3, t3, cs3, f3, p3, q3, hg3, ht3, hv3, hd3, ⟨g4, t4, cs4, f4, p4, q4, hg4, ht4, hv4, hd4, ⟨g5, t5, cs5, f5, p5, q5, hg5, ht5, hv5, hd5, ⟨g6, t6, cs6, f6, p6, q6, hg6, ht6, hv6, hd6, ⟨g7, t7, cs7, f7, p7, q7, hg7, ht7, hv7, hd7, ⟨g8, t8, cs8, f8, p8, q8, hg8, ht8, hv8, hd8, ⟨g9, t9, cs9, f9, p9, q9, hg9, ht9, hv9, hd9, _, _⟩, _⟩, _⟩, _⟩, _⟩, _⟩, _⟩, _⟩, _⟩, _⟩, _, _⟩ := h
 refine ⟨⟨⟨zs7_ hg6 ht6 hv6 hd6, zs6_ hg5 ht5 hv5 hd5⟩, zs5_ hg2 ht2 hv2 hd2, ?_⟩, ztb_ hg3 ht3 hv3 hd3, zte_ hg7 ht7 hv7 hd7⟩
 have hgs : g1 + 1 = gN := by
  obtain rfl := Option.some.inj ((show Tryz.prog.globalNamed "math/bits.deBruijn64tab" = some 10 by kernel_rfl).symm.trans hg1)
  rfl
 have := zs8_ hg1 hv1
 omega
theorem ztg_ (os : Os) (started : os.Started) (H : Type) (enc : TypeId × Value → H) :
  ReturnsInHanded {} Tryz.checked os 5 .any (fun w args => (Rows.invoiceReadsSpec.pre enc Tryz.prog Tryz.f5 [] false w args ∧ laidMetH Tryz.prog Rows.invoiceReadsRow.laid w) ∧ sizedMet enc Tryz.prog Tryz.f5 (OpenSpec.ofChange Rows.invoiceReadsSpec) false w args)
   (Rows.invoiceReadsSpec.post enc Tryz.prog Tryz.f5 false true false false) := by
 refine returnsInHanded_of_change_and (C := Tryz.checked) (X := fun w _ => laidMetH Tryz.prog Rows.invoiceReadsRow.laid w) (fun _ _ _ hh h => h.of_heap hh) Tryz.own started (by kernel_rfl) Tryz.func5
  (ChangeSpec.witness_shaped (enc := enc) (C := Tryz.checked) (os := os) (X := fun w _ => laidMetH Tryz.prog Rows.invoiceReadsRow.laid w) false (World.laidAll Tryz.prog os Rows.invoiceReadsRow.laid) #[.string ByteArray.empty] 8 (World.laidAll_os _ _ _) (World.shaped_of_ZipB (by kernel_rfl) (by kernel_rfl)) (by kernel_rfl) (by kernel_rfl) (by kernel_rfl) (by rw [MakeChecks.laidMetH_plain _ _ _ (by kernel_rfl)]; exact laidMet_laidAll _ (by kernel_rfl) (by kernel_rfl))) ?_
 intro W base args ds gs before hval0 hW _ hsz hL _
 have hval : ∀ (j : Nat) t v, Tryz.f5.params[j]? = some t → args[j]? = some v → Value.okWide Tryz.prog W .any base t v := hval0
 have hW' := hW
 obtain ⟨p, q, hA0, hV, rfl, hfz, hnd⟩ := hW
 have hA : DataW.TrodAll enc Tryz.prog W 0 (fun _ => true) true Tryz.f5.params.toList args.toList ds p := hA0
 rw [Tryz.params5] at hA hval hsz
 obtain ⟨v0, d0, rfl, rfl, h0⟩ := trodAll_one hA
 obtain ⟨rfl, rfl⟩ := trodVars_none hV
 obtain ⟨sB, rfl, rfl, rfl, hws⟩ := open_string Tryz.underlying9 (hval 0 9 v0 rfl rfl) h0
 have hrs : sB.data.toList.length ≤ reachBytes := zs9_ (t := 9) hsz (j := 0) si_ si_
 obtain ⟨s, hsB⟩ : ∃ l, sB.data.toList = l := ⟨_, rfl⟩
 have hsC : sB = bs s := by rw [← hsB, zhM_]
 rw [hsB] at hrs
 have hG := ztf_ hL
 clear hA0 hval0
 simp only [List.append_nil] at hW'
 have hr : reachBytes ≤ 140737488355328 := by decide
 have hl := zs3_ s (Nat.le_trans hrs hr) W hG
 rw [← hsC] at hl
 refine Calls.mono (show Calls Tryz.prog 5 #[.string sB] W _ from hl) fun r W' ⟨he, hb⟩ => ?_
 subst he
 have e1 : Rows.invoiceReadsSpec.fn H ([.lit (.string sB.data.toList)] ++ []) = { results := [.lit (.bool true)], args := [.lit (.string sB.data.toList)] } := by simp [Rows.invoiceReadsSpec]
 refine ⟨_, rfl, _, _, _, [], [], [], hW', ?_, ?_, ?_, hb.frame _, fun h => by cases h⟩
 · rw [e1]; exact trodAll_mk1 (shut_bool Tryz.underlying4 true)
 · rw [e1]; exact trodAll_mk1 (shut_string Tryz.underlying9 hws)
 · rw [e1]; rfl
theorem zth_ : Tryz.pinned.checked.prog.funcNamed Rows.invoiceReadsRow.func = some 5 := by kernel_rfl
theorem zti_ : joinedFacts Tryz.pinned.checked.prog 5 Tryz.f5 Rows.invoiceReadsSpec Rows.invoiceReadsRow = true := by kernel_rfl
theorem ztj_ : Tryz.f5.isInstance Tryz.pinned.checked.prog Rows.invoiceReadsRow.origin Rows.invoiceReadsRow.targs := of_decide_eq_true (by kernel_rfl)
theorem ztk_ : Tryz.f5.isWrapper Tryz.pinned.checked.prog Rows.invoiceReadsRow.wrapper Rows.invoiceReadsRow.mainSum := by unfold Func.isWrapper; first | (rw [if_pos (by decide +kernel)]; kernel_rfl) | (rw [if_neg (by decide +kernel)]; exact ⟨rfl, rfl⟩)
theorem ztl_ : Rows.InvoiceReadsSaid :=
 OpenClaim.holds_of_wide 5 Tryz.f5 rfl rfl rfl rfl rfl rfl rfl ⟨rfl, rfl, rfl, rfl, rfl⟩ rfl rfl rfl rfl rfl zth_ Tryz.func5 zti_
  ztj_ ztk_
  (fun os started H enc _ => ztg_ os started H enc)
theorem iread_card : Rows.InvoiceReadsCardSaid :=
 Claim7.holds_tied_plain_at .later [] [.data, .data, .data, .data, .data, .sentinel, .sentinel, .data, .pinned, .pinned] true Rows.invoiceReadsCard.stood.harness true
  ztl_ (fun _ h => by cases h) (by kernel_rfl) (fun _ h => by cases h) invoiceReads_row_tie rfl ⟨rfl, rfl⟩ (by kernel_rfl) rfl
  (fun f fn hf hfn => by
    obtain rfl : f = 5 := Option.some.inj ((show Tryz.prog.funcNamed "sluiceway/sluicewaylaw07.InvoiceReads" = some 5 by kernel_rfl).symm.trans hf) |>.symm
    obtain rfl : fn = Tryz.f5 := (Option.some.inj (Tryz.func5.symm.trans hfn)).symm
    exact ⟨by kernel_rfl, fun j t ht => by
     rw [Tryz.params5] at ht
     have hm : t ∈ [9] := by simpa using Array.mem_of_getElem? ht
     have hall : ([9].all fun u => !Tryz.prog.wantsStandIn u) = true := by kernel_rfl
     exact (show Tryz.prog.wantsStandIn t = false by simpa using List.all_eq_true.1 hall t hm)⟩)
  (by kernel_rfl)
#print axioms iread_card
end Go.Proofs.YtembdkodajichaaGreatDoor
