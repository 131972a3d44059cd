/- SessionKnown: the examples hold; acts that are none, texts about each bound, many frames, are told as the document says: the law returns true. Conditions: package variables start as the program's text lays them (the card ties them). -/
import Derived.Test.YtaaiaahkakkleaaGreatDoorMTerm
import Derived.ProofKit
import Derived.LaidMore
import Derived.OpenShut
import Derived.Stop.Joined
import Derived.LaidLaws
import Derived.Lib.SmallJoins
import Derived.SizedLaws
import Derived.DataShut
import Derived.Test.YtaaiaahkakkleaaGreatDoorLawSk
import Derived.Test.YtaaiaahkakkleaaGreatDoorCards
import Derived.Test.YtaaiaahkakkleaaGreatDoorTie
import Derived.SevenTiedAt
import Derived.Carry
set_option linter.unusedSimpArgs false
set_option linter.unusedVariables false
set_option maxRecDepth 100000
set_option maxHeartbeats 1000000
namespace Go.Proofs.YtaaiaahkakkleaaGreatDoor
open Go.ChangeShapes Go.WideShapes Go.ChangeAt Go.RowKit
theorem Tryz.own : ownKnob Tryz.prog.godebug = none := by kernel_rfl
theorem Tryz.tPow : (Tryz.prog.globals[0]?).map (·.type) = some 162 := by kernel_rfl
theorem Tryz.tRange : (Tryz.prog.globals[5]?).map (·.type) = some 156 := by kernel_rfl
theorem Tryz.tSyntax : (Tryz.prog.globals[4]?).map (·.type) = some 156 := by kernel_rfl
theorem pow_data {H : Type} : (Rows.laid_internal_strconv_uint64pow10 : DataW H) = Lib.tabData .u64 Lib.pow10Tab := by rfl
theorem pow_of {W : World} {g t fuel : Nat} {cs : Array Value} {sp : Nat → Bool} {q : List MemPlace} {enc : TypeId × Value → Unit} (hg : Tryz.prog.globalNamed "internal/strconv.uint64pow10" = some g) (ht : (Tryz.prog.globals[g]?).map (·.type) = some t)
  (hv : W.var? Tryz.prog "internal/strconv.uint64pow10" = some cs) (hd : DataW.trod enc Tryz.prog W 0 sp false fuel t cs.toList = some (Rows.laid_internal_strconv_uint64pow10, q)) :
  Lib.TabIs Tryz.prog W "internal/strconv.uint64pow10" .u64 Lib.pow10Tab := by
 obtain rfl := Option.some.inj (Tryz.gPow.symm.trans hg)
 obtain rfl := Option.some.inj (Tryz.tPow.symm.trans ht)
 rw [pow_data] at hd
 unfold Lib.TabIs
 rw [hv, ← Lib.cells_of_tab Tryz.underlying162 Tryz.underlying135 (by kernel_rfl) (by kernel_rfl) hd]
theorem iface_cells {W : World} {t fuel : Nat} {cs : Array Value} {sp : Nat → Bool} {q : List MemPlace} {enc : TypeId × Value → Unit} {nm : String} {d : DataW Unit} {ms : Array (String × TypeId)} (hi : Tryz.prog.underlying t = some (.interface ms))
  (hd : DataW.trod enc Tryz.prog W 0 sp false fuel t cs.toList = some (.iface nm d, q)) : ∃ u v, cs = #[.iface u v] := by
 obtain ⟨_, u, v, h, _⟩ := iface_of_trod hi hd
 exact ⟨u, v, by cases cs; simp only at h; subst h; rfl⟩
theorem range_of {W : World} {g t fuel : Nat} {cs : Array Value} {sp : Nat → Bool} {q : List MemPlace} {enc : TypeId × Value → Unit} (hg : Tryz.prog.globalNamed "strconv.ErrRange" = some g) (ht : (Tryz.prog.globals[g]?).map (·.type) = some t)
  (hv : W.var? Tryz.prog "strconv.ErrRange" = some cs) (hd : DataW.trod enc Tryz.prog W 0 sp false fuel t cs.toList = some (Rows.laid_strconv_ErrRange, q)) : ∃ tp p, W.var? Tryz.prog "strconv.ErrRange" = some #[.iface tp p] := by
 obtain rfl := Option.some.inj (Tryz.gRange.symm.trans hg)
 obtain rfl := Option.some.inj (Tryz.tRange.symm.trans ht)
 obtain ⟨u, v, h⟩ := iface_cells Tryz.underlying156 hd
 exact ⟨u, v, by rw [hv, h]⟩
theorem syntax_of {W : World} {g t fuel : Nat} {cs : Array Value} {sp : Nat → Bool} {q : List MemPlace} {enc : TypeId × Value → Unit} (hg : Tryz.prog.globalNamed "strconv.ErrSyntax" = some g) (ht : (Tryz.prog.globals[g]?).map (·.type) = some t)
  (hv : W.var? Tryz.prog "strconv.ErrSyntax" = some cs) (hd : DataW.trod enc Tryz.prog W 0 sp false fuel t cs.toList = some (Rows.laid_strconv_ErrSyntax, q)) : ∃ tp p, W.var? Tryz.prog "strconv.ErrSyntax" = some #[.iface tp p] := by
 obtain rfl := Option.some.inj (Tryz.gSyntax.symm.trans hg)
 obtain rfl := Option.some.inj (Tryz.tSyntax.symm.trans ht)
 obtain ⟨u, v, h⟩ := iface_cells Tryz.underlying156 hd
 exact ⟨u, v, by rw [hv, h]⟩
theorem size_of {W : World} {name : String} {g : Nat} {cs : Array Value} (hg : Tryz.prog.globalNamed name = some g) (hv : W.var? Tryz.prog name = some cs) : g < W.heap.size := by
 simp only [World.var?, hg, Option.bind_some] at hv
 cases h : W.heap[g]? with
 | none => rw [h] at hv; simp at hv
 | some x => exact blk_lt h
end Go.Proofs.YtaaiaahkakkleaaGreatDoor
namespace Go.Proofs.YtaaiaahkakkleaaGreatDoor
open Go.ChangeShapes Go.WideShapes Go.ChangeAt Go.RowKit
section
variable {H : Type} {enc : TypeId × Value → H} {P : Program} {w : World} {base : Nat} {sp : Nat → Bool} {held : Bool}
end
end Go.Proofs.YtaaiaahkakkleaaGreatDoor
namespace Go.Proofs.YtaaiaahkakkleaaGreatDoor
open Go.ChangeShapes Go.WideShapes Go.ChangeAt Go.RowKit
open Go.ChangeMaps (open_string shut_string)
theorem sknown_laid {W : World} (h : laidMetH Tryz.prog Rows.sessionKnownRow.laid W) : GOk W := by
 rw [MakeChecks.laidMetH_plain _ _ _ (by kernel_rfl)] at h
 obtain ⟨ps, ⟨g0, t0, cs0, f0, p0, q0, hg0, ht0, hv0, hd0, ⟨g1, t1, cs1, f1, p1, q1, hg1, ht1, hv1, hd1, ⟨g2, t2, cs2, f2, p2, q2, hg2, ht2, hv2, hd2, ⟨g3, t3, cs3, f3, p3, q3, hg3, ht3, hv3, hd3, ⟨g4, t4, cs4, f4, p4, q4, hg4, ht4, hv4, hd4, _, _⟩, _⟩, _⟩, _⟩, _⟩, _, _⟩ := h
 refine ⟨⟨syntax_of hg4 ht4 hv4 hd4, range_of hg3 ht3 hv3 hd3⟩, pow_of hg2 ht2 hv2 hd2, ?_⟩
 obtain rfl := Option.some.inj (Tryz.gRange.symm.trans hg3)
 exact size_of hg3 hv3
theorem sknown_door (os : Os) (args : Array Value) : laidMetH Tryz.prog Rows.sessionKnownRow.laid ((World.doorLaid Tryz.prog 400 os).forCall (fun _ _ => 0) ⟨#[], args, []⟩).memory :=
 laidMetH_of_parts3 (fuel := 8) (laidMet_of_run' 8 (by kernel_rfl) (by kernel_rfl)) (by kernel_rfl) (by kernel_rfl)
theorem sknown_lifted (os : Os) (started : os.Started) (H : Type) (enc : TypeId × Value → H) :
  ReturnsInHanded {} Tryz.checked os 3 .any (fun w args => (Rows.sessionKnownSpec.pre enc Tryz.prog Tryz.f3 [] false w args ∧ laidMetH Tryz.prog Rows.sessionKnownRow.laid w) ∧ sizedMet enc Tryz.prog Tryz.f3 (OpenSpec.ofChange Rows.sessionKnownSpec) false w args)
   (Rows.sessionKnownSpec.post enc Tryz.prog Tryz.f3 false true false false) := by
 refine returnsInHanded_of_change_and (C := Tryz.checked) (X := fun w _ => laidMetH Tryz.prog Rows.sessionKnownRow.laid w) (fun _ _ _ hh h => h.of_heap hh) Tryz.own started (by kernel_rfl) Tryz.func3
  (ChangeSpec.witness_shaped (enc := enc) (C := Tryz.checked) (os := os) (X := fun w _ => laidMetH Tryz.prog Rows.sessionKnownRow.laid w) false (World.doorLaid Tryz.prog 400 os) #[] 8 rfl (World.shaped_of_RefB (by kernel_rfl) (by kernel_rfl)) (by kernel_rfl) (by kernel_rfl) (by kernel_rfl) (sknown_door os _)) ?_
 intro W base args ds gs before hval0 hW _ hsz hL _
 have hval : ∀ (j : Nat) t v, Tryz.f3.params[j]? = some t → args[j]? = some v → Value.okWide Tryz.prog W .any base t v := hval0
 have hW' := hW
 obtain ⟨p, q, hA0, hV, rfl, hfz, hnd⟩ := hW
 have hA : DataW.TrodAll enc Tryz.prog W 0 (fun _ => true) true Tryz.f3.params.toList args.toList ds p := hA0
 rw [Tryz.params3] at hA hval hsz
 obtain ⟨rfl, rfl, rfl⟩ := trodAll_none hA
 obtain ⟨rfl, rfl⟩ := trodVars_none hV
 have hG := sknown_laid hL
 clear hA0 hval0
 simp only [List.append_nil] at hW'
 have hr : reachBytes ≤ 140737488355328 := by decide
 have hl := lSessionKnown W hG
 refine Calls.mono (show Calls Tryz.prog 3 #[] W _ from hl) fun r W' ⟨he, hb⟩ => ?_
 subst he
 have e1 : Rows.sessionKnownSpec.fn H ([] ++ []) = { results := [.lit (.bool true)], args := [] } := by simp [Rows.sessionKnownSpec]
 refine ⟨_, rfl, _, _, _, [], [], [], hW', ?_, ?_, ?_, hb.frame _, fun h => by cases h⟩
 · rw [e1]; exact trodAll_mk1 (shut_bool Tryz.underlying4 true)
 · rw [e1]; exact trodAll_mk0
 · rw [e1]; rfl
theorem sknown_name : Tryz.pinned.checked.prog.funcNamed Rows.sessionKnownRow.func = some 3 := by kernel_rfl
theorem sknown_facts : joinedFacts Tryz.pinned.checked.prog 3 Tryz.f3 Rows.sessionKnownSpec Rows.sessionKnownRow = true := by kernel_rfl
theorem sknown_inst : Tryz.f3.isInstance Tryz.pinned.checked.prog Rows.sessionKnownRow.origin Rows.sessionKnownRow.targs := of_decide_eq_true (by kernel_rfl)
theorem sknown_wrap : Tryz.f3.isWrapper Tryz.pinned.checked.prog Rows.sessionKnownRow.wrapper Rows.sessionKnownRow.mainSum := by unfold Func.isWrapper; first | (rw [if_pos (by decide +kernel)]; kernel_rfl) | (rw [if_neg (by decide +kernel)]; exact ⟨rfl, rfl⟩)
theorem sknown_holds : Rows.SessionKnownSaid :=
 OpenClaim.holds_of_wide 3 Tryz.f3 rfl rfl rfl rfl rfl rfl rfl ⟨rfl, rfl, rfl, rfl, rfl⟩ rfl rfl rfl rfl rfl sknown_name Tryz.func3 sknown_facts
  sknown_inst sknown_wrap
  (fun os started H enc _ => sknown_lifted os started H enc)
theorem sknown_card : Rows.SessionKnownCardSaid :=
 Claim7.holds_tied_plain_at .later [] [.data, .data, .data, .sentinel, .sentinel] true Rows.sessionKnownCard.stood.harness true
  sknown_holds (fun _ h => by cases h) (by kernel_rfl) (fun _ h => by cases h) sessionKnown_row_tie rfl ⟨rfl, rfl⟩ (by kernel_rfl) rfl
  (fun f fn hf hfn => by
    obtain rfl : f = 3 := Option.some.inj ((show Tryz.prog.funcNamed "sluiceway/sluicewaylaw21.SessionKnown" = some 3 by kernel_rfl).symm.trans hf) |>.symm
    obtain rfl : fn = Tryz.f3 := (Option.some.inj (Tryz.func3.symm.trans hfn)).symm
    exact ⟨by kernel_rfl, fun j t ht => by
     rw [Tryz.params3] at ht
     simp at ht⟩)
  (by kernel_rfl)
#print axioms sknown_card
end Go.Proofs.YtaaiaahkakkleaaGreatDoor
