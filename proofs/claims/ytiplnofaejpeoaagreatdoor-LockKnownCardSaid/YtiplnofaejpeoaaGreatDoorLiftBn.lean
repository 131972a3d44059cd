/- What a law's reading of a struct of texts gives the walks. -/
import Derived.Test.YtiplnofaejpeoaaGreatDoorMTerm
import Derived.ProofKit
import Derived.LaidMore
import Derived.OpenShut
import Derived.Stop.Joined
import Derived.LaidLaws
import Derived.Lib.SmallJoins
import Derived.SizedLaws
import Derived.DataShut
set_option linter.unusedSimpArgs false
set_option linter.unusedVariables false
namespace Go.Proofs.YtiplnofaejpeoaaGreatDoor
open Go.ChangeShapes Go.WideShapes Go.ChangeAt Go.RowKit
theorem Tryz.own : ownKnob Tryz.prog.godebug = none := by kernel_rfl
theorem Tryz.tPow : (Tryz.prog.globals[3]?).map (·.type) = some 151 := by kernel_rfl
theorem Tryz.tRange : (Tryz.prog.globals[2]?).map (·.type) = some 70 := by kernel_rfl
theorem Tryz.tSyntax : (Tryz.prog.globals[1]?).map (·.type) = some 70 := by kernel_rfl
theorem zpp_ {H : Type} : (Rows.laid_internal_strconv_uint64pow10 : DataW H) = Lib.tabData .u64 Lib.pow10Tab := by rfl
theorem zpq_ {W : World} {g t fuel : Nat} {cs : Array Value} {sp : Nat → Bool} {q : List MemPlace} {enc : TypeId × Value → Unit} (hg : Tryz.prog.globalNamed "internal/strconv.uint64pow10" = some g) (ht : (Tryz.prog.globals[g]?).map (·.type) = some t)
  (hv : W.var? Tryz.prog "internal/strconv.uint64pow10" = some cs) (hd : DataW.trod enc Tryz.prog W 0 sp false fuel t cs.toList = some (Rows.laid_internal_strconv_uint64pow10, q)) :
  Lib.TabIs Tryz.prog W "internal/strconv.uint64pow10" .u64 Lib.pow10Tab := by
 obtain rfl := Option.some.inj (Tryz.gPow.symm.trans hg)
 obtain rfl := Option.some.inj (Tryz.tPow.symm.trans ht)
 rw [zpp_] at hd
 unfold Lib.TabIs
 rw [hv, ← Lib.cells_of_tab Tryz.underlying151 Tryz.underlying97 (by kernel_rfl) (by kernel_rfl) hd]
theorem ziw_ {W : World} {t fuel : Nat} {cs : Array Value} {sp : Nat → Bool} {q : List MemPlace} {enc : TypeId × Value → Unit} {nm : String} {d : DataW Unit} {ms : Array (String × TypeId)} (hi : Tryz.prog.underlying t = some (.interface ms))
  (hd : DataW.trod enc Tryz.prog W 0 sp false fuel t cs.toList = some (.iface nm d, q)) : ∃ u v, cs = #[.iface u v] := by
 obtain ⟨_, u, v, h, _⟩ := iface_of_trod hi hd
 exact ⟨u, v, by cases cs; simp only at h; subst h; rfl⟩
theorem zpr_ {W : World} {g t fuel : Nat} {cs : Array Value} {sp : Nat → Bool} {q : List MemPlace} {enc : TypeId × Value → Unit} (hg : Tryz.prog.globalNamed "strconv.ErrRange" = some g) (ht : (Tryz.prog.globals[g]?).map (·.type) = some t)
  (hv : W.var? Tryz.prog "strconv.ErrRange" = some cs) (hd : DataW.trod enc Tryz.prog W 0 sp false fuel t cs.toList = some (Rows.laid_strconv_ErrRange, q)) : ∃ tp p, W.var? Tryz.prog "strconv.ErrRange" = some #[.iface tp p] := by
 obtain rfl := Option.some.inj (Tryz.gRange.symm.trans hg)
 obtain rfl := Option.some.inj (Tryz.tRange.symm.trans ht)
 obtain ⟨u, v, h⟩ := ziw_ Tryz.underlying70 hd
 exact ⟨u, v, by rw [hv, h]⟩
theorem zps_ {W : World} {g t fuel : Nat} {cs : Array Value} {sp : Nat → Bool} {q : List MemPlace} {enc : TypeId × Value → Unit} (hg : Tryz.prog.globalNamed "strconv.ErrSyntax" = some g) (ht : (Tryz.prog.globals[g]?).map (·.type) = some t)
  (hv : W.var? Tryz.prog "strconv.ErrSyntax" = some cs) (hd : DataW.trod enc Tryz.prog W 0 sp false fuel t cs.toList = some (Rows.laid_strconv_ErrSyntax, q)) : ∃ tp p, W.var? Tryz.prog "strconv.ErrSyntax" = some #[.iface tp p] := by
 obtain rfl := Option.some.inj (Tryz.gSyntax.symm.trans hg)
 obtain rfl := Option.some.inj (Tryz.tSyntax.symm.trans ht)
 obtain ⟨u, v, h⟩ := ziw_ Tryz.underlying70 hd
 exact ⟨u, v, by rw [hv, h]⟩
theorem zpt_ {W : World} {name : String} {g : Nat} {cs : Array Value} (hg : Tryz.prog.globalNamed name = some g) (hv : W.var? Tryz.prog name = some cs) : g < W.heap.size := by
 simp only [World.var?, hg, Option.bind_some] at hv
 cases h : W.heap[g]? with
 | none => rw [h] at hv; simp at hv
 | some x => exact z0_ h
section
variable {H : Type} {enc : TypeId × Value → H} {P : Program} {w : World} {base : Nat} {sp : Nat → Bool} {held : Bool}
end
end Go.Proofs.YtiplnofaejpeoaaGreatDoor
