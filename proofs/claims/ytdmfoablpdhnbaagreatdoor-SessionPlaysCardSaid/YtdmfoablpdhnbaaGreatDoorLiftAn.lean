/- What the rows' condition on package variables gives the walks (no words of the keys). -/
import Derived.Test.YtdmfoablpdhnbaaGreatDoorMTerm
import Derived.ProofKit
import Derived.LaidMore
import Derived.OpenShut
import Derived.Stop.Joined
import Derived.LaidLaws
set_option linter.unusedSimpArgs false
set_option linter.unusedVariables false
namespace Go.Proofs.YtdmfoablpdhnbaaGreatDoor
open Go.ChangeShapes Go.WideShapes Go.ChangeAt Go.RowKit

theorem Tryz.own : ownKnob Tryz.prog.godebug = none := by kernel_rfl
theorem Tryz.tPow : (Tryz.prog.globals[1]?).map (·.type) = some 194 := by kernel_rfl
theorem Tryz.tRange : (Tryz.prog.globals[6]?).map (·.type) = some 183 := by kernel_rfl
theorem Tryz.tSyntax : (Tryz.prog.globals[5]?).map (·.type) = some 183 := by kernel_rfl
theorem pow_data {H : Type} : (Rows.laid_internal_strconv_uint64pow10 : DataW H) = Lib.tabData .u64 Lib.pow10Tab := by rfl

/-- The variables that the library reads. -/
theorem pow_of {W : World} {g t fuel : Nat} {cs : Array Value} {sp : Nat → Bool} {q : List MemPlace} {enc : TypeId × Value → Unit} (hg : Tryz.prog.globalNamed "internal/strconv.uint64pow10" = some g) (ht : (Tryz.prog.globals[g]?).map (·.type) = some t)
    (hv : W.var? Tryz.prog "internal/strconv.uint64pow10" = some cs) (hd : DataW.trod enc Tryz.prog W 0 sp false fuel t cs.toList = some (Rows.laid_internal_strconv_uint64pow10, q)) :
    Lib.TabIs Tryz.prog W "internal/strconv.uint64pow10" .u64 Lib.pow10Tab := by
  obtain rfl := Option.some.inj (Tryz.gPow.symm.trans hg)
  obtain rfl := Option.some.inj (Tryz.tPow.symm.trans ht)
  rw [pow_data] at hd
  unfold Lib.TabIs
  rw [hv, ← Lib.cells_of_tab Tryz.underlying194 Tryz.underlying162 (by kernel_rfl) (by kernel_rfl) hd]

theorem iface_cells {W : World} {t fuel : Nat} {cs : Array Value} {sp : Nat → Bool} {q : List MemPlace} {enc : TypeId × Value → Unit} {nm : String} {d : DataW Unit} {ms : Array (String × TypeId)} (hi : Tryz.prog.underlying t = some (.interface ms))
    (hd : DataW.trod enc Tryz.prog W 0 sp false fuel t cs.toList = some (.iface nm d, q)) : ∃ u v, cs = #[.iface u v] := by
  obtain ⟨_, u, v, h, _⟩ := iface_of_trod hi hd
  exact ⟨u, v, by cases cs; simp only at h; subst h; rfl⟩

theorem range_of {W : World} {g t fuel : Nat} {cs : Array Value} {sp : Nat → Bool} {q : List MemPlace} {enc : TypeId × Value → Unit} (hg : Tryz.prog.globalNamed "strconv.ErrRange" = some g) (ht : (Tryz.prog.globals[g]?).map (·.type) = some t)
    (hv : W.var? Tryz.prog "strconv.ErrRange" = some cs) (hd : DataW.trod enc Tryz.prog W 0 sp false fuel t cs.toList = some (Rows.laid_strconv_ErrRange, q)) : ∃ tp p, W.var? Tryz.prog "strconv.ErrRange" = some #[.iface tp p] := by
  obtain rfl := Option.some.inj (Tryz.gRange.symm.trans hg)
  obtain rfl := Option.some.inj (Tryz.tRange.symm.trans ht)
  obtain ⟨u, v, h⟩ := iface_cells Tryz.underlying183 hd
  exact ⟨u, v, by rw [hv, h]⟩
theorem syntax_of {W : World} {g t fuel : Nat} {cs : Array Value} {sp : Nat → Bool} {q : List MemPlace} {enc : TypeId × Value → Unit} (hg : Tryz.prog.globalNamed "strconv.ErrSyntax" = some g) (ht : (Tryz.prog.globals[g]?).map (·.type) = some t)
    (hv : W.var? Tryz.prog "strconv.ErrSyntax" = some cs) (hd : DataW.trod enc Tryz.prog W 0 sp false fuel t cs.toList = some (Rows.laid_strconv_ErrSyntax, q)) : ∃ tp p, W.var? Tryz.prog "strconv.ErrSyntax" = some #[.iface tp p] := by
  obtain rfl := Option.some.inj (Tryz.gSyntax.symm.trans hg)
  obtain rfl := Option.some.inj (Tryz.tSyntax.symm.trans ht)
  obtain ⟨u, v, h⟩ := iface_cells Tryz.underlying183 hd
  exact ⟨u, v, by rw [hv, h]⟩

theorem cells_of_strs {W : World} {t e n fuel : Nat} {cs : List Value} {sp : Nat → Bool} {q : List MemPlace} {enc : TypeId × Value → Unit} {ws : List (List UInt8)} (ht : Tryz.prog.underlying t = some (.array n e)) (he : Tryz.prog.underlying e = some .string) (hce : Tryz.prog.cellsOf e = 1) (hct : Tryz.prog.cellsOf t = n)
    (h : DataW.trod enc Tryz.prog W 0 sp false fuel t cs = some (.agg (ws.map fun w => .lit (.string w)), q)) : cs = ws.map fun w => .string (bs w) := by
  obtain ⟨xs, m, rfl, hx, hlen, hxl, hel⟩ := DataW.trod_array ht h
  simp only [Prod.mk.injEq, DataW.agg.injEq] at hx
  have hwl : ws.length = n := by
    have := congrArg List.length hx.1
    simp at this
    omega
  rw [hct] at hlen
  apply List.ext_getElem?
  intro i
  by_cases hi : i < n
  · have h1 := hel i hi
    rw [hce, Nat.mul_one, List.getElem?_eq_getElem (by omega)] at h1
    obtain ⟨s, hc, hd, _⟩ := DataW.trod_string he h1
    have h2 : cs[i]? = some (.string s) := by
      have := congrArg (·[0]?) hc
      simpa [List.getElem?_take, List.getElem?_drop] using this
    have h3 : (xs.map (·.1))[i]? = some (.lit (.string s.data.toList)) := by
      rw [List.getElem?_map, List.getElem?_eq_getElem (by omega), hd]; rfl
    rw [← hx.1, List.getElem?_map] at h3
    rw [h2, List.getElem?_map]
    cases hw : ws[i]? with
    | none => simp [hw] at h3
    | some w =>
      simp only [hw, Option.map_some, Option.some.injEq, DataW.lit.injEq, Lit.string.injEq] at h3 ⊢
      rw [h3, bs_ofData]
  · rw [List.getElem?_eq_none (by omega), List.getElem?_eq_none (by simp; omega)]


/-- So many blocks are there from the first. -/
theorem size_of {W : World} {name : String} {g : Nat} {cs : Array Value} (hg : Tryz.prog.globalNamed name = some g) (hv : W.var? Tryz.prog name = some cs) : g < W.heap.size := by
  simp only [World.var?, hg, Option.bind_some] at hv
  cases h : W.heap[g]? with
  | none => rw [h] at hv; simp at hv
  | some x => exact blk_lt h
end Go.Proofs.YtdmfoablpdhnbaaGreatDoor
