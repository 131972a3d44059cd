/- What a law's reading of a struct of texts gives the walks. -/
import Derived.Test.YtdmfoablpdhnbaaGreatDoorLiftAn
import Derived.Lib.SmallJoins
import Derived.SizedLaws
import Derived.DataShut
set_option linter.unusedSimpArgs false
set_option linter.unusedVariables false
namespace Go.Proofs.YtdmfoablpdhnbaaGreatDoor
open Go.ChangeShapes Go.WideShapes Go.ChangeAt Go.RowKit

section
variable {H : Type} {enc : TypeId × Value → H} {P : Program} {w : World} {base : Nat} {sp : Nat → Bool} {held : Bool}

def textsV (ls : List (List UInt8)) : Value := .agg (ls.map fun l => Value.string (bs l)).toArray
def textsD (H : Type) (ls : List (List UInt8)) : DataW H := .agg (ls.map fun l => .lit (.string l))

/-- A struct of texts, by value, is opened. -/
theorem open_texts {r : Reach} {b0 : Nat} {t e : TypeId} {fs : Array Field} {v : Value} {d : DataW H} {p : List MemPlace} (hs : P.underlying t = some (.struct fs)) (hone : Go.Deep.oneCellFields P fs = true) (hC : P.cellsOf t = fs.size)
    (hT : fs.toList.map (·.type) = List.replicate fs.size e) (he : P.underlying e = some .string) (hv : Value.okWide P w r b0 t v) (h : DataW.Trod enc P w base sp held t v d p) :
    ∃ ls : List (List UInt8), ls.length = fs.size ∧ v = textsV ls ∧ d = textsD H ls ∧ p = [] ∧ ∀ l ∈ ls, l.length ≤ maxLen := by
  obtain ⟨cs, rfl, hsz⟩ := okWide_struct hs hv
  obtain ⟨fuel, hf⟩ := h
  obtain ⟨xs, n, _, hx, hl, hlen, hg⟩ := DataW.trod_struct hs hf
  have hcl : cs.toList.length = fs.size := by simpa [Value.cells, hC] using hl
  have key : ∀ i, i < fs.size → ∃ l : List UInt8, cs.toList[i]? = some (.string (bs l)) ∧ xs[i]? = some (.lit (.string l), []) ∧ l.length ≤ maxLen := by
    intro i hi
    have hfi : fs[i]? = some fs[i] := Array.getElem?_eq_getElem hi
    obtain ⟨ho, hk⟩ := Go.Deep.hone_of hone i _ hfi
    have h1 := hg i _ hfi
    have ht : fs[i].type = e := by
      have := congrArg (·[i]?) hT
      simp [hi] at this
      exact this
    rw [ho, hk, ht, List.getElem?_eq_getElem (by omega)] at h1
    obtain ⟨s, hc, hd, hsz⟩ := DataW.trod_string he h1
    refine ⟨s.data.toList, ?_, ?_, hsz⟩
    · rw [bs_ofData]
      have := congrArg (·[0]?) hc
      simpa [Value.cells, List.getElem?_take, List.getElem?_drop] using this
    · rw [List.getElem?_eq_getElem (by omega), hd]
  obtain ⟨ls, hll, hls⟩ : ∃ ls : List (List UInt8), ls.length = fs.size ∧ ∀ (i : Nat) (l : List UInt8), ls[i]? = some l → cs.toList[i]? = some (.string (bs l)) ∧ xs[i]? = some (.lit (.string l), []) ∧ l.length ≤ maxLen := by
    refine ⟨List.ofFn fun i : Fin fs.size => Classical.choose (key i.1 i.2), by simp, ?_⟩
    intro i l hi
    rw [List.getElem?_ofFn] at hi
    split at hi
    · rename_i hlt
      obtain rfl := Option.some.inj hi
      exact Classical.choose_spec (key i hlt)
    · simp at hi
  have hcs : cs.toList = ls.map fun l => Value.string (bs l) := by
    apply List.ext_getElem?
    intro i
    by_cases hi : i < fs.size
    · have h1 : ls[i]? = some ls[i] := List.getElem?_eq_getElem (by omega)
      rw [(hls i _ h1).1, List.getElem?_map, h1]; rfl
    · rw [List.getElem?_eq_none (by omega), List.getElem?_eq_none (by simp; omega)]
  have hxs : xs = ls.map fun l => (DataW.lit (.string l), ([] : List MemPlace)) := by
    apply List.ext_getElem?
    intro i
    by_cases hi : i < fs.size
    · have h1 : ls[i]? = some ls[i] := List.getElem?_eq_getElem (by omega)
      rw [(hls i _ h1).2.1, List.getElem?_map, h1]; rfl
    · rw [List.getElem?_eq_none (by omega), List.getElem?_eq_none (by simp; omega)]
  refine ⟨ls, hll, ?_, ?_, ?_, ?_⟩
  · rw [textsV, ← hcs]
  · have := congrArg Prod.fst hx
    simp only [hxs, List.map_map] at this
    rw [this, textsD]
    rfl
  · have := congrArg Prod.snd hx
    simp only [hxs] at this
    rw [this]
    simp
  · intro l hl
    obtain ⟨i, hi⟩ := List.getElem?_of_mem hl
    exact (hls i l hi).2.2

/-- A struct of texts, by value, is shut. -/
theorem shut_texts {t e : TypeId} {fs : Array Field} {ls : List (List UInt8)} (hs : P.underlying t = some (.struct fs)) (hone : Go.Deep.oneCellFields P fs = true) (hC : P.cellsOf t = fs.size)
    (hT : fs.toList.map (·.type) = List.replicate fs.size e) (he : P.underlying e = some .string) (hl : ls.length = fs.size) (hm : ∀ l ∈ ls, l.length ≤ maxLen) :
    DataW.Trod enc P w base sp held t (textsV ls) (textsD H ls) [] := by
  have h := trod_struct_mk (enc := enc) (w := w) (base := base) (spare := sp) (held := held) (n := 1) (cs := ls.map fun l => Value.string (bs l)) (xs := ls.map fun l => (DataW.lit (.string l), ([] : List MemPlace))) hs (by simp [hC, hl]) (by
    apply mapM_some_of_get
    · simp [hl]
    · intro i f hf
      have hi : i < fs.size := by
        have := (List.getElem?_eq_some_iff.1 hf).1
        simpa using this
      have hfi : fs[i]? = some f := by simpa using hf
      obtain ⟨ho, hk⟩ := Go.Deep.hone_of hone i _ hfi
      have ht : f.type = e := by
        have := congrArg (·[i]?) hT
        rw [List.getElem?_map, hf, List.getElem?_replicate, if_pos hi] at this
        simpa using this
      have h1 : ls[i]? = some ls[i] := List.getElem?_eq_getElem (by omega)
      rw [ho, hk, ht, List.getElem?_map, h1]
      have h2 : ((ls.map fun l => Value.string (bs l)).drop i).take 1 = [.string (bs ls[i])] := by
        rw [List.drop_eq_getElem_cons (by simp; omega)]
        simp
      rw [h2]
      simp [DataW.trod, he]
      exact hm _ (List.getElem_mem (by omega : i < ls.length)))
  refine ⟨2, ?_⟩
  have e1 : (textsV ls).cells.toList = ls.map fun l => Value.string (bs l) := by simp [textsV, Value.cells]
  rw [e1, h]
  congr 2
  · simp [textsD]
  · simp

/-- Each text of a struct that is read is of the form's reach. -/
theorem sized_texts {ts : List TypeId} {ds : List (DataW H)} {t : TypeId} {fs : Array Field} {ls : List (List UInt8)} (h : (DataW.weightsEach P ts ds).all (· ≤ reachBytes) = true) {j : Nat} (ht : ts[j]? = some t) (hd : ds[j]? = some (textsD H ls)) (hs : P.underlying t = some (.struct fs)) (hl : ls.length = fs.size) :
    ∀ l ∈ ls, l.length ≤ reachBytes := by
  intro l hm
  obtain ⟨i, hi⟩ := List.getElem?_of_mem hm
  have hlt := (List.getElem?_eq_some_iff.1 hi).1
  have h1 : l.length ∈ (textsD H ls).weights P t := by
    simp only [textsD, DataW.weights, hs]
    exact DataW.weights_mem_each (j := i) (t := fs[i].type) (d := .lit (.string l)) (by simp [show i < fs.size by omega]) (by simp [hi]) _ (by simp [DataW.weights])
  have := List.all_eq_true.1 h _ (DataW.weights_mem_each ht hd _ h1)
  simpa using this
end
end Go.Proofs.YtdmfoablpdhnbaaGreatDoor
