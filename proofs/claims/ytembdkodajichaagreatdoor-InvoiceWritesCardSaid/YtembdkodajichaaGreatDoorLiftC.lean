/- What a law's reading of single texts and of structs of five texts gives the walks. -/
import Derived.Test.YtembdkodajichaaGreatDoorMTerm
import Derived.ProofKit
import Derived.LaidMore
import Derived.OpenShut
import Derived.Stop.Joined
import Derived.LaidLaws
import Derived.Lib.SmallJoins
import Derived.SizedLaws
import Derived.DataShut
set_option linter.unusedSimpArgs false
set_option linter.unusedVariables false
namespace Go.Proofs.YtembdkodajichaaGreatDoor
open Go.ChangeShapes Go.WideShapes Go.ChangeAt Go.RowKit
theorem Tryz.own : ownKnob Tryz.prog.godebug = none := by kernel_rfl
theorem Tryz.tPow : (Tryz.prog.globals[1]?).map (·.type) = some 178 := by kernel_rfl
theorem Tryz.tRange : (Tryz.prog.globals[3]?).map (·.type) = some 62 := by kernel_rfl
theorem Tryz.tSyntax : (Tryz.prog.globals[2]?).map (·.type) = some 62 := by kernel_rfl
theorem pow_data {H : Type} : (Rows.laid_internal_strconv_uint64pow10 : DataW H) = Lib.tabData .u64 Lib.pow10Tab := by rfl
theorem pow_of {W : World} {g t fuel : Nat} {cs : Array Value} {sp : Nat → Bool} {q : List MemPlace} {enc : TypeId × Value → Unit} (hg : Tryz.prog.globalNamed "internal/strconv.uint64pow10" = some g) (ht : (Tryz.prog.globals[g]?).map (·.type) = some t)
  (hv : W.var? Tryz.prog "internal/strconv.uint64pow10" = some cs) (hd : DataW.trod enc Tryz.prog W 0 sp false fuel t cs.toList = some (Rows.laid_internal_strconv_uint64pow10, q)) :
  Lib.TabIs Tryz.prog W "internal/strconv.uint64pow10" .u64 Lib.pow10Tab := by
 obtain rfl := Option.some.inj (Tryz.gPow.symm.trans hg)
 obtain rfl := Option.some.inj (Tryz.tPow.symm.trans ht)
 rw [pow_data] at hd
 unfold Lib.TabIs
 rw [hv, ← Lib.cells_of_tab Tryz.underlying178 Tryz.underlying108 (by kernel_rfl) (by kernel_rfl) hd]
theorem iface_cells {W : World} {t fuel : Nat} {cs : Array Value} {sp : Nat → Bool} {q : List MemPlace} {enc : TypeId × Value → Unit} {nm : String} {d : DataW Unit} {ms : Array (String × TypeId)} (hi : Tryz.prog.underlying t = some (.interface ms))
  (hd : DataW.trod enc Tryz.prog W 0 sp false fuel t cs.toList = some (.iface nm d, q)) : ∃ u v, cs = #[.iface u v] := by
 obtain ⟨_, u, v, h, _⟩ := iface_of_trod hi hd
 exact ⟨u, v, by cases cs; simp only at h; subst h; rfl⟩
theorem range_of {W : World} {g t fuel : Nat} {cs : Array Value} {sp : Nat → Bool} {q : List MemPlace} {enc : TypeId × Value → Unit} (hg : Tryz.prog.globalNamed "strconv.ErrRange" = some g) (ht : (Tryz.prog.globals[g]?).map (·.type) = some t)
  (hv : W.var? Tryz.prog "strconv.ErrRange" = some cs) (hd : DataW.trod enc Tryz.prog W 0 sp false fuel t cs.toList = some (Rows.laid_strconv_ErrRange, q)) : ∃ tp p, W.var? Tryz.prog "strconv.ErrRange" = some #[.iface tp p] := by
 obtain rfl := Option.some.inj (Tryz.gRange.symm.trans hg)
 obtain rfl := Option.some.inj (Tryz.tRange.symm.trans ht)
 obtain ⟨u, v, h⟩ := iface_cells Tryz.underlying62 hd
 exact ⟨u, v, by rw [hv, h]⟩
theorem syntax_of {W : World} {g t fuel : Nat} {cs : Array Value} {sp : Nat → Bool} {q : List MemPlace} {enc : TypeId × Value → Unit} (hg : Tryz.prog.globalNamed "strconv.ErrSyntax" = some g) (ht : (Tryz.prog.globals[g]?).map (·.type) = some t)
  (hv : W.var? Tryz.prog "strconv.ErrSyntax" = some cs) (hd : DataW.trod enc Tryz.prog W 0 sp false fuel t cs.toList = some (Rows.laid_strconv_ErrSyntax, q)) : ∃ tp p, W.var? Tryz.prog "strconv.ErrSyntax" = some #[.iface tp p] := by
 obtain rfl := Option.some.inj (Tryz.gSyntax.symm.trans hg)
 obtain rfl := Option.some.inj (Tryz.tSyntax.symm.trans ht)
 obtain ⟨u, v, h⟩ := iface_cells Tryz.underlying62 hd
 exact ⟨u, v, by rw [hv, h]⟩
theorem cells_of_strs {W : World} {t e n fuel : Nat} {cs : List Value} {sp : Nat → Bool} {q : List MemPlace} {enc : TypeId × Value → Unit} {ws : List (List UInt8)} (ht : Tryz.prog.underlying t = some (.array n e)) (he : Tryz.prog.underlying e = some .string) (hce : Tryz.prog.cellsOf e = 1) (hct : Tryz.prog.cellsOf t = n)
  (h : DataW.trod enc Tryz.prog W 0 sp false fuel t cs = some (.agg (ws.map fun w => .lit (.string w)), q)) : cs = ws.map fun w => .string (bs w) := by
 obtain ⟨xs, m, rfl, hx, hlen, hxl, hel⟩ := DataW.trod_array ht h
 simp only [Prod.mk.injEq, DataW.agg.injEq] at hx
 have hwl : ws.length = n := by
  have := congrArg List.length hx.1
  simp at this
  omega
 rw [hct] at hlen
 apply List.ext_getElem?
 intro i
 by_cases hi : i < n
 · have h1 := hel i hi
   rw [hce, Nat.mul_one, List.getElem?_eq_getElem om_] at h1
   obtain ⟨s, hc, hd, _⟩ := DataW.trod_string he h1
   have h2 : cs[i]? = some (.string s) := by
    have := congrArg (·[0]?) hc
    simpa [List.getElem?_take, List.getElem?_drop] using this
   have h3 : (xs.map (·.1))[i]? = some (.lit (.string s.data.toList)) := by
    rw [List.getElem?_map, List.getElem?_eq_getElem om_, hd]; rfl
   rw [← hx.1, List.getElem?_map] at h3
   rw [h2, List.getElem?_map]
   cases hw : ws[i]? with
   | none => simp [hw] at h3
   | some w =>
     simp only [hw, Option.map_some, Option.some.injEq, DataW.lit.injEq, Lit.string.injEq] at h3 ⊢
     rw [h3, bs_ofData]
 · rw [List.getElem?_eq_none om_, List.getElem?_eq_none so_]
theorem size_of {W : World} {name : String} {g : Nat} {cs : Array Value} (hg : Tryz.prog.globalNamed name = some g) (hv : W.var? Tryz.prog name = some cs) : g < W.heap.size := by
 simp only [World.var?, hg, Option.bind_some] at hv
 cases h : W.heap[g]? with
 | none => rw [h] at hv; simp at hv
 | some x => exact blk_lt h
section
variable {H : Type} {enc : TypeId × Value → H} {P : Program} {w : World} {base : Nat} {sp : Nat → Bool} {held : Bool}
def textsV (ls : List (List UInt8)) : Value := .agg (ls.map fun l => Value.string (bs l)).toArray
def textsD (H : Type) (ls : List (List UInt8)) : DataW H := .agg (ls.map fun l => .lit (.string l))
theorem open_texts {r : Reach} {b0 : Nat} {t e : TypeId} {fs : Array Field} {v : Value} {d : DataW H} {p : List MemPlace} (hs : P.underlying t = some (.struct fs)) (hone : Go.Deep.oneCellFields P fs = true) (hC : P.cellsOf t = fs.size)
  (hT : fs.toList.map (·.type) = List.replicate fs.size e) (he : P.underlying e = some .string) (hv : Value.okWide P w r b0 t v) (h : DataW.Trod enc P w base sp held t v d p) :
  ∃ ls : List (List UInt8), ls.length = fs.size ∧ v = textsV ls ∧ d = textsD H ls ∧ p = [] ∧ ∀ l ∈ ls, l.length ≤ maxLen := by
 obtain ⟨cs, rfl, hsz⟩ := okWide_struct hs hv
 obtain ⟨fuel, hf⟩ := h
 obtain ⟨xs, n, _, hx, hl, hlen, hg⟩ := DataW.trod_struct hs hf
 have hcl : cs.toList.length = fs.size := by simpa [Value.cells, hC] using hl
 have key : ∀ i, i < fs.size → ∃ l : List UInt8, cs.toList[i]? = some (.string (bs l)) ∧ xs[i]? = some (.lit (.string l), []) ∧ l.length ≤ maxLen := by
  intro i hi
  have hfi : fs[i]? = some fs[i] := Array.getElem?_eq_getElem hi
  obtain ⟨ho, hk⟩ := Go.Deep.hone_of hone i _ hfi
  have h1 := hg i _ hfi
  have ht : fs[i].type = e := by
   have := congrArg (·[i]?) hT
   simp [hi] at this
   exact this
  rw [ho, hk, ht, List.getElem?_eq_getElem om_] at h1
  obtain ⟨s, hc, hd, hsz⟩ := DataW.trod_string he h1
  refine ⟨s.data.toList, ?_, ?_, hsz⟩
  · rw [bs_ofData]
    have := congrArg (·[0]?) hc
    simpa [Value.cells, List.getElem?_take, List.getElem?_drop] using this
  · rw [List.getElem?_eq_getElem om_, hd]
 obtain ⟨ls, hll, hls⟩ : ∃ ls : List (List UInt8), ls.length = fs.size ∧ ∀ (i : Nat) (l : List UInt8), ls[i]? = some l → cs.toList[i]? = some (.string (bs l)) ∧ xs[i]? = some (.lit (.string l), []) ∧ l.length ≤ maxLen := by
  refine ⟨List.ofFn fun i : Fin fs.size => Classical.choose (key i.1 i.2), by simp, ?_⟩
  intro i l hi
  rw [List.getElem?_ofFn] at hi
  split at hi
  · rename_i hlt
    obtain rfl := Option.some.inj hi
    exact Classical.choose_spec (key i hlt)
  · simp at hi
 have hcs : cs.toList = ls.map fun l => Value.string (bs l) := by
  apply List.ext_getElem?
  intro i
  by_cases hi : i < fs.size
  · have h1 : ls[i]? = some ls[i] := List.getElem?_eq_getElem om_
    rw [(hls i _ h1).1, List.getElem?_map, h1]; rfl
  · rw [List.getElem?_eq_none om_, List.getElem?_eq_none so_]
 have hxs : xs = ls.map fun l => (DataW.lit (.string l), ([] : List MemPlace)) := by
  apply List.ext_getElem?
  intro i
  by_cases hi : i < fs.size
  · have h1 : ls[i]? = some ls[i] := List.getElem?_eq_getElem om_
    rw [(hls i _ h1).2.1, List.getElem?_map, h1]; rfl
  · rw [List.getElem?_eq_none om_, List.getElem?_eq_none so_]
 refine ⟨ls, hll, ?_, ?_, ?_, ?_⟩
 · rw [textsV, ← hcs]
 · have := congrArg Prod.fst hx
   simp only [hxs, List.map_map] at this
   rw [this, textsD]
   rfl
 · have := congrArg Prod.snd hx
   simp only [hxs] at this
   rw [this]
   simp
 · intro l hl
   obtain ⟨i, hi⟩ := List.getElem?_of_mem hl
   exact (hls i l hi).2.2
theorem shut_texts {t e : TypeId} {fs : Array Field} {ls : List (List UInt8)} (hs : P.underlying t = some (.struct fs)) (hone : Go.Deep.oneCellFields P fs = true) (hC : P.cellsOf t = fs.size)
  (hT : fs.toList.map (·.type) = List.replicate fs.size e) (he : P.underlying e = some .string) (hl : ls.length = fs.size) (hm : ∀ l ∈ ls, l.length ≤ maxLen) :
  DataW.Trod enc P w base sp held t (textsV ls) (textsD H ls) [] := by
 have h := trod_struct_mk (enc := enc) (w := w) (base := base) (spare := sp) (held := held) (n := 1) (cs := ls.map fun l => Value.string (bs l)) (xs := ls.map fun l => (DataW.lit (.string l), ([] : List MemPlace))) hs (by simp [hC, hl]) (by
  apply mapM_some_of_get
  · simp [hl]
  · intro i f hf
    have hi : i < fs.size := by
     have := (List.getElem?_eq_some_iff.1 hf).1
     simpa using this
    have hfi : fs[i]? = some f := by simpa using hf
    obtain ⟨ho, hk⟩ := Go.Deep.hone_of hone i _ hfi
    have ht : f.type = e := by
     have := congrArg (·[i]?) hT
     rw [List.getElem?_map, hf, List.getElem?_replicate, if_pos hi] at this
     simpa using this
    have h1 : ls[i]? = some ls[i] := List.getElem?_eq_getElem om_
    rw [ho, hk, ht, List.getElem?_map, h1]
    have h2 : ((ls.map fun l => Value.string (bs l)).drop i).take 1 = [.string (bs ls[i])] := by
     rw [List.drop_eq_getElem_cons so_]
     simp
    rw [h2]
    simp [DataW.trod, he]
    exact hm _ (List.getElem_mem (by omega : i < ls.length)))
 refine ⟨2, ?_⟩
 have e1 : (textsV ls).cells.toList = ls.map fun l => Value.string (bs l) := by simp [textsV, Value.cells]
 rw [e1, h]
 congr 2
 · simp [textsD]
 · simp
theorem sized_texts {ts : List TypeId} {ds : List (DataW H)} {t : TypeId} {fs : Array Field} {ls : List (List UInt8)} (h : (DataW.weightsEach P ts ds).all (· ≤ reachBytes) = true) {j : Nat} (ht : ts[j]? = some t) (hd : ds[j]? = some (textsD H ls)) (hs : P.underlying t = some (.struct fs)) (hl : ls.length = fs.size) :
  ∀ l ∈ ls, l.length ≤ reachBytes := by
 intro l hm
 obtain ⟨i, hi⟩ := List.getElem?_of_mem hm
 have hlt := (List.getElem?_eq_some_iff.1 hi).1
 have h1 : l.length ∈ (textsD H ls).weights P t := by
  simp only [textsD, DataW.weights, hs]
  exact DataW.weights_mem_each (j := i) (t := fs[i].type) (d := .lit (.string l)) (by simp [show i < fs.size by omega]) (by simp [hi]) _ (by simp [DataW.weights])
 have := List.all_eq_true.1 h _ (DataW.weights_mem_each ht hd _ h1)
 simpa using this
end
section
variable {H : Type} {P : Program}
theorem sized_text {ts : List TypeId} {ds : List (DataW H)} {t : TypeId} {s : List UInt8} (h : (DataW.weightsEach P ts ds).all (· ≤ reachBytes) = true) {j : Nat} (ht : ts[j]? = some t) (hd : ds[j]? = some (.lit (.string s))) : s.length ≤ reachBytes := by
 have h1 : s.length ∈ (DataW.lit (.string s) : DataW H).weights P t := by simp [DataW.weights]
 have := List.all_eq_true.1 h _ (DataW.weights_mem_each ht hd _ h1)
 simpa using this
end
theorem texts_of5 {ls : List (List UInt8)} (h : ls.length = 5) : ∃ a b c d e, ls = [a, b, c, d, e] := by
 match ls, h with
 | [a, b, c, d, e], _ => exact ⟨a, b, c, d, e, rfl⟩
end Go.Proofs.YtembdkodajichaaGreatDoor
