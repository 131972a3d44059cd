/- What a law's reading of an invoice, and of the tables, gives the walks. -/
import Derived.Test.YtembdkodajichaaGreatDoorMTerm
import Derived.ProofKit
import Derived.LaidMore
import Derived.OpenShut
import Derived.Stop.Joined
import Derived.LaidLaws
import Derived.Lib.SmallJoins
import Derived.SizedLaws
import Derived.DataShut
import Derived.Test.YtembdkodajichaaGreatDoorLawI2
import Derived.Lay
set_option linter.unusedSimpArgs false
set_option linter.unusedVariables false
set_option maxRecDepth 100000
namespace Go.Proofs.YtembdkodajichaaGreatDoor
open Go.ChangeShapes Go.WideShapes Go.ChangeAt Go.RowKit
theorem Tryz.own : ownKnob Tryz.prog.godebug = none := by kernel_rfl
theorem Tryz.tPow : (Tryz.prog.globals[1]?).map (·.type) = some 178 := by kernel_rfl
theorem Tryz.tRange : (Tryz.prog.globals[3]?).map (·.type) = some 62 := by kernel_rfl
theorem Tryz.tSyntax : (Tryz.prog.globals[2]?).map (·.type) = some 62 := by kernel_rfl
theorem zs4_ {H : Type} : (Rows.laid_internal_strconv_uint64pow10 : DataW H) = Lib.tabData .u64 Lib.pow10Tab := by rfl
theorem zs5_ {W : World} {g t fuel : Nat} {cs : Array Value} {sp : Nat → Bool} {q : List MemPlace} {enc : TypeId × Value → Unit} (hg : Tryz.prog.globalNamed "internal/strconv.uint64pow10" = some g) (ht : (Tryz.prog.globals[g]?).map (·.type) = some t)
  (hv : W.var? Tryz.prog "internal/strconv.uint64pow10" = some cs) (hd : DataW.trod enc Tryz.prog W 0 sp false fuel t cs.toList = some (Rows.laid_internal_strconv_uint64pow10, q)) :
  Lib.TabIs Tryz.prog W "internal/strconv.uint64pow10" .u64 Lib.pow10Tab := by
 obtain rfl := Option.some.inj (Tryz.gPow.symm.trans hg)
 obtain rfl := Option.some.inj (Tryz.tPow.symm.trans ht)
 rw [zs4_] at hd
 unfold Lib.TabIs
 rw [hv, ← Lib.cells_of_tab Tryz.underlying178 Tryz.underlying108 (by kernel_rfl) (by kernel_rfl) hd]
theorem zkX_ {W : World} {t fuel : Nat} {cs : Array Value} {sp : Nat → Bool} {q : List MemPlace} {enc : TypeId × Value → Unit} {nm : String} {d : DataW Unit} {ms : Array (String × TypeId)} (hi : Tryz.prog.underlying t = some (.interface ms))
  (hd : DataW.trod enc Tryz.prog W 0 sp false fuel t cs.toList = some (.iface nm d, q)) : ∃ u v, cs = #[.iface u v] := by
 obtain ⟨_, u, v, h, _⟩ := iface_of_trod hi hd
 exact ⟨u, v, by cases cs; simp only at h; subst h; rfl⟩
theorem zs6_ {W : World} {g t fuel : Nat} {cs : Array Value} {sp : Nat → Bool} {q : List MemPlace} {enc : TypeId × Value → Unit} (hg : Tryz.prog.globalNamed "strconv.ErrRange" = some g) (ht : (Tryz.prog.globals[g]?).map (·.type) = some t)
  (hv : W.var? Tryz.prog "strconv.ErrRange" = some cs) (hd : DataW.trod enc Tryz.prog W 0 sp false fuel t cs.toList = some (Rows.laid_strconv_ErrRange, q)) : ∃ tp p, W.var? Tryz.prog "strconv.ErrRange" = some #[.iface tp p] := by
 obtain rfl := Option.some.inj (Tryz.gRange.symm.trans hg)
 obtain rfl := Option.some.inj (Tryz.tRange.symm.trans ht)
 obtain ⟨u, v, h⟩ := zkX_ Tryz.underlying62 hd
 exact ⟨u, v, by rw [hv, h]⟩
theorem zs7_ {W : World} {g t fuel : Nat} {cs : Array Value} {sp : Nat → Bool} {q : List MemPlace} {enc : TypeId × Value → Unit} (hg : Tryz.prog.globalNamed "strconv.ErrSyntax" = some g) (ht : (Tryz.prog.globals[g]?).map (·.type) = some t)
  (hv : W.var? Tryz.prog "strconv.ErrSyntax" = some cs) (hd : DataW.trod enc Tryz.prog W 0 sp false fuel t cs.toList = some (Rows.laid_strconv_ErrSyntax, q)) : ∃ tp p, W.var? Tryz.prog "strconv.ErrSyntax" = some #[.iface tp p] := by
 obtain rfl := Option.some.inj (Tryz.gSyntax.symm.trans hg)
 obtain rfl := Option.some.inj (Tryz.tSyntax.symm.trans ht)
 obtain ⟨u, v, h⟩ := zkX_ Tryz.underlying62 hd
 exact ⟨u, v, by rw [hv, h]⟩
theorem zs8_ {W : World} {name : String} {g : Nat} {cs : Array Value} (hg : Tryz.prog.globalNamed name = some g) (hv : W.var? Tryz.prog name = some cs) : g < W.heap.size := by
 simp only [World.var?, hg, Option.bind_some] at hv
 cases h : W.heap[g]? with
 | none => rw [h] at hv; simp at hv
 | some x => exact z4_ h
section
variable {H : Type} {enc : TypeId × Value → H} {P : Program} {w : World} {base : Nat} {sp : Nat → Bool} {held : Bool}
end
section
variable {H : Type} {P : Program}
theorem zs9_ {ts : List TypeId} {ds : List (DataW H)} {t : TypeId} {s : List UInt8} (h : (DataW.weightsEach P ts ds).all (· ≤ reachBytes) = true) {j : Nat} (ht : ts[j]? = some t) (hd : ds[j]? = some (.lit (.string s))) : s.length ≤ reachBytes := by
 have h1 : s.length ∈ (DataW.lit (.string s) : DataW H).weights P t := by simp [DataW.weights]
 have := List.all_eq_true.1 h _ (DataW.weights_mem_each ht hd _ h1)
 simpa using this
end
theorem Tryz.gTable : Tryz.prog.globalNamed "sluiceway/digest.table" = some 7 := by kernel_rfl
theorem Tryz.tTable : (Tryz.prog.globals[7]?).map (·.type) = some 224 := by kernel_rfl
theorem zta_ {H : Type} : (Rows.laid_sluiceway_digest_table : DataW H) = Lib.tabData .u32 kTab := by rfl
theorem ztb_ {W : World} {g t fuel : Nat} {cs : Array Value} {sp : Nat → Bool} {q : List MemPlace} {enc : TypeId × Value → Unit} (hg : Tryz.prog.globalNamed "sluiceway/digest.table" = some g) (ht : (Tryz.prog.globals[g]?).map (·.type) = some t)
  (hv : W.var? Tryz.prog "sluiceway/digest.table" = some cs) (hd : DataW.trod enc Tryz.prog W 0 sp false fuel t cs.toList = some (Rows.laid_sluiceway_digest_table, q)) : zcz_ W := by
 obtain rfl := Option.some.inj (Tryz.gTable.symm.trans hg)
 obtain rfl := Option.some.inj (Tryz.tTable.symm.trans ht)
 rw [zta_] at hd
 have h := Lib.cells_of_tab Tryz.underlying224 Tryz.underlying121 (by kernel_rfl) (by kernel_rfl) hd
 intro j hj
 have hl : j < kTab.length := hj
 rw [World.var?_cell hg hv j, ← Array.getElem?_toList, h, List.getElem?_map, List.getElem?_eq_getElem hl, List.getD_eq_getElem?_getD, List.getElem?_eq_getElem hl]
 rfl
theorem Tryz.gUnits : Tryz.prog.globalNamed "sluiceway/invoice.units" = some 0 := by kernel_rfl
theorem Tryz.tUnits : (Tryz.prog.globals[0]?).map (·.type) = some 54 := by kernel_rfl
theorem ztc_ {cs : List Value} {i : Nat} {a b : Value} (h : ((cs.drop (i * 2)).take 2) = [a, b]) : cs[2 * i]? = some a ∧ cs[2 * i + 1]? = some b := by
 have h0 := congrArg (·[0]?) h
 have h1 := congrArg (·[1]?) h
 simp only [List.getElem?_take_of_lt (by omega : 0 < 2), List.getElem?_take_of_lt (by omega : 1 < 2), List.getElem?_drop, List.getElem?_cons_zero, List.getElem?_cons_succ] at h0 h1
 rw [Nat.mul_comm 2 i]
 exact ⟨by simpa using h0, h1⟩
theorem ztd_ {H : Type} {enc : TypeId × Value → H} {W : World} {base : Nat} {sp : Nat → Bool} {held : Bool} {fuel : Nat} {cs : List Value} {nm : List UInt8} {u : Int} {q : List MemPlace}
  (h : DataW.trod enc Tryz.prog W base sp held fuel 53 cs = some (.agg [.lit (.string nm), .lit (.int .i64 u)], q)) : cs = [.string (bs nm), .int .i64 u] := by
 obtain ⟨xs, n, _, hx, hl, hlen, hg⟩ := DataW.trod_struct Tryz.underlying53 h
 have hc : Tryz.prog.cellsOf 53 = 2 := by kernel_rfl
 have cs1 : Tryz.prog.cellsOf 9 = 1 := by kernel_rfl
 have ci1 : Tryz.prog.cellsOf 2 = 1 := by kernel_rfl
 rw [hc] at hl
 have g0 : DataW.trod enc Tryz.prog W base sp held n 9 (List.take (Tryz.prog.cellsOf 9) (List.drop 0 cs)) = xs[0]? := hg 0 _ rfl
 have g1 : DataW.trod enc Tryz.prog W base sp held n 2 (List.take (Tryz.prog.cellsOf 2) (List.drop 1 cs)) = xs[1]? := hg 1 _ rfl
 match cs, hl with
 | [a, b], _ =>
   match xs, hlen with
   | [x0, x1], _ =>
     rw [cs1] at g0
     rw [ci1] at g1
     obtain ⟨s, e0, q0, _⟩ := DataW.trod_string Tryz.underlying9 g0
     obtain ⟨z, e1, q1, _⟩ := DataW.trod_int Tryz.underlying2 g1
     simp at e0 e1
     subst q0 q1 e0 e1
     simp at hx
     obtain ⟨⟨h1, h2⟩, _⟩ := hx
     rw [h1, h2, zhM_]
theorem zte_ {W : World} {g t fuel : Nat} {cs : Array Value} {sp : Nat → Bool} {q : List MemPlace} {enc : TypeId × Value → Unit} (hg : Tryz.prog.globalNamed "sluiceway/invoice.units" = some g) (ht : (Tryz.prog.globals[g]?).map (·.type) = some t)
  (hv : W.var? Tryz.prog "sluiceway/invoice.units" = some cs) (hd : DataW.trod enc Tryz.prog W 0 sp false fuel t cs.toList = some (Rows.laid_sluiceway_invoice_units, q)) : zcs_ W := by
 obtain rfl := Option.some.inj (Tryz.gUnits.symm.trans hg)
 obtain rfl := Option.some.inj (Tryz.tUnits.symm.trans ht)
 obtain ⟨xs, m, _, hx, _, hxl, hel⟩ := DataW.trod_array Tryz.underlying54 hd
 have hc : Tryz.prog.cellsOf 53 = 2 := by kernel_rfl
 have hx1 : xs.map (·.1) = [.agg [.lit (.string []), .lit (.int .i64 100000000000)], .agg [.lit (.string [109]), .lit (.int .i64 100000000)], .agg [.lit (.string [117]), .lit (.int .i64 100000)], .agg [.lit (.string [110]), .lit (.int .i64 100)]] := (DataW.agg.inj (Prod.mk.inj hx).1).symm
 have key : ∀ (i : Nat) (nm : List UInt8) (u : Int), i < 4 → (xs.map (·.1))[i]? = some (.agg [.lit (.string nm), .lit (.int .i64 u)]) → cs[2 * i]? = some (.string (bs nm)) ∧ cs[2 * i + 1]? = some (.int .i64 u) := by
  intro i nm u hi hm
  have hE := hel i hi
  rw [hc, List.getElem?_eq_getElem om_] at hE
  rw [List.getElem?_map, List.getElem?_eq_getElem om_] at hm
  have hq : xs[i] = (.agg [.lit (.string nm), .lit (.int .i64 u)], xs[i].2) := by
   have := Option.some.inj hm
   rw [← this]
  rw [hq] at hE
  have := ztc_ (ztd_ hE)
  rw [← Array.getElem?_toList, ← Array.getElem?_toList]
  exact this
 have k0 := key 0 _ _ om_ (by rw [hx1]; rfl)
 have k1 := key 1 _ _ om_ (by rw [hx1]; rfl)
 have k2 := key 2 _ _ om_ (by rw [hx1]; rfl)
 have k3 := key 3 _ _ om_ (by rw [hx1]; rfl)
 intro j hj
 rw [World.var?_cell hg hv j]
 rcases (by omega : j = 0 ∨ j = 1 ∨ j = 2 ∨ j = 3 ∨ j = 4 ∨ j = 5 ∨ j = 6 ∨ j = 7) with rfl | rfl | rfl | rfl | rfl | rfl | rfl | rfl
 · exact k0.1
 · exact k0.2
 · exact k1.1
 · exact k1.2
 · exact k2.1
 · exact k2.2
 · exact k3.1
 · exact k3.2
section
variable {H : Type} {enc : TypeId × Value → H} {w : World} {base : Nat} {sp : Nat → Bool} {held : Bool}
end
end Go.Proofs.YtembdkodajichaaGreatDoor
