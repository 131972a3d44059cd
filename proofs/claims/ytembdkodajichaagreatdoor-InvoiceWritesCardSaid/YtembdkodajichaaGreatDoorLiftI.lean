/- What a law's reading of an invoice, and of the tables, gives the walks. -/
import Derived.Test.YtembdkodajichaaGreatDoorLiftC
import Derived.Test.YtembdkodajichaaGreatDoorLawI2
import Derived.Lay
set_option maxRecDepth 100000
set_option linter.unusedSimpArgs false
set_option linter.unusedVariables false
namespace Go.Proofs.YtembdkodajichaaGreatDoor
open Go.ChangeShapes Go.WideShapes Go.ChangeAt Go.RowKit
theorem Tryz.gTable : Tryz.prog.globalNamed "sluiceway/digest.table" = some 7 := by kernel_rfl
theorem Tryz.tTable : (Tryz.prog.globals[7]?).map (·.type) = some 224 := by kernel_rfl
theorem table_data {H : Type} : (Rows.laid_sluiceway_digest_table : DataW H) = Lib.tabData .u32 kTab := by rfl
theorem table_of {W : World} {g t fuel : Nat} {cs : Array Value} {sp : Nat → Bool} {q : List MemPlace} {enc : TypeId × Value → Unit} (hg : Tryz.prog.globalNamed "sluiceway/digest.table" = some g) (ht : (Tryz.prog.globals[g]?).map (·.type) = some t)
  (hv : W.var? Tryz.prog "sluiceway/digest.table" = some cs) (hd : DataW.trod enc Tryz.prog W 0 sp false fuel t cs.toList = some (Rows.laid_sluiceway_digest_table, q)) : TabOk W := by
 obtain rfl := Option.some.inj (Tryz.gTable.symm.trans hg)
 obtain rfl := Option.some.inj (Tryz.tTable.symm.trans ht)
 rw [table_data] at hd
 have h := Lib.cells_of_tab Tryz.underlying224 Tryz.underlying121 (by kernel_rfl) (by kernel_rfl) hd
 intro j hj
 have hl : j < kTab.length := hj
 rw [World.var?_cell hg hv j, ← Array.getElem?_toList, h, List.getElem?_map, List.getElem?_eq_getElem hl, List.getD_eq_getElem?_getD, List.getElem?_eq_getElem hl]
 rfl
theorem Tryz.gUnits : Tryz.prog.globalNamed "sluiceway/invoice.units" = some 0 := by kernel_rfl
theorem Tryz.tUnits : (Tryz.prog.globals[0]?).map (·.type) = some 54 := by kernel_rfl
theorem two_cells_of {cs : List Value} {i : Nat} {a b : Value} (h : ((cs.drop (i * 2)).take 2) = [a, b]) : cs[2 * i]? = some a ∧ cs[2 * i + 1]? = some b := by
 have h0 := congrArg (·[0]?) h
 have h1 := congrArg (·[1]?) h
 simp only [List.getElem?_take_of_lt (by omega : 0 < 2), List.getElem?_take_of_lt (by omega : 1 < 2), List.getElem?_drop, List.getElem?_cons_zero, List.getElem?_cons_succ] at h0 h1
 rw [Nat.mul_comm 2 i]
 exact ⟨by simpa using h0, h1⟩
theorem unit_of {H : Type} {enc : TypeId × Value → H} {W : World} {base : Nat} {sp : Nat → Bool} {held : Bool} {fuel : Nat} {cs : List Value} {nm : List UInt8} {u : Int} {q : List MemPlace}
  (h : DataW.trod enc Tryz.prog W base sp held fuel 53 cs = some (.agg [.lit (.string nm), .lit (.int .i64 u)], q)) : cs = [.string (bs nm), .int .i64 u] := by
 obtain ⟨xs, n, _, hx, hl, hlen, hg⟩ := DataW.trod_struct Tryz.underlying53 h
 have hc : Tryz.prog.cellsOf 53 = 2 := by kernel_rfl
 have cs1 : Tryz.prog.cellsOf 9 = 1 := by kernel_rfl
 have ci1 : Tryz.prog.cellsOf 2 = 1 := by kernel_rfl
 rw [hc] at hl
 have g0 : DataW.trod enc Tryz.prog W base sp held n 9 (List.take (Tryz.prog.cellsOf 9) (List.drop 0 cs)) = xs[0]? := hg 0 _ rfl
 have g1 : DataW.trod enc Tryz.prog W base sp held n 2 (List.take (Tryz.prog.cellsOf 2) (List.drop 1 cs)) = xs[1]? := hg 1 _ rfl
 match cs, hl with
 | [a, b], _ =>
   match xs, hlen with
   | [x0, x1], _ =>
     rw [cs1] at g0
     rw [ci1] at g1
     obtain ⟨s, e0, q0, _⟩ := DataW.trod_string Tryz.underlying9 g0
     obtain ⟨z, e1, q1, _⟩ := DataW.trod_int Tryz.underlying2 g1
     simp at e0 e1
     subst q0 q1 e0 e1
     simp at hx
     obtain ⟨⟨h1, h2⟩, _⟩ := hx
     rw [h1, h2, bs_ofData]
theorem units_of {W : World} {g t fuel : Nat} {cs : Array Value} {sp : Nat → Bool} {q : List MemPlace} {enc : TypeId × Value → Unit} (hg : Tryz.prog.globalNamed "sluiceway/invoice.units" = some g) (ht : (Tryz.prog.globals[g]?).map (·.type) = some t)
  (hv : W.var? Tryz.prog "sluiceway/invoice.units" = some cs) (hd : DataW.trod enc Tryz.prog W 0 sp false fuel t cs.toList = some (Rows.laid_sluiceway_invoice_units, q)) : UnitsOk W := by
 obtain rfl := Option.some.inj (Tryz.gUnits.symm.trans hg)
 obtain rfl := Option.some.inj (Tryz.tUnits.symm.trans ht)
 obtain ⟨xs, m, _, hx, _, hxl, hel⟩ := DataW.trod_array Tryz.underlying54 hd
 have hc : Tryz.prog.cellsOf 53 = 2 := by kernel_rfl
 have hx1 : xs.map (·.1) = [.agg [.lit (.string []), .lit (.int .i64 100000000000)], .agg [.lit (.string [109]), .lit (.int .i64 100000000)], .agg [.lit (.string [117]), .lit (.int .i64 100000)], .agg [.lit (.string [110]), .lit (.int .i64 100)]] := (DataW.agg.inj (Prod.mk.inj hx).1).symm
 have key : ∀ (i : Nat) (nm : List UInt8) (u : Int), i < 4 → (xs.map (·.1))[i]? = some (.agg [.lit (.string nm), .lit (.int .i64 u)]) → cs[2 * i]? = some (.string (bs nm)) ∧ cs[2 * i + 1]? = some (.int .i64 u) := by
  intro i nm u hi hm
  have hE := hel i hi
  rw [hc, List.getElem?_eq_getElem om_] at hE
  rw [List.getElem?_map, List.getElem?_eq_getElem om_] at hm
  have hq : xs[i] = (.agg [.lit (.string nm), .lit (.int .i64 u)], xs[i].2) := by
   have := Option.some.inj hm
   rw [← this]
  rw [hq] at hE
  have := two_cells_of (unit_of hE)
  rw [← Array.getElem?_toList, ← Array.getElem?_toList]
  exact this
 have k0 := key 0 _ _ om_ (by rw [hx1]; rfl)
 have k1 := key 1 _ _ om_ (by rw [hx1]; rfl)
 have k2 := key 2 _ _ om_ (by rw [hx1]; rfl)
 have k3 := key 3 _ _ om_ (by rw [hx1]; rfl)
 intro j hj
 rw [World.var?_cell hg hv j]
 rcases (by omega : j = 0 ∨ j = 1 ∨ j = 2 ∨ j = 3 ∨ j = 4 ∨ j = 5 ∨ j = 6 ∨ j = 7) with rfl | rfl | rfl | rfl | rfl | rfl | rfl | rfl
 · exact k0.1
 · exact k0.2
 · exact k1.1
 · exact k1.2
 · exact k2.1
 · exact k2.2
 · exact k3.1
 · exact k3.2
section
variable {H : Type} {enc : TypeId × Value → H} {w : World} {base : Nat} {sp : Nat → Bool} {held : Bool}
def invD (H : Type) (x : Inv) : DataW H := .agg [.lit (.int .i64 x.am), .lit (.int .i64 x.st), .lit (.string x.hash), .lit (.string x.payee), .lit (.string x.memo), .lit (.int .i64 x.ex), .lit (.int .i64 x.de), .lit (.string x.sig)]
structure InvWf (x : Inv) : Prop where
 am : (Lit.int .i64 x.am).wf = true
 st : (Lit.int .i64 x.st).wf = true
 ex : (Lit.int .i64 x.ex).wf = true
 de : (Lit.int .i64 x.de).wf = true
 hash : x.hash.length ≤ maxLen
 payee : x.payee.length ≤ maxLen
 memo : x.memo.length ≤ maxLen
 sig : x.sig.length ≤ maxLen
theorem open_inv {r : Reach} {b0 : Nat} {v : Value} {d : DataW H} {p : List MemPlace} (hv : Value.okWide Tryz.prog w r b0 31 v) (h : DataW.Trod enc Tryz.prog w base sp held 31 v d p) :
  ∃ x : Inv, v = invV x ∧ d = invD H x ∧ p = [] ∧ InvWf x := by
 obtain ⟨cs, rfl, hsz⟩ := okWide_struct Tryz.underlying31 hv
 obtain ⟨fuel, hf⟩ := h
 obtain ⟨xs, n, _, hx, hl, hlen, hg⟩ := DataW.trod_struct Tryz.underlying31 hf
 have hc : Tryz.prog.cellsOf 31 = 8 := by kernel_rfl
 have cs1 : Tryz.prog.cellsOf 9 = 1 := by kernel_rfl
 have ct1 : Tryz.prog.cellsOf 29 = 1 := by kernel_rfl
 have ci1 : Tryz.prog.cellsOf 2 = 1 := by kernel_rfl
 have cn1 : Tryz.prog.cellsOf 3 = 1 := by kernel_rfl
 rw [hc] at hl
 have hl2 : cs.toList.length = 8 := hl
 have hcc : (Value.agg cs).cells.toList = cs.toList := rfl
 rw [hcc] at hg
 have g0 : DataW.trod enc Tryz.prog w base sp held n 2 (List.take (Tryz.prog.cellsOf 2) (List.drop 0 cs.toList)) = xs[0]? := hg 0 _ rfl
 rw [ci1] at g0
 have g1 : DataW.trod enc Tryz.prog w base sp held n 2 (List.take (Tryz.prog.cellsOf 2) (List.drop 1 cs.toList)) = xs[1]? := hg 1 _ rfl
 rw [ci1] at g1
 have g2 : DataW.trod enc Tryz.prog w base sp held n 29 (List.take (Tryz.prog.cellsOf 29) (List.drop 2 cs.toList)) = xs[2]? := hg 2 _ rfl
 rw [ct1] at g2
 have g3 : DataW.trod enc Tryz.prog w base sp held n 29 (List.take (Tryz.prog.cellsOf 29) (List.drop 3 cs.toList)) = xs[3]? := hg 3 _ rfl
 rw [ct1] at g3
 have g4 : DataW.trod enc Tryz.prog w base sp held n 9 (List.take (Tryz.prog.cellsOf 9) (List.drop 4 cs.toList)) = xs[4]? := hg 4 _ rfl
 rw [cs1] at g4
 have g5 : DataW.trod enc Tryz.prog w base sp held n 2 (List.take (Tryz.prog.cellsOf 2) (List.drop 5 cs.toList)) = xs[5]? := hg 5 _ rfl
 rw [ci1] at g5
 have g6 : DataW.trod enc Tryz.prog w base sp held n 3 (List.take (Tryz.prog.cellsOf 3) (List.drop 6 cs.toList)) = xs[6]? := hg 6 _ rfl
 rw [cn1] at g6
 have g7 : DataW.trod enc Tryz.prog w base sp held n 29 (List.take (Tryz.prog.cellsOf 29) (List.drop 7 cs.toList)) = xs[7]? := hg 7 _ rfl
 rw [ct1] at g7
 obtain ⟨cl⟩ := cs
 simp only at hl2 g0 g1 g2 g3 g4 g5 g6 g7
 match cl, hl2 with
 | [a0, a1, a2, a3, a4, a5, a6, a7], _ =>
   match xs, hlen with
   | [x0, x1, x2, x3, x4, x5, x6, x7], _ =>
     obtain ⟨z0, e0, q0, w0⟩ := DataW.trod_int Tryz.underlying2 g0
     obtain ⟨z1, e1, q1, w1⟩ := DataW.trod_int Tryz.underlying2 g1
     obtain ⟨s2, e2, q2, w2⟩ := DataW.trod_string Tryz.underlying29 g2
     obtain ⟨s3, e3, q3, w3⟩ := DataW.trod_string Tryz.underlying29 g3
     obtain ⟨s4, e4, q4, w4⟩ := DataW.trod_string Tryz.underlying9 g4
     obtain ⟨z5, e5, q5, w5⟩ := DataW.trod_int Tryz.underlying2 g5
     obtain ⟨z6, e6, q6, w6⟩ := DataW.trod_int Tryz.underlying3 g6
     obtain ⟨s7, e7, q7, w7⟩ := DataW.trod_string Tryz.underlying29 g7
     simp at e0 e1 e2 e3 e4 e5 e6 e7
     subst q0 q1 q2 q3 q4 q5 q6 q7 e0 e1 e2 e3 e4 e5 e6 e7
     refine ⟨⟨z0, z1, s2.data.toList, s3.data.toList, s4.data.toList, z5, z6, s7.data.toList⟩, ?_, ?_, ?_, w0, w1, w5, w6, w2, w3, w4, w7⟩
     · simp only [invV, bs_ofData]
     · exact (Prod.mk.inj hx).1
     · exact (Prod.mk.inj hx).2
theorem shut_inv {x : Inv} (h : InvWf x) : DataW.Trod enc Tryz.prog w base sp held 31 (invV x) (invD H x) [] := by
 have hc : Tryz.prog.cellsOf 31 = 8 := by kernel_rfl
 have cs1 : Tryz.prog.cellsOf 9 = 1 := by kernel_rfl
 have ct1 : Tryz.prog.cellsOf 29 = 1 := by kernel_rfl
 have ci1 : Tryz.prog.cellsOf 2 = 1 := by kernel_rfl
 have cn1 : Tryz.prog.cellsOf 3 = 1 := by kernel_rfl
 have hi : ∀ z : Int, (Lit.int .i64 z).wf = true → DataW.trod enc Tryz.prog w base sp held 1 2 [.int .i64 z] = some (.lit (.int .i64 z), []) := fun z hz => by simp [DataW.trod, Tryz.underlying2, hz]
 have hn : ∀ z : Int, (Lit.int .i64 z).wf = true → DataW.trod enc Tryz.prog w base sp held 1 3 [.int .i64 z] = some (.lit (.int .i64 z), []) := fun z hz => by simp [DataW.trod, Tryz.underlying3, hz]
 have ht : ∀ l : List UInt8, l.length ≤ maxLen → DataW.trod enc Tryz.prog w base sp held 1 29 [.string (bs l)] = some (.lit (.string l), []) := fun l hl => by simp [DataW.trod, Tryz.underlying29, bs_size, bs_data, hl]
 have hs : ∀ l : List UInt8, l.length ≤ maxLen → DataW.trod enc Tryz.prog w base sp held 1 9 [.string (bs l)] = some (.lit (.string l), []) := fun l hl => by simp [DataW.trod, Tryz.underlying9, bs_size, bs_data, hl]
 refine ⟨2, ?_⟩
 have e := trod_struct_mk (enc := enc) (w := w) (base := base) (spare := sp) (held := held) (n := 1) (t := 31) (cs := (invC x).toList) (xs := [(.lit (.int .i64 x.am), []), (.lit (.int .i64 x.st), []), (.lit (.string x.hash), []), (.lit (.string x.payee), []), (.lit (.string x.memo), []), (.lit (.int .i64 x.ex), []), (.lit (.int .i64 x.de), []), (.lit (.string x.sig), [])]) Tryz.underlying31 (by rw [hc]; rfl) (by
  simp [cs1, ct1, ci1, cn1, invC, hi _ h.am, hi _ h.st, ht _ h.hash, ht _ h.payee, hs _ h.memo, hi _ h.ex, hn _ h.de, ht _ h.sig])
 exact e
theorem sized_inv {ts : List TypeId} {ds : List (DataW H)} {x : Inv} (h : (DataW.weightsEach Tryz.prog ts ds).all (· ≤ reachBytes) = true) {j : Nat} (ht : ts[j]? = some 31) (hd : ds[j]? = some (invD H x)) (hw : InvWf x) : InvBig x := by
 have hr : reachBytes ≤ 140737488355328 := by decide
 have key : ∀ (i : Nat) (l : List UInt8) (t : TypeId), ([2, 2, 29, 29, 9, 2, 3, 29] : List TypeId)[i]? = some t → ([.lit (.int .i64 x.am), .lit (.int .i64 x.st), .lit (.string x.hash), .lit (.string x.payee), .lit (.string x.memo), .lit (.int .i64 x.ex), .lit (.int .i64 x.de), .lit (.string x.sig)] : List (DataW H))[i]? = some (.lit (.string l)) → l.length ≤ 140737488355328 := by
  intro i l t hti hdi
  have h1 : l.length ∈ (invD H x).weights Tryz.prog 31 := by
   simp only [invD, DataW.weights, Tryz.underlying31]
   exact DataW.weights_mem_each (j := i) (t := t) (d := .lit (.string l)) (by simpa using hti) hdi _ (by simp [DataW.weights])
  have := List.all_eq_true.1 h _ (DataW.weights_mem_each ht hd _ h1)
  have h2 : l.length ≤ reachBytes := by simpa using this
  omega
 have wf : ∀ z : Int, (Lit.int .i64 z).wf = true → -9223372036854775808 ≤ z ∧ z ≤ 9223372036854775807 := fun z hz => by
  simp only [Lit.wf, Bool.and_eq_true, decide_eq_true_eq] at hz
  exact hz
 exact ⟨(wf _ hw.am).1, (wf _ hw.am).2, (wf _ hw.st).1, (wf _ hw.st).2, (wf _ hw.ex).1, (wf _ hw.ex).2, (wf _ hw.de).1, (wf _ hw.de).2, key 2 _ _ rfl rfl, key 3 _ _ rfl rfl, key 4 _ _ rfl rfl, key 7 _ _ rfl rfl⟩
end
end Go.Proofs.YtembdkodajichaaGreatDoor
