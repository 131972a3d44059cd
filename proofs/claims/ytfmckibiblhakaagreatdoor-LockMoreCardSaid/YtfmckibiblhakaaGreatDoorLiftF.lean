/- What a law's reading of a witness gives the walks. -/
import Derived.Test.YtfmckibiblhakaaGreatDoorLiftE
import Derived.Test.YtfmckibiblhakaaGreatDoorLockV
set_option linter.unusedSimpArgs false
set_option linter.unusedVariables false
namespace Go.Proofs.YtfmckibiblhakaaGreatDoor
open Go.ChangeShapes Go.WideShapes Go.ChangeAt Go.RowKit

theorem list_of_fun2 {α : Type} (n : Nat) (R : Nat → α → Prop) (h : ∀ i, i < n → ∃ x, R i x) : ∃ l : List α, l.length = n ∧ ∀ i x, l[i]? = some x → R i x := by
  refine ⟨List.ofFn fun i : Fin n => Classical.choose (h i.1 i.2), by simp, ?_⟩
  intro i x hi
  rw [List.getElem?_ofFn] at hi
  split at hi
  · rename_i hlt
    obtain rfl := Option.some.inj hi
    exact Classical.choose_spec (h i hlt)
  · simp at hi

section
variable {H : Type} {enc : TypeId × Value → H} {P : Program} {w : World} {base : Nat} {sp : Nat → Bool} {held : Bool}
/-- A row of terms is opened. -/
theorem open_terms {T e : TypeId} (hs : P.underlying T = some (.slice e)) (he : P.underlying e = some .string) (hC : P.cellsOf e = 1) (hB : P.bytesOf e = 16) {fuel : Nat} {v : Value} {x : DataW H × List MemPlace}
    (h : DataW.trod enc P w base sp held fuel T [v] = some x) (hw : ∀ n ∈ x.1.weights P T, n ≤ reachBytes) :
    ∃ (ad : Option Addr) (c : Nat) (ts : List (List UInt8)), v = .slice ad ts.length c ∧ TermsAt (.slice ad ts.length c) ts w ∧ ts.length ≤ 9000000000000000000 ∧ ∀ t ∈ ts, t.length ≤ 9000000000000000000 := by
  rcases DataW.trod_slice hs h with ⟨e3, rfl⟩ | ⟨a, len, cap, elems, rest, n', rfl, e3, rfl, hb, hl, hcap, hel, hat, _, _⟩
  · simp at e3
    subst e3
    exact ⟨none, 0, [], rfl, .inl ⟨none, 0, rfl, rfl⟩, by simp, by simp⟩
  · simp at e3
    subst e3
    have hR : reachBytes ≤ 9000000000000000000 := by decide
    have hlen : len ≤ 9000000000000000000 := by
      have h1 : (elems.length + rest.length) * 16 ≤ reachBytes := by
        refine hw _ ?_
        simp only [DataW.weights, hs, hB, List.length_map]
        exact List.mem_cons_self
      omega
    have key : ∀ i, i < len → ∃ t : List UInt8, w.cell? (a.add (i * 1)) = some (.string (bs t)) ∧ t.length ≤ 9000000000000000000 := by
      intro i hi
      have h1 := hat i hi
      have h2 : elems[i]? = some elems[i] := List.getElem?_eq_getElem (by omega)
      rw [h2, Option.bind_eq_some_iff] at h1
      obtain ⟨cs', hc1, hc2⟩ := h1
      rw [hC] at hc1
      obtain ⟨_, _, hcells⟩ := World.cells?_some hc1
      obtain ⟨s, e4, e5, hsz⟩ := DataW.trod_string he hc2
      subst e4
      refine ⟨s.data.toList, ?_, ?_⟩
      · have := hcells 0 (by omega)
        rw [bs_ofData]
        simpa [Addr.add] using this
      · refine Nat.le_trans (hw _ ?_) hR
        simp only [DataW.weights, hs]
        refine List.mem_cons_of_mem _ (List.mem_append_left _ (weightsAll_mem (List.mem_map_of_mem (List.getElem_mem (show i < elems.length by omega))) _ ?_))
        rw [e5]
        simp [DataW.weights]
    by_cases hz : len = 0
    · subst hz
      exact ⟨some a, cap, [], rfl, .inl ⟨some a, cap, rfl, rfl⟩, by simp, by simp⟩
    · obtain ⟨t0, z0, _⟩ := key 0 (by omega)
      obtain ⟨hblk, hspot⟩ := cell_blk z0
      obtain ⟨b, o, spt⟩ := a
      simp [Addr.add] at hspot hblk
      subst hspot
      obtain ⟨ts, hll, hts⟩ := list_of_fun2 len (fun i t => w.cell? ((⟨b, o, none⟩ : Addr).add (i * 1)) = some (.string (bs t)) ∧ t.length ≤ 9000000000000000000) key
      subst hll
      refine ⟨_, cap, ts, rfl, .inr ⟨b, o, cap, rfl, hblk, fun i t hi => ?_⟩, hlen, fun t ht => ?_⟩
      · have := (hts i t hi).1
        rw [addr_add, Nat.mul_one] at this
        exact this
      · obtain ⟨i, hi⟩ := List.getElem?_of_mem ht
        exact (hts i t hi).2
/-- A witness is opened. -/
theorem open_wit {b0 : Nat} {r : Reach} {T e : TypeId} {f0 f1 : Field} (hs : P.underlying T = some (.struct #[f0, f1])) (hO : Go.Deep.oneCellFields P #[f0, f1] = true) (hC2 : P.cellsOf T = 2)
    (a0 : P.underlying f0.type = some (.slice e)) (a1 : P.underlying f1.type = some (.slice e)) (he : P.underlying e = some .string) (hC : P.cellsOf e = 1) (hB : P.bytesOf e = 16)
    {v : Value} {d : DataW H} {p : List MemPlace} (hv : Value.okWide P w r b0 T v) (h : DataW.Trod enc P w base sp held T v d p) (hw : ∀ n ∈ d.weights P T, n ≤ reachBytes) :
    ∃ (sa pa : Option Addr) (sc pc : Nat) (sigs pres : List (List UInt8)), v = .agg #[.slice sa sigs.length sc, .slice pa pres.length pc] ∧ TermsAt (.slice sa sigs.length sc) sigs w ∧ TermsAt (.slice pa pres.length pc) pres w ∧
      sigs.length ≤ 9000000000000000000 ∧ pres.length ≤ 9000000000000000000 ∧ (∀ t ∈ sigs, t.length ≤ 9000000000000000000) ∧ ∀ t ∈ pres, t.length ≤ 9000000000000000000 := by
  obtain ⟨cs, rfl, _⟩ := okWide_struct hs hv
  obtain ⟨fuel, hf⟩ := h
  obtain ⟨xs, n, rfl, hx, hcl, hlen, hg⟩ := DataW.trod_struct hs hf
  rw [hC2] at hcl
  have hcs : ∃ c0 c1, cs = #[c0, c1] := by
    obtain ⟨l⟩ := cs
    simp [Value.cells] at hcl
    match l, hcl with
    | [c0, c1], _ => exact ⟨c0, c1, rfl⟩
  obtain ⟨c0, c1, rfl⟩ := hcs
  match xs, hlen with
  | [x0, x1], _ =>
    have h0 := hg 0 _ rfl
    have h1 := hg 1 _ rfl
    obtain ⟨o0, q0⟩ := Go.Deep.hone_of hO 0 _ rfl
    obtain ⟨o1, q1⟩ := Go.Deep.hone_of hO 1 _ rfl
    rw [o0, q0] at h0
    rw [o1, q1] at h1
    have hd := congrArg Prod.fst hx
    simp only [List.map_cons, List.map_nil] at hd
    subst hd
    obtain ⟨sa, sc, sigs, rfl, hS, hn, ht⟩ := open_terms a0 he hC hB (v := c0) (by simpa [Value.cells] using h0) (fun n hn => by
      refine hw _ ?_
      simp only [DataW.weights, hs]
      exact DataW.weights_mem_each (j := 0) (t := f0.type) (d := x0.1) rfl rfl _ hn)
    obtain ⟨pa, pc, pres, rfl, hP, hn2, ht2⟩ := open_terms a1 he hC hB (v := c1) (by simpa [Value.cells] using h1) (fun n hn => by
      refine hw _ ?_
      simp only [DataW.weights, hs]
      exact DataW.weights_mem_each (j := 1) (t := f1.type) (d := x1.1) rfl rfl _ hn)
    exact ⟨sa, pa, sc, pc, sigs, pres, rfl, hS, hP, hn, hn2, ht, ht2⟩
end
end Go.Proofs.YtfmckibiblhakaaGreatDoor
