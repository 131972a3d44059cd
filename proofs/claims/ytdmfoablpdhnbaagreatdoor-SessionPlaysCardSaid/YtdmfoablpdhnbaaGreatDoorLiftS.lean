/- What a law's reading of a row of calls gives the walks. -/
import Derived.Test.YtdmfoablpdhnbaaGreatDoorPlH
import Derived.Test.YtdmfoablpdhnbaaGreatDoorLiftBn
import Derived.Deep.Slices
import Derived.Deep.Fields
import Derived.ChangeSame
import Derived.Carry
set_option linter.unusedSimpArgs false
set_option linter.unusedVariables false
namespace Go.Proofs.YtdmfoablpdhnbaaGreatDoor
open Go.ChangeShapes Go.WideShapes Go.ChangeAt Go.RowKit

theorem weightsAll_in {H : Type} {P : Program} {e : TypeId} : ∀ {l : List (DataW H)} {d : DataW H}, d ∈ l → ∀ n ∈ d.weights P e, n ∈ DataW.weightsAll P e l
  | d' :: r, d, hd, n, hn => by
    simp only [DataW.weightsAll, List.mem_append]
    rcases List.mem_cons.1 hd with rfl | h
    · exact Or.inl hn
    · exact Or.inr (weightsAll_in h n hn)
theorem cell_in {w : World} {a : Addr} {v : Value} (h : w.cell? a = some v) : a.block < w.heap.size ∧ a.spot = none := by
  unfold World.cell? at h
  split at h
  · rename_i c _ _ hb
    refine ⟨(Array.getElem?_eq_some_iff.1 hb).1, ?_⟩
    split at h
    · cases h
    · rename_i hs
      simpa using hs
  · cases h
theorem addr_in (b o j : Nat) : (⟨b, o, none⟩ : Addr).add j = ⟨b, o + j, none⟩ := by
  unfold Addr.add; split
  · rename_i hz; simp [hz]
  · rfl
theorem list_in {α : Type} (n : Nat) (R : Nat → α → Prop) (h : ∀ i, i < n → ∃ x, R i x) : ∃ l : List α, l.length = n ∧ ∀ i x, l[i]? = some x → R i x := by
  refine ⟨List.ofFn fun i : Fin n => Classical.choose (h i.1 i.2), by simp, ?_⟩
  intro i x hi
  rw [List.getElem?_ofFn] at hi
  split at hi
  · rename_i hlt
    obtain rfl := Option.some.inj hi
    exact Classical.choose_spec (h i hlt)
  · simp at hi
theorem sized_in {H : Type} {P : Program} {ts : List TypeId} {ds : List (DataW H)} {t : TypeId} {d : DataW H} (h : (DataW.weightsEach P ts ds).all (· ≤ reachBytes) = true) {j : Nat} (ht : ts[j]? = some t) (hd : ds[j]? = some d) : ∀ n ∈ d.weights P t, n ≤ reachBytes := fun n hn => by
  have := List.all_eq_true.1 h _ (DataW.weights_mem_each ht hd _ hn)
  simpa using this
theorem texts_of5 {ls : List (List UInt8)} (h : ls.length = 5) : ∃ a b c d e, ls = [a, b, c, d, e] := by
  match ls, h with
  | [a, b, c, d, e], _ => exact ⟨a, b, c, d, e, rfl⟩

section
variable {H : Type} {enc : TypeId × Value → H} {P : Program} {w : World} {base : Nat} {sp : Nat → Bool} {held : Bool}
/-- A row of calls is opened. -/
theorem open_steps {r : Reach} {b0 : Nat} {T e : TypeId} {f0 f1 f2 f3 f4 : Field} {v : Value} {d : DataW H} {p : List MemPlace} (hs : P.underlying T = some (.slice e)) (he : P.underlying e = some (.struct #[f0, f1, f2, f3, f4]))
    (hO : Go.Deep.oneCellFields P #[f0, f1, f2, f3, f4] = true) (hC : P.cellsOf e = 5) (hB : P.bytesOf e = 56) (a0 : P.underlying f0.type = some (.int .i64)) (a1 : P.underlying f1.type = some .bool) (a2 : P.underlying f2.type = some .string) (a3 : P.underlying f3.type = some .string) (a4 : P.underlying f4.type = some (.int .i64))
    (hv : Value.okWide P w r b0 T v) (h : DataW.Trod enc P w base sp held T v d p) (hw : ∀ n ∈ d.weights P T, n ≤ reachBytes) :
    ∃ (ad : Option Addr) (c : Nat) (ws : List StepV), v = .slice ad ws.length c ∧ StepsAt ad ws w ∧ ws.length ≤ 140737488351232 ∧ ∀ x ∈ ws, StepOk x := by
  have hR : reachBytes = 140737488351232 := by decide
  obtain ⟨ad, n, c, rfl⟩ := okWide_slice hs hv
  obtain ⟨fuel, hf⟩ := h
  rcases DataW.trod_slice hs hf with ⟨e3, e4⟩ | ⟨a, len, cap, elems, rest, n', _, e3, e4, hb, hl, hcap, hel, hat, _, _⟩
  · simp [Value.cells] at e3
    obtain ⟨rfl, rfl, rfl⟩ := e3
    exact ⟨none, 0, [], rfl, fun j x hx => by simp at hx, by simp, by simp⟩
  · simp [Value.cells] at e3
    obtain ⟨rfl, rfl, rfl⟩ := e3
    have e5 : d = .slice (elems.map (·.1)) (rest.map (·.1)) := congrArg Prod.fst e4
    have hlen : n ≤ 140737488351232 := by
      have h1 : (elems.length + rest.length) * 56 ≤ reachBytes := by
        refine hw _ ?_
        rw [e5]
        simp only [DataW.weights, hs, hB, List.length_map]
        exact List.mem_cons_self
      omega
    have key : ∀ i, i < n → ∃ x : StepV, w.cell? (a.add (i * 5)) = some (.int .i64 x.k) ∧ w.cell? ((a.add (i * 5)).add 1) = some (.bool x.sd) ∧ w.cell? ((a.add (i * 5)).add 2) = some (.string (bs x.t)) ∧ w.cell? ((a.add (i * 5)).add 3) = some (.string (bs x.s)) ∧ w.cell? ((a.add (i * 5)).add 4) = some (.int .i64 x.n) ∧ StepOk x := by
      intro i hi
      have h1 := hat i hi
      have h2 : elems[i]? = some elems[i] := List.getElem?_eq_getElem (by omega)
      rw [h2, Option.bind_eq_some_iff] at h1
      obtain ⟨cs', hc1, hc2⟩ := h1
      rw [hC] at hc1
      obtain ⟨_, _, hcells⟩ := World.cells?_some hc1
      obtain ⟨xs, m, _, hx, hcl, hxl, hg⟩ := DataW.trod_struct he hc2
      rw [hC] at hcl
      match cs', hcl, xs, hxl with
      | [c0, c1, c2, c3, c4], _, [x0, x1, x2, x3, x4], _ =>
        have g0 := hg 0 _ rfl
        have g1 := hg 1 _ rfl
        have g2 := hg 2 _ rfl
        have g3 := hg 3 _ rfl
        have g4 := hg 4 _ rfl
        have hone := Go.Deep.hone_of hO
        obtain ⟨o0, q0⟩ := hone 0 _ rfl
        obtain ⟨o1, q1⟩ := hone 1 _ rfl
        obtain ⟨o2, q2⟩ := hone 2 _ rfl
        obtain ⟨o3, q3⟩ := hone 3 _ rfl
        obtain ⟨o4, q4⟩ := hone 4 _ rfl
        rw [o0, q0] at g0
        rw [o1, q1] at g1
        rw [o2, q2] at g2
        rw [o3, q3] at g3
        rw [o4, q4] at g4
        obtain ⟨k, e0, y0, wk⟩ := DataW.trod_int a0 g0
        obtain ⟨sd, e1, y1⟩ := DataW.trod_bool a1 g1
        obtain ⟨t, e2, y2, wt⟩ := DataW.trod_string a2 g2
        obtain ⟨s, e6, y3, ws⟩ := DataW.trod_string a3 g3
        obtain ⟨z, e7, y4, wz⟩ := DataW.trod_int a4 g4
        simp at e0 e1 e2 e6 e7
        subst e0 e1 e2 e6 e7
        have hk : -9223372036854775808 ≤ k ∧ k ≤ 9223372036854775807 := by
          have := wk
          simp only [Lit.wf, Bool.and_eq_true, decide_eq_true_eq] at this
          exact this
        have hz : -9223372036854775808 ≤ z ∧ z ≤ 9223372036854775807 := by
          have := wz
          simp only [Lit.wf, Bool.and_eq_true, decide_eq_true_eq] at this
          exact this
        have hin : ∀ n ∈ (elems[i].1).weights P e, n ≤ reachBytes := fun n hn => by
          refine hw _ ?_
          rw [e5]
          simp only [DataW.weights, hs]
          exact List.mem_cons_of_mem _ (List.mem_append_left _ (weightsAll_in (List.mem_map_of_mem (List.getElem_mem (show i < elems.length by omega))) _ hn))
        have hd : elems[i].1 = .agg ([x0, x1, x2, x3, x4].map (·.1)) := congrArg Prod.fst hx
        have ht : t.data.toList.length ≤ reachBytes := hin _ (by
          rw [hd]
          simp only [DataW.weights, he]
          exact DataW.weights_mem_each (j := 2) (t := f2.type) (d := x2.1) rfl rfl _ (by rw [y2]; simp [DataW.weights]))
        have hs2 : s.data.toList.length ≤ reachBytes := hin _ (by
          rw [hd]
          simp only [DataW.weights, he]
          exact DataW.weights_mem_each (j := 3) (t := f3.type) (d := x3.1) rfl rfl _ (by rw [y3]; simp [DataW.weights]))
        refine ⟨⟨k, sd, t.data.toList, s.data.toList, z⟩, ?_, ?_, ?_, ?_, ?_, hk.1, hk.2, hz.1, hz.2, by simpa [hR] using ht, by simpa [hR] using hs2⟩
        · have := hcells 0 (by omega)
          simpa [Addr.add] using this
        · have := hcells 1 (by omega)
          simpa using this
        · have := hcells 2 (by omega)
          rw [bs_ofData]
          simpa using this
        · have := hcells 3 (by omega)
          rw [bs_ofData]
          simpa using this
        · have := hcells 4 (by omega)
          simpa using this
    obtain ⟨ws, hll, hws⟩ := list_in n _ key
    refine ⟨some a, c, ws, by rw [hll], fun j x hx => ?_, by omega, fun x hx => ?_⟩
    · obtain ⟨k0, k1, k2, k3, k4, _⟩ := hws j x hx
      have hj : j < ws.length := (List.getElem?_eq_some_iff.1 hx).1
      have z0 := (hws 0 ws[0] (List.getElem?_eq_getElem (by omega))).1
      obtain ⟨hblk, hspot⟩ := cell_in z0
      obtain ⟨b, o, spt⟩ := a
      simp [Addr.add] at hspot hblk
      subst hspot
      rw [addr_in] at k0 k1 k2 k3 k4
      rw [addr_in] at k1 k2 k3 k4
      exact ⟨b, o, rfl, hblk, k0, k1, k2, k3, k4⟩
    · obtain ⟨i, hi⟩ := List.getElem?_of_mem hx
      exact (hws i x hi).2.2.2.2.2
end
end Go.Proofs.YtdmfoablpdhnbaaGreatDoor
