/- What a law's reading of a row of terms gives the walks. -/
import Derived.Test.YtdmfoablpdhnbaaGreatDoorLiftB
import Derived.Test.YtdmfoablpdhnbaaGreatDoorDedI
import Derived.Deep.Slices
import Derived.Deep.Fields
import Derived.ChangeSame
import Derived.Carry
set_option linter.unusedSimpArgs false
set_option linter.unusedVariables false
namespace Go.Proofs.YtdmfoablpdhnbaaGreatDoor
open Go.ChangeShapes Go.WideShapes Go.ChangeAt Go.RowKit

theorem weightsAll_mem {H : Type} {P : Program} {e : TypeId} : ∀ {l : List (DataW H)} {d : DataW H}, d ∈ l → ∀ n ∈ d.weights P e, n ∈ DataW.weightsAll P e l
  | d' :: r, d, hd, n, hn => by
    simp only [DataW.weightsAll, List.mem_append]
    rcases List.mem_cons.1 hd with rfl | h
    · exact Or.inl hn
    · exact Or.inr (weightsAll_mem h n hn)
theorem cell_blk {w : World} {a : Addr} {v : Value} (h : w.cell? a = some v) : a.block < w.heap.size ∧ a.spot = none := by
  unfold World.cell? at h
  split at h
  · rename_i c _ _ hb
    refine ⟨(Array.getElem?_eq_some_iff.1 hb).1, ?_⟩
    split at h
    · cases h
    · rename_i hs
      simpa using hs
  · cases h
theorem addr_add (b o j : Nat) : (⟨b, o, none⟩ : Addr).add j = ⟨b, o + j, none⟩ := by
  unfold Addr.add; split
  · rename_i hz; simp [hz]
  · rfl
theorem sized_any {H : Type} {P : Program} {ts : List TypeId} {ds : List (DataW H)} {t : TypeId} {d : DataW H} (h : (DataW.weightsEach P ts ds).all (· ≤ reachBytes) = true) {j : Nat} (ht : ts[j]? = some t) (hd : ds[j]? = some d) : ∀ n ∈ d.weights P t, n ≤ reachBytes := fun n hn => by
  have := List.all_eq_true.1 h _ (DataW.weights_mem_each ht hd _ hn)
  simpa using this
theorem list_of_fun2 {α : Type} (n : Nat) (R : Nat → α → Prop) (h : ∀ i, i < n → ∃ x, R i x) : ∃ l : List α, l.length = n ∧ ∀ i x, l[i]? = some x → R i x := by
  refine ⟨List.ofFn fun i : Fin n => Classical.choose (h i.1 i.2), by simp, ?_⟩
  intro i x hi
  rw [List.getElem?_ofFn] at hi
  split at hi
  · rename_i hlt
    obtain rfl := Option.some.inj hi
    exact Classical.choose_spec (h i hlt)
  · simp at hi

section
variable {H : Type} {enc : TypeId × Value → H} {P : Program} {w : World} {base : Nat} {sp : Nat → Bool} {held : Bool}
/-- A row of terms is opened. -/
theorem open_terms {T e : TypeId} (hs : P.underlying T = some (.slice e)) (he : P.underlying e = some .string) (hC : P.cellsOf e = 1) (hB : P.bytesOf e = 16) {fuel : Nat} {v : Value} {x : DataW H × List MemPlace}
    (h : DataW.trod enc P w base sp held fuel T [v] = some x) (hw : ∀ n ∈ x.1.weights P T, n ≤ reachBytes) :
    ∃ (ad : Option Addr) (c : Nat) (ts : List (List UInt8)), v = .slice ad ts.length c ∧ TermsAt (.slice ad ts.length c) ts w ∧ ts.length ≤ 9000000000000000000 ∧ ∀ t ∈ ts, t.length ≤ 9000000000000000000 := by
  rcases DataW.trod_slice hs h with ⟨e3, rfl⟩ | ⟨a, len, cap, elems, rest, n', rfl, e3, rfl, hb, hl, hcap, hel, hat, _, _⟩
  · simp at e3
    subst e3
    exact ⟨none, 0, [], rfl, .inl ⟨none, 0, rfl, rfl⟩, by simp, by simp⟩
  · simp at e3
    subst e3
    have hR : reachBytes ≤ 9000000000000000000 := by decide
    have hlen : len ≤ 9000000000000000000 := by
      have h1 : (elems.length + rest.length) * 16 ≤ reachBytes := by
        refine hw _ ?_
        simp only [DataW.weights, hs, hB, List.length_map]
        exact List.mem_cons_self
      omega
    have key : ∀ i, i < len → ∃ t : List UInt8, w.cell? (a.add (i * 1)) = some (.string (bs t)) ∧ t.length ≤ 9000000000000000000 := by
      intro i hi
      have h1 := hat i hi
      have h2 : elems[i]? = some elems[i] := List.getElem?_eq_getElem (by omega)
      rw [h2, Option.bind_eq_some_iff] at h1
      obtain ⟨cs', hc1, hc2⟩ := h1
      rw [hC] at hc1
      obtain ⟨_, _, hcells⟩ := World.cells?_some hc1
      obtain ⟨s, e4, e5, hsz⟩ := DataW.trod_string he hc2
      subst e4
      refine ⟨s.data.toList, ?_, ?_⟩
      · have := hcells 0 (by omega)
        rw [bs_ofData]
        simpa [Addr.add] using this
      · refine Nat.le_trans (hw _ ?_) hR
        simp only [DataW.weights, hs]
        refine List.mem_cons_of_mem _ (List.mem_append_left _ (weightsAll_mem (List.mem_map_of_mem (List.getElem_mem (show i < elems.length by omega))) _ ?_))
        rw [e5]
        simp [DataW.weights]
    by_cases hz : len = 0
    · subst hz
      exact ⟨some a, cap, [], rfl, .inl ⟨some a, cap, rfl, rfl⟩, by simp, by simp⟩
    · obtain ⟨t0, z0, _⟩ := key 0 (by omega)
      obtain ⟨hblk, hspot⟩ := cell_blk z0
      obtain ⟨b, o, spt⟩ := a
      simp [Addr.add] at hspot hblk
      subst hspot
      obtain ⟨ts, hll, hts⟩ := list_of_fun2 len (fun i t => w.cell? ((⟨b, o, none⟩ : Addr).add (i * 1)) = some (.string (bs t)) ∧ t.length ≤ 9000000000000000000) key
      subst hll
      refine ⟨_, cap, ts, rfl, .inr ⟨b, o, cap, rfl, hblk, fun i t hi => ?_⟩, hlen, fun t ht => ?_⟩
      · have := (hts i t hi).1
        rw [addr_add, Nat.mul_one] at this
        exact this
      · obtain ⟨i, hi⟩ := List.getElem?_of_mem ht
        exact (hts i t hi).2
/-- A row of terms is opened, as a value. -/
theorem open_termsV {b0 : Nat} {r : Reach} {T e : TypeId} (hs : P.underlying T = some (.slice e)) (he : P.underlying e = some .string) (hC : P.cellsOf e = 1) (hB : P.bytesOf e = 16) {v : Value} {d : DataW H} {p : List MemPlace}
    (hv : Value.okWide P w r b0 T v) (h : DataW.Trod enc P w base sp held T v d p) (hw : ∀ n ∈ d.weights P T, n ≤ reachBytes) :
    ∃ (ad : Option Addr) (c : Nat) (ts : List (List UInt8)), v = .slice ad ts.length c ∧ TermsAt (.slice ad ts.length c) ts w ∧ ts.length ≤ 9000000000000000000 ∧ ∀ t ∈ ts, t.length ≤ 9000000000000000000 := by
  obtain ⟨ad, n, c, rfl⟩ := okWide_slice hs hv
  obtain ⟨fuel, hf⟩ := h
  exact open_terms (fuel := fuel) hs he hC hB (by simpa [Value.cells] using hf) hw
end
end Go.Proofs.YtdmfoablpdhnbaaGreatDoor
