/- What a law's reading of a row of words gives the walks. -/
import Derived.Test.YtdmfoablpdhnbaaGreatDoorLawQ
import Derived.Test.YtdmfoablpdhnbaaGreatDoorLiftB
import Derived.Deep.Slices
import Derived.Deep.Fields
import Derived.ChangeSame
import Derived.Carry
set_option linter.unusedSimpArgs false
set_option linter.unusedVariables false
namespace Go.Proofs.YtdmfoablpdhnbaaGreatDoor
open Go.ChangeShapes Go.WideShapes Go.ChangeAt Go.RowKit

section
variable {H : Type} {enc : TypeId × Value → H} {P : Program} {w : World} {base : Nat} {sp : Nat → Bool} {held : Bool}

theorem cell_block {w : World} {a : Addr} {v : Value} (h : w.cell? a = some v) : a.block < w.heap.size ∧ a.spot = none := by
  unfold World.cell? at h
  split at h
  · rename_i c _ _ hb
    refine ⟨(Array.getElem?_eq_some_iff.1 hb).1, ?_⟩
    split at h
    · cases h
    · rename_i hs
      simpa using hs
  · cases h

theorem list_of_fun {α : Type} (n : Nat) (R : Nat → α → Prop) (h : ∀ i, i < n → ∃ x, R i x) : ∃ l : List α, l.length = n ∧ ∀ i x, l[i]? = some x → R i x := by
  refine ⟨List.ofFn fun i : Fin n => Classical.choose (h i.1 i.2), by simp, ?_⟩
  intro i x hi
  rw [List.getElem?_ofFn] at hi
  split at hi
  · rename_i hlt
    obtain rfl := Option.some.inj hi
    exact Classical.choose_spec (h i hlt)
  · simp at hi

/-- A row of pairs of a bool and a text is opened. -/
theorem open_words {r : Reach} {b0 : Nat} {t e : TypeId} {f0 f1 : Field} {v : Value} {d : DataW H} {p : List MemPlace} (ht : P.underlying t = some (.slice e)) (he : P.underlying e = some (.struct #[f0, f1]))
    (hone : Go.Deep.oneCellFields P #[f0, f1] = true) (hC : P.cellsOf e = 2) (h0 : P.underlying f0.type = some .bool) (h1 : P.underlying f1.type = some .string) (hv : Value.okWide P w r b0 t v) (h : DataW.Trod enc P w base sp held t v d p) :
    ∃ (ad : Option Addr) (c : Nat) (ws : List (Bool × List UInt8)), v = .slice ad ws.length c ∧ WordsAt (.slice ad ws.length c) ws w ∧ ws.length ≤ maxLen ∧ ∀ x ∈ ws, x.2.length ≤ maxLen := by
  obtain ⟨ad, n, c, rfl⟩ := okWide_slice ht hv
  obtain ⟨fuel, hf⟩ := h
  rcases Go.Deep.open_slice ht hf with ⟨hcs, _⟩ | ⟨a, len, cap, m, k, D, Pl, hcs, hb, hl, hm, hmm, hx, hi⟩
  · simp [Value.cells] at hcs
    obtain ⟨rfl, rfl, rfl⟩ := hcs
    exact ⟨none, 0, [], rfl, .inl ⟨none, 0, rfl, rfl⟩, by simp, by simp⟩
  · simp [Value.cells] at hcs
    obtain ⟨rfl, rfl, rfl⟩ := hcs
    have hle : n ≤ m := by rw [hmm]; split <;> omega
    obtain ⟨ws, hwl, hws⟩ := list_of_fun n (fun i (x : Bool × List UInt8) => w.cell? (a.add (i * 2)) = some (.bool x.1) ∧ w.cell? ((a.add (i * 2)).add 1) = some (.string (bs x.2)) ∧ x.2.length ≤ maxLen) (by
      intro i hlt
      obtain ⟨cs, hc, ht'⟩ := hi i (by omega)
      rw [hC] at hc
      obtain ⟨_, hcl, hat⟩ := World.cells?_some hc
      obtain ⟨y0, y1, k', _, _, g0, g1⟩ := trod_struct2 he ht'
      obtain ⟨o0, q0⟩ := Go.Deep.hone_of hone 0 f0 rfl
      obtain ⟨o1, q1⟩ := Go.Deep.hone_of hone 1 f1 rfl
      match cs, hcl with
      | [c0, c1], _ =>
        rw [o0, q0] at g0
        rw [o1, q1] at g1
        obtain ⟨b, hb0, _⟩ := DataW.trod_bool h0 g0
        obtain ⟨s, hs0, _, hsz⟩ := DataW.trod_string h1 g1
        simp at hb0 hs0
        subst hb0 hs0
        refine ⟨(b, s.data.toList), ?_, ?_, hsz⟩
        · have := hat 0 (by omega)
          simpa [Addr.add] using this
        · have := hat 1 (by omega)
          rw [bs_ofData]
          simpa using this)
    refine ⟨some a, c, ws, by rw [hwl], ?_, by omega, ?_⟩
    · by_cases hz : ws.length = 0
      · exact .inl ⟨some a, c, by rw [hz], List.eq_nil_of_length_eq_zero hz⟩
      · have hz0 := hws 0 ws[0] (List.getElem?_eq_getElem (by omega))
        obtain ⟨hblk, hspot⟩ := cell_block hz0.1
        obtain ⟨b, o, spt⟩ := a
        simp [Addr.add] at hspot hblk
        subst hspot
        refine .inr ⟨b, o, c, rfl, hblk, fun i sd tx hix => ?_⟩
        obtain ⟨p0, p1, _⟩ := hws i (sd, tx) hix
        have ea : (⟨b, o, none⟩ : Addr).add (i * 2) = ⟨b, o + i * 2, none⟩ := by
          unfold Addr.add; split
          · rename_i hz; simp [hz]
          · rfl
        rw [ea] at p0 p1
        exact ⟨p0, p1⟩
    · intro x hx
      obtain ⟨i, hix⟩ := List.getElem?_of_mem hx
      exact (hws i x hix).2.2
end
end Go.Proofs.YtdmfoablpdhnbaaGreatDoor
