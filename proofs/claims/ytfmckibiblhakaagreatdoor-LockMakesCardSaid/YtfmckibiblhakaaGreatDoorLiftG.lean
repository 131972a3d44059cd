/- What a law's reading of a row of locks gives the walks. -/
import Derived.Test.YtfmckibiblhakaaGreatDoorLiftE
import Derived.Deep.Slices
set_option linter.unusedSimpArgs false
set_option linter.unusedVariables false
namespace Go.Proofs.YtfmckibiblhakaaGreatDoor
open Go.ChangeShapes Go.WideShapes Go.ChangeAt Go.RowKit

/-- A row of locks is opened. -/
theorem open_locks {H : Type} {enc : TypeId × Value → H} {P : Program} {w : World} {base b0 : Nat} {sp : Nat → Bool} {held : Bool} {r : Reach} {S T : TypeId} {f0 f1 f2 f3 : Field} (hS : P.underlying S = some (.slice T)) (hs : P.underlying T = some (.struct #[f0, f1, f2, f3]))
    (hO : Go.Deep.oneCellFields P #[f0, f1, f2, f3] = true) (hC : P.cellsOf T = 4) (hB : P.bytesOf T = 56) (a0 : P.underlying f0.type = some (.int .u8)) (a1 : P.underlying f1.type = some .string) (a2 : P.underlying f2.type = some (.int .i64)) (a3 : P.underlying f3.type = some (.slice T))
    {v : Value} {d : DataW H} {p : List MemPlace} (hv : Value.okWide P w r b0 S v) (h : DataW.Trod enc P w base sp held S v d p) (hw : ∀ n ∈ d.weights P S, n ≤ reachBytes) :
    ∃ (ad : Option Addr) (c : Nat) (l : List LT), v = .slice ad l.length c ∧ LockIn (fun _ => True) w (.mk 0 [] 0 l) (.agg #[.int .u8 0, .string (bs []), .int .i64 0, .slice ad l.length c]) := by
  obtain ⟨ad, n, c, rfl⟩ := okWide_slice hS hv
  obtain ⟨fuel, hf⟩ := h
  rcases DataW.trod_slice hS hf with ⟨e3, hd⟩ | ⟨a, len, cap, elems, rest, n', hfu, e3, hd, hb, hl, hcap, hel, hat, _, _⟩
  · simp [Value.cells] at e3
    obtain ⟨rfl, rfl, rfl⟩ := e3
    refine ⟨none, 0, [], rfl, ?_⟩
    unfold LockIn
    exact ⟨by omega, by omega, by simp, by simp, _, rfl, .inl ⟨none, 0, rfl, rfl⟩⟩
  · simp [Value.cells] at e3
    obtain ⟨rfl, rfl, rfl⟩ := e3
    have hd2 := congrArg Prod.fst hd
    simp only at hd2
    subst hd2
    have hlen : n ≤ 9000000000000000000 := by
      have h1 : (elems.length + rest.length) * 56 ≤ reachBytes := by
        refine hw _ ?_
        simp only [DataW.weights, hS, hB, List.length_map]
        exact List.mem_cons_self
      have h2 : reachBytes ≤ 9000000000000000000 := by decide
      omega
    have key : ∀ i, i < n → ∃ (x : LT) (c0 c1 c2 c3 : Value), LockIn (fun _ => True) w x (.agg #[c0, c1, c2, c3]) ∧ w.cell? (a.add (i * 4)) = some c0 ∧ w.cell? ((a.add (i * 4)).add 1) = some c1 ∧ w.cell? ((a.add (i * 4)).add 2) = some c2 ∧ w.cell? ((a.add (i * 4)).add 3) = some c3 := by
      intro i hi
      have h1 := hat i hi
      have h2 : elems[i]? = some elems[i] := List.getElem?_eq_getElem (by omega)
      rw [h2, Option.bind_eq_some_iff] at h1
      obtain ⟨cs', hc1, hc2⟩ := h1
      rw [hC] at hc1
      obtain ⟨_, _, hcells⟩ := World.cells?_some hc1
      obtain ⟨l, d0, d1, d2, d3, rfl, hl⟩ := open_lock hs hO hC hB a0 a1 a2 a3 n' cs' _ hc2 (fun n hn => by
        refine hw _ ?_
        simp only [DataW.weights, hS]
        exact List.mem_cons_of_mem _ (List.mem_append_left _ (weightsAll_mem (List.mem_map_of_mem (List.getElem_mem (by omega))) n hn)))
      refine ⟨l, d0, d1, d2, d3, hl, ?_, ?_, ?_, ?_⟩
      · have := hcells 0 (by omega)
        simpa [Addr.add] using this
      · have := hcells 1 (by omega)
        simpa using this
      · have := hcells 2 (by omega)
        simpa using this
      · have := hcells 3 (by omega)
        simpa using this
    by_cases hz : n = 0
    · subst hz
      refine ⟨some a, c, [], rfl, ?_⟩
      unfold LockIn
      exact ⟨by omega, by omega, by simp, by simp, _, rfl, .inl ⟨some a, c, rfl, rfl⟩⟩
    · obtain ⟨y, g0, _, _, _, _, z0, _⟩ := key 0 (by omega)
      obtain ⟨hblk, hspot⟩ := cell_blk z0
      obtain ⟨b, o, spt⟩ := a
      simp [Addr.add] at hspot hblk
      subst hspot
      obtain ⟨l, hll, hrow⟩ := row_of_list (p := fun _ => True) (w := w) (b := b) n o (fun i hi => by
        obtain ⟨x, d0, d1, d2, d3, hx, k0, k1, k2, k3⟩ := key i hi
        rw [addr_add] at k0 k1 k2 k3
        rw [addr_add] at k1 k2 k3
        exact ⟨x, d0, d1, d2, d3, hx, k0, k1, k2, k3⟩)
      subst hll
      refine ⟨_, c, l, rfl, ?_⟩
      unfold LockIn
      exact ⟨by omega, by omega, by simp, hlen, _, rfl, .inr ⟨b, o, c, rfl, hblk, trivial, hrow⟩⟩
end Go.Proofs.YtfmckibiblhakaaGreatDoor
