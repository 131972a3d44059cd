/- What a law's reading of a lock gives the walks. -/
import Derived.Test.YtfmckibiblhakaaGreatDoorLiftB
import Derived.Test.YtfmckibiblhakaaGreatDoorLockP
import Derived.Deep.Slices
import Derived.Deep.Fields
import Derived.ChangeSame
import Derived.Carry
set_option linter.unusedSimpArgs false
set_option linter.unusedVariables false
namespace Go.Proofs.YtfmckibiblhakaaGreatDoor
open Go.ChangeShapes Go.WideShapes Go.ChangeAt Go.RowKit

theorem weightsAll_mem {H : Type} {P : Program} {e : TypeId} : ∀ {l : List (DataW H)} {d : DataW H}, d ∈ l → ∀ n ∈ d.weights P e, n ∈ DataW.weightsAll P e l
  | d' :: r, d, hd, n, hn => by
    simp only [DataW.weightsAll, List.mem_append]
    rcases List.mem_cons.1 hd with rfl | h
    · exact Or.inl hn
    · exact Or.inr (weightsAll_mem h n hn)
theorem cell_blk {w : World} {a : Addr} {v : Value} (h : w.cell? a = some v) : a.block < w.heap.size ∧ a.spot = none := by
  unfold World.cell? at h
  split at h
  · rename_i c _ _ hb
    refine ⟨(Array.getElem?_eq_some_iff.1 hb).1, ?_⟩
    split at h
    · cases h
    · rename_i hs
      simpa using hs
  · cases h
theorem addr_add (b o j : Nat) : (⟨b, o, none⟩ : Addr).add j = ⟨b, o + j, none⟩ := by
  unfold Addr.add; split
  · rename_i hz; simp [hz]
  · rfl
theorem row_of_list {p : Nat → Prop} {w : World} {b : Nat} : ∀ (m o : Nat), (∀ i, i < m → ∃ (x : LT) (c0 c1 c2 c3 : Value), LockIn p w x (.agg #[c0, c1, c2, c3]) ∧ w.cell? ⟨b, o + i * 4, none⟩ = some c0 ∧ w.cell? ⟨b, o + i * 4 + 1, none⟩ = some c1 ∧ w.cell? ⟨b, o + i * 4 + 2, none⟩ = some c2 ∧ w.cell? ⟨b, o + i * 4 + 3, none⟩ = some c3) →
    ∃ l : List LT, l.length = m ∧ RowIn p w l b o
  | 0, o, _ => ⟨[], rfl, by unfold RowIn; trivial⟩
  | m + 1, o, h => by
    obtain ⟨x, c0, c1, c2, c3, hx, g0, g1, g2, g3⟩ := h 0 (by omega)
    obtain ⟨l, hl, hr⟩ := row_of_list m (o + 4) (fun i hi => by
      obtain ⟨y, d0, d1, d2, d3, hy, k0, k1, k2, k3⟩ := h (i + 1) (by omega)
      rw [show o + (i + 1) * 4 = o + 4 + i * 4 by omega] at k0 k1 k2 k3
      exact ⟨y, d0, d1, d2, d3, hy, k0, k1, k2, k3⟩)
    refine ⟨x :: l, by simp [hl], ?_⟩
    unfold RowIn
    exact ⟨⟨c0, c1, c2, c3, hx, by simpa using g0, by simpa using g1, by simpa using g2, by simpa using g3⟩, hr⟩

/-- A lock is opened. -/
theorem open_lock {H : Type} {enc : TypeId × Value → H} {P : Program} {w : World} {base : Nat} {sp : Nat → Bool} {held : Bool} {T : TypeId} {f0 f1 f2 f3 : Field} (hs : P.underlying T = some (.struct #[f0, f1, f2, f3]))
    (hO : Go.Deep.oneCellFields P #[f0, f1, f2, f3] = true) (hC : P.cellsOf T = 4) (hB : P.bytesOf T = 56) (a0 : P.underlying f0.type = some (.int .u8)) (a1 : P.underlying f1.type = some .string) (a2 : P.underlying f2.type = some (.int .i64)) (a3 : P.underlying f3.type = some (.slice T)) : ∀ (fuel : Nat) (cs : List Value) (x : DataW H × List MemPlace),
    DataW.trod enc P w base sp held fuel T cs = some x → (∀ n ∈ x.1.weights P T, n ≤ reachBytes) →
    ∃ (l : LT) (c0 c1 c2 c3 : Value), cs = [c0, c1, c2, c3] ∧ LockIn (fun _ => True) w l (.agg #[c0, c1, c2, c3]) := by
  intro fuel
  induction fuel using Nat.strongRecOn with
  | ind fuel ih =>
    intro cs x h hw
    obtain ⟨xs, n, rfl, rfl, hcl, hlen, hg⟩ := DataW.trod_struct hs h
    rw [hC] at hcl
    match cs, hcl, xs, hlen with
    | [c0, c1, c2, c3], _, [x0, x1, x2, x3], _ =>
      have h0 := hg 0 _ rfl
      have h1 := hg 1 _ rfl
      have h2 := hg 2 _ rfl
      have h3 := hg 3 _ rfl
      have hone := Go.Deep.hone_of hO
      obtain ⟨o0, q0⟩ := hone 0 _ rfl
      obtain ⟨o1, q1⟩ := hone 1 _ rfl
      obtain ⟨o2, q2⟩ := hone 2 _ rfl
      obtain ⟨o3, q3⟩ := hone 3 _ rfl
      rw [o0, q0] at h0
      rw [o1, q1] at h1
      rw [o2, q2] at h2
      rw [o3, q3] at h3
      obtain ⟨k, e0, rfl, wk⟩ := DataW.trod_int a0 h0
      obtain ⟨s, e1, rfl, ws⟩ := DataW.trod_string a1 h1
      obtain ⟨m, e2, rfl, wm⟩ := DataW.trod_int a2 h2
      simp at e0 e1 e2
      subst e0 e1 e2
      have hk : 0 ≤ k ∧ k ≤ 255 := by
        have := wk
        simp only [Lit.wf, Bool.and_eq_true, decide_eq_true_eq] at this
        exact this
      have hm : -9223372036854775808 ≤ m ∧ m ≤ 9223372036854775807 := by
        have := wm
        simp only [Lit.wf, Bool.and_eq_true, decide_eq_true_eq] at this
        exact this
      have hsl : s.data.toList.length ≤ 9000000000000000000 := by
        refine Nat.le_trans (hw _ ?_) (show reachBytes ≤ 9000000000000000000 by decide)
        simp only [DataW.weights, hs]
        exact DataW.weights_mem_each (j := 1) (t := f1.type) (d := .lit (.string s.data.toList)) rfl rfl _ (by simp [DataW.weights])
      rcases DataW.trod_slice a3 h3 with ⟨e3, rfl⟩ | ⟨a, len, cap, elems, rest, n', rfl, e3, rfl, hb, hl, hcap, hel, hat, _, _⟩
      · simp at e3
        subst e3
        refine ⟨.mk k s.data.toList m [], _, _, _, _, rfl, ?_⟩
        unfold LockIn
        exact ⟨hk, hm, hsl, by simp, _, by rw [bs_ofData], .inl ⟨none, 0, rfl, rfl⟩⟩
      · simp at e3
        subst e3
        have hlen : len ≤ 9000000000000000000 := by
          have h1 : (elems.length + rest.length) * 56 ≤ reachBytes := by
            refine hw _ ?_
            simp only [DataW.weights, hs]
            refine DataW.weights_mem_each (j := 3) (t := f3.type) (d := .slice (elems.map (·.1)) (rest.map (·.1))) rfl rfl _ ?_
            simp only [DataW.weights, a3, hB, List.length_map]
            exact List.mem_cons_self
          have h2 : reachBytes ≤ 9000000000000000000 := by decide
          omega
        have key : ∀ i, i < len → ∃ (x : LT) (c0 c1 c2 c3 : Value), LockIn (fun _ => True) w x (.agg #[c0, c1, c2, c3]) ∧ w.cell? (a.add (i * 4)) = some c0 ∧ w.cell? ((a.add (i * 4)).add 1) = some c1 ∧ w.cell? ((a.add (i * 4)).add 2) = some c2 ∧ w.cell? ((a.add (i * 4)).add 3) = some c3 := by
          intro i hi
          have h1 := hat i hi
          have h2 : elems[i]? = some elems[i] := List.getElem?_eq_getElem (by omega)
          rw [h2, Option.bind_eq_some_iff] at h1
          obtain ⟨cs', hc1, hc2⟩ := h1
          rw [hC] at hc1
          obtain ⟨_, _, hcells⟩ := World.cells?_some hc1
          obtain ⟨l, d0, d1, d2, d3, rfl, hl⟩ := ih n' (by omega) cs' _ hc2 (fun n hn => by
            refine hw _ ?_
            simp only [DataW.weights, hs]
            refine DataW.weights_mem_each (j := 3) (t := f3.type) (d := .slice (elems.map (·.1)) (rest.map (·.1))) rfl rfl _ ?_
            simp only [DataW.weights, a3]
            exact List.mem_cons_of_mem _ (List.mem_append_left _ (weightsAll_mem (List.mem_map_of_mem (List.getElem_mem (by omega))) n hn)))
          refine ⟨l, d0, d1, d2, d3, hl, ?_, ?_, ?_, ?_⟩
          · have := hcells 0 (by omega)
            simpa [Addr.add] using this
          · have := hcells 1 (by omega)
            simpa using this
          · have := hcells 2 (by omega)
            simpa using this
          · have := hcells 3 (by omega)
            simpa using this
        by_cases hz : len = 0
        · subst hz
          refine ⟨.mk k s.data.toList m [], _, _, _, _, rfl, ?_⟩
          unfold LockIn
          exact ⟨hk, hm, hsl, by simp, _, by rw [bs_ofData], .inl ⟨some a, cap, rfl, rfl⟩⟩
        · obtain ⟨y, g0, _, _, _, _, z0, _⟩ := key 0 (by omega)
          obtain ⟨hblk, hspot⟩ := cell_blk z0
          obtain ⟨b, o, spt⟩ := a
          simp [Addr.add] at hspot hblk
          subst hspot
          obtain ⟨l, hll, hrow⟩ := row_of_list (p := fun _ => True) (w := w) (b := b) len o (fun i hi => by
            obtain ⟨x, d0, d1, d2, d3, hx, k0, k1, k2, k3⟩ := key i hi
            rw [addr_add] at k0 k1 k2 k3
            rw [addr_add] at k1 k2 k3
            exact ⟨x, d0, d1, d2, d3, hx, k0, k1, k2, k3⟩)
          subst hll
          refine ⟨.mk k s.data.toList m l, _, _, _, _, rfl, ?_⟩
          unfold LockIn
          exact ⟨hk, hm, hsl, hlen, _, by rw [bs_ofData], .inr ⟨b, o, cap, rfl, hblk, trivial, hrow⟩⟩
theorem sized_any {H : Type} {P : Program} {ts : List TypeId} {ds : List (DataW H)} {t : TypeId} {d : DataW H} (h : (DataW.weightsEach P ts ds).all (· ≤ reachBytes) = true) {j : Nat} (ht : ts[j]? = some t) (hd : ds[j]? = some d) : ∀ n ∈ d.weights P t, n ≤ reachBytes := fun n hn => by
  have := List.all_eq_true.1 h _ (DataW.weights_mem_each ht hd _ hn)
  simpa using this
/-- A lock's value is opened. -/
theorem open_lockV {H : Type} {enc : TypeId × Value → H} {P : Program} {w : World} {base b0 : Nat} {sp : Nat → Bool} {held : Bool} {r : Reach} {T : TypeId} {f0 f1 f2 f3 : Field} (hs : P.underlying T = some (.struct #[f0, f1, f2, f3]))
    (hO : Go.Deep.oneCellFields P #[f0, f1, f2, f3] = true) (hC : P.cellsOf T = 4) (hB : P.bytesOf T = 56) (a0 : P.underlying f0.type = some (.int .u8)) (a1 : P.underlying f1.type = some .string) (a2 : P.underlying f2.type = some (.int .i64)) (a3 : P.underlying f3.type = some (.slice T))
    {v : Value} {d : DataW H} {p : List MemPlace} (hv : Value.okWide P w r b0 T v) (h : DataW.Trod enc P w base sp held T v d p) (hw : ∀ n ∈ d.weights P T, n ≤ reachBytes) : ∃ l : LT, LockIn (fun _ => True) w l v := by
  obtain ⟨cs, rfl, _⟩ := okWide_struct hs hv
  obtain ⟨fuel, hf⟩ := h
  obtain ⟨l, c0, c1, c2, c3, e, hl⟩ := open_lock hs hO hC hB a0 a1 a2 a3 fuel _ _ hf hw
  have e2 : cs = #[c0, c1, c2, c3] := by
    have : cs.toList = [c0, c1, c2, c3] := by simpa [Value.cells] using e
    rw [← Array.toArray_toList (xs := cs), this]
  rw [e2]
  exact ⟨l, hl⟩
end Go.Proofs.YtfmckibiblhakaaGreatDoor
