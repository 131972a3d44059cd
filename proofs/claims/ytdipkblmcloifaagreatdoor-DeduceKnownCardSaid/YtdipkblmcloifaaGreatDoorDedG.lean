/- The program: what is held, in order; a copy. -/
import Derived.Test.YtdipkblmcloifaaGreatDoorDedF
import Derived.Test.YtdipkblmcloifaaGreatDoorIter
set_option linter.unusedSimpArgs false
set_option linter.unusedVariables false
namespace Go.Proofs.YtdipkblmcloifaaGreatDoor
open Go.RowKit Go.Maps Go.Sort

theorem mapB_str {P : Program} {K E : TypeId} (hK : P.underlying K = some .string) {w : World} {b m : Nat} {f : List UInt8 → Option Bool} (h : MapB P K E w b m f) : ∃ D, w.ownsMap P K (RB P E) b m D ∧ Maps.size D = m ∧ (strKeys D).Pairwise (fun a b => a ≠ b) ∧ ∀ t, t ∈ strKeys D ↔ (f t).isSome = true := by
  obtain ⟨D, hown, hs, hf⟩ := h
  refine ⟨D, hown, hs, ?_⟩
  obtain ⟨es, clock, hb, F, hsz, hD⟩ := hown
  have hk : ∀ p ∈ ((es.toList.map (Go.WideElems.rg P K (RB P E))).foldr DataW.insert []), ∃ t, p.1 = Lit.string t := by
    intro p hp
    obtain ⟨x, hx, rfl⟩ := List.mem_map.1 (mem_sorted.1 hp)
    obtain ⟨y, hy⟩ := F.reads x hx
    rw [Go.WideElems.rg_of hy]
    obtain ⟨s, _, e, _⟩ := Go.WideMaps.string_of_keyOf hK (Go.WideElems.rd_key hy)
    exact ⟨_, e⟩
  have hd : ((es.toList.map (Go.WideElems.rg P K (RB P E))).foldr DataW.insert []).Pairwise (fun p q => p.1 ≠ q.1) := ((Go.WideShapes.sorted_perm _).pairwise_iff (fun {_ _} hne => Ne.symm hne)).2 (Maps.fit_apart (string_keyed hK) F)
  generalize ((es.toList.map (Go.WideElems.rg P K (RB P E))).foldr DataW.insert []) = L at *
  subst hD
  have hval : ∀ t, (f t).isSome = true ↔ ∃ p ∈ L, p.1 = Lit.string t := by
    intro t
    rw [← (hf t).1]
    show L.any (fun p => p.1.sameKey (.string t)) = true ↔ _
    rw [List.any_eq_true]
    constructor
    · rintro ⟨p, hp, h⟩; exact ⟨p, hp, WideAt.sameKey_eq h⟩
    · rintro ⟨p, hp, h⟩
      refine ⟨p, hp, ?_⟩
      rw [h]
      exact WideAt.sameKey_self (show WideAt.IsKeyLit (Lit.string t) from trivial)
  have hst : strKeys (DataW.map L) = L.map (fun p => strOf p.1) := rfl
  rw [hst]
  constructor
  · rw [List.pairwise_map]
    refine hd.imp_of_mem ?_
    intro p q hp hq hne
    obtain ⟨t, et⟩ := hk p hp
    obtain ⟨u, eu⟩ := hk q hq
    rw [et, eu] at hne ⊢
    exact fun e => hne (congrArg Lit.string e)
  · intro t
    rw [hval t, List.mem_map]
    constructor
    · rintro ⟨p, hp, rfl⟩
      obtain ⟨u, eu⟩ := hk p hp
      exact ⟨p, hp, by rw [eu]; rfl⟩
    · rintro ⟨p, hp, e⟩
      exact ⟨p, hp, by rw [e]; rfl⟩

set_option maxRecDepth 100000 in
set_option maxHeartbeats 2000000 in
/-- What is held, in order, in memory of its own. -/
theorem dHeld (M bh be n : Nat) (H S : List UInt8 → Bool) (w : World) (hM : MindAt w M bh be H S n) :
    Calls Tryz.prog 14 #[.pointer (some ⟨M, 0, none⟩)] w fun e w' => ∃ (v : Value) (ks : List (List UInt8)), e = .returned v ∧ ks.Pairwise (fun a b => a ≠ b) ∧ (∀ t, t ∈ ks ↔ S t = true) ∧ ks.length ≤ 16777216 ∧
      w'.ownsRow w.heap.size 28 1 v ks.length ((ks.mergeSort (fun x y => decide (x ≤ y))).map fun y => .string (bs y)) ∧ Below w.heap.size w w' := by
  refine (callsIn_wide (n := 6)).1 ?_
  obtain ⟨ne, hne⟩ := hM.held
  obtain ⟨U, hU1, hU2, _⟩ := mind_held hM
  have hle := mapB_le Tryz.underlying28 hne U (fun t ht => hU2 t (by rwa [setF_some] at ht))
  obtain ⟨D, hown, hs, hd, hk⟩ := mapB_str Tryz.underlying28 hne
  have cK := Tryz.maps_Keys_35
  have cS := Tryz.slices_Sorted_keys_34_35 be ne D _ w hown (by rw [hs]; unfold maxLen; omega) (by rw [hs]; omega)
  have hfK : Fence.wide.fn 35 := trivial
  have hfS : Fence.wide.fn 34 := trivial
  have a1 := blk_cell hM.blk
  have a2 := blk_free hM.blk
  have a3 := blk_lt hM.blk
  have HD := Lib.hid hd
  have HK := Lib.hid hk
  have HS := Lib.hid hs
  have HDL := Lib.hid (show (strKeys D).length = Maps.size D by obtain ⟨es, e, _⟩ := hown.entries (string_keyed Tryz.underlying28); rw [e]; simp [strKeys, Maps.size])
  clear hd hk hs hown hM hne hU2
  refine callsIn_of_wp Tryz.func14 rfl trivial ?_ rfl
  simp only [Tryz.ntmps14, List.size_toArray, List.length_cons, List.length_nil, Nat.reduceAdd, Nat.reduceSub, Array.replicate_succ, Array.replicate_zero, List.push_toArray, List.append_toArray, List.nil_append, List.cons_append]
  gi_wp2_with (first
    | (gi_at_call 35; refine (cK _ _).mono ?_; rintro e w' ⟨rfl, rfl⟩)
    | (gi_at_call 34; refine cS.mono ?_; rintro e w' ⟨v, ss, rfl, hS, hrow, hnil, hb⟩))
  go_ret
  have hb2 : Below w.heap.size w w' := ((Below.refl _ w).alloc (Nat.le_refl _) _).trans (hb.mono (by simp))
  refine ⟨v, ss, rfl, hS.symm.pairwise HD.out (fun {a b} h => h.symm), fun t => ?_, ?_, ownsRow_base_a hrow (by simp), hb2⟩
  · rw [hS.mem_iff, HK.out t, setF_some]
  · rw [hS.length_eq, HDL.out, HS.out]; omega
end Go.Proofs.YtdipkblmcloifaaGreatDoor
