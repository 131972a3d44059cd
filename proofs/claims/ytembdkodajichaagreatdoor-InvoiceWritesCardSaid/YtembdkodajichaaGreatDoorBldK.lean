/- strings.Builder: what stays. -/
import Derived.Test.YtembdkodajichaaGreatDoorMTerm
import Derived.Lib.FrozenHead2
set_option maxRecDepth 100000
set_option maxHeartbeats 2000000
set_option linter.unusedSimpArgs false
set_option linter.unusedVariables false
namespace Go.Proofs.YtembdkodajichaaGreatDoor
open Go.RowKit
def KeepT (b : Nat) (w w' : World) : Prop := ∀ (k T : Nat) (cs : Array Value) (fz : Nat × Nat), w.heap[k]? = some (.cells cs T fz) → T ≠ 5 → k ≠ b → w'.heap[k]? = some (.cells cs T fz)
theorem own_sliceF {w : World} {base e size n : Nat} {v : Value} {xs : List Value} (h : w.ownsRowF base e size v n xs) : ∃ ad m c, v = .slice ad m c := by
 rcases h.2 with ⟨h, _⟩ | ⟨g, cap, _, _, h, _⟩ <;> exact ⟨_, _, _, h⟩
theorem isB_lt {B b : Nat} {l : List UInt8} {w : World} (h : IsB B b l w) : b < w.heap.size ∧ B ≤ b := by
 rcases h with h | h
 · exact ⟨h.lt, h.1⟩
 · exact ⟨h.lt, h.1⟩
theorem tCopyCheckK (B b : Nat) (l : List UInt8) (w : World) (h : IsB B b l w) :
  Calls Tryz.prog 134 #[.pointer (some ⟨b, 0, none⟩)] w fun e w' => e = .returned (.tuple #[]) ∧ Lib.BuilderAtF 117 5 B b (.pointer (some ⟨b, 0, none⟩)) (Lib.byteCells l) w' ∧ Below B w w' ∧ KeepT b w w' := by
 rcases h with h | h
 · refine (copyFresh b w h.cell0 h.shape h.frozen0).mono ?_
   rintro e w' ⟨rfl, rfl⟩
   exact ⟨rfl, h.used _, (Below.refl B w).setCell (p := ⟨b, 0, none⟩) h.1 _, fun k T cs fz hk _ hne => blk_ne hk hne _⟩
 · refine (copyUsed b w h.cell0).mono ?_
   rintro e w' ⟨rfl, rfl⟩
   exact ⟨rfl, h, Below.refl B _, fun k T cs fz hk _ _ => hk⟩
theorem tWriteStringK (B b : Nat) (l s : List UInt8) (w : World) (h : IsB B b l w) (hlen : l.length + s.length ≤ 140737488355328) (hBw : B ≤ w.heap.size) :
  Calls Tryz.prog 85 #[.pointer (some ⟨b, 0, none⟩), .string (bs s)] w fun e w' => e = .returned (.tuple #[.int .i64 s.length, .nilIface]) ∧ IsB B b (l ++ s) w' ∧ Below B w w' ∧ KeepT b w w' := by
 obtain ⟨i0, hi, hz0, hz1, hz2⟩ := info_parts Tryz.infoByte
 go_enter Tryz.func85, Tryz.ntmps85
 go_wp2_with (go_at_call 134; refine (tCopyCheckK B b l _ h).mono ?_)
 rintro e w1 ⟨rfl, h1, hb1, hk1⟩
 obtain ⟨hB, v, hbk, hown, hne⟩ := h1
 have c0 := blk_cell hbk
 have c1 := blk_free hbk
 go_wp2_with (at_builtin; refine Lib.wpList_append_own_stringF _ rfl _ _ 47 9 rfl B 5 i0 Tryz.underlying47 Tryz.underlying9 hi hz0 hz1 hz2 _ _ _ rfl hown (bs s) rfl ?c3 ?c4 ?c5 ?_)
 case c3 => rw [Lib.byteCells_length, bs_size]; unfold maxLen; omega
 case c4 => rw [Lib.byteCells_length, bs_size]; omega
 case c5 => have := hb1.size; omega
 intro v' w2 hown' hgrow _
 have hb2 := blk_grown hbk hgrow (Ne.symm hne)
 have d0 := blk_cell hb2
 have d1 := blk_free hb2
 obtain ⟨ao, n', cap, rfl⟩ : ∃ ao n' cap, v' = .slice ao n' cap := by
  rcases hown'.2 with ⟨hv, _⟩ | ⟨g, cap, cur, fz, hv, _⟩
  · exact ⟨_, _, _, hv⟩
  · exact ⟨_, _, _, hv⟩
 go_wp2
 go_ret2
 refine ⟨rfl, .inr ?_, ?_, ?_⟩
 · have e : Lib.byteCells l ++ Lib.strCells (bs s) = Lib.byteCells (l ++ s) := by simp [Lib.byteCells, Lib.strCells]
   have e2 : (Lib.byteCells l).length + s.length = (Lib.byteCells (l ++ s)).length := by simp [Lib.byteCells_length]
   rw [e, e2] at hown'
   exact Lib.BuilderAtF.put hB hb2 hown' de_
 · exact (hb1.grown hgrow (by have := hb1.size; omega) (fun k hk => (hown.lt k hk).1)).setCell (p := ⟨b, 1, none⟩) hB _
 · intro k T cs fz hk hT hkb
   have q1 := hk1 k T cs fz hk hT hkb
   exact blk_ne (blk_grown q1 hgrow (Ne.symm (Lib.ownBlock_neF hown q1 hT))) hkb _
theorem tWriteByteK (B b : Nat) (l : List UInt8) (ch : UInt8) (x : Int) (hx : x = ch.toNat) (w : World) (h : IsB B b l w) (hlen : l.length + 1 ≤ 140737488355328) (hBw : B ≤ w.heap.size) :
  Calls Tryz.prog 86 #[.pointer (some ⟨b, 0, none⟩), .int .u8 x] w fun e w' => e = .returned .nilIface ∧ IsB B b (l ++ [ch]) w' ∧ Below B w w' ∧ KeepT b w w' := by
 subst hx
 obtain ⟨i0, hi, hz0, hz1, hz2⟩ := info_parts Tryz.infoByte
 go_enter Tryz.func86, Tryz.ntmps86
 go_wp2_with (go_at_call 134; refine (tCopyCheckK B b l _ h).mono ?_)
 rintro e w1 ⟨rfl, h1, hb1, hk1⟩
 obtain ⟨hB, v, hbk, hown, hne⟩ := h1
 have c0 := blk_cell hbk
 have c1 := blk_free hbk
 obtain ⟨av, nv, cv, hvv⟩ : ∃ ao n' cap, v = .slice ao n' cap := by
  rcases hown.2 with ⟨hv, _⟩ | ⟨g, cap, cur, fz, hv, _⟩
  · exact ⟨_, _, _, hv⟩
  · exact ⟨_, _, _, hv⟩
 subst hvv
 go_wp2_with (at_builtin; go_must (refine wpList_append_ownF _ rfl _ _ 47 rfl B 5 i0 (.int .u8 0) 1 1 Tryz.underlying47 hi hz0 hz1 hz2 rfl de_ _ _ _ rfl (hown.alloc _) ⟨w1.heap.size, 0, none⟩ 1 1 [.int .u8 ch.toNat] rfl rfl ?c1 ?c2 ?c3 ?c4 ?c5 ?_; (case c1 => exact cell_one_at rfl); (case c2 => exact one1 rfl); (case c3 => (rw [Lib.byteCells_length]; unfold maxLen; omega)); (case c4 => (rw [Lib.byteCells_length]; omega)); (case c5 => (have := hb1.size; simp; omega)); (intro v' w2 hown' hgrow _); (have hb2 := blk_grown (blk_alloc hbk _) hgrow (Ne.symm hne)); (have d0 := blk_cell hb2); (have d1 := blk_free hb2); (obtain ⟨ao, n', cap, hv'⟩ := own_sliceF hown'); (subst hv')))
 go_wp2
 go_ret
 refine ⟨rfl, .inr ?_, ?_, ?_⟩
 · have e : Lib.byteCells l ++ [Value.int .u8 ch.toNat] = Lib.byteCells (l ++ [ch]) := by simp [Lib.byteCells]
   have e2 : (Lib.byteCells l).length + 1 = (Lib.byteCells (l ++ [ch])).length := by simp [Lib.byteCells_length]
   rw [e, e2] at hown'
   exact Lib.BuilderAtF.put hB hb2 hown' de_
 · exact ((hb1.alloc (by have := hb1.size; omega) _).grown hgrow (by have := hb1.size; simp; omega) (fun k hk => (hown.lt k hk).1)).setCell (p := ⟨b, 1, none⟩) hB _
 · intro k T cs fz hk hT hkb
   have q1 := hk1 k T cs fz hk hT hkb
   exact blk_ne (blk_grown (blk_alloc q1 _) hgrow (Ne.symm (Lib.ownBlock_neF hown q1 hT))) hkb _
end Go.Proofs.YtembdkodajichaaGreatDoor
