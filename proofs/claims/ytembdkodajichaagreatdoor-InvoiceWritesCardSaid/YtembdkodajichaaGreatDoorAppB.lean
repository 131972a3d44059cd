/- A row of bytes of one's own; bytes put behind it. -/
import Derived.Test.YtembdkodajichaaGreatDoorDigE
import Derived.Deep.AppendLies
import Derived.Maps.AppendAt
set_option linter.unusedSimpArgs false
set_option linter.unusedVariables false
namespace Go.Proofs.YtembdkodajichaaGreatDoor
open Go.RowKit
theorem Tryz.infoB8 : (Tryz.prog.info? 5).map (fun i => (i.zero, i.size, i.bytes)) = some (some (.int .u8 0), 1, 1) := by kernel_rfl
theorem wp_append_run (w : World) {o : Oper} {a : Act} {K : Act → World → Prop} {Q : Exit → Act → World → Prop} (d s : Operand) (t t' : TypeId)
  (ho : o.op = .call { callee := .builtin .append, args := #[d, s], argTypes := #[t, t'] }) (v u : Value) (hd : a.eval d = v) (hs : a.eval s = u) {v' : Value} {w' : World}
  (hr : (Builtin.append_ #[t, t'] o.type #[v, u]).run Tryz.prog w = .ok v' w') (h : K (a.put o.dst v') w') : o.wp Tryz.prog a w K Q := by
 unfold Oper.wp execOp
 simp only [ho, resolve, invoke, builtin, Sem.run_bind, Sem.run_pure, Result.andThen_ok, List.map_toArray, List.map_cons, List.map_nil, hd, hs, hr]
 exact h
theorem wpList_append_run (w : World) {ops : Array Oper} {rest : List Oper} {o : Oper} {a : Act} {Q : Exit → Act → World → Prop} (hgd : o.guard = none) (d s : Operand) (t t' : TypeId)
  (ho : o.op = .call { callee := .builtin .append, args := #[d, s], argTypes := #[t, t'] }) (v u : Value) (hd : a.eval d = v) (hs : a.eval s = u) {v' : Value} {w' : World}
  (hr : (Builtin.append_ #[t, t'] o.type #[v, u]).run Tryz.prog w = .ok v' w') (h : wpList Tryz.prog ops Q rest (a.put o.dst v') w') : wpList Tryz.prog ops Q (o :: rest) a w :=
 wpList_plain hgd fun _ hK => wp_append_run w d s t t' ho v u hd hs hr (hK _ _ h)
def OwnB (lo : Nat) (v : Value) (l : List UInt8) (w : World) : Prop := w.ownsRow lo 5 1 v l.length (u8L l)
theorem ownB_nil (lo : Nat) (w : World) : OwnB lo (.slice none 0 0) [] w := World.ownsRow_nil _ _ _ _
theorem ownB_form {lo : Nat} {v : Value} {l : List UInt8} {w : World} (h : OwnB lo v l w) : ∃ ad c, v = .slice ad l.length c := by
 obtain ⟨ad, m, c, rfl⟩ := own_slice h
 have := own_len h
 subst this
 exact ⟨ad, c, rfl⟩
theorem ownB_gl {lo : Nat} {v : Value} {l : List UInt8} {rs : List Nat} {w w' : World} (h : OwnB lo v l w) (hg : GL rs w w') (hr : ∀ r ∈ rs, v.ownBlock ≠ some r) : OwnB lo v l w' := own_gl h hg hr
theorem ownB_blk {lo : Nat} {v : Value} {l : List UInt8} {w : World} (h : OwnB lo v l w) : ∀ g, v.ownBlock = some g → lo ≤ g ∧ g < w.heap.size := World.ownsRow.lt h
theorem ownB_in {lo : Nat} {v : Value} {l : List UInt8} {w : World} (h : OwnB lo v l w) : InAt v l w ∧ ∀ G o c, v = .slice (some ⟨G, o, none⟩) l.length c → l ≠ [] → lo ≤ G := by
 by_cases hl : l = []
 · subst hl
   obtain ⟨ad, c, rfl⟩ := ownB_form h
   exact ⟨⟨0, 0, c, .inl ⟨rfl, ad, c, rfl⟩, by simp, fun h => absurd rfl h⟩, fun _ _ _ _ h => absurd rfl h⟩
 · have hpos := List.length_pos_iff.2 hl
   obtain ⟨g, cap, hv, hg1, hg2, hc1, hc2, hcell⟩ := own_cells h hpos
   subst hv
   refine ⟨⟨g, 0, cap, .inr ⟨hpos, by simp⟩, hc1, fun _ => ⟨hg2, fun j hj => ?_⟩⟩, fun G o c e _ => ?_⟩
   · rw [Nat.zero_add]
     refine hcell j _ ?_
     unfold u8L
     rw [List.getElem?_map, List.getElem?_eq_getElem hj, List.getD_eq_getElem?_getD, List.getElem?_eq_getElem hj]
     rfl
   · injection e with e1
     injection e1 with e1
     injection e1 with e1
     omega
theorem run_appB (lo : Nat) (v : Value) (l ys : List UInt8) (ad : Addr) (c : Nat) (w : World) (hown : OwnB lo v l w) (hy : 0 < ys.length) (hcell : ∀ j, j < ys.length → w.cell? (ad.add j) = some (.int .u8 (ys.getD j 0).toNat)) (hlen : l.length + ys.length ≤ 1000000000000) (hlo : lo ≤ w.heap.size) :
  ∃ g cap w', (Builtin.append_ #[47, 47] 47 #[v, .slice (some ad) ys.length c]).run Tryz.prog w = .ok (.slice (some ⟨g, 0, none⟩) (l.length + ys.length) cap) w' ∧
   OwnB lo (.slice (some ⟨g, 0, none⟩) (l.length + ys.length) cap) (l ++ ys) w' ∧ w.grownBy w' v.ownBlock ∧ (v.ownBlock = some g ∨ g = w.heap.size) ∧ g < w'.heap.size := by
 obtain ⟨t0, ht0, ht1, ht2, ht3⟩ := info_parts Tryz.infoB8
 obtain ⟨g, cap, w', h1, h2, h3, h4, h5⟩ := run_append_lies (P := Tryz.prog) (w := w) 47 47 lo 5 t0 (.int .u8 0) 1 1 Tryz.underlying47 ht0 ht1 ht2 ht3 rfl de_ v l.length (u8L l) hown ad ys.length c (u8L ys) (by rw [u8L_len]; omega) (fun j u hj => by
  obtain ⟨h1, rfl⟩ := u8L_get _ j u hj
  exact hcell j h1) (fun x hx => by
  unfold u8L at hx
  obtain ⟨y, _, rfl⟩ := List.mem_map.1 hx
  rfl) hy (by unfold maxLen; omega) om_ hlo _ rfl
 refine ⟨g, cap, w', h1, ?_, h3, h4, h5⟩
 unfold OwnB
 rw [List.length_append]
 have e : u8L (l ++ ys) = u8L l ++ u8L ys := by simp [u8L]
 rw [e]
 exact h2
theorem run_appB1 (lo : Nat) (v : Value) (l : List UInt8) (y : UInt8) (X : Int) (hX : X = y.toNat) (w0 w : World) (hw : w = (w0.alloc (.cells #[.int .u8 X] 5)).drew ∨ w = w0.alloc (.cells #[.int .u8 X] 5)) (hown : OwnB lo v l w0) (hlen : l.length ≤ 100000000000) (hlo : lo ≤ w0.heap.size) :
  ∃ g cap w', (Builtin.append_ #[47, 47] 47 #[v, .slice (some ⟨w0.heap.size, 0, none⟩) 1 1]).run Tryz.prog w = .ok (.slice (some ⟨g, 0, none⟩) (l.length + 1) cap) w' ∧
   OwnB lo (.slice (some ⟨g, 0, none⟩) (l.length + 1) cap) (l ++ [y]) w' ∧ GL v.ownBlock.toList w0 w' ∧ (v.ownBlock = some g ∨ w0.heap.size < g) ∧ g < w'.heap.size := by
 subst hX
 have hown2 : OwnB lo v l w := by
  rcases hw with rfl | rfl
  · exact (own_alloc hown _).drew
  · exact own_alloc hown _
 have hsz : w.heap.size = w0.heap.size + 1 := by rcases hw with rfl | rfl <;> simp
 have hcl : w.cell? ⟨w0.heap.size, 0, none⟩ = some (.int .u8 y.toNat) := by
  rcases hw with rfl | rfl
  · exact blk_cell (blk_drew (blk_new w0 (.cells #[.int .u8 (y.toNat : Int)] 5))) 0
  · exact blk_cell (blk_new w0 (.cells #[.int .u8 (y.toNat : Int)] 5)) 0
 have hg0 : GL [] w0 w := by
  rcases hw with rfl | rfl
  · exact gl_drew (gl_alloc (gl_refl _ _) _)
  · exact gl_alloc (gl_refl _ _) _
 obtain ⟨g, cap, w', h1, h2, h3, h4, h5⟩ := run_appB lo v l [y] ⟨w0.heap.size, 0, none⟩ 1 w hown2 si_ (fun j hj => by
  obtain rfl : j = 0 := by simp at hj; omega
  exact hcl) so_ om_
 refine ⟨g, cap, w', h1, h2, gl_grown h3 (gl_step hg0 (gl_refl _ _) si_) (fun r hr => .inl (by simp [hr])), ?_, h5⟩
 rcases h4 with h4 | h4
 · exact .inl h4
 · exact .inr om_
end Go.Proofs.YtembdkodajichaaGreatDoor
