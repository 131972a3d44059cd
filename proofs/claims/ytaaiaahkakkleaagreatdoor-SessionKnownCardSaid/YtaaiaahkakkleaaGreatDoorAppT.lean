/- A row of terms of one's own: an append of one term. -/
import Derived.Test.YtaaiaahkakkleaaGreatDoorDedI
import Derived.Maps.AppendAt
set_option linter.unusedSimpArgs false
set_option linter.unusedVariables false
namespace Go.Proofs.YtaaiaahkakkleaaGreatDoor
open Go.RowKit
theorem own_termsT {w : World} {base n c : Nat} {ad : Option Addr} {ts : List (List UInt8)} (h : w.ownsRow base 22 1 (.slice ad n c) ts.length (ts.map fun y => .string (bs y))) : TermsAt (.slice ad n c) ts w ∧ n = ts.length ∧ ∀ b o c', Value.slice ad n c = .slice (some ⟨b, o, none⟩) ts.length c' → base ≤ b := by
 have hge : ∀ b o c', Value.slice ad n c = .slice (some ⟨b, o, none⟩) ts.length c' → base ≤ b := by
  intro b o c' e
  rcases h.2 with ⟨_, h2⟩ | ⟨g, cap, cur, h1, h2, _⟩
  · injection e with e1 _ _
    subst e1
    have := h.1
    rcases h with ⟨_, ⟨h3, h4⟩ | ⟨g, cap, cur, h1, h2, _⟩⟩
    · injection h3 with h5; cases h5
    · injection h1 with h5 _ _
      injection h5 with h5
      injection h5 with h6
      omega
  · injection e with e1 _ _
    injection h1 with h3 _ _
    rw [e1] at h3
    injection h3 with h3
    injection h3 with h4
    omega
 have hlen := own_len h
 refine ⟨?_, hlen, hge⟩
 by_cases hz : ts.length = 0
 · exact .inl ⟨ad, c, by rw [hlen, hz], List.eq_nil_of_length_eq_zero hz⟩
 · obtain ⟨g, cap, hv, hgb, hgw, _, _, hcell⟩ := own_cells h om_
   refine .inr ⟨g, 0, cap, hv, hgw, fun i u hi => ?_⟩
   rw [Nat.zero_add]
   exact hcell i _ (by simp [hi])
def OwnT (lo : Nat) (v : Value) (xs : List (List UInt8)) (w : World) : Prop := w.ownsRow lo 22 1 v xs.length (xs.map fun y => .string (bs y))
theorem ownT_nil (lo : Nat) (w : World) : OwnT lo (.slice none 0 0) [] w := World.ownsRow_nil _ _ _ _
theorem ownT_form {lo : Nat} {v : Value} {xs : List (List UInt8)} {w : World} (h : OwnT lo v xs w) : ∃ ad c, v = .slice ad xs.length c := by
 obtain ⟨ad, m, c, rfl⟩ := own_slice h
 have := own_len h
 subst this
 exact ⟨ad, c, rfl⟩
theorem ownT_at {lo : Nat} {v : Value} {xs : List (List UInt8)} {w : World} (h : OwnT lo v xs w) : TermsAt v xs w := by
 obtain ⟨ad, c, rfl⟩ := ownT_form h
 exact (own_termsT h).1
theorem ownT_gl {lo : Nat} {v : Value} {xs : List (List UInt8)} {rs : List Nat} {w w' : World} (h : OwnT lo v xs w) (hg : GL rs w w') (hr : ∀ r ∈ rs, v.ownBlock ≠ some r) : OwnT lo v xs w' := own_gl h hg hr
theorem ownT_below {lo : Nat} {v : Value} {xs : List (List UInt8)} {w w' : World} (h : OwnT lo v xs w) (hb : Below w.heap.size w w') : OwnT lo v xs w' := own_gl h (gl_below hb (gl_refl [] _)) si_
theorem ownT_blk {lo : Nat} {v : Value} {xs : List (List UInt8)} {w : World} (h : OwnT lo v xs w) : ∀ g, v.ownBlock = some g → lo ≤ g ∧ g < w.heap.size := World.ownsRow.lt h
theorem wpList_appT {ops : Array Oper} {rest : List Oper} {o : Oper} {a : Act} {Q : Exit → Act → World → Prop} (hgd : o.guard = none) (s x : Operand)
  (ho : o.op = .call { callee := .builtin .append, args := #[s, x], argTypes := #[31, 31] })
  (lo : Nat) (v : Value) (xs : List (List UInt8)) (y : List UInt8) (w0 w : World) (hw : w = w0.alloc (.cells #[.string (bs y)] 22)) (hs : a.eval s = v) (hx : a.eval x = .slice (some ⟨w0.heap.size, 0, none⟩) 1 1)
  (hown : OwnT lo v xs w0) (hlen : xs.length ≤ 1000000000000) (hlo : lo ≤ w0.heap.size)
  (h : ∀ g c w', OwnT lo (.slice (some ⟨g, 0, none⟩) (xs.length + 1) c) (xs ++ [y]) w' → GL v.ownBlock.toList w0 w' → (v.ownBlock = some g ∨ w0.heap.size < g) → wpList Tryz.prog ops Q rest (a.put o.dst (.slice (some ⟨g, 0, none⟩) (xs.length + 1) c)) w') : wpList Tryz.prog ops Q (o :: rest) a w := by
 obtain ⟨t0, ht0, ht1, ht2, ht3⟩ := info_parts Tryz.infoTerm
 subst hw
 refine wpList_append_own_at _ hgd s x 31 ho lo 22 t0 (.string ByteArray.empty) 1 16 Tryz.underlying31 ht0 ht1 ht2 ht3 rfl de_ v xs.length (xs.map fun y => .string (bs y)) hs (own_alloc hown _) ⟨w0.heap.size, 0, none⟩ 1 1 [.string (bs y)] hx rfl (cell_one_at rfl) (one1 rfl) (by unfold maxLen; omega) om_ so_ ?_
 intro v' w' h1 h2 h3 h4
 have e1 : (xs.map fun y => Value.string (bs y)) ++ [.string (bs y)] = (xs ++ [y]).map fun y => .string (bs y) := by simp
 rw [e1] at h1
 have h5 : OwnT lo v' (xs ++ [y]) w' := by unfold OwnT; rw [List.length_append]; exact h1
 obtain ⟨g, c, hv, _⟩ := own_cells h5 si_
 have hv2 : v' = .slice (some ⟨g, 0, none⟩) (xs.length + 1) c := by rw [hv, List.length_append]; rfl
 subst hv2
 refine h g c w' h5 (gl_step (gl_grown h2 (gl_refl _ _) (fun r hr => .inl (Option.mem_toList.2 hr))) (gl_alloc (gl_refl _ _) _) (fun r hr => .inl hr)) ?_
 rcases h4 with h4 | h4
 · exact .inl h4.symm
 · refine .inr ?_
   have : g = (w0.alloc (.cells #[.string (bs y)] 22)).heap.size := by simpa [Value.ownBlock] using h4
   rw [this]; simp
end Go.Proofs.YtaaiaahkakkleaaGreatDoor
