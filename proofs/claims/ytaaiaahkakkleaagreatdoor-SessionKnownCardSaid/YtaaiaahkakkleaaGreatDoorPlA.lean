/- A row of terms that is taken from at its head and grown at its end. -/
import Derived.Test.YtaaiaahkakkleaaGreatDoorR21G
import Derived.ArgAppend
set_option linter.unusedSimpArgs false
set_option linter.unusedVariables false
namespace Go.Proofs.YtaaiaahkakkleaaGreatDoor
open Go.RowKit
def QueT (lo : Nat) (v : Value) (ts : List (List UInt8)) (w : World) : Prop :=
 (v = .slice none 0 0 ∧ ts = []) ∨ ∃ g o cap cur, v = .slice (some ⟨g, o, none⟩) ts.length cap ∧ lo ≤ g ∧ w.heap[g]? = some (.cells cur 22 (0, 0)) ∧ ts.length ≤ cap ∧ cap ≤ maxLen ∧ o + cap ≤ cur.size ∧ ∀ (j : Nat) (t : List UInt8), ts[j]? = some t → cur[o + j]? = some (.string (bs t))
theorem queT_nil (lo : Nat) (w : World) : QueT lo (.slice none 0 0) [] w := .inl ⟨rfl, rfl⟩
theorem queT_form {lo : Nat} {v : Value} {ts : List (List UInt8)} {w : World} (h : QueT lo v ts w) : ∃ ad c, v = .slice ad ts.length c := by
 rcases h with ⟨rfl, rfl⟩ | ⟨g, o, cap, cur, rfl, _⟩
 · exact ⟨none, 0, rfl⟩
 · exact ⟨_, cap, rfl⟩
theorem queT_gl {lo : Nat} {v : Value} {ts : List (List UInt8)} {rs : List Nat} {w w' : World} (h : QueT lo v ts w) (hg : GL rs w w') (hr : ∀ r ∈ rs, v.ownBlock ≠ some r) : QueT lo v ts w' := by
 rcases h with h | ⟨g, o, cap, cur, rfl, h1, h2, h3⟩
 · exact .inl h
 · refine .inr ⟨g, o, cap, cur, rfl, h1, ?_, h3⟩
   exact blk_gl h2 hg (fun hm => hr g hm rfl)
theorem queT_blk {lo : Nat} {v : Value} {ts : List (List UInt8)} {w : World} (h : QueT lo v ts w) : ∀ g, v.ownBlock = some g → lo ≤ g ∧ g < w.heap.size := by
 intro g hg
 rcases h with ⟨rfl, _⟩ | ⟨g', o, cap, cur, rfl, h1, h2, _⟩
 · simp [Value.ownBlock] at hg
 · simp [Value.ownBlock] at hg
   subst hg
   exact ⟨h1, blk_lt h2⟩
theorem queT_at {lo : Nat} {v : Value} {ts : List (List UInt8)} {w : World} (h : QueT lo v ts w) {t : List UInt8} {r : List (List UInt8)} (ht : ts = t :: r) :
  ∃ g o c, v = .slice (some ⟨g, o, none⟩) (r.length + 1) c ∧ r.length + 1 ≤ c ∧ c ≤ maxLen ∧ w.cell? ⟨g, o, none⟩ = some (.string (bs t)) ∧ (r.length + 1 < c → QueT lo (.slice (some ⟨g, o + 1, none⟩) r.length (c - 1)) r w) ∧ (c = r.length + 1 → QueT lo (.slice (some ⟨g, o + 1, none⟩) r.length (c - 1)) r w ∧ (r = [] → QueT lo (.slice (some ⟨g, o, none⟩) 0 0) r w)) := by
 rcases h with ⟨_, h0⟩ | ⟨g, o, cap, cur, rfl, h1, h2, h3, h4, h5, h6⟩
 · rw [ht] at h0; cases h0
 · subst ht
   have key : QueT lo (.slice (some ⟨g, o + 1, none⟩) r.length (cap - 1)) r w := by
    simp only [List.length_cons] at h3
    refine .inr ⟨g, o + 1, cap - 1, cur, rfl, h1, h2, by omega, by omega, by omega, fun j u hj => ?_⟩
    have := h6 (j + 1) u (by simpa using hj)
    rwa [show o + (j + 1) = o + 1 + j by omega] at this
   refine ⟨g, o, cap, rfl, h3, h4, ?_, fun _ => key, fun _ => ⟨key, fun hr => ?_⟩⟩
   · have := h6 0 t rfl
     exact (blk_cell h2 o).trans (by simpa using this)
   · subst hr
     exact .inr ⟨g, o, 0, cur, rfl, h1, h2, by simp, by unfold maxLen; omega, by omega, fun j u hj => by simp at hj⟩
theorem run_append_que (lo : Nat) (v : Value) (ts : List (List UInt8)) (t : List UInt8) (wr : World) (h : QueT lo v ts wr) (hl : ts.length ≤ 1000000000) (hlo : lo ≤ wr.heap.size) (S : Nat) (hS : wr.heap.size = S) :
  ∃ g o c w', (Builtin.append_ #[31, 31] 31 #[v, .slice (some ⟨S, 0, none⟩) 1 1]).run Tryz.prog ((wr.alloc (.cells #[.string (bs t)] 22)).drew) = .ok (.slice (some ⟨g, o, none⟩) (ts.length + 1) c) w' ∧
   QueT lo (.slice (some ⟨g, o, none⟩) (ts.length + 1) c) (ts ++ [t]) w' ∧ GL v.ownBlock.toList wr w' ∧ (v.ownBlock = some g ∨ wr.heap.size < g) ∧ g < w'.heap.size := by
 subst hS
 obtain ⟨t0, ht0, ht1, ht2, ht3⟩ := info_parts Tryz.infoTerm
 have hW := blk_new wr (.cells #[.string (bs t)] 22)
 have hnews : ∀ j u, [Value.string (bs t)][j]? = some u → ((wr.alloc (.cells #[.string (bs t)] 22)).drew).cell? ((⟨wr.heap.size, 0, none⟩ : Addr).add j) = some u := cell_one_at rfl
 have hgA : GL ([] : List Nat) wr (wr.alloc (.cells #[.string (bs t)] 22)).drew := gl_drew (gl_alloc (gl_refl _ _) _)
 have hone : ∀ u ∈ [Value.string (bs t)], u.oneCell' = true := one1 rfl
 have grown : ∀ (v' : Value) (w' : World), w'.ownsRow (wr.alloc (.cells #[.string (bs t)] 22)).drew.heap.size 22 1 v' (ts.length + 1) ((ts ++ [t]).map fun y => .string (bs y)) → (wr.alloc (.cells #[.string (bs t)] 22)).drew.grownBy w' none →
   ∃ g c, v' = .slice (some ⟨g, 0, none⟩) (ts.length + 1) c ∧ QueT lo (.slice (some ⟨g, 0, none⟩) (ts.length + 1) c) (ts ++ [t]) w' ∧ GL v.ownBlock.toList wr w' ∧ wr.heap.size < g ∧ g < w'.heap.size := by
  intro v' w' ho hg
  rcases ho.2 with ⟨_, h0⟩ | ⟨g, cap, cur, hv, hb, hg2, hc, hc2, hs, htk⟩
  · omega
  have hsz : wr.heap.size < (wr.alloc (.cells #[.string (bs t)] 22)).drew.heap.size := by simp
  refine ⟨g, cap, hv, .inr ⟨g, 0, cap, cur, by simp, by omega, hg2, by simpa using hc, hc2, by omega, fun j u hj => ?_⟩, ?_, by omega, blk_lt hg2⟩
  · rw [Nat.zero_add, ← Array.getElem?_toList]
    have : (cur.toList.take ((ts.length + 1) * 1))[j]? = some (.string (bs u)) := by rw [htk, List.getElem?_map, hj]; rfl
    rw [List.getElem?_take] at this
    split at this
    · exact this
    · cases this
  · have h1 : GL v.ownBlock.toList wr (wr.alloc (.cells #[.string (bs t)] 22)).drew := gl_drew (gl_alloc (gl_refl _ _) _)
    exact gl_grown hg h1 (fun r hr => by cases hr)
 have emap : (ts.map fun y => Value.string (bs y)) ++ [.string (bs t)] = (ts ++ [t]).map fun y => .string (bs y) := by simp
 rcases h with ⟨rfl, rfl⟩ | ⟨g, o, cap, cur, rfl, h1, h2, h3, h4, h5, h6⟩
 · obtain ⟨v', w', hr, ho, hg, hnil, hat⟩ := run_append_own_at (P := Tryz.prog) ((wr.alloc (.cells #[.string (bs t)] 22)).drew) ((wr.alloc (.cells #[.string (bs t)] 22)).drew).heap.size 31 31 22 t0 (.string ByteArray.empty) 1 16 Tryz.underlying31 ht0 ht1 ht2 ht3 rfl de_ (.slice none 0 0) 0 [] (World.ownsRow_nil _ _ _ _) ⟨wr.heap.size, 0, none⟩ 1 1 [.string (bs t)] rfl hnews hone (by unfold maxLen; omega) om_ (Nat.le_refl _)
   obtain ⟨g, c, rfl, q1, q2, q3, q4⟩ := grown v' w' ho hg
   exact ⟨g, 0, c, w', hr, q1, q2, .inr q3, q4⟩
 · have hg2 := blk_drew (blk_alloc h2 (.cells #[.string (bs t)] 22))
   have hglt := blk_lt h2
   by_cases hroom : ts.length + 1 ≤ cap
   · have hr := run_append_room_cells (P := Tryz.prog) ((wr.alloc (.cells #[.string (bs t)] 22)).drew) 31 31 22 t0 Tryz.underlying31 ht0 g o ts.length cap ⟨wr.heap.size, 0, none⟩ 1 1 [.string (bs t)] (by rw [ht2]; rfl) hnews hone hroom
      (fun j hj => by
        have : j = 0 := by simpa using hj
        subst this
        rw [ht2, blk_cell hg2, Array.getElem?_eq_getElem om_]
        rfl)
      (fun j hj => blk_free hg2 _)
     rw [ht2, Nat.mul_one] at hr
     refine ⟨g, o, cap, _, hr, ?_, ?_, .inl rfl, ?_⟩
     · refine .inr ⟨g, o, cap, cur.setIfInBounds (o + ts.length) (.string (bs t)), by simp, h1, ?_, by simpa using hroom, h4, by simpa using h5, fun j u hj => ?_⟩
       · exact blk_set hg2 (o + ts.length) (.string (bs t))
       · rw [Array.getElem?_setIfInBounds]
         by_cases hj2 : j = ts.length
         · subst hj2
           rw [if_pos rfl, if_pos om_]
           simp at hj
           rw [hj]
         · rw [if_neg om_]
           have hjl : j < ts.length := by
            have := (List.getElem?_eq_some_iff.1 hj).1
            simp at this
            omega
           rw [List.getElem?_append_left hjl] at hj
           exact h6 j u hj
     · exact gl_seti (p := ⟨g, o + ts.length, none⟩) (by simp [Value.ownBlock]) (gl_drew (gl_alloc (gl_refl _ _) _)) (.string (bs t))
     · have hsz : wr.heap.size < (wr.alloc (.cells #[.string (bs t)] 22)).drew.heap.size := by simp
       exact blk_lt (blk_set hg2 (o + ts.length) (.string (bs t)))
   · obtain ⟨v', w', hr, ho, hg⟩ := run_append_arg_grows (P := Tryz.prog) ((wr.alloc (.cells #[.string (bs t)] 22)).drew) 31 31 22 t0 (.string ByteArray.empty) 1 16 Tryz.underlying31 ht0 ht1 ht2 ht3 rfl de_ ⟨g, o, none⟩ ts.length cap (ts.map fun y => .string (bs y)) si_
      (fun j u hj => by
        rw [List.getElem?_map] at hj
        cases hq : ts[j]? with
        | none => rw [hq] at hj; cases hj
        | some y =>
          rw [hq] at hj
          obtain rfl := Option.some.inj hj
          have e1 : (⟨g, o, none⟩ : Addr).add j = ⟨g, o + j, none⟩ := by
           unfold Addr.add; split
           · rename_i hz; simp [hz]
           · rfl
          rw [e1]
          exact (blk_cell hg2 (o + j)).trans (h6 j y hq))
      ⟨wr.heap.size, 0, none⟩ 1 1 [.string (bs t)] rfl hnews om_ (by unfold maxLen; omega) om_
     rw [emap] at ho
     obtain ⟨g', c, rfl, q1, q2, q3, q4⟩ := grown v' w' ho hg
     exact ⟨g', 0, c, w', hr, q1, q2, .inr q3, q4⟩
end Go.Proofs.YtaaiaahkakkleaaGreatDoor
