/- Rows of steps of one's own. -/
import Derived.Test.YtaaiaahkakkleaaGreatDoorPlH
import Derived.Test.YtaaiaahkakkleaaGreatDoorDedC
import Derived.Maps.AppendAt
set_option linter.unusedSimpArgs false
set_option linter.unusedVariables false
namespace Go.Proofs.YtaaiaahkakkleaaGreatDoor
open Go.RowKit
def stepC (x : StepV) : List Value := [.int .i64 x.k, .bool x.sd, .string (bs x.t), .string (bs x.s), .int .i64 x.n]
def stepsC : List StepV → List Value
 | [] => []
 | x :: r => stepC x ++ stepsC r
theorem stepsC_len (ws : List StepV) : (stepsC ws).length = ws.length * 5 := by
 induction ws with
 | nil => rfl
 | cons x r ih => simp only [stepsC, stepC, List.length_append, List.length_cons, List.length_nil, ih]; omega
theorem stepsC_app (a b : List StepV) : stepsC (a ++ b) = stepsC a ++ stepsC b := by
 induction a with
 | nil => rfl
 | cons x r ih => simp only [List.cons_append, stepsC, ih, List.append_assoc]
theorem stepsC_take (ws : List StepV) (k : Nat) : stepsC (ws.take k) = (stepsC ws).take (k * 5) := by
 induction ws generalizing k with
 | nil => simp [stepsC]
 | cons x r ih =>
   cases k with
   | zero => simp [stepsC]
   | succ k =>
     rw [List.take_succ_cons, stepsC, stepsC, ih, List.take_append, show (stepC x).length = 5 from rfl, show (k + 1) * 5 - 5 = k * 5 by omega, List.take_of_length_le (show (stepC x).length ≤ (k + 1) * 5 by show 5 ≤ _; omega)]
theorem stepsC_at (ws : List StepV) (j : Nat) (x : StepV) (h : ws[j]? = some x) (i : Nat) (hi : i < 5) : (stepsC ws)[j * 5 + i]? = (stepC x)[i]? := by
 induction ws generalizing j with
 | nil => simp at h
 | cons y r ih =>
   cases j with
   | zero =>
     simp at h
     subst h
     rw [stepsC, List.getElem?_append_left (by show _ < 5; omega)]
     congr 1
     omega
   | succ j =>
     have := ih j (by simpa using h)
     rw [stepsC, List.getElem?_append_right (by show 5 ≤ _; omega), ← this]
     congr 1
     show _ - 5 = _
     omega
theorem stepsAt_of {ws : List StepV} {w : World} {B : Nat} (hb : B < w.heap.size) (hc : ∀ j u, (stepsC ws)[j]? = some u → w.cell? ⟨B, j, none⟩ = some u) : StepsAt (some ⟨B, 0, none⟩) ws w := fun j x hx => by
 refine ⟨B, 0, rfl, hb, ?_, ?_, ?_, ?_, ?_⟩
 · exact hc _ _ (by rw [Nat.zero_add]; exact stepsC_at ws j x hx 0 om_)
 · exact hc _ _ (by rw [Nat.zero_add]; exact stepsC_at ws j x hx 1 om_)
 · exact hc _ _ (by rw [Nat.zero_add]; exact stepsC_at ws j x hx 2 om_)
 · exact hc _ _ (by rw [Nat.zero_add]; exact stepsC_at ws j x hx 3 om_)
 · exact hc _ _ (by rw [Nat.zero_add]; exact stepsC_at ws j x hx 4 om_)
theorem stepsAt_blk {ws : List StepV} {w : World} {B : Nat} {arr : Array Value} {T : TypeId} (hb : w.heap[B]? = some (.cells arr T (0, 0))) (ha : arr = (stepsC ws).toArray) : StepsAt (some ⟨B, 0, none⟩) ws w :=
 stepsAt_of (blk_lt hb) fun j u hu => by rw [blk_cell hb, ha, List.getElem?_toArray]; exact hu
def OwnS (lo : Nat) (v : Value) (ws : List StepV) (w : World) : Prop := w.ownsRow lo 26 5 v ws.length (stepsC ws)
theorem ownS_nil (lo : Nat) (w : World) : OwnS lo (.slice none 0 0) [] w := World.ownsRow_nil _ _ _ _
theorem own_cellsN {w : World} {base e size n : Nat} {v : Value} {xs : List Value} (h : w.ownsRow base e size v n xs) (hn : 0 < n) :
  ∃ g cap, v = .slice (some ⟨g, 0, none⟩) n cap ∧ base ≤ g ∧ g < w.heap.size ∧ n ≤ cap ∧ cap ≤ maxLen ∧ ∀ j x, xs[j]? = some x → w.cell? ⟨g, j, none⟩ = some x := by
 obtain ⟨h0, h⟩ := h
 rcases h with ⟨_, h⟩ | ⟨g, cap, cur, rfl, hb, hg, hc, hc2, hs, ht⟩
 · omega
 · refine ⟨g, cap, rfl, hb, blk_lt hg, hc, hc2, fun j x hj => ?_⟩
   rw [blk_cell hg, ← Array.getElem?_toList]
   rw [← ht] at hj
   rw [List.getElem?_take] at hj
   split at hj
   · exact hj
   · simp at hj
theorem ownS_at {lo : Nat} {v : Value} {ws : List StepV} {w : World} (h : OwnS lo v ws w) (hn : 0 < ws.length) : ∃ g c, v = .slice (some ⟨g, 0, none⟩) ws.length c ∧ lo ≤ g ∧ g < w.heap.size ∧ StepsAt (some ⟨g, 0, none⟩) ws w := by
 obtain ⟨g, c, rfl, h1, h2, _, _, h3⟩ := own_cellsN h hn
 exact ⟨g, c, rfl, h1, h2, stepsAt_of h2 h3⟩
theorem Tryz.infoStep : (Tryz.prog.info? 26).map (fun i => (i.zero, i.size, i.bytes)) = some (some (.agg #[.int .i64 0, .bool false, .string ByteArray.empty, .string ByteArray.empty, .int .i64 0]), 5, 56) := by kernel_rfl
theorem Tryz.infoU8 : (Tryz.prog.info? 5).map (fun i => (i.zero, i.size, i.bytes)) = some (some (.int .u8 0), 1, 1) := by kernel_rfl
theorem wpList_appS {ops : Array Oper} {rest : List Oper} {o : Oper} {a : Act} {Q : Exit → Act → World → Prop} (hgd : o.guard = none) (s x : Operand)
  (ho : o.op = .call { callee := .builtin .append, args := #[s, x], argTypes := #[27, 27] })
  (lo : Nat) (v : Value) (xs ys : List StepV) (w : World) (B m c : Nat) (hs : a.eval s = v) (hx : a.eval x = .slice (some ⟨B, 0, none⟩) m c) (hm : m = ys.length)
  (hown : OwnS lo v xs w) (hys : ∀ j u, (stepsC ys)[j]? = some u → w.cell? ⟨B, j, none⟩ = some u) (hlen : xs.length + ys.length ≤ 1000000000) (hlo : lo ≤ w.heap.size)
  (h : ∀ v' w', OwnS lo v' (xs ++ ys) w' → GL v.ownBlock.toList w w' → (v'.ownBlock = v.ownBlock ∨ v'.ownBlock = some w.heap.size) → wpList Tryz.prog ops Q rest (a.put o.dst v') w') : wpList Tryz.prog ops Q (o :: rest) a w := by
 subst hm
 obtain ⟨t0, ht0, ht1, ht2, ht3⟩ := info_parts Tryz.infoStep
 refine wpList_append_own_at _ hgd s x 27 ho lo 26 t0 _ 5 56 Tryz.underlying27 ht0 ht1 ht2 ht3 rfl de_ v xs.length (stepsC xs) hs hown ⟨B, 0, none⟩ ys.length c (stepsC ys) hx (stepsC_len ys) ?_ ?_ (by unfold maxLen; omega) om_ hlo ?_
 · intro j u hu
   rw [show (⟨B, 0, none⟩ : Addr).add j = ⟨B, j, none⟩ by simp [Addr.add]; try omega]
   exact hys j u hu
 · intro u hu
   have : ∀ (l : List StepV), u ∈ stepsC l → u.oneCell' = true := by
    intro l
    induction l with
    | nil => intro h; cases h
    | cons y r ih =>
      intro h
      rcases List.mem_append.1 h with h | h
      · simp only [stepC, List.mem_cons, List.not_mem_nil, or_false] at h
        rcases h with rfl | rfl | rfl | rfl | rfl <;> rfl
      · exact ih h
   exact this ys hu
 · intro v' w' h1 h2 _ h4
   rw [← stepsC_app] at h1
   refine h v' w' (by unfold OwnS; rw [List.length_append]; exact h1) (gl_grown h2 (gl_refl _ _) (fun r hr => .inl (Option.mem_toList.2 hr))) h4
theorem wpList_appO {ops : Array Oper} {rest : List Oper} {o : Oper} {a : Act} {Q : Exit → Act → World → Prop} (hgd : o.guard = none) (s x : Operand)
  (ho : o.op = .call { callee := .builtin .append, args := #[s, x], argTypes := #[27, 27] })
  (lo : Nat) (os : List StepV) (w : World) (B m c : Nat) {T : TypeId} {arr : Array Value} (hs : a.eval s = .slice none 0 0) (hx : a.eval x = .slice (some ⟨B, 0, none⟩) m c)
  (hB : w.heap[B]? = some (.cells arr T (0, 0))) (ha : arr = (stepsC os).toArray) (hm : m ≤ os.length) (hos : os.length ≤ 1000) (hlo : lo ≤ w.heap.size)
  (h : ∀ ad n c' w' os', (∃ m, os' = os.take m) → os'.length ≤ os.length → OwnS lo (.slice ad n c') os' w' → n ≤ os.length → GL [] w w' → wpList Tryz.prog ops Q rest (a.put o.dst (.slice ad n c')) w') : wpList Tryz.prog ops Q (o :: rest) a w := by
 refine wpList_appS hgd s x ho lo (.slice none 0 0) [] (os.take m) w B m c hs hx (by rw [List.length_take]; omega) (ownS_nil _ _) (fun j u hu => ?_) so_ hlo ?_
 · rw [stepsC_take] at hu
   rw [blk_cell hB, ha, List.getElem?_toArray]
   rw [List.getElem?_take] at hu
   split at hu
   · exact hu
   · cases hu
 · intro v' w' h1 h2 _
   rw [List.nil_append] at h1
   obtain ⟨ad, n, c', rfl⟩ := own_slice h1
   have hl := own_len h1
   refine h ad n c' w' _ ⟨m, rfl⟩ (by rw [List.length_take]; omega) h1 (by rw [hl, List.length_take]; omega) h2
theorem run_convN {P : Program} (w : World) (src dst e : TypeId) (g n cap : Nat) (hs : P.underlying src = some (.slice e)) (he : P.underlying e = some (.int .u8)) (hd : P.underlying dst = some .string)
  (hc : ∀ j, j < n → w.cell? ⟨g, j, none⟩ = some (.int .u8 120)) :
  (convert src dst (.slice (some ⟨g, 0, none⟩) n cap)).run P w = .ok (.string (bs (List.replicate n 120))) w := by
 have h := run_convert_bytes_back (P := P) w src dst e ⟨g, 0, none⟩ cap (List.replicate n 120) hs he hd (by
  intro j hj
  rw [List.length_replicate] at hj
  rw [show (⟨g, 0, none⟩ : Addr).add j = ⟨g, j, none⟩ by simp [Addr.add]; try omega, hc j hj]
  simp)
 rw [List.length_replicate] at h
 exact h
end Go.Proofs.YtaaiaahkakkleaaGreatDoor
