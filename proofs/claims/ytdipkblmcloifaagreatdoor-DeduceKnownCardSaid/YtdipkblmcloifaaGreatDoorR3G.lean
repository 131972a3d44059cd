/- The document's layer 3: what can be taken apart, in order. -/
import Derived.Test.YtdipkblmcloifaaGreatDoorR3F
import Derived.Test.YtdipkblmcloifaaGreatDoorRegI
import Derived.Test.YtdipkblmcloifaaGreatDoorDedS
set_option linter.unusedSimpArgs false
set_option linter.unusedVariables false
namespace Go.Proofs.YtdipkblmcloifaaGreatDoor
open Go.RowKit

theorem fold_prefix : ∀ (ks l : List (List UInt8)), ∃ r, ks.foldl addR l = l ++ r
  | [], l => ⟨[], by simp⟩
  | k :: ks, l => by
    obtain ⟨r, hr⟩ := fold_prefix ks (addR l k)
    rw [List.foldl_cons, hr]
    unfold addR
    split
    · exact ⟨r, rfl⟩
    · exact ⟨k :: r, by simp⟩
theorem tw_of (q : List UInt8 → Bool) : ∀ (l : List (List UInt8)) (a : Nat), (l.take a).all q = true → (∀ y, l[a]? = some y → q y = false) → l.takeWhile q = l.take a ∧ l.dropWhile q = l.drop a
  | [], a, _, _ => by simp
  | z :: r, 0, _, h => by
    have := h z rfl
    simp [List.takeWhile_cons, List.dropWhile_cons, this]
  | z :: r, a + 1, h1, h2 => by
    simp only [List.take_succ_cons, List.all_cons, Bool.and_eq_true] at h1
    obtain ⟨i1, i2⟩ := tw_of q r a h1.2 (fun y hy => h2 y (by simpa using hy))
    simp [List.takeWhile_cons, List.dropWhile_cons, h1.1, i1, i2]
theorem insR_at {l : List (List UInt8)} {x : List UInt8} {a : Nat} (h1 : (l.take a).all (fun y => Op.bytesLess y x) = true) (h2 : ∀ y, l[a]? = some y → Op.bytesLess y x = false) : insR l x = l.take a ++ [x] ++ l.drop a := by
  obtain ⟨i1, i2⟩ := tw_of _ l a h1 h2
  unfold insR
  rw [i1, i2]
  simp
theorem held_in {H S : List UInt8 → Bool} {all heard : List (List UInt8)} (hL : Least H S) (hU : Shut all) (hH : ∀ t, H t = true ↔ t ∈ heard) (hh : ∀ x ∈ heard, x ∈ all) : ∀ u, S u = true → u ∈ all := fun u hu => by
  have := hL.2.2 (fun u => decide (u ∈ all)) (fun u hu => by rw [decide_eq_true_eq]; exact hh u ((hH u).1 hu)) (fun u x hu hx => ?_) u hu
  · simpa using this
  · rw [decide_eq_true_eq] at hu
    refine ⟨fun _ k hk => by rw [decide_eq_true_eq]; exact hU.kid u x hu hx k hk, fun ho _ => ?_⟩
    obtain ⟨a, b, e, _⟩ := rt_two_kids hx (by rw [show x.op = 66 from UInt8.toNat_inj.1 ho]; rfl)
    rw [e, decide_eq_true_eq]
    exact hU.kid u x hu hx b (by rw [e]; simp)
/-- What is answered: a row of all that is held, in order. -/
def HeldP (S : List UInt8 → Bool) (w : World) (e : Ending) (w' : World) : Prop :=
  ∃ u out l, e = .returned u ∧ OwnT w.heap.size u out w' ∧ out.Pairwise (fun a b => leS a b = true) ∧ out.Perm l ∧ l.Pairwise (fun a b => a ≠ b) ∧ (∀ t, t ∈ l ↔ S t = true) ∧ out.length ≤ 2000000000 ∧ Below w.heap.size w w'
theorem rowW_new {lo : Nat} {v1 v2 : Value} {w0 w1 w2 : World} {l1 l2 : List (List UInt8)} (h : RowW lo (.slice none 0 0) w0 v1 l1 w1) (h2 : RowW lo (.slice none 0 0) w1 v2 l2 w2) : RowW lo (.slice none 0 0) w0 v2 l2 w2 :=
  ⟨h2.own, gl_step h2.gl h.gl (fun r hr => .inl hr), fun g hg => by
    rcases h2.blk g hg with h3 | h3
    · exact .inl h3
    · exact .inr (Nat.le_trans h.gl.size h3)⟩
theorem ownT_cells {lo : Nat} {v : Value} {xs : List (List UInt8)} {w : World} (h : OwnT lo v xs w) (hn : xs ≠ []) : ∃ g c, v = .slice (some ⟨g, 0, none⟩) xs.length c ∧ xs.length ≤ c ∧ c ≤ maxLen ∧ g < w.heap.size ∧ ∀ (i : Nat) (t : List UInt8), xs[i]? = some t → w.cell? ⟨g, i, none⟩ = some (.string (bs t)) := by
  obtain ⟨g, c, hv, _, h2, h3, h4, h5⟩ := own_cells h (by cases xs with | nil => exact absurd rfl hn | cons _ _ => simp)
  exact ⟨g, c, hv, h3, h4, h2, fun i t ht => h5 i _ (by rw [List.getElem?_map, ht]; rfl)⟩
def h22aDS : List (Option Nat) := [some 73, some 74, some 75, some 76, some 77, some 78, some 79, some 80, some 81, some 82, some 83, some 84, some 85, some 86, some 87]
def h22aGS (n oc a1 : Nat) (oa : Option Addr) : List (Option Value) := [some (.int .i64 a1), some (.slice oa n oc), some (.int .i64 n), some (.bool false), some (.bool false), none, none, none, none, none, none, none, none, none, some (.bool false)]
section
variable {ops : Array Oper} {Q : Exit → Act → World → Prop} {a0 : Act} {I : World → Prop} {af : Array Edge} {ty : Nat} {pos : String} {at_ : Array TypeId} {n oc a1 : Nat} {oa : Option Addr}
set_option maxRecDepth 100000 in
set_option maxHeartbeats 1000000 in
theorem h22a73 (o11 : a0.tmps[11]? = some (.int .i64 a1)) : StepI Tryz.prog ops Q a0 h22aDS I (GV (h22aGS n oc a1 oa)) 0 { dst := some 73, op := .move (.tmp 11), type := ty, pos := pos, after := af, guard := none } := by
  intro a w hout hI hdep K hK
  rw [if_pos (by simp [Region.wanted])]
  have o11w := (hout 11 (by decide)).trans o11
  clear hout hdep
  clear o11
  go_simp
  exact hK _ _ (gv_of rfl (by first | rfl | (simp; done))) hI
set_option maxRecDepth 100000 in
set_option maxHeartbeats 1000000 in
theorem h22a74 (o9 : a0.tmps[9]? = some (.slice oa n oc)) : StepI Tryz.prog ops Q a0 h22aDS I (GV (h22aGS n oc a1 oa)) 1 { dst := some 74, op := .move (.tmp 9), type := ty, pos := pos, after := af, guard := none } := by
  intro a w hout hI hdep K hK
  rw [if_pos (by simp [Region.wanted])]
  have o9w := (hout 9 (by decide)).trans o9
  clear hout hdep
  clear o9
  go_simp
  exact hK _ _ (gv_of rfl (by first | rfl | (simp; done))) hI
set_option maxRecDepth 100000 in
set_option maxHeartbeats 1000000 in
theorem h22a75 (h74 : (⟨1, .data⟩ : Edge) ∈ af.toList) : StepI Tryz.prog ops Q a0 h22aDS I (GV (h22aGS n oc a1 oa)) 2 { dst := some 75, op := .call { callee := .builtin .len, args := #[.tmp 74], argTypes := #[22] }, type := ty, pos := pos, after := af, guard := none } := by
  intro a w hout hI hdep K hK
  rw [if_pos (by simp [Region.wanted])]
  obtain ⟨v74, g74, e74⟩ := hdep ⟨1, .data⟩ h74 rfl
  have e74 := e74 74 rfl
  have g74 := g74 _ rfl
  subst g74
  clear hout hdep
  go_simp
  exact hK _ _ (gv_of rfl (by first | rfl | (simp; done))) hI
set_option maxRecDepth 100000 in
set_option maxHeartbeats 1000000 in
theorem h22a76 (h73 : (⟨0, .data⟩ : Edge) ∈ af.toList) (h75 : (⟨2, .data⟩ : Edge) ∈ af.toList) (hlt : n ≤ a1) : StepI Tryz.prog ops Q a0 h22aDS I (GV (h22aGS n oc a1 oa)) 3 { dst := some 76, op := .binOp .lss 3 (.tmp 73) (.tmp 75) 3, type := ty, pos := pos, after := af, guard := none } := by
  intro a w hout hI hdep K hK
  rw [if_pos (by simp [Region.wanted])]
  obtain ⟨v73, g73, e73⟩ := hdep ⟨0, .data⟩ h73 rfl
  have e73 := e73 73 rfl
  have g73 := g73 _ rfl
  subst g73
  obtain ⟨v75, g75, e75⟩ := hdep ⟨2, .data⟩ h75 rfl
  have e75 := e75 75 rfl
  have g75 := g75 _ rfl
  subst g75
  clear hout hdep
  go_simp
  exact hK _ _ (gv_of rfl (by first | rfl | (simp; done) | go_num)) hI
set_option maxRecDepth 100000 in
set_option maxHeartbeats 1000000 in
theorem h22a77 (h76 : (⟨3, .data⟩ : Edge) ∈ af.toList) : StepI Tryz.prog ops Q a0 h22aDS I (GV (h22aGS n oc a1 oa)) 4 { dst := some 77, op := .move (.tmp 76), type := ty, pos := pos, after := af, guard := none } := by
  intro a w hout hI hdep K hK
  rw [if_pos (by simp [Region.wanted])]
  obtain ⟨v76, g76, e76⟩ := hdep ⟨3, .data⟩ h76 rfl
  have e76 := e76 76 rfl
  have g76 := g76 _ rfl
  subst g76
  clear hout hdep
  go_simp
  exact hK _ _ (gv_of rfl (by first | rfl | (simp; done))) hI
set_option maxRecDepth 100000 in
set_option maxHeartbeats 1000000 in
theorem h22a78 (hg : (⟨4, .guard⟩ : Edge) ∈ af.toList) (hgo : ops[4]?.bind (·.dst) = some 77) : StepI Tryz.prog ops Q a0 h22aDS I (GV (h22aGS n oc a1 oa)) 5 { dst := some 78, op := .move (.tmp 9), type := ty, pos := pos, after := af, guard := some (4, true) } := by
  intro a w hout hI hdep K hK
  obtain ⟨vg, gg, eg⟩ := hdep ⟨4, .guard⟩ hg rfl
  have eg := eg 77 rfl
  have gg := gg _ rfl
  subst gg
  have hy := yielded_is hgo eg
  rw [if_neg (by simp [Region.wanted, hy])]
  exact hK _ _ (gv_none rfl) hI
set_option maxRecDepth 100000 in
set_option maxHeartbeats 1000000 in
theorem h22a79 (hg : (⟨4, .guard⟩ : Edge) ∈ af.toList) (hgo : ops[4]?.bind (·.dst) = some 77) : StepI Tryz.prog ops Q a0 h22aDS I (GV (h22aGS n oc a1 oa)) 6 { dst := some 79, op := .move (.tmp 11), type := ty, pos := pos, after := af, guard := some (4, true) } := by
  intro a w hout hI hdep K hK
  obtain ⟨vg, gg, eg⟩ := hdep ⟨4, .guard⟩ hg rfl
  have eg := eg 77 rfl
  have gg := gg _ rfl
  subst gg
  have hy := yielded_is hgo eg
  rw [if_neg (by simp [Region.wanted, hy])]
  exact hK _ _ (gv_none rfl) hI
set_option maxRecDepth 100000 in
set_option maxHeartbeats 1000000 in
theorem h22a80 (hg : (⟨4, .guard⟩ : Edge) ∈ af.toList) (hgo : ops[4]?.bind (·.dst) = some 77) : StepI Tryz.prog ops Q a0 h22aDS I (GV (h22aGS n oc a1 oa)) 7 { dst := some 80, op := .indexAddr 22 (.tmp 78) (.tmp 79), type := ty, pos := pos, after := af, guard := some (4, true) } := by
  intro a w hout hI hdep K hK
  obtain ⟨vg, gg, eg⟩ := hdep ⟨4, .guard⟩ hg rfl
  have eg := eg 77 rfl
  have gg := gg _ rfl
  subst gg
  have hy := yielded_is hgo eg
  rw [if_neg (by simp [Region.wanted, hy])]
  exact hK _ _ (gv_none rfl) hI
set_option maxRecDepth 100000 in
set_option maxHeartbeats 1000000 in
theorem h22a81 (hg : (⟨4, .guard⟩ : Edge) ∈ af.toList) (hgo : ops[4]?.bind (·.dst) = some 77) : StepI Tryz.prog ops Q a0 h22aDS I (GV (h22aGS n oc a1 oa)) 8 { dst := some 81, op := .load 28 (.tmp 80), type := ty, pos := pos, after := af, guard := some (4, true) } := by
  intro a w hout hI hdep K hK
  obtain ⟨vg, gg, eg⟩ := hdep ⟨4, .guard⟩ hg rfl
  have eg := eg 77 rfl
  have gg := gg _ rfl
  subst gg
  have hy := yielded_is hgo eg
  rw [if_neg (by simp [Region.wanted, hy])]
  exact hK _ _ (gv_none rfl) hI
set_option maxRecDepth 100000 in
set_option maxHeartbeats 1000000 in
theorem h22a82 (hg : (⟨4, .guard⟩ : Edge) ∈ af.toList) (hgo : ops[4]?.bind (·.dst) = some 77) : StepI Tryz.prog ops Q a0 h22aDS I (GV (h22aGS n oc a1 oa)) 9 { dst := some 82, op := .move (.tmp 4), type := ty, pos := pos, after := af, guard := some (4, true) } := by
  intro a w hout hI hdep K hK
  obtain ⟨vg, gg, eg⟩ := hdep ⟨4, .guard⟩ hg rfl
  have eg := eg 77 rfl
  have gg := gg _ rfl
  subst gg
  have hy := yielded_is hgo eg
  rw [if_neg (by simp [Region.wanted, hy])]
  exact hK _ _ (gv_none rfl) hI
set_option maxRecDepth 100000 in
set_option maxHeartbeats 1000000 in
theorem h22a83 (hg : (⟨4, .guard⟩ : Edge) ∈ af.toList) (hgo : ops[4]?.bind (·.dst) = some 77) : StepI Tryz.prog ops Q a0 h22aDS I (GV (h22aGS n oc a1 oa)) 10 { dst := some 83, op := .move (.tmp 10), type := ty, pos := pos, after := af, guard := some (4, true) } := by
  intro a w hout hI hdep K hK
  obtain ⟨vg, gg, eg⟩ := hdep ⟨4, .guard⟩ hg rfl
  have eg := eg 77 rfl
  have gg := gg _ rfl
  subst gg
  have hy := yielded_is hgo eg
  rw [if_neg (by simp [Region.wanted, hy])]
  exact hK _ _ (gv_none rfl) hI
set_option maxRecDepth 100000 in
set_option maxHeartbeats 1000000 in
theorem h22a84 (hg : (⟨4, .guard⟩ : Edge) ∈ af.toList) (hgo : ops[4]?.bind (·.dst) = some 77) : StepI Tryz.prog ops Q a0 h22aDS I (GV (h22aGS n oc a1 oa)) 11 { dst := some 84, op := .indexAddr 22 (.tmp 82) (.tmp 83), type := ty, pos := pos, after := af, guard := some (4, true) } := by
  intro a w hout hI hdep K hK
  obtain ⟨vg, gg, eg⟩ := hdep ⟨4, .guard⟩ hg rfl
  have eg := eg 77 rfl
  have gg := gg _ rfl
  subst gg
  have hy := yielded_is hgo eg
  rw [if_neg (by simp [Region.wanted, hy])]
  exact hK _ _ (gv_none rfl) hI
set_option maxRecDepth 100000 in
set_option maxHeartbeats 1000000 in
theorem h22a85 (hg : (⟨4, .guard⟩ : Edge) ∈ af.toList) (hgo : ops[4]?.bind (·.dst) = some 77) : StepI Tryz.prog ops Q a0 h22aDS I (GV (h22aGS n oc a1 oa)) 12 { dst := some 85, op := .load 28 (.tmp 84), type := ty, pos := pos, after := af, guard := some (4, true) } := by
  intro a w hout hI hdep K hK
  obtain ⟨vg, gg, eg⟩ := hdep ⟨4, .guard⟩ hg rfl
  have eg := eg 77 rfl
  have gg := gg _ rfl
  subst gg
  have hy := yielded_is hgo eg
  rw [if_neg (by simp [Region.wanted, hy])]
  exact hK _ _ (gv_none rfl) hI
set_option maxRecDepth 100000 in
set_option maxHeartbeats 1000000 in
theorem h22a86 (hg : (⟨4, .guard⟩ : Edge) ∈ af.toList) (hgo : ops[4]?.bind (·.dst) = some 77) : StepI Tryz.prog ops Q a0 h22aDS I (GV (h22aGS n oc a1 oa)) 13 { dst := some 86, op := .binOp .lss 28 (.tmp 81) (.tmp 85) 28, type := ty, pos := pos, after := af, guard := some (4, true) } := by
  intro a w hout hI hdep K hK
  obtain ⟨vg, gg, eg⟩ := hdep ⟨4, .guard⟩ hg rfl
  have eg := eg 77 rfl
  have gg := gg _ rfl
  subst gg
  have hy := yielded_is hgo eg
  rw [if_neg (by simp [Region.wanted, hy])]
  exact hK _ _ (gv_none rfl) hI
set_option maxRecDepth 100000 in
set_option maxHeartbeats 1000000 in
theorem h22a87 (h77 : (⟨4, .data⟩ : Edge) ∈ af.toList) : StepI Tryz.prog ops Q a0 h22aDS I (GV (h22aGS n oc a1 oa)) 14 { dst := some 87, op := .pick (.tmp 77) (.tmp 86) (.const (.bool false)), type := ty, pos := pos, after := af, guard := none } := by
  intro a w hout hI hdep K hK
  rw [if_pos (by simp [Region.wanted])]
  obtain ⟨v77, g77, e77⟩ := hdep ⟨4, .data⟩ h77 rfl
  have e77 := e77 77 rfl
  have g77 := g77 _ rfl
  subst g77
  clear hout hdep
  go_simp
  exact hK _ _ (gv_of rfl (by first | rfl | (simp; done))) hI
end
def h22bDS : List (Option Nat) := [some 73, some 74, some 75, some 76, some 77, some 78, some 79, some 80, some 81, some 82, some 83, some 84, some 85, some 86, some 87]
def h22bGS (g q n oc m lc a1 i : Nat) (x y : List UInt8) : List (Option Value) := [some (.int .i64 a1), some (.slice (some ⟨g, 0, none⟩) n oc), some (.int .i64 n), some (.bool true), some (.bool true), some (.slice (some ⟨g, 0, none⟩) n oc), some (.int .i64 a1), some (.pointer (some ⟨g, a1, none⟩)), some (.string (bs y)), some (.slice (some ⟨q, 0, none⟩) m lc), some (.int .i64 i), some (.pointer (some ⟨q, i, none⟩)), some (.string (bs x)), some (.bool false), some (.bool false)]
section
variable {ops : Array Oper} {Q : Exit → Act → World → Prop} {a0 : Act} {I : World → Prop} {af : Array Edge} {ty : Nat} {pos : String} {at_ : Array TypeId} {g q n oc m lc a1 i : Nat} {x y : List UInt8}
set_option maxRecDepth 100000 in
set_option maxHeartbeats 1000000 in
theorem h22b73 (o11 : a0.tmps[11]? = some (.int .i64 a1)) : StepI Tryz.prog ops Q a0 h22bDS I (GV (h22bGS g q n oc m lc a1 i x y)) 0 { dst := some 73, op := .move (.tmp 11), type := ty, pos := pos, after := af, guard := none } := by
  intro a w hout hI hdep K hK
  rw [if_pos (by simp [Region.wanted])]
  have o11w := (hout 11 (by decide)).trans o11
  clear hout hdep
  clear o11
  go_simp
  exact hK _ _ (gv_of rfl (by first | rfl | (simp; done))) hI
set_option maxRecDepth 100000 in
set_option maxHeartbeats 1000000 in
theorem h22b74 (o9 : a0.tmps[9]? = some (.slice (some ⟨g, 0, none⟩) n oc)) : StepI Tryz.prog ops Q a0 h22bDS I (GV (h22bGS g q n oc m lc a1 i x y)) 1 { dst := some 74, op := .move (.tmp 9), type := ty, pos := pos, after := af, guard := none } := by
  intro a w hout hI hdep K hK
  rw [if_pos (by simp [Region.wanted])]
  have o9w := (hout 9 (by decide)).trans o9
  clear hout hdep
  clear o9
  go_simp
  exact hK _ _ (gv_of rfl (by first | rfl | (simp; done))) hI
set_option maxRecDepth 100000 in
set_option maxHeartbeats 1000000 in
theorem h22b75 (h74 : (⟨1, .data⟩ : Edge) ∈ af.toList) : StepI Tryz.prog ops Q a0 h22bDS I (GV (h22bGS g q n oc m lc a1 i x y)) 2 { dst := some 75, op := .call { callee := .builtin .len, args := #[.tmp 74], argTypes := #[22] }, type := ty, pos := pos, after := af, guard := none } := by
  intro a w hout hI hdep K hK
  rw [if_pos (by simp [Region.wanted])]
  obtain ⟨v74, g74, e74⟩ := hdep ⟨1, .data⟩ h74 rfl
  have e74 := e74 74 rfl
  have g74 := g74 _ rfl
  subst g74
  clear hout hdep
  go_simp
  exact hK _ _ (gv_of rfl (by first | rfl | (simp; done))) hI
set_option maxRecDepth 100000 in
set_option maxHeartbeats 1000000 in
theorem h22b76 (h73 : (⟨0, .data⟩ : Edge) ∈ af.toList) (h75 : (⟨2, .data⟩ : Edge) ∈ af.toList) (hlt : a1 < n) : StepI Tryz.prog ops Q a0 h22bDS I (GV (h22bGS g q n oc m lc a1 i x y)) 3 { dst := some 76, op := .binOp .lss 3 (.tmp 73) (.tmp 75) 3, type := ty, pos := pos, after := af, guard := none } := by
  intro a w hout hI hdep K hK
  rw [if_pos (by simp [Region.wanted])]
  obtain ⟨v73, g73, e73⟩ := hdep ⟨0, .data⟩ h73 rfl
  have e73 := e73 73 rfl
  have g73 := g73 _ rfl
  subst g73
  obtain ⟨v75, g75, e75⟩ := hdep ⟨2, .data⟩ h75 rfl
  have e75 := e75 75 rfl
  have g75 := g75 _ rfl
  subst g75
  clear hout hdep
  go_simp
  exact hK _ _ (gv_of rfl (by first | rfl | (simp; done) | go_num)) hI
set_option maxRecDepth 100000 in
set_option maxHeartbeats 1000000 in
theorem h22b77 (h76 : (⟨3, .data⟩ : Edge) ∈ af.toList) : StepI Tryz.prog ops Q a0 h22bDS I (GV (h22bGS g q n oc m lc a1 i x y)) 4 { dst := some 77, op := .move (.tmp 76), type := ty, pos := pos, after := af, guard := none } := by
  intro a w hout hI hdep K hK
  rw [if_pos (by simp [Region.wanted])]
  obtain ⟨v76, g76, e76⟩ := hdep ⟨3, .data⟩ h76 rfl
  have e76 := e76 76 rfl
  have g76 := g76 _ rfl
  subst g76
  clear hout hdep
  go_simp
  exact hK _ _ (gv_of rfl (by first | rfl | (simp; done))) hI
set_option maxRecDepth 100000 in
set_option maxHeartbeats 1000000 in
theorem h22b78 (hg : (⟨4, .guard⟩ : Edge) ∈ af.toList) (hgo : ops[4]?.bind (·.dst) = some 77) (o9 : a0.tmps[9]? = some (.slice (some ⟨g, 0, none⟩) n oc)) : StepI Tryz.prog ops Q a0 h22bDS I (GV (h22bGS g q n oc m lc a1 i x y)) 5 { dst := some 78, op := .move (.tmp 9), type := ty, pos := pos, after := af, guard := some (4, true) } := by
  intro a w hout hI hdep K hK
  obtain ⟨vg, gg, eg⟩ := hdep ⟨4, .guard⟩ hg rfl
  have eg := eg 77 rfl
  have gg := gg _ rfl
  subst gg
  have hy := yielded_is hgo eg
  rw [if_pos (by simp [Region.wanted, hy])]
  have o9w := (hout 9 (by decide)).trans o9
  clear hout hdep hy
  clear o9
  go_simp
  exact hK _ _ (gv_of rfl (by first | rfl | (simp; done))) hI
set_option maxRecDepth 100000 in
set_option maxHeartbeats 1000000 in
theorem h22b79 (hg : (⟨4, .guard⟩ : Edge) ∈ af.toList) (hgo : ops[4]?.bind (·.dst) = some 77) (o11 : a0.tmps[11]? = some (.int .i64 a1)) : StepI Tryz.prog ops Q a0 h22bDS I (GV (h22bGS g q n oc m lc a1 i x y)) 6 { dst := some 79, op := .move (.tmp 11), type := ty, pos := pos, after := af, guard := some (4, true) } := by
  intro a w hout hI hdep K hK
  obtain ⟨vg, gg, eg⟩ := hdep ⟨4, .guard⟩ hg rfl
  have eg := eg 77 rfl
  have gg := gg _ rfl
  subst gg
  have hy := yielded_is hgo eg
  rw [if_pos (by simp [Region.wanted, hy])]
  have o11w := (hout 11 (by decide)).trans o11
  clear hout hdep hy
  clear o11
  go_simp
  exact hK _ _ (gv_of rfl (by first | rfl | (simp; done))) hI
set_option maxRecDepth 100000 in
set_option maxHeartbeats 1000000 in
theorem h22b80 (hg : (⟨4, .guard⟩ : Edge) ∈ af.toList) (hgo : ops[4]?.bind (·.dst) = some 77) (h78 : (⟨5, .data⟩ : Edge) ∈ af.toList) (h79 : (⟨6, .data⟩ : Edge) ∈ af.toList) (hlt : (a1 : Int) < (n : Int)) : StepI Tryz.prog ops Q a0 h22bDS I (GV (h22bGS g q n oc m lc a1 i x y)) 7 { dst := some 80, op := .indexAddr 22 (.tmp 78) (.tmp 79), type := ty, pos := pos, after := af, guard := some (4, true) } := by
  intro a w hout hI hdep K hK
  obtain ⟨vg, gg, eg⟩ := hdep ⟨4, .guard⟩ hg rfl
  have eg := eg 77 rfl
  have gg := gg _ rfl
  subst gg
  have hy := yielded_is hgo eg
  rw [if_pos (by simp [Region.wanted, hy])]
  obtain ⟨v78, g78, e78⟩ := hdep ⟨5, .data⟩ h78 rfl
  have e78 := e78 78 rfl
  have g78 := g78 _ rfl
  subst g78
  obtain ⟨v79, g79, e79⟩ := hdep ⟨6, .data⟩ h79 rfl
  have e79 := e79 79 rfl
  have g79 := g79 _ rfl
  subst g79
  clear hout hdep hy
  go_simp
  exact hK _ _ (gv_of rfl (by first | rfl | (simp; done))) hI
set_option maxRecDepth 100000 in
set_option maxHeartbeats 1000000 in
theorem h22b81 (hg : (⟨4, .guard⟩ : Edge) ∈ af.toList) (hgo : ops[4]?.bind (·.dst) = some 77) (h80 : (⟨7, .data⟩ : Edge) ∈ af.toList) (hL : ∀ w, I w → w.cell? ⟨g, a1, none⟩ = some (.string (bs y))) : StepI Tryz.prog ops Q a0 h22bDS I (GV (h22bGS g q n oc m lc a1 i x y)) 8 { dst := some 81, op := .load 28 (.tmp 80), type := ty, pos := pos, after := af, guard := some (4, true) } := by
  intro a w hout hI hdep K hK
  obtain ⟨vg, gg, eg⟩ := hdep ⟨4, .guard⟩ hg rfl
  have eg := eg 77 rfl
  have gg := gg _ rfl
  subst gg
  have hy := yielded_is hgo eg
  rw [if_pos (by simp [Region.wanted, hy])]
  obtain ⟨v80, g80, e80⟩ := hdep ⟨7, .data⟩ h80 rfl
  have e80 := e80 80 rfl
  have g80 := g80 _ rfl
  subst g80
  have hLw := hL w hI
  clear hout hdep hy
  go_simp
  exact hK _ _ (gv_of rfl (by first | rfl | (simp; done))) hI
set_option maxRecDepth 100000 in
set_option maxHeartbeats 1000000 in
theorem h22b82 (hg : (⟨4, .guard⟩ : Edge) ∈ af.toList) (hgo : ops[4]?.bind (·.dst) = some 77) (o4 : a0.tmps[4]? = some (.slice (some ⟨q, 0, none⟩) m lc)) : StepI Tryz.prog ops Q a0 h22bDS I (GV (h22bGS g q n oc m lc a1 i x y)) 9 { dst := some 82, op := .move (.tmp 4), type := ty, pos := pos, after := af, guard := some (4, true) } := by
  intro a w hout hI hdep K hK
  obtain ⟨vg, gg, eg⟩ := hdep ⟨4, .guard⟩ hg rfl
  have eg := eg 77 rfl
  have gg := gg _ rfl
  subst gg
  have hy := yielded_is hgo eg
  rw [if_pos (by simp [Region.wanted, hy])]
  have o4w := (hout 4 (by decide)).trans o4
  clear hout hdep hy
  clear o4
  go_simp
  exact hK _ _ (gv_of rfl (by first | rfl | (simp; done))) hI
set_option maxRecDepth 100000 in
set_option maxHeartbeats 1000000 in
theorem h22b83 (hg : (⟨4, .guard⟩ : Edge) ∈ af.toList) (hgo : ops[4]?.bind (·.dst) = some 77) (o10 : a0.tmps[10]? = some (.int .i64 i)) : StepI Tryz.prog ops Q a0 h22bDS I (GV (h22bGS g q n oc m lc a1 i x y)) 10 { dst := some 83, op := .move (.tmp 10), type := ty, pos := pos, after := af, guard := some (4, true) } := by
  intro a w hout hI hdep K hK
  obtain ⟨vg, gg, eg⟩ := hdep ⟨4, .guard⟩ hg rfl
  have eg := eg 77 rfl
  have gg := gg _ rfl
  subst gg
  have hy := yielded_is hgo eg
  rw [if_pos (by simp [Region.wanted, hy])]
  have o10w := (hout 10 (by decide)).trans o10
  clear hout hdep hy
  clear o10
  go_simp
  exact hK _ _ (gv_of rfl (by first | rfl | (simp; done))) hI
set_option maxRecDepth 100000 in
set_option maxHeartbeats 1000000 in
theorem h22b84 (hg : (⟨4, .guard⟩ : Edge) ∈ af.toList) (hgo : ops[4]?.bind (·.dst) = some 77) (h82 : (⟨9, .data⟩ : Edge) ∈ af.toList) (h83 : (⟨10, .data⟩ : Edge) ∈ af.toList) (hlt : (i : Int) < (m : Int)) : StepI Tryz.prog ops Q a0 h22bDS I (GV (h22bGS g q n oc m lc a1 i x y)) 11 { dst := some 84, op := .indexAddr 22 (.tmp 82) (.tmp 83), type := ty, pos := pos, after := af, guard := some (4, true) } := by
  intro a w hout hI hdep K hK
  obtain ⟨vg, gg, eg⟩ := hdep ⟨4, .guard⟩ hg rfl
  have eg := eg 77 rfl
  have gg := gg _ rfl
  subst gg
  have hy := yielded_is hgo eg
  rw [if_pos (by simp [Region.wanted, hy])]
  obtain ⟨v82, g82, e82⟩ := hdep ⟨9, .data⟩ h82 rfl
  have e82 := e82 82 rfl
  have g82 := g82 _ rfl
  subst g82
  obtain ⟨v83, g83, e83⟩ := hdep ⟨10, .data⟩ h83 rfl
  have e83 := e83 83 rfl
  have g83 := g83 _ rfl
  subst g83
  clear hout hdep hy
  go_simp
  exact hK _ _ (gv_of rfl (by first | rfl | (simp; done))) hI
set_option maxRecDepth 100000 in
set_option maxHeartbeats 1000000 in
theorem h22b85 (hg : (⟨4, .guard⟩ : Edge) ∈ af.toList) (hgo : ops[4]?.bind (·.dst) = some 77) (h84 : (⟨11, .data⟩ : Edge) ∈ af.toList) (hL : ∀ w, I w → w.cell? ⟨q, i, none⟩ = some (.string (bs x))) : StepI Tryz.prog ops Q a0 h22bDS I (GV (h22bGS g q n oc m lc a1 i x y)) 12 { dst := some 85, op := .load 28 (.tmp 84), type := ty, pos := pos, after := af, guard := some (4, true) } := by
  intro a w hout hI hdep K hK
  obtain ⟨vg, gg, eg⟩ := hdep ⟨4, .guard⟩ hg rfl
  have eg := eg 77 rfl
  have gg := gg _ rfl
  subst gg
  have hy := yielded_is hgo eg
  rw [if_pos (by simp [Region.wanted, hy])]
  obtain ⟨v84, g84, e84⟩ := hdep ⟨11, .data⟩ h84 rfl
  have e84 := e84 84 rfl
  have g84 := g84 _ rfl
  subst g84
  have hLw := hL w hI
  clear hout hdep hy
  go_simp
  exact hK _ _ (gv_of rfl (by first | rfl | (simp; done))) hI
set_option maxRecDepth 100000 in
set_option maxHeartbeats 1000000 in
theorem h22b86 (hg : (⟨4, .guard⟩ : Edge) ∈ af.toList) (hgo : ops[4]?.bind (·.dst) = some 77) (h81 : (⟨8, .data⟩ : Edge) ∈ af.toList) (h85 : (⟨12, .data⟩ : Edge) ∈ af.toList) (hbl : Op.bytesLess y x = false) : StepI Tryz.prog ops Q a0 h22bDS I (GV (h22bGS g q n oc m lc a1 i x y)) 13 { dst := some 86, op := .binOp .lss 28 (.tmp 81) (.tmp 85) 28, type := ty, pos := pos, after := af, guard := some (4, true) } := by
  intro a w hout hI hdep K hK
  obtain ⟨vg, gg, eg⟩ := hdep ⟨4, .guard⟩ hg rfl
  have eg := eg 77 rfl
  have gg := gg _ rfl
  subst gg
  have hy := yielded_is hgo eg
  rw [if_pos (by simp [Region.wanted, hy])]
  obtain ⟨v81, g81, e81⟩ := hdep ⟨8, .data⟩ h81 rfl
  have e81 := e81 81 rfl
  have g81 := g81 _ rfl
  subst g81
  obtain ⟨v85, g85, e85⟩ := hdep ⟨12, .data⟩ h85 rfl
  have e85 := e85 85 rfl
  have g85 := g85 _ rfl
  subst g85
  clear hout hdep hy
  go_simp
  exact hK _ _ (gv_of rfl (by first | rfl | (simp; done))) hI
set_option maxRecDepth 100000 in
set_option maxHeartbeats 1000000 in
theorem h22b87 (h77 : (⟨4, .data⟩ : Edge) ∈ af.toList) (h86 : (⟨13, .data⟩ : Edge) ∈ af.toList) : StepI Tryz.prog ops Q a0 h22bDS I (GV (h22bGS g q n oc m lc a1 i x y)) 14 { dst := some 87, op := .pick (.tmp 77) (.tmp 86) (.const (.bool false)), type := ty, pos := pos, after := af, guard := none } := by
  intro a w hout hI hdep K hK
  rw [if_pos (by simp [Region.wanted])]
  obtain ⟨v77, g77, e77⟩ := hdep ⟨4, .data⟩ h77 rfl
  have e77 := e77 77 rfl
  have g77 := g77 _ rfl
  subst g77
  obtain ⟨v86, g86, e86⟩ := hdep ⟨13, .data⟩ h86 rfl
  have e86 := e86 86 rfl
  have g86 := g86 _ rfl
  subst g86
  clear hout hdep
  go_simp
  exact hK _ _ (gv_of rfl (by first | rfl | (simp; done))) hI
end
def h22cDS : List (Option Nat) := [some 73, some 74, some 75, some 76, some 77, some 78, some 79, some 80, some 81, some 82, some 83, some 84, some 85, some 86, some 87]
def h22cGS (g q n oc m lc a1 i : Nat) (x y : List UInt8) : List (Option Value) := [some (.int .i64 a1), some (.slice (some ⟨g, 0, none⟩) n oc), some (.int .i64 n), some (.bool true), some (.bool true), some (.slice (some ⟨g, 0, none⟩) n oc), some (.int .i64 a1), some (.pointer (some ⟨g, a1, none⟩)), some (.string (bs y)), some (.slice (some ⟨q, 0, none⟩) m lc), some (.int .i64 i), some (.pointer (some ⟨q, i, none⟩)), some (.string (bs x)), some (.bool true), some (.bool true)]
section
variable {ops : Array Oper} {Q : Exit → Act → World → Prop} {a0 : Act} {I : World → Prop} {af : Array Edge} {ty : Nat} {pos : String} {at_ : Array TypeId} {g q n oc m lc a1 i : Nat} {x y : List UInt8}
set_option maxRecDepth 100000 in
set_option maxHeartbeats 1000000 in
theorem h22c73 (o11 : a0.tmps[11]? = some (.int .i64 a1)) : StepI Tryz.prog ops Q a0 h22cDS I (GV (h22cGS g q n oc m lc a1 i x y)) 0 { dst := some 73, op := .move (.tmp 11), type := ty, pos := pos, after := af, guard := none } := by
  intro a w hout hI hdep K hK
  rw [if_pos (by simp [Region.wanted])]
  have o11w := (hout 11 (by decide)).trans o11
  clear hout hdep
  clear o11
  go_simp
  exact hK _ _ (gv_of rfl (by first | rfl | (simp; done))) hI
set_option maxRecDepth 100000 in
set_option maxHeartbeats 1000000 in
theorem h22c74 (o9 : a0.tmps[9]? = some (.slice (some ⟨g, 0, none⟩) n oc)) : StepI Tryz.prog ops Q a0 h22cDS I (GV (h22cGS g q n oc m lc a1 i x y)) 1 { dst := some 74, op := .move (.tmp 9), type := ty, pos := pos, after := af, guard := none } := by
  intro a w hout hI hdep K hK
  rw [if_pos (by simp [Region.wanted])]
  have o9w := (hout 9 (by decide)).trans o9
  clear hout hdep
  clear o9
  go_simp
  exact hK _ _ (gv_of rfl (by first | rfl | (simp; done))) hI
set_option maxRecDepth 100000 in
set_option maxHeartbeats 1000000 in
theorem h22c75 (h74 : (⟨1, .data⟩ : Edge) ∈ af.toList) : StepI Tryz.prog ops Q a0 h22cDS I (GV (h22cGS g q n oc m lc a1 i x y)) 2 { dst := some 75, op := .call { callee := .builtin .len, args := #[.tmp 74], argTypes := #[22] }, type := ty, pos := pos, after := af, guard := none } := by
  intro a w hout hI hdep K hK
  rw [if_pos (by simp [Region.wanted])]
  obtain ⟨v74, g74, e74⟩ := hdep ⟨1, .data⟩ h74 rfl
  have e74 := e74 74 rfl
  have g74 := g74 _ rfl
  subst g74
  clear hout hdep
  go_simp
  exact hK _ _ (gv_of rfl (by first | rfl | (simp; done))) hI
set_option maxRecDepth 100000 in
set_option maxHeartbeats 1000000 in
theorem h22c76 (h73 : (⟨0, .data⟩ : Edge) ∈ af.toList) (h75 : (⟨2, .data⟩ : Edge) ∈ af.toList) (hlt : a1 < n) : StepI Tryz.prog ops Q a0 h22cDS I (GV (h22cGS g q n oc m lc a1 i x y)) 3 { dst := some 76, op := .binOp .lss 3 (.tmp 73) (.tmp 75) 3, type := ty, pos := pos, after := af, guard := none } := by
  intro a w hout hI hdep K hK
  rw [if_pos (by simp [Region.wanted])]
  obtain ⟨v73, g73, e73⟩ := hdep ⟨0, .data⟩ h73 rfl
  have e73 := e73 73 rfl
  have g73 := g73 _ rfl
  subst g73
  obtain ⟨v75, g75, e75⟩ := hdep ⟨2, .data⟩ h75 rfl
  have e75 := e75 75 rfl
  have g75 := g75 _ rfl
  subst g75
  clear hout hdep
  go_simp
  exact hK _ _ (gv_of rfl (by first | rfl | (simp; done) | go_num)) hI
set_option maxRecDepth 100000 in
set_option maxHeartbeats 1000000 in
theorem h22c77 (h76 : (⟨3, .data⟩ : Edge) ∈ af.toList) : StepI Tryz.prog ops Q a0 h22cDS I (GV (h22cGS g q n oc m lc a1 i x y)) 4 { dst := some 77, op := .move (.tmp 76), type := ty, pos := pos, after := af, guard := none } := by
  intro a w hout hI hdep K hK
  rw [if_pos (by simp [Region.wanted])]
  obtain ⟨v76, g76, e76⟩ := hdep ⟨3, .data⟩ h76 rfl
  have e76 := e76 76 rfl
  have g76 := g76 _ rfl
  subst g76
  clear hout hdep
  go_simp
  exact hK _ _ (gv_of rfl (by first | rfl | (simp; done))) hI
set_option maxRecDepth 100000 in
set_option maxHeartbeats 1000000 in
theorem h22c78 (hg : (⟨4, .guard⟩ : Edge) ∈ af.toList) (hgo : ops[4]?.bind (·.dst) = some 77) (o9 : a0.tmps[9]? = some (.slice (some ⟨g, 0, none⟩) n oc)) : StepI Tryz.prog ops Q a0 h22cDS I (GV (h22cGS g q n oc m lc a1 i x y)) 5 { dst := some 78, op := .move (.tmp 9), type := ty, pos := pos, after := af, guard := some (4, true) } := by
  intro a w hout hI hdep K hK
  obtain ⟨vg, gg, eg⟩ := hdep ⟨4, .guard⟩ hg rfl
  have eg := eg 77 rfl
  have gg := gg _ rfl
  subst gg
  have hy := yielded_is hgo eg
  rw [if_pos (by simp [Region.wanted, hy])]
  have o9w := (hout 9 (by decide)).trans o9
  clear hout hdep hy
  clear o9
  go_simp
  exact hK _ _ (gv_of rfl (by first | rfl | (simp; done))) hI
set_option maxRecDepth 100000 in
set_option maxHeartbeats 1000000 in
theorem h22c79 (hg : (⟨4, .guard⟩ : Edge) ∈ af.toList) (hgo : ops[4]?.bind (·.dst) = some 77) (o11 : a0.tmps[11]? = some (.int .i64 a1)) : StepI Tryz.prog ops Q a0 h22cDS I (GV (h22cGS g q n oc m lc a1 i x y)) 6 { dst := some 79, op := .move (.tmp 11), type := ty, pos := pos, after := af, guard := some (4, true) } := by
  intro a w hout hI hdep K hK
  obtain ⟨vg, gg, eg⟩ := hdep ⟨4, .guard⟩ hg rfl
  have eg := eg 77 rfl
  have gg := gg _ rfl
  subst gg
  have hy := yielded_is hgo eg
  rw [if_pos (by simp [Region.wanted, hy])]
  have o11w := (hout 11 (by decide)).trans o11
  clear hout hdep hy
  clear o11
  go_simp
  exact hK _ _ (gv_of rfl (by first | rfl | (simp; done))) hI
set_option maxRecDepth 100000 in
set_option maxHeartbeats 1000000 in
theorem h22c80 (hg : (⟨4, .guard⟩ : Edge) ∈ af.toList) (hgo : ops[4]?.bind (·.dst) = some 77) (h78 : (⟨5, .data⟩ : Edge) ∈ af.toList) (h79 : (⟨6, .data⟩ : Edge) ∈ af.toList) (hlt : (a1 : Int) < (n : Int)) : StepI Tryz.prog ops Q a0 h22cDS I (GV (h22cGS g q n oc m lc a1 i x y)) 7 { dst := some 80, op := .indexAddr 22 (.tmp 78) (.tmp 79), type := ty, pos := pos, after := af, guard := some (4, true) } := by
  intro a w hout hI hdep K hK
  obtain ⟨vg, gg, eg⟩ := hdep ⟨4, .guard⟩ hg rfl
  have eg := eg 77 rfl
  have gg := gg _ rfl
  subst gg
  have hy := yielded_is hgo eg
  rw [if_pos (by simp [Region.wanted, hy])]
  obtain ⟨v78, g78, e78⟩ := hdep ⟨5, .data⟩ h78 rfl
  have e78 := e78 78 rfl
  have g78 := g78 _ rfl
  subst g78
  obtain ⟨v79, g79, e79⟩ := hdep ⟨6, .data⟩ h79 rfl
  have e79 := e79 79 rfl
  have g79 := g79 _ rfl
  subst g79
  clear hout hdep hy
  go_simp
  exact hK _ _ (gv_of rfl (by first | rfl | (simp; done))) hI
set_option maxRecDepth 100000 in
set_option maxHeartbeats 1000000 in
theorem h22c81 (hg : (⟨4, .guard⟩ : Edge) ∈ af.toList) (hgo : ops[4]?.bind (·.dst) = some 77) (h80 : (⟨7, .data⟩ : Edge) ∈ af.toList) (hL : ∀ w, I w → w.cell? ⟨g, a1, none⟩ = some (.string (bs y))) : StepI Tryz.prog ops Q a0 h22cDS I (GV (h22cGS g q n oc m lc a1 i x y)) 8 { dst := some 81, op := .load 28 (.tmp 80), type := ty, pos := pos, after := af, guard := some (4, true) } := by
  intro a w hout hI hdep K hK
  obtain ⟨vg, gg, eg⟩ := hdep ⟨4, .guard⟩ hg rfl
  have eg := eg 77 rfl
  have gg := gg _ rfl
  subst gg
  have hy := yielded_is hgo eg
  rw [if_pos (by simp [Region.wanted, hy])]
  obtain ⟨v80, g80, e80⟩ := hdep ⟨7, .data⟩ h80 rfl
  have e80 := e80 80 rfl
  have g80 := g80 _ rfl
  subst g80
  have hLw := hL w hI
  clear hout hdep hy
  go_simp
  exact hK _ _ (gv_of rfl (by first | rfl | (simp; done))) hI
set_option maxRecDepth 100000 in
set_option maxHeartbeats 1000000 in
theorem h22c82 (hg : (⟨4, .guard⟩ : Edge) ∈ af.toList) (hgo : ops[4]?.bind (·.dst) = some 77) (o4 : a0.tmps[4]? = some (.slice (some ⟨q, 0, none⟩) m lc)) : StepI Tryz.prog ops Q a0 h22cDS I (GV (h22cGS g q n oc m lc a1 i x y)) 9 { dst := some 82, op := .move (.tmp 4), type := ty, pos := pos, after := af, guard := some (4, true) } := by
  intro a w hout hI hdep K hK
  obtain ⟨vg, gg, eg⟩ := hdep ⟨4, .guard⟩ hg rfl
  have eg := eg 77 rfl
  have gg := gg _ rfl
  subst gg
  have hy := yielded_is hgo eg
  rw [if_pos (by simp [Region.wanted, hy])]
  have o4w := (hout 4 (by decide)).trans o4
  clear hout hdep hy
  clear o4
  go_simp
  exact hK _ _ (gv_of rfl (by first | rfl | (simp; done))) hI
set_option maxRecDepth 100000 in
set_option maxHeartbeats 1000000 in
theorem h22c83 (hg : (⟨4, .guard⟩ : Edge) ∈ af.toList) (hgo : ops[4]?.bind (·.dst) = some 77) (o10 : a0.tmps[10]? = some (.int .i64 i)) : StepI Tryz.prog ops Q a0 h22cDS I (GV (h22cGS g q n oc m lc a1 i x y)) 10 { dst := some 83, op := .move (.tmp 10), type := ty, pos := pos, after := af, guard := some (4, true) } := by
  intro a w hout hI hdep K hK
  obtain ⟨vg, gg, eg⟩ := hdep ⟨4, .guard⟩ hg rfl
  have eg := eg 77 rfl
  have gg := gg _ rfl
  subst gg
  have hy := yielded_is hgo eg
  rw [if_pos (by simp [Region.wanted, hy])]
  have o10w := (hout 10 (by decide)).trans o10
  clear hout hdep hy
  clear o10
  go_simp
  exact hK _ _ (gv_of rfl (by first | rfl | (simp; done))) hI
set_option maxRecDepth 100000 in
set_option maxHeartbeats 1000000 in
theorem h22c84 (hg : (⟨4, .guard⟩ : Edge) ∈ af.toList) (hgo : ops[4]?.bind (·.dst) = some 77) (h82 : (⟨9, .data⟩ : Edge) ∈ af.toList) (h83 : (⟨10, .data⟩ : Edge) ∈ af.toList) (hlt : (i : Int) < (m : Int)) : StepI Tryz.prog ops Q a0 h22cDS I (GV (h22cGS g q n oc m lc a1 i x y)) 11 { dst := some 84, op := .indexAddr 22 (.tmp 82) (.tmp 83), type := ty, pos := pos, after := af, guard := some (4, true) } := by
  intro a w hout hI hdep K hK
  obtain ⟨vg, gg, eg⟩ := hdep ⟨4, .guard⟩ hg rfl
  have eg := eg 77 rfl
  have gg := gg _ rfl
  subst gg
  have hy := yielded_is hgo eg
  rw [if_pos (by simp [Region.wanted, hy])]
  obtain ⟨v82, g82, e82⟩ := hdep ⟨9, .data⟩ h82 rfl
  have e82 := e82 82 rfl
  have g82 := g82 _ rfl
  subst g82
  obtain ⟨v83, g83, e83⟩ := hdep ⟨10, .data⟩ h83 rfl
  have e83 := e83 83 rfl
  have g83 := g83 _ rfl
  subst g83
  clear hout hdep hy
  go_simp
  exact hK _ _ (gv_of rfl (by first | rfl | (simp; done))) hI
set_option maxRecDepth 100000 in
set_option maxHeartbeats 1000000 in
theorem h22c85 (hg : (⟨4, .guard⟩ : Edge) ∈ af.toList) (hgo : ops[4]?.bind (·.dst) = some 77) (h84 : (⟨11, .data⟩ : Edge) ∈ af.toList) (hL : ∀ w, I w → w.cell? ⟨q, i, none⟩ = some (.string (bs x))) : StepI Tryz.prog ops Q a0 h22cDS I (GV (h22cGS g q n oc m lc a1 i x y)) 12 { dst := some 85, op := .load 28 (.tmp 84), type := ty, pos := pos, after := af, guard := some (4, true) } := by
  intro a w hout hI hdep K hK
  obtain ⟨vg, gg, eg⟩ := hdep ⟨4, .guard⟩ hg rfl
  have eg := eg 77 rfl
  have gg := gg _ rfl
  subst gg
  have hy := yielded_is hgo eg
  rw [if_pos (by simp [Region.wanted, hy])]
  obtain ⟨v84, g84, e84⟩ := hdep ⟨11, .data⟩ h84 rfl
  have e84 := e84 84 rfl
  have g84 := g84 _ rfl
  subst g84
  have hLw := hL w hI
  clear hout hdep hy
  go_simp
  exact hK _ _ (gv_of rfl (by first | rfl | (simp; done))) hI
set_option maxRecDepth 100000 in
set_option maxHeartbeats 1000000 in
theorem h22c86 (hg : (⟨4, .guard⟩ : Edge) ∈ af.toList) (hgo : ops[4]?.bind (·.dst) = some 77) (h81 : (⟨8, .data⟩ : Edge) ∈ af.toList) (h85 : (⟨12, .data⟩ : Edge) ∈ af.toList) (hbl : Op.bytesLess y x = true) : StepI Tryz.prog ops Q a0 h22cDS I (GV (h22cGS g q n oc m lc a1 i x y)) 13 { dst := some 86, op := .binOp .lss 28 (.tmp 81) (.tmp 85) 28, type := ty, pos := pos, after := af, guard := some (4, true) } := by
  intro a w hout hI hdep K hK
  obtain ⟨vg, gg, eg⟩ := hdep ⟨4, .guard⟩ hg rfl
  have eg := eg 77 rfl
  have gg := gg _ rfl
  subst gg
  have hy := yielded_is hgo eg
  rw [if_pos (by simp [Region.wanted, hy])]
  obtain ⟨v81, g81, e81⟩ := hdep ⟨8, .data⟩ h81 rfl
  have e81 := e81 81 rfl
  have g81 := g81 _ rfl
  subst g81
  obtain ⟨v85, g85, e85⟩ := hdep ⟨12, .data⟩ h85 rfl
  have e85 := e85 85 rfl
  have g85 := g85 _ rfl
  subst g85
  clear hout hdep hy
  go_simp
  exact hK _ _ (gv_of rfl (by first | rfl | (simp; done))) hI
set_option maxRecDepth 100000 in
set_option maxHeartbeats 1000000 in
theorem h22c87 (h77 : (⟨4, .data⟩ : Edge) ∈ af.toList) (h86 : (⟨13, .data⟩ : Edge) ∈ af.toList) : StepI Tryz.prog ops Q a0 h22cDS I (GV (h22cGS g q n oc m lc a1 i x y)) 14 { dst := some 87, op := .pick (.tmp 77) (.tmp 86) (.const (.bool false)), type := ty, pos := pos, after := af, guard := none } := by
  intro a w hout hI hdep K hK
  rw [if_pos (by simp [Region.wanted])]
  obtain ⟨v77, g77, e77⟩ := hdep ⟨4, .data⟩ h77 rfl
  have e77 := e77 77 rfl
  have g77 := g77 _ rfl
  subst g77
  obtain ⟨v86, g86, e86⟩ := hdep ⟨13, .data⟩ h86 rfl
  have e86 := e86 86 rfl
  have g86 := g86 _ rfl
  subst g86
  clear hout hdep
  go_simp
  exact hK _ _ (gv_of rfl (by first | rfl | (simp; done))) hI
end
set_option maxRecDepth 100000 in
set_option maxHeartbeats 8000000 in
theorem r3Held (H S : List UInt8 → Bool) (hL : Least H S) (heard : List (List UInt8)) (hhl : heard.length ≤ 10000) (hhr : ∀ t ∈ heard, right t = true) (hH : ∀ t, H t = true ↔ t ∈ heard) (vh : Value) (w : World) (hv : TermsAt vh heard w) :
    Calls Tryz.prog 16 #[vh] w (HeldP S w) := by
  obtain ⟨va, vc, rfl, hvd⟩ := termsAt_sp hv
  have HV := Lib.hid hv
  have HVD := Lib.hid hvd
  have HX := Lib.hid (And.intro hL (And.intro hhr hH))
  clear hv hvd hL hhr hH
  go_enter Tryz.func16, Tryz.ntmps16
  go_wp2_with fail
  refine (r3Made H S HX.out.1 heard hhl HX.out.2.1 HX.out.2.2 [] (by simp) _ _ HV.out).mono ?_
  rintro e w1 ⟨um, M, all, rfl, hO1, hb1, hsh, hha, _, hkn, hml⟩
  obtain ⟨m0, m1, rfl⟩ := ownT_form hO1
  have HO1 := Lib.hid hO1
  have hg1 : GL [] w w1 := gl_below hb1 (gl_refl _ _)
  have HIN := Lib.hid (held_in HX.out.1 hsh HX.out.2.2 hha)
  have HSH := Lib.hid hsh
  have HKN := Lib.hid hkn
  have HRS := Lib.hid (show ∀ u, S u = true → u.length ≤ 16384 from fun u hu => (right_len (least_right HX.out.1 (fun t ht => HX.out.2.1 t ((HX.out.2.2 t).1 ht)) u hu)).2)
  have HLM := Lib.hid (show ∀ l, HeldL S l → l.length ≤ M.length from fun l hl => nd_le l M hl.apart (fun u hu => by
    have hs := hl.sound u hu
    have h2 := HKN.out u (HIN.out u hs)
    rw [kn_held (least_right HX.out.1 (fun t ht => HX.out.2.1 t ((HX.out.2.2 t).1 ht)) u hs) hs] at h2
    simpa using h2))
  have hsz1 := hb1.size
  clear hO1 hb1 hsh hha hkn
  go_wp2_with fail
  go_loopw [4, 5] (fun lv iv wr => ∃ (i : Nat) (l : List (List UInt8)) (la : Option Addr) (lc : Nat), i ≤ heard.length ∧ iv = .int .i64 i ∧ lv = .slice la l.length lc ∧ Hid (l = (heard.take i).foldl addR []) ∧ Hid (HeldL S l) ∧ Hid (RowW w.heap.size (.slice none 0 0) w1 (.slice la l.length lc) l wr)) (fun _ iv _ => heard.length - (intOf iv).toNat)
  case atStart => exact ⟨0, [], none, 0, by omega, rfl, rfl, Lib.hid rfl, Lib.hid (heldL_nil S), Lib.hid (rowW_refl (ownT_nil _ _))⟩
  case round =>
    obtain ⟨i, l, la, lc, hi, rfl, rfl, HLI, HHL, HRW⟩ := hrel
    have hszr := HRW.out.gl.size
    have hll := HLM.out l HHL.out
    by_cases hlt : i < heard.length
    · have i1 : (i : Int) < heard.length := by omega
      rcases HVD.out with h0 | ⟨b, o, rfl, hb, hc⟩
      · rw [h0] at hlt; simp at hlt
      have hy : heard[i]? = some heard[i] := List.getElem?_eq_getElem hlt
      have c0 := cell_glx (cell_glx (hc i _ hy) hg1 (by simp)) HRW.out.gl (by simp [Value.ownBlock])
      have HN := Lib.hid (fold_snoc [] heard i _ hy)
      have HSY := Lib.hid (HX.out.1.1 _ ((HX.out.2.2 _).2 (List.getElem_mem hlt)))
      clear hc hy
      generalize heard[i] = y at *
      go_wp2_with fail
      refine (r3Has y l (by omega) _ _ (ownT_at HRW.out.own)).mono ?_
      rintro e w2 ⟨rfl, hb2⟩
      have HR2 := Lib.hid (rowW_below HRW.out hb2)
      have c2 := dcell_below c0 hb2
      have hsz2 := hb2.size
      have HL2 := Lib.hid (heldL_add HHL.out HSY.out)
      clear hb2 c0 HRW
      cases hm : l.contains y with
      | true =>
        have HN2 : Hid (l = (heard.take (i + 1)).foldl addR []) := by show _ = _; rw [HN.out, ← HLI.out]; unfold addR; rw [if_pos hm]
        clear hm
        go_wp2_with fail
        go_roundw
        case rel => exact ⟨i + 1, l, la, lc, by omega, by go_num, rfl, HN2, HHL, HR2⟩
        case measure => simp [intOf]; omega
      | false =>
        have e1 : addR l y = l ++ [y] := by unfold addR; rw [if_neg (by rw [hm]; simp)]
        have HN2 : Hid (l ++ [y] = (heard.take (i + 1)).foldl addR []) := by show _ = _; rw [HN.out, ← HLI.out, e1]
        rw [e1] at HL2
        clear hm e1
        go_wp2_with (at_builtin; go_must (refine wpList_appT rfl _ _ rfl w.heap.size (.slice la l.length lc) l y w2 _ rfl rfl rfl HR2.out.own (by omega) (by omega) ?_; (intro g6 c6 w6 hO6 hg6 hn6); (have HR6 := Lib.hid (rowW_step HR2.out (rowW_of hO6 hg6 hn6))); (clear hO6 hg6 hn6 c2)))
        go_roundw
        case rel => exact ⟨i + 1, l ++ [y], _, c6, by omega, by go_num, by rw [List.length_append]; rfl, HN2, HL2, Lib.hid (by rw [List.length_append]; exact HR6.out)⟩
        case measure => simp [intOf]; omega
    · obtain rfl : i = heard.length := by omega
      have HHI := Lib.hid (show ∀ u ∈ heard, u ∈ l from fun u hu => by
        have e := HLI.out
        rw [List.take_length] at e
        rw [e]
        exact (fold_sub heard []).2.1 u hu)
      clear HLI
      go_wp2_with fail
      go_loopw [4, 6] (fun lv iv wr => ∃ (i : Nat) (l : List (List UInt8)) (la : Option Addr) (lc : Nat), i ≤ l.length ∧ iv = .int .i64 i ∧ lv = .slice la l.length lc ∧ Hid (HeldL S l) ∧ Hid (∀ u ∈ heard, u ∈ l) ∧ Hid (∀ j u, j < i → l[j]? = some u → ∀ k ∈ partsR M u, k ∈ l) ∧ Hid (RowW w.heap.size (.slice none 0 0) w1 (.slice la l.length lc) l wr)) (fun _ iv _ => M.length - (intOf iv).toNat)
      case atStart => exact ⟨0, l, la, lc, by omega, rfl, rfl, HHL, HHI, Lib.hid (fun j u h => absurd h (Nat.not_lt_zero j)), HRW⟩
      case round =>
        clear HHL HHI HRW hll hszr hi hlt
        obtain ⟨i, l, la, lc, hi, rfl, rfl, HHL, HHI, HPP, HRW⟩ := hrel
        have hszr := HRW.out.gl.size
        have hll := HLM.out l HHL.out
        by_cases hlt : i < l.length
        · have i1 : (i : Int) < l.length := by omega
          obtain ⟨g, c, hgc, _, _, hgl, hcc⟩ := ownT_cells HRW.out.own (by intro h; rw [h] at hlt; simp at hlt)
          injection hgc with hg1 hg2 hg3
          subst hg1 hg3
          have hy : l[i]? = some l[i] := List.getElem?_eq_getElem hlt
          have c0 := hcc i _ hy
          have hyS := HHL.out.sound _ (List.getElem_mem hlt)
          have hyl := HRS.out _ hyS
          have HYP := Lib.hid (heldL_parts HX.out.1 HKN.out HIN.out HSH.out HHL.out (List.getElem_mem hlt))
          have HYI := Lib.hid hy
          have hpl := parts_few M l[i]
          clear hcc hy hyS
          generalize l[i] = y at *
          go_wp2_with fail
          refine (r3Parts M (by omega) y (by omega) _ _ (ownT_at (ownT_gl HO1.out HRW.out.gl (by simp [Value.ownBlock])))).mono ?_
          rintro e w2 ⟨u, rfl, hts, hfr, hb2⟩
          have HR2 := Lib.hid (rowW_below HRW.out hb2)
          have HPS := Lib.hid (show partsR M y = partsR M y from rfl)
          obtain ⟨ps, hps⟩ : ∃ ps, ps = partsR M y := ⟨_, rfl⟩
          rw [← hps] at hts hpl HYP
          have HPE := Lib.hid hps
          obtain ⟨ua, uc, rfl, hu⟩ := termsAt_sp hts
          have HU := Lib.hid (show ps = [] ∨ ∃ b o, ua = some ⟨b, o, none⟩ ∧ b ∉ (Value.slice (some ⟨g, 0, none⟩) l.length lc).ownBlock.toList ∧ ∀ (k : Nat) (t : List UInt8), ps[k]? = some t → w2.cell? ⟨b, o + k, none⟩ = some (.string (bs t)) from by
            rcases hu with h | ⟨b, o, rfl, _, hc⟩
            · exact .inl h
            · exact .inr ⟨b, o, rfl, blk_not HRW.out.own (hfr b o _ _ rfl), hc⟩)
          have HO2 := Lib.hid (rowW_refl HR2.out.own)
          have hsz2 := hb2.size
          clear hts hfr hb2 hu hps c0 HPS
          go_wp2_with fail
          go_loopw [4, 8] (fun lv iv wr => ∃ (k : Nat) (l1 : List (List UInt8)) (ka : Option Addr) (kc : Nat), k ≤ ps.length ∧ iv = .int .i64 k ∧ lv = .slice ka l1.length kc ∧ Hid (l1 = (ps.take k).foldl addR l) ∧ Hid (HeldL S l1) ∧ Hid (RowW w.heap.size (.slice (some ⟨g, 0, none⟩) l.length lc) w2 (.slice ka l1.length kc) l1 wr)) (fun _ iv _ => ps.length - (intOf iv).toNat)
          case atStart => exact ⟨0, l, _, lc, by omega, rfl, rfl, Lib.hid rfl, HHL, HO2⟩
          case round =>
            obtain ⟨k, l1, ka, kc, hk, rfl, rfl, HL1, HHL1, HRN⟩ := hrel
            have hszn := HRN.out.gl.size
            have hll1 := HLM.out l1 HHL1.out
            by_cases hlk : k < ps.length
            · have i2 : (k : Int) < ps.length := by omega
              rcases HU.out with h0 | ⟨b, o, rfl, hb, hc⟩
              · rw [h0] at hlk; simp at hlk
              have hx : ps[k]? = some ps[k] := List.getElem?_eq_getElem hlk
              have c0 := cell_glx (hc k _ hx) HRN.out.gl hb
              have HN := Lib.hid (fold_snoc l ps k _ hx)
              have HSX := Lib.hid (HYP.out _ (List.getElem_mem hlk))
              clear hc hx hb
              generalize ps[k] = x at *
              go_wp2_with fail
              refine (r3Has x l1 (by omega) _ _ (ownT_at HRN.out.own)).mono ?_
              rintro e w3 ⟨rfl, hb3⟩
              have HR3 := Lib.hid (rowW_below HRN.out hb3)
              have c2 := dcell_below c0 hb3
              have hsz3 := hb3.size
              have HL2 := Lib.hid (heldL_add HHL1.out HSX.out)
              clear hb3 c0 HRN
              cases hm : l1.contains x with
              | true =>
                have HN2 : Hid (l1 = (ps.take (k + 1)).foldl addR l) := by show _ = _; rw [HN.out, ← HL1.out]; unfold addR; rw [if_pos hm]
                clear hm
                go_wp2_with fail
                go_roundw
                case rel => exact ⟨k + 1, l1, ka, kc, by omega, by go_num, rfl, HN2, HHL1, HR3⟩
                case measure => simp [intOf]; omega
              | false =>
                have e1 : addR l1 x = l1 ++ [x] := by unfold addR; rw [if_neg (by rw [hm]; simp)]
                have HN2 : Hid (l1 ++ [x] = (ps.take (k + 1)).foldl addR l) := by show _ = _; rw [HN.out, ← HL1.out, e1]
                rw [e1] at HL2
                clear hm e1
                go_wp2_with (at_builtin; go_must (refine wpList_appT rfl _ _ rfl w.heap.size (.slice ka l1.length kc) l1 x w3 _ rfl rfl rfl HR3.out.own (by omega) (by omega) ?_; (intro g6 c6 w6 hO6 hg6 hn6); (have HR6 := Lib.hid (rowW_step HR3.out (rowW_of hO6 hg6 hn6))); (clear hO6 hg6 hn6 c2)))
                go_roundw
                case rel => exact ⟨k + 1, l1 ++ [x], _, c6, by omega, by go_num, by rw [List.length_append]; rfl, HN2, HL2, Lib.hid (by rw [List.length_append]; exact HR6.out)⟩
                case measure => simp [intOf]; omega
            · obtain rfl : k = ps.length := by omega
              have HL2 : Hid (l1 = (partsR M y).foldl addR l) := by
                have e := HL1.out
                rw [List.take_length, HPE.out] at e
                exact e
              have HI1 := Lib.hid (show ∀ u ∈ heard, u ∈ l1 from fun u hu => by rw [HL2.out]; exact (fold_sub _ l).1 u (HHI.out u hu))
              have HP1 := Lib.hid (show ∀ j u, j < i + 1 → l1[j]? = some u → ∀ k ∈ partsR M u, k ∈ l1 from fun j u hj hu k hk => by
                obtain ⟨r, hr⟩ := fold_prefix (partsR M y) l
                have e := HL2.out
                rw [e] at hu ⊢
                rw [hr, List.getElem?_append_left (by omega)] at hu
                by_cases hji : j = i
                · subst hji
                  have := HYI.out
                  rw [hu] at this
                  injection this with this
                  rw [this] at hk
                  exact (fold_sub _ l).2.1 k hk
                · exact (fold_sub _ l).1 k (HPP.out j u (by omega) hu k hk))
              have hl1 : l.length ≤ l1.length := by rw [HL2.out]; exact (fold_sub _ l).2.2
              have HR3 := Lib.hid (rowW_step HR2.out HRN.out)
              clear HL1 HL2 HPP HYP HYI HU HPE HRN HO2
              go_wp2_with fail
              go_roundw
              case rel => exact ⟨i + 1, l1, ka, kc, by omega, by go_num, rfl, HHL1, HI1, HP1, HR3⟩
              case measure => simp [intOf]; omega
        · obtain rfl : i = l.length := by omega
          have HALL := Lib.hid (heldL_all HX.out.1 HKN.out HIN.out HSH.out HX.out.2.2 HHL.out HHI.out (fun u hu => by
            obtain ⟨j, hj⟩ := List.getElem?_of_mem hu
            exact HPP.out j u (List.getElem?_eq_some_iff.1 hj).1 hj))
          have hlo : w.heap.size ≤ wr.heap.size := by omega
          have hgw : GL [] w wr := gl_step HRW.out.gl hg1 (by simp [Value.ownBlock])
          have HLC := Lib.hid (show l = [] ∨ ∃ q lc2, la = some ⟨q, 0, none⟩ ∧ lc = lc2 ∧ ∀ (i : Nat) (t : List UInt8), l[i]? = some t → wr.cell? ⟨q, i, none⟩ = some (.string (bs t)) from by
            by_cases h : l = []
            · exact .inl h
            · obtain ⟨q, c, hqc, _, _, _, hcc⟩ := ownT_cells HRW.out.own h
              injection hqc with h1 h2 h3
              exact .inr ⟨q, c, h1, h3, hcc⟩)
          have HPW := Lib.hid HHL.out.apart
          clear HPP HHI HHL HRW hsz1
          go_wp2_with fail
          generalize wr = wB at *
          go_loopw [9, 10] (fun ov iv wr => ∃ (i : Nat) (out : List (List UInt8)) (oa : Option Addr) (oc : Nat), i ≤ l.length ∧ iv = .int .i64 i ∧ ov = .slice oa out.length oc ∧ out.length ≤ 2000000000 ∧ Hid (out.length = i) ∧ Hid (out = [] → oa = none ∧ oc = 0) ∧ Hid (out = (l.take i).foldl insR []) ∧ Hid (RowW w.heap.size (.slice none 0 0) wB (.slice oa out.length oc) out wr)) (fun _ iv _ => l.length - (intOf iv).toNat)
          case atStart => exact ⟨0, [], none, 0, by omega, rfl, rfl, by simp, Lib.hid rfl, Lib.hid (fun _ => ⟨rfl, rfl⟩), Lib.hid rfl, Lib.hid (rowW_refl (ownT_nil _ _))⟩
          case round =>
            obtain ⟨i, out, oa, oc, hi, rfl, rfl, hob, HOLN, HNE, HOI, HRO⟩ := hrel
            have hszo := HRO.out.gl.size
            by_cases hlt : i < l.length
            · have i1 : (i : Int) < l.length := by omega
              rcases HLC.out with h0 | ⟨q, lc2, rfl, rfl, hcc⟩
              · rw [h0] at hlt; simp at hlt
              have hx : l[i]? = some l[i] := List.getElem?_eq_getElem hlt
              have c0 := cell_glx (hcc i _ hx) HRO.out.gl (by simp [Value.ownBlock])
              have HN := Lib.hid (show (l.take (i + 1)).foldl insR [] = insR ((l.take i).foldl insR []) l[i] from by rw [List.take_add_one, hx, List.foldl_append]; rfl)
              clear hcc hx
              generalize l[i] = x at *
              have HE0 := Lib.hid (show out = [] → oa = none ∧ oc = 0 ∨ True from fun _ => .inr trivial)
              clear HE0
              by_cases hoe : out.length = 0
              · have hout : out = [] := List.eq_nil_of_length_eq_zero hoe
                subst hout
                obtain ⟨q1, q2⟩ := HNE.out rfl
                subst q1 q2
                go_wp2_with fail
                go_loopw [11] (fun av wr2 => av = .int .i64 (0 : Nat) ∧ Hid (GL [] wr wr2)) (fun _ _ => 0)
                case atStart => exact ⟨rfl, Lib.hid (gl_refl _ _)⟩
                case round =>
                  obtain ⟨rfl, hgq⟩ := hrel
                  have c0 := cell_glx c0 hgq.out (by simp)
                  have HRO := Lib.hid (rowW_gl HRO.out hgq.out)
                  have hsq := hgq.out.size
                  have HIN2 := Lib.hid (insR_at (l := []) (x := x) (a := 0) rfl (fun z hz => by cases hz))
                  go_upto_region 22 with fail
                  refine wp_region_I (ds := h22aDS) (I := (fun W => GL [] wr W)) (G := GV (h22aGS 0 0 0 none)) rfl rfl (distinct_of _ (by decide +kernel)) ?_ (by kernel_rfl) (gl_drew (gl_refl [] _)) ?_ ?_
                  · intro d hd
                    exact Nat.lt_of_lt_of_le (ltB_of (n := 109) h22aDS (by decide +kernel) d hd) (by simp)
                  · exact ⟨h22a73 (by simp), h22a74 (by simp), h22a75 (by simp), h22a76 (by simp) (by simp) (by omega), h22a77 (by simp), h22a78 (by simp) rfl, h22a79 (by simp) rfl, h22a80 (by simp) rfl, h22a81 (by simp) rfl, h22a82 (by simp) rfl, h22a83 (by simp) rfl, h22a84 (by simp) rfl, h22a85 (by simp) rfl, h22a86 (by simp) rfl, h22a87 (by simp), trivial⟩
                  · intro vs w' hl hv hI
                    have hl0 : vs.length = 15 := hl
                    clear hl
                    obtain ⟨x0, r0, rfl, hl1⟩ := cons_of hl0
                    clear hl0
                    obtain ⟨x1, r1, rfl, hl2⟩ := cons_of hl1
                    clear hl1
                    obtain ⟨x2, r2, rfl, hl3⟩ := cons_of hl2
                    clear hl2
                    obtain ⟨x3, r3, rfl, hl4⟩ := cons_of hl3
                    clear hl3
                    obtain ⟨x4, r4, rfl, hl5⟩ := cons_of hl4
                    clear hl4
                    obtain ⟨x5, r5, rfl, hl6⟩ := cons_of hl5
                    clear hl5
                    obtain ⟨x6, r6, rfl, hl7⟩ := cons_of hl6
                    clear hl6
                    obtain ⟨x7, r7, rfl, hl8⟩ := cons_of hl7
                    clear hl7
                    obtain ⟨x8, r8, rfl, hl9⟩ := cons_of hl8
                    clear hl8
                    obtain ⟨x9, r9, rfl, hl10⟩ := cons_of hl9
                    clear hl9
                    obtain ⟨x10, r10, rfl, hl11⟩ := cons_of hl10
                    clear hl10
                    obtain ⟨x11, r11, rfl, hl12⟩ := cons_of hl11
                    clear hl11
                    obtain ⟨x12, r12, rfl, hl13⟩ := cons_of hl12
                    clear hl12
                    obtain ⟨x13, r13, rfl, hl14⟩ := cons_of hl13
                    clear hl13
                    obtain ⟨x14, r14, rfl, hl15⟩ := cons_of hl14
                    clear hl14
                    have e14 : x14 = .bool false := hv 14 x14 (by simp) _ rfl
                    subst e14
                    obtain rfl : r14 = [] := List.eq_nil_of_length_eq_zero hl15
                    clear hv
                    simp only [h22aDS, setAll, List.setIfInBounds_toArray, List.set_cons_zero, List.set_cons_succ]
                    have c0 := cell_glx c0 hI (by simp)
                    have HRO := Lib.hid (rowW_gl HRO.out hI)
                    have hsq2 := hI.size
                    clear hI
                    generalize w' = wr at *
                    obtain ⟨o1, ho1⟩ : ∃ o1 : List (List UInt8), o1 = [] := ⟨_, rfl⟩
                    obtain ⟨e1, he1⟩ : ∃ e1 : List (List UInt8), e1 = [] := ⟨_, rfl⟩
                    have HT1 := Lib.hid (show TermsAt (.slice none 0 0) o1 wr from .inl ⟨none, 0, rfl, ho1⟩)
                    have HT2 := Lib.hid (show ∀ W, GL [] wr W → TermsAt (.slice none 0 0) e1 W from fun W _ => .inl ⟨none, 0, rfl, he1⟩)
                    have HE1 := Lib.hid (show insR [] x = o1 ++ [x] ++ e1 from by rw [ho1, he1]; rfl)
                    have HE2 := Lib.hid (show o1.length + e1.length = 0 by rw [ho1, he1]; rfl)
                    have hb1 : o1.length ≤ 2000000000 := by rw [ho1]; simp
                    have hb2 : e1.length ≤ 2000000000 := by rw [he1]; simp
                    clear ho1 he1 HIN2
                    go_wp2_with (at_builtin; first | (refine wpList_appL rfl _ _ rfl w.heap.size (.slice none 0 0) (.slice none 0 0) [] o1 _ rfl rfl (ownT_nil _ _) HT1.out (by simp; omega) (by omega) ?_; (intro v3 w3 hO3 hg3 hn3); (rw [List.nil_append] at hO3); (obtain ⟨p0, p1, hp01⟩ := ownT_form hO3); (subst hp01); (have HQ3 : Hid (RowW w.heap.size (.slice none 0 0) wr (.slice p0 o1.length p1) o1 w3) := Lib.hid ⟨hO3, hg3, fun g hg => by (rcases hn3 with h | h); (rw [h] at hg; exact .inl hg); (rw [h] at hg; injection hg with hg; exact .inr (by omega))⟩); (have hsq3 := HQ3.out.gl.size); (have k0 := cell_glx c0 HQ3.out.gl (by simp [Value.ownBlock])); (clear hO3 hg3 hn3)) | (refine wpList_appT rfl _ _ rfl w.heap.size (.slice p0 o1.length p1) o1 x w3 _ rfl rfl rfl HQ3.out.own (by omega) (by omega) ?_; (intro g6 c6 w6 hO6 hg6 hn6); (have HQ6 := Lib.hid (rowW_step HQ3.out (rowW_of hO6 hg6 hn6))); (have hsq6 := HQ6.out.gl.size); (clear hO6 hg6 hn6 k0)) | (go_must (refine wpList_appL rfl _ _ rfl w.heap.size (.slice (some ⟨g6, 0, none⟩) (o1.length + 1) c6) (.slice none 0 0) (o1 ++ [x]) e1 _ rfl (by first | rfl | (go_simp; done)) HQ6.out.own (HT2.out _ (by simpa [Value.ownBlock] using HQ6.out.gl)) (by simp; omega) (by omega) ?_; (intro v7 w7 hO7 hg7 hn7); (obtain ⟨o2, ho2⟩ : ∃ o2 : List (List UInt8), o2 = o1 ++ [x] ++ e1 := ⟨_, rfl⟩); (rw [← ho2] at hO7); (obtain ⟨r0, r1, hr01⟩ := ownT_form hO7); (subst hr01); (have HE3 := Lib.hid ho2); (have HQ7 := Lib.hid (rowW_step HQ6.out ⟨hO7, hg7, fun g hg => by (rcases hn7 with h | h); (rw [h] at hg; exact .inl hg); (rw [h] at hg; injection hg with hg; exact .inr (by omega))⟩)); (clear hO7 hg7 hn7 ho2))))
                    have hob2 : o2.length ≤ 2000000000 := by have h1 := congrArg List.length HE3.out; have h2 := HE2.out; simp only [List.length_append, List.length_cons, List.length_nil] at h1; omega
                    go_roundw
                    case rel => exact ⟨i + 1, o2, r0, r1, by omega, by go_num, rfl, hob2, Lib.hid (by have h1 := congrArg List.length HE3.out; have h2 := HE2.out; have h3 := HOLN.out; simp only [List.length_append, List.length_cons, List.length_nil] at h1 h3; omega), Lib.hid (fun h => by have h1 := HE3.out; rw [h] at h1; simp at h1), by show _ = _; rw [HN.out, ← HOI.out, HE1.out, HE3.out], Lib.hid (rowW_new HRO.out HQ7.out)⟩
                    case measure => simp [intOf]; omega
              · obtain ⟨g, c, hgc, hgn, hgm, hgl, hcc⟩ := ownT_cells HRO.out.own (by intro h; rw [h] at hoe; simp at hoe)
                injection hgc with hg1 hg2 hg3
                subst hg1 hg3
                have HCC := Lib.hid hcc
                clear hcc hg2
                have hmx : maxLen ≤ 9223372036854775807 := by unfold maxLen; omega
                go_wp2_with fail
                go_loopw [11] (fun av wr2 => ∃ a1 : Nat, a1 ≤ out.length ∧ av = .int .i64 a1 ∧ Hid ((out.take a1).all (fun y => Op.bytesLess y x) = true) ∧ Hid (GL [] wr wr2)) (fun av _ => out.length - (intOf av).toNat)
                case atStart => exact ⟨0, by omega, rfl, Lib.hid rfl, Lib.hid (gl_refl _ _)⟩
                case round =>
                  obtain ⟨a1, ha, rfl, HAL, hgq⟩ := hrel
                  have c0 := cell_glx c0 hgq.out (by simp)
                  have HRO := Lib.hid (rowW_gl HRO.out hgq.out)
                  have hsq := hgq.out.size
                  by_cases hlt2 : a1 < out.length
                  · have d1 : decide ((a1 : Int) < (out.length : Int)) = true := by simp; omega
                    have i2 : (a1 : Int) < out.length := by omega
                    have hy : out[a1]? = some out[a1] := List.getElem?_eq_getElem hlt2
                    have c1 := cell_glx (HCC.out a1 _ hy) hgq.out (by simp)
                    have HYI := Lib.hid hy
                    have HYA := Lib.hid (all_snoc (fun y => Op.bytesLess y x) out a1 _ hy)
                    clear hy
                    generalize out[a1] = y at *
                    cases hbl : Op.bytesLess y x with
                    | true =>
                      have HAL2 : Hid ((out.take (a1 + 1)).all (fun y => Op.bytesLess y x) = true) := by show _ = _; rw [HYA.out, HAL.out, hbl]; rfl
                      go_upto_region 22 with fail
                      refine wp_region_I (ds := h22cDS) (I := (fun W => GL [] wr W)) (G := GV (h22cGS g q out.length oc l.length lc a1 i x y)) rfl rfl (distinct_of _ (by decide +kernel)) ?_ (by kernel_rfl) (gl_drew (gl_refl [] _)) ?_ ?_
                      · intro d hd
                        exact Nat.lt_of_lt_of_le (ltB_of (n := 109) h22cDS (by decide +kernel) d hd) (by simp)
                      · exact ⟨h22c73 (by simp), h22c74 (by simp), h22c75 (by simp), h22c76 (by simp) (by simp) (by omega), h22c77 (by simp), h22c78 (by simp) rfl (by simp), h22c79 (by simp) rfl (by simp), h22c80 (by simp) rfl (by simp) (by simp) i2, h22c81 (by simp) rfl (by simp) (fun w h => cell_glx c1 h (by simp)), h22c82 (by simp) rfl (by simp), h22c83 (by simp) rfl (by simp), h22c84 (by simp) rfl (by simp) (by simp) i1, h22c85 (by simp) rfl (by simp) (fun w h => cell_glx c0 h (by simp)), h22c86 (by simp) rfl (by simp) (by simp) hbl, h22c87 (by simp) (by simp), trivial⟩
                      · intro vs w' hl hv hI
                        have hl0 : vs.length = 15 := hl
                        clear hl
                        obtain ⟨x0, r0, rfl, hl1⟩ := cons_of hl0
                        clear hl0
                        obtain ⟨x1, r1, rfl, hl2⟩ := cons_of hl1
                        clear hl1
                        obtain ⟨x2, r2, rfl, hl3⟩ := cons_of hl2
                        clear hl2
                        obtain ⟨x3, r3, rfl, hl4⟩ := cons_of hl3
                        clear hl3
                        obtain ⟨x4, r4, rfl, hl5⟩ := cons_of hl4
                        clear hl4
                        obtain ⟨x5, r5, rfl, hl6⟩ := cons_of hl5
                        clear hl5
                        obtain ⟨x6, r6, rfl, hl7⟩ := cons_of hl6
                        clear hl6
                        obtain ⟨x7, r7, rfl, hl8⟩ := cons_of hl7
                        clear hl7
                        obtain ⟨x8, r8, rfl, hl9⟩ := cons_of hl8
                        clear hl8
                        obtain ⟨x9, r9, rfl, hl10⟩ := cons_of hl9
                        clear hl9
                        obtain ⟨x10, r10, rfl, hl11⟩ := cons_of hl10
                        clear hl10
                        obtain ⟨x11, r11, rfl, hl12⟩ := cons_of hl11
                        clear hl11
                        obtain ⟨x12, r12, rfl, hl13⟩ := cons_of hl12
                        clear hl12
                        obtain ⟨x13, r13, rfl, hl14⟩ := cons_of hl13
                        clear hl13
                        obtain ⟨x14, r14, rfl, hl15⟩ := cons_of hl14
                        clear hl14
                        have e14 : x14 = .bool true := hv 14 x14 (by simp) _ rfl
                        subst e14
                        obtain rfl : r14 = [] := List.eq_nil_of_length_eq_zero hl15
                        clear hv
                        simp only [h22cDS, setAll, List.setIfInBounds_toArray, List.set_cons_zero, List.set_cons_succ]
                        have hgq2 := gl_step hI hgq.out (by simp)
                        clear hI hbl HYI HYA d1 c1 c0
                        go_wp2_with fail
                        go_roundw
                        case rel => exact ⟨a1 + 1, by omega, by go_num, HAL2, Lib.hid hgq2⟩
                        case measure => simp [intOf]; omega
                    | false =>
                      have HIN2 := Lib.hid (insR_at HAL.out (fun z hz => by have := HYI.out; rw [hz] at this; injection this with this; rw [this]; exact hbl))
                      go_upto_region 22 with fail
                      refine wp_region_I (ds := h22bDS) (I := (fun W => GL [] wr W)) (G := GV (h22bGS g q out.length oc l.length lc a1 i x y)) rfl rfl (distinct_of _ (by decide +kernel)) ?_ (by kernel_rfl) (gl_drew (gl_refl [] _)) ?_ ?_
                      · intro d hd
                        exact Nat.lt_of_lt_of_le (ltB_of (n := 109) h22bDS (by decide +kernel) d hd) (by simp)
                      · exact ⟨h22b73 (by simp), h22b74 (by simp), h22b75 (by simp), h22b76 (by simp) (by simp) (by omega), h22b77 (by simp), h22b78 (by simp) rfl (by simp), h22b79 (by simp) rfl (by simp), h22b80 (by simp) rfl (by simp) (by simp) i2, h22b81 (by simp) rfl (by simp) (fun w h => cell_glx c1 h (by simp)), h22b82 (by simp) rfl (by simp), h22b83 (by simp) rfl (by simp), h22b84 (by simp) rfl (by simp) (by simp) i1, h22b85 (by simp) rfl (by simp) (fun w h => cell_glx c0 h (by simp)), h22b86 (by simp) rfl (by simp) (by simp) hbl, h22b87 (by simp) (by simp), trivial⟩
                      · intro vs w' hl hv hI
                        have hl0 : vs.length = 15 := hl
                        clear hl
                        obtain ⟨x0, r0, rfl, hl1⟩ := cons_of hl0
                        clear hl0
                        obtain ⟨x1, r1, rfl, hl2⟩ := cons_of hl1
                        clear hl1
                        obtain ⟨x2, r2, rfl, hl3⟩ := cons_of hl2
                        clear hl2
                        obtain ⟨x3, r3, rfl, hl4⟩ := cons_of hl3
                        clear hl3
                        obtain ⟨x4, r4, rfl, hl5⟩ := cons_of hl4
                        clear hl4
                        obtain ⟨x5, r5, rfl, hl6⟩ := cons_of hl5
                        clear hl5
                        obtain ⟨x6, r6, rfl, hl7⟩ := cons_of hl6
                        clear hl6
                        obtain ⟨x7, r7, rfl, hl8⟩ := cons_of hl7
                        clear hl7
                        obtain ⟨x8, r8, rfl, hl9⟩ := cons_of hl8
                        clear hl8
                        obtain ⟨x9, r9, rfl, hl10⟩ := cons_of hl9
                        clear hl9
                        obtain ⟨x10, r10, rfl, hl11⟩ := cons_of hl10
                        clear hl10
                        obtain ⟨x11, r11, rfl, hl12⟩ := cons_of hl11
                        clear hl11
                        obtain ⟨x12, r12, rfl, hl13⟩ := cons_of hl12
                        clear hl12
                        obtain ⟨x13, r13, rfl, hl14⟩ := cons_of hl13
                        clear hl13
                        obtain ⟨x14, r14, rfl, hl15⟩ := cons_of hl14
                        clear hl14
                        have e14 : x14 = .bool false := hv 14 x14 (by simp) _ rfl
                        subst e14
                        obtain rfl : r14 = [] := List.eq_nil_of_length_eq_zero hl15
                        clear hv
                        simp only [h22bDS, setAll, List.setIfInBounds_toArray, List.set_cons_zero, List.set_cons_succ]
                        have hoc : ¬ oc = a1 := by omega

                        have c0 := cell_glx c0 hI (by simp)
                        have HRO := Lib.hid (rowW_gl HRO.out hI)
                        have hsq2 := hI.size
                        have hgq2 := gl_step hI hgq.out (by simp)
                        clear hI hbl HYI HYA d1 c1
                        obtain ⟨o1, ho1⟩ : ∃ o1 : List (List UInt8), o1 = out.take a1 := ⟨_, rfl⟩
                        obtain ⟨e1, he1⟩ : ∃ e1 : List (List UInt8), e1 = out.drop a1 := ⟨_, rfl⟩
                        have htk : o1.length = a1 := by rw [ho1, List.length_take]; omega
                        have hdr : e1.length = out.length - a1 := by rw [he1, List.length_drop]
                        generalize w' = wr at *
                        have HT1 := Lib.hid (show TermsAt (.slice (some ⟨g, 0, none⟩) a1 oc) o1 wr from .inr ⟨g, 0, oc, by rw [htk], by omega, fun k t hk => by (rw [ho1, List.getElem?_take] at hk); split at hk; (rw [Nat.zero_add]; exact cell_glx (HCC.out k t hk) hgq2 (by simp)); cases hk⟩)
                        have HT2 := Lib.hid (show ∀ W, GL [] wr W → TermsAt (.slice (some ⟨g, a1, none⟩) (out.length - a1) (oc - a1)) e1 W from fun W hW => .inr ⟨g, a1, oc - a1, by rw [hdr], by have := hW.size; omega, fun k t hk => by (rw [he1, List.getElem?_drop] at hk); exact cell_glx (cell_glx (HCC.out (a1 + k) t hk) hgq2 (by simp)) hW (by simp)⟩)
                        have HE1 := Lib.hid (show insR out x = o1 ++ [x] ++ e1 from by rw [ho1, he1]; exact HIN2.out)
                        have HE2 := Lib.hid (show o1.length + e1.length = out.length by omega)
                        have hb1 : o1.length ≤ 2000000000 := by omega
                        have hb2 : e1.length ≤ 2000000000 := by omega
                        have j1 : (a1 : Int) ≤ out.length := by omega
                        have j2 : (a1 : Int) ≤ oc := by omega
                        have j3 : (out.length : Int) ≤ oc := by omega
                        clear htk hdr ho1 he1 HIN2
                        go_wp2_with (at_builtin; first | (refine wpList_appL rfl _ _ rfl w.heap.size (.slice none 0 0) (.slice (some ⟨g, 0, none⟩) a1 oc) [] o1 _ rfl rfl (ownT_nil _ _) HT1.out (by simp; omega) (by omega) ?_; (intro v3 w3 hO3 hg3 hn3); (rw [List.nil_append] at hO3); (obtain ⟨p0, p1, hp01⟩ := ownT_form hO3); (subst hp01); (have HQ3 : Hid (RowW w.heap.size (.slice none 0 0) wr (.slice p0 o1.length p1) o1 w3) := Lib.hid ⟨hO3, hg3, fun g hg => by (rcases hn3 with h | h); (rw [h] at hg; exact .inl hg); (rw [h] at hg; injection hg with hg; exact .inr (by omega))⟩); (have hsq3 := HQ3.out.gl.size); (have k0 := cell_glx c0 HQ3.out.gl (by simp [Value.ownBlock])); (clear hO3 hg3 hn3)) | (refine wpList_appT rfl _ _ rfl w.heap.size (.slice p0 o1.length p1) o1 x w3 _ rfl rfl rfl HQ3.out.own (by omega) (by omega) ?_; (intro g6 c6 w6 hO6 hg6 hn6); (have HQ6 := Lib.hid (rowW_step HQ3.out (rowW_of hO6 hg6 hn6))); (have hsq6 := HQ6.out.gl.size); (clear hO6 hg6 hn6 k0)) | (go_must (refine wpList_appL rfl _ _ rfl w.heap.size (.slice (some ⟨g6, 0, none⟩) (o1.length + 1) c6) (.slice (some ⟨g, a1, none⟩) (out.length - a1) (oc - a1)) (o1 ++ [x]) e1 _ rfl (by first | rfl | (go_simp; done)) HQ6.out.own (HT2.out _ (by simpa [Value.ownBlock] using HQ6.out.gl)) (by simp; omega) (by omega) ?_; (intro v7 w7 hO7 hg7 hn7); (obtain ⟨o2, ho2⟩ : ∃ o2 : List (List UInt8), o2 = o1 ++ [x] ++ e1 := ⟨_, rfl⟩); (rw [← ho2] at hO7); (obtain ⟨r0, r1, hr01⟩ := ownT_form hO7); (subst hr01); (have HE3 := Lib.hid ho2); (have HQ7 := Lib.hid (rowW_step HQ6.out ⟨hO7, hg7, fun g hg => by (rcases hn7 with h | h); (rw [h] at hg; exact .inl hg); (rw [h] at hg; injection hg with hg; exact .inr (by omega))⟩)); (clear hO7 hg7 hn7 ho2))))
                        have hob2 : o2.length ≤ 2000000000 := by have h1 := congrArg List.length HE3.out; have h2 := HE2.out; have h3 := HOLN.out; simp only [List.length_append, List.length_cons, List.length_nil] at h1; omega
                        go_roundw
                        case rel => exact ⟨i + 1, o2, r0, r1, by omega, by go_num, rfl, hob2, Lib.hid (by have h1 := congrArg List.length HE3.out; have h2 := HE2.out; have h3 := HOLN.out; simp only [List.length_append, List.length_cons, List.length_nil] at h1; omega), Lib.hid (fun h => by have h1 := HE3.out; rw [h] at h1; simp at h1), by show _ = _; rw [HN.out, ← HOI.out, HE1.out, HE3.out], Lib.hid (rowW_new HRO.out HQ7.out)⟩
                        case measure => simp [intOf]; omega
                  · have d1 : decide ((a1 : Int) < (out.length : Int)) = false := by simp; omega
                    have HIN2 := Lib.hid (insR_at HAL.out (fun z hz => by rw [List.getElem?_eq_none (by omega)] at hz; cases hz))
                    go_upto_region 22 with fail
                    refine wp_region_I (ds := h22aDS) (I := (fun W => GL [] wr W)) (G := GV (h22aGS out.length oc a1 (some ⟨g, 0, none⟩))) rfl rfl (distinct_of _ (by decide +kernel)) ?_ (by kernel_rfl) (gl_drew (gl_refl [] _)) ?_ ?_
                    · intro d hd
                      exact Nat.lt_of_lt_of_le (ltB_of (n := 109) h22aDS (by decide +kernel) d hd) (by simp)
                    · exact ⟨h22a73 (by simp), h22a74 (by simp), h22a75 (by simp), h22a76 (by simp) (by simp) (by omega), h22a77 (by simp), h22a78 (by simp) rfl, h22a79 (by simp) rfl, h22a80 (by simp) rfl, h22a81 (by simp) rfl, h22a82 (by simp) rfl, h22a83 (by simp) rfl, h22a84 (by simp) rfl, h22a85 (by simp) rfl, h22a86 (by simp) rfl, h22a87 (by simp), trivial⟩
                    · intro vs w' hl hv hI
                      have hl0 : vs.length = 15 := hl
                      clear hl
                      obtain ⟨x0, r0, rfl, hl1⟩ := cons_of hl0
                      clear hl0
                      obtain ⟨x1, r1, rfl, hl2⟩ := cons_of hl1
                      clear hl1
                      obtain ⟨x2, r2, rfl, hl3⟩ := cons_of hl2
                      clear hl2
                      obtain ⟨x3, r3, rfl, hl4⟩ := cons_of hl3
                      clear hl3
                      obtain ⟨x4, r4, rfl, hl5⟩ := cons_of hl4
                      clear hl4
                      obtain ⟨x5, r5, rfl, hl6⟩ := cons_of hl5
                      clear hl5
                      obtain ⟨x6, r6, rfl, hl7⟩ := cons_of hl6
                      clear hl6
                      obtain ⟨x7, r7, rfl, hl8⟩ := cons_of hl7
                      clear hl7
                      obtain ⟨x8, r8, rfl, hl9⟩ := cons_of hl8
                      clear hl8
                      obtain ⟨x9, r9, rfl, hl10⟩ := cons_of hl9
                      clear hl9
                      obtain ⟨x10, r10, rfl, hl11⟩ := cons_of hl10
                      clear hl10
                      obtain ⟨x11, r11, rfl, hl12⟩ := cons_of hl11
                      clear hl11
                      obtain ⟨x12, r12, rfl, hl13⟩ := cons_of hl12
                      clear hl12
                      obtain ⟨x13, r13, rfl, hl14⟩ := cons_of hl13
                      clear hl13
                      obtain ⟨x14, r14, rfl, hl15⟩ := cons_of hl14
                      clear hl14
                      have e14 : x14 = .bool false := hv 14 x14 (by simp) _ rfl
                      subst e14
                      obtain rfl : r14 = [] := List.eq_nil_of_length_eq_zero hl15
                      clear hv
                      simp only [h22aDS, setAll, List.setIfInBounds_toArray, List.set_cons_zero, List.set_cons_succ]
                      by_cases hoc : oc = a1
                      · subst hoc

                        have c0 := cell_glx c0 hI (by simp)
                        have HRO := Lib.hid (rowW_gl HRO.out hI)
                        have hsq2 := hI.size
                        have hgq2 := gl_step hI hgq.out (by simp)
                        clear hI d1 hlt2
                        obtain ⟨o1, ho1⟩ : ∃ o1 : List (List UInt8), o1 = out.take oc := ⟨_, rfl⟩
                        obtain ⟨e1, he1⟩ : ∃ e1 : List (List UInt8), e1 = out.drop oc := ⟨_, rfl⟩
                        have htk : o1.length = oc := by rw [ho1, List.length_take]; omega
                        have hdr : e1.length = out.length - oc := by rw [he1, List.length_drop]
                        generalize w' = wr at *
                        have HT1 := Lib.hid (show TermsAt (.slice (some ⟨g, 0, none⟩) oc oc) o1 wr from .inr ⟨g, 0, oc, by rw [htk], by omega, fun k t hk => by (rw [ho1, List.getElem?_take] at hk); split at hk; (rw [Nat.zero_add]; exact cell_glx (HCC.out k t hk) hgq2 (by simp)); cases hk⟩)
                        have HT2 := Lib.hid (show ∀ W, GL [] wr W → TermsAt (.slice (some ⟨g, 0, none⟩) (out.length - oc) 0) e1 W from fun W _ => .inl ⟨_, 0, by rw [show out.length - oc = 0 by omega], List.eq_nil_of_length_eq_zero (by omega)⟩)
                        have HE1 := Lib.hid (show insR out x = o1 ++ [x] ++ e1 from by rw [ho1, he1]; exact HIN2.out)
                        have HE2 := Lib.hid (show o1.length + e1.length = out.length by omega)
                        have hb1 : o1.length ≤ 2000000000 := by omega
                        have hb2 : e1.length ≤ 2000000000 := by omega
                        have j1 : (oc : Int) ≤ out.length := by omega
                        have j2 : (oc : Int) ≤ oc := by omega
                        have j3 : (out.length : Int) ≤ oc := by omega
                        clear htk hdr ho1 he1 HIN2
                        go_wp2_with (at_builtin; first | (refine wpList_appL rfl _ _ rfl w.heap.size (.slice none 0 0) (.slice (some ⟨g, 0, none⟩) oc oc) [] o1 _ rfl rfl (ownT_nil _ _) HT1.out (by simp; omega) (by omega) ?_; (intro v3 w3 hO3 hg3 hn3); (rw [List.nil_append] at hO3); (obtain ⟨p0, p1, hp01⟩ := ownT_form hO3); (subst hp01); (have HQ3 : Hid (RowW w.heap.size (.slice none 0 0) wr (.slice p0 o1.length p1) o1 w3) := Lib.hid ⟨hO3, hg3, fun g hg => by (rcases hn3 with h | h); (rw [h] at hg; exact .inl hg); (rw [h] at hg; injection hg with hg; exact .inr (by omega))⟩); (have hsq3 := HQ3.out.gl.size); (have k0 := cell_glx c0 HQ3.out.gl (by simp [Value.ownBlock])); (clear hO3 hg3 hn3)) | (refine wpList_appT rfl _ _ rfl w.heap.size (.slice p0 o1.length p1) o1 x w3 _ rfl rfl rfl HQ3.out.own (by omega) (by omega) ?_; (intro g6 c6 w6 hO6 hg6 hn6); (have HQ6 := Lib.hid (rowW_step HQ3.out (rowW_of hO6 hg6 hn6))); (have hsq6 := HQ6.out.gl.size); (clear hO6 hg6 hn6 k0)) | (go_must (refine wpList_appL rfl _ _ rfl w.heap.size (.slice (some ⟨g6, 0, none⟩) (o1.length + 1) c6) (.slice (some ⟨g, 0, none⟩) (out.length - oc) 0) (o1 ++ [x]) e1 _ rfl (by first | rfl | (go_simp; done)) HQ6.out.own (HT2.out _ (by simpa [Value.ownBlock] using HQ6.out.gl)) (by simp; omega) (by omega) ?_; (intro v7 w7 hO7 hg7 hn7); (obtain ⟨o2, ho2⟩ : ∃ o2 : List (List UInt8), o2 = o1 ++ [x] ++ e1 := ⟨_, rfl⟩); (rw [← ho2] at hO7); (obtain ⟨r0, r1, hr01⟩ := ownT_form hO7); (subst hr01); (have HE3 := Lib.hid ho2); (have HQ7 := Lib.hid (rowW_step HQ6.out ⟨hO7, hg7, fun g hg => by (rcases hn7 with h | h); (rw [h] at hg; exact .inl hg); (rw [h] at hg; injection hg with hg; exact .inr (by omega))⟩)); (clear hO7 hg7 hn7 ho2))))
                        have hob2 : o2.length ≤ 2000000000 := by have h1 := congrArg List.length HE3.out; have h2 := HE2.out; have h3 := HOLN.out; simp only [List.length_append, List.length_cons, List.length_nil] at h1; omega
                        go_roundw
                        case rel => exact ⟨i + 1, o2, r0, r1, by omega, by go_num, rfl, hob2, Lib.hid (by have h1 := congrArg List.length HE3.out; have h2 := HE2.out; have h3 := HOLN.out; simp only [List.length_append, List.length_cons, List.length_nil] at h1; omega), Lib.hid (fun h => by have h1 := HE3.out; rw [h] at h1; simp at h1), by show _ = _; rw [HN.out, ← HOI.out, HE1.out, HE3.out], Lib.hid (rowW_new HRO.out HQ7.out)⟩
                        case measure => simp [intOf]; omega
                      · have c0 := cell_glx c0 hI (by simp)
                        have HRO := Lib.hid (rowW_gl HRO.out hI)
                        have hsq2 := hI.size
                        have hgq2 := gl_step hI hgq.out (by simp)
                        clear hI d1 hlt2
                        obtain ⟨o1, ho1⟩ : ∃ o1 : List (List UInt8), o1 = out.take a1 := ⟨_, rfl⟩
                        obtain ⟨e1, he1⟩ : ∃ e1 : List (List UInt8), e1 = out.drop a1 := ⟨_, rfl⟩
                        have htk : o1.length = a1 := by rw [ho1, List.length_take]; omega
                        have hdr : e1.length = out.length - a1 := by rw [he1, List.length_drop]
                        generalize w' = wr at *
                        have HT1 := Lib.hid (show TermsAt (.slice (some ⟨g, 0, none⟩) a1 oc) o1 wr from .inr ⟨g, 0, oc, by rw [htk], by omega, fun k t hk => by (rw [ho1, List.getElem?_take] at hk); split at hk; (rw [Nat.zero_add]; exact cell_glx (HCC.out k t hk) hgq2 (by simp)); cases hk⟩)
                        have HT2 := Lib.hid (show ∀ W, GL [] wr W → TermsAt (.slice (some ⟨g, a1, none⟩) (out.length - a1) (oc - a1)) e1 W from fun W hW => .inr ⟨g, a1, oc - a1, by rw [hdr], by have := hW.size; omega, fun k t hk => by (rw [he1, List.getElem?_drop] at hk); exact cell_glx (cell_glx (HCC.out (a1 + k) t hk) hgq2 (by simp)) hW (by simp)⟩)
                        have HE1 := Lib.hid (show insR out x = o1 ++ [x] ++ e1 from by rw [ho1, he1]; exact HIN2.out)
                        have HE2 := Lib.hid (show o1.length + e1.length = out.length by omega)
                        have hb1 : o1.length ≤ 2000000000 := by omega
                        have hb2 : e1.length ≤ 2000000000 := by omega
                        have j1 : (a1 : Int) ≤ out.length := by omega
                        have j2 : (a1 : Int) ≤ oc := by omega
                        have j3 : (out.length : Int) ≤ oc := by omega
                        clear htk hdr ho1 he1 HIN2
                        go_wp2_with (at_builtin; first | (refine wpList_appL rfl _ _ rfl w.heap.size (.slice none 0 0) (.slice (some ⟨g, 0, none⟩) a1 oc) [] o1 _ rfl rfl (ownT_nil _ _) HT1.out (by simp; omega) (by omega) ?_; (intro v3 w3 hO3 hg3 hn3); (rw [List.nil_append] at hO3); (obtain ⟨p0, p1, hp01⟩ := ownT_form hO3); (subst hp01); (have HQ3 : Hid (RowW w.heap.size (.slice none 0 0) wr (.slice p0 o1.length p1) o1 w3) := Lib.hid ⟨hO3, hg3, fun g hg => by (rcases hn3 with h | h); (rw [h] at hg; exact .inl hg); (rw [h] at hg; injection hg with hg; exact .inr (by omega))⟩); (have hsq3 := HQ3.out.gl.size); (have k0 := cell_glx c0 HQ3.out.gl (by simp [Value.ownBlock])); (clear hO3 hg3 hn3)) | (refine wpList_appT rfl _ _ rfl w.heap.size (.slice p0 o1.length p1) o1 x w3 _ rfl rfl rfl HQ3.out.own (by omega) (by omega) ?_; (intro g6 c6 w6 hO6 hg6 hn6); (have HQ6 := Lib.hid (rowW_step HQ3.out (rowW_of hO6 hg6 hn6))); (have hsq6 := HQ6.out.gl.size); (clear hO6 hg6 hn6 k0)) | (go_must (refine wpList_appL rfl _ _ rfl w.heap.size (.slice (some ⟨g6, 0, none⟩) (o1.length + 1) c6) (.slice (some ⟨g, a1, none⟩) (out.length - a1) (oc - a1)) (o1 ++ [x]) e1 _ rfl (by first | rfl | (go_simp; done)) HQ6.out.own (HT2.out _ (by simpa [Value.ownBlock] using HQ6.out.gl)) (by simp; omega) (by omega) ?_; (intro v7 w7 hO7 hg7 hn7); (obtain ⟨o2, ho2⟩ : ∃ o2 : List (List UInt8), o2 = o1 ++ [x] ++ e1 := ⟨_, rfl⟩); (rw [← ho2] at hO7); (obtain ⟨r0, r1, hr01⟩ := ownT_form hO7); (subst hr01); (have HE3 := Lib.hid ho2); (have HQ7 := Lib.hid (rowW_step HQ6.out ⟨hO7, hg7, fun g hg => by (rcases hn7 with h | h); (rw [h] at hg; exact .inl hg); (rw [h] at hg; injection hg with hg; exact .inr (by omega))⟩)); (clear hO7 hg7 hn7 ho2))))
                        have hob2 : o2.length ≤ 2000000000 := by have h1 := congrArg List.length HE3.out; have h2 := HE2.out; have h3 := HOLN.out; simp only [List.length_append, List.length_cons, List.length_nil] at h1; omega
                        go_roundw
                        case rel => exact ⟨i + 1, o2, r0, r1, by omega, by go_num, rfl, hob2, Lib.hid (by have h1 := congrArg List.length HE3.out; have h2 := HE2.out; have h3 := HOLN.out; simp only [List.length_append, List.length_cons, List.length_nil] at h1; omega), Lib.hid (fun h => by have h1 := HE3.out; rw [h] at h1; simp at h1), by show _ = _; rw [HN.out, ← HOI.out, HE1.out, HE3.out], Lib.hid (rowW_new HRO.out HQ7.out)⟩
                        case measure => simp [intOf]; omega
            · obtain rfl : i = l.length := by omega
              have HOE : Hid (out = l.foldl insR []) := by
                have e := HOI.out
                rw [List.take_length] at e
                exact e
              clear HOI
              go_wp2_with fail
              go_ret
              refine ⟨_, out, l, by first | rfl | (simp; done), HRO.out.own, by rw [HOE.out]; exact fold_ins_sorted _ _ List.Pairwise.nil, by rw [HOE.out]; simpa using fold_ins_perm l [], HPW.out, HALL.out, by omega, gl_to_below (gl_step HRO.out.gl hgw (by simp [Value.ownBlock]))⟩
end Go.Proofs.YtdipkblmcloifaaGreatDoor
