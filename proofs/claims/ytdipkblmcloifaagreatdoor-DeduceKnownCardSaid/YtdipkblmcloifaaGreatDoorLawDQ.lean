/- The laws of layer 3: what a copy hears the first one does not. -/
import Derived.Test.YtdipkblmcloifaaGreatDoorLawDB
import Derived.Test.YtdipkblmcloifaaGreatDoorDedO
import Derived.Test.YtdipkblmcloifaaGreatDoorR3F
import Derived.Test.YtdipkblmcloifaaGreatDoorRegI
set_option linter.unusedSimpArgs false
set_option linter.unusedVariables false
namespace Go.Proofs.YtdipkblmcloifaaGreatDoor
open Go.RowKit

/-- Two minds lie apart. -/
structure CopK (w : World) (M bh be C ch ce : Nat) : Prop where
  l1 : w.heap.size ≤ M ∧ w.heap.size ≤ bh ∧ w.heap.size ≤ be
  l2 : w.heap.size ≤ C ∧ w.heap.size ≤ ch ∧ w.heap.size ≤ ce
  d1 : C ∉ [bh, be] ∧ ch ∉ [bh, be] ∧ ce ∉ [bh, be]
  d2 : M ∉ [ch, ce] ∧ bh ∉ [ch, ce] ∧ be ∉ [ch, ce]
/-- A block is none of two minds'. -/
def NoM (g M bh be C ch ce : Nat) : Prop := g ≠ M ∧ g ≠ bh ∧ g ≠ be ∧ g ≠ C ∧ g ≠ ch ∧ g ≠ ce
/-- Two minds, and what each has heard, in rows of their own. -/
structure CopI (w : World) (M bh be C ch ce : Nat) (wr : World) (H1 S1 : List UInt8 → Bool) (n1 : Nat) (H2 S2 : List UInt8 → Bool) (n2 : Nat) (xv : Value) (X : List (List UInt8)) (yv : Value) (Y : List (List UInt8)) : Prop where
  gl : GL [] w wr
  m1 : MindAt wr M bh be H1 S1 n1
  m2 : MindAt wr C ch ce H2 S2 n2
  x : OwnT w.heap.size xv X wr
  y : OwnT w.heap.size yv Y wr
  nx : ∀ g, xv.ownBlock = some g → NoM g M bh be C ch ce
  ny : ∀ g, yv.ownBlock = some g → NoM g M bh be C ch ce
  xy : ∀ g, xv.ownBlock = some g → yv.ownBlock ≠ some g
section
variable {w wr w' : World} {M bh be C ch ce n1 n2 : Nat} {H1 S1 H2 S2 : List UInt8 → Bool} {xv yv : Value} {X Y : List (List UInt8)}
theorem cop_gl (h : CopI w M bh be C ch ce wr H1 S1 n1 H2 S2 n2 xv X yv Y) (hg : GL [] wr w') : CopI w M bh be C ch ce w' H1 S1 n1 H2 S2 n2 xv X yv Y :=
  ⟨gl_step hg h.gl (by simp), mind_gl h.m1 hg (by simp) (by simp) (by simp), mind_gl h.m2 hg (by simp) (by simp) (by simp), ownT_gl h.x hg (by simp), ownT_gl h.y hg (by simp), h.nx, h.ny, h.xy⟩
theorem cop_one {H1' S1' : List UInt8 → Bool} {n1' : Nat} (hK : CopK w M bh be C ch ce) (h : CopI w M bh be C ch ce wr H1 S1 n1 H2 S2 n2 xv X yv Y) (hg : GL [bh, be] wr w') (hm : MindAt w' M bh be H1' S1' n1') : CopI w M bh be C ch ce w' H1' S1' n1' H2 S2 n2 xv X yv Y :=
  ⟨gl_step hg h.gl (fun r hr => .inr (by have := hK.l1; simp at hr; omega)), hm, mind_gl h.m2 hg hK.d1.1 hK.d1.2.1 hK.d1.2.2,
   ownT_gl h.x hg (fun r hr he => by have := h.nx r he; unfold NoM at this; simp at hr; omega), ownT_gl h.y hg (fun r hr he => by have := h.ny r he; unfold NoM at this; simp at hr; omega), h.nx, h.ny, h.xy⟩
theorem cop_two {H2' S2' : List UInt8 → Bool} {n2' : Nat} (hK : CopK w M bh be C ch ce) (h : CopI w M bh be C ch ce wr H1 S1 n1 H2 S2 n2 xv X yv Y) (hg : GL [ch, ce] wr w') (hm : MindAt w' C ch ce H2' S2' n2') : CopI w M bh be C ch ce w' H1 S1 n1 H2' S2' n2' xv X yv Y :=
  ⟨gl_step hg h.gl (fun r hr => .inr (by have := hK.l2; simp at hr; omega)), mind_gl h.m1 hg hK.d2.1 hK.d2.2.1 hK.d2.2.2, hm,
   ownT_gl h.x hg (fun r hr he => by have := h.nx r he; unfold NoM at this; simp at hr; omega), ownT_gl h.y hg (fun r hr he => by have := h.ny r he; unfold NoM at this; simp at hr; omega), h.nx, h.ny, h.xy⟩
theorem cop_swap (h : CopI w M bh be C ch ce wr H1 S1 n1 H2 S2 n2 xv X yv Y) : CopI w C ch ce M bh be wr H2 S2 n2 H1 S1 n1 yv Y xv X :=
  ⟨h.gl, h.m2, h.m1, h.y, h.x, fun g hg => by have := h.ny g hg; unfold NoM at this ⊢; omega, fun g hg => by have := h.nx g hg; unfold NoM at this ⊢; omega, fun g hg he => h.xy g he hg⟩
theorem cop_addx {g n c : Nat} {X' : List (List UInt8)} (h : CopI w M bh be C ch ce wr H1 S1 n1 H2 S2 n2 xv X yv Y) (hO : OwnT w.heap.size (.slice (some ⟨g, 0, none⟩) n c) X' w') (hg : GL xv.ownBlock.toList wr w') (hn : xv.ownBlock = some g ∨ wr.heap.size < g) :
    CopI w M bh be C ch ce w' H1 S1 n1 H2 S2 n2 (.slice (some ⟨g, 0, none⟩) n c) X' yv Y := by
  have hr : ∀ r ∈ xv.ownBlock.toList, NoM r M bh be C ch ce ∧ yv.ownBlock ≠ some r ∧ w.heap.size ≤ r := fun r hr => by
    have e : xv.ownBlock = some r := by simpa using hr
    exact ⟨h.nx r e, h.xy r e, (ownT_blk h.x r e).1⟩
  have l1 := mind_lt h.m1
  have l2 := mind_lt h.m2
  have hno : ∀ q, q = M ∨ q = bh ∨ q = be ∨ q = C ∨ q = ch ∨ q = ce → q ∉ xv.ownBlock.toList := fun q hq hm => by have := (hr q hm).1; unfold NoM at this; omega
  refine ⟨gl_step hg h.gl (fun r hm => .inr (hr r hm).2.2), mind_gl h.m1 hg (hno _ (by simp)) (hno _ (by simp)) (hno _ (by simp)), mind_gl h.m2 hg (hno _ (by simp)) (hno _ (by simp)) (hno _ (by simp)), hO, ownT_gl h.y hg (fun r hm => (hr r hm).2.1), fun q hq => ?_, h.ny, fun q hq => ?_⟩
  all_goals
    obtain rfl : g = q := Option.some.inj hq
    rcases hn with hn | hn
  · exact h.nx g hn
  · unfold NoM; omega
  · exact h.xy g hn
  · intro hy
    have := (ownT_blk h.y g hy).2
    omega
end
theorem heard_mem (L : List (List UInt8)) (t : List UInt8) : heardP L t = true ↔ t ∈ L.filter right := by
  unfold heardP
  rw [Bool.and_eq_true, decide_eq_true_eq, List.mem_filter]
  exact And.comm
theorem filter_add (L : List (List UInt8)) (x : List UInt8) : (L ++ [x]).filter right = L.filter right ++ (if right x = true then [x] else []) := by
  rw [List.filter_append]
  cases h : right x <;> simp [h]

def q24DS : List (Option Nat) := [some 94, some 95, some 96, some 97, some 98, some 99, some 100, some 101, some 102, some 103, some 104, some 105, some 106, some 107, some 108, some 109, some 110, some 111, some 112, some 113, some 114, some 115, some 116, some 117, some 118, some 119, some 120, some 121]
def q24GS (M C g o n uc i xn xc yn yc : Nat) (xa ya : Option Addr) (t : List UInt8) (b1 b2 : Bool) : List (Option Value) := [some (.pointer (some ⟨M, 0, none⟩)), some (.slice (some ⟨g, o, none⟩) n uc), some (.int .i64 i), some (.pointer (some ⟨g, o + i, none⟩)), some (.string (bs t)), some (.bool b1), some (.slice xa xn xc), some (.slice (some ⟨g, o, none⟩) n uc), some (.int .i64 i), some (.pointer (some ⟨g, o + i, none⟩)), some (.string (bs t)), some (.bool b1), some (.bool false), some (.bool false), some (.pointer (some ⟨C, 0, none⟩)), some (.slice (some ⟨g, o, none⟩) n uc), some (.int .i64 i), some (.pointer (some ⟨g, o + i, none⟩)), some (.string (bs t)), some (.bool b2), some (.slice ya yn yc), some (.slice (some ⟨g, o, none⟩) n uc), some (.int .i64 i), some (.pointer (some ⟨g, o + i, none⟩)), some (.string (bs t)), some (.bool b2), some (.bool false), some (.bool false)]
section
variable {ops : Array Oper} {Q : Exit → Act → World → Prop} {a0 : Act} {I : World → Prop} {af : Array Edge} {ty : Nat} {pos : String} {at_ : Array TypeId} {M C g o n uc i xn xc yn yc : Nat} {xa ya : Option Addr} {t : List UInt8} {b1 b2 : Bool}
set_option maxRecDepth 100000 in
set_option maxHeartbeats 1000000 in
theorem q2494 (o9 : a0.tmps[9]? = some (.pointer (some ⟨M, 0, none⟩))) : StepI Tryz.prog ops Q a0 q24DS I (GV (q24GS M C g o n uc i xn xc yn yc xa ya t b1 b2)) 0 { dst := some 94, op := .move (.tmp 9), type := ty, pos := pos, after := af, guard := none } := by
  intro a w hout hI hdep K hK
  rw [if_pos (by simp [Region.wanted])]
  have o9w := (hout 9 (by decide)).trans o9
  clear hout hdep
  clear o9
  go_simp
  exact hK _ _ (gv_of rfl (by first | rfl | (simp; done))) hI
set_option maxRecDepth 100000 in
set_option maxHeartbeats 1000000 in
theorem q2495 (o3 : a0.tmps[3]? = some (.slice (some ⟨g, o, none⟩) n uc)) : StepI Tryz.prog ops Q a0 q24DS I (GV (q24GS M C g o n uc i xn xc yn yc xa ya t b1 b2)) 1 { dst := some 95, op := .move (.tmp 3), type := ty, pos := pos, after := af, guard := none } := by
  intro a w hout hI hdep K hK
  rw [if_pos (by simp [Region.wanted])]
  have o3w := (hout 3 (by decide)).trans o3
  clear hout hdep
  clear o3
  go_simp
  exact hK _ _ (gv_of rfl (by first | rfl | (simp; done))) hI
set_option maxRecDepth 100000 in
set_option maxHeartbeats 1000000 in
theorem q2496 (o15 : a0.tmps[15]? = some (.int .i64 i)) : StepI Tryz.prog ops Q a0 q24DS I (GV (q24GS M C g o n uc i xn xc yn yc xa ya t b1 b2)) 2 { dst := some 96, op := .move (.tmp 15), type := ty, pos := pos, after := af, guard := none } := by
  intro a w hout hI hdep K hK
  rw [if_pos (by simp [Region.wanted])]
  have o15w := (hout 15 (by decide)).trans o15
  clear hout hdep
  clear o15
  go_simp
  exact hK _ _ (gv_of rfl (by first | rfl | (simp; done))) hI
set_option maxRecDepth 100000 in
set_option maxHeartbeats 1000000 in
theorem q2497 (h95 : (⟨1, .data⟩ : Edge) ∈ af.toList) (h96 : (⟨2, .data⟩ : Edge) ∈ af.toList) (hlt : (i : Int) < (n : Int)) : StepI Tryz.prog ops Q a0 q24DS I (GV (q24GS M C g o n uc i xn xc yn yc xa ya t b1 b2)) 3 { dst := some 97, op := .indexAddr 22 (.tmp 95) (.tmp 96), type := ty, pos := pos, after := af, guard := none } := by
  intro a w hout hI hdep K hK
  rw [if_pos (by simp [Region.wanted])]
  obtain ⟨v95, g95, e95⟩ := hdep ⟨1, .data⟩ h95 rfl
  have e95 := e95 95 rfl
  have g95 := g95 _ rfl
  subst g95
  obtain ⟨v96, g96, e96⟩ := hdep ⟨2, .data⟩ h96 rfl
  have e96 := e96 96 rfl
  have g96 := g96 _ rfl
  subst g96
  clear hout hdep
  go_simp
  exact hK _ _ (gv_of rfl (by first | rfl | (simp; done))) hI
set_option maxRecDepth 100000 in
set_option maxHeartbeats 1000000 in
theorem q2498 (h97 : (⟨3, .data⟩ : Edge) ∈ af.toList) (hL : ∀ w, I w → w.cell? ⟨g, o + i, none⟩ = some (.string (bs t))) : StepI Tryz.prog ops Q a0 q24DS I (GV (q24GS M C g o n uc i xn xc yn yc xa ya t b1 b2)) 4 { dst := some 98, op := .load 28 (.tmp 97), type := ty, pos := pos, after := af, guard := none } := by
  intro a w hout hI hdep K hK
  rw [if_pos (by simp [Region.wanted])]
  obtain ⟨v97, g97, e97⟩ := hdep ⟨3, .data⟩ h97 rfl
  have e97 := e97 97 rfl
  have g97 := g97 _ rfl
  subst g97
  have hLw := hL w hI
  clear hout hdep
  go_simp
  exact hK _ _ (gv_of rfl (by first | rfl | (simp; done))) hI
set_option maxRecDepth 100000 in
set_option maxHeartbeats 1000000 in
theorem q2499 (h94 : (⟨0, .data⟩ : Edge) ∈ af.toList) (h98 : (⟨4, .data⟩ : Edge) ∈ af.toList) (hC : ∀ w, I w → Calls Tryz.prog 12 #[.pointer (some ⟨M, 0, none⟩), .string (bs t)] w fun e w' => e = .returned (.bool b1) ∧ I w') : StepI Tryz.prog ops Q a0 q24DS I (GV (q24GS M C g o n uc i xn xc yn yc xa ya t b1 b2)) 5 { dst := some 99, op := .call { callee := .value (.func 12), args := #[.tmp 94, .tmp 98], argTypes := at_ }, type := ty, pos := pos, after := af, guard := none } := by
  intro a w hout hI hdep K hK
  rw [if_pos (by simp [Region.wanted])]
  obtain ⟨v94, g94, e94⟩ := hdep ⟨0, .data⟩ h94 rfl
  have e94 := e94 94 rfl
  have g94 := g94 _ rfl
  subst g94
  obtain ⟨v98, g98, e98⟩ := hdep ⟨4, .data⟩ h98 rfl
  have e98 := e98 98 rfl
  have g98 := g98 _ rfl
  subst g98
  clear hout hdep
  go_simp
  refine (hC w hI).mono ?_
  rintro e w1 ⟨rfl, hI1⟩
  exact hK _ _ (gv_of rfl rfl) hI1
set_option maxRecDepth 100000 in
set_option maxHeartbeats 1000000 in
theorem q24100 (o10 : a0.tmps[10]? = some (.slice xa xn xc)) : StepI Tryz.prog ops Q a0 q24DS I (GV (q24GS M C g o n uc i xn xc yn yc xa ya t b1 b2)) 6 { dst := some 100, op := .move (.tmp 10), type := ty, pos := pos, after := af, guard := none } := by
  intro a w hout hI hdep K hK
  rw [if_pos (by simp [Region.wanted])]
  have o10w := (hout 10 (by decide)).trans o10
  clear hout hdep
  clear o10
  go_simp
  exact hK _ _ (gv_of rfl (by first | rfl | (simp; done))) hI
set_option maxRecDepth 100000 in
set_option maxHeartbeats 1000000 in
theorem q24101 (o3 : a0.tmps[3]? = some (.slice (some ⟨g, o, none⟩) n uc)) : StepI Tryz.prog ops Q a0 q24DS I (GV (q24GS M C g o n uc i xn xc yn yc xa ya t b1 b2)) 7 { dst := some 101, op := .move (.tmp 3), type := ty, pos := pos, after := af, guard := none } := by
  intro a w hout hI hdep K hK
  rw [if_pos (by simp [Region.wanted])]
  have o3w := (hout 3 (by decide)).trans o3
  clear hout hdep
  clear o3
  go_simp
  exact hK _ _ (gv_of rfl (by first | rfl | (simp; done))) hI
set_option maxRecDepth 100000 in
set_option maxHeartbeats 1000000 in
theorem q24102 (o15 : a0.tmps[15]? = some (.int .i64 i)) : StepI Tryz.prog ops Q a0 q24DS I (GV (q24GS M C g o n uc i xn xc yn yc xa ya t b1 b2)) 8 { dst := some 102, op := .move (.tmp 15), type := ty, pos := pos, after := af, guard := none } := by
  intro a w hout hI hdep K hK
  rw [if_pos (by simp [Region.wanted])]
  have o15w := (hout 15 (by decide)).trans o15
  clear hout hdep
  clear o15
  go_simp
  exact hK _ _ (gv_of rfl (by first | rfl | (simp; done))) hI
set_option maxRecDepth 100000 in
set_option maxHeartbeats 1000000 in
theorem q24103 (h101 : (⟨7, .data⟩ : Edge) ∈ af.toList) (h102 : (⟨8, .data⟩ : Edge) ∈ af.toList) (hlt : (i : Int) < (n : Int)) : StepI Tryz.prog ops Q a0 q24DS I (GV (q24GS M C g o n uc i xn xc yn yc xa ya t b1 b2)) 9 { dst := some 103, op := .indexAddr 22 (.tmp 101) (.tmp 102), type := ty, pos := pos, after := af, guard := none } := by
  intro a w hout hI hdep K hK
  rw [if_pos (by simp [Region.wanted])]
  obtain ⟨v101, g101, e101⟩ := hdep ⟨7, .data⟩ h101 rfl
  have e101 := e101 101 rfl
  have g101 := g101 _ rfl
  subst g101
  obtain ⟨v102, g102, e102⟩ := hdep ⟨8, .data⟩ h102 rfl
  have e102 := e102 102 rfl
  have g102 := g102 _ rfl
  subst g102
  clear hout hdep
  go_simp
  exact hK _ _ (gv_of rfl (by first | rfl | (simp; done))) hI
set_option maxRecDepth 100000 in
set_option maxHeartbeats 1000000 in
theorem q24104 (h103 : (⟨9, .data⟩ : Edge) ∈ af.toList) (hL : ∀ w, I w → w.cell? ⟨g, o + i, none⟩ = some (.string (bs t))) : StepI Tryz.prog ops Q a0 q24DS I (GV (q24GS M C g o n uc i xn xc yn yc xa ya t b1 b2)) 10 { dst := some 104, op := .load 28 (.tmp 103), type := ty, pos := pos, after := af, guard := none } := by
  intro a w hout hI hdep K hK
  rw [if_pos (by simp [Region.wanted])]
  obtain ⟨v103, g103, e103⟩ := hdep ⟨9, .data⟩ h103 rfl
  have e103 := e103 103 rfl
  have g103 := g103 _ rfl
  subst g103
  have hLw := hL w hI
  clear hout hdep
  go_simp
  exact hK _ _ (gv_of rfl (by first | rfl | (simp; done))) hI
set_option maxRecDepth 100000 in
set_option maxHeartbeats 1000000 in
theorem q24105 (h100 : (⟨6, .data⟩ : Edge) ∈ af.toList) (h104 : (⟨10, .data⟩ : Edge) ∈ af.toList) (hC : ∀ w, I w → Calls Tryz.prog 13 #[.slice xa xn xc, .string (bs t)] w fun e w' => e = .returned (.bool b1) ∧ I w') : StepI Tryz.prog ops Q a0 q24DS I (GV (q24GS M C g o n uc i xn xc yn yc xa ya t b1 b2)) 11 { dst := some 105, op := .call { callee := .value (.func 13), args := #[.tmp 100, .tmp 104], argTypes := at_ }, type := ty, pos := pos, after := af, guard := none } := by
  intro a w hout hI hdep K hK
  rw [if_pos (by simp [Region.wanted])]
  obtain ⟨v100, g100, e100⟩ := hdep ⟨6, .data⟩ h100 rfl
  have e100 := e100 100 rfl
  have g100 := g100 _ rfl
  subst g100
  obtain ⟨v104, g104, e104⟩ := hdep ⟨10, .data⟩ h104 rfl
  have e104 := e104 104 rfl
  have g104 := g104 _ rfl
  subst g104
  clear hout hdep
  go_simp
  refine (hC w hI).mono ?_
  rintro e w1 ⟨rfl, hI1⟩
  exact hK _ _ (gv_of rfl rfl) hI1
set_option maxRecDepth 100000 in
set_option maxHeartbeats 1000000 in
theorem q24106 (h99 : (⟨5, .data⟩ : Edge) ∈ af.toList) (h105 : (⟨11, .data⟩ : Edge) ∈ af.toList) : StepI Tryz.prog ops Q a0 q24DS I (GV (q24GS M C g o n uc i xn xc yn yc xa ya t b1 b2)) 12 { dst := some 106, op := .binOp .neq 4 (.tmp 99) (.tmp 105) 4, type := ty, pos := pos, after := af, guard := none } := by
  intro a w hout hI hdep K hK
  rw [if_pos (by simp [Region.wanted])]
  obtain ⟨v99, g99, e99⟩ := hdep ⟨5, .data⟩ h99 rfl
  have e99 := e99 99 rfl
  have g99 := g99 _ rfl
  subst g99
  obtain ⟨v105, g105, e105⟩ := hdep ⟨11, .data⟩ h105 rfl
  have e105 := e105 105 rfl
  have g105 := g105 _ rfl
  subst g105
  clear hout hdep
  go_simp
  exact hK _ _ (gv_of rfl (by first | rfl | (simp; done))) hI
set_option maxRecDepth 100000 in
set_option maxHeartbeats 1000000 in
theorem q24107 (h106 : (⟨12, .data⟩ : Edge) ∈ af.toList) : StepI Tryz.prog ops Q a0 q24DS I (GV (q24GS M C g o n uc i xn xc yn yc xa ya t b1 b2)) 13 { dst := some 107, op := .move (.tmp 106), type := ty, pos := pos, after := af, guard := none } := by
  intro a w hout hI hdep K hK
  rw [if_pos (by simp [Region.wanted])]
  obtain ⟨v106, g106, e106⟩ := hdep ⟨12, .data⟩ h106 rfl
  have e106 := e106 106 rfl
  have g106 := g106 _ rfl
  subst g106
  clear hout hdep
  go_simp
  exact hK _ _ (gv_of rfl (by first | rfl | (simp; done))) hI
set_option maxRecDepth 100000 in
set_option maxHeartbeats 1000000 in
theorem q24108 (hg : (⟨13, .guard⟩ : Edge) ∈ af.toList) (hgo : ops[13]?.bind (·.dst) = some 107) (o11 : a0.tmps[11]? = some (.pointer (some ⟨C, 0, none⟩))) : StepI Tryz.prog ops Q a0 q24DS I (GV (q24GS M C g o n uc i xn xc yn yc xa ya t b1 b2)) 14 { dst := some 108, op := .move (.tmp 11), type := ty, pos := pos, after := af, guard := some (13, false) } := by
  intro a w hout hI hdep K hK
  obtain ⟨vg, gg, eg⟩ := hdep ⟨13, .guard⟩ hg rfl
  have eg := eg 107 rfl
  have gg := gg _ rfl
  subst gg
  have hy := yielded_is hgo eg
  rw [if_pos (by simp [Region.wanted, hy])]
  have o11w := (hout 11 (by decide)).trans o11
  clear hout hdep hy
  clear o11
  go_simp
  exact hK _ _ (gv_of rfl (by first | rfl | (simp; done))) hI
set_option maxRecDepth 100000 in
set_option maxHeartbeats 1000000 in
theorem q24109 (hg : (⟨13, .guard⟩ : Edge) ∈ af.toList) (hgo : ops[13]?.bind (·.dst) = some 107) (o3 : a0.tmps[3]? = some (.slice (some ⟨g, o, none⟩) n uc)) : StepI Tryz.prog ops Q a0 q24DS I (GV (q24GS M C g o n uc i xn xc yn yc xa ya t b1 b2)) 15 { dst := some 109, op := .move (.tmp 3), type := ty, pos := pos, after := af, guard := some (13, false) } := by
  intro a w hout hI hdep K hK
  obtain ⟨vg, gg, eg⟩ := hdep ⟨13, .guard⟩ hg rfl
  have eg := eg 107 rfl
  have gg := gg _ rfl
  subst gg
  have hy := yielded_is hgo eg
  rw [if_pos (by simp [Region.wanted, hy])]
  have o3w := (hout 3 (by decide)).trans o3
  clear hout hdep hy
  clear o3
  go_simp
  exact hK _ _ (gv_of rfl (by first | rfl | (simp; done))) hI
set_option maxRecDepth 100000 in
set_option maxHeartbeats 1000000 in
theorem q24110 (hg : (⟨13, .guard⟩ : Edge) ∈ af.toList) (hgo : ops[13]?.bind (·.dst) = some 107) (o15 : a0.tmps[15]? = some (.int .i64 i)) : StepI Tryz.prog ops Q a0 q24DS I (GV (q24GS M C g o n uc i xn xc yn yc xa ya t b1 b2)) 16 { dst := some 110, op := .move (.tmp 15), type := ty, pos := pos, after := af, guard := some (13, false) } := by
  intro a w hout hI hdep K hK
  obtain ⟨vg, gg, eg⟩ := hdep ⟨13, .guard⟩ hg rfl
  have eg := eg 107 rfl
  have gg := gg _ rfl
  subst gg
  have hy := yielded_is hgo eg
  rw [if_pos (by simp [Region.wanted, hy])]
  have o15w := (hout 15 (by decide)).trans o15
  clear hout hdep hy
  clear o15
  go_simp
  exact hK _ _ (gv_of rfl (by first | rfl | (simp; done))) hI
set_option maxRecDepth 100000 in
set_option maxHeartbeats 1000000 in
theorem q24111 (hg : (⟨13, .guard⟩ : Edge) ∈ af.toList) (hgo : ops[13]?.bind (·.dst) = some 107) (h109 : (⟨15, .data⟩ : Edge) ∈ af.toList) (h110 : (⟨16, .data⟩ : Edge) ∈ af.toList) (hlt : (i : Int) < (n : Int)) : StepI Tryz.prog ops Q a0 q24DS I (GV (q24GS M C g o n uc i xn xc yn yc xa ya t b1 b2)) 17 { dst := some 111, op := .indexAddr 22 (.tmp 109) (.tmp 110), type := ty, pos := pos, after := af, guard := some (13, false) } := by
  intro a w hout hI hdep K hK
  obtain ⟨vg, gg, eg⟩ := hdep ⟨13, .guard⟩ hg rfl
  have eg := eg 107 rfl
  have gg := gg _ rfl
  subst gg
  have hy := yielded_is hgo eg
  rw [if_pos (by simp [Region.wanted, hy])]
  obtain ⟨v109, g109, e109⟩ := hdep ⟨15, .data⟩ h109 rfl
  have e109 := e109 109 rfl
  have g109 := g109 _ rfl
  subst g109
  obtain ⟨v110, g110, e110⟩ := hdep ⟨16, .data⟩ h110 rfl
  have e110 := e110 110 rfl
  have g110 := g110 _ rfl
  subst g110
  clear hout hdep hy
  go_simp
  exact hK _ _ (gv_of rfl (by first | rfl | (simp; done))) hI
set_option maxRecDepth 100000 in
set_option maxHeartbeats 1000000 in
theorem q24112 (hg : (⟨13, .guard⟩ : Edge) ∈ af.toList) (hgo : ops[13]?.bind (·.dst) = some 107) (h111 : (⟨17, .data⟩ : Edge) ∈ af.toList) (hL : ∀ w, I w → w.cell? ⟨g, o + i, none⟩ = some (.string (bs t))) : StepI Tryz.prog ops Q a0 q24DS I (GV (q24GS M C g o n uc i xn xc yn yc xa ya t b1 b2)) 18 { dst := some 112, op := .load 28 (.tmp 111), type := ty, pos := pos, after := af, guard := some (13, false) } := by
  intro a w hout hI hdep K hK
  obtain ⟨vg, gg, eg⟩ := hdep ⟨13, .guard⟩ hg rfl
  have eg := eg 107 rfl
  have gg := gg _ rfl
  subst gg
  have hy := yielded_is hgo eg
  rw [if_pos (by simp [Region.wanted, hy])]
  obtain ⟨v111, g111, e111⟩ := hdep ⟨17, .data⟩ h111 rfl
  have e111 := e111 111 rfl
  have g111 := g111 _ rfl
  subst g111
  have hLw := hL w hI
  clear hout hdep hy
  go_simp
  exact hK _ _ (gv_of rfl (by first | rfl | (simp; done))) hI
set_option maxRecDepth 100000 in
set_option maxHeartbeats 1000000 in
theorem q24113 (hg : (⟨13, .guard⟩ : Edge) ∈ af.toList) (hgo : ops[13]?.bind (·.dst) = some 107) (h108 : (⟨14, .data⟩ : Edge) ∈ af.toList) (h112 : (⟨18, .data⟩ : Edge) ∈ af.toList) (hC : ∀ w, I w → Calls Tryz.prog 12 #[.pointer (some ⟨C, 0, none⟩), .string (bs t)] w fun e w' => e = .returned (.bool b2) ∧ I w') : StepI Tryz.prog ops Q a0 q24DS I (GV (q24GS M C g o n uc i xn xc yn yc xa ya t b1 b2)) 19 { dst := some 113, op := .call { callee := .value (.func 12), args := #[.tmp 108, .tmp 112], argTypes := at_ }, type := ty, pos := pos, after := af, guard := some (13, false) } := by
  intro a w hout hI hdep K hK
  obtain ⟨vg, gg, eg⟩ := hdep ⟨13, .guard⟩ hg rfl
  have eg := eg 107 rfl
  have gg := gg _ rfl
  subst gg
  have hy := yielded_is hgo eg
  rw [if_pos (by simp [Region.wanted, hy])]
  obtain ⟨v108, g108, e108⟩ := hdep ⟨14, .data⟩ h108 rfl
  have e108 := e108 108 rfl
  have g108 := g108 _ rfl
  subst g108
  obtain ⟨v112, g112, e112⟩ := hdep ⟨18, .data⟩ h112 rfl
  have e112 := e112 112 rfl
  have g112 := g112 _ rfl
  subst g112
  clear hout hdep hy
  go_simp
  refine (hC w hI).mono ?_
  rintro e w1 ⟨rfl, hI1⟩
  exact hK _ _ (gv_of rfl rfl) hI1
set_option maxRecDepth 100000 in
set_option maxHeartbeats 1000000 in
theorem q24114 (hg : (⟨13, .guard⟩ : Edge) ∈ af.toList) (hgo : ops[13]?.bind (·.dst) = some 107) (o12 : a0.tmps[12]? = some (.slice ya yn yc)) : StepI Tryz.prog ops Q a0 q24DS I (GV (q24GS M C g o n uc i xn xc yn yc xa ya t b1 b2)) 20 { dst := some 114, op := .move (.tmp 12), type := ty, pos := pos, after := af, guard := some (13, false) } := by
  intro a w hout hI hdep K hK
  obtain ⟨vg, gg, eg⟩ := hdep ⟨13, .guard⟩ hg rfl
  have eg := eg 107 rfl
  have gg := gg _ rfl
  subst gg
  have hy := yielded_is hgo eg
  rw [if_pos (by simp [Region.wanted, hy])]
  have o12w := (hout 12 (by decide)).trans o12
  clear hout hdep hy
  clear o12
  go_simp
  exact hK _ _ (gv_of rfl (by first | rfl | (simp; done))) hI
set_option maxRecDepth 100000 in
set_option maxHeartbeats 1000000 in
theorem q24115 (hg : (⟨13, .guard⟩ : Edge) ∈ af.toList) (hgo : ops[13]?.bind (·.dst) = some 107) (o3 : a0.tmps[3]? = some (.slice (some ⟨g, o, none⟩) n uc)) : StepI Tryz.prog ops Q a0 q24DS I (GV (q24GS M C g o n uc i xn xc yn yc xa ya t b1 b2)) 21 { dst := some 115, op := .move (.tmp 3), type := ty, pos := pos, after := af, guard := some (13, false) } := by
  intro a w hout hI hdep K hK
  obtain ⟨vg, gg, eg⟩ := hdep ⟨13, .guard⟩ hg rfl
  have eg := eg 107 rfl
  have gg := gg _ rfl
  subst gg
  have hy := yielded_is hgo eg
  rw [if_pos (by simp [Region.wanted, hy])]
  have o3w := (hout 3 (by decide)).trans o3
  clear hout hdep hy
  clear o3
  go_simp
  exact hK _ _ (gv_of rfl (by first | rfl | (simp; done))) hI
set_option maxRecDepth 100000 in
set_option maxHeartbeats 1000000 in
theorem q24116 (hg : (⟨13, .guard⟩ : Edge) ∈ af.toList) (hgo : ops[13]?.bind (·.dst) = some 107) (o15 : a0.tmps[15]? = some (.int .i64 i)) : StepI Tryz.prog ops Q a0 q24DS I (GV (q24GS M C g o n uc i xn xc yn yc xa ya t b1 b2)) 22 { dst := some 116, op := .move (.tmp 15), type := ty, pos := pos, after := af, guard := some (13, false) } := by
  intro a w hout hI hdep K hK
  obtain ⟨vg, gg, eg⟩ := hdep ⟨13, .guard⟩ hg rfl
  have eg := eg 107 rfl
  have gg := gg _ rfl
  subst gg
  have hy := yielded_is hgo eg
  rw [if_pos (by simp [Region.wanted, hy])]
  have o15w := (hout 15 (by decide)).trans o15
  clear hout hdep hy
  clear o15
  go_simp
  exact hK _ _ (gv_of rfl (by first | rfl | (simp; done))) hI
set_option maxRecDepth 100000 in
set_option maxHeartbeats 1000000 in
theorem q24117 (hg : (⟨13, .guard⟩ : Edge) ∈ af.toList) (hgo : ops[13]?.bind (·.dst) = some 107) (h115 : (⟨21, .data⟩ : Edge) ∈ af.toList) (h116 : (⟨22, .data⟩ : Edge) ∈ af.toList) (hlt : (i : Int) < (n : Int)) : StepI Tryz.prog ops Q a0 q24DS I (GV (q24GS M C g o n uc i xn xc yn yc xa ya t b1 b2)) 23 { dst := some 117, op := .indexAddr 22 (.tmp 115) (.tmp 116), type := ty, pos := pos, after := af, guard := some (13, false) } := by
  intro a w hout hI hdep K hK
  obtain ⟨vg, gg, eg⟩ := hdep ⟨13, .guard⟩ hg rfl
  have eg := eg 107 rfl
  have gg := gg _ rfl
  subst gg
  have hy := yielded_is hgo eg
  rw [if_pos (by simp [Region.wanted, hy])]
  obtain ⟨v115, g115, e115⟩ := hdep ⟨21, .data⟩ h115 rfl
  have e115 := e115 115 rfl
  have g115 := g115 _ rfl
  subst g115
  obtain ⟨v116, g116, e116⟩ := hdep ⟨22, .data⟩ h116 rfl
  have e116 := e116 116 rfl
  have g116 := g116 _ rfl
  subst g116
  clear hout hdep hy
  go_simp
  exact hK _ _ (gv_of rfl (by first | rfl | (simp; done))) hI
set_option maxRecDepth 100000 in
set_option maxHeartbeats 1000000 in
theorem q24118 (hg : (⟨13, .guard⟩ : Edge) ∈ af.toList) (hgo : ops[13]?.bind (·.dst) = some 107) (h117 : (⟨23, .data⟩ : Edge) ∈ af.toList) (hL : ∀ w, I w → w.cell? ⟨g, o + i, none⟩ = some (.string (bs t))) : StepI Tryz.prog ops Q a0 q24DS I (GV (q24GS M C g o n uc i xn xc yn yc xa ya t b1 b2)) 24 { dst := some 118, op := .load 28 (.tmp 117), type := ty, pos := pos, after := af, guard := some (13, false) } := by
  intro a w hout hI hdep K hK
  obtain ⟨vg, gg, eg⟩ := hdep ⟨13, .guard⟩ hg rfl
  have eg := eg 107 rfl
  have gg := gg _ rfl
  subst gg
  have hy := yielded_is hgo eg
  rw [if_pos (by simp [Region.wanted, hy])]
  obtain ⟨v117, g117, e117⟩ := hdep ⟨23, .data⟩ h117 rfl
  have e117 := e117 117 rfl
  have g117 := g117 _ rfl
  subst g117
  have hLw := hL w hI
  clear hout hdep hy
  go_simp
  exact hK _ _ (gv_of rfl (by first | rfl | (simp; done))) hI
set_option maxRecDepth 100000 in
set_option maxHeartbeats 1000000 in
theorem q24119 (hg : (⟨13, .guard⟩ : Edge) ∈ af.toList) (hgo : ops[13]?.bind (·.dst) = some 107) (h114 : (⟨20, .data⟩ : Edge) ∈ af.toList) (h118 : (⟨24, .data⟩ : Edge) ∈ af.toList) (hC : ∀ w, I w → Calls Tryz.prog 13 #[.slice ya yn yc, .string (bs t)] w fun e w' => e = .returned (.bool b2) ∧ I w') : StepI Tryz.prog ops Q a0 q24DS I (GV (q24GS M C g o n uc i xn xc yn yc xa ya t b1 b2)) 25 { dst := some 119, op := .call { callee := .value (.func 13), args := #[.tmp 114, .tmp 118], argTypes := at_ }, type := ty, pos := pos, after := af, guard := some (13, false) } := by
  intro a w hout hI hdep K hK
  obtain ⟨vg, gg, eg⟩ := hdep ⟨13, .guard⟩ hg rfl
  have eg := eg 107 rfl
  have gg := gg _ rfl
  subst gg
  have hy := yielded_is hgo eg
  rw [if_pos (by simp [Region.wanted, hy])]
  obtain ⟨v114, g114, e114⟩ := hdep ⟨20, .data⟩ h114 rfl
  have e114 := e114 114 rfl
  have g114 := g114 _ rfl
  subst g114
  obtain ⟨v118, g118, e118⟩ := hdep ⟨24, .data⟩ h118 rfl
  have e118 := e118 118 rfl
  have g118 := g118 _ rfl
  subst g118
  clear hout hdep hy
  go_simp
  refine (hC w hI).mono ?_
  rintro e w1 ⟨rfl, hI1⟩
  exact hK _ _ (gv_of rfl rfl) hI1
set_option maxRecDepth 100000 in
set_option maxHeartbeats 1000000 in
theorem q24120 (hg : (⟨13, .guard⟩ : Edge) ∈ af.toList) (hgo : ops[13]?.bind (·.dst) = some 107) (h113 : (⟨19, .data⟩ : Edge) ∈ af.toList) (h119 : (⟨25, .data⟩ : Edge) ∈ af.toList) : StepI Tryz.prog ops Q a0 q24DS I (GV (q24GS M C g o n uc i xn xc yn yc xa ya t b1 b2)) 26 { dst := some 120, op := .binOp .neq 4 (.tmp 113) (.tmp 119) 4, type := ty, pos := pos, after := af, guard := some (13, false) } := by
  intro a w hout hI hdep K hK
  obtain ⟨vg, gg, eg⟩ := hdep ⟨13, .guard⟩ hg rfl
  have eg := eg 107 rfl
  have gg := gg _ rfl
  subst gg
  have hy := yielded_is hgo eg
  rw [if_pos (by simp [Region.wanted, hy])]
  obtain ⟨v113, g113, e113⟩ := hdep ⟨19, .data⟩ h113 rfl
  have e113 := e113 113 rfl
  have g113 := g113 _ rfl
  subst g113
  obtain ⟨v119, g119, e119⟩ := hdep ⟨25, .data⟩ h119 rfl
  have e119 := e119 119 rfl
  have g119 := g119 _ rfl
  subst g119
  clear hout hdep hy
  go_simp
  exact hK _ _ (gv_of rfl (by first | rfl | (simp; done))) hI
set_option maxRecDepth 100000 in
set_option maxHeartbeats 1000000 in
theorem q24121 (h107 : (⟨13, .data⟩ : Edge) ∈ af.toList) (h120 : (⟨26, .data⟩ : Edge) ∈ af.toList) : StepI Tryz.prog ops Q a0 q24DS I (GV (q24GS M C g o n uc i xn xc yn yc xa ya t b1 b2)) 27 { dst := some 121, op := .pick (.tmp 107) (.const (.bool true)) (.tmp 120), type := ty, pos := pos, after := af, guard := none } := by
  intro a w hout hI hdep K hK
  rw [if_pos (by simp [Region.wanted])]
  obtain ⟨v107, g107, e107⟩ := hdep ⟨13, .data⟩ h107 rfl
  have e107 := e107 107 rfl
  have g107 := g107 _ rfl
  subst g107
  obtain ⟨v120, g120, e120⟩ := hdep ⟨26, .data⟩ h120 rfl
  have e120 := e120 120 rfl
  have g120 := g120 _ rfl
  subst g120
  clear hout hdep
  go_simp
  exact hK _ _ (gv_of rfl (by first | rfl | (simp; done))) hI
end
set_option maxRecDepth 100000 in
set_option maxHeartbeats 8000000 in
theorem lDeduceCopies (l1 l2 l3 l4 : List (List UInt8)) (v1 v2 v3 v4 : Value) (w : World) (hv1 : TermsAt v1 l1 w) (hv2 : TermsAt v2 l2 w) (hv3 : TermsAt v3 l3 w) (hv4 : TermsAt v4 l4 w)
    (hn1 : l1.length ≤ 9000000000000000000) (hn2 : l2.length ≤ 9000000000000000000) (hn3 : l3.length ≤ 9000000000000000000) (hn4 : l4.length ≤ 9000000000000000000) (ht1 : ∀ t ∈ l1, t.length ≤ 9000000000000000000) (ht2 : ∀ t ∈ l2, t.length ≤ 9000000000000000000) (ht3 : ∀ t ∈ l3, t.length ≤ 9000000000000000000) (ht4 : ∀ t ∈ l4, t.length ≤ 9000000000000000000) (hG : GOk w) :
    Calls Tryz.prog 4 #[v1, v2, v3, v4] w fun e w' => e = .returned (.bool true) ∧ Below w.heap.size w w' := by
  obtain ⟨a1, c1, hl1, hd1⟩ := termsAt_sp hv1
  obtain ⟨a2, c2, hl2, hd2⟩ := termsAt_sp hv2
  obtain ⟨a3, c3, hl3, hd3⟩ := termsAt_sp hv3
  obtain ⟨a4, c4, hl4, hd4⟩ := termsAt_sp hv4
  have HV1 := Lib.hid hv1
  have HD1 := Lib.hid hd1
  have HT1 := Lib.hid ht1
  have HV2 := Lib.hid hv2
  have HD2 := Lib.hid hd2
  have HT2 := Lib.hid ht2
  have HV3 := Lib.hid hv3
  have HD3 := Lib.hid hd3
  have HT3 := Lib.hid ht3
  have HV4 := Lib.hid hv4
  have HD4 := Lib.hid hd4
  have HT4 := Lib.hid ht4
  have HG := Lib.hid hG
  have hgN := hG.size
  clear hv1 hv2 hv3 hv4 ht1 ht2 ht3 ht4 hG hd1 hd2 hd3 hd4
  subst hl1 hl2 hl3 hl4
  go_enter Tryz.func4, Tryz.ntmps4
  go_wp2_with fail
  refine (lSmall l1 hn1 HT1.out _ _ HV1.out).mono ?_
  rintro e z1 ⟨b1, rfl, hb1, hz1⟩
  have hz1 := hz1.symm
  subst hz1
  cases b1 with
  | false =>
    go_wp2_with fail
    go_ret
    exact ⟨by first | rfl | (simp; done), Below.refl _ _⟩
  | true =>
  have h41 := hb1 rfl
  clear hb1
  go_wp2_with fail
  refine (lSmall l2 hn2 HT2.out _ _ HV2.out).mono ?_
  rintro e z2 ⟨b2, rfl, hb2, hz2⟩
  have hz2 := hz2.symm
  subst hz2
  cases b2 with
  | false =>
    go_wp2_with fail
    go_ret
    exact ⟨by first | rfl | (simp; done), Below.refl _ _⟩
  | true =>
  have h42 := hb2 rfl
  clear hb2
  go_wp2_with fail
  refine (lSmall l3 hn3 HT3.out _ _ HV3.out).mono ?_
  rintro e z3 ⟨b3, rfl, hb3, hz3⟩
  have hz3 := hz3.symm
  subst hz3
  cases b3 with
  | false =>
    go_wp2_with fail
    go_ret
    exact ⟨by first | rfl | (simp; done), Below.refl _ _⟩
  | true =>
  have h43 := hb3 rfl
  clear hb3
  go_wp2_with fail
  refine (lSmall l4 hn4 HT4.out _ _ HV4.out).mono ?_
  rintro e z4 ⟨b4, rfl, hb4, hz4⟩
  have hz4 := hz4.symm
  subst hz4
  cases b4 with
  | false =>
    go_wp2_with fail
    go_ret
    exact ⟨by first | rfl | (simp; done), Below.refl _ _⟩
  | true =>
  have h44 := hb4 rfl
  clear hb4
  go_wp2_with fail
  refine (lMindO l1 h41 HT1.out _ _ HV1.out HG.out).mono ?_
  rintro e w1 ⟨M, bh, be, k, S, hd, B, rfl, hM1, hk, hO1, hq1, hq2, hq3, hB1, hB2, hB3, hb1⟩
  have hO1 : OwnT B hd (l1.filter right) w1 := hO1
  obtain ⟨xa, xc, rfl⟩ := ownT_form hO1
  have HM1 := Lib.hid hM1
  have HO1 := Lib.hid hO1
  have hg1 : GL [] w w1 := gl_below hb1 (gl_refl _ _)
  have hml := mind_lt hM1
  have hsz1 := hb1.size
  have hfl : (l1.filter right).length ≤ 40 := by have := List.length_filter_le right l1; omega
  clear hM1 hO1 hb1
  go_wp2_with fail
  refine (dCopy M bh be k _ S _ HM1.out (gok_gl HG.out hg1 (by simp))).mono ?_
  rintro e w2 ⟨C, ch, ce, rfl, hC2, hr1, hr2, hr3, hb2⟩
  have hml2 := mind_lt hC2
  have HC2 := Lib.hid hC2
  have HM2 := Lib.hid (mind_below HM1.out hb2)
  have HO2 := Lib.hid (ownT_below HO1.out hb2)
  have hg2 : GL [] w w2 := gl_below hb2 hg1
  have hsz2 := hb2.size
  have HKK := Lib.hid (show CopK w M bh be C ch ce from ⟨⟨hq1, hq2, hq3⟩, ⟨by omega, by omega, by omega⟩, by simp; omega, by simp; omega⟩)
  have hxb := fun g hg => ownT_blk HO1.out g hg
  have HXB := Lib.hid hxb
  clear hC2 hb2 hxb
  go_wp2_with (at_builtin; go_must (refine wpList_appL rfl _ _ rfl w.heap.size (.slice none 0 0) (.slice xa (l1.filter right).length xc) [] (l1.filter right) _ rfl rfl (ownT_nil _ _) (ownT_at HO2.out) (by simp; omega) (by omega) ?_; (intro v3 w3 hO3 hg3 hn3); (rw [List.nil_append] at hO3); (obtain ⟨ya, yc, hm01⟩ := ownT_form hO3); (subst hm01); (have hg30 : GL [] w2 w3 := hg3); (have hn30 : ∀ g, (Value.slice ya (l1.filter right).length yc).ownBlock = some g → g = w2.heap.size := fun g hg => by (rcases hn3 with h | h); (rw [h] at hg; cases hg); (rw [h] at hg; injection hg with hg; exact hg.symm)); (have HCI : Hid (CopI w M bh be C ch ce w3 (heardP l1) S k (heardP l1) S k (.slice xa (l1.filter right).length xc) (l1.filter right) (.slice ya (l1.filter right).length yc) (l1.filter right)) := Lib.hid ⟨gl_step hg30 hg2 (by simp), mind_gl HM2.out hg30 (by simp) (by simp) (by simp), mind_gl HC2.out hg30 (by simp) (by simp) (by simp), ownT_lo (ownT_gl HO2.out hg30 (by simp)) (fun g hg => by (have := (HXB.out g hg).1); omega), hO3, fun g hg => by (have := HXB.out g hg); (unfold NoM); omega, fun g hg => by (have := hn30 g hg); (unfold NoM); omega, fun g hg he => by (have := hn30 g he); (have := HXB.out g hg); omega⟩); (clear hO3 hg3 hn3 hg30 hn30)))
  have HX0 : Hid (l1.filter right = (l1 ++ l2.take 0).filter right) := by show _ = _; simp
  have HH0 : Hid (heardP l1 = heardP (l1 ++ l2.take 0)) := by show _ = _; simp
  have HY0 : Hid (l1.filter right = (l1 ++ l3.take 0).filter right) := by show _ = _; simp
  have HJ0 : Hid (heardP l1 = heardP (l1 ++ l3.take 0)) := by show _ = _; simp
  clear HM1 HM2 HO1 HO2 HC2 HXB hml hml2
  generalize heardP l1 = H0 at *
  generalize l1.filter right = X0 at *
  go_loopw [10, 13] (fun xv iv wr => ∃ (i : Nat) (H1 S1 : List UInt8 → Bool) (n1 : Nat) (X : List (List UInt8)) (za : Option Addr) (zc : Nat), i ≤ l2.length ∧ iv = .int .i64 i ∧ xv = .slice za X.length zc ∧ n1 ≤ k + i ∧ X.length ≤ 40 + i ∧ Hid (H1 = heardP (l1 ++ l2.take i)) ∧ Hid (X = (l1 ++ l2.take i).filter right) ∧ Hid (CopI w M bh be C ch ce wr H1 S1 n1 H0 S k (.slice za X.length zc) X (.slice ya X0.length yc) X0)) (fun _ iv _ => l2.length - (intOf iv).toNat)
  case atStart => exact ⟨0, H0, S, k, X0, xa, xc, by omega, rfl, rfl, by omega, by omega, HH0, HX0, HCI⟩
  case round =>
    clear HCI
    obtain ⟨i, H1, S1, n1, X, za, zc, hi, rfl, rfl, hn1k, hxl, HH, HX, HCI⟩ := hrel
    by_cases hlt : i < l2.length
    · have i1 : (i : Int) < l2.length := by omega
      rcases HD2.out with h0 | ⟨g, o, rfl, hgl, hcc⟩
      · rw [h0] at hlt; simp at hlt
      have hx : l2[i]? = some l2[i] := List.getElem?_eq_getElem hlt
      have c0 := cell_glx (hcc i _ hx) HCI.out.gl (by simp)
      have hl := HT2.out _ (List.getElem_mem hlt)
      have HT := Lib.hid (show l1 ++ l2.take (i + 1) = (l1 ++ l2.take i) ++ [l2[i]] by rw [List.take_add_one, hx, List.append_assoc]; rfl)
      clear hcc hx
      generalize l2[i] = t at *
      go_wp2_with fail
      refine (dLearn M bh be n1 _ S1 t hl _ (gok_gl HG.out HCI.out.gl (by simp)) HCI.out.m1).mono ?_
      rintro e w4 ⟨S4, rfl, hM4, hg4⟩
      have HCI4 := Lib.hid (cop_one HKK.out HCI.out hg4 hM4)
      have HH4 : Hid (learnH H1 n1 t = heardP (l1 ++ l2.take (i + 1))) := by show _ = _; rw [HH.out, HT.out, heardP_add _ _ _ (by omega)]
      have hn4 := (learnN_le H1 n1 t).2.1
      have hcc := learnC_few H1 n1 t (by omega)
      have c4 := cell_glx c0 hg4 (by have := HKK.out.l1; simp; omega)
      have hszw := HCI4.out.gl.size
      have HX4 : Hid ((l1 ++ l2.take (i + 1)).filter right = X ++ (if right t = true then [t] else [])) := by show _ = _; rw [HT.out, filter_add, ← HX.out]
      clear hM4 hg4 c0 HCI HH HT HX
      generalize learnN H1 n1 t = n4 at *
      generalize learnH H1 n1 t = H4 at *
      cases hr : right t with
      | true =>
        rw [hr] at HX4
        have HX5 : Hid (X ++ [t] = (l1 ++ l2.take (i + 1)).filter right) := by show _ = _; rw [HX4.out]; rfl
        rw [if_pos hr] at hcc
        rw [hcc]
        clear hcc hr HX4
        go_wp2_with (at_builtin; go_must (refine wpList_appT rfl _ _ rfl w.heap.size (.slice za X.length zc) X t w4 _ rfl rfl rfl HCI4.out.x (by omega) (by omega) ?_; (intro g6 c6 w6 hO6 hg6 hn6); (have HCI6 := Lib.hid (cop_addx HCI4.out hO6 hg6 hn6)); (clear hO6 hg6 hn6 c4)))
        go_roundw
        case rel => exact ⟨i + 1, H4, S4, n4, X ++ [t], _, c6, by omega, by go_num, by rw [List.length_append]; rfl, by omega, by rw [List.length_append]; simp; omega, HH4, HX5, Lib.hid (by rw [List.length_append]; exact HCI6.out)⟩
        case measure => simp [intOf]; omega
      | false =>
        rw [hr] at HX4
        have HX5 : Hid (X = (l1 ++ l2.take (i + 1)).filter right) := by show _ = _; rw [HX4.out]; simp
        rw [if_neg (by rw [hr]; simp)] at hcc
        rw [hcc]
        clear hcc hr HX4
        go_wp2_with fail
        go_roundw
        case rel => exact ⟨i + 1, H4, S4, n4, X, za, zc, by omega, by go_num, rfl, by omega, by omega, HH4, HX5, HCI4⟩
        case measure => simp [intOf]; omega
    · obtain rfl : i = l2.length := by omega
      go_wp2_with fail
      go_loopw [12, 14] (fun yv iv wr => ∃ (i : Nat) (H2 S2 : List UInt8 → Bool) (n2 : Nat) (Y : List (List UInt8)) (za2 : Option Addr) (zc2 : Nat), i ≤ l3.length ∧ iv = .int .i64 i ∧ yv = .slice za2 Y.length zc2 ∧ n2 ≤ k + i ∧ Y.length ≤ 40 + i ∧ Hid (H2 = heardP (l1 ++ l3.take i)) ∧ Hid (Y = (l1 ++ l3.take i).filter right) ∧ Hid (CopI w M bh be C ch ce wr H1 S1 n1 H2 S2 n2 (.slice za X.length zc) X (.slice za2 Y.length zc2) Y)) (fun _ iv _ => l3.length - (intOf iv).toNat)
      case atStart => exact ⟨0, H0, S, k, X0, ya, yc, by omega, rfl, rfl, by omega, by omega, HJ0, HY0, HCI⟩
      case round =>
        clear HCI hi
        obtain ⟨i, H2, S2, n2, Y, za2, zc2, hi, rfl, rfl, hn2k, hyl, HJ, HY, HCI⟩ := hrel
        by_cases hlt : i < l3.length
        · have i1 : (i : Int) < l3.length := by omega
          rcases HD3.out with h0 | ⟨g, o, rfl, hgl, hcc⟩
          · rw [h0] at hlt; simp at hlt
          have hx : l3[i]? = some l3[i] := List.getElem?_eq_getElem hlt
          have c0 := cell_glx (hcc i _ hx) HCI.out.gl (by simp)
          have hl := HT3.out _ (List.getElem_mem hlt)
          have HT := Lib.hid (show l1 ++ l3.take (i + 1) = (l1 ++ l3.take i) ++ [l3[i]] by rw [List.take_add_one, hx, List.append_assoc]; rfl)
          clear hcc hx
          generalize l3[i] = t at *
          go_wp2_with fail
          refine (dLearn C ch ce n2 _ S2 t hl _ (gok_gl HG.out HCI.out.gl (by simp)) HCI.out.m2).mono ?_
          rintro e w4 ⟨S4, rfl, hM4, hg4⟩
          have HCI4 := Lib.hid (cop_two HKK.out HCI.out hg4 hM4)
          have HJ4 : Hid (learnH H2 n2 t = heardP (l1 ++ l3.take (i + 1))) := by show _ = _; rw [HJ.out, HT.out, heardP_add _ _ _ (by omega)]
          have hn4 := (learnN_le H2 n2 t).2.1
          have hcc := learnC_few H2 n2 t (by omega)
          have c4 := cell_glx c0 hg4 (by have := HKK.out.l2; simp; omega)
          have hszw := HCI4.out.gl.size
          have HY4 : Hid ((l1 ++ l3.take (i + 1)).filter right = Y ++ (if right t = true then [t] else [])) := by show _ = _; rw [HT.out, filter_add, ← HY.out]
          clear hM4 hg4 c0 HCI HJ HT HY
          generalize learnN H2 n2 t = n4 at *
          generalize learnH H2 n2 t = H4 at *
          cases hr : right t with
          | true =>
            rw [hr] at HY4
            have HY5 : Hid (Y ++ [t] = (l1 ++ l3.take (i + 1)).filter right) := by show _ = _; rw [HY4.out]; rfl
            rw [if_pos hr] at hcc
            rw [hcc]
            clear hcc hr HY4
            go_wp2_with (at_builtin; go_must (refine wpList_appT rfl _ _ rfl w.heap.size (.slice za2 Y.length zc2) Y t w4 _ rfl rfl rfl HCI4.out.y (by omega) (by omega) ?_; (intro g6 c6 w6 hO6 hg6 hn6); (have HCI6 := Lib.hid (cop_swap (cop_addx (cop_swap HCI4.out) hO6 hg6 hn6))); (clear hO6 hg6 hn6 c4)))
            go_roundw
            case rel => exact ⟨i + 1, H4, S4, n4, Y ++ [t], _, c6, by omega, by go_num, by rw [List.length_append]; rfl, by omega, by rw [List.length_append]; simp; omega, HJ4, HY5, Lib.hid (by rw [List.length_append]; exact HCI6.out)⟩
            case measure => simp [intOf]; omega
          | false =>
            rw [hr] at HY4
            have HY5 : Hid (Y = (l1 ++ l3.take (i + 1)).filter right) := by show _ = _; rw [HY4.out]; simp
            rw [if_neg (by rw [hr]; simp)] at hcc
            rw [hcc]
            clear hcc hr HY4
            go_wp2_with fail
            go_roundw
            case rel => exact ⟨i + 1, H4, S4, n4, Y, za2, zc2, by omega, by go_num, rfl, by omega, by omega, HJ4, HY5, HCI4⟩
            case measure => simp [intOf]; omega
        · obtain rfl : i = l3.length := by omega
          have HXR := Lib.hid (show (∀ t ∈ X, right t = true) ∧ ∀ t, H1 t = true ↔ t ∈ X from by rw [HX.out, HH.out]; exact ⟨fun t ht => (List.mem_filter.1 ht).2, fun t => heard_mem _ t⟩)
          have HYR := Lib.hid (show (∀ t ∈ Y, right t = true) ∧ ∀ t, H2 t = true ↔ t ∈ Y from by rw [HY.out, HJ.out]; exact ⟨fun t ht => (List.mem_filter.1 ht).2, fun t => heard_mem _ t⟩)
          clear HX HH HY HJ HX0 HH0 HY0 HJ0
          go_wp2_with fail
          go_loopw [15] (fun iv wr => ∃ i : Nat, i ≤ l4.length ∧ iv = .int .i64 i ∧ Hid (CopI w M bh be C ch ce wr H1 S1 n1 H2 S2 n2 (.slice za X.length zc) X (.slice za2 Y.length zc2) Y)) (fun iv _ => l4.length - (intOf iv).toNat)
          case atStart => exact ⟨0, by omega, rfl, HCI⟩
          case round =>
            clear HCI hi
            obtain ⟨i, hi, rfl, HCI⟩ := hrel
            by_cases hlt : i < l4.length
            · have i1 : (i : Int) < l4.length := by omega
              rcases HD4.out with h0 | ⟨g, o, rfl, hgl, hcc⟩
              · rw [h0] at hlt; simp at hlt
              have hx : l4[i]? = some l4[i] := List.getElem?_eq_getElem hlt
              have c0 := cell_glx (hcc i _ hx) HCI.out.gl (by simp)
              have hl := HT4.out _ (List.getElem_mem hlt)
              clear hcc hx
              generalize l4[i] = t at *
              have hK1 : ∀ W, GL [] wr W → Calls Tryz.prog 12 #[.pointer (some ⟨M, 0, none⟩), .string (bs t)] W fun e W' => e = .returned (.bool (right t && kn S1 t)) ∧ GL [] wr W' := fun W hW => (dKnows M bh be n1 H1 S1 t hl W (gok_gl HG.out (cop_gl HCI.out hW).gl (by simp)) (cop_gl HCI.out hW).m1).mono (fun e W' h => ⟨h.1, gl_below h.2 hW⟩)
              have hK2 : ∀ W, GL [] wr W → Calls Tryz.prog 12 #[.pointer (some ⟨C, 0, none⟩), .string (bs t)] W fun e W' => e = .returned (.bool (right t && kn S2 t)) ∧ GL [] wr W' := fun W hW => (dKnows C ch ce n2 H2 S2 t hl W (gok_gl HG.out (cop_gl HCI.out hW).gl (by simp)) (cop_gl HCI.out hW).m2).mono (fun e W' h => ⟨h.1, gl_below h.2 hW⟩)
              have hR1 : ∀ W, GL [] wr W → Calls Tryz.prog 13 #[.slice za X.length zc, .string (bs t)] W fun e W' => e = .returned (.bool (right t && kn S1 t)) ∧ GL [] wr W' := fun W hW => (r3Knows H1 S1 HCI.out.m1.least X (by omega) HXR.out.1 HXR.out.2 t hl _ W (ownT_at (cop_gl HCI.out hW).x)).mono (fun e W' h => ⟨h.1, gl_below h.2 hW⟩)
              have hR2 : ∀ W, GL [] wr W → Calls Tryz.prog 13 #[.slice za2 Y.length zc2, .string (bs t)] W fun e W' => e = .returned (.bool (right t && kn S2 t)) ∧ GL [] wr W' := fun W hW => (r3Knows H2 S2 HCI.out.m2.least Y (by omega) HYR.out.1 HYR.out.2 t hl _ W (ownT_at (cop_gl HCI.out hW).y)).mono (fun e W' h => ⟨h.1, gl_below h.2 hW⟩)
              generalize (right t && kn S1 t) = b1 at *
              generalize (right t && kn S2 t) = b2 at *
              go_upto_region 24 with fail
              refine wp_region_I (ds := q24DS) (I := (fun W => GL [] wr W)) (G := GV (q24GS M C g o l4.length c4 i X.length zc Y.length zc2 za za2 t b1 b2)) rfl rfl (distinct_of _ (by decide +kernel)) ?_ (by kernel_rfl) (gl_drew (gl_refl [] _)) ?_ ?_
              · intro d hd
                exact Nat.lt_of_lt_of_le (ltB_of (n := 123) q24DS (by decide +kernel) d hd) (by simp)
              · exact ⟨q2494 (by simp), q2495 (by simp), q2496 (by simp), q2497 (by simp) (by simp) i1, q2498 (by simp) (fun w h => cell_glx c0 h (by simp)), q2499 (by simp) (by simp) hK1, q24100 (by simp), q24101 (by simp), q24102 (by simp), q24103 (by simp) (by simp) i1, q24104 (by simp) (fun w h => cell_glx c0 h (by simp)), q24105 (by simp) (by simp) hR1, q24106 (by simp) (by simp), q24107 (by simp), q24108 (by simp) rfl (by simp), q24109 (by simp) rfl (by simp), q24110 (by simp) rfl (by simp), q24111 (by simp) rfl (by simp) (by simp) i1, q24112 (by simp) rfl (by simp) (fun w h => cell_glx c0 h (by simp)), q24113 (by simp) rfl (by simp) (by simp) hK2, q24114 (by simp) rfl (by simp), q24115 (by simp) rfl (by simp), q24116 (by simp) rfl (by simp), q24117 (by simp) rfl (by simp) (by simp) i1, q24118 (by simp) rfl (by simp) (fun w h => cell_glx c0 h (by simp)), q24119 (by simp) rfl (by simp) (by simp) hR2, q24120 (by simp) rfl (by simp) (by simp), q24121 (by simp) (by simp), trivial⟩
              · intro vs w' hl hv hI
                have hl0 : vs.length = 28 := hl
                clear hl
                obtain ⟨x0, r0, rfl, hl1⟩ := cons_of hl0
                clear hl0
                obtain ⟨x1, r1, rfl, hl2⟩ := cons_of hl1
                clear hl1
                obtain ⟨x2, r2, rfl, hl3⟩ := cons_of hl2
                clear hl2
                obtain ⟨x3, r3, rfl, hl4⟩ := cons_of hl3
                clear hl3
                obtain ⟨x4, r4, rfl, hl5⟩ := cons_of hl4
                clear hl4
                obtain ⟨x5, r5, rfl, hl6⟩ := cons_of hl5
                clear hl5
                obtain ⟨x6, r6, rfl, hl7⟩ := cons_of hl6
                clear hl6
                obtain ⟨x7, r7, rfl, hl8⟩ := cons_of hl7
                clear hl7
                obtain ⟨x8, r8, rfl, hl9⟩ := cons_of hl8
                clear hl8
                obtain ⟨x9, r9, rfl, hl10⟩ := cons_of hl9
                clear hl9
                obtain ⟨x10, r10, rfl, hl11⟩ := cons_of hl10
                clear hl10
                obtain ⟨x11, r11, rfl, hl12⟩ := cons_of hl11
                clear hl11
                obtain ⟨x12, r12, rfl, hl13⟩ := cons_of hl12
                clear hl12
                obtain ⟨x13, r13, rfl, hl14⟩ := cons_of hl13
                clear hl13
                obtain ⟨x14, r14, rfl, hl15⟩ := cons_of hl14
                clear hl14
                obtain ⟨x15, r15, rfl, hl16⟩ := cons_of hl15
                clear hl15
                obtain ⟨x16, r16, rfl, hl17⟩ := cons_of hl16
                clear hl16
                obtain ⟨x17, r17, rfl, hl18⟩ := cons_of hl17
                clear hl17
                obtain ⟨x18, r18, rfl, hl19⟩ := cons_of hl18
                clear hl18
                obtain ⟨x19, r19, rfl, hl20⟩ := cons_of hl19
                clear hl19
                obtain ⟨x20, r20, rfl, hl21⟩ := cons_of hl20
                clear hl20
                obtain ⟨x21, r21, rfl, hl22⟩ := cons_of hl21
                clear hl21
                obtain ⟨x22, r22, rfl, hl23⟩ := cons_of hl22
                clear hl22
                obtain ⟨x23, r23, rfl, hl24⟩ := cons_of hl23
                clear hl23
                obtain ⟨x24, r24, rfl, hl25⟩ := cons_of hl24
                clear hl24
                obtain ⟨x25, r25, rfl, hl26⟩ := cons_of hl25
                clear hl25
                obtain ⟨x26, r26, rfl, hl27⟩ := cons_of hl26
                clear hl26
                obtain ⟨x27, r27, rfl, hl28⟩ := cons_of hl27
                clear hl27
                have e27 : x27 = .bool false := hv 27 x27 (by simp) _ rfl
                subst e27
                obtain rfl : r27 = [] := List.eq_nil_of_length_eq_zero hl28
                clear hv
                simp only [q24DS, setAll, List.setIfInBounds_toArray, List.set_cons_zero, List.set_cons_succ]
                have HCI5 := Lib.hid (cop_gl HCI.out hI)
                clear hI hK1 hK2 hR1 hR2 c0
                go_wp2_with fail
                go_roundw
                case rel => exact ⟨i + 1, by omega, by go_num, HCI5⟩
                case measure => simp [intOf]; omega
            · obtain rfl : i = l4.length := by omega
              go_wp2_with fail
              refine (lWorks03 _ (gok_gl HG.out HCI.out.gl (by simp))).mono ?_
              rintro e w7 ⟨rfl, hb7⟩
              have hg7 : GL [] w w7 := gl_below hb7 HCI.out.gl
              go_wp2_with fail
              go_ret
              exact ⟨by first | rfl | (simp; done), gl_to_below hg7⟩
end Go.Proofs.YtdipkblmcloifaaGreatDoor
