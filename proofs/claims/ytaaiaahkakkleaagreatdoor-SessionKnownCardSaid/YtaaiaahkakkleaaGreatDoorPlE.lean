/- The laws of layer 21: what a pair tells of itself. -/
import Derived.Test.YtaaiaahkakkleaaGreatDoorPlD
import Derived.Test.YtaaiaahkakkleaaGreatDoorRegI
set_option maxRecDepth 100000
set_option maxHeartbeats 4000000
set_option linter.unusedSimpArgs false
set_option linter.unusedVariables false
namespace Go.Proofs.YtaaiaahkakkleaaGreatDoor
open Go.RowKit
theorem yielded_ist {ops : Array Oper} {tmps : Array Value} {j d : Nat} {b : Bool} (h : ops[j]?.bind (·.dst) = some d) (e : tmps[d]? = some (.bool b)) : yielded ops tmps j = some b := by
 unfold yielded
 rw [h]
 simp [e]
def GVt (gs : List (Option Value)) (i : Nat) (v : Value) : Prop := ∀ u, gs[i]? = some (some u) → v = u
theorem gvt_of {gs : List (Option Value)} {i : Nat} {v u : Value} (h : gs[i]? = some (some u)) (e : v = u) : GVt gs i v := fun x hx => by rw [h] at hx; injection hx with hx; injection hx with hx; rw [e, hx]
theorem gvt_none {gs : List (Option Value)} {i : Nat} {v : Value} (h : gs[i]? = some none) : GVt gs i v := fun x hx => by rw [h] at hx; injection hx with hx; cases hx
def kaDS : List (Option Nat) := [some 5, some 6, some 7, some 8, some 9, some 10, some 11, some 12, some 13, some 14, some 15, some 16, some 17, some 18, some 19, some 20, some 21, some 22, some 23, some 24, some 25, some 26, some 27, some 28, some 29, some 30, some 31, some 32, some 33, some 34, some 35, some 36, some 37, some 38, some 39, some 40, some 41, some 42, some 43, some 44, some 45, some 46, some 47, some 48, some 49, some 50, some 51, some 52, some 53, some 4]
def kaGS (Pb X Y i : Nat) (st : Int) (cl : Bool) (peer : List UInt8) : List (Option Value) := [some (.pointer (some ⟨Pb, 0, none⟩)), some (.int .i64 ((i : Nat) : Int)), some (.pointer (some ⟨Pb, 0, none⟩)), some (.pointer (some ⟨Pb, 0, none⟩)), some (.pointer (some ⟨Pb, i, none⟩)), some (.pointer (some ⟨X, 0, none⟩)), some (.bool (!cl)), some (.pointer (some ⟨Pb, 0, none⟩)), some (.int .i64 ((i : Nat) : Int)), some (.pointer (some ⟨Pb, 0, none⟩)), some (.pointer (some ⟨Pb, 2, none⟩)), some (.pointer (some ⟨Pb, (2 + i), none⟩)), some (.pointer (some ⟨Y, 0, none⟩)), some (.pointer (some ⟨Y, 0, none⟩)), some (.pointer (some ⟨Y, 3, none⟩)), some (.int .i64 st), some (.bool true), some (.bool true), some (.pointer (some ⟨Pb, 0, none⟩)), some (.int .i64 ((i : Nat) : Int)), some (.pointer (some ⟨Pb, 0, none⟩)), some (.pointer (some ⟨Pb, 2, none⟩)), some (.pointer (some ⟨Pb, (2 + i), none⟩)), some (.pointer (some ⟨Y, 0, none⟩)), some (.pointer (some ⟨Y, 0, none⟩)), some (.pointer (some ⟨Y, 5, none⟩)), some (.bool cl), some (.bool (!cl)), some (.bool (!cl)), some (.bool true), some (.bool true), some (.pointer (some ⟨Pb, 0, none⟩)), some (.int .i64 ((i : Nat) : Int)), some (.pointer (some ⟨Pb, 0, none⟩)), some (.pointer (some ⟨Pb, 0, none⟩)), some (.pointer (some ⟨Pb, i, none⟩)), some (.pointer (some ⟨X, 0, none⟩)), some (.string (bs peer)), some (.pointer (some ⟨Pb, 0, none⟩)), some (.int .i64 ((i : Nat) : Int)), some (.pointer (some ⟨Pb, 0, none⟩)), some (.pointer (some ⟨Pb, 2, none⟩)), some (.pointer (some ⟨Pb, (2 + i), none⟩)), some (.pointer (some ⟨Y, 0, none⟩)), some (.pointer (some ⟨Y, 0, none⟩)), some (.pointer (some ⟨Y, 2, none⟩)), some (.string (bs peer)), some (.bool true), some (.bool true), some (.bool true)]
section
variable {ops : Array Oper} {Q : Exit → Act → World → Prop} {a0 : Act} {I : World → Prop} {af : Array Edge} {ty : Nat} {pos : String} {at_ : Array TypeId} {Pb X Y i : Nat} {st : Int} {cl : Bool} {peer : List UInt8}
theorem ka5 (o0 : a0.tmps[0]? = some (.pointer (some ⟨Pb, 0, none⟩))) : StepI Tryz.prog ops Q a0 kaDS I (GVt (kaGS Pb X Y i st cl peer)) 0 { dst := some 5, op := .move (.tmp 0), type := ty, pos := pos, after := af, guard := none } := by
 intro a w hout hI hdep K hK
 rw [if_pos (by simp [Region.wanted])]
 have o0w := (hout 0 de_).trans o0
 clear hout hdep
 clear o0
 go_simp
 exact hK _ _ (gvt_of rfl rs_) hI
theorem ka6 (o1 : a0.tmps[1]? = some (.int .i64 ((i : Nat) : Int))) : StepI Tryz.prog ops Q a0 kaDS I (GVt (kaGS Pb X Y i st cl peer)) 1 { dst := some 6, op := .move (.tmp 1), type := ty, pos := pos, after := af, guard := none } := by
 intro a w hout hI hdep K hK
 rw [if_pos (by simp [Region.wanted])]
 have o1w := (hout 1 de_).trans o1
 clear hout hdep
 clear o1
 go_simp
 exact hK _ _ (gvt_of rfl rs_) hI
theorem ka7 (h5 : (⟨0, .data⟩ : Edge) ∈ af.toList) : StepI Tryz.prog ops Q a0 kaDS I (GVt (kaGS Pb X Y i st cl peer)) 2 { dst := some 7, op := .nilCheck (.tmp 5), type := ty, pos := pos, after := af, guard := none } := by
 intro a w hout hI hdep K hK
 rw [if_pos (by simp [Region.wanted])]
 obtain ⟨v5, g5, e5⟩ := hdep ⟨0, .data⟩ h5 rfl
 have e5 := e5 5 rfl
 have g5 := g5 _ rfl
 subst g5
 clear hout hdep
 go_simp
 exact hK _ _ (gvt_of rfl rs_) hI
theorem ka8 (h7 : (⟨2, .data⟩ : Edge) ∈ af.toList) : StepI Tryz.prog ops Q a0 kaDS I (GVt (kaGS Pb X Y i st cl peer)) 3 { dst := some 8, op := .fieldAddr 49 (.tmp 7) 0, type := ty, pos := pos, after := af, guard := none } := by
 intro a w hout hI hdep K hK
 rw [if_pos (by simp [Region.wanted])]
 obtain ⟨v7, g7, e7⟩ := hdep ⟨2, .data⟩ h7 rfl
 have e7 := e7 7 rfl
 have g7 := g7 _ rfl
 subst g7
 clear hout hdep
 go_simp
 exact hK _ _ (gvt_of rfl rs_) hI
theorem ka9 (h8 : (⟨3, .data⟩ : Edge) ∈ af.toList) (h6 : (⟨1, .data⟩ : Edge) ∈ af.toList) (hi : i < 2) : StepI Tryz.prog ops Q a0 kaDS I (GVt (kaGS Pb X Y i st cl peer)) 4 { dst := some 9, op := .indexAddr 44 (.tmp 8) (.tmp 6), type := ty, pos := pos, after := af, guard := none } := by
 intro a w hout hI hdep K hK
 rw [if_pos (by simp [Region.wanted])]
 obtain ⟨v8, g8, e8⟩ := hdep ⟨3, .data⟩ h8 rfl
 have e8 := e8 8 rfl
 have g8 := g8 _ rfl
 subst g8
 obtain ⟨v6, g6, e6⟩ := hdep ⟨1, .data⟩ h6 rfl
 have e6 := e6 6 rfl
 have g6 := g6 _ rfl
 subst g6
 clear hout hdep
 have hi1 : (i : Int) < 2 := by omega
 have hi0 : (0 : Int) ≤ i := by omega
 go_simp
 exact hK _ _ (gvt_of rfl rs_) hI
theorem ka10 (h9 : (⟨4, .data⟩ : Edge) ∈ af.toList) (hL : ∀ w, I w → w.cell? ⟨Pb, i, none⟩ = some (.pointer (some ⟨X, 0, none⟩))) : StepI Tryz.prog ops Q a0 kaDS I (GVt (kaGS Pb X Y i st cl peer)) 5 { dst := some 10, op := .load 43 (.tmp 9), type := ty, pos := pos, after := af, guard := none } := by
 intro a w hout hI hdep K hK
 rw [if_pos (by simp [Region.wanted])]
 obtain ⟨v9, g9, e9⟩ := hdep ⟨4, .data⟩ h9 rfl
 have e9 := e9 9 rfl
 have g9 := g9 _ rfl
 subst g9
 have hLw := hL w hI
 clear hout hdep
 go_simp
 exact hK _ _ (gvt_of rfl rs_) hI
theorem ka11 (h10 : (⟨5, .data⟩ : Edge) ∈ af.toList) (hC : ∀ w, I w → Calls Tryz.prog 15 #[.pointer (some ⟨X, 0, none⟩)] w fun e w' => e = .returned (.bool (!cl)) ∧ I w') : StepI Tryz.prog ops Q a0 kaDS I (GVt (kaGS Pb X Y i st cl peer)) 6 { dst := some 11, op := .call { callee := .value (.func 15), args := #[.tmp 10], argTypes := at_ }, type := ty, pos := pos, after := af, guard := none } := by
 intro a w hout hI hdep K hK
 rw [if_pos (by simp [Region.wanted])]
 obtain ⟨v10, g10, e10⟩ := hdep ⟨5, .data⟩ h10 rfl
 have e10 := e10 10 rfl
 have g10 := g10 _ rfl
 subst g10
 clear hout hdep
 go_simp
 refine (hC w hI).mono ?_
 rintro e w1 ⟨rfl, hI1⟩
 exact hK _ _ (gvt_of rfl rfl) hI1
theorem ka12 (o0 : a0.tmps[0]? = some (.pointer (some ⟨Pb, 0, none⟩))) : StepI Tryz.prog ops Q a0 kaDS I (GVt (kaGS Pb X Y i st cl peer)) 7 { dst := some 12, op := .move (.tmp 0), type := ty, pos := pos, after := af, guard := none } := by
 intro a w hout hI hdep K hK
 rw [if_pos (by simp [Region.wanted])]
 have o0w := (hout 0 de_).trans o0
 clear hout hdep
 clear o0
 go_simp
 exact hK _ _ (gvt_of rfl rs_) hI
theorem ka13 (o1 : a0.tmps[1]? = some (.int .i64 ((i : Nat) : Int))) : StepI Tryz.prog ops Q a0 kaDS I (GVt (kaGS Pb X Y i st cl peer)) 8 { dst := some 13, op := .move (.tmp 1), type := ty, pos := pos, after := af, guard := none } := by
 intro a w hout hI hdep K hK
 rw [if_pos (by simp [Region.wanted])]
 have o1w := (hout 1 de_).trans o1
 clear hout hdep
 clear o1
 go_simp
 exact hK _ _ (gvt_of rfl rs_) hI
theorem ka14 (h12 : (⟨7, .data⟩ : Edge) ∈ af.toList) : StepI Tryz.prog ops Q a0 kaDS I (GVt (kaGS Pb X Y i st cl peer)) 9 { dst := some 14, op := .nilCheck (.tmp 12), type := ty, pos := pos, after := af, guard := none } := by
 intro a w hout hI hdep K hK
 rw [if_pos (by simp [Region.wanted])]
 obtain ⟨v12, g12, e12⟩ := hdep ⟨7, .data⟩ h12 rfl
 have e12 := e12 12 rfl
 have g12 := g12 _ rfl
 subst g12
 clear hout hdep
 go_simp
 exact hK _ _ (gvt_of rfl rs_) hI
theorem ka15 (h14 : (⟨9, .data⟩ : Edge) ∈ af.toList) : StepI Tryz.prog ops Q a0 kaDS I (GVt (kaGS Pb X Y i st cl peer)) 10 { dst := some 15, op := .fieldAddr 49 (.tmp 14) 1, type := ty, pos := pos, after := af, guard := none } := by
 intro a w hout hI hdep K hK
 rw [if_pos (by simp [Region.wanted])]
 obtain ⟨v14, g14, e14⟩ := hdep ⟨9, .data⟩ h14 rfl
 have e14 := e14 14 rfl
 have g14 := g14 _ rfl
 subst g14
 clear hout hdep
 go_simp
 exact hK _ _ (gvt_of rfl rs_) hI
theorem ka16 (h15 : (⟨10, .data⟩ : Edge) ∈ af.toList) (h13 : (⟨8, .data⟩ : Edge) ∈ af.toList) (hi : i < 2) : StepI Tryz.prog ops Q a0 kaDS I (GVt (kaGS Pb X Y i st cl peer)) 11 { dst := some 16, op := .indexAddr 46 (.tmp 15) (.tmp 13), type := ty, pos := pos, after := af, guard := none } := by
 intro a w hout hI hdep K hK
 rw [if_pos (by simp [Region.wanted])]
 obtain ⟨v15, g15, e15⟩ := hdep ⟨10, .data⟩ h15 rfl
 have e15 := e15 15 rfl
 have g15 := g15 _ rfl
 subst g15
 obtain ⟨v13, g13, e13⟩ := hdep ⟨8, .data⟩ h13 rfl
 have e13 := e13 13 rfl
 have g13 := g13 _ rfl
 subst g13
 clear hout hdep
 have hi1 : (i : Int) < 2 := by omega
 have hi0 : (0 : Int) ≤ i := by omega
 go_simp
 exact hK _ _ (gvt_of rfl rs_) hI
theorem ka17 (h16 : (⟨11, .data⟩ : Edge) ∈ af.toList) (hL : ∀ w, I w → w.cell? ⟨Pb, 2 + i, none⟩ = some (.pointer (some ⟨Y, 0, none⟩))) : StepI Tryz.prog ops Q a0 kaDS I (GVt (kaGS Pb X Y i st cl peer)) 12 { dst := some 17, op := .load 45 (.tmp 16), type := ty, pos := pos, after := af, guard := none } := by
 intro a w hout hI hdep K hK
 rw [if_pos (by simp [Region.wanted])]
 obtain ⟨v16, g16, e16⟩ := hdep ⟨11, .data⟩ h16 rfl
 have e16 := e16 16 rfl
 have g16 := g16 _ rfl
 subst g16
 have hLw := hL w hI
 clear hout hdep
 go_simp
 exact hK _ _ (gvt_of rfl rs_) hI
theorem ka18 (h17 : (⟨12, .data⟩ : Edge) ∈ af.toList) : StepI Tryz.prog ops Q a0 kaDS I (GVt (kaGS Pb X Y i st cl peer)) 13 { dst := some 18, op := .nilCheck (.tmp 17), type := ty, pos := pos, after := af, guard := none } := by
 intro a w hout hI hdep K hK
 rw [if_pos (by simp [Region.wanted])]
 obtain ⟨v17, g17, e17⟩ := hdep ⟨12, .data⟩ h17 rfl
 have e17 := e17 17 rfl
 have g17 := g17 _ rfl
 subst g17
 clear hout hdep
 go_simp
 exact hK _ _ (gvt_of rfl rs_) hI
theorem ka19 (h18 : (⟨13, .data⟩ : Edge) ∈ af.toList) : StepI Tryz.prog ops Q a0 kaDS I (GVt (kaGS Pb X Y i st cl peer)) 14 { dst := some 19, op := .fieldAddr 85 (.tmp 18) 3, type := ty, pos := pos, after := af, guard := none } := by
 intro a w hout hI hdep K hK
 rw [if_pos (by simp [Region.wanted])]
 obtain ⟨v18, g18, e18⟩ := hdep ⟨13, .data⟩ h18 rfl
 have e18 := e18 18 rfl
 have g18 := g18 _ rfl
 subst g18
 clear hout hdep
 go_simp
 exact hK _ _ (gvt_of rfl rs_) hI
theorem ka20 (h19 : (⟨14, .data⟩ : Edge) ∈ af.toList) (hL : ∀ w, I w → w.cell? ⟨Y, 3, none⟩ = some (.int .i64 st)) : StepI Tryz.prog ops Q a0 kaDS I (GVt (kaGS Pb X Y i st cl peer)) 15 { dst := some 20, op := .load 3 (.tmp 19), type := ty, pos := pos, after := af, guard := none } := by
 intro a w hout hI hdep K hK
 rw [if_pos (by simp [Region.wanted])]
 obtain ⟨v19, g19, e19⟩ := hdep ⟨14, .data⟩ h19 rfl
 have e19 := e19 19 rfl
 have g19 := g19 _ rfl
 subst g19
 have hLw := hL w hI
 clear hout hdep
 go_simp
 exact hK _ _ (gvt_of rfl rs_) hI
theorem ka21 (h20 : (⟨15, .data⟩ : Edge) ∈ af.toList) (hst : (st == 3) = true) : StepI Tryz.prog ops Q a0 kaDS I (GVt (kaGS Pb X Y i st cl peer)) 16 { dst := some 21, op := .binOp .eql 3 (.tmp 20) (.const (.int .i64 3)) 3, type := ty, pos := pos, after := af, guard := none } := by
 intro a w hout hI hdep K hK
 rw [if_pos (by simp [Region.wanted])]
 obtain ⟨v20, g20, e20⟩ := hdep ⟨15, .data⟩ h20 rfl
 have e20 := e20 20 rfl
 have g20 := g20 _ rfl
 subst g20
 clear hout hdep
 go_simp
 exact hK _ _ (gvt_of rfl rs_) hI
theorem ka22 (h21 : (⟨16, .data⟩ : Edge) ∈ af.toList) : StepI Tryz.prog ops Q a0 kaDS I (GVt (kaGS Pb X Y i st cl peer)) 17 { dst := some 22, op := .move (.tmp 21), type := ty, pos := pos, after := af, guard := none } := by
 intro a w hout hI hdep K hK
 rw [if_pos (by simp [Region.wanted])]
 obtain ⟨v21, g21, e21⟩ := hdep ⟨16, .data⟩ h21 rfl
 have e21 := e21 21 rfl
 have g21 := g21 _ rfl
 subst g21
 clear hout hdep
 go_simp
 exact hK _ _ (gvt_of rfl rs_) hI
theorem ka23 (hg : (⟨17, .guard⟩ : Edge) ∈ af.toList) (hgo : ops[17]?.bind (·.dst) = some 22) (o0 : a0.tmps[0]? = some (.pointer (some ⟨Pb, 0, none⟩))) : StepI Tryz.prog ops Q a0 kaDS I (GVt (kaGS Pb X Y i st cl peer)) 18 { dst := some 23, op := .move (.tmp 0), type := ty, pos := pos, after := af, guard := some (17, true) } := by
 intro a w hout hI hdep K hK
 obtain ⟨vg, gg, eg⟩ := hdep ⟨17, .guard⟩ hg rfl
 have eg := eg 22 rfl
 have gg := gg _ rfl
 subst gg
 have hy := yielded_ist hgo eg
 rw [if_pos (by simp [Region.wanted, hy])]
 have o0w := (hout 0 de_).trans o0
 clear hout hdep hy
 clear o0
 go_simp
 exact hK _ _ (gvt_of rfl rs_) hI
theorem ka24 (hg : (⟨17, .guard⟩ : Edge) ∈ af.toList) (hgo : ops[17]?.bind (·.dst) = some 22) (o1 : a0.tmps[1]? = some (.int .i64 ((i : Nat) : Int))) : StepI Tryz.prog ops Q a0 kaDS I (GVt (kaGS Pb X Y i st cl peer)) 19 { dst := some 24, op := .move (.tmp 1), type := ty, pos := pos, after := af, guard := some (17, true) } := by
 intro a w hout hI hdep K hK
 obtain ⟨vg, gg, eg⟩ := hdep ⟨17, .guard⟩ hg rfl
 have eg := eg 22 rfl
 have gg := gg _ rfl
 subst gg
 have hy := yielded_ist hgo eg
 rw [if_pos (by simp [Region.wanted, hy])]
 have o1w := (hout 1 de_).trans o1
 clear hout hdep hy
 clear o1
 go_simp
 exact hK _ _ (gvt_of rfl rs_) hI
theorem ka25 (hg : (⟨17, .guard⟩ : Edge) ∈ af.toList) (hgo : ops[17]?.bind (·.dst) = some 22) (h23 : (⟨18, .data⟩ : Edge) ∈ af.toList) : StepI Tryz.prog ops Q a0 kaDS I (GVt (kaGS Pb X Y i st cl peer)) 20 { dst := some 25, op := .nilCheck (.tmp 23), type := ty, pos := pos, after := af, guard := some (17, true) } := by
 intro a w hout hI hdep K hK
 obtain ⟨vg, gg, eg⟩ := hdep ⟨17, .guard⟩ hg rfl
 have eg := eg 22 rfl
 have gg := gg _ rfl
 subst gg
 have hy := yielded_ist hgo eg
 rw [if_pos (by simp [Region.wanted, hy])]
 obtain ⟨v23, g23, e23⟩ := hdep ⟨18, .data⟩ h23 rfl
 have e23 := e23 23 rfl
 have g23 := g23 _ rfl
 subst g23
 clear hout hdep hy
 go_simp
 exact hK _ _ (gvt_of rfl rs_) hI
theorem ka26 (hg : (⟨17, .guard⟩ : Edge) ∈ af.toList) (hgo : ops[17]?.bind (·.dst) = some 22) (h25 : (⟨20, .data⟩ : Edge) ∈ af.toList) : StepI Tryz.prog ops Q a0 kaDS I (GVt (kaGS Pb X Y i st cl peer)) 21 { dst := some 26, op := .fieldAddr 49 (.tmp 25) 1, type := ty, pos := pos, after := af, guard := some (17, true) } := by
 intro a w hout hI hdep K hK
 obtain ⟨vg, gg, eg⟩ := hdep ⟨17, .guard⟩ hg rfl
 have eg := eg 22 rfl
 have gg := gg _ rfl
 subst gg
 have hy := yielded_ist hgo eg
 rw [if_pos (by simp [Region.wanted, hy])]
 obtain ⟨v25, g25, e25⟩ := hdep ⟨20, .data⟩ h25 rfl
 have e25 := e25 25 rfl
 have g25 := g25 _ rfl
 subst g25
 clear hout hdep hy
 go_simp
 exact hK _ _ (gvt_of rfl rs_) hI
theorem ka27 (hg : (⟨17, .guard⟩ : Edge) ∈ af.toList) (hgo : ops[17]?.bind (·.dst) = some 22) (h26 : (⟨21, .data⟩ : Edge) ∈ af.toList) (h24 : (⟨19, .data⟩ : Edge) ∈ af.toList) (hi : i < 2) : StepI Tryz.prog ops Q a0 kaDS I (GVt (kaGS Pb X Y i st cl peer)) 22 { dst := some 27, op := .indexAddr 46 (.tmp 26) (.tmp 24), type := ty, pos := pos, after := af, guard := some (17, true) } := by
 intro a w hout hI hdep K hK
 obtain ⟨vg, gg, eg⟩ := hdep ⟨17, .guard⟩ hg rfl
 have eg := eg 22 rfl
 have gg := gg _ rfl
 subst gg
 have hy := yielded_ist hgo eg
 rw [if_pos (by simp [Region.wanted, hy])]
 obtain ⟨v26, g26, e26⟩ := hdep ⟨21, .data⟩ h26 rfl
 have e26 := e26 26 rfl
 have g26 := g26 _ rfl
 subst g26
 obtain ⟨v24, g24, e24⟩ := hdep ⟨19, .data⟩ h24 rfl
 have e24 := e24 24 rfl
 have g24 := g24 _ rfl
 subst g24
 clear hout hdep hy
 have hi1 : (i : Int) < 2 := by omega
 have hi0 : (0 : Int) ≤ i := by omega
 go_simp
 exact hK _ _ (gvt_of rfl rs_) hI
theorem ka28 (hg : (⟨17, .guard⟩ : Edge) ∈ af.toList) (hgo : ops[17]?.bind (·.dst) = some 22) (h27 : (⟨22, .data⟩ : Edge) ∈ af.toList) (hL : ∀ w, I w → w.cell? ⟨Pb, 2 + i, none⟩ = some (.pointer (some ⟨Y, 0, none⟩))) : StepI Tryz.prog ops Q a0 kaDS I (GVt (kaGS Pb X Y i st cl peer)) 23 { dst := some 28, op := .load 45 (.tmp 27), type := ty, pos := pos, after := af, guard := some (17, true) } := by
 intro a w hout hI hdep K hK
 obtain ⟨vg, gg, eg⟩ := hdep ⟨17, .guard⟩ hg rfl
 have eg := eg 22 rfl
 have gg := gg _ rfl
 subst gg
 have hy := yielded_ist hgo eg
 rw [if_pos (by simp [Region.wanted, hy])]
 obtain ⟨v27, g27, e27⟩ := hdep ⟨22, .data⟩ h27 rfl
 have e27 := e27 27 rfl
 have g27 := g27 _ rfl
 subst g27
 have hLw := hL w hI
 clear hout hdep hy
 go_simp
 exact hK _ _ (gvt_of rfl rs_) hI
theorem ka29 (hg : (⟨17, .guard⟩ : Edge) ∈ af.toList) (hgo : ops[17]?.bind (·.dst) = some 22) (h28 : (⟨23, .data⟩ : Edge) ∈ af.toList) : StepI Tryz.prog ops Q a0 kaDS I (GVt (kaGS Pb X Y i st cl peer)) 24 { dst := some 29, op := .nilCheck (.tmp 28), type := ty, pos := pos, after := af, guard := some (17, true) } := by
 intro a w hout hI hdep K hK
 obtain ⟨vg, gg, eg⟩ := hdep ⟨17, .guard⟩ hg rfl
 have eg := eg 22 rfl
 have gg := gg _ rfl
 subst gg
 have hy := yielded_ist hgo eg
 rw [if_pos (by simp [Region.wanted, hy])]
 obtain ⟨v28, g28, e28⟩ := hdep ⟨23, .data⟩ h28 rfl
 have e28 := e28 28 rfl
 have g28 := g28 _ rfl
 subst g28
 clear hout hdep hy
 go_simp
 exact hK _ _ (gvt_of rfl rs_) hI
theorem ka30 (hg : (⟨17, .guard⟩ : Edge) ∈ af.toList) (hgo : ops[17]?.bind (·.dst) = some 22) (h29 : (⟨24, .data⟩ : Edge) ∈ af.toList) : StepI Tryz.prog ops Q a0 kaDS I (GVt (kaGS Pb X Y i st cl peer)) 25 { dst := some 30, op := .fieldAddr 85 (.tmp 29) 5, type := ty, pos := pos, after := af, guard := some (17, true) } := by
 intro a w hout hI hdep K hK
 obtain ⟨vg, gg, eg⟩ := hdep ⟨17, .guard⟩ hg rfl
 have eg := eg 22 rfl
 have gg := gg _ rfl
 subst gg
 have hy := yielded_ist hgo eg
 rw [if_pos (by simp [Region.wanted, hy])]
 obtain ⟨v29, g29, e29⟩ := hdep ⟨24, .data⟩ h29 rfl
 have e29 := e29 29 rfl
 have g29 := g29 _ rfl
 subst g29
 clear hout hdep hy
 go_simp
 exact hK _ _ (gvt_of rfl rs_) hI
theorem ka31 (hg : (⟨17, .guard⟩ : Edge) ∈ af.toList) (hgo : ops[17]?.bind (·.dst) = some 22) (h30 : (⟨25, .data⟩ : Edge) ∈ af.toList) (hL : ∀ w, I w → w.cell? ⟨Y, 5, none⟩ = some (.bool cl)) : StepI Tryz.prog ops Q a0 kaDS I (GVt (kaGS Pb X Y i st cl peer)) 26 { dst := some 31, op := .load 4 (.tmp 30), type := ty, pos := pos, after := af, guard := some (17, true) } := by
 intro a w hout hI hdep K hK
 obtain ⟨vg, gg, eg⟩ := hdep ⟨17, .guard⟩ hg rfl
 have eg := eg 22 rfl
 have gg := gg _ rfl
 subst gg
 have hy := yielded_ist hgo eg
 rw [if_pos (by simp [Region.wanted, hy])]
 obtain ⟨v30, g30, e30⟩ := hdep ⟨25, .data⟩ h30 rfl
 have e30 := e30 30 rfl
 have g30 := g30 _ rfl
 subst g30
 have hLw := hL w hI
 clear hout hdep hy
 go_simp
 exact hK _ _ (gvt_of rfl rs_) hI
theorem ka32 (hg : (⟨17, .guard⟩ : Edge) ∈ af.toList) (hgo : ops[17]?.bind (·.dst) = some 22) (h31 : (⟨26, .data⟩ : Edge) ∈ af.toList) : StepI Tryz.prog ops Q a0 kaDS I (GVt (kaGS Pb X Y i st cl peer)) 27 { dst := some 32, op := .unOp .not 4 (.tmp 31), type := ty, pos := pos, after := af, guard := some (17, true) } := by
 intro a w hout hI hdep K hK
 obtain ⟨vg, gg, eg⟩ := hdep ⟨17, .guard⟩ hg rfl
 have eg := eg 22 rfl
 have gg := gg _ rfl
 subst gg
 have hy := yielded_ist hgo eg
 rw [if_pos (by simp [Region.wanted, hy])]
 obtain ⟨v31, g31, e31⟩ := hdep ⟨26, .data⟩ h31 rfl
 have e31 := e31 31 rfl
 have g31 := g31 _ rfl
 subst g31
 clear hout hdep hy
 go_simp
 exact hK _ _ (gvt_of rfl rs_) hI
theorem ka33 (h22 : (⟨17, .data⟩ : Edge) ∈ af.toList) (h32 : (⟨27, .data⟩ : Edge) ∈ af.toList) : StepI Tryz.prog ops Q a0 kaDS I (GVt (kaGS Pb X Y i st cl peer)) 28 { dst := some 33, op := .pick (.tmp 22) (.tmp 32) (.const (.bool false)), type := ty, pos := pos, after := af, guard := none } := by
 intro a w hout hI hdep K hK
 rw [if_pos (by simp [Region.wanted])]
 obtain ⟨v22, g22, e22⟩ := hdep ⟨17, .data⟩ h22 rfl
 have e22 := e22 22 rfl
 have g22 := g22 _ rfl
 subst g22
 obtain ⟨v32, g32, e32⟩ := hdep ⟨27, .data⟩ h32 rfl
 have e32 := e32 32 rfl
 have g32 := g32 _ rfl
 subst g32
 clear hout hdep
 go_simp
 exact hK _ _ (gvt_of rfl rs_) hI
theorem ka34 (h11 : (⟨6, .data⟩ : Edge) ∈ af.toList) (h33 : (⟨28, .data⟩ : Edge) ∈ af.toList) : StepI Tryz.prog ops Q a0 kaDS I (GVt (kaGS Pb X Y i st cl peer)) 29 { dst := some 34, op := .binOp .eql 4 (.tmp 11) (.tmp 33) 4, type := ty, pos := pos, after := af, guard := none } := by
 intro a w hout hI hdep K hK
 rw [if_pos (by simp [Region.wanted])]
 obtain ⟨v11, g11, e11⟩ := hdep ⟨6, .data⟩ h11 rfl
 have e11 := e11 11 rfl
 have g11 := g11 _ rfl
 subst g11
 obtain ⟨v33, g33, e33⟩ := hdep ⟨28, .data⟩ h33 rfl
 have e33 := e33 33 rfl
 have g33 := g33 _ rfl
 subst g33
 clear hout hdep
 go_simp
 exact hK _ _ (gvt_of rfl rs_) hI
theorem ka35 (h34 : (⟨29, .data⟩ : Edge) ∈ af.toList) : StepI Tryz.prog ops Q a0 kaDS I (GVt (kaGS Pb X Y i st cl peer)) 30 { dst := some 35, op := .move (.tmp 34), type := ty, pos := pos, after := af, guard := none } := by
 intro a w hout hI hdep K hK
 rw [if_pos (by simp [Region.wanted])]
 obtain ⟨v34, g34, e34⟩ := hdep ⟨29, .data⟩ h34 rfl
 have e34 := e34 34 rfl
 have g34 := g34 _ rfl
 subst g34
 clear hout hdep
 go_simp
 exact hK _ _ (gvt_of rfl rs_) hI
theorem ka36 (hg : (⟨30, .guard⟩ : Edge) ∈ af.toList) (hgo : ops[30]?.bind (·.dst) = some 35) (o0 : a0.tmps[0]? = some (.pointer (some ⟨Pb, 0, none⟩))) : StepI Tryz.prog ops Q a0 kaDS I (GVt (kaGS Pb X Y i st cl peer)) 31 { dst := some 36, op := .move (.tmp 0), type := ty, pos := pos, after := af, guard := some (30, true) } := by
 intro a w hout hI hdep K hK
 obtain ⟨vg, gg, eg⟩ := hdep ⟨30, .guard⟩ hg rfl
 have eg := eg 35 rfl
 have gg := gg _ rfl
 subst gg
 have hy := yielded_ist hgo eg
 rw [if_pos (by simp [Region.wanted, hy])]
 have o0w := (hout 0 de_).trans o0
 clear hout hdep hy
 clear o0
 go_simp
 exact hK _ _ (gvt_of rfl rs_) hI
theorem ka37 (hg : (⟨30, .guard⟩ : Edge) ∈ af.toList) (hgo : ops[30]?.bind (·.dst) = some 35) (o1 : a0.tmps[1]? = some (.int .i64 ((i : Nat) : Int))) : StepI Tryz.prog ops Q a0 kaDS I (GVt (kaGS Pb X Y i st cl peer)) 32 { dst := some 37, op := .move (.tmp 1), type := ty, pos := pos, after := af, guard := some (30, true) } := by
 intro a w hout hI hdep K hK
 obtain ⟨vg, gg, eg⟩ := hdep ⟨30, .guard⟩ hg rfl
 have eg := eg 35 rfl
 have gg := gg _ rfl
 subst gg
 have hy := yielded_ist hgo eg
 rw [if_pos (by simp [Region.wanted, hy])]
 have o1w := (hout 1 de_).trans o1
 clear hout hdep hy
 clear o1
 go_simp
 exact hK _ _ (gvt_of rfl rs_) hI
theorem ka38 (hg : (⟨30, .guard⟩ : Edge) ∈ af.toList) (hgo : ops[30]?.bind (·.dst) = some 35) (h36 : (⟨31, .data⟩ : Edge) ∈ af.toList) : StepI Tryz.prog ops Q a0 kaDS I (GVt (kaGS Pb X Y i st cl peer)) 33 { dst := some 38, op := .nilCheck (.tmp 36), type := ty, pos := pos, after := af, guard := some (30, true) } := by
 intro a w hout hI hdep K hK
 obtain ⟨vg, gg, eg⟩ := hdep ⟨30, .guard⟩ hg rfl
 have eg := eg 35 rfl
 have gg := gg _ rfl
 subst gg
 have hy := yielded_ist hgo eg
 rw [if_pos (by simp [Region.wanted, hy])]
 obtain ⟨v36, g36, e36⟩ := hdep ⟨31, .data⟩ h36 rfl
 have e36 := e36 36 rfl
 have g36 := g36 _ rfl
 subst g36
 clear hout hdep hy
 go_simp
 exact hK _ _ (gvt_of rfl rs_) hI
theorem ka39 (hg : (⟨30, .guard⟩ : Edge) ∈ af.toList) (hgo : ops[30]?.bind (·.dst) = some 35) (h38 : (⟨33, .data⟩ : Edge) ∈ af.toList) : StepI Tryz.prog ops Q a0 kaDS I (GVt (kaGS Pb X Y i st cl peer)) 34 { dst := some 39, op := .fieldAddr 49 (.tmp 38) 0, type := ty, pos := pos, after := af, guard := some (30, true) } := by
 intro a w hout hI hdep K hK
 obtain ⟨vg, gg, eg⟩ := hdep ⟨30, .guard⟩ hg rfl
 have eg := eg 35 rfl
 have gg := gg _ rfl
 subst gg
 have hy := yielded_ist hgo eg
 rw [if_pos (by simp [Region.wanted, hy])]
 obtain ⟨v38, g38, e38⟩ := hdep ⟨33, .data⟩ h38 rfl
 have e38 := e38 38 rfl
 have g38 := g38 _ rfl
 subst g38
 clear hout hdep hy
 go_simp
 exact hK _ _ (gvt_of rfl rs_) hI
theorem ka40 (hg : (⟨30, .guard⟩ : Edge) ∈ af.toList) (hgo : ops[30]?.bind (·.dst) = some 35) (h39 : (⟨34, .data⟩ : Edge) ∈ af.toList) (h37 : (⟨32, .data⟩ : Edge) ∈ af.toList) (hi : i < 2) : StepI Tryz.prog ops Q a0 kaDS I (GVt (kaGS Pb X Y i st cl peer)) 35 { dst := some 40, op := .indexAddr 44 (.tmp 39) (.tmp 37), type := ty, pos := pos, after := af, guard := some (30, true) } := by
 intro a w hout hI hdep K hK
 obtain ⟨vg, gg, eg⟩ := hdep ⟨30, .guard⟩ hg rfl
 have eg := eg 35 rfl
 have gg := gg _ rfl
 subst gg
 have hy := yielded_ist hgo eg
 rw [if_pos (by simp [Region.wanted, hy])]
 obtain ⟨v39, g39, e39⟩ := hdep ⟨34, .data⟩ h39 rfl
 have e39 := e39 39 rfl
 have g39 := g39 _ rfl
 subst g39
 obtain ⟨v37, g37, e37⟩ := hdep ⟨32, .data⟩ h37 rfl
 have e37 := e37 37 rfl
 have g37 := g37 _ rfl
 subst g37
 clear hout hdep hy
 have hi1 : (i : Int) < 2 := by omega
 have hi0 : (0 : Int) ≤ i := by omega
 go_simp
 exact hK _ _ (gvt_of rfl rs_) hI
theorem ka41 (hg : (⟨30, .guard⟩ : Edge) ∈ af.toList) (hgo : ops[30]?.bind (·.dst) = some 35) (h40 : (⟨35, .data⟩ : Edge) ∈ af.toList) (hL : ∀ w, I w → w.cell? ⟨Pb, i, none⟩ = some (.pointer (some ⟨X, 0, none⟩))) : StepI Tryz.prog ops Q a0 kaDS I (GVt (kaGS Pb X Y i st cl peer)) 36 { dst := some 41, op := .load 43 (.tmp 40), type := ty, pos := pos, after := af, guard := some (30, true) } := by
 intro a w hout hI hdep K hK
 obtain ⟨vg, gg, eg⟩ := hdep ⟨30, .guard⟩ hg rfl
 have eg := eg 35 rfl
 have gg := gg _ rfl
 subst gg
 have hy := yielded_ist hgo eg
 rw [if_pos (by simp [Region.wanted, hy])]
 obtain ⟨v40, g40, e40⟩ := hdep ⟨35, .data⟩ h40 rfl
 have e40 := e40 40 rfl
 have g40 := g40 _ rfl
 subst g40
 have hLw := hL w hI
 clear hout hdep hy
 go_simp
 exact hK _ _ (gvt_of rfl rs_) hI
theorem ka42 (hg : (⟨30, .guard⟩ : Edge) ∈ af.toList) (hgo : ops[30]?.bind (·.dst) = some 35) (h41 : (⟨36, .data⟩ : Edge) ∈ af.toList) (hC : ∀ w, I w → Calls Tryz.prog 16 #[.pointer (some ⟨X, 0, none⟩)] w fun e w' => e = .returned (.string (bs peer)) ∧ I w') : StepI Tryz.prog ops Q a0 kaDS I (GVt (kaGS Pb X Y i st cl peer)) 37 { dst := some 42, op := .call { callee := .value (.func 16), args := #[.tmp 41], argTypes := at_ }, type := ty, pos := pos, after := af, guard := some (30, true) } := by
 intro a w hout hI hdep K hK
 obtain ⟨vg, gg, eg⟩ := hdep ⟨30, .guard⟩ hg rfl
 have eg := eg 35 rfl
 have gg := gg _ rfl
 subst gg
 have hy := yielded_ist hgo eg
 rw [if_pos (by simp [Region.wanted, hy])]
 obtain ⟨v41, g41, e41⟩ := hdep ⟨36, .data⟩ h41 rfl
 have e41 := e41 41 rfl
 have g41 := g41 _ rfl
 subst g41
 clear hout hdep hy
 go_simp
 refine (hC w hI).mono ?_
 rintro e w1 ⟨rfl, hI1⟩
 exact hK _ _ (gvt_of rfl rfl) hI1
theorem ka43 (hg : (⟨30, .guard⟩ : Edge) ∈ af.toList) (hgo : ops[30]?.bind (·.dst) = some 35) (o0 : a0.tmps[0]? = some (.pointer (some ⟨Pb, 0, none⟩))) : StepI Tryz.prog ops Q a0 kaDS I (GVt (kaGS Pb X Y i st cl peer)) 38 { dst := some 43, op := .move (.tmp 0), type := ty, pos := pos, after := af, guard := some (30, true) } := by
 intro a w hout hI hdep K hK
 obtain ⟨vg, gg, eg⟩ := hdep ⟨30, .guard⟩ hg rfl
 have eg := eg 35 rfl
 have gg := gg _ rfl
 subst gg
 have hy := yielded_ist hgo eg
 rw [if_pos (by simp [Region.wanted, hy])]
 have o0w := (hout 0 de_).trans o0
 clear hout hdep hy
 clear o0
 go_simp
 exact hK _ _ (gvt_of rfl rs_) hI
theorem ka44 (hg : (⟨30, .guard⟩ : Edge) ∈ af.toList) (hgo : ops[30]?.bind (·.dst) = some 35) (o1 : a0.tmps[1]? = some (.int .i64 ((i : Nat) : Int))) : StepI Tryz.prog ops Q a0 kaDS I (GVt (kaGS Pb X Y i st cl peer)) 39 { dst := some 44, op := .move (.tmp 1), type := ty, pos := pos, after := af, guard := some (30, true) } := by
 intro a w hout hI hdep K hK
 obtain ⟨vg, gg, eg⟩ := hdep ⟨30, .guard⟩ hg rfl
 have eg := eg 35 rfl
 have gg := gg _ rfl
 subst gg
 have hy := yielded_ist hgo eg
 rw [if_pos (by simp [Region.wanted, hy])]
 have o1w := (hout 1 de_).trans o1
 clear hout hdep hy
 clear o1
 go_simp
 exact hK _ _ (gvt_of rfl rs_) hI
theorem ka45 (hg : (⟨30, .guard⟩ : Edge) ∈ af.toList) (hgo : ops[30]?.bind (·.dst) = some 35) (h43 : (⟨38, .data⟩ : Edge) ∈ af.toList) : StepI Tryz.prog ops Q a0 kaDS I (GVt (kaGS Pb X Y i st cl peer)) 40 { dst := some 45, op := .nilCheck (.tmp 43), type := ty, pos := pos, after := af, guard := some (30, true) } := by
 intro a w hout hI hdep K hK
 obtain ⟨vg, gg, eg⟩ := hdep ⟨30, .guard⟩ hg rfl
 have eg := eg 35 rfl
 have gg := gg _ rfl
 subst gg
 have hy := yielded_ist hgo eg
 rw [if_pos (by simp [Region.wanted, hy])]
 obtain ⟨v43, g43, e43⟩ := hdep ⟨38, .data⟩ h43 rfl
 have e43 := e43 43 rfl
 have g43 := g43 _ rfl
 subst g43
 clear hout hdep hy
 go_simp
 exact hK _ _ (gvt_of rfl rs_) hI
theorem ka46 (hg : (⟨30, .guard⟩ : Edge) ∈ af.toList) (hgo : ops[30]?.bind (·.dst) = some 35) (h45 : (⟨40, .data⟩ : Edge) ∈ af.toList) : StepI Tryz.prog ops Q a0 kaDS I (GVt (kaGS Pb X Y i st cl peer)) 41 { dst := some 46, op := .fieldAddr 49 (.tmp 45) 1, type := ty, pos := pos, after := af, guard := some (30, true) } := by
 intro a w hout hI hdep K hK
 obtain ⟨vg, gg, eg⟩ := hdep ⟨30, .guard⟩ hg rfl
 have eg := eg 35 rfl
 have gg := gg _ rfl
 subst gg
 have hy := yielded_ist hgo eg
 rw [if_pos (by simp [Region.wanted, hy])]
 obtain ⟨v45, g45, e45⟩ := hdep ⟨40, .data⟩ h45 rfl
 have e45 := e45 45 rfl
 have g45 := g45 _ rfl
 subst g45
 clear hout hdep hy
 go_simp
 exact hK _ _ (gvt_of rfl rs_) hI
theorem ka47 (hg : (⟨30, .guard⟩ : Edge) ∈ af.toList) (hgo : ops[30]?.bind (·.dst) = some 35) (h46 : (⟨41, .data⟩ : Edge) ∈ af.toList) (h44 : (⟨39, .data⟩ : Edge) ∈ af.toList) (hi : i < 2) : StepI Tryz.prog ops Q a0 kaDS I (GVt (kaGS Pb X Y i st cl peer)) 42 { dst := some 47, op := .indexAddr 46 (.tmp 46) (.tmp 44), type := ty, pos := pos, after := af, guard := some (30, true) } := by
 intro a w hout hI hdep K hK
 obtain ⟨vg, gg, eg⟩ := hdep ⟨30, .guard⟩ hg rfl
 have eg := eg 35 rfl
 have gg := gg _ rfl
 subst gg
 have hy := yielded_ist hgo eg
 rw [if_pos (by simp [Region.wanted, hy])]
 obtain ⟨v46, g46, e46⟩ := hdep ⟨41, .data⟩ h46 rfl
 have e46 := e46 46 rfl
 have g46 := g46 _ rfl
 subst g46
 obtain ⟨v44, g44, e44⟩ := hdep ⟨39, .data⟩ h44 rfl
 have e44 := e44 44 rfl
 have g44 := g44 _ rfl
 subst g44
 clear hout hdep hy
 have hi1 : (i : Int) < 2 := by omega
 have hi0 : (0 : Int) ≤ i := by omega
 go_simp
 exact hK _ _ (gvt_of rfl rs_) hI
theorem ka48 (hg : (⟨30, .guard⟩ : Edge) ∈ af.toList) (hgo : ops[30]?.bind (·.dst) = some 35) (h47 : (⟨42, .data⟩ : Edge) ∈ af.toList) (hL : ∀ w, I w → w.cell? ⟨Pb, 2 + i, none⟩ = some (.pointer (some ⟨Y, 0, none⟩))) : StepI Tryz.prog ops Q a0 kaDS I (GVt (kaGS Pb X Y i st cl peer)) 43 { dst := some 48, op := .load 45 (.tmp 47), type := ty, pos := pos, after := af, guard := some (30, true) } := by
 intro a w hout hI hdep K hK
 obtain ⟨vg, gg, eg⟩ := hdep ⟨30, .guard⟩ hg rfl
 have eg := eg 35 rfl
 have gg := gg _ rfl
 subst gg
 have hy := yielded_ist hgo eg
 rw [if_pos (by simp [Region.wanted, hy])]
 obtain ⟨v47, g47, e47⟩ := hdep ⟨42, .data⟩ h47 rfl
 have e47 := e47 47 rfl
 have g47 := g47 _ rfl
 subst g47
 have hLw := hL w hI
 clear hout hdep hy
 go_simp
 exact hK _ _ (gvt_of rfl rs_) hI
theorem ka49 (hg : (⟨30, .guard⟩ : Edge) ∈ af.toList) (hgo : ops[30]?.bind (·.dst) = some 35) (h48 : (⟨43, .data⟩ : Edge) ∈ af.toList) : StepI Tryz.prog ops Q a0 kaDS I (GVt (kaGS Pb X Y i st cl peer)) 44 { dst := some 49, op := .nilCheck (.tmp 48), type := ty, pos := pos, after := af, guard := some (30, true) } := by
 intro a w hout hI hdep K hK
 obtain ⟨vg, gg, eg⟩ := hdep ⟨30, .guard⟩ hg rfl
 have eg := eg 35 rfl
 have gg := gg _ rfl
 subst gg
 have hy := yielded_ist hgo eg
 rw [if_pos (by simp [Region.wanted, hy])]
 obtain ⟨v48, g48, e48⟩ := hdep ⟨43, .data⟩ h48 rfl
 have e48 := e48 48 rfl
 have g48 := g48 _ rfl
 subst g48
 clear hout hdep hy
 go_simp
 exact hK _ _ (gvt_of rfl rs_) hI
theorem ka50 (hg : (⟨30, .guard⟩ : Edge) ∈ af.toList) (hgo : ops[30]?.bind (·.dst) = some 35) (h49 : (⟨44, .data⟩ : Edge) ∈ af.toList) : StepI Tryz.prog ops Q a0 kaDS I (GVt (kaGS Pb X Y i st cl peer)) 45 { dst := some 50, op := .fieldAddr 85 (.tmp 49) 2, type := ty, pos := pos, after := af, guard := some (30, true) } := by
 intro a w hout hI hdep K hK
 obtain ⟨vg, gg, eg⟩ := hdep ⟨30, .guard⟩ hg rfl
 have eg := eg 35 rfl
 have gg := gg _ rfl
 subst gg
 have hy := yielded_ist hgo eg
 rw [if_pos (by simp [Region.wanted, hy])]
 obtain ⟨v49, g49, e49⟩ := hdep ⟨44, .data⟩ h49 rfl
 have e49 := e49 49 rfl
 have g49 := g49 _ rfl
 subst g49
 clear hout hdep hy
 go_simp
 exact hK _ _ (gvt_of rfl rs_) hI
theorem ka51 (hg : (⟨30, .guard⟩ : Edge) ∈ af.toList) (hgo : ops[30]?.bind (·.dst) = some 35) (h50 : (⟨45, .data⟩ : Edge) ∈ af.toList) (hL : ∀ w, I w → w.cell? ⟨Y, 2, none⟩ = some (.string (bs peer))) : StepI Tryz.prog ops Q a0 kaDS I (GVt (kaGS Pb X Y i st cl peer)) 46 { dst := some 51, op := .load 22 (.tmp 50), type := ty, pos := pos, after := af, guard := some (30, true) } := by
 intro a w hout hI hdep K hK
 obtain ⟨vg, gg, eg⟩ := hdep ⟨30, .guard⟩ hg rfl
 have eg := eg 35 rfl
 have gg := gg _ rfl
 subst gg
 have hy := yielded_ist hgo eg
 rw [if_pos (by simp [Region.wanted, hy])]
 obtain ⟨v50, g50, e50⟩ := hdep ⟨45, .data⟩ h50 rfl
 have e50 := e50 50 rfl
 have g50 := g50 _ rfl
 subst g50
 have hLw := hL w hI
 clear hout hdep hy
 go_simp
 exact hK _ _ (gvt_of rfl rs_) hI
theorem ka52 (hg : (⟨30, .guard⟩ : Edge) ∈ af.toList) (hgo : ops[30]?.bind (·.dst) = some 35) (h42 : (⟨37, .data⟩ : Edge) ∈ af.toList) (h51 : (⟨46, .data⟩ : Edge) ∈ af.toList) : StepI Tryz.prog ops Q a0 kaDS I (GVt (kaGS Pb X Y i st cl peer)) 47 { dst := some 52, op := .binOp .eql 22 (.tmp 42) (.tmp 51) 22, type := ty, pos := pos, after := af, guard := some (30, true) } := by
 intro a w hout hI hdep K hK
 obtain ⟨vg, gg, eg⟩ := hdep ⟨30, .guard⟩ hg rfl
 have eg := eg 35 rfl
 have gg := gg _ rfl
 subst gg
 have hy := yielded_ist hgo eg
 rw [if_pos (by simp [Region.wanted, hy])]
 obtain ⟨v42, g42, e42⟩ := hdep ⟨37, .data⟩ h42 rfl
 have e42 := e42 42 rfl
 have g42 := g42 _ rfl
 subst g42
 obtain ⟨v51, g51, e51⟩ := hdep ⟨46, .data⟩ h51 rfl
 have e51 := e51 51 rfl
 have g51 := g51 _ rfl
 subst g51
 clear hout hdep hy
 go_simp
 exact hK _ _ (gvt_of rfl rs_) hI
theorem ka53 (h35 : (⟨30, .data⟩ : Edge) ∈ af.toList) (h52 : (⟨47, .data⟩ : Edge) ∈ af.toList) : StepI Tryz.prog ops Q a0 kaDS I (GVt (kaGS Pb X Y i st cl peer)) 48 { dst := some 53, op := .pick (.tmp 35) (.tmp 52) (.const (.bool false)), type := ty, pos := pos, after := af, guard := none } := by
 intro a w hout hI hdep K hK
 rw [if_pos (by simp [Region.wanted])]
 obtain ⟨v35, g35, e35⟩ := hdep ⟨30, .data⟩ h35 rfl
 have e35 := e35 35 rfl
 have g35 := g35 _ rfl
 subst g35
 obtain ⟨v52, g52, e52⟩ := hdep ⟨47, .data⟩ h52 rfl
 have e52 := e52 52 rfl
 have g52 := g52 _ rfl
 subst g52
 clear hout hdep
 go_simp
 exact hK _ _ (gvt_of rfl rs_) hI
theorem ka4 (h53 : (⟨48, .data⟩ : Edge) ∈ af.toList) : StepI Tryz.prog ops Q a0 kaDS I (GVt (kaGS Pb X Y i st cl peer)) 49 { dst := some 4, op := .assign (.tmp 53), type := ty, pos := pos, after := af, guard := none } := by
 intro a w hout hI hdep K hK
 rw [if_pos (by simp [Region.wanted])]
 obtain ⟨v53, g53, e53⟩ := hdep ⟨48, .data⟩ h53 rfl
 have e53 := e53 53 rfl
 have g53 := g53 _ rfl
 subst g53
 clear hout hdep
 go_simp
 exact hK _ _ (gvt_of rfl rs_) hI
end
def kbDS : List (Option Nat) := [some 5, some 6, some 7, some 8, some 9, some 10, some 11, some 12, some 13, some 14, some 15, some 16, some 17, some 18, some 19, some 20, some 21, some 22, some 23, some 24, some 25, some 26, some 27, some 28, some 29, some 30, some 31, some 32, some 33, some 34, some 35, some 36, some 37, some 38, some 39, some 40, some 41, some 42, some 43, some 44, some 45, some 46, some 47, some 48, some 49, some 50, some 51, some 52, some 53, some 4]
def kbGS (Pb X Y i : Nat) (st : Int) (cl : Bool) (peer : List UInt8) : List (Option Value) := [some (.pointer (some ⟨Pb, 0, none⟩)), some (.int .i64 ((i : Nat) : Int)), some (.pointer (some ⟨Pb, 0, none⟩)), some (.pointer (some ⟨Pb, 0, none⟩)), some (.pointer (some ⟨Pb, i, none⟩)), some (.pointer (some ⟨X, 0, none⟩)), some (.bool false), some (.pointer (some ⟨Pb, 0, none⟩)), some (.int .i64 ((i : Nat) : Int)), some (.pointer (some ⟨Pb, 0, none⟩)), some (.pointer (some ⟨Pb, 2, none⟩)), some (.pointer (some ⟨Pb, (2 + i), none⟩)), some (.pointer (some ⟨Y, 0, none⟩)), some (.pointer (some ⟨Y, 0, none⟩)), some (.pointer (some ⟨Y, 3, none⟩)), some (.int .i64 st), some (.bool false), some (.bool false), none, none, none, none, none, none, none, none, none, none, some (.bool false), some (.bool true), some (.bool true), some (.pointer (some ⟨Pb, 0, none⟩)), some (.int .i64 ((i : Nat) : Int)), some (.pointer (some ⟨Pb, 0, none⟩)), some (.pointer (some ⟨Pb, 0, none⟩)), some (.pointer (some ⟨Pb, i, none⟩)), some (.pointer (some ⟨X, 0, none⟩)), some (.string (bs peer)), some (.pointer (some ⟨Pb, 0, none⟩)), some (.int .i64 ((i : Nat) : Int)), some (.pointer (some ⟨Pb, 0, none⟩)), some (.pointer (some ⟨Pb, 2, none⟩)), some (.pointer (some ⟨Pb, (2 + i), none⟩)), some (.pointer (some ⟨Y, 0, none⟩)), some (.pointer (some ⟨Y, 0, none⟩)), some (.pointer (some ⟨Y, 2, none⟩)), some (.string (bs peer)), some (.bool true), some (.bool true), some (.bool true)]
section
variable {ops : Array Oper} {Q : Exit → Act → World → Prop} {a0 : Act} {I : World → Prop} {af : Array Edge} {ty : Nat} {pos : String} {at_ : Array TypeId} {Pb X Y i : Nat} {st : Int} {cl : Bool} {peer : List UInt8}
theorem kb5 (o0 : a0.tmps[0]? = some (.pointer (some ⟨Pb, 0, none⟩))) : StepI Tryz.prog ops Q a0 kbDS I (GVt (kbGS Pb X Y i st cl peer)) 0 { dst := some 5, op := .move (.tmp 0), type := ty, pos := pos, after := af, guard := none } := by
 intro a w hout hI hdep K hK
 rw [if_pos (by simp [Region.wanted])]
 have o0w := (hout 0 de_).trans o0
 clear hout hdep
 clear o0
 go_simp
 exact hK _ _ (gvt_of rfl rs_) hI
theorem kb6 (o1 : a0.tmps[1]? = some (.int .i64 ((i : Nat) : Int))) : StepI Tryz.prog ops Q a0 kbDS I (GVt (kbGS Pb X Y i st cl peer)) 1 { dst := some 6, op := .move (.tmp 1), type := ty, pos := pos, after := af, guard := none } := by
 intro a w hout hI hdep K hK
 rw [if_pos (by simp [Region.wanted])]
 have o1w := (hout 1 de_).trans o1
 clear hout hdep
 clear o1
 go_simp
 exact hK _ _ (gvt_of rfl rs_) hI
theorem kb7 (h5 : (⟨0, .data⟩ : Edge) ∈ af.toList) : StepI Tryz.prog ops Q a0 kbDS I (GVt (kbGS Pb X Y i st cl peer)) 2 { dst := some 7, op := .nilCheck (.tmp 5), type := ty, pos := pos, after := af, guard := none } := by
 intro a w hout hI hdep K hK
 rw [if_pos (by simp [Region.wanted])]
 obtain ⟨v5, g5, e5⟩ := hdep ⟨0, .data⟩ h5 rfl
 have e5 := e5 5 rfl
 have g5 := g5 _ rfl
 subst g5
 clear hout hdep
 go_simp
 exact hK _ _ (gvt_of rfl rs_) hI
theorem kb8 (h7 : (⟨2, .data⟩ : Edge) ∈ af.toList) : StepI Tryz.prog ops Q a0 kbDS I (GVt (kbGS Pb X Y i st cl peer)) 3 { dst := some 8, op := .fieldAddr 49 (.tmp 7) 0, type := ty, pos := pos, after := af, guard := none } := by
 intro a w hout hI hdep K hK
 rw [if_pos (by simp [Region.wanted])]
 obtain ⟨v7, g7, e7⟩ := hdep ⟨2, .data⟩ h7 rfl
 have e7 := e7 7 rfl
 have g7 := g7 _ rfl
 subst g7
 clear hout hdep
 go_simp
 exact hK _ _ (gvt_of rfl rs_) hI
theorem kb9 (h8 : (⟨3, .data⟩ : Edge) ∈ af.toList) (h6 : (⟨1, .data⟩ : Edge) ∈ af.toList) (hi : i < 2) : StepI Tryz.prog ops Q a0 kbDS I (GVt (kbGS Pb X Y i st cl peer)) 4 { dst := some 9, op := .indexAddr 44 (.tmp 8) (.tmp 6), type := ty, pos := pos, after := af, guard := none } := by
 intro a w hout hI hdep K hK
 rw [if_pos (by simp [Region.wanted])]
 obtain ⟨v8, g8, e8⟩ := hdep ⟨3, .data⟩ h8 rfl
 have e8 := e8 8 rfl
 have g8 := g8 _ rfl
 subst g8
 obtain ⟨v6, g6, e6⟩ := hdep ⟨1, .data⟩ h6 rfl
 have e6 := e6 6 rfl
 have g6 := g6 _ rfl
 subst g6
 clear hout hdep
 have hi1 : (i : Int) < 2 := by omega
 have hi0 : (0 : Int) ≤ i := by omega
 go_simp
 exact hK _ _ (gvt_of rfl rs_) hI
theorem kb10 (h9 : (⟨4, .data⟩ : Edge) ∈ af.toList) (hL : ∀ w, I w → w.cell? ⟨Pb, i, none⟩ = some (.pointer (some ⟨X, 0, none⟩))) : StepI Tryz.prog ops Q a0 kbDS I (GVt (kbGS Pb X Y i st cl peer)) 5 { dst := some 10, op := .load 43 (.tmp 9), type := ty, pos := pos, after := af, guard := none } := by
 intro a w hout hI hdep K hK
 rw [if_pos (by simp [Region.wanted])]
 obtain ⟨v9, g9, e9⟩ := hdep ⟨4, .data⟩ h9 rfl
 have e9 := e9 9 rfl
 have g9 := g9 _ rfl
 subst g9
 have hLw := hL w hI
 clear hout hdep
 go_simp
 exact hK _ _ (gvt_of rfl rs_) hI
theorem kb11 (h10 : (⟨5, .data⟩ : Edge) ∈ af.toList) (hC : ∀ w, I w → Calls Tryz.prog 15 #[.pointer (some ⟨X, 0, none⟩)] w fun e w' => e = .returned (.bool false) ∧ I w') : StepI Tryz.prog ops Q a0 kbDS I (GVt (kbGS Pb X Y i st cl peer)) 6 { dst := some 11, op := .call { callee := .value (.func 15), args := #[.tmp 10], argTypes := at_ }, type := ty, pos := pos, after := af, guard := none } := by
 intro a w hout hI hdep K hK
 rw [if_pos (by simp [Region.wanted])]
 obtain ⟨v10, g10, e10⟩ := hdep ⟨5, .data⟩ h10 rfl
 have e10 := e10 10 rfl
 have g10 := g10 _ rfl
 subst g10
 clear hout hdep
 go_simp
 refine (hC w hI).mono ?_
 rintro e w1 ⟨rfl, hI1⟩
 exact hK _ _ (gvt_of rfl rfl) hI1
theorem kb12 (o0 : a0.tmps[0]? = some (.pointer (some ⟨Pb, 0, none⟩))) : StepI Tryz.prog ops Q a0 kbDS I (GVt (kbGS Pb X Y i st cl peer)) 7 { dst := some 12, op := .move (.tmp 0), type := ty, pos := pos, after := af, guard := none } := by
 intro a w hout hI hdep K hK
 rw [if_pos (by simp [Region.wanted])]
 have o0w := (hout 0 de_).trans o0
 clear hout hdep
 clear o0
 go_simp
 exact hK _ _ (gvt_of rfl rs_) hI
theorem kb13 (o1 : a0.tmps[1]? = some (.int .i64 ((i : Nat) : Int))) : StepI Tryz.prog ops Q a0 kbDS I (GVt (kbGS Pb X Y i st cl peer)) 8 { dst := some 13, op := .move (.tmp 1), type := ty, pos := pos, after := af, guard := none } := by
 intro a w hout hI hdep K hK
 rw [if_pos (by simp [Region.wanted])]
 have o1w := (hout 1 de_).trans o1
 clear hout hdep
 clear o1
 go_simp
 exact hK _ _ (gvt_of rfl rs_) hI
theorem kb14 (h12 : (⟨7, .data⟩ : Edge) ∈ af.toList) : StepI Tryz.prog ops Q a0 kbDS I (GVt (kbGS Pb X Y i st cl peer)) 9 { dst := some 14, op := .nilCheck (.tmp 12), type := ty, pos := pos, after := af, guard := none } := by
 intro a w hout hI hdep K hK
 rw [if_pos (by simp [Region.wanted])]
 obtain ⟨v12, g12, e12⟩ := hdep ⟨7, .data⟩ h12 rfl
 have e12 := e12 12 rfl
 have g12 := g12 _ rfl
 subst g12
 clear hout hdep
 go_simp
 exact hK _ _ (gvt_of rfl rs_) hI
theorem kb15 (h14 : (⟨9, .data⟩ : Edge) ∈ af.toList) : StepI Tryz.prog ops Q a0 kbDS I (GVt (kbGS Pb X Y i st cl peer)) 10 { dst := some 15, op := .fieldAddr 49 (.tmp 14) 1, type := ty, pos := pos, after := af, guard := none } := by
 intro a w hout hI hdep K hK
 rw [if_pos (by simp [Region.wanted])]
 obtain ⟨v14, g14, e14⟩ := hdep ⟨9, .data⟩ h14 rfl
 have e14 := e14 14 rfl
 have g14 := g14 _ rfl
 subst g14
 clear hout hdep
 go_simp
 exact hK _ _ (gvt_of rfl rs_) hI
theorem kb16 (h15 : (⟨10, .data⟩ : Edge) ∈ af.toList) (h13 : (⟨8, .data⟩ : Edge) ∈ af.toList) (hi : i < 2) : StepI Tryz.prog ops Q a0 kbDS I (GVt (kbGS Pb X Y i st cl peer)) 11 { dst := some 16, op := .indexAddr 46 (.tmp 15) (.tmp 13), type := ty, pos := pos, after := af, guard := none } := by
 intro a w hout hI hdep K hK
 rw [if_pos (by simp [Region.wanted])]
 obtain ⟨v15, g15, e15⟩ := hdep ⟨10, .data⟩ h15 rfl
 have e15 := e15 15 rfl
 have g15 := g15 _ rfl
 subst g15
 obtain ⟨v13, g13, e13⟩ := hdep ⟨8, .data⟩ h13 rfl
 have e13 := e13 13 rfl
 have g13 := g13 _ rfl
 subst g13
 clear hout hdep
 have hi1 : (i : Int) < 2 := by omega
 have hi0 : (0 : Int) ≤ i := by omega
 go_simp
 exact hK _ _ (gvt_of rfl rs_) hI
theorem kb17 (h16 : (⟨11, .data⟩ : Edge) ∈ af.toList) (hL : ∀ w, I w → w.cell? ⟨Pb, 2 + i, none⟩ = some (.pointer (some ⟨Y, 0, none⟩))) : StepI Tryz.prog ops Q a0 kbDS I (GVt (kbGS Pb X Y i st cl peer)) 12 { dst := some 17, op := .load 45 (.tmp 16), type := ty, pos := pos, after := af, guard := none } := by
 intro a w hout hI hdep K hK
 rw [if_pos (by simp [Region.wanted])]
 obtain ⟨v16, g16, e16⟩ := hdep ⟨11, .data⟩ h16 rfl
 have e16 := e16 16 rfl
 have g16 := g16 _ rfl
 subst g16
 have hLw := hL w hI
 clear hout hdep
 go_simp
 exact hK _ _ (gvt_of rfl rs_) hI
theorem kb18 (h17 : (⟨12, .data⟩ : Edge) ∈ af.toList) : StepI Tryz.prog ops Q a0 kbDS I (GVt (kbGS Pb X Y i st cl peer)) 13 { dst := some 18, op := .nilCheck (.tmp 17), type := ty, pos := pos, after := af, guard := none } := by
 intro a w hout hI hdep K hK
 rw [if_pos (by simp [Region.wanted])]
 obtain ⟨v17, g17, e17⟩ := hdep ⟨12, .data⟩ h17 rfl
 have e17 := e17 17 rfl
 have g17 := g17 _ rfl
 subst g17
 clear hout hdep
 go_simp
 exact hK _ _ (gvt_of rfl rs_) hI
theorem kb19 (h18 : (⟨13, .data⟩ : Edge) ∈ af.toList) : StepI Tryz.prog ops Q a0 kbDS I (GVt (kbGS Pb X Y i st cl peer)) 14 { dst := some 19, op := .fieldAddr 85 (.tmp 18) 3, type := ty, pos := pos, after := af, guard := none } := by
 intro a w hout hI hdep K hK
 rw [if_pos (by simp [Region.wanted])]
 obtain ⟨v18, g18, e18⟩ := hdep ⟨13, .data⟩ h18 rfl
 have e18 := e18 18 rfl
 have g18 := g18 _ rfl
 subst g18
 clear hout hdep
 go_simp
 exact hK _ _ (gvt_of rfl rs_) hI
theorem kb20 (h19 : (⟨14, .data⟩ : Edge) ∈ af.toList) (hL : ∀ w, I w → w.cell? ⟨Y, 3, none⟩ = some (.int .i64 st)) : StepI Tryz.prog ops Q a0 kbDS I (GVt (kbGS Pb X Y i st cl peer)) 15 { dst := some 20, op := .load 3 (.tmp 19), type := ty, pos := pos, after := af, guard := none } := by
 intro a w hout hI hdep K hK
 rw [if_pos (by simp [Region.wanted])]
 obtain ⟨v19, g19, e19⟩ := hdep ⟨14, .data⟩ h19 rfl
 have e19 := e19 19 rfl
 have g19 := g19 _ rfl
 subst g19
 have hLw := hL w hI
 clear hout hdep
 go_simp
 exact hK _ _ (gvt_of rfl rs_) hI
theorem kb21 (h20 : (⟨15, .data⟩ : Edge) ∈ af.toList) (hst : (st == 3) = false) : StepI Tryz.prog ops Q a0 kbDS I (GVt (kbGS Pb X Y i st cl peer)) 16 { dst := some 21, op := .binOp .eql 3 (.tmp 20) (.const (.int .i64 3)) 3, type := ty, pos := pos, after := af, guard := none } := by
 intro a w hout hI hdep K hK
 rw [if_pos (by simp [Region.wanted])]
 obtain ⟨v20, g20, e20⟩ := hdep ⟨15, .data⟩ h20 rfl
 have e20 := e20 20 rfl
 have g20 := g20 _ rfl
 subst g20
 clear hout hdep
 go_simp
 exact hK _ _ (gvt_of rfl rs_) hI
theorem kb22 (h21 : (⟨16, .data⟩ : Edge) ∈ af.toList) : StepI Tryz.prog ops Q a0 kbDS I (GVt (kbGS Pb X Y i st cl peer)) 17 { dst := some 22, op := .move (.tmp 21), type := ty, pos := pos, after := af, guard := none } := by
 intro a w hout hI hdep K hK
 rw [if_pos (by simp [Region.wanted])]
 obtain ⟨v21, g21, e21⟩ := hdep ⟨16, .data⟩ h21 rfl
 have e21 := e21 21 rfl
 have g21 := g21 _ rfl
 subst g21
 clear hout hdep
 go_simp
 exact hK _ _ (gvt_of rfl rs_) hI
theorem kb23 (hg : (⟨17, .guard⟩ : Edge) ∈ af.toList) (hgo : ops[17]?.bind (·.dst) = some 22) : StepI Tryz.prog ops Q a0 kbDS I (GVt (kbGS Pb X Y i st cl peer)) 18 { dst := some 23, op := .move (.tmp 0), type := ty, pos := pos, after := af, guard := some (17, true) } := by
 intro a w hout hI hdep K hK
 obtain ⟨vg, gg, eg⟩ := hdep ⟨17, .guard⟩ hg rfl
 have eg := eg 22 rfl
 have gg := gg _ rfl
 subst gg
 have hy := yielded_ist hgo eg
 rw [if_neg (by simp [Region.wanted, hy])]
 exact hK _ _ (gvt_none rfl) hI
theorem kb24 (hg : (⟨17, .guard⟩ : Edge) ∈ af.toList) (hgo : ops[17]?.bind (·.dst) = some 22) : StepI Tryz.prog ops Q a0 kbDS I (GVt (kbGS Pb X Y i st cl peer)) 19 { dst := some 24, op := .move (.tmp 1), type := ty, pos := pos, after := af, guard := some (17, true) } := by
 intro a w hout hI hdep K hK
 obtain ⟨vg, gg, eg⟩ := hdep ⟨17, .guard⟩ hg rfl
 have eg := eg 22 rfl
 have gg := gg _ rfl
 subst gg
 have hy := yielded_ist hgo eg
 rw [if_neg (by simp [Region.wanted, hy])]
 exact hK _ _ (gvt_none rfl) hI
theorem kb25 (hg : (⟨17, .guard⟩ : Edge) ∈ af.toList) (hgo : ops[17]?.bind (·.dst) = some 22) : StepI Tryz.prog ops Q a0 kbDS I (GVt (kbGS Pb X Y i st cl peer)) 20 { dst := some 25, op := .nilCheck (.tmp 23), type := ty, pos := pos, after := af, guard := some (17, true) } := by
 intro a w hout hI hdep K hK
 obtain ⟨vg, gg, eg⟩ := hdep ⟨17, .guard⟩ hg rfl
 have eg := eg 22 rfl
 have gg := gg _ rfl
 subst gg
 have hy := yielded_ist hgo eg
 rw [if_neg (by simp [Region.wanted, hy])]
 exact hK _ _ (gvt_none rfl) hI
theorem kb26 (hg : (⟨17, .guard⟩ : Edge) ∈ af.toList) (hgo : ops[17]?.bind (·.dst) = some 22) : StepI Tryz.prog ops Q a0 kbDS I (GVt (kbGS Pb X Y i st cl peer)) 21 { dst := some 26, op := .fieldAddr 49 (.tmp 25) 1, type := ty, pos := pos, after := af, guard := some (17, true) } := by
 intro a w hout hI hdep K hK
 obtain ⟨vg, gg, eg⟩ := hdep ⟨17, .guard⟩ hg rfl
 have eg := eg 22 rfl
 have gg := gg _ rfl
 subst gg
 have hy := yielded_ist hgo eg
 rw [if_neg (by simp [Region.wanted, hy])]
 exact hK _ _ (gvt_none rfl) hI
theorem kb27 (hg : (⟨17, .guard⟩ : Edge) ∈ af.toList) (hgo : ops[17]?.bind (·.dst) = some 22) : StepI Tryz.prog ops Q a0 kbDS I (GVt (kbGS Pb X Y i st cl peer)) 22 { dst := some 27, op := .indexAddr 46 (.tmp 26) (.tmp 24), type := ty, pos := pos, after := af, guard := some (17, true) } := by
 intro a w hout hI hdep K hK
 obtain ⟨vg, gg, eg⟩ := hdep ⟨17, .guard⟩ hg rfl
 have eg := eg 22 rfl
 have gg := gg _ rfl
 subst gg
 have hy := yielded_ist hgo eg
 rw [if_neg (by simp [Region.wanted, hy])]
 exact hK _ _ (gvt_none rfl) hI
theorem kb28 (hg : (⟨17, .guard⟩ : Edge) ∈ af.toList) (hgo : ops[17]?.bind (·.dst) = some 22) : StepI Tryz.prog ops Q a0 kbDS I (GVt (kbGS Pb X Y i st cl peer)) 23 { dst := some 28, op := .load 45 (.tmp 27), type := ty, pos := pos, after := af, guard := some (17, true) } := by
 intro a w hout hI hdep K hK
 obtain ⟨vg, gg, eg⟩ := hdep ⟨17, .guard⟩ hg rfl
 have eg := eg 22 rfl
 have gg := gg _ rfl
 subst gg
 have hy := yielded_ist hgo eg
 rw [if_neg (by simp [Region.wanted, hy])]
 exact hK _ _ (gvt_none rfl) hI
theorem kb29 (hg : (⟨17, .guard⟩ : Edge) ∈ af.toList) (hgo : ops[17]?.bind (·.dst) = some 22) : StepI Tryz.prog ops Q a0 kbDS I (GVt (kbGS Pb X Y i st cl peer)) 24 { dst := some 29, op := .nilCheck (.tmp 28), type := ty, pos := pos, after := af, guard := some (17, true) } := by
 intro a w hout hI hdep K hK
 obtain ⟨vg, gg, eg⟩ := hdep ⟨17, .guard⟩ hg rfl
 have eg := eg 22 rfl
 have gg := gg _ rfl
 subst gg
 have hy := yielded_ist hgo eg
 rw [if_neg (by simp [Region.wanted, hy])]
 exact hK _ _ (gvt_none rfl) hI
theorem kb30 (hg : (⟨17, .guard⟩ : Edge) ∈ af.toList) (hgo : ops[17]?.bind (·.dst) = some 22) : StepI Tryz.prog ops Q a0 kbDS I (GVt (kbGS Pb X Y i st cl peer)) 25 { dst := some 30, op := .fieldAddr 85 (.tmp 29) 5, type := ty, pos := pos, after := af, guard := some (17, true) } := by
 intro a w hout hI hdep K hK
 obtain ⟨vg, gg, eg⟩ := hdep ⟨17, .guard⟩ hg rfl
 have eg := eg 22 rfl
 have gg := gg _ rfl
 subst gg
 have hy := yielded_ist hgo eg
 rw [if_neg (by simp [Region.wanted, hy])]
 exact hK _ _ (gvt_none rfl) hI
theorem kb31 (hg : (⟨17, .guard⟩ : Edge) ∈ af.toList) (hgo : ops[17]?.bind (·.dst) = some 22) : StepI Tryz.prog ops Q a0 kbDS I (GVt (kbGS Pb X Y i st cl peer)) 26 { dst := some 31, op := .load 4 (.tmp 30), type := ty, pos := pos, after := af, guard := some (17, true) } := by
 intro a w hout hI hdep K hK
 obtain ⟨vg, gg, eg⟩ := hdep ⟨17, .guard⟩ hg rfl
 have eg := eg 22 rfl
 have gg := gg _ rfl
 subst gg
 have hy := yielded_ist hgo eg
 rw [if_neg (by simp [Region.wanted, hy])]
 exact hK _ _ (gvt_none rfl) hI
theorem kb32 (hg : (⟨17, .guard⟩ : Edge) ∈ af.toList) (hgo : ops[17]?.bind (·.dst) = some 22) : StepI Tryz.prog ops Q a0 kbDS I (GVt (kbGS Pb X Y i st cl peer)) 27 { dst := some 32, op := .unOp .not 4 (.tmp 31), type := ty, pos := pos, after := af, guard := some (17, true) } := by
 intro a w hout hI hdep K hK
 obtain ⟨vg, gg, eg⟩ := hdep ⟨17, .guard⟩ hg rfl
 have eg := eg 22 rfl
 have gg := gg _ rfl
 subst gg
 have hy := yielded_ist hgo eg
 rw [if_neg (by simp [Region.wanted, hy])]
 exact hK _ _ (gvt_none rfl) hI
theorem kb33 (h22 : (⟨17, .data⟩ : Edge) ∈ af.toList) : StepI Tryz.prog ops Q a0 kbDS I (GVt (kbGS Pb X Y i st cl peer)) 28 { dst := some 33, op := .pick (.tmp 22) (.tmp 32) (.const (.bool false)), type := ty, pos := pos, after := af, guard := none } := by
 intro a w hout hI hdep K hK
 rw [if_pos (by simp [Region.wanted])]
 obtain ⟨v22, g22, e22⟩ := hdep ⟨17, .data⟩ h22 rfl
 have e22 := e22 22 rfl
 have g22 := g22 _ rfl
 subst g22
 clear hout hdep
 go_simp
 exact hK _ _ (gvt_of rfl rs_) hI
theorem kb34 (h11 : (⟨6, .data⟩ : Edge) ∈ af.toList) (h33 : (⟨28, .data⟩ : Edge) ∈ af.toList) : StepI Tryz.prog ops Q a0 kbDS I (GVt (kbGS Pb X Y i st cl peer)) 29 { dst := some 34, op := .binOp .eql 4 (.tmp 11) (.tmp 33) 4, type := ty, pos := pos, after := af, guard := none } := by
 intro a w hout hI hdep K hK
 rw [if_pos (by simp [Region.wanted])]
 obtain ⟨v11, g11, e11⟩ := hdep ⟨6, .data⟩ h11 rfl
 have e11 := e11 11 rfl
 have g11 := g11 _ rfl
 subst g11
 obtain ⟨v33, g33, e33⟩ := hdep ⟨28, .data⟩ h33 rfl
 have e33 := e33 33 rfl
 have g33 := g33 _ rfl
 subst g33
 clear hout hdep
 go_simp
 exact hK _ _ (gvt_of rfl rs_) hI
theorem kb35 (h34 : (⟨29, .data⟩ : Edge) ∈ af.toList) : StepI Tryz.prog ops Q a0 kbDS I (GVt (kbGS Pb X Y i st cl peer)) 30 { dst := some 35, op := .move (.tmp 34), type := ty, pos := pos, after := af, guard := none } := by
 intro a w hout hI hdep K hK
 rw [if_pos (by simp [Region.wanted])]
 obtain ⟨v34, g34, e34⟩ := hdep ⟨29, .data⟩ h34 rfl
 have e34 := e34 34 rfl
 have g34 := g34 _ rfl
 subst g34
 clear hout hdep
 go_simp
 exact hK _ _ (gvt_of rfl rs_) hI
theorem kb36 (hg : (⟨30, .guard⟩ : Edge) ∈ af.toList) (hgo : ops[30]?.bind (·.dst) = some 35) (o0 : a0.tmps[0]? = some (.pointer (some ⟨Pb, 0, none⟩))) : StepI Tryz.prog ops Q a0 kbDS I (GVt (kbGS Pb X Y i st cl peer)) 31 { dst := some 36, op := .move (.tmp 0), type := ty, pos := pos, after := af, guard := some (30, true) } := by
 intro a w hout hI hdep K hK
 obtain ⟨vg, gg, eg⟩ := hdep ⟨30, .guard⟩ hg rfl
 have eg := eg 35 rfl
 have gg := gg _ rfl
 subst gg
 have hy := yielded_ist hgo eg
 rw [if_pos (by simp [Region.wanted, hy])]
 have o0w := (hout 0 de_).trans o0
 clear hout hdep hy
 clear o0
 go_simp
 exact hK _ _ (gvt_of rfl rs_) hI
theorem kb37 (hg : (⟨30, .guard⟩ : Edge) ∈ af.toList) (hgo : ops[30]?.bind (·.dst) = some 35) (o1 : a0.tmps[1]? = some (.int .i64 ((i : Nat) : Int))) : StepI Tryz.prog ops Q a0 kbDS I (GVt (kbGS Pb X Y i st cl peer)) 32 { dst := some 37, op := .move (.tmp 1), type := ty, pos := pos, after := af, guard := some (30, true) } := by
 intro a w hout hI hdep K hK
 obtain ⟨vg, gg, eg⟩ := hdep ⟨30, .guard⟩ hg rfl
 have eg := eg 35 rfl
 have gg := gg _ rfl
 subst gg
 have hy := yielded_ist hgo eg
 rw [if_pos (by simp [Region.wanted, hy])]
 have o1w := (hout 1 de_).trans o1
 clear hout hdep hy
 clear o1
 go_simp
 exact hK _ _ (gvt_of rfl rs_) hI
theorem kb38 (hg : (⟨30, .guard⟩ : Edge) ∈ af.toList) (hgo : ops[30]?.bind (·.dst) = some 35) (h36 : (⟨31, .data⟩ : Edge) ∈ af.toList) : StepI Tryz.prog ops Q a0 kbDS I (GVt (kbGS Pb X Y i st cl peer)) 33 { dst := some 38, op := .nilCheck (.tmp 36), type := ty, pos := pos, after := af, guard := some (30, true) } := by
 intro a w hout hI hdep K hK
 obtain ⟨vg, gg, eg⟩ := hdep ⟨30, .guard⟩ hg rfl
 have eg := eg 35 rfl
 have gg := gg _ rfl
 subst gg
 have hy := yielded_ist hgo eg
 rw [if_pos (by simp [Region.wanted, hy])]
 obtain ⟨v36, g36, e36⟩ := hdep ⟨31, .data⟩ h36 rfl
 have e36 := e36 36 rfl
 have g36 := g36 _ rfl
 subst g36
 clear hout hdep hy
 go_simp
 exact hK _ _ (gvt_of rfl rs_) hI
theorem kb39 (hg : (⟨30, .guard⟩ : Edge) ∈ af.toList) (hgo : ops[30]?.bind (·.dst) = some 35) (h38 : (⟨33, .data⟩ : Edge) ∈ af.toList) : StepI Tryz.prog ops Q a0 kbDS I (GVt (kbGS Pb X Y i st cl peer)) 34 { dst := some 39, op := .fieldAddr 49 (.tmp 38) 0, type := ty, pos := pos, after := af, guard := some (30, true) } := by
 intro a w hout hI hdep K hK
 obtain ⟨vg, gg, eg⟩ := hdep ⟨30, .guard⟩ hg rfl
 have eg := eg 35 rfl
 have gg := gg _ rfl
 subst gg
 have hy := yielded_ist hgo eg
 rw [if_pos (by simp [Region.wanted, hy])]
 obtain ⟨v38, g38, e38⟩ := hdep ⟨33, .data⟩ h38 rfl
 have e38 := e38 38 rfl
 have g38 := g38 _ rfl
 subst g38
 clear hout hdep hy
 go_simp
 exact hK _ _ (gvt_of rfl rs_) hI
theorem kb40 (hg : (⟨30, .guard⟩ : Edge) ∈ af.toList) (hgo : ops[30]?.bind (·.dst) = some 35) (h39 : (⟨34, .data⟩ : Edge) ∈ af.toList) (h37 : (⟨32, .data⟩ : Edge) ∈ af.toList) (hi : i < 2) : StepI Tryz.prog ops Q a0 kbDS I (GVt (kbGS Pb X Y i st cl peer)) 35 { dst := some 40, op := .indexAddr 44 (.tmp 39) (.tmp 37), type := ty, pos := pos, after := af, guard := some (30, true) } := by
 intro a w hout hI hdep K hK
 obtain ⟨vg, gg, eg⟩ := hdep ⟨30, .guard⟩ hg rfl
 have eg := eg 35 rfl
 have gg := gg _ rfl
 subst gg
 have hy := yielded_ist hgo eg
 rw [if_pos (by simp [Region.wanted, hy])]
 obtain ⟨v39, g39, e39⟩ := hdep ⟨34, .data⟩ h39 rfl
 have e39 := e39 39 rfl
 have g39 := g39 _ rfl
 subst g39
 obtain ⟨v37, g37, e37⟩ := hdep ⟨32, .data⟩ h37 rfl
 have e37 := e37 37 rfl
 have g37 := g37 _ rfl
 subst g37
 clear hout hdep hy
 have hi1 : (i : Int) < 2 := by omega
 have hi0 : (0 : Int) ≤ i := by omega
 go_simp
 exact hK _ _ (gvt_of rfl rs_) hI
theorem kb41 (hg : (⟨30, .guard⟩ : Edge) ∈ af.toList) (hgo : ops[30]?.bind (·.dst) = some 35) (h40 : (⟨35, .data⟩ : Edge) ∈ af.toList) (hL : ∀ w, I w → w.cell? ⟨Pb, i, none⟩ = some (.pointer (some ⟨X, 0, none⟩))) : StepI Tryz.prog ops Q a0 kbDS I (GVt (kbGS Pb X Y i st cl peer)) 36 { dst := some 41, op := .load 43 (.tmp 40), type := ty, pos := pos, after := af, guard := some (30, true) } := by
 intro a w hout hI hdep K hK
 obtain ⟨vg, gg, eg⟩ := hdep ⟨30, .guard⟩ hg rfl
 have eg := eg 35 rfl
 have gg := gg _ rfl
 subst gg
 have hy := yielded_ist hgo eg
 rw [if_pos (by simp [Region.wanted, hy])]
 obtain ⟨v40, g40, e40⟩ := hdep ⟨35, .data⟩ h40 rfl
 have e40 := e40 40 rfl
 have g40 := g40 _ rfl
 subst g40
 have hLw := hL w hI
 clear hout hdep hy
 go_simp
 exact hK _ _ (gvt_of rfl rs_) hI
theorem kb42 (hg : (⟨30, .guard⟩ : Edge) ∈ af.toList) (hgo : ops[30]?.bind (·.dst) = some 35) (h41 : (⟨36, .data⟩ : Edge) ∈ af.toList) (hC : ∀ w, I w → Calls Tryz.prog 16 #[.pointer (some ⟨X, 0, none⟩)] w fun e w' => e = .returned (.string (bs peer)) ∧ I w') : StepI Tryz.prog ops Q a0 kbDS I (GVt (kbGS Pb X Y i st cl peer)) 37 { dst := some 42, op := .call { callee := .value (.func 16), args := #[.tmp 41], argTypes := at_ }, type := ty, pos := pos, after := af, guard := some (30, true) } := by
 intro a w hout hI hdep K hK
 obtain ⟨vg, gg, eg⟩ := hdep ⟨30, .guard⟩ hg rfl
 have eg := eg 35 rfl
 have gg := gg _ rfl
 subst gg
 have hy := yielded_ist hgo eg
 rw [if_pos (by simp [Region.wanted, hy])]
 obtain ⟨v41, g41, e41⟩ := hdep ⟨36, .data⟩ h41 rfl
 have e41 := e41 41 rfl
 have g41 := g41 _ rfl
 subst g41
 clear hout hdep hy
 go_simp
 refine (hC w hI).mono ?_
 rintro e w1 ⟨rfl, hI1⟩
 exact hK _ _ (gvt_of rfl rfl) hI1
theorem kb43 (hg : (⟨30, .guard⟩ : Edge) ∈ af.toList) (hgo : ops[30]?.bind (·.dst) = some 35) (o0 : a0.tmps[0]? = some (.pointer (some ⟨Pb, 0, none⟩))) : StepI Tryz.prog ops Q a0 kbDS I (GVt (kbGS Pb X Y i st cl peer)) 38 { dst := some 43, op := .move (.tmp 0), type := ty, pos := pos, after := af, guard := some (30, true) } := by
 intro a w hout hI hdep K hK
 obtain ⟨vg, gg, eg⟩ := hdep ⟨30, .guard⟩ hg rfl
 have eg := eg 35 rfl
 have gg := gg _ rfl
 subst gg
 have hy := yielded_ist hgo eg
 rw [if_pos (by simp [Region.wanted, hy])]
 have o0w := (hout 0 de_).trans o0
 clear hout hdep hy
 clear o0
 go_simp
 exact hK _ _ (gvt_of rfl rs_) hI
theorem kb44 (hg : (⟨30, .guard⟩ : Edge) ∈ af.toList) (hgo : ops[30]?.bind (·.dst) = some 35) (o1 : a0.tmps[1]? = some (.int .i64 ((i : Nat) : Int))) : StepI Tryz.prog ops Q a0 kbDS I (GVt (kbGS Pb X Y i st cl peer)) 39 { dst := some 44, op := .move (.tmp 1), type := ty, pos := pos, after := af, guard := some (30, true) } := by
 intro a w hout hI hdep K hK
 obtain ⟨vg, gg, eg⟩ := hdep ⟨30, .guard⟩ hg rfl
 have eg := eg 35 rfl
 have gg := gg _ rfl
 subst gg
 have hy := yielded_ist hgo eg
 rw [if_pos (by simp [Region.wanted, hy])]
 have o1w := (hout 1 de_).trans o1
 clear hout hdep hy
 clear o1
 go_simp
 exact hK _ _ (gvt_of rfl rs_) hI
theorem kb45 (hg : (⟨30, .guard⟩ : Edge) ∈ af.toList) (hgo : ops[30]?.bind (·.dst) = some 35) (h43 : (⟨38, .data⟩ : Edge) ∈ af.toList) : StepI Tryz.prog ops Q a0 kbDS I (GVt (kbGS Pb X Y i st cl peer)) 40 { dst := some 45, op := .nilCheck (.tmp 43), type := ty, pos := pos, after := af, guard := some (30, true) } := by
 intro a w hout hI hdep K hK
 obtain ⟨vg, gg, eg⟩ := hdep ⟨30, .guard⟩ hg rfl
 have eg := eg 35 rfl
 have gg := gg _ rfl
 subst gg
 have hy := yielded_ist hgo eg
 rw [if_pos (by simp [Region.wanted, hy])]
 obtain ⟨v43, g43, e43⟩ := hdep ⟨38, .data⟩ h43 rfl
 have e43 := e43 43 rfl
 have g43 := g43 _ rfl
 subst g43
 clear hout hdep hy
 go_simp
 exact hK _ _ (gvt_of rfl rs_) hI
theorem kb46 (hg : (⟨30, .guard⟩ : Edge) ∈ af.toList) (hgo : ops[30]?.bind (·.dst) = some 35) (h45 : (⟨40, .data⟩ : Edge) ∈ af.toList) : StepI Tryz.prog ops Q a0 kbDS I (GVt (kbGS Pb X Y i st cl peer)) 41 { dst := some 46, op := .fieldAddr 49 (.tmp 45) 1, type := ty, pos := pos, after := af, guard := some (30, true) } := by
 intro a w hout hI hdep K hK
 obtain ⟨vg, gg, eg⟩ := hdep ⟨30, .guard⟩ hg rfl
 have eg := eg 35 rfl
 have gg := gg _ rfl
 subst gg
 have hy := yielded_ist hgo eg
 rw [if_pos (by simp [Region.wanted, hy])]
 obtain ⟨v45, g45, e45⟩ := hdep ⟨40, .data⟩ h45 rfl
 have e45 := e45 45 rfl
 have g45 := g45 _ rfl
 subst g45
 clear hout hdep hy
 go_simp
 exact hK _ _ (gvt_of rfl rs_) hI
theorem kb47 (hg : (⟨30, .guard⟩ : Edge) ∈ af.toList) (hgo : ops[30]?.bind (·.dst) = some 35) (h46 : (⟨41, .data⟩ : Edge) ∈ af.toList) (h44 : (⟨39, .data⟩ : Edge) ∈ af.toList) (hi : i < 2) : StepI Tryz.prog ops Q a0 kbDS I (GVt (kbGS Pb X Y i st cl peer)) 42 { dst := some 47, op := .indexAddr 46 (.tmp 46) (.tmp 44), type := ty, pos := pos, after := af, guard := some (30, true) } := by
 intro a w hout hI hdep K hK
 obtain ⟨vg, gg, eg⟩ := hdep ⟨30, .guard⟩ hg rfl
 have eg := eg 35 rfl
 have gg := gg _ rfl
 subst gg
 have hy := yielded_ist hgo eg
 rw [if_pos (by simp [Region.wanted, hy])]
 obtain ⟨v46, g46, e46⟩ := hdep ⟨41, .data⟩ h46 rfl
 have e46 := e46 46 rfl
 have g46 := g46 _ rfl
 subst g46
 obtain ⟨v44, g44, e44⟩ := hdep ⟨39, .data⟩ h44 rfl
 have e44 := e44 44 rfl
 have g44 := g44 _ rfl
 subst g44
 clear hout hdep hy
 have hi1 : (i : Int) < 2 := by omega
 have hi0 : (0 : Int) ≤ i := by omega
 go_simp
 exact hK _ _ (gvt_of rfl rs_) hI
theorem kb48 (hg : (⟨30, .guard⟩ : Edge) ∈ af.toList) (hgo : ops[30]?.bind (·.dst) = some 35) (h47 : (⟨42, .data⟩ : Edge) ∈ af.toList) (hL : ∀ w, I w → w.cell? ⟨Pb, 2 + i, none⟩ = some (.pointer (some ⟨Y, 0, none⟩))) : StepI Tryz.prog ops Q a0 kbDS I (GVt (kbGS Pb X Y i st cl peer)) 43 { dst := some 48, op := .load 45 (.tmp 47), type := ty, pos := pos, after := af, guard := some (30, true) } := by
 intro a w hout hI hdep K hK
 obtain ⟨vg, gg, eg⟩ := hdep ⟨30, .guard⟩ hg rfl
 have eg := eg 35 rfl
 have gg := gg _ rfl
 subst gg
 have hy := yielded_ist hgo eg
 rw [if_pos (by simp [Region.wanted, hy])]
 obtain ⟨v47, g47, e47⟩ := hdep ⟨42, .data⟩ h47 rfl
 have e47 := e47 47 rfl
 have g47 := g47 _ rfl
 subst g47
 have hLw := hL w hI
 clear hout hdep hy
 go_simp
 exact hK _ _ (gvt_of rfl rs_) hI
theorem kb49 (hg : (⟨30, .guard⟩ : Edge) ∈ af.toList) (hgo : ops[30]?.bind (·.dst) = some 35) (h48 : (⟨43, .data⟩ : Edge) ∈ af.toList) : StepI Tryz.prog ops Q a0 kbDS I (GVt (kbGS Pb X Y i st cl peer)) 44 { dst := some 49, op := .nilCheck (.tmp 48), type := ty, pos := pos, after := af, guard := some (30, true) } := by
 intro a w hout hI hdep K hK
 obtain ⟨vg, gg, eg⟩ := hdep ⟨30, .guard⟩ hg rfl
 have eg := eg 35 rfl
 have gg := gg _ rfl
 subst gg
 have hy := yielded_ist hgo eg
 rw [if_pos (by simp [Region.wanted, hy])]
 obtain ⟨v48, g48, e48⟩ := hdep ⟨43, .data⟩ h48 rfl
 have e48 := e48 48 rfl
 have g48 := g48 _ rfl
 subst g48
 clear hout hdep hy
 go_simp
 exact hK _ _ (gvt_of rfl rs_) hI
theorem kb50 (hg : (⟨30, .guard⟩ : Edge) ∈ af.toList) (hgo : ops[30]?.bind (·.dst) = some 35) (h49 : (⟨44, .data⟩ : Edge) ∈ af.toList) : StepI Tryz.prog ops Q a0 kbDS I (GVt (kbGS Pb X Y i st cl peer)) 45 { dst := some 50, op := .fieldAddr 85 (.tmp 49) 2, type := ty, pos := pos, after := af, guard := some (30, true) } := by
 intro a w hout hI hdep K hK
 obtain ⟨vg, gg, eg⟩ := hdep ⟨30, .guard⟩ hg rfl
 have eg := eg 35 rfl
 have gg := gg _ rfl
 subst gg
 have hy := yielded_ist hgo eg
 rw [if_pos (by simp [Region.wanted, hy])]
 obtain ⟨v49, g49, e49⟩ := hdep ⟨44, .data⟩ h49 rfl
 have e49 := e49 49 rfl
 have g49 := g49 _ rfl
 subst g49
 clear hout hdep hy
 go_simp
 exact hK _ _ (gvt_of rfl rs_) hI
theorem kb51 (hg : (⟨30, .guard⟩ : Edge) ∈ af.toList) (hgo : ops[30]?.bind (·.dst) = some 35) (h50 : (⟨45, .data⟩ : Edge) ∈ af.toList) (hL : ∀ w, I w → w.cell? ⟨Y, 2, none⟩ = some (.string (bs peer))) : StepI Tryz.prog ops Q a0 kbDS I (GVt (kbGS Pb X Y i st cl peer)) 46 { dst := some 51, op := .load 22 (.tmp 50), type := ty, pos := pos, after := af, guard := some (30, true) } := by
 intro a w hout hI hdep K hK
 obtain ⟨vg, gg, eg⟩ := hdep ⟨30, .guard⟩ hg rfl
 have eg := eg 35 rfl
 have gg := gg _ rfl
 subst gg
 have hy := yielded_ist hgo eg
 rw [if_pos (by simp [Region.wanted, hy])]
 obtain ⟨v50, g50, e50⟩ := hdep ⟨45, .data⟩ h50 rfl
 have e50 := e50 50 rfl
 have g50 := g50 _ rfl
 subst g50
 have hLw := hL w hI
 clear hout hdep hy
 go_simp
 exact hK _ _ (gvt_of rfl rs_) hI
theorem kb52 (hg : (⟨30, .guard⟩ : Edge) ∈ af.toList) (hgo : ops[30]?.bind (·.dst) = some 35) (h42 : (⟨37, .data⟩ : Edge) ∈ af.toList) (h51 : (⟨46, .data⟩ : Edge) ∈ af.toList) : StepI Tryz.prog ops Q a0 kbDS I (GVt (kbGS Pb X Y i st cl peer)) 47 { dst := some 52, op := .binOp .eql 22 (.tmp 42) (.tmp 51) 22, type := ty, pos := pos, after := af, guard := some (30, true) } := by
 intro a w hout hI hdep K hK
 obtain ⟨vg, gg, eg⟩ := hdep ⟨30, .guard⟩ hg rfl
 have eg := eg 35 rfl
 have gg := gg _ rfl
 subst gg
 have hy := yielded_ist hgo eg
 rw [if_pos (by simp [Region.wanted, hy])]
 obtain ⟨v42, g42, e42⟩ := hdep ⟨37, .data⟩ h42 rfl
 have e42 := e42 42 rfl
 have g42 := g42 _ rfl
 subst g42
 obtain ⟨v51, g51, e51⟩ := hdep ⟨46, .data⟩ h51 rfl
 have e51 := e51 51 rfl
 have g51 := g51 _ rfl
 subst g51
 clear hout hdep hy
 go_simp
 exact hK _ _ (gvt_of rfl rs_) hI
theorem kb53 (h35 : (⟨30, .data⟩ : Edge) ∈ af.toList) (h52 : (⟨47, .data⟩ : Edge) ∈ af.toList) : StepI Tryz.prog ops Q a0 kbDS I (GVt (kbGS Pb X Y i st cl peer)) 48 { dst := some 53, op := .pick (.tmp 35) (.tmp 52) (.const (.bool false)), type := ty, pos := pos, after := af, guard := none } := by
 intro a w hout hI hdep K hK
 rw [if_pos (by simp [Region.wanted])]
 obtain ⟨v35, g35, e35⟩ := hdep ⟨30, .data⟩ h35 rfl
 have e35 := e35 35 rfl
 have g35 := g35 _ rfl
 subst g35
 obtain ⟨v52, g52, e52⟩ := hdep ⟨47, .data⟩ h52 rfl
 have e52 := e52 52 rfl
 have g52 := g52 _ rfl
 subst g52
 clear hout hdep
 go_simp
 exact hK _ _ (gvt_of rfl rs_) hI
theorem kb4 (h53 : (⟨48, .data⟩ : Edge) ∈ af.toList) : StepI Tryz.prog ops Q a0 kbDS I (GVt (kbGS Pb X Y i st cl peer)) 49 { dst := some 4, op := .assign (.tmp 53), type := ty, pos := pos, after := af, guard := none } := by
 intro a w hout hI hdep K hK
 rw [if_pos (by simp [Region.wanted])]
 obtain ⟨v53, g53, e53⟩ := hdep ⟨48, .data⟩ h53 rfl
 have e53 := e53 53 rfl
 have g53 := g53 _ rfl
 subst g53
 clear hout hdep
 go_simp
 exact hK _ _ (gvt_of rfl rs_) hI
end
theorem lTells0 (lo Pb X0 X1 Y0 Y1 : Nat) (v0 v1 : Value) (q0 q1 : List (List UInt8)) (m : Nat) (w : World) (h : PairAt w lo Pb X0 X1 Y0 Y1 v0 v1 q0 q1 m) :
  Calls Tryz.prog 11 #[.pointer (some ⟨Pb, 0, none⟩), .int .i64 0] w fun e w' => e = .returned (.bool true) ∧ GL [] w w' := by
 have hd := pair_gl h (gl_drew (gl_refl [] w))
 obtain ⟨op, peer, own, drawn, st, dials, cl, k1, k2, ok, oc, ik, ic, hop, hY, hO, hPe⟩ := sideTells hd.s0
 have hLX : ∀ W, W = w.drew → W.cell? ⟨Pb, 0, none⟩ = some (.pointer (some ⟨X0, 0, none⟩)) := fun W hW => by rw [hW]; exact blk_cell hd.blk 0
 have hLY : ∀ W, W = w.drew → W.cell? ⟨Pb, 2, none⟩ = some (.pointer (some ⟨Y0, 0, none⟩)) := fun W hW => by rw [hW]; exact blk_cell hd.blk 2
 have hLS : ∀ W, W = w.drew → W.cell? ⟨Y0, 3, none⟩ = some (.int .i64 st) := fun W hW => by rw [hW]; exact blk_cell hY 3
 have hLC : ∀ W, W = w.drew → W.cell? ⟨Y0, 5, none⟩ = some (.bool cl) := fun W hW => by rw [hW]; exact blk_cell hY 5
 have hLP : ∀ W, W = w.drew → W.cell? ⟨Y0, 2, none⟩ = some (.string (bs peer)) := fun W hW => by rw [hW]; exact blk_cell hY 2
 have hCP : ∀ W, W = w.drew → Calls Tryz.prog 16 #[.pointer (some ⟨X0, 0, none⟩)] W fun e w' => e = .returned (.string (bs peer)) ∧ w' = w.drew := fun W hW => by rw [hW]; exact hPe.mono (fun e w' h => ⟨h.1, h.2.symm⟩)
 by_cases h3 : st = 3
 · have hst : (st == 3) = true := by simpa using h3
   have hop2 : op = (!cl) := by rw [hop, h3]; simp
   subst hop2
   have hCO : ∀ W, W = w.drew → Calls Tryz.prog 15 #[.pointer (some ⟨X0, 0, none⟩)] W fun e w' => e = .returned (.bool (!cl)) ∧ w' = w.drew := fun W hW => by rw [hW]; exact hO.mono (fun e w' h => ⟨h.1, h.2.symm⟩)
   clear hop hO hPe hY hd h h3
   go_enter Tryz.func11, Tryz.ntmps11
   go_upto_region 1 with fail
   refine wp_region_I (ds := kaDS) (I := (fun W => W = w.drew)) (G := GVt (kaGS Pb X0 Y0 0 st cl peer)) rfl rfl (distinct_of _ (by decide +kernel)) ?_ (by kernel_rfl) (rfl) ?_ ?_
   · intro d hd
     exact Nat.lt_of_lt_of_le (ltB_of (n := 54) kaDS (by decide +kernel) d hd) si_
   · exact ⟨ka5 si_, ka6 si_, ka7 si_, ka8 si_, ka9 si_ si_ de_, ka10 si_ hLX, ka11 si_ hCO, ka12 si_, ka13 si_, ka14 si_, ka15 si_, ka16 si_ si_ de_, ka17 si_ hLY, ka18 si_, ka19 si_, ka20 si_ hLS, ka21 si_ hst, ka22 si_, ka23 si_ rfl si_, ka24 si_ rfl si_, ka25 si_ rfl si_, ka26 si_ rfl si_, ka27 si_ rfl si_ si_ de_, ka28 si_ rfl si_ hLY, ka29 si_ rfl si_, ka30 si_ rfl si_, ka31 si_ rfl si_ hLC, ka32 si_ rfl si_, ka33 si_ si_, ka34 si_ si_, ka35 si_, ka36 si_ rfl si_, ka37 si_ rfl si_, ka38 si_ rfl si_, ka39 si_ rfl si_, ka40 si_ rfl si_ si_ de_, ka41 si_ rfl si_ hLX, ka42 si_ rfl si_ hCP, ka43 si_ rfl si_, ka44 si_ rfl si_, ka45 si_ rfl si_, ka46 si_ rfl si_, ka47 si_ rfl si_ si_ de_, ka48 si_ rfl si_ hLY, ka49 si_ rfl si_, ka50 si_ rfl si_, ka51 si_ rfl si_ hLP, ka52 si_ rfl si_ si_, ka53 si_ si_, ka4 si_, trivial⟩
   · intro vs w' hl hv hI
     have hl0 : vs.length = 50 := hl
     clear hl
     obtain ⟨x0, r0, rfl, hl1⟩ := cons_of hl0
     clear hl0
     obtain ⟨x1, r1, rfl, hl2⟩ := cons_of hl1
     clear hl1
     obtain ⟨x2, r2, rfl, hl3⟩ := cons_of hl2
     clear hl2
     obtain ⟨x3, r3, rfl, hl4⟩ := cons_of hl3
     clear hl3
     obtain ⟨x4, r4, rfl, hl5⟩ := cons_of hl4
     clear hl4
     obtain ⟨x5, r5, rfl, hl6⟩ := cons_of hl5
     clear hl5
     obtain ⟨x6, r6, rfl, hl7⟩ := cons_of hl6
     clear hl6
     obtain ⟨x7, r7, rfl, hl8⟩ := cons_of hl7
     clear hl7
     obtain ⟨x8, r8, rfl, hl9⟩ := cons_of hl8
     clear hl8
     obtain ⟨x9, r9, rfl, hl10⟩ := cons_of hl9
     clear hl9
     obtain ⟨x10, r10, rfl, hl11⟩ := cons_of hl10
     clear hl10
     obtain ⟨x11, r11, rfl, hl12⟩ := cons_of hl11
     clear hl11
     obtain ⟨x12, r12, rfl, hl13⟩ := cons_of hl12
     clear hl12
     obtain ⟨x13, r13, rfl, hl14⟩ := cons_of hl13
     clear hl13
     obtain ⟨x14, r14, rfl, hl15⟩ := cons_of hl14
     clear hl14
     obtain ⟨x15, r15, rfl, hl16⟩ := cons_of hl15
     clear hl15
     obtain ⟨x16, r16, rfl, hl17⟩ := cons_of hl16
     clear hl16
     obtain ⟨x17, r17, rfl, hl18⟩ := cons_of hl17
     clear hl17
     obtain ⟨x18, r18, rfl, hl19⟩ := cons_of hl18
     clear hl18
     obtain ⟨x19, r19, rfl, hl20⟩ := cons_of hl19
     clear hl19
     obtain ⟨x20, r20, rfl, hl21⟩ := cons_of hl20
     clear hl20
     obtain ⟨x21, r21, rfl, hl22⟩ := cons_of hl21
     clear hl21
     obtain ⟨x22, r22, rfl, hl23⟩ := cons_of hl22
     clear hl22
     obtain ⟨x23, r23, rfl, hl24⟩ := cons_of hl23
     clear hl23
     obtain ⟨x24, r24, rfl, hl25⟩ := cons_of hl24
     clear hl24
     obtain ⟨x25, r25, rfl, hl26⟩ := cons_of hl25
     clear hl25
     obtain ⟨x26, r26, rfl, hl27⟩ := cons_of hl26
     clear hl26
     obtain ⟨x27, r27, rfl, hl28⟩ := cons_of hl27
     clear hl27
     obtain ⟨x28, r28, rfl, hl29⟩ := cons_of hl28
     clear hl28
     obtain ⟨x29, r29, rfl, hl30⟩ := cons_of hl29
     clear hl29
     obtain ⟨x30, r30, rfl, hl31⟩ := cons_of hl30
     clear hl30
     obtain ⟨x31, r31, rfl, hl32⟩ := cons_of hl31
     clear hl31
     obtain ⟨x32, r32, rfl, hl33⟩ := cons_of hl32
     clear hl32
     obtain ⟨x33, r33, rfl, hl34⟩ := cons_of hl33
     clear hl33
     obtain ⟨x34, r34, rfl, hl35⟩ := cons_of hl34
     clear hl34
     obtain ⟨x35, r35, rfl, hl36⟩ := cons_of hl35
     clear hl35
     obtain ⟨x36, r36, rfl, hl37⟩ := cons_of hl36
     clear hl36
     obtain ⟨x37, r37, rfl, hl38⟩ := cons_of hl37
     clear hl37
     obtain ⟨x38, r38, rfl, hl39⟩ := cons_of hl38
     clear hl38
     obtain ⟨x39, r39, rfl, hl40⟩ := cons_of hl39
     clear hl39
     obtain ⟨x40, r40, rfl, hl41⟩ := cons_of hl40
     clear hl40
     obtain ⟨x41, r41, rfl, hl42⟩ := cons_of hl41
     clear hl41
     obtain ⟨x42, r42, rfl, hl43⟩ := cons_of hl42
     clear hl42
     obtain ⟨x43, r43, rfl, hl44⟩ := cons_of hl43
     clear hl43
     obtain ⟨x44, r44, rfl, hl45⟩ := cons_of hl44
     clear hl44
     obtain ⟨x45, r45, rfl, hl46⟩ := cons_of hl45
     clear hl45
     obtain ⟨x46, r46, rfl, hl47⟩ := cons_of hl46
     clear hl46
     obtain ⟨x47, r47, rfl, hl48⟩ := cons_of hl47
     clear hl47
     obtain ⟨x48, r48, rfl, hl49⟩ := cons_of hl48
     clear hl48
     obtain ⟨x49, r49, rfl, hl50⟩ := cons_of hl49
     clear hl49
     have e49 : x49 = .bool true := hv 49 x49 si_ _ rfl
     subst e49
     obtain rfl : r49 = [] := List.eq_nil_of_length_eq_zero hl50
     clear hv
     simp only [kaDS, setAll, List.setIfInBounds_toArray, List.set_cons_zero, List.set_cons_succ]
     subst hI
     clear hLX hLY hLS hLC hLP hCP hCO
     go_wp2_with fail
     go_ret
     exact ⟨by first | rfl | (simp; done), gl_drew (gl_refl [] _)⟩
 · have hst : (st == 3) = false := by simpa using h3
   have hop2 : op = false := by rw [hop]; simp [h3]
   subst hop2
   have hCO : ∀ W, W = w.drew → Calls Tryz.prog 15 #[.pointer (some ⟨X0, 0, none⟩)] W fun e w' => e = .returned (.bool false) ∧ w' = w.drew := fun W hW => by rw [hW]; exact hO.mono (fun e w' h => ⟨h.1, h.2.symm⟩)
   clear hop hO hPe hY hd h h3
   go_enter Tryz.func11, Tryz.ntmps11
   go_upto_region 1 with fail
   refine wp_region_I (ds := kbDS) (I := (fun W => W = w.drew)) (G := GVt (kbGS Pb X0 Y0 0 st cl peer)) rfl rfl (distinct_of _ (by decide +kernel)) ?_ (by kernel_rfl) (rfl) ?_ ?_
   · intro d hd
     exact Nat.lt_of_lt_of_le (ltB_of (n := 54) kbDS (by decide +kernel) d hd) si_
   · exact ⟨kb5 si_, kb6 si_, kb7 si_, kb8 si_, kb9 si_ si_ de_, kb10 si_ hLX, kb11 si_ hCO, kb12 si_, kb13 si_, kb14 si_, kb15 si_, kb16 si_ si_ de_, kb17 si_ hLY, kb18 si_, kb19 si_, kb20 si_ hLS, kb21 si_ hst, kb22 si_, kb23 si_ rfl, kb24 si_ rfl, kb25 si_ rfl, kb26 si_ rfl, kb27 si_ rfl, kb28 si_ rfl, kb29 si_ rfl, kb30 si_ rfl, kb31 si_ rfl, kb32 si_ rfl, kb33 si_, kb34 si_ si_, kb35 si_, kb36 si_ rfl si_, kb37 si_ rfl si_, kb38 si_ rfl si_, kb39 si_ rfl si_, kb40 si_ rfl si_ si_ de_, kb41 si_ rfl si_ hLX, kb42 si_ rfl si_ hCP, kb43 si_ rfl si_, kb44 si_ rfl si_, kb45 si_ rfl si_, kb46 si_ rfl si_, kb47 si_ rfl si_ si_ de_, kb48 si_ rfl si_ hLY, kb49 si_ rfl si_, kb50 si_ rfl si_, kb51 si_ rfl si_ hLP, kb52 si_ rfl si_ si_, kb53 si_ si_, kb4 si_, trivial⟩
   · intro vs w' hl hv hI
     have hl0 : vs.length = 50 := hl
     clear hl
     obtain ⟨x0, r0, rfl, hl1⟩ := cons_of hl0
     clear hl0
     obtain ⟨x1, r1, rfl, hl2⟩ := cons_of hl1
     clear hl1
     obtain ⟨x2, r2, rfl, hl3⟩ := cons_of hl2
     clear hl2
     obtain ⟨x3, r3, rfl, hl4⟩ := cons_of hl3
     clear hl3
     obtain ⟨x4, r4, rfl, hl5⟩ := cons_of hl4
     clear hl4
     obtain ⟨x5, r5, rfl, hl6⟩ := cons_of hl5
     clear hl5
     obtain ⟨x6, r6, rfl, hl7⟩ := cons_of hl6
     clear hl6
     obtain ⟨x7, r7, rfl, hl8⟩ := cons_of hl7
     clear hl7
     obtain ⟨x8, r8, rfl, hl9⟩ := cons_of hl8
     clear hl8
     obtain ⟨x9, r9, rfl, hl10⟩ := cons_of hl9
     clear hl9
     obtain ⟨x10, r10, rfl, hl11⟩ := cons_of hl10
     clear hl10
     obtain ⟨x11, r11, rfl, hl12⟩ := cons_of hl11
     clear hl11
     obtain ⟨x12, r12, rfl, hl13⟩ := cons_of hl12
     clear hl12
     obtain ⟨x13, r13, rfl, hl14⟩ := cons_of hl13
     clear hl13
     obtain ⟨x14, r14, rfl, hl15⟩ := cons_of hl14
     clear hl14
     obtain ⟨x15, r15, rfl, hl16⟩ := cons_of hl15
     clear hl15
     obtain ⟨x16, r16, rfl, hl17⟩ := cons_of hl16
     clear hl16
     obtain ⟨x17, r17, rfl, hl18⟩ := cons_of hl17
     clear hl17
     obtain ⟨x18, r18, rfl, hl19⟩ := cons_of hl18
     clear hl18
     obtain ⟨x19, r19, rfl, hl20⟩ := cons_of hl19
     clear hl19
     obtain ⟨x20, r20, rfl, hl21⟩ := cons_of hl20
     clear hl20
     obtain ⟨x21, r21, rfl, hl22⟩ := cons_of hl21
     clear hl21
     obtain ⟨x22, r22, rfl, hl23⟩ := cons_of hl22
     clear hl22
     obtain ⟨x23, r23, rfl, hl24⟩ := cons_of hl23
     clear hl23
     obtain ⟨x24, r24, rfl, hl25⟩ := cons_of hl24
     clear hl24
     obtain ⟨x25, r25, rfl, hl26⟩ := cons_of hl25
     clear hl25
     obtain ⟨x26, r26, rfl, hl27⟩ := cons_of hl26
     clear hl26
     obtain ⟨x27, r27, rfl, hl28⟩ := cons_of hl27
     clear hl27
     obtain ⟨x28, r28, rfl, hl29⟩ := cons_of hl28
     clear hl28
     obtain ⟨x29, r29, rfl, hl30⟩ := cons_of hl29
     clear hl29
     obtain ⟨x30, r30, rfl, hl31⟩ := cons_of hl30
     clear hl30
     obtain ⟨x31, r31, rfl, hl32⟩ := cons_of hl31
     clear hl31
     obtain ⟨x32, r32, rfl, hl33⟩ := cons_of hl32
     clear hl32
     obtain ⟨x33, r33, rfl, hl34⟩ := cons_of hl33
     clear hl33
     obtain ⟨x34, r34, rfl, hl35⟩ := cons_of hl34
     clear hl34
     obtain ⟨x35, r35, rfl, hl36⟩ := cons_of hl35
     clear hl35
     obtain ⟨x36, r36, rfl, hl37⟩ := cons_of hl36
     clear hl36
     obtain ⟨x37, r37, rfl, hl38⟩ := cons_of hl37
     clear hl37
     obtain ⟨x38, r38, rfl, hl39⟩ := cons_of hl38
     clear hl38
     obtain ⟨x39, r39, rfl, hl40⟩ := cons_of hl39
     clear hl39
     obtain ⟨x40, r40, rfl, hl41⟩ := cons_of hl40
     clear hl40
     obtain ⟨x41, r41, rfl, hl42⟩ := cons_of hl41
     clear hl41
     obtain ⟨x42, r42, rfl, hl43⟩ := cons_of hl42
     clear hl42
     obtain ⟨x43, r43, rfl, hl44⟩ := cons_of hl43
     clear hl43
     obtain ⟨x44, r44, rfl, hl45⟩ := cons_of hl44
     clear hl44
     obtain ⟨x45, r45, rfl, hl46⟩ := cons_of hl45
     clear hl45
     obtain ⟨x46, r46, rfl, hl47⟩ := cons_of hl46
     clear hl46
     obtain ⟨x47, r47, rfl, hl48⟩ := cons_of hl47
     clear hl47
     obtain ⟨x48, r48, rfl, hl49⟩ := cons_of hl48
     clear hl48
     obtain ⟨x49, r49, rfl, hl50⟩ := cons_of hl49
     clear hl49
     have e49 : x49 = .bool true := hv 49 x49 si_ _ rfl
     subst e49
     obtain rfl : r49 = [] := List.eq_nil_of_length_eq_zero hl50
     clear hv
     simp only [kbDS, setAll, List.setIfInBounds_toArray, List.set_cons_zero, List.set_cons_succ]
     subst hI
     clear hLX hLY hLS hLC hLP hCP hCO
     go_wp2_with fail
     go_ret
     exact ⟨by first | rfl | (simp; done), gl_drew (gl_refl [] _)⟩
theorem lTells1 (lo Pb X0 X1 Y0 Y1 : Nat) (v0 v1 : Value) (q0 q1 : List (List UInt8)) (m : Nat) (w : World) (h : PairAt w lo Pb X0 X1 Y0 Y1 v0 v1 q0 q1 m) :
  Calls Tryz.prog 11 #[.pointer (some ⟨Pb, 0, none⟩), .int .i64 1] w fun e w' => e = .returned (.bool true) ∧ GL [] w w' := by
 have hd := pair_gl h (gl_drew (gl_refl [] w))
 obtain ⟨op, peer, own, drawn, st, dials, cl, k1, k2, ok, oc, ik, ic, hop, hY, hO, hPe⟩ := sideTells hd.s1
 have hLX : ∀ W, W = w.drew → W.cell? ⟨Pb, 1, none⟩ = some (.pointer (some ⟨X1, 0, none⟩)) := fun W hW => by rw [hW]; exact blk_cell hd.blk 1
 have hLY : ∀ W, W = w.drew → W.cell? ⟨Pb, 3, none⟩ = some (.pointer (some ⟨Y1, 0, none⟩)) := fun W hW => by rw [hW]; exact blk_cell hd.blk 3
 have hLS : ∀ W, W = w.drew → W.cell? ⟨Y1, 3, none⟩ = some (.int .i64 st) := fun W hW => by rw [hW]; exact blk_cell hY 3
 have hLC : ∀ W, W = w.drew → W.cell? ⟨Y1, 5, none⟩ = some (.bool cl) := fun W hW => by rw [hW]; exact blk_cell hY 5
 have hLP : ∀ W, W = w.drew → W.cell? ⟨Y1, 2, none⟩ = some (.string (bs peer)) := fun W hW => by rw [hW]; exact blk_cell hY 2
 have hCP : ∀ W, W = w.drew → Calls Tryz.prog 16 #[.pointer (some ⟨X1, 0, none⟩)] W fun e w' => e = .returned (.string (bs peer)) ∧ w' = w.drew := fun W hW => by rw [hW]; exact hPe.mono (fun e w' h => ⟨h.1, h.2.symm⟩)
 by_cases h3 : st = 3
 · have hst : (st == 3) = true := by simpa using h3
   have hop2 : op = (!cl) := by rw [hop, h3]; simp
   subst hop2
   have hCO : ∀ W, W = w.drew → Calls Tryz.prog 15 #[.pointer (some ⟨X1, 0, none⟩)] W fun e w' => e = .returned (.bool (!cl)) ∧ w' = w.drew := fun W hW => by rw [hW]; exact hO.mono (fun e w' h => ⟨h.1, h.2.symm⟩)
   clear hop hO hPe hY hd h h3
   go_enter Tryz.func11, Tryz.ntmps11
   go_upto_region 1 with fail
   refine wp_region_I (ds := kaDS) (I := (fun W => W = w.drew)) (G := GVt (kaGS Pb X1 Y1 1 st cl peer)) rfl rfl (distinct_of _ (by decide +kernel)) ?_ (by kernel_rfl) (rfl) ?_ ?_
   · intro d hd
     exact Nat.lt_of_lt_of_le (ltB_of (n := 54) kaDS (by decide +kernel) d hd) si_
   · exact ⟨ka5 si_, ka6 si_, ka7 si_, ka8 si_, ka9 si_ si_ de_, ka10 si_ hLX, ka11 si_ hCO, ka12 si_, ka13 si_, ka14 si_, ka15 si_, ka16 si_ si_ de_, ka17 si_ hLY, ka18 si_, ka19 si_, ka20 si_ hLS, ka21 si_ hst, ka22 si_, ka23 si_ rfl si_, ka24 si_ rfl si_, ka25 si_ rfl si_, ka26 si_ rfl si_, ka27 si_ rfl si_ si_ de_, ka28 si_ rfl si_ hLY, ka29 si_ rfl si_, ka30 si_ rfl si_, ka31 si_ rfl si_ hLC, ka32 si_ rfl si_, ka33 si_ si_, ka34 si_ si_, ka35 si_, ka36 si_ rfl si_, ka37 si_ rfl si_, ka38 si_ rfl si_, ka39 si_ rfl si_, ka40 si_ rfl si_ si_ de_, ka41 si_ rfl si_ hLX, ka42 si_ rfl si_ hCP, ka43 si_ rfl si_, ka44 si_ rfl si_, ka45 si_ rfl si_, ka46 si_ rfl si_, ka47 si_ rfl si_ si_ de_, ka48 si_ rfl si_ hLY, ka49 si_ rfl si_, ka50 si_ rfl si_, ka51 si_ rfl si_ hLP, ka52 si_ rfl si_ si_, ka53 si_ si_, ka4 si_, trivial⟩
   · intro vs w' hl hv hI
     have hl0 : vs.length = 50 := hl
     clear hl
     obtain ⟨x0, r0, rfl, hl1⟩ := cons_of hl0
     clear hl0
     obtain ⟨x1, r1, rfl, hl2⟩ := cons_of hl1
     clear hl1
     obtain ⟨x2, r2, rfl, hl3⟩ := cons_of hl2
     clear hl2
     obtain ⟨x3, r3, rfl, hl4⟩ := cons_of hl3
     clear hl3
     obtain ⟨x4, r4, rfl, hl5⟩ := cons_of hl4
     clear hl4
     obtain ⟨x5, r5, rfl, hl6⟩ := cons_of hl5
     clear hl5
     obtain ⟨x6, r6, rfl, hl7⟩ := cons_of hl6
     clear hl6
     obtain ⟨x7, r7, rfl, hl8⟩ := cons_of hl7
     clear hl7
     obtain ⟨x8, r8, rfl, hl9⟩ := cons_of hl8
     clear hl8
     obtain ⟨x9, r9, rfl, hl10⟩ := cons_of hl9
     clear hl9
     obtain ⟨x10, r10, rfl, hl11⟩ := cons_of hl10
     clear hl10
     obtain ⟨x11, r11, rfl, hl12⟩ := cons_of hl11
     clear hl11
     obtain ⟨x12, r12, rfl, hl13⟩ := cons_of hl12
     clear hl12
     obtain ⟨x13, r13, rfl, hl14⟩ := cons_of hl13
     clear hl13
     obtain ⟨x14, r14, rfl, hl15⟩ := cons_of hl14
     clear hl14
     obtain ⟨x15, r15, rfl, hl16⟩ := cons_of hl15
     clear hl15
     obtain ⟨x16, r16, rfl, hl17⟩ := cons_of hl16
     clear hl16
     obtain ⟨x17, r17, rfl, hl18⟩ := cons_of hl17
     clear hl17
     obtain ⟨x18, r18, rfl, hl19⟩ := cons_of hl18
     clear hl18
     obtain ⟨x19, r19, rfl, hl20⟩ := cons_of hl19
     clear hl19
     obtain ⟨x20, r20, rfl, hl21⟩ := cons_of hl20
     clear hl20
     obtain ⟨x21, r21, rfl, hl22⟩ := cons_of hl21
     clear hl21
     obtain ⟨x22, r22, rfl, hl23⟩ := cons_of hl22
     clear hl22
     obtain ⟨x23, r23, rfl, hl24⟩ := cons_of hl23
     clear hl23
     obtain ⟨x24, r24, rfl, hl25⟩ := cons_of hl24
     clear hl24
     obtain ⟨x25, r25, rfl, hl26⟩ := cons_of hl25
     clear hl25
     obtain ⟨x26, r26, rfl, hl27⟩ := cons_of hl26
     clear hl26
     obtain ⟨x27, r27, rfl, hl28⟩ := cons_of hl27
     clear hl27
     obtain ⟨x28, r28, rfl, hl29⟩ := cons_of hl28
     clear hl28
     obtain ⟨x29, r29, rfl, hl30⟩ := cons_of hl29
     clear hl29
     obtain ⟨x30, r30, rfl, hl31⟩ := cons_of hl30
     clear hl30
     obtain ⟨x31, r31, rfl, hl32⟩ := cons_of hl31
     clear hl31
     obtain ⟨x32, r32, rfl, hl33⟩ := cons_of hl32
     clear hl32
     obtain ⟨x33, r33, rfl, hl34⟩ := cons_of hl33
     clear hl33
     obtain ⟨x34, r34, rfl, hl35⟩ := cons_of hl34
     clear hl34
     obtain ⟨x35, r35, rfl, hl36⟩ := cons_of hl35
     clear hl35
     obtain ⟨x36, r36, rfl, hl37⟩ := cons_of hl36
     clear hl36
     obtain ⟨x37, r37, rfl, hl38⟩ := cons_of hl37
     clear hl37
     obtain ⟨x38, r38, rfl, hl39⟩ := cons_of hl38
     clear hl38
     obtain ⟨x39, r39, rfl, hl40⟩ := cons_of hl39
     clear hl39
     obtain ⟨x40, r40, rfl, hl41⟩ := cons_of hl40
     clear hl40
     obtain ⟨x41, r41, rfl, hl42⟩ := cons_of hl41
     clear hl41
     obtain ⟨x42, r42, rfl, hl43⟩ := cons_of hl42
     clear hl42
     obtain ⟨x43, r43, rfl, hl44⟩ := cons_of hl43
     clear hl43
     obtain ⟨x44, r44, rfl, hl45⟩ := cons_of hl44
     clear hl44
     obtain ⟨x45, r45, rfl, hl46⟩ := cons_of hl45
     clear hl45
     obtain ⟨x46, r46, rfl, hl47⟩ := cons_of hl46
     clear hl46
     obtain ⟨x47, r47, rfl, hl48⟩ := cons_of hl47
     clear hl47
     obtain ⟨x48, r48, rfl, hl49⟩ := cons_of hl48
     clear hl48
     obtain ⟨x49, r49, rfl, hl50⟩ := cons_of hl49
     clear hl49
     have e49 : x49 = .bool true := hv 49 x49 si_ _ rfl
     subst e49
     obtain rfl : r49 = [] := List.eq_nil_of_length_eq_zero hl50
     clear hv
     simp only [kaDS, setAll, List.setIfInBounds_toArray, List.set_cons_zero, List.set_cons_succ]
     subst hI
     clear hLX hLY hLS hLC hLP hCP hCO
     go_wp2_with fail
     go_ret
     exact ⟨by first | rfl | (simp; done), gl_drew (gl_refl [] _)⟩
 · have hst : (st == 3) = false := by simpa using h3
   have hop2 : op = false := by rw [hop]; simp [h3]
   subst hop2
   have hCO : ∀ W, W = w.drew → Calls Tryz.prog 15 #[.pointer (some ⟨X1, 0, none⟩)] W fun e w' => e = .returned (.bool false) ∧ w' = w.drew := fun W hW => by rw [hW]; exact hO.mono (fun e w' h => ⟨h.1, h.2.symm⟩)
   clear hop hO hPe hY hd h h3
   go_enter Tryz.func11, Tryz.ntmps11
   go_upto_region 1 with fail
   refine wp_region_I (ds := kbDS) (I := (fun W => W = w.drew)) (G := GVt (kbGS Pb X1 Y1 1 st cl peer)) rfl rfl (distinct_of _ (by decide +kernel)) ?_ (by kernel_rfl) (rfl) ?_ ?_
   · intro d hd
     exact Nat.lt_of_lt_of_le (ltB_of (n := 54) kbDS (by decide +kernel) d hd) si_
   · exact ⟨kb5 si_, kb6 si_, kb7 si_, kb8 si_, kb9 si_ si_ de_, kb10 si_ hLX, kb11 si_ hCO, kb12 si_, kb13 si_, kb14 si_, kb15 si_, kb16 si_ si_ de_, kb17 si_ hLY, kb18 si_, kb19 si_, kb20 si_ hLS, kb21 si_ hst, kb22 si_, kb23 si_ rfl, kb24 si_ rfl, kb25 si_ rfl, kb26 si_ rfl, kb27 si_ rfl, kb28 si_ rfl, kb29 si_ rfl, kb30 si_ rfl, kb31 si_ rfl, kb32 si_ rfl, kb33 si_, kb34 si_ si_, kb35 si_, kb36 si_ rfl si_, kb37 si_ rfl si_, kb38 si_ rfl si_, kb39 si_ rfl si_, kb40 si_ rfl si_ si_ de_, kb41 si_ rfl si_ hLX, kb42 si_ rfl si_ hCP, kb43 si_ rfl si_, kb44 si_ rfl si_, kb45 si_ rfl si_, kb46 si_ rfl si_, kb47 si_ rfl si_ si_ de_, kb48 si_ rfl si_ hLY, kb49 si_ rfl si_, kb50 si_ rfl si_, kb51 si_ rfl si_ hLP, kb52 si_ rfl si_ si_, kb53 si_ si_, kb4 si_, trivial⟩
   · intro vs w' hl hv hI
     have hl0 : vs.length = 50 := hl
     clear hl
     obtain ⟨x0, r0, rfl, hl1⟩ := cons_of hl0
     clear hl0
     obtain ⟨x1, r1, rfl, hl2⟩ := cons_of hl1
     clear hl1
     obtain ⟨x2, r2, rfl, hl3⟩ := cons_of hl2
     clear hl2
     obtain ⟨x3, r3, rfl, hl4⟩ := cons_of hl3
     clear hl3
     obtain ⟨x4, r4, rfl, hl5⟩ := cons_of hl4
     clear hl4
     obtain ⟨x5, r5, rfl, hl6⟩ := cons_of hl5
     clear hl5
     obtain ⟨x6, r6, rfl, hl7⟩ := cons_of hl6
     clear hl6
     obtain ⟨x7, r7, rfl, hl8⟩ := cons_of hl7
     clear hl7
     obtain ⟨x8, r8, rfl, hl9⟩ := cons_of hl8
     clear hl8
     obtain ⟨x9, r9, rfl, hl10⟩ := cons_of hl9
     clear hl9
     obtain ⟨x10, r10, rfl, hl11⟩ := cons_of hl10
     clear hl10
     obtain ⟨x11, r11, rfl, hl12⟩ := cons_of hl11
     clear hl11
     obtain ⟨x12, r12, rfl, hl13⟩ := cons_of hl12
     clear hl12
     obtain ⟨x13, r13, rfl, hl14⟩ := cons_of hl13
     clear hl13
     obtain ⟨x14, r14, rfl, hl15⟩ := cons_of hl14
     clear hl14
     obtain ⟨x15, r15, rfl, hl16⟩ := cons_of hl15
     clear hl15
     obtain ⟨x16, r16, rfl, hl17⟩ := cons_of hl16
     clear hl16
     obtain ⟨x17, r17, rfl, hl18⟩ := cons_of hl17
     clear hl17
     obtain ⟨x18, r18, rfl, hl19⟩ := cons_of hl18
     clear hl18
     obtain ⟨x19, r19, rfl, hl20⟩ := cons_of hl19
     clear hl19
     obtain ⟨x20, r20, rfl, hl21⟩ := cons_of hl20
     clear hl20
     obtain ⟨x21, r21, rfl, hl22⟩ := cons_of hl21
     clear hl21
     obtain ⟨x22, r22, rfl, hl23⟩ := cons_of hl22
     clear hl22
     obtain ⟨x23, r23, rfl, hl24⟩ := cons_of hl23
     clear hl23
     obtain ⟨x24, r24, rfl, hl25⟩ := cons_of hl24
     clear hl24
     obtain ⟨x25, r25, rfl, hl26⟩ := cons_of hl25
     clear hl25
     obtain ⟨x26, r26, rfl, hl27⟩ := cons_of hl26
     clear hl26
     obtain ⟨x27, r27, rfl, hl28⟩ := cons_of hl27
     clear hl27
     obtain ⟨x28, r28, rfl, hl29⟩ := cons_of hl28
     clear hl28
     obtain ⟨x29, r29, rfl, hl30⟩ := cons_of hl29
     clear hl29
     obtain ⟨x30, r30, rfl, hl31⟩ := cons_of hl30
     clear hl30
     obtain ⟨x31, r31, rfl, hl32⟩ := cons_of hl31
     clear hl31
     obtain ⟨x32, r32, rfl, hl33⟩ := cons_of hl32
     clear hl32
     obtain ⟨x33, r33, rfl, hl34⟩ := cons_of hl33
     clear hl33
     obtain ⟨x34, r34, rfl, hl35⟩ := cons_of hl34
     clear hl34
     obtain ⟨x35, r35, rfl, hl36⟩ := cons_of hl35
     clear hl35
     obtain ⟨x36, r36, rfl, hl37⟩ := cons_of hl36
     clear hl36
     obtain ⟨x37, r37, rfl, hl38⟩ := cons_of hl37
     clear hl37
     obtain ⟨x38, r38, rfl, hl39⟩ := cons_of hl38
     clear hl38
     obtain ⟨x39, r39, rfl, hl40⟩ := cons_of hl39
     clear hl39
     obtain ⟨x40, r40, rfl, hl41⟩ := cons_of hl40
     clear hl40
     obtain ⟨x41, r41, rfl, hl42⟩ := cons_of hl41
     clear hl41
     obtain ⟨x42, r42, rfl, hl43⟩ := cons_of hl42
     clear hl42
     obtain ⟨x43, r43, rfl, hl44⟩ := cons_of hl43
     clear hl43
     obtain ⟨x44, r44, rfl, hl45⟩ := cons_of hl44
     clear hl44
     obtain ⟨x45, r45, rfl, hl46⟩ := cons_of hl45
     clear hl45
     obtain ⟨x46, r46, rfl, hl47⟩ := cons_of hl46
     clear hl46
     obtain ⟨x47, r47, rfl, hl48⟩ := cons_of hl47
     clear hl47
     obtain ⟨x48, r48, rfl, hl49⟩ := cons_of hl48
     clear hl48
     obtain ⟨x49, r49, rfl, hl50⟩ := cons_of hl49
     clear hl49
     have e49 : x49 = .bool true := hv 49 x49 si_ _ rfl
     subst e49
     obtain rfl : r49 = [] := List.eq_nil_of_length_eq_zero hl50
     clear hv
     simp only [kbDS, setAll, List.setIfInBounds_toArray, List.set_cons_zero, List.set_cons_succ]
     subst hI
     clear hLX hLY hLS hLC hLP hCP hCO
     go_wp2_with fail
     go_ret
     exact ⟨by first | rfl | (simp; done), gl_drew (gl_refl [] _)⟩
end Go.Proofs.YtaaiaahkakkleaaGreatDoor
