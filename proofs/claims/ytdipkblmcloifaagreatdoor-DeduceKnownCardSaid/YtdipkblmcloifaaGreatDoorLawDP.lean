/- The regions of DeduceMore that draw their order. -/
import Derived.Test.YtdipkblmcloifaaGreatDoorLawDM
import Derived.Test.YtdipkblmcloifaaGreatDoorRegI
set_option linter.unusedSimpArgs false
set_option linter.unusedVariables false
namespace Go.Proofs.YtdipkblmcloifaaGreatDoor
open Go.RowKit

def m20DS : List (Option Nat) := [some 79, some 80, some 81, some 82, some 83, some 84, some 85, some 86, some 87, some 88, some 89]
def m20GS (C g o q n uc kc i : Nat) (t : List UInt8) (b : Bool) : List (Option Value) := [some (.pointer (some ⟨C, 0, none⟩)), some (.slice (some ⟨g, o, none⟩) n uc), some (.int .i64 i), some (.pointer (some ⟨g, o + i, none⟩)), some (.string (bs t)), some (.bool b), some (.slice (some ⟨q, 0, none⟩) n kc), some (.int .i64 i), some (.pointer (some ⟨q, i, none⟩)), some (.bool b), some (.bool false)]
section
variable {ops : Array Oper} {Q : Exit → Act → World → Prop} {a0 : Act} {I : World → Prop} {af : Array Edge} {ty : Nat} {pos : String} {at_ : Array TypeId} {C g o q n uc kc i : Nat} {t : List UInt8} {b : Bool}
set_option maxRecDepth 100000 in
set_option maxHeartbeats 1000000 in
theorem m2079 (o11 : a0.tmps[11]? = some (.pointer (some ⟨C, 0, none⟩))) : StepI Tryz.prog ops Q a0 m20DS I (GV (m20GS C g o q n uc kc i t b)) 0 { dst := some 79, op := .move (.tmp 11), type := ty, pos := pos, after := af, guard := none } := by
  intro a w hout hI hdep K hK
  rw [if_pos (by simp [Region.wanted])]
  have o11w := (hout 11 (by decide)).trans o11
  clear hout hdep
  clear o11
  go_simp
  exact hK _ _ (gv_of rfl (by first | rfl | (simp; done))) hI
set_option maxRecDepth 100000 in
set_option maxHeartbeats 1000000 in
theorem m2080 (o2 : a0.tmps[2]? = some (.slice (some ⟨g, o, none⟩) n uc)) : StepI Tryz.prog ops Q a0 m20DS I (GV (m20GS C g o q n uc kc i t b)) 1 { dst := some 80, op := .move (.tmp 2), type := ty, pos := pos, after := af, guard := none } := by
  intro a w hout hI hdep K hK
  rw [if_pos (by simp [Region.wanted])]
  have o2w := (hout 2 (by decide)).trans o2
  clear hout hdep
  clear o2
  go_simp
  exact hK _ _ (gv_of rfl (by first | rfl | (simp; done))) hI
set_option maxRecDepth 100000 in
set_option maxHeartbeats 1000000 in
theorem m2081 (o13 : a0.tmps[13]? = some (.int .i64 i)) : StepI Tryz.prog ops Q a0 m20DS I (GV (m20GS C g o q n uc kc i t b)) 2 { dst := some 81, op := .move (.tmp 13), type := ty, pos := pos, after := af, guard := none } := by
  intro a w hout hI hdep K hK
  rw [if_pos (by simp [Region.wanted])]
  have o13w := (hout 13 (by decide)).trans o13
  clear hout hdep
  clear o13
  go_simp
  exact hK _ _ (gv_of rfl (by first | rfl | (simp; done))) hI
set_option maxRecDepth 100000 in
set_option maxHeartbeats 1000000 in
theorem m2082 (h80 : (⟨1, .data⟩ : Edge) ∈ af.toList) (h81 : (⟨2, .data⟩ : Edge) ∈ af.toList) (hlt : (i : Int) < (n : Int)) : StepI Tryz.prog ops Q a0 m20DS I (GV (m20GS C g o q n uc kc i t b)) 3 { dst := some 82, op := .indexAddr 22 (.tmp 80) (.tmp 81), type := ty, pos := pos, after := af, guard := none } := by
  intro a w hout hI hdep K hK
  rw [if_pos (by simp [Region.wanted])]
  obtain ⟨v80, g80, e80⟩ := hdep ⟨1, .data⟩ h80 rfl
  have e80 := e80 80 rfl
  have g80 := g80 _ rfl
  subst g80
  obtain ⟨v81, g81, e81⟩ := hdep ⟨2, .data⟩ h81 rfl
  have e81 := e81 81 rfl
  have g81 := g81 _ rfl
  subst g81
  clear hout hdep
  go_simp
  exact hK _ _ (gv_of rfl (by first | rfl | (simp; done))) hI
set_option maxRecDepth 100000 in
set_option maxHeartbeats 1000000 in
theorem m2083 (h82 : (⟨3, .data⟩ : Edge) ∈ af.toList) (hL : ∀ w, I w → w.cell? ⟨g, o + i, none⟩ = some (.string (bs t))) : StepI Tryz.prog ops Q a0 m20DS I (GV (m20GS C g o q n uc kc i t b)) 4 { dst := some 83, op := .load 28 (.tmp 82), type := ty, pos := pos, after := af, guard := none } := by
  intro a w hout hI hdep K hK
  rw [if_pos (by simp [Region.wanted])]
  obtain ⟨v82, g82, e82⟩ := hdep ⟨3, .data⟩ h82 rfl
  have e82 := e82 82 rfl
  have g82 := g82 _ rfl
  subst g82
  have hLw := hL w hI
  clear hout hdep
  go_simp
  exact hK _ _ (gv_of rfl (by first | rfl | (simp; done))) hI
set_option maxRecDepth 100000 in
set_option maxHeartbeats 1000000 in
theorem m2084 (h79 : (⟨0, .data⟩ : Edge) ∈ af.toList) (h83 : (⟨4, .data⟩ : Edge) ∈ af.toList) (hC : ∀ w, I w → Calls Tryz.prog 12 #[.pointer (some ⟨C, 0, none⟩), .string (bs t)] w fun e w' => e = .returned (.bool b) ∧ I w') : StepI Tryz.prog ops Q a0 m20DS I (GV (m20GS C g o q n uc kc i t b)) 5 { dst := some 84, op := .call { callee := .value (.func 12), args := #[.tmp 79, .tmp 83], argTypes := at_ }, type := ty, pos := pos, after := af, guard := none } := by
  intro a w hout hI hdep K hK
  rw [if_pos (by simp [Region.wanted])]
  obtain ⟨v79, g79, e79⟩ := hdep ⟨0, .data⟩ h79 rfl
  have e79 := e79 79 rfl
  have g79 := g79 _ rfl
  subst g79
  obtain ⟨v83, g83, e83⟩ := hdep ⟨4, .data⟩ h83 rfl
  have e83 := e83 83 rfl
  have g83 := g83 _ rfl
  subst g83
  clear hout hdep
  go_simp
  refine (hC w hI).mono ?_
  rintro e w1 ⟨rfl, hI1⟩
  exact hK _ _ (gv_of rfl rfl) hI1
set_option maxRecDepth 100000 in
set_option maxHeartbeats 1000000 in
theorem m2085 (o9 : a0.tmps[9]? = some (.slice (some ⟨q, 0, none⟩) n kc)) : StepI Tryz.prog ops Q a0 m20DS I (GV (m20GS C g o q n uc kc i t b)) 6 { dst := some 85, op := .move (.tmp 9), type := ty, pos := pos, after := af, guard := none } := by
  intro a w hout hI hdep K hK
  rw [if_pos (by simp [Region.wanted])]
  have o9w := (hout 9 (by decide)).trans o9
  clear hout hdep
  clear o9
  go_simp
  exact hK _ _ (gv_of rfl (by first | rfl | (simp; done))) hI
set_option maxRecDepth 100000 in
set_option maxHeartbeats 1000000 in
theorem m2086 (o13 : a0.tmps[13]? = some (.int .i64 i)) : StepI Tryz.prog ops Q a0 m20DS I (GV (m20GS C g o q n uc kc i t b)) 7 { dst := some 86, op := .move (.tmp 13), type := ty, pos := pos, after := af, guard := none } := by
  intro a w hout hI hdep K hK
  rw [if_pos (by simp [Region.wanted])]
  have o13w := (hout 13 (by decide)).trans o13
  clear hout hdep
  clear o13
  go_simp
  exact hK _ _ (gv_of rfl (by first | rfl | (simp; done))) hI
set_option maxRecDepth 100000 in
set_option maxHeartbeats 1000000 in
theorem m2087 (h85 : (⟨6, .data⟩ : Edge) ∈ af.toList) (h86 : (⟨7, .data⟩ : Edge) ∈ af.toList) (hlt : (i : Int) < (n : Int)) : StepI Tryz.prog ops Q a0 m20DS I (GV (m20GS C g o q n uc kc i t b)) 8 { dst := some 87, op := .indexAddr 45 (.tmp 85) (.tmp 86), type := ty, pos := pos, after := af, guard := none } := by
  intro a w hout hI hdep K hK
  rw [if_pos (by simp [Region.wanted])]
  obtain ⟨v85, g85, e85⟩ := hdep ⟨6, .data⟩ h85 rfl
  have e85 := e85 85 rfl
  have g85 := g85 _ rfl
  subst g85
  obtain ⟨v86, g86, e86⟩ := hdep ⟨7, .data⟩ h86 rfl
  have e86 := e86 86 rfl
  have g86 := g86 _ rfl
  subst g86
  clear hout hdep
  go_simp
  exact hK _ _ (gv_of rfl (by first | rfl | (simp; done))) hI
set_option maxRecDepth 100000 in
set_option maxHeartbeats 1000000 in
theorem m2088 (h87 : (⟨8, .data⟩ : Edge) ∈ af.toList) (hL : ∀ w, I w → w.cell? ⟨q, i, none⟩ = some (.bool b)) : StepI Tryz.prog ops Q a0 m20DS I (GV (m20GS C g o q n uc kc i t b)) 9 { dst := some 88, op := .load 4 (.tmp 87), type := ty, pos := pos, after := af, guard := none } := by
  intro a w hout hI hdep K hK
  rw [if_pos (by simp [Region.wanted])]
  obtain ⟨v87, g87, e87⟩ := hdep ⟨8, .data⟩ h87 rfl
  have e87 := e87 87 rfl
  have g87 := g87 _ rfl
  subst g87
  have hLw := hL w hI
  clear hout hdep
  go_simp
  exact hK _ _ (gv_of rfl (by first | rfl | (simp; done))) hI
set_option maxRecDepth 100000 in
set_option maxHeartbeats 1000000 in
theorem m2089 (h84 : (⟨5, .data⟩ : Edge) ∈ af.toList) (h88 : (⟨9, .data⟩ : Edge) ∈ af.toList) : StepI Tryz.prog ops Q a0 m20DS I (GV (m20GS C g o q n uc kc i t b)) 10 { dst := some 89, op := .binOp .neq 4 (.tmp 84) (.tmp 88) 4, type := ty, pos := pos, after := af, guard := none } := by
  intro a w hout hI hdep K hK
  rw [if_pos (by simp [Region.wanted])]
  obtain ⟨v84, g84, e84⟩ := hdep ⟨5, .data⟩ h84 rfl
  have e84 := e84 84 rfl
  have g84 := g84 _ rfl
  subst g84
  obtain ⟨v88, g88, e88⟩ := hdep ⟨9, .data⟩ h88 rfl
  have e88 := e88 88 rfl
  have g88 := g88 _ rfl
  subst g88
  clear hout hdep
  go_simp
  exact hK _ _ (gv_of rfl (by first | rfl | (simp; done))) hI
end
def m25aDS : List (Option Nat) := [some 97, some 98, some 99, some 100, some 101, some 102, some 103, some 104, some 105, some 106, some 107, some 108, some 109, some 110, some 111, some 112, some 113, some 114, some 115, some 116, some 117, some 118, some 119, some 120, some 121]
def m25aGS (M g o q n uc kc i : Nat) (t u : List UInt8) : List (Option Value) := [some (.slice (some ⟨q, 0, none⟩) n kc), some (.int .i64 i), some (.pointer (some ⟨q, i, none⟩)), some (.bool false), some (.bool false), none, none, none, none, none, some (.bool false), some (.bool false), none, none, none, none, none, none, none, none, none, none, none, none, some (.bool false)]
section
variable {ops : Array Oper} {Q : Exit → Act → World → Prop} {a0 : Act} {I : World → Prop} {af : Array Edge} {ty : Nat} {pos : String} {at_ : Array TypeId} {M g o q n uc kc i : Nat} {t u : List UInt8}
set_option maxRecDepth 100000 in
set_option maxHeartbeats 1000000 in
theorem m25a97 (o9 : a0.tmps[9]? = some (.slice (some ⟨q, 0, none⟩) n kc)) : StepI Tryz.prog ops Q a0 m25aDS I (GV (m25aGS M g o q n uc kc i t u)) 0 { dst := some 97, op := .move (.tmp 9), type := ty, pos := pos, after := af, guard := none } := by
  intro a w hout hI hdep K hK
  rw [if_pos (by simp [Region.wanted])]
  have o9w := (hout 9 (by decide)).trans o9
  clear hout hdep
  clear o9
  go_simp
  exact hK _ _ (gv_of rfl (by first | rfl | (simp; done))) hI
set_option maxRecDepth 100000 in
set_option maxHeartbeats 1000000 in
theorem m25a98 (o14 : a0.tmps[14]? = some (.int .i64 i)) : StepI Tryz.prog ops Q a0 m25aDS I (GV (m25aGS M g o q n uc kc i t u)) 1 { dst := some 98, op := .move (.tmp 14), type := ty, pos := pos, after := af, guard := none } := by
  intro a w hout hI hdep K hK
  rw [if_pos (by simp [Region.wanted])]
  have o14w := (hout 14 (by decide)).trans o14
  clear hout hdep
  clear o14
  go_simp
  exact hK _ _ (gv_of rfl (by first | rfl | (simp; done))) hI
set_option maxRecDepth 100000 in
set_option maxHeartbeats 1000000 in
theorem m25a99 (h97 : (⟨0, .data⟩ : Edge) ∈ af.toList) (h98 : (⟨1, .data⟩ : Edge) ∈ af.toList) (hlt : (i : Int) < (n : Int)) : StepI Tryz.prog ops Q a0 m25aDS I (GV (m25aGS M g o q n uc kc i t u)) 2 { dst := some 99, op := .indexAddr 45 (.tmp 97) (.tmp 98), type := ty, pos := pos, after := af, guard := none } := by
  intro a w hout hI hdep K hK
  rw [if_pos (by simp [Region.wanted])]
  obtain ⟨v97, g97, e97⟩ := hdep ⟨0, .data⟩ h97 rfl
  have e97 := e97 97 rfl
  have g97 := g97 _ rfl
  subst g97
  obtain ⟨v98, g98, e98⟩ := hdep ⟨1, .data⟩ h98 rfl
  have e98 := e98 98 rfl
  have g98 := g98 _ rfl
  subst g98
  clear hout hdep
  go_simp
  exact hK _ _ (gv_of rfl (by first | rfl | (simp; done))) hI
set_option maxRecDepth 100000 in
set_option maxHeartbeats 1000000 in
theorem m25a100 (h99 : (⟨2, .data⟩ : Edge) ∈ af.toList) (hL : ∀ w, I w → w.cell? ⟨q, i, none⟩ = some (.bool false)) : StepI Tryz.prog ops Q a0 m25aDS I (GV (m25aGS M g o q n uc kc i t u)) 3 { dst := some 100, op := .load 4 (.tmp 99), type := ty, pos := pos, after := af, guard := none } := by
  intro a w hout hI hdep K hK
  rw [if_pos (by simp [Region.wanted])]
  obtain ⟨v99, g99, e99⟩ := hdep ⟨2, .data⟩ h99 rfl
  have e99 := e99 99 rfl
  have g99 := g99 _ rfl
  subst g99
  have hLw := hL w hI
  clear hout hdep
  go_simp
  exact hK _ _ (gv_of rfl (by first | rfl | (simp; done))) hI
set_option maxRecDepth 100000 in
set_option maxHeartbeats 1000000 in
theorem m25a101 (h100 : (⟨3, .data⟩ : Edge) ∈ af.toList) : StepI Tryz.prog ops Q a0 m25aDS I (GV (m25aGS M g o q n uc kc i t u)) 4 { dst := some 101, op := .move (.tmp 100), type := ty, pos := pos, after := af, guard := none } := by
  intro a w hout hI hdep K hK
  rw [if_pos (by simp [Region.wanted])]
  obtain ⟨v100, g100, e100⟩ := hdep ⟨3, .data⟩ h100 rfl
  have e100 := e100 100 rfl
  have g100 := g100 _ rfl
  subst g100
  clear hout hdep
  go_simp
  exact hK _ _ (gv_of rfl (by first | rfl | (simp; done))) hI
set_option maxRecDepth 100000 in
set_option maxHeartbeats 1000000 in
theorem m25a102 (hg : (⟨4, .guard⟩ : Edge) ∈ af.toList) (hgo : ops[4]?.bind (·.dst) = some 101) : StepI Tryz.prog ops Q a0 m25aDS I (GV (m25aGS M g o q n uc kc i t u)) 5 { dst := some 102, op := .move (.tmp 9), type := ty, pos := pos, after := af, guard := some (4, true) } := by
  intro a w hout hI hdep K hK
  obtain ⟨vg, gg, eg⟩ := hdep ⟨4, .guard⟩ hg rfl
  have eg := eg 101 rfl
  have gg := gg _ rfl
  subst gg
  have hy := yielded_is hgo eg
  rw [if_neg (by simp [Region.wanted, hy])]
  exact hK _ _ (gv_none rfl) hI
set_option maxRecDepth 100000 in
set_option maxHeartbeats 1000000 in
theorem m25a103 (hg : (⟨4, .guard⟩ : Edge) ∈ af.toList) (hgo : ops[4]?.bind (·.dst) = some 101) : StepI Tryz.prog ops Q a0 m25aDS I (GV (m25aGS M g o q n uc kc i t u)) 6 { dst := some 103, op := .move (.tmp 14), type := ty, pos := pos, after := af, guard := some (4, true) } := by
  intro a w hout hI hdep K hK
  obtain ⟨vg, gg, eg⟩ := hdep ⟨4, .guard⟩ hg rfl
  have eg := eg 101 rfl
  have gg := gg _ rfl
  subst gg
  have hy := yielded_is hgo eg
  rw [if_neg (by simp [Region.wanted, hy])]
  exact hK _ _ (gv_none rfl) hI
set_option maxRecDepth 100000 in
set_option maxHeartbeats 1000000 in
theorem m25a104 (hg : (⟨4, .guard⟩ : Edge) ∈ af.toList) (hgo : ops[4]?.bind (·.dst) = some 101) : StepI Tryz.prog ops Q a0 m25aDS I (GV (m25aGS M g o q n uc kc i t u)) 7 { dst := some 104, op := .binOp .add 3 (.tmp 103) (.const (.int .i64 1)) 3, type := ty, pos := pos, after := af, guard := some (4, true) } := by
  intro a w hout hI hdep K hK
  obtain ⟨vg, gg, eg⟩ := hdep ⟨4, .guard⟩ hg rfl
  have eg := eg 101 rfl
  have gg := gg _ rfl
  subst gg
  have hy := yielded_is hgo eg
  rw [if_neg (by simp [Region.wanted, hy])]
  exact hK _ _ (gv_none rfl) hI
set_option maxRecDepth 100000 in
set_option maxHeartbeats 1000000 in
theorem m25a105 (hg : (⟨4, .guard⟩ : Edge) ∈ af.toList) (hgo : ops[4]?.bind (·.dst) = some 101) : StepI Tryz.prog ops Q a0 m25aDS I (GV (m25aGS M g o q n uc kc i t u)) 8 { dst := some 105, op := .indexAddr 45 (.tmp 102) (.tmp 104), type := ty, pos := pos, after := af, guard := some (4, true) } := by
  intro a w hout hI hdep K hK
  obtain ⟨vg, gg, eg⟩ := hdep ⟨4, .guard⟩ hg rfl
  have eg := eg 101 rfl
  have gg := gg _ rfl
  subst gg
  have hy := yielded_is hgo eg
  rw [if_neg (by simp [Region.wanted, hy])]
  exact hK _ _ (gv_none rfl) hI
set_option maxRecDepth 100000 in
set_option maxHeartbeats 1000000 in
theorem m25a106 (hg : (⟨4, .guard⟩ : Edge) ∈ af.toList) (hgo : ops[4]?.bind (·.dst) = some 101) : StepI Tryz.prog ops Q a0 m25aDS I (GV (m25aGS M g o q n uc kc i t u)) 9 { dst := some 106, op := .load 4 (.tmp 105), type := ty, pos := pos, after := af, guard := some (4, true) } := by
  intro a w hout hI hdep K hK
  obtain ⟨vg, gg, eg⟩ := hdep ⟨4, .guard⟩ hg rfl
  have eg := eg 101 rfl
  have gg := gg _ rfl
  subst gg
  have hy := yielded_is hgo eg
  rw [if_neg (by simp [Region.wanted, hy])]
  exact hK _ _ (gv_none rfl) hI
set_option maxRecDepth 100000 in
set_option maxHeartbeats 1000000 in
theorem m25a107 (h101 : (⟨4, .data⟩ : Edge) ∈ af.toList) : StepI Tryz.prog ops Q a0 m25aDS I (GV (m25aGS M g o q n uc kc i t u)) 10 { dst := some 107, op := .pick (.tmp 101) (.tmp 106) (.const (.bool false)), type := ty, pos := pos, after := af, guard := none } := by
  intro a w hout hI hdep K hK
  rw [if_pos (by simp [Region.wanted])]
  obtain ⟨v101, g101, e101⟩ := hdep ⟨4, .data⟩ h101 rfl
  have e101 := e101 101 rfl
  have g101 := g101 _ rfl
  subst g101
  clear hout hdep
  go_simp
  exact hK _ _ (gv_of rfl (by first | rfl | (simp; done))) hI
set_option maxRecDepth 100000 in
set_option maxHeartbeats 1000000 in
theorem m25a108 (h107 : (⟨10, .data⟩ : Edge) ∈ af.toList) : StepI Tryz.prog ops Q a0 m25aDS I (GV (m25aGS M g o q n uc kc i t u)) 11 { dst := some 108, op := .move (.tmp 107), type := ty, pos := pos, after := af, guard := none } := by
  intro a w hout hI hdep K hK
  rw [if_pos (by simp [Region.wanted])]
  obtain ⟨v107, g107, e107⟩ := hdep ⟨10, .data⟩ h107 rfl
  have e107 := e107 107 rfl
  have g107 := g107 _ rfl
  subst g107
  clear hout hdep
  go_simp
  exact hK _ _ (gv_of rfl (by first | rfl | (simp; done))) hI
set_option maxRecDepth 100000 in
set_option maxHeartbeats 1000000 in
theorem m25a109 (hg : (⟨11, .guard⟩ : Edge) ∈ af.toList) (hgo : ops[11]?.bind (·.dst) = some 108) : StepI Tryz.prog ops Q a0 m25aDS I (GV (m25aGS M g o q n uc kc i t u)) 12 { dst := some 109, op := .move (.tmp 7), type := ty, pos := pos, after := af, guard := some (11, true) } := by
  intro a w hout hI hdep K hK
  obtain ⟨vg, gg, eg⟩ := hdep ⟨11, .guard⟩ hg rfl
  have eg := eg 108 rfl
  have gg := gg _ rfl
  subst gg
  have hy := yielded_is hgo eg
  rw [if_neg (by simp [Region.wanted, hy])]
  exact hK _ _ (gv_none rfl) hI
set_option maxRecDepth 100000 in
set_option maxHeartbeats 1000000 in
theorem m25a110 (hg : (⟨11, .guard⟩ : Edge) ∈ af.toList) (hgo : ops[11]?.bind (·.dst) = some 108) : StepI Tryz.prog ops Q a0 m25aDS I (GV (m25aGS M g o q n uc kc i t u)) 13 { dst := some 110, op := .move (.tmp 2), type := ty, pos := pos, after := af, guard := some (11, true) } := by
  intro a w hout hI hdep K hK
  obtain ⟨vg, gg, eg⟩ := hdep ⟨11, .guard⟩ hg rfl
  have eg := eg 108 rfl
  have gg := gg _ rfl
  subst gg
  have hy := yielded_is hgo eg
  rw [if_neg (by simp [Region.wanted, hy])]
  exact hK _ _ (gv_none rfl) hI
set_option maxRecDepth 100000 in
set_option maxHeartbeats 1000000 in
theorem m25a111 (hg : (⟨11, .guard⟩ : Edge) ∈ af.toList) (hgo : ops[11]?.bind (·.dst) = some 108) : StepI Tryz.prog ops Q a0 m25aDS I (GV (m25aGS M g o q n uc kc i t u)) 14 { dst := some 111, op := .move (.tmp 14), type := ty, pos := pos, after := af, guard := some (11, true) } := by
  intro a w hout hI hdep K hK
  obtain ⟨vg, gg, eg⟩ := hdep ⟨11, .guard⟩ hg rfl
  have eg := eg 108 rfl
  have gg := gg _ rfl
  subst gg
  have hy := yielded_is hgo eg
  rw [if_neg (by simp [Region.wanted, hy])]
  exact hK _ _ (gv_none rfl) hI
set_option maxRecDepth 100000 in
set_option maxHeartbeats 1000000 in
theorem m25a112 (hg : (⟨11, .guard⟩ : Edge) ∈ af.toList) (hgo : ops[11]?.bind (·.dst) = some 108) : StepI Tryz.prog ops Q a0 m25aDS I (GV (m25aGS M g o q n uc kc i t u)) 15 { dst := some 112, op := .indexAddr 22 (.tmp 110) (.tmp 111), type := ty, pos := pos, after := af, guard := some (11, true) } := by
  intro a w hout hI hdep K hK
  obtain ⟨vg, gg, eg⟩ := hdep ⟨11, .guard⟩ hg rfl
  have eg := eg 108 rfl
  have gg := gg _ rfl
  subst gg
  have hy := yielded_is hgo eg
  rw [if_neg (by simp [Region.wanted, hy])]
  exact hK _ _ (gv_none rfl) hI
set_option maxRecDepth 100000 in
set_option maxHeartbeats 1000000 in
theorem m25a113 (hg : (⟨11, .guard⟩ : Edge) ∈ af.toList) (hgo : ops[11]?.bind (·.dst) = some 108) : StepI Tryz.prog ops Q a0 m25aDS I (GV (m25aGS M g o q n uc kc i t u)) 16 { dst := some 113, op := .load 28 (.tmp 112), type := ty, pos := pos, after := af, guard := some (11, true) } := by
  intro a w hout hI hdep K hK
  obtain ⟨vg, gg, eg⟩ := hdep ⟨11, .guard⟩ hg rfl
  have eg := eg 108 rfl
  have gg := gg _ rfl
  subst gg
  have hy := yielded_is hgo eg
  rw [if_neg (by simp [Region.wanted, hy])]
  exact hK _ _ (gv_none rfl) hI
set_option maxRecDepth 100000 in
set_option maxHeartbeats 1000000 in
theorem m25a114 (hg : (⟨11, .guard⟩ : Edge) ∈ af.toList) (hgo : ops[11]?.bind (·.dst) = some 108) : StepI Tryz.prog ops Q a0 m25aDS I (GV (m25aGS M g o q n uc kc i t u)) 17 { dst := some 114, op := .move (.tmp 2), type := ty, pos := pos, after := af, guard := some (11, true) } := by
  intro a w hout hI hdep K hK
  obtain ⟨vg, gg, eg⟩ := hdep ⟨11, .guard⟩ hg rfl
  have eg := eg 108 rfl
  have gg := gg _ rfl
  subst gg
  have hy := yielded_is hgo eg
  rw [if_neg (by simp [Region.wanted, hy])]
  exact hK _ _ (gv_none rfl) hI
set_option maxRecDepth 100000 in
set_option maxHeartbeats 1000000 in
theorem m25a115 (hg : (⟨11, .guard⟩ : Edge) ∈ af.toList) (hgo : ops[11]?.bind (·.dst) = some 108) : StepI Tryz.prog ops Q a0 m25aDS I (GV (m25aGS M g o q n uc kc i t u)) 18 { dst := some 115, op := .move (.tmp 14), type := ty, pos := pos, after := af, guard := some (11, true) } := by
  intro a w hout hI hdep K hK
  obtain ⟨vg, gg, eg⟩ := hdep ⟨11, .guard⟩ hg rfl
  have eg := eg 108 rfl
  have gg := gg _ rfl
  subst gg
  have hy := yielded_is hgo eg
  rw [if_neg (by simp [Region.wanted, hy])]
  exact hK _ _ (gv_none rfl) hI
set_option maxRecDepth 100000 in
set_option maxHeartbeats 1000000 in
theorem m25a116 (hg : (⟨11, .guard⟩ : Edge) ∈ af.toList) (hgo : ops[11]?.bind (·.dst) = some 108) : StepI Tryz.prog ops Q a0 m25aDS I (GV (m25aGS M g o q n uc kc i t u)) 19 { dst := some 116, op := .binOp .add 3 (.tmp 115) (.const (.int .i64 1)) 3, type := ty, pos := pos, after := af, guard := some (11, true) } := by
  intro a w hout hI hdep K hK
  obtain ⟨vg, gg, eg⟩ := hdep ⟨11, .guard⟩ hg rfl
  have eg := eg 108 rfl
  have gg := gg _ rfl
  subst gg
  have hy := yielded_is hgo eg
  rw [if_neg (by simp [Region.wanted, hy])]
  exact hK _ _ (gv_none rfl) hI
set_option maxRecDepth 100000 in
set_option maxHeartbeats 1000000 in
theorem m25a117 (hg : (⟨11, .guard⟩ : Edge) ∈ af.toList) (hgo : ops[11]?.bind (·.dst) = some 108) : StepI Tryz.prog ops Q a0 m25aDS I (GV (m25aGS M g o q n uc kc i t u)) 20 { dst := some 117, op := .indexAddr 22 (.tmp 114) (.tmp 116), type := ty, pos := pos, after := af, guard := some (11, true) } := by
  intro a w hout hI hdep K hK
  obtain ⟨vg, gg, eg⟩ := hdep ⟨11, .guard⟩ hg rfl
  have eg := eg 108 rfl
  have gg := gg _ rfl
  subst gg
  have hy := yielded_is hgo eg
  rw [if_neg (by simp [Region.wanted, hy])]
  exact hK _ _ (gv_none rfl) hI
set_option maxRecDepth 100000 in
set_option maxHeartbeats 1000000 in
theorem m25a118 (hg : (⟨11, .guard⟩ : Edge) ∈ af.toList) (hgo : ops[11]?.bind (·.dst) = some 108) : StepI Tryz.prog ops Q a0 m25aDS I (GV (m25aGS M g o q n uc kc i t u)) 21 { dst := some 118, op := .load 28 (.tmp 117), type := ty, pos := pos, after := af, guard := some (11, true) } := by
  intro a w hout hI hdep K hK
  obtain ⟨vg, gg, eg⟩ := hdep ⟨11, .guard⟩ hg rfl
  have eg := eg 108 rfl
  have gg := gg _ rfl
  subst gg
  have hy := yielded_is hgo eg
  rw [if_neg (by simp [Region.wanted, hy])]
  exact hK _ _ (gv_none rfl) hI
set_option maxRecDepth 100000 in
set_option maxHeartbeats 1000000 in
theorem m25a119 (hg : (⟨11, .guard⟩ : Edge) ∈ af.toList) (hgo : ops[11]?.bind (·.dst) = some 108) : StepI Tryz.prog ops Q a0 m25aDS I (GV (m25aGS M g o q n uc kc i t u)) 22 { dst := some 119, op := .call { callee := .value (.func 25), args := #[.tmp 109, .tmp 113, .tmp 118], argTypes := at_ }, type := ty, pos := pos, after := af, guard := some (11, true) } := by
  intro a w hout hI hdep K hK
  obtain ⟨vg, gg, eg⟩ := hdep ⟨11, .guard⟩ hg rfl
  have eg := eg 108 rfl
  have gg := gg _ rfl
  subst gg
  have hy := yielded_is hgo eg
  rw [if_neg (by simp [Region.wanted, hy])]
  exact hK _ _ (gv_none rfl) hI
set_option maxRecDepth 100000 in
set_option maxHeartbeats 1000000 in
theorem m25a120 (hg : (⟨11, .guard⟩ : Edge) ∈ af.toList) (hgo : ops[11]?.bind (·.dst) = some 108) : StepI Tryz.prog ops Q a0 m25aDS I (GV (m25aGS M g o q n uc kc i t u)) 23 { dst := some 120, op := .unOp .not 4 (.tmp 119), type := ty, pos := pos, after := af, guard := some (11, true) } := by
  intro a w hout hI hdep K hK
  obtain ⟨vg, gg, eg⟩ := hdep ⟨11, .guard⟩ hg rfl
  have eg := eg 108 rfl
  have gg := gg _ rfl
  subst gg
  have hy := yielded_is hgo eg
  rw [if_neg (by simp [Region.wanted, hy])]
  exact hK _ _ (gv_none rfl) hI
set_option maxRecDepth 100000 in
set_option maxHeartbeats 1000000 in
theorem m25a121 (h108 : (⟨11, .data⟩ : Edge) ∈ af.toList) : StepI Tryz.prog ops Q a0 m25aDS I (GV (m25aGS M g o q n uc kc i t u)) 24 { dst := some 121, op := .pick (.tmp 108) (.tmp 120) (.const (.bool false)), type := ty, pos := pos, after := af, guard := none } := by
  intro a w hout hI hdep K hK
  rw [if_pos (by simp [Region.wanted])]
  obtain ⟨v108, g108, e108⟩ := hdep ⟨11, .data⟩ h108 rfl
  have e108 := e108 108 rfl
  have g108 := g108 _ rfl
  subst g108
  clear hout hdep
  go_simp
  exact hK _ _ (gv_of rfl (by first | rfl | (simp; done))) hI
end
def m25bDS : List (Option Nat) := [some 97, some 98, some 99, some 100, some 101, some 102, some 103, some 104, some 105, some 106, some 107, some 108, some 109, some 110, some 111, some 112, some 113, some 114, some 115, some 116, some 117, some 118, some 119, some 120, some 121]
def m25bGS (M g o q n uc kc i : Nat) (t u : List UInt8) : List (Option Value) := [some (.slice (some ⟨q, 0, none⟩) n kc), some (.int .i64 i), some (.pointer (some ⟨q, i, none⟩)), some (.bool true), some (.bool true), some (.slice (some ⟨q, 0, none⟩) n kc), some (.int .i64 i), some (.int .i64 ((i : Int) + 1)), some (.pointer (some ⟨q, i + 1, none⟩)), some (.bool false), some (.bool false), some (.bool false), none, none, none, none, none, none, none, none, none, none, none, none, some (.bool false)]
section
variable {ops : Array Oper} {Q : Exit → Act → World → Prop} {a0 : Act} {I : World → Prop} {af : Array Edge} {ty : Nat} {pos : String} {at_ : Array TypeId} {M g o q n uc kc i : Nat} {t u : List UInt8}
set_option maxRecDepth 100000 in
set_option maxHeartbeats 1000000 in
theorem m25b97 (o9 : a0.tmps[9]? = some (.slice (some ⟨q, 0, none⟩) n kc)) : StepI Tryz.prog ops Q a0 m25bDS I (GV (m25bGS M g o q n uc kc i t u)) 0 { dst := some 97, op := .move (.tmp 9), type := ty, pos := pos, after := af, guard := none } := by
  intro a w hout hI hdep K hK
  rw [if_pos (by simp [Region.wanted])]
  have o9w := (hout 9 (by decide)).trans o9
  clear hout hdep
  clear o9
  go_simp
  exact hK _ _ (gv_of rfl (by first | rfl | (simp; done))) hI
set_option maxRecDepth 100000 in
set_option maxHeartbeats 1000000 in
theorem m25b98 (o14 : a0.tmps[14]? = some (.int .i64 i)) : StepI Tryz.prog ops Q a0 m25bDS I (GV (m25bGS M g o q n uc kc i t u)) 1 { dst := some 98, op := .move (.tmp 14), type := ty, pos := pos, after := af, guard := none } := by
  intro a w hout hI hdep K hK
  rw [if_pos (by simp [Region.wanted])]
  have o14w := (hout 14 (by decide)).trans o14
  clear hout hdep
  clear o14
  go_simp
  exact hK _ _ (gv_of rfl (by first | rfl | (simp; done))) hI
set_option maxRecDepth 100000 in
set_option maxHeartbeats 1000000 in
theorem m25b99 (h97 : (⟨0, .data⟩ : Edge) ∈ af.toList) (h98 : (⟨1, .data⟩ : Edge) ∈ af.toList) (hlt : (i : Int) < (n : Int)) : StepI Tryz.prog ops Q a0 m25bDS I (GV (m25bGS M g o q n uc kc i t u)) 2 { dst := some 99, op := .indexAddr 45 (.tmp 97) (.tmp 98), type := ty, pos := pos, after := af, guard := none } := by
  intro a w hout hI hdep K hK
  rw [if_pos (by simp [Region.wanted])]
  obtain ⟨v97, g97, e97⟩ := hdep ⟨0, .data⟩ h97 rfl
  have e97 := e97 97 rfl
  have g97 := g97 _ rfl
  subst g97
  obtain ⟨v98, g98, e98⟩ := hdep ⟨1, .data⟩ h98 rfl
  have e98 := e98 98 rfl
  have g98 := g98 _ rfl
  subst g98
  clear hout hdep
  go_simp
  exact hK _ _ (gv_of rfl (by first | rfl | (simp; done))) hI
set_option maxRecDepth 100000 in
set_option maxHeartbeats 1000000 in
theorem m25b100 (h99 : (⟨2, .data⟩ : Edge) ∈ af.toList) (hL : ∀ w, I w → w.cell? ⟨q, i, none⟩ = some (.bool true)) : StepI Tryz.prog ops Q a0 m25bDS I (GV (m25bGS M g o q n uc kc i t u)) 3 { dst := some 100, op := .load 4 (.tmp 99), type := ty, pos := pos, after := af, guard := none } := by
  intro a w hout hI hdep K hK
  rw [if_pos (by simp [Region.wanted])]
  obtain ⟨v99, g99, e99⟩ := hdep ⟨2, .data⟩ h99 rfl
  have e99 := e99 99 rfl
  have g99 := g99 _ rfl
  subst g99
  have hLw := hL w hI
  clear hout hdep
  go_simp
  exact hK _ _ (gv_of rfl (by first | rfl | (simp; done))) hI
set_option maxRecDepth 100000 in
set_option maxHeartbeats 1000000 in
theorem m25b101 (h100 : (⟨3, .data⟩ : Edge) ∈ af.toList) : StepI Tryz.prog ops Q a0 m25bDS I (GV (m25bGS M g o q n uc kc i t u)) 4 { dst := some 101, op := .move (.tmp 100), type := ty, pos := pos, after := af, guard := none } := by
  intro a w hout hI hdep K hK
  rw [if_pos (by simp [Region.wanted])]
  obtain ⟨v100, g100, e100⟩ := hdep ⟨3, .data⟩ h100 rfl
  have e100 := e100 100 rfl
  have g100 := g100 _ rfl
  subst g100
  clear hout hdep
  go_simp
  exact hK _ _ (gv_of rfl (by first | rfl | (simp; done))) hI
set_option maxRecDepth 100000 in
set_option maxHeartbeats 1000000 in
theorem m25b102 (hg : (⟨4, .guard⟩ : Edge) ∈ af.toList) (hgo : ops[4]?.bind (·.dst) = some 101) (o9 : a0.tmps[9]? = some (.slice (some ⟨q, 0, none⟩) n kc)) : StepI Tryz.prog ops Q a0 m25bDS I (GV (m25bGS M g o q n uc kc i t u)) 5 { dst := some 102, op := .move (.tmp 9), type := ty, pos := pos, after := af, guard := some (4, true) } := by
  intro a w hout hI hdep K hK
  obtain ⟨vg, gg, eg⟩ := hdep ⟨4, .guard⟩ hg rfl
  have eg := eg 101 rfl
  have gg := gg _ rfl
  subst gg
  have hy := yielded_is hgo eg
  rw [if_pos (by simp [Region.wanted, hy])]
  have o9w := (hout 9 (by decide)).trans o9
  clear hout hdep hy
  clear o9
  go_simp
  exact hK _ _ (gv_of rfl (by first | rfl | (simp; done))) hI
set_option maxRecDepth 100000 in
set_option maxHeartbeats 1000000 in
theorem m25b103 (hg : (⟨4, .guard⟩ : Edge) ∈ af.toList) (hgo : ops[4]?.bind (·.dst) = some 101) (o14 : a0.tmps[14]? = some (.int .i64 i)) : StepI Tryz.prog ops Q a0 m25bDS I (GV (m25bGS M g o q n uc kc i t u)) 6 { dst := some 103, op := .move (.tmp 14), type := ty, pos := pos, after := af, guard := some (4, true) } := by
  intro a w hout hI hdep K hK
  obtain ⟨vg, gg, eg⟩ := hdep ⟨4, .guard⟩ hg rfl
  have eg := eg 101 rfl
  have gg := gg _ rfl
  subst gg
  have hy := yielded_is hgo eg
  rw [if_pos (by simp [Region.wanted, hy])]
  have o14w := (hout 14 (by decide)).trans o14
  clear hout hdep hy
  clear o14
  go_simp
  exact hK _ _ (gv_of rfl (by first | rfl | (simp; done))) hI
set_option maxRecDepth 100000 in
set_option maxHeartbeats 1000000 in
theorem m25b104 (hg : (⟨4, .guard⟩ : Edge) ∈ af.toList) (hgo : ops[4]?.bind (·.dst) = some 101) (h103 : (⟨6, .data⟩ : Edge) ∈ af.toList) (hwr : IntKind.i64.wrap ((i : Int) + 1) = (i : Int) + 1) : StepI Tryz.prog ops Q a0 m25bDS I (GV (m25bGS M g o q n uc kc i t u)) 7 { dst := some 104, op := .binOp .add 3 (.tmp 103) (.const (.int .i64 1)) 3, type := ty, pos := pos, after := af, guard := some (4, true) } := by
  intro a w hout hI hdep K hK
  obtain ⟨vg, gg, eg⟩ := hdep ⟨4, .guard⟩ hg rfl
  have eg := eg 101 rfl
  have gg := gg _ rfl
  subst gg
  have hy := yielded_is hgo eg
  rw [if_pos (by simp [Region.wanted, hy])]
  obtain ⟨v103, g103, e103⟩ := hdep ⟨6, .data⟩ h103 rfl
  have e103 := e103 103 rfl
  have g103 := g103 _ rfl
  subst g103
  clear hout hdep hy
  go_simp
  exact hK _ _ (gv_of rfl (by first | rfl | (simp; done) | go_num)) hI
set_option maxRecDepth 100000 in
set_option maxHeartbeats 1000000 in
theorem m25b105 (hg : (⟨4, .guard⟩ : Edge) ∈ af.toList) (hgo : ops[4]?.bind (·.dst) = some 101) (h102 : (⟨5, .data⟩ : Edge) ∈ af.toList) (h104 : (⟨7, .data⟩ : Edge) ∈ af.toList) (hlt : (i : Int) + 1 < (n : Int)) (hlz : (0 : Int) ≤ (i : Int) + 1) (htn : ((i : Int) + 1).toNat = i + 1) : StepI Tryz.prog ops Q a0 m25bDS I (GV (m25bGS M g o q n uc kc i t u)) 8 { dst := some 105, op := .indexAddr 45 (.tmp 102) (.tmp 104), type := ty, pos := pos, after := af, guard := some (4, true) } := by
  intro a w hout hI hdep K hK
  obtain ⟨vg, gg, eg⟩ := hdep ⟨4, .guard⟩ hg rfl
  have eg := eg 101 rfl
  have gg := gg _ rfl
  subst gg
  have hy := yielded_is hgo eg
  rw [if_pos (by simp [Region.wanted, hy])]
  obtain ⟨v102, g102, e102⟩ := hdep ⟨5, .data⟩ h102 rfl
  have e102 := e102 102 rfl
  have g102 := g102 _ rfl
  subst g102
  obtain ⟨v104, g104, e104⟩ := hdep ⟨7, .data⟩ h104 rfl
  have e104 := e104 104 rfl
  have g104 := g104 _ rfl
  subst g104
  clear hout hdep hy
  go_simp
  exact hK _ _ (gv_of rfl (by first | rfl | (simp; done))) hI
set_option maxRecDepth 100000 in
set_option maxHeartbeats 1000000 in
theorem m25b106 (hg : (⟨4, .guard⟩ : Edge) ∈ af.toList) (hgo : ops[4]?.bind (·.dst) = some 101) (h105 : (⟨8, .data⟩ : Edge) ∈ af.toList) (hL : ∀ w, I w → w.cell? ⟨q, i + 1, none⟩ = some (.bool false)) : StepI Tryz.prog ops Q a0 m25bDS I (GV (m25bGS M g o q n uc kc i t u)) 9 { dst := some 106, op := .load 4 (.tmp 105), type := ty, pos := pos, after := af, guard := some (4, true) } := by
  intro a w hout hI hdep K hK
  obtain ⟨vg, gg, eg⟩ := hdep ⟨4, .guard⟩ hg rfl
  have eg := eg 101 rfl
  have gg := gg _ rfl
  subst gg
  have hy := yielded_is hgo eg
  rw [if_pos (by simp [Region.wanted, hy])]
  obtain ⟨v105, g105, e105⟩ := hdep ⟨8, .data⟩ h105 rfl
  have e105 := e105 105 rfl
  have g105 := g105 _ rfl
  subst g105
  have hLw := hL w hI
  clear hout hdep hy
  go_simp
  exact hK _ _ (gv_of rfl (by first | rfl | (simp; done))) hI
set_option maxRecDepth 100000 in
set_option maxHeartbeats 1000000 in
theorem m25b107 (h101 : (⟨4, .data⟩ : Edge) ∈ af.toList) (h106 : (⟨9, .data⟩ : Edge) ∈ af.toList) : StepI Tryz.prog ops Q a0 m25bDS I (GV (m25bGS M g o q n uc kc i t u)) 10 { dst := some 107, op := .pick (.tmp 101) (.tmp 106) (.const (.bool false)), type := ty, pos := pos, after := af, guard := none } := by
  intro a w hout hI hdep K hK
  rw [if_pos (by simp [Region.wanted])]
  obtain ⟨v101, g101, e101⟩ := hdep ⟨4, .data⟩ h101 rfl
  have e101 := e101 101 rfl
  have g101 := g101 _ rfl
  subst g101
  obtain ⟨v106, g106, e106⟩ := hdep ⟨9, .data⟩ h106 rfl
  have e106 := e106 106 rfl
  have g106 := g106 _ rfl
  subst g106
  clear hout hdep
  go_simp
  exact hK _ _ (gv_of rfl (by first | rfl | (simp; done))) hI
set_option maxRecDepth 100000 in
set_option maxHeartbeats 1000000 in
theorem m25b108 (h107 : (⟨10, .data⟩ : Edge) ∈ af.toList) : StepI Tryz.prog ops Q a0 m25bDS I (GV (m25bGS M g o q n uc kc i t u)) 11 { dst := some 108, op := .move (.tmp 107), type := ty, pos := pos, after := af, guard := none } := by
  intro a w hout hI hdep K hK
  rw [if_pos (by simp [Region.wanted])]
  obtain ⟨v107, g107, e107⟩ := hdep ⟨10, .data⟩ h107 rfl
  have e107 := e107 107 rfl
  have g107 := g107 _ rfl
  subst g107
  clear hout hdep
  go_simp
  exact hK _ _ (gv_of rfl (by first | rfl | (simp; done))) hI
set_option maxRecDepth 100000 in
set_option maxHeartbeats 1000000 in
theorem m25b109 (hg : (⟨11, .guard⟩ : Edge) ∈ af.toList) (hgo : ops[11]?.bind (·.dst) = some 108) : StepI Tryz.prog ops Q a0 m25bDS I (GV (m25bGS M g o q n uc kc i t u)) 12 { dst := some 109, op := .move (.tmp 7), type := ty, pos := pos, after := af, guard := some (11, true) } := by
  intro a w hout hI hdep K hK
  obtain ⟨vg, gg, eg⟩ := hdep ⟨11, .guard⟩ hg rfl
  have eg := eg 108 rfl
  have gg := gg _ rfl
  subst gg
  have hy := yielded_is hgo eg
  rw [if_neg (by simp [Region.wanted, hy])]
  exact hK _ _ (gv_none rfl) hI
set_option maxRecDepth 100000 in
set_option maxHeartbeats 1000000 in
theorem m25b110 (hg : (⟨11, .guard⟩ : Edge) ∈ af.toList) (hgo : ops[11]?.bind (·.dst) = some 108) : StepI Tryz.prog ops Q a0 m25bDS I (GV (m25bGS M g o q n uc kc i t u)) 13 { dst := some 110, op := .move (.tmp 2), type := ty, pos := pos, after := af, guard := some (11, true) } := by
  intro a w hout hI hdep K hK
  obtain ⟨vg, gg, eg⟩ := hdep ⟨11, .guard⟩ hg rfl
  have eg := eg 108 rfl
  have gg := gg _ rfl
  subst gg
  have hy := yielded_is hgo eg
  rw [if_neg (by simp [Region.wanted, hy])]
  exact hK _ _ (gv_none rfl) hI
set_option maxRecDepth 100000 in
set_option maxHeartbeats 1000000 in
theorem m25b111 (hg : (⟨11, .guard⟩ : Edge) ∈ af.toList) (hgo : ops[11]?.bind (·.dst) = some 108) : StepI Tryz.prog ops Q a0 m25bDS I (GV (m25bGS M g o q n uc kc i t u)) 14 { dst := some 111, op := .move (.tmp 14), type := ty, pos := pos, after := af, guard := some (11, true) } := by
  intro a w hout hI hdep K hK
  obtain ⟨vg, gg, eg⟩ := hdep ⟨11, .guard⟩ hg rfl
  have eg := eg 108 rfl
  have gg := gg _ rfl
  subst gg
  have hy := yielded_is hgo eg
  rw [if_neg (by simp [Region.wanted, hy])]
  exact hK _ _ (gv_none rfl) hI
set_option maxRecDepth 100000 in
set_option maxHeartbeats 1000000 in
theorem m25b112 (hg : (⟨11, .guard⟩ : Edge) ∈ af.toList) (hgo : ops[11]?.bind (·.dst) = some 108) : StepI Tryz.prog ops Q a0 m25bDS I (GV (m25bGS M g o q n uc kc i t u)) 15 { dst := some 112, op := .indexAddr 22 (.tmp 110) (.tmp 111), type := ty, pos := pos, after := af, guard := some (11, true) } := by
  intro a w hout hI hdep K hK
  obtain ⟨vg, gg, eg⟩ := hdep ⟨11, .guard⟩ hg rfl
  have eg := eg 108 rfl
  have gg := gg _ rfl
  subst gg
  have hy := yielded_is hgo eg
  rw [if_neg (by simp [Region.wanted, hy])]
  exact hK _ _ (gv_none rfl) hI
set_option maxRecDepth 100000 in
set_option maxHeartbeats 1000000 in
theorem m25b113 (hg : (⟨11, .guard⟩ : Edge) ∈ af.toList) (hgo : ops[11]?.bind (·.dst) = some 108) : StepI Tryz.prog ops Q a0 m25bDS I (GV (m25bGS M g o q n uc kc i t u)) 16 { dst := some 113, op := .load 28 (.tmp 112), type := ty, pos := pos, after := af, guard := some (11, true) } := by
  intro a w hout hI hdep K hK
  obtain ⟨vg, gg, eg⟩ := hdep ⟨11, .guard⟩ hg rfl
  have eg := eg 108 rfl
  have gg := gg _ rfl
  subst gg
  have hy := yielded_is hgo eg
  rw [if_neg (by simp [Region.wanted, hy])]
  exact hK _ _ (gv_none rfl) hI
set_option maxRecDepth 100000 in
set_option maxHeartbeats 1000000 in
theorem m25b114 (hg : (⟨11, .guard⟩ : Edge) ∈ af.toList) (hgo : ops[11]?.bind (·.dst) = some 108) : StepI Tryz.prog ops Q a0 m25bDS I (GV (m25bGS M g o q n uc kc i t u)) 17 { dst := some 114, op := .move (.tmp 2), type := ty, pos := pos, after := af, guard := some (11, true) } := by
  intro a w hout hI hdep K hK
  obtain ⟨vg, gg, eg⟩ := hdep ⟨11, .guard⟩ hg rfl
  have eg := eg 108 rfl
  have gg := gg _ rfl
  subst gg
  have hy := yielded_is hgo eg
  rw [if_neg (by simp [Region.wanted, hy])]
  exact hK _ _ (gv_none rfl) hI
set_option maxRecDepth 100000 in
set_option maxHeartbeats 1000000 in
theorem m25b115 (hg : (⟨11, .guard⟩ : Edge) ∈ af.toList) (hgo : ops[11]?.bind (·.dst) = some 108) : StepI Tryz.prog ops Q a0 m25bDS I (GV (m25bGS M g o q n uc kc i t u)) 18 { dst := some 115, op := .move (.tmp 14), type := ty, pos := pos, after := af, guard := some (11, true) } := by
  intro a w hout hI hdep K hK
  obtain ⟨vg, gg, eg⟩ := hdep ⟨11, .guard⟩ hg rfl
  have eg := eg 108 rfl
  have gg := gg _ rfl
  subst gg
  have hy := yielded_is hgo eg
  rw [if_neg (by simp [Region.wanted, hy])]
  exact hK _ _ (gv_none rfl) hI
set_option maxRecDepth 100000 in
set_option maxHeartbeats 1000000 in
theorem m25b116 (hg : (⟨11, .guard⟩ : Edge) ∈ af.toList) (hgo : ops[11]?.bind (·.dst) = some 108) : StepI Tryz.prog ops Q a0 m25bDS I (GV (m25bGS M g o q n uc kc i t u)) 19 { dst := some 116, op := .binOp .add 3 (.tmp 115) (.const (.int .i64 1)) 3, type := ty, pos := pos, after := af, guard := some (11, true) } := by
  intro a w hout hI hdep K hK
  obtain ⟨vg, gg, eg⟩ := hdep ⟨11, .guard⟩ hg rfl
  have eg := eg 108 rfl
  have gg := gg _ rfl
  subst gg
  have hy := yielded_is hgo eg
  rw [if_neg (by simp [Region.wanted, hy])]
  exact hK _ _ (gv_none rfl) hI
set_option maxRecDepth 100000 in
set_option maxHeartbeats 1000000 in
theorem m25b117 (hg : (⟨11, .guard⟩ : Edge) ∈ af.toList) (hgo : ops[11]?.bind (·.dst) = some 108) : StepI Tryz.prog ops Q a0 m25bDS I (GV (m25bGS M g o q n uc kc i t u)) 20 { dst := some 117, op := .indexAddr 22 (.tmp 114) (.tmp 116), type := ty, pos := pos, after := af, guard := some (11, true) } := by
  intro a w hout hI hdep K hK
  obtain ⟨vg, gg, eg⟩ := hdep ⟨11, .guard⟩ hg rfl
  have eg := eg 108 rfl
  have gg := gg _ rfl
  subst gg
  have hy := yielded_is hgo eg
  rw [if_neg (by simp [Region.wanted, hy])]
  exact hK _ _ (gv_none rfl) hI
set_option maxRecDepth 100000 in
set_option maxHeartbeats 1000000 in
theorem m25b118 (hg : (⟨11, .guard⟩ : Edge) ∈ af.toList) (hgo : ops[11]?.bind (·.dst) = some 108) : StepI Tryz.prog ops Q a0 m25bDS I (GV (m25bGS M g o q n uc kc i t u)) 21 { dst := some 118, op := .load 28 (.tmp 117), type := ty, pos := pos, after := af, guard := some (11, true) } := by
  intro a w hout hI hdep K hK
  obtain ⟨vg, gg, eg⟩ := hdep ⟨11, .guard⟩ hg rfl
  have eg := eg 108 rfl
  have gg := gg _ rfl
  subst gg
  have hy := yielded_is hgo eg
  rw [if_neg (by simp [Region.wanted, hy])]
  exact hK _ _ (gv_none rfl) hI
set_option maxRecDepth 100000 in
set_option maxHeartbeats 1000000 in
theorem m25b119 (hg : (⟨11, .guard⟩ : Edge) ∈ af.toList) (hgo : ops[11]?.bind (·.dst) = some 108) : StepI Tryz.prog ops Q a0 m25bDS I (GV (m25bGS M g o q n uc kc i t u)) 22 { dst := some 119, op := .call { callee := .value (.func 25), args := #[.tmp 109, .tmp 113, .tmp 118], argTypes := at_ }, type := ty, pos := pos, after := af, guard := some (11, true) } := by
  intro a w hout hI hdep K hK
  obtain ⟨vg, gg, eg⟩ := hdep ⟨11, .guard⟩ hg rfl
  have eg := eg 108 rfl
  have gg := gg _ rfl
  subst gg
  have hy := yielded_is hgo eg
  rw [if_neg (by simp [Region.wanted, hy])]
  exact hK _ _ (gv_none rfl) hI
set_option maxRecDepth 100000 in
set_option maxHeartbeats 1000000 in
theorem m25b120 (hg : (⟨11, .guard⟩ : Edge) ∈ af.toList) (hgo : ops[11]?.bind (·.dst) = some 108) : StepI Tryz.prog ops Q a0 m25bDS I (GV (m25bGS M g o q n uc kc i t u)) 23 { dst := some 120, op := .unOp .not 4 (.tmp 119), type := ty, pos := pos, after := af, guard := some (11, true) } := by
  intro a w hout hI hdep K hK
  obtain ⟨vg, gg, eg⟩ := hdep ⟨11, .guard⟩ hg rfl
  have eg := eg 108 rfl
  have gg := gg _ rfl
  subst gg
  have hy := yielded_is hgo eg
  rw [if_neg (by simp [Region.wanted, hy])]
  exact hK _ _ (gv_none rfl) hI
set_option maxRecDepth 100000 in
set_option maxHeartbeats 1000000 in
theorem m25b121 (h108 : (⟨11, .data⟩ : Edge) ∈ af.toList) : StepI Tryz.prog ops Q a0 m25bDS I (GV (m25bGS M g o q n uc kc i t u)) 24 { dst := some 121, op := .pick (.tmp 108) (.tmp 120) (.const (.bool false)), type := ty, pos := pos, after := af, guard := none } := by
  intro a w hout hI hdep K hK
  rw [if_pos (by simp [Region.wanted])]
  obtain ⟨v108, g108, e108⟩ := hdep ⟨11, .data⟩ h108 rfl
  have e108 := e108 108 rfl
  have g108 := g108 _ rfl
  subst g108
  clear hout hdep
  go_simp
  exact hK _ _ (gv_of rfl (by first | rfl | (simp; done))) hI
end
def m25cDS : List (Option Nat) := [some 97, some 98, some 99, some 100, some 101, some 102, some 103, some 104, some 105, some 106, some 107, some 108, some 109, some 110, some 111, some 112, some 113, some 114, some 115, some 116, some 117, some 118, some 119, some 120, some 121]
def m25cGS (M g o q n uc kc i : Nat) (t u : List UInt8) : List (Option Value) := [some (.slice (some ⟨q, 0, none⟩) n kc), some (.int .i64 i), some (.pointer (some ⟨q, i, none⟩)), some (.bool true), some (.bool true), some (.slice (some ⟨q, 0, none⟩) n kc), some (.int .i64 i), some (.int .i64 ((i : Int) + 1)), some (.pointer (some ⟨q, i + 1, none⟩)), some (.bool true), some (.bool true), some (.bool true), some (.pointer (some ⟨M, 0, none⟩)), some (.slice (some ⟨g, o, none⟩) n uc), some (.int .i64 i), some (.pointer (some ⟨g, o + i, none⟩)), some (.string (bs t)), some (.slice (some ⟨g, o, none⟩) n uc), some (.int .i64 i), some (.int .i64 ((i : Int) + 1)), some (.pointer (some ⟨g, o + (i + 1), none⟩)), some (.string (bs u)), some (.bool true), some (.bool false), some (.bool false)]
section
variable {ops : Array Oper} {Q : Exit → Act → World → Prop} {a0 : Act} {I : World → Prop} {af : Array Edge} {ty : Nat} {pos : String} {at_ : Array TypeId} {M g o q n uc kc i : Nat} {t u : List UInt8}
set_option maxRecDepth 100000 in
set_option maxHeartbeats 1000000 in
theorem m25c97 (o9 : a0.tmps[9]? = some (.slice (some ⟨q, 0, none⟩) n kc)) : StepI Tryz.prog ops Q a0 m25cDS I (GV (m25cGS M g o q n uc kc i t u)) 0 { dst := some 97, op := .move (.tmp 9), type := ty, pos := pos, after := af, guard := none } := by
  intro a w hout hI hdep K hK
  rw [if_pos (by simp [Region.wanted])]
  have o9w := (hout 9 (by decide)).trans o9
  clear hout hdep
  clear o9
  go_simp
  exact hK _ _ (gv_of rfl (by first | rfl | (simp; done))) hI
set_option maxRecDepth 100000 in
set_option maxHeartbeats 1000000 in
theorem m25c98 (o14 : a0.tmps[14]? = some (.int .i64 i)) : StepI Tryz.prog ops Q a0 m25cDS I (GV (m25cGS M g o q n uc kc i t u)) 1 { dst := some 98, op := .move (.tmp 14), type := ty, pos := pos, after := af, guard := none } := by
  intro a w hout hI hdep K hK
  rw [if_pos (by simp [Region.wanted])]
  have o14w := (hout 14 (by decide)).trans o14
  clear hout hdep
  clear o14
  go_simp
  exact hK _ _ (gv_of rfl (by first | rfl | (simp; done))) hI
set_option maxRecDepth 100000 in
set_option maxHeartbeats 1000000 in
theorem m25c99 (h97 : (⟨0, .data⟩ : Edge) ∈ af.toList) (h98 : (⟨1, .data⟩ : Edge) ∈ af.toList) (hlt : (i : Int) < (n : Int)) : StepI Tryz.prog ops Q a0 m25cDS I (GV (m25cGS M g o q n uc kc i t u)) 2 { dst := some 99, op := .indexAddr 45 (.tmp 97) (.tmp 98), type := ty, pos := pos, after := af, guard := none } := by
  intro a w hout hI hdep K hK
  rw [if_pos (by simp [Region.wanted])]
  obtain ⟨v97, g97, e97⟩ := hdep ⟨0, .data⟩ h97 rfl
  have e97 := e97 97 rfl
  have g97 := g97 _ rfl
  subst g97
  obtain ⟨v98, g98, e98⟩ := hdep ⟨1, .data⟩ h98 rfl
  have e98 := e98 98 rfl
  have g98 := g98 _ rfl
  subst g98
  clear hout hdep
  go_simp
  exact hK _ _ (gv_of rfl (by first | rfl | (simp; done))) hI
set_option maxRecDepth 100000 in
set_option maxHeartbeats 1000000 in
theorem m25c100 (h99 : (⟨2, .data⟩ : Edge) ∈ af.toList) (hL : ∀ w, I w → w.cell? ⟨q, i, none⟩ = some (.bool true)) : StepI Tryz.prog ops Q a0 m25cDS I (GV (m25cGS M g o q n uc kc i t u)) 3 { dst := some 100, op := .load 4 (.tmp 99), type := ty, pos := pos, after := af, guard := none } := by
  intro a w hout hI hdep K hK
  rw [if_pos (by simp [Region.wanted])]
  obtain ⟨v99, g99, e99⟩ := hdep ⟨2, .data⟩ h99 rfl
  have e99 := e99 99 rfl
  have g99 := g99 _ rfl
  subst g99
  have hLw := hL w hI
  clear hout hdep
  go_simp
  exact hK _ _ (gv_of rfl (by first | rfl | (simp; done))) hI
set_option maxRecDepth 100000 in
set_option maxHeartbeats 1000000 in
theorem m25c101 (h100 : (⟨3, .data⟩ : Edge) ∈ af.toList) : StepI Tryz.prog ops Q a0 m25cDS I (GV (m25cGS M g o q n uc kc i t u)) 4 { dst := some 101, op := .move (.tmp 100), type := ty, pos := pos, after := af, guard := none } := by
  intro a w hout hI hdep K hK
  rw [if_pos (by simp [Region.wanted])]
  obtain ⟨v100, g100, e100⟩ := hdep ⟨3, .data⟩ h100 rfl
  have e100 := e100 100 rfl
  have g100 := g100 _ rfl
  subst g100
  clear hout hdep
  go_simp
  exact hK _ _ (gv_of rfl (by first | rfl | (simp; done))) hI
set_option maxRecDepth 100000 in
set_option maxHeartbeats 1000000 in
theorem m25c102 (hg : (⟨4, .guard⟩ : Edge) ∈ af.toList) (hgo : ops[4]?.bind (·.dst) = some 101) (o9 : a0.tmps[9]? = some (.slice (some ⟨q, 0, none⟩) n kc)) : StepI Tryz.prog ops Q a0 m25cDS I (GV (m25cGS M g o q n uc kc i t u)) 5 { dst := some 102, op := .move (.tmp 9), type := ty, pos := pos, after := af, guard := some (4, true) } := by
  intro a w hout hI hdep K hK
  obtain ⟨vg, gg, eg⟩ := hdep ⟨4, .guard⟩ hg rfl
  have eg := eg 101 rfl
  have gg := gg _ rfl
  subst gg
  have hy := yielded_is hgo eg
  rw [if_pos (by simp [Region.wanted, hy])]
  have o9w := (hout 9 (by decide)).trans o9
  clear hout hdep hy
  clear o9
  go_simp
  exact hK _ _ (gv_of rfl (by first | rfl | (simp; done))) hI
set_option maxRecDepth 100000 in
set_option maxHeartbeats 1000000 in
theorem m25c103 (hg : (⟨4, .guard⟩ : Edge) ∈ af.toList) (hgo : ops[4]?.bind (·.dst) = some 101) (o14 : a0.tmps[14]? = some (.int .i64 i)) : StepI Tryz.prog ops Q a0 m25cDS I (GV (m25cGS M g o q n uc kc i t u)) 6 { dst := some 103, op := .move (.tmp 14), type := ty, pos := pos, after := af, guard := some (4, true) } := by
  intro a w hout hI hdep K hK
  obtain ⟨vg, gg, eg⟩ := hdep ⟨4, .guard⟩ hg rfl
  have eg := eg 101 rfl
  have gg := gg _ rfl
  subst gg
  have hy := yielded_is hgo eg
  rw [if_pos (by simp [Region.wanted, hy])]
  have o14w := (hout 14 (by decide)).trans o14
  clear hout hdep hy
  clear o14
  go_simp
  exact hK _ _ (gv_of rfl (by first | rfl | (simp; done))) hI
set_option maxRecDepth 100000 in
set_option maxHeartbeats 1000000 in
theorem m25c104 (hg : (⟨4, .guard⟩ : Edge) ∈ af.toList) (hgo : ops[4]?.bind (·.dst) = some 101) (h103 : (⟨6, .data⟩ : Edge) ∈ af.toList) (hwr : IntKind.i64.wrap ((i : Int) + 1) = (i : Int) + 1) : StepI Tryz.prog ops Q a0 m25cDS I (GV (m25cGS M g o q n uc kc i t u)) 7 { dst := some 104, op := .binOp .add 3 (.tmp 103) (.const (.int .i64 1)) 3, type := ty, pos := pos, after := af, guard := some (4, true) } := by
  intro a w hout hI hdep K hK
  obtain ⟨vg, gg, eg⟩ := hdep ⟨4, .guard⟩ hg rfl
  have eg := eg 101 rfl
  have gg := gg _ rfl
  subst gg
  have hy := yielded_is hgo eg
  rw [if_pos (by simp [Region.wanted, hy])]
  obtain ⟨v103, g103, e103⟩ := hdep ⟨6, .data⟩ h103 rfl
  have e103 := e103 103 rfl
  have g103 := g103 _ rfl
  subst g103
  clear hout hdep hy
  go_simp
  exact hK _ _ (gv_of rfl (by first | rfl | (simp; done) | go_num)) hI
set_option maxRecDepth 100000 in
set_option maxHeartbeats 1000000 in
theorem m25c105 (hg : (⟨4, .guard⟩ : Edge) ∈ af.toList) (hgo : ops[4]?.bind (·.dst) = some 101) (h102 : (⟨5, .data⟩ : Edge) ∈ af.toList) (h104 : (⟨7, .data⟩ : Edge) ∈ af.toList) (hlt : (i : Int) + 1 < (n : Int)) (hlz : (0 : Int) ≤ (i : Int) + 1) (htn : ((i : Int) + 1).toNat = i + 1) : StepI Tryz.prog ops Q a0 m25cDS I (GV (m25cGS M g o q n uc kc i t u)) 8 { dst := some 105, op := .indexAddr 45 (.tmp 102) (.tmp 104), type := ty, pos := pos, after := af, guard := some (4, true) } := by
  intro a w hout hI hdep K hK
  obtain ⟨vg, gg, eg⟩ := hdep ⟨4, .guard⟩ hg rfl
  have eg := eg 101 rfl
  have gg := gg _ rfl
  subst gg
  have hy := yielded_is hgo eg
  rw [if_pos (by simp [Region.wanted, hy])]
  obtain ⟨v102, g102, e102⟩ := hdep ⟨5, .data⟩ h102 rfl
  have e102 := e102 102 rfl
  have g102 := g102 _ rfl
  subst g102
  obtain ⟨v104, g104, e104⟩ := hdep ⟨7, .data⟩ h104 rfl
  have e104 := e104 104 rfl
  have g104 := g104 _ rfl
  subst g104
  clear hout hdep hy
  go_simp
  exact hK _ _ (gv_of rfl (by first | rfl | (simp; done))) hI
set_option maxRecDepth 100000 in
set_option maxHeartbeats 1000000 in
theorem m25c106 (hg : (⟨4, .guard⟩ : Edge) ∈ af.toList) (hgo : ops[4]?.bind (·.dst) = some 101) (h105 : (⟨8, .data⟩ : Edge) ∈ af.toList) (hL : ∀ w, I w → w.cell? ⟨q, i + 1, none⟩ = some (.bool true)) : StepI Tryz.prog ops Q a0 m25cDS I (GV (m25cGS M g o q n uc kc i t u)) 9 { dst := some 106, op := .load 4 (.tmp 105), type := ty, pos := pos, after := af, guard := some (4, true) } := by
  intro a w hout hI hdep K hK
  obtain ⟨vg, gg, eg⟩ := hdep ⟨4, .guard⟩ hg rfl
  have eg := eg 101 rfl
  have gg := gg _ rfl
  subst gg
  have hy := yielded_is hgo eg
  rw [if_pos (by simp [Region.wanted, hy])]
  obtain ⟨v105, g105, e105⟩ := hdep ⟨8, .data⟩ h105 rfl
  have e105 := e105 105 rfl
  have g105 := g105 _ rfl
  subst g105
  have hLw := hL w hI
  clear hout hdep hy
  go_simp
  exact hK _ _ (gv_of rfl (by first | rfl | (simp; done))) hI
set_option maxRecDepth 100000 in
set_option maxHeartbeats 1000000 in
theorem m25c107 (h101 : (⟨4, .data⟩ : Edge) ∈ af.toList) (h106 : (⟨9, .data⟩ : Edge) ∈ af.toList) : StepI Tryz.prog ops Q a0 m25cDS I (GV (m25cGS M g o q n uc kc i t u)) 10 { dst := some 107, op := .pick (.tmp 101) (.tmp 106) (.const (.bool false)), type := ty, pos := pos, after := af, guard := none } := by
  intro a w hout hI hdep K hK
  rw [if_pos (by simp [Region.wanted])]
  obtain ⟨v101, g101, e101⟩ := hdep ⟨4, .data⟩ h101 rfl
  have e101 := e101 101 rfl
  have g101 := g101 _ rfl
  subst g101
  obtain ⟨v106, g106, e106⟩ := hdep ⟨9, .data⟩ h106 rfl
  have e106 := e106 106 rfl
  have g106 := g106 _ rfl
  subst g106
  clear hout hdep
  go_simp
  exact hK _ _ (gv_of rfl (by first | rfl | (simp; done))) hI
set_option maxRecDepth 100000 in
set_option maxHeartbeats 1000000 in
theorem m25c108 (h107 : (⟨10, .data⟩ : Edge) ∈ af.toList) : StepI Tryz.prog ops Q a0 m25cDS I (GV (m25cGS M g o q n uc kc i t u)) 11 { dst := some 108, op := .move (.tmp 107), type := ty, pos := pos, after := af, guard := none } := by
  intro a w hout hI hdep K hK
  rw [if_pos (by simp [Region.wanted])]
  obtain ⟨v107, g107, e107⟩ := hdep ⟨10, .data⟩ h107 rfl
  have e107 := e107 107 rfl
  have g107 := g107 _ rfl
  subst g107
  clear hout hdep
  go_simp
  exact hK _ _ (gv_of rfl (by first | rfl | (simp; done))) hI
set_option maxRecDepth 100000 in
set_option maxHeartbeats 1000000 in
theorem m25c109 (hg : (⟨11, .guard⟩ : Edge) ∈ af.toList) (hgo : ops[11]?.bind (·.dst) = some 108) (o7 : a0.tmps[7]? = some (.pointer (some ⟨M, 0, none⟩))) : StepI Tryz.prog ops Q a0 m25cDS I (GV (m25cGS M g o q n uc kc i t u)) 12 { dst := some 109, op := .move (.tmp 7), type := ty, pos := pos, after := af, guard := some (11, true) } := by
  intro a w hout hI hdep K hK
  obtain ⟨vg, gg, eg⟩ := hdep ⟨11, .guard⟩ hg rfl
  have eg := eg 108 rfl
  have gg := gg _ rfl
  subst gg
  have hy := yielded_is hgo eg
  rw [if_pos (by simp [Region.wanted, hy])]
  have o7w := (hout 7 (by decide)).trans o7
  clear hout hdep hy
  clear o7
  go_simp
  exact hK _ _ (gv_of rfl (by first | rfl | (simp; done))) hI
set_option maxRecDepth 100000 in
set_option maxHeartbeats 1000000 in
theorem m25c110 (hg : (⟨11, .guard⟩ : Edge) ∈ af.toList) (hgo : ops[11]?.bind (·.dst) = some 108) (o2 : a0.tmps[2]? = some (.slice (some ⟨g, o, none⟩) n uc)) : StepI Tryz.prog ops Q a0 m25cDS I (GV (m25cGS M g o q n uc kc i t u)) 13 { dst := some 110, op := .move (.tmp 2), type := ty, pos := pos, after := af, guard := some (11, true) } := by
  intro a w hout hI hdep K hK
  obtain ⟨vg, gg, eg⟩ := hdep ⟨11, .guard⟩ hg rfl
  have eg := eg 108 rfl
  have gg := gg _ rfl
  subst gg
  have hy := yielded_is hgo eg
  rw [if_pos (by simp [Region.wanted, hy])]
  have o2w := (hout 2 (by decide)).trans o2
  clear hout hdep hy
  clear o2
  go_simp
  exact hK _ _ (gv_of rfl (by first | rfl | (simp; done))) hI
set_option maxRecDepth 100000 in
set_option maxHeartbeats 1000000 in
theorem m25c111 (hg : (⟨11, .guard⟩ : Edge) ∈ af.toList) (hgo : ops[11]?.bind (·.dst) = some 108) (o14 : a0.tmps[14]? = some (.int .i64 i)) : StepI Tryz.prog ops Q a0 m25cDS I (GV (m25cGS M g o q n uc kc i t u)) 14 { dst := some 111, op := .move (.tmp 14), type := ty, pos := pos, after := af, guard := some (11, true) } := by
  intro a w hout hI hdep K hK
  obtain ⟨vg, gg, eg⟩ := hdep ⟨11, .guard⟩ hg rfl
  have eg := eg 108 rfl
  have gg := gg _ rfl
  subst gg
  have hy := yielded_is hgo eg
  rw [if_pos (by simp [Region.wanted, hy])]
  have o14w := (hout 14 (by decide)).trans o14
  clear hout hdep hy
  clear o14
  go_simp
  exact hK _ _ (gv_of rfl (by first | rfl | (simp; done))) hI
set_option maxRecDepth 100000 in
set_option maxHeartbeats 1000000 in
theorem m25c112 (hg : (⟨11, .guard⟩ : Edge) ∈ af.toList) (hgo : ops[11]?.bind (·.dst) = some 108) (h110 : (⟨13, .data⟩ : Edge) ∈ af.toList) (h111 : (⟨14, .data⟩ : Edge) ∈ af.toList) (hlt : (i : Int) < (n : Int)) : StepI Tryz.prog ops Q a0 m25cDS I (GV (m25cGS M g o q n uc kc i t u)) 15 { dst := some 112, op := .indexAddr 22 (.tmp 110) (.tmp 111), type := ty, pos := pos, after := af, guard := some (11, true) } := by
  intro a w hout hI hdep K hK
  obtain ⟨vg, gg, eg⟩ := hdep ⟨11, .guard⟩ hg rfl
  have eg := eg 108 rfl
  have gg := gg _ rfl
  subst gg
  have hy := yielded_is hgo eg
  rw [if_pos (by simp [Region.wanted, hy])]
  obtain ⟨v110, g110, e110⟩ := hdep ⟨13, .data⟩ h110 rfl
  have e110 := e110 110 rfl
  have g110 := g110 _ rfl
  subst g110
  obtain ⟨v111, g111, e111⟩ := hdep ⟨14, .data⟩ h111 rfl
  have e111 := e111 111 rfl
  have g111 := g111 _ rfl
  subst g111
  clear hout hdep hy
  go_simp
  exact hK _ _ (gv_of rfl (by first | rfl | (simp; done))) hI
set_option maxRecDepth 100000 in
set_option maxHeartbeats 1000000 in
theorem m25c113 (hg : (⟨11, .guard⟩ : Edge) ∈ af.toList) (hgo : ops[11]?.bind (·.dst) = some 108) (h112 : (⟨15, .data⟩ : Edge) ∈ af.toList) (hL : ∀ w, I w → w.cell? ⟨g, o + i, none⟩ = some (.string (bs t))) : StepI Tryz.prog ops Q a0 m25cDS I (GV (m25cGS M g o q n uc kc i t u)) 16 { dst := some 113, op := .load 28 (.tmp 112), type := ty, pos := pos, after := af, guard := some (11, true) } := by
  intro a w hout hI hdep K hK
  obtain ⟨vg, gg, eg⟩ := hdep ⟨11, .guard⟩ hg rfl
  have eg := eg 108 rfl
  have gg := gg _ rfl
  subst gg
  have hy := yielded_is hgo eg
  rw [if_pos (by simp [Region.wanted, hy])]
  obtain ⟨v112, g112, e112⟩ := hdep ⟨15, .data⟩ h112 rfl
  have e112 := e112 112 rfl
  have g112 := g112 _ rfl
  subst g112
  have hLw := hL w hI
  clear hout hdep hy
  go_simp
  exact hK _ _ (gv_of rfl (by first | rfl | (simp; done))) hI
set_option maxRecDepth 100000 in
set_option maxHeartbeats 1000000 in
theorem m25c114 (hg : (⟨11, .guard⟩ : Edge) ∈ af.toList) (hgo : ops[11]?.bind (·.dst) = some 108) (o2 : a0.tmps[2]? = some (.slice (some ⟨g, o, none⟩) n uc)) : StepI Tryz.prog ops Q a0 m25cDS I (GV (m25cGS M g o q n uc kc i t u)) 17 { dst := some 114, op := .move (.tmp 2), type := ty, pos := pos, after := af, guard := some (11, true) } := by
  intro a w hout hI hdep K hK
  obtain ⟨vg, gg, eg⟩ := hdep ⟨11, .guard⟩ hg rfl
  have eg := eg 108 rfl
  have gg := gg _ rfl
  subst gg
  have hy := yielded_is hgo eg
  rw [if_pos (by simp [Region.wanted, hy])]
  have o2w := (hout 2 (by decide)).trans o2
  clear hout hdep hy
  clear o2
  go_simp
  exact hK _ _ (gv_of rfl (by first | rfl | (simp; done))) hI
set_option maxRecDepth 100000 in
set_option maxHeartbeats 1000000 in
theorem m25c115 (hg : (⟨11, .guard⟩ : Edge) ∈ af.toList) (hgo : ops[11]?.bind (·.dst) = some 108) (o14 : a0.tmps[14]? = some (.int .i64 i)) : StepI Tryz.prog ops Q a0 m25cDS I (GV (m25cGS M g o q n uc kc i t u)) 18 { dst := some 115, op := .move (.tmp 14), type := ty, pos := pos, after := af, guard := some (11, true) } := by
  intro a w hout hI hdep K hK
  obtain ⟨vg, gg, eg⟩ := hdep ⟨11, .guard⟩ hg rfl
  have eg := eg 108 rfl
  have gg := gg _ rfl
  subst gg
  have hy := yielded_is hgo eg
  rw [if_pos (by simp [Region.wanted, hy])]
  have o14w := (hout 14 (by decide)).trans o14
  clear hout hdep hy
  clear o14
  go_simp
  exact hK _ _ (gv_of rfl (by first | rfl | (simp; done))) hI
set_option maxRecDepth 100000 in
set_option maxHeartbeats 1000000 in
theorem m25c116 (hg : (⟨11, .guard⟩ : Edge) ∈ af.toList) (hgo : ops[11]?.bind (·.dst) = some 108) (h115 : (⟨18, .data⟩ : Edge) ∈ af.toList) (hwr : IntKind.i64.wrap ((i : Int) + 1) = (i : Int) + 1) : StepI Tryz.prog ops Q a0 m25cDS I (GV (m25cGS M g o q n uc kc i t u)) 19 { dst := some 116, op := .binOp .add 3 (.tmp 115) (.const (.int .i64 1)) 3, type := ty, pos := pos, after := af, guard := some (11, true) } := by
  intro a w hout hI hdep K hK
  obtain ⟨vg, gg, eg⟩ := hdep ⟨11, .guard⟩ hg rfl
  have eg := eg 108 rfl
  have gg := gg _ rfl
  subst gg
  have hy := yielded_is hgo eg
  rw [if_pos (by simp [Region.wanted, hy])]
  obtain ⟨v115, g115, e115⟩ := hdep ⟨18, .data⟩ h115 rfl
  have e115 := e115 115 rfl
  have g115 := g115 _ rfl
  subst g115
  clear hout hdep hy
  go_simp
  exact hK _ _ (gv_of rfl (by first | rfl | (simp; done) | go_num)) hI
set_option maxRecDepth 100000 in
set_option maxHeartbeats 1000000 in
theorem m25c117 (hg : (⟨11, .guard⟩ : Edge) ∈ af.toList) (hgo : ops[11]?.bind (·.dst) = some 108) (h114 : (⟨17, .data⟩ : Edge) ∈ af.toList) (h116 : (⟨19, .data⟩ : Edge) ∈ af.toList) (hlt : (i : Int) + 1 < (n : Int)) (hlz : (0 : Int) ≤ (i : Int) + 1) (htn : ((i : Int) + 1).toNat = i + 1) : StepI Tryz.prog ops Q a0 m25cDS I (GV (m25cGS M g o q n uc kc i t u)) 20 { dst := some 117, op := .indexAddr 22 (.tmp 114) (.tmp 116), type := ty, pos := pos, after := af, guard := some (11, true) } := by
  intro a w hout hI hdep K hK
  obtain ⟨vg, gg, eg⟩ := hdep ⟨11, .guard⟩ hg rfl
  have eg := eg 108 rfl
  have gg := gg _ rfl
  subst gg
  have hy := yielded_is hgo eg
  rw [if_pos (by simp [Region.wanted, hy])]
  obtain ⟨v114, g114, e114⟩ := hdep ⟨17, .data⟩ h114 rfl
  have e114 := e114 114 rfl
  have g114 := g114 _ rfl
  subst g114
  obtain ⟨v116, g116, e116⟩ := hdep ⟨19, .data⟩ h116 rfl
  have e116 := e116 116 rfl
  have g116 := g116 _ rfl
  subst g116
  clear hout hdep hy
  go_simp
  exact hK _ _ (gv_of rfl (by first | rfl | (simp; done))) hI
set_option maxRecDepth 100000 in
set_option maxHeartbeats 1000000 in
theorem m25c118 (hg : (⟨11, .guard⟩ : Edge) ∈ af.toList) (hgo : ops[11]?.bind (·.dst) = some 108) (h117 : (⟨20, .data⟩ : Edge) ∈ af.toList) (hL : ∀ w, I w → w.cell? ⟨g, o + (i + 1), none⟩ = some (.string (bs u))) : StepI Tryz.prog ops Q a0 m25cDS I (GV (m25cGS M g o q n uc kc i t u)) 21 { dst := some 118, op := .load 28 (.tmp 117), type := ty, pos := pos, after := af, guard := some (11, true) } := by
  intro a w hout hI hdep K hK
  obtain ⟨vg, gg, eg⟩ := hdep ⟨11, .guard⟩ hg rfl
  have eg := eg 108 rfl
  have gg := gg _ rfl
  subst gg
  have hy := yielded_is hgo eg
  rw [if_pos (by simp [Region.wanted, hy])]
  obtain ⟨v117, g117, e117⟩ := hdep ⟨20, .data⟩ h117 rfl
  have e117 := e117 117 rfl
  have g117 := g117 _ rfl
  subst g117
  have hLw := hL w hI
  clear hout hdep hy
  go_simp
  exact hK _ _ (gv_of rfl (by first | rfl | (simp; done))) hI
set_option maxRecDepth 100000 in
set_option maxHeartbeats 1000000 in
theorem m25c119 (hg : (⟨11, .guard⟩ : Edge) ∈ af.toList) (hgo : ops[11]?.bind (·.dst) = some 108) (h109 : (⟨12, .data⟩ : Edge) ∈ af.toList) (h113 : (⟨16, .data⟩ : Edge) ∈ af.toList) (h118 : (⟨21, .data⟩ : Edge) ∈ af.toList) (hC : ∀ w, I w → Calls Tryz.prog 25 #[.pointer (some ⟨M, 0, none⟩), .string (bs t), .string (bs u)] w fun e w' => e = .returned (.bool true) ∧ I w') : StepI Tryz.prog ops Q a0 m25cDS I (GV (m25cGS M g o q n uc kc i t u)) 22 { dst := some 119, op := .call { callee := .value (.func 25), args := #[.tmp 109, .tmp 113, .tmp 118], argTypes := at_ }, type := ty, pos := pos, after := af, guard := some (11, true) } := by
  intro a w hout hI hdep K hK
  obtain ⟨vg, gg, eg⟩ := hdep ⟨11, .guard⟩ hg rfl
  have eg := eg 108 rfl
  have gg := gg _ rfl
  subst gg
  have hy := yielded_is hgo eg
  rw [if_pos (by simp [Region.wanted, hy])]
  obtain ⟨v109, g109, e109⟩ := hdep ⟨12, .data⟩ h109 rfl
  have e109 := e109 109 rfl
  have g109 := g109 _ rfl
  subst g109
  obtain ⟨v113, g113, e113⟩ := hdep ⟨16, .data⟩ h113 rfl
  have e113 := e113 113 rfl
  have g113 := g113 _ rfl
  subst g113
  obtain ⟨v118, g118, e118⟩ := hdep ⟨21, .data⟩ h118 rfl
  have e118 := e118 118 rfl
  have g118 := g118 _ rfl
  subst g118
  clear hout hdep hy
  go_simp
  refine (hC w hI).mono ?_
  rintro e w1 ⟨rfl, hI1⟩
  exact hK _ _ (gv_of rfl rfl) hI1
set_option maxRecDepth 100000 in
set_option maxHeartbeats 1000000 in
theorem m25c120 (hg : (⟨11, .guard⟩ : Edge) ∈ af.toList) (hgo : ops[11]?.bind (·.dst) = some 108) (h119 : (⟨22, .data⟩ : Edge) ∈ af.toList) : StepI Tryz.prog ops Q a0 m25cDS I (GV (m25cGS M g o q n uc kc i t u)) 23 { dst := some 120, op := .unOp .not 4 (.tmp 119), type := ty, pos := pos, after := af, guard := some (11, true) } := by
  intro a w hout hI hdep K hK
  obtain ⟨vg, gg, eg⟩ := hdep ⟨11, .guard⟩ hg rfl
  have eg := eg 108 rfl
  have gg := gg _ rfl
  subst gg
  have hy := yielded_is hgo eg
  rw [if_pos (by simp [Region.wanted, hy])]
  obtain ⟨v119, g119, e119⟩ := hdep ⟨22, .data⟩ h119 rfl
  have e119 := e119 119 rfl
  have g119 := g119 _ rfl
  subst g119
  clear hout hdep hy
  go_simp
  exact hK _ _ (gv_of rfl (by first | rfl | (simp; done))) hI
set_option maxRecDepth 100000 in
set_option maxHeartbeats 1000000 in
theorem m25c121 (h108 : (⟨11, .data⟩ : Edge) ∈ af.toList) (h120 : (⟨23, .data⟩ : Edge) ∈ af.toList) : StepI Tryz.prog ops Q a0 m25cDS I (GV (m25cGS M g o q n uc kc i t u)) 24 { dst := some 121, op := .pick (.tmp 108) (.tmp 120) (.const (.bool false)), type := ty, pos := pos, after := af, guard := none } := by
  intro a w hout hI hdep K hK
  rw [if_pos (by simp [Region.wanted])]
  obtain ⟨v108, g108, e108⟩ := hdep ⟨11, .data⟩ h108 rfl
  have e108 := e108 108 rfl
  have g108 := g108 _ rfl
  subst g108
  obtain ⟨v120, g120, e120⟩ := hdep ⟨23, .data⟩ h120 rfl
  have e120 := e120 120 rfl
  have g120 := g120 _ rfl
  subst g120
  clear hout hdep
  go_simp
  exact hK _ _ (gv_of rfl (by first | rfl | (simp; done))) hI
end
end Go.Proofs.YtdipkblmcloifaaGreatDoor
