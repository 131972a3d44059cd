/- The program's SHA-256: turns, the first words, a block taken in. -/
import Derived.Test.YtembdkodajichaaGreatDoorDigP
import Derived.Test.YtembdkodajichaaGreatDoorMSpec
import Derived.BigRegion
import Derived.BigQuiet
set_option linter.unusedSimpArgs false
set_option linter.unusedVariables false
namespace Go.Proofs.YtembdkodajichaaGreatDoor
open Go.RowKit
def s8V (s : S8) : Value := .agg #[.int .u32 s.a, .int .u32 s.b, .int .u32 s.c, .int .u32 s.d, .int .u32 s.e, .int .u32 s.f, .int .u32 s.g, .int .u32 s.h]
def s8C (s : S8) : Array Value := #[.int .u32 s.a, .int .u32 s.b, .int .u32 s.c, .int .u32 s.d, .int .u32 s.e, .int .u32 s.f, .int .u32 s.g, .int .u32 s.h]
theorem dRot7 (x : Int) (w : World) : Calls Tryz.prog 178 #[.int .u32 x, .int .i64 (-7)] w fun e w' => e = .returned (.int .u32 (rotr 7 x)) ∧ w' = w := by
 have h1 : bits .and .u64 (IntKind.u64.wrap (-7)) 31 = 25 := by decide
 go_enter Tryz.func178, Tryz.ntmps178
 go_wp2
 go_ret
 exact ⟨rfl, rfl⟩
theorem dRot18 (x : Int) (w : World) : Calls Tryz.prog 178 #[.int .u32 x, .int .i64 (-18)] w fun e w' => e = .returned (.int .u32 (rotr 18 x)) ∧ w' = w := by
 have h1 : bits .and .u64 (IntKind.u64.wrap (-18)) 31 = 14 := by decide
 go_enter Tryz.func178, Tryz.ntmps178
 go_wp2
 go_ret
 exact ⟨rfl, rfl⟩
theorem dRot17 (x : Int) (w : World) : Calls Tryz.prog 178 #[.int .u32 x, .int .i64 (-17)] w fun e w' => e = .returned (.int .u32 (rotr 17 x)) ∧ w' = w := by
 have h1 : bits .and .u64 (IntKind.u64.wrap (-17)) 31 = 15 := by decide
 go_enter Tryz.func178, Tryz.ntmps178
 go_wp2
 go_ret
 exact ⟨rfl, rfl⟩
theorem dRot19 (x : Int) (w : World) : Calls Tryz.prog 178 #[.int .u32 x, .int .i64 (-19)] w fun e w' => e = .returned (.int .u32 (rotr 19 x)) ∧ w' = w := by
 have h1 : bits .and .u64 (IntKind.u64.wrap (-19)) 31 = 13 := by decide
 go_enter Tryz.func178, Tryz.ntmps178
 go_wp2
 go_ret
 exact ⟨rfl, rfl⟩
theorem dRot6 (x : Int) (w : World) : Calls Tryz.prog 178 #[.int .u32 x, .int .i64 (-6)] w fun e w' => e = .returned (.int .u32 (rotr 6 x)) ∧ w' = w := by
 have h1 : bits .and .u64 (IntKind.u64.wrap (-6)) 31 = 26 := by decide
 go_enter Tryz.func178, Tryz.ntmps178
 go_wp2
 go_ret
 exact ⟨rfl, rfl⟩
theorem dRot11 (x : Int) (w : World) : Calls Tryz.prog 178 #[.int .u32 x, .int .i64 (-11)] w fun e w' => e = .returned (.int .u32 (rotr 11 x)) ∧ w' = w := by
 have h1 : bits .and .u64 (IntKind.u64.wrap (-11)) 31 = 21 := by decide
 go_enter Tryz.func178, Tryz.ntmps178
 go_wp2
 go_ret
 exact ⟨rfl, rfl⟩
theorem dRot25 (x : Int) (w : World) : Calls Tryz.prog 178 #[.int .u32 x, .int .i64 (-25)] w fun e w' => e = .returned (.int .u32 (rotr 25 x)) ∧ w' = w := by
 have h1 : bits .and .u64 (IntKind.u64.wrap (-25)) 31 = 7 := by decide
 go_enter Tryz.func178, Tryz.ntmps178
 go_wp2
 go_ret
 exact ⟨rfl, rfl⟩
theorem dRot2 (x : Int) (w : World) : Calls Tryz.prog 178 #[.int .u32 x, .int .i64 (-2)] w fun e w' => e = .returned (.int .u32 (rotr 2 x)) ∧ w' = w := by
 have h1 : bits .and .u64 (IntKind.u64.wrap (-2)) 31 = 30 := by decide
 go_enter Tryz.func178, Tryz.ntmps178
 go_wp2
 go_ret
 exact ⟨rfl, rfl⟩
theorem dRot13 (x : Int) (w : World) : Calls Tryz.prog 178 #[.int .u32 x, .int .i64 (-13)] w fun e w' => e = .returned (.int .u32 (rotr 13 x)) ∧ w' = w := by
 have h1 : bits .and .u64 (IntKind.u64.wrap (-13)) 31 = 19 := by decide
 go_enter Tryz.func178, Tryz.ntmps178
 go_wp2
 go_ret
 exact ⟨rfl, rfl⟩
theorem dRot22 (x : Int) (w : World) : Calls Tryz.prog 178 #[.int .u32 x, .int .i64 (-22)] w fun e w' => e = .returned (.int .u32 (rotr 22 x)) ∧ w' = w := by
 have h1 : bits .and .u64 (IntKind.u64.wrap (-22)) 31 = 10 := by decide
 go_enter Tryz.func178, Tryz.ntmps178
 go_wp2
 go_ret
 exact ⟨rfl, rfl⟩
theorem dFirst (w : World) : Calls Tryz.prog 155 #[] w fun e w' => e = .returned (s8V firstS) ∧ Below w.heap.size w w' := by
 go_enter Tryz.func155, Tryz.ntmps155
 go_wp2
 exact bodyPost_ret (v := s8V firstS) (by simp [results, Tryz.results155, go_sem, s8V, firstS]) rfl ⟨rfl, bl_⟩
end Go.Proofs.YtembdkodajichaaGreatDoor
