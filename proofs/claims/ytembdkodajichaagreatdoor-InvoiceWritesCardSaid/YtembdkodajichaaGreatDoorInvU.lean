/- The program's invoices: what a reader gives up with is taken back. -/
import Derived.Test.YtembdkodajichaaGreatDoorInvT
import Derived.Defers
import Derived.Recover
set_option maxRecDepth 100000
set_option maxHeartbeats 4000000
set_option linter.unusedSimpArgs false
set_option linter.unusedVariables false
namespace Go.Proofs.YtembdkodajichaaGreatDoor
open Go.RowKit
theorem assert_odd (xT : Nat) (w : World) : (Instr.typeAssert (.iface 76 (.agg #[])) xT 76 true).run Tryz.prog w = .ok (.tuple #[.agg #[], .bool true]) w := by
 simp [Instr.typeAssert, run_underlying Tryz.underlying76]
theorem iIdle (X E : Nat) (w : World) :
  CallsD Tryz.prog 53 #[.pointer (some ⟨X, 0, none⟩), .pointer (some ⟨E, 0, none⟩)] .returning w fun e u' w' =>
   e = .returned (.tuple #[]) ∧ u' = .returning ∧ w' = w := by
 refine callsD_of_wpS Tryz.func53 rfl fun c₀ cs hu => ?_
 apply wpS_seq
 apply wpS_region
 simp [wpOpsS, go_sem, recoverD, hu, Tryz.ntmps53, Exit.thenS, Array.replicate, List.replicate]
 refine wpS_of_wp ?_
 go_wp2_with fail
 cases c₀
 simp_all [bodyPostS, results, Tryz.results53]
theorem iCatch (X E : Nat) (x : Inv) (e0 : Int) (w : World) (hX : w.heap[X]? = some (.cells (invC x) 31 (0, 0))) (hE : w.heap[E]? = some (.cells #[.int .i64 e0] 23 (0, 0))) (hXE : X ≠ E) :
  CallsD Tryz.prog 53 #[.pointer (some ⟨X, 0, none⟩), .pointer (some ⟨E, 0, none⟩)] (.panicking [oddP]) w fun e u' w' =>
   e = .returned (.tuple #[]) ∧ u' = .panicking [{ oddP with recovered := true }] ∧ w'.heap[X]? = some (.cells (invC Inv.zero) 31 (0, 0)) ∧ w'.heap[E]? = some (.cells #[.int .i64 70] 23 (0, 0)) ∧ GL [X, E] w w' := by
 have hta := assert_odd
 have hX2 : w.heap[X]? = some (.cells #[.int .i64 x.am, .int .i64 x.st, .string (bs x.hash), .string (bs x.payee), .string (bs x.memo), .int .i64 x.ex, .int .i64 x.de, .string (bs x.sig)] 31 (0, 0)) := hX
 have f1 := blk_cell hX2
 have f2 := blk_free hX2
 have f3 := blk_lt hX2
 have g1 := blk_cell hE
 have g2 := blk_free hE
 have g3 := blk_lt hE
 have HX := Lib.hid hX
 have HE := Lib.hid hE
 clear hX hX2 hE
 refine callsD_of_wpS Tryz.func53 rfl fun c₀ cs hu => ?_
 apply wpS_seq
 apply wpS_region
 simp [wpOpsS, go_sem, recoverD, hu, Tryz.ntmps53, Exit.thenS, oddP, Array.replicate, List.replicate]
 refine wpS_of_wp ?_
 go_wp2_with fail
 clear hta f1 f2 g1 g2
 simp [bodyPostS, results, Tryz.results53]
 exact ⟨blk_alloc (blk_ne (blk_set (blk_set (blk_set (blk_set (blk_set (blk_set (blk_set (blk_set HX.out 0 (.int .i64 0)) 1 (.int .i64 0)) 2 (.string (bs []))) 3 (.string (bs []))) 4 (.string (bs []))) 5 (.int .i64 0)) 6 (.int .i64 0)) 7 (.string (bs []))) hXE (.int .i64 70)) _, blk_alloc (blk_set (blk_ne (blk_ne (blk_ne (blk_ne (blk_ne (blk_ne (blk_ne (blk_ne HE.out (fun e => hXE e.symm) (.int .i64 0)) (fun e => hXE e.symm) (.int .i64 0)) (fun e => hXE e.symm) (.string (bs []))) (fun e => hXE e.symm) (.string (bs []))) (fun e => hXE e.symm) (.string (bs []))) (fun e => hXE e.symm) (.int .i64 0)) (fun e => hXE e.symm) (.int .i64 0)) (fun e => hXE e.symm) (.string (bs []))) 0 (.int .i64 70)) _, gl_alloc (gl_set (gl_set (gl_set (gl_set (gl_set (gl_set (gl_set (gl_set (gl_set (gl_refl _ _) (.inl si_) (.int .i64 0)) (.inl si_) (.int .i64 0)) (.inl si_) (.string (bs []))) (.inl si_) (.string (bs []))) (.inl si_) (.string (bs []))) (.inl si_) (.int .i64 0)) (.inl si_) (.int .i64 0)) (.inl si_) (.string (bs []))) (.inl si_) (.int .i64 70)) _⟩
def DcO (s : List UInt8) (w : World) (e : Ending) (w' : World) : Prop := e = .returned (.tuple #[invV (decI s).1, .int .i64 (decI s).2]) ∧ Below w.heap.size w w'
theorem dcO_of {s : List UInt8} {w w' : World} {x : Inv} {n : Int} {v : Value} (h : decI s = (x, n)) (hv : v = invV x) (hb : Below w.heap.size w w') : DcO s w (.returned (.tuple #[v, .int .i64 n])) w' := by
 subst hv; exact ⟨by rw [h], hb⟩
theorem decI_bad {s : List UInt8} (h : decE s ≠ 0) : decI s = (Inv.zero, decE s) := by unfold decI; rw [if_pos h]
theorem decI_pre {s : List UInt8} (h : decE s = 0) (hp : lnsw.isPrefixOf (decH s) = false) : decI s = (Inv.zero, 70) := by unfold decI; rw [if_neg (by simp [h]), if_pos hp]
theorem decI_am {s : List UInt8} (h : decE s = 0) (hp : lnsw.isPrefixOf (decH s) = true) (ha : (readV ((decH s).drop 4)).2 ≠ 0) : decI s = (Inv.zero, (readV ((decH s).drop 4)).2) := by unfold decI; rw [if_neg (by simp [h]), if_neg (by simp [hp]), if_pos ha]
theorem decI_ok {s : List UInt8} (h : decE s = 0) (hp : lnsw.isPrefixOf (decH s) = true) (ha : (readV ((decH s).drop 4)).2 = 0) : decI s = match invR (decW s) with
 | none => (Inv.zero, 70)
 | some x => if verifyT x.payee (bodyT { x with am := (readV ((decH s).drop 4)).1 }) x.sig = true then ({ x with am := (readV ((decH s).drop 4)).1 }, 0) else (Inv.zero, 71) := by unfold decI; rw [if_neg (by simp [h]), if_neg (by simp [hp]), if_neg (by simp [ha])]; rfl
end Go.Proofs.YtembdkodajichaaGreatDoor
