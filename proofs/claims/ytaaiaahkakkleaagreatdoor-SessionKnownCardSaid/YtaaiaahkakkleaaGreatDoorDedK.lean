/- A mind in memory. -/
import Derived.Test.YtaaiaahkakkleaaGreatDoorDedV
import Derived.Test.YtaaiaahkakkleaaGreatDoorDedI
import Derived.Test.YtaaiaahkakkleaaGreatDoorMTerm
set_option linter.unusedSimpArgs false
set_option linter.unusedVariables false
namespace Go.Proofs.YtaaiaahkakkleaaGreatDoor
open Go.RowKit
def MapT (w : World) (b m : Nat) (f : List UInt8 → Option Bool) : Prop := MapB Tryz.prog 22 4 w b m f
theorem zBool (w : World) : (zeroValue 4).run Tryz.prog w = .ok (.bool false) w := by kernel_rfl
structure MindAt (w : World) (M bh be : Nat) (H S : List UInt8 → Bool) (n : Nat) : Prop where
 blk : w.heap[M]? = some (.cells #[.map (some bh), .map (some be)] 94 (0, 0))
 heard : MapT w bh n (setF H)
 held : ∃ ne, MapT w be ne (setF S)
 ne : M ≠ bh ∧ M ≠ be ∧ bh ≠ be
 low : gN ≤ M ∧ gN ≤ bh ∧ gN ≤ be
 least : Least H S
 rights : ∀ t, H t = true → right t = true
 few : n ≤ 1024
theorem mind_gl {w w' : World} {M bh be n : Nat} {H S : List UInt8 → Bool} {rs : List Nat} (h : MindAt w M bh be H S n) (hg : GL rs w w') (h1 : M ∉ rs) (h2 : bh ∉ rs) (h3 : be ∉ rs) : MindAt w' M bh be H S n := by
 obtain ⟨ne, hh⟩ := h.held
 exact ⟨blk_gl h.blk hg h1, mapB_gl h.heard hg h2, ⟨ne, mapB_gl hh hg h3⟩, h.ne, h.low, h.least, h.rights, h.few⟩
theorem mind_below {w w' : World} {M bh be n : Nat} {H S : List UInt8 → Bool} (h : MindAt w M bh be H S n) (hb : Below w.heap.size w w') : MindAt w' M bh be H S n :=
 mind_gl h (gl_below hb (gl_refl [] _)) si_ si_ si_
theorem mind_lt {w : World} {M bh be n : Nat} {H S : List UInt8 → Bool} (h : MindAt w M bh be H S n) : M < w.heap.size ∧ bh < w.heap.size ∧ be < w.heap.size := by
 obtain ⟨ne, hh⟩ := h.held
 exact ⟨blk_lt h.blk, mapB_lt h.heard, mapB_lt hh⟩
def learnC (H : List UInt8 → Bool) (n : Nat) (t : List UInt8) : Int := if right t = false then 10 else if H t = true then 0 else if 1024 ≤ n then 3 else 0
def learnH (H : List UInt8 → Bool) (n : Nat) (t : List UInt8) : List UInt8 → Bool := if right t = true ∧ H t = false ∧ n < 1024 then ins H t else H
def learnN (H : List UInt8 → Bool) (n : Nat) (t : List UInt8) : Nat := if right t = true ∧ H t = false ∧ n < 1024 then n + 1 else n
theorem mind_list {w : World} {M bh be n : Nat} {H S : List UInt8 → Bool} (h : MindAt w M bh be H S n) : ∃ L : List (List UInt8), L.length = n ∧ ∀ t, t ∈ L ↔ H t = true := by
 obtain ⟨ks, h1, _, h3⟩ := mapB_keys Tryz.underlying22 h.heard
 exact ⟨ks, h1, fun t => by rw [h3 t, setF_some]⟩
end Go.Proofs.YtaaiaahkakkleaaGreatDoor
