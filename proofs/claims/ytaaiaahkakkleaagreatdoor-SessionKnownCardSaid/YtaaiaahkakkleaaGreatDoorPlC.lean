/- The laws of layer 21: a pair of sessions hears, sends. -/
import Derived.Test.YtaaiaahkakkleaaGreatDoorPlB
set_option linter.unusedSimpArgs false
set_option linter.unusedVariables false
namespace Go.Proofs.YtaaiaahkakkleaaGreatDoor
open Go.RowKit
structure PairAt (w : World) (lo Pb X0 X1 Y0 Y1 : Nat) (v0 v1 : Value) (q0 q1 : List (List UInt8)) (m : Nat) : Prop where
 blk : w.heap[Pb]? = some (.cells #[.pointer (some ⟨X0, 0, none⟩), .pointer (some ⟨X1, 0, none⟩), .pointer (some ⟨Y0, 0, none⟩), .pointer (some ⟨Y1, 0, none⟩), v0, v1] 49 (0, 0))
 u0 : QueT lo v0 q0 w
 u1 : QueT lo v1 q1 w
 s0 : SideAt w X0 Y0
 s1 : SideAt w X1 Y1
 low : lo ≤ Pb ∧ lo ≤ X0 ∧ lo ≤ X1 ∧ lo ≤ Y0 ∧ lo ≤ Y1 ∧ gN ≤ lo
 ne : Pb ≠ X0 ∧ Pb ≠ X1 ∧ Pb ≠ Y0 ∧ Pb ≠ Y1 ∧ X0 ≠ X1 ∧ X0 ≠ Y0 ∧ X0 ≠ Y1 ∧ X1 ≠ Y0 ∧ X1 ≠ Y1 ∧ Y0 ≠ Y1
 d0 : ∀ g, v0.ownBlock = some g → g ≠ Pb ∧ g ≠ X0 ∧ g ≠ X1 ∧ g ≠ Y0 ∧ g ≠ Y1 ∧ v1.ownBlock ≠ some g
 d1 : ∀ g, v1.ownBlock = some g → g ≠ Pb ∧ g ≠ X0 ∧ g ≠ X1 ∧ g ≠ Y0 ∧ g ≠ Y1 ∧ v0.ownBlock ≠ some g
 c0 : q0.length ≤ m ∧ q1.length ≤ m
 t0 : ∀ t ∈ q0, t.length ≤ 16384
 t1 : ∀ t ∈ q1, t.length ≤ 16384
theorem side_lt {w : World} {X Y : Nat} (h : SideAt w X Y) : X < w.heap.size ∧ Y < w.heap.size := by
 rcases h with h | h | h | h | h
 · obtain ⟨_, _, _, _, _, _, _, _, _, _, _, _, _, _, _, _, _, h1, h2⟩ := h
   exact ⟨blk_lt h1, blk_lt h2⟩
 · obtain ⟨_, _, _, _, _, _, _, _, _, _, _, _, _, _, _, _, _, _, h1, h2⟩ := h
   exact ⟨blk_lt h1, blk_lt h2⟩
 · obtain ⟨_, _, _, _, _, _, _, _, _, _, _, _, _, _, _, _, _, _, h1, h2⟩ := h
   exact ⟨blk_lt h1, blk_lt h2⟩
 · obtain ⟨_, _, _, _, _, _, _, _, _, _, _, _, _, _, _, h1, h2⟩ := h
   exact ⟨blk_lt h1, blk_lt h2⟩
 · obtain ⟨_, ⟨_, _, _, _, _, _, _, _, _, _, h1⟩, _, _, _, _, _, _, _, _, _, _, h2⟩ := h
   exact ⟨blk_lt h1, blk_lt h2⟩
theorem pair_gl {w w' : World} {lo Pb X0 X1 Y0 Y1 : Nat} {v0 v1 : Value} {q0 q1 : List (List UInt8)} {m : Nat} (h : PairAt w lo Pb X0 X1 Y0 Y1 v0 v1 q0 q1 m) (hg : GL [] w w') : PairAt w' lo Pb X0 X1 Y0 Y1 v0 v1 q0 q1 m :=
 ⟨blk_gl h.blk hg si_, queT_gl h.u0 hg si_, queT_gl h.u1 hg si_, side_gl h.s0 hg si_ si_, side_gl h.s1 hg si_ si_, h.low, h.ne, h.d0, h.d1, h.c0, h.t0, h.t1⟩
theorem pair_more {w : World} {lo Pb X0 X1 Y0 Y1 : Nat} {v0 v1 : Value} {q0 q1 : List (List UInt8)} {m : Nat} {n : Nat} (h : PairAt w lo Pb X0 X1 Y0 Y1 v0 v1 q0 q1 m) (hn : m ≤ n) : PairAt w lo Pb X0 X1 Y0 Y1 v0 v1 q0 q1 n :=
 ⟨h.blk, h.u0, h.u1, h.s0, h.s1, h.low, h.ne, h.d0, h.d1, ⟨by have := h.c0.1; omega, by have := h.c0.2; omega⟩, h.t0, h.t1⟩
theorem pair_step0 {w w' : World} {lo Pb X0 X1 Y0 Y1 : Nat} {v0 v1 : Value} {q0 q1 : List (List UInt8)} {m : Nat} (h : PairAt w lo Pb X0 X1 Y0 Y1 v0 v1 q0 q1 m) (hg : GL [X0, Y0] w w') (hs : SideAt w' X0 Y0) : PairAt w' lo Pb X0 X1 Y0 Y1 v0 v1 q0 q1 m := by
 have hn := h.ne
 refine ⟨blk_gl h.blk hg so_, queT_gl h.u0 hg (fun r hr hb => ?_), queT_gl h.u1 hg (fun r hr hb => ?_), hs, side_gl h.s1 hg so_ so_, h.low, h.ne, h.d0, h.d1, h.c0, h.t0, h.t1⟩
 · have := h.d0 r hb; simp at hr; omega
 · have := h.d1 r hb; simp at hr; omega
theorem pair_step1 {w w' : World} {lo Pb X0 X1 Y0 Y1 : Nat} {v0 v1 : Value} {q0 q1 : List (List UInt8)} {m : Nat} (h : PairAt w lo Pb X0 X1 Y0 Y1 v0 v1 q0 q1 m) (hg : GL [X1, Y1] w w') (hs : SideAt w' X1 Y1) : PairAt w' lo Pb X0 X1 Y0 Y1 v0 v1 q0 q1 m := by
 have hn := h.ne
 refine ⟨blk_gl h.blk hg so_, queT_gl h.u0 hg (fun r hr hb => ?_), queT_gl h.u1 hg (fun r hr hb => ?_), side_gl h.s0 hg so_ so_, hs, h.low, h.ne, h.d0, h.d1, h.c0, h.t0, h.t1⟩
 · have := h.d0 r hb; simp at hr; omega
 · have := h.d1 r hb; simp at hr; omega
theorem own_some {v : Value} {r : Nat} (h : r ∈ v.ownBlock.toList) : v.ownBlock = some r := by rw [Option.mem_toList] at h; exact h
theorem pair_push0 {w w' : World} {lo Pb X0 X1 Y0 Y1 : Nat} {v0 v1 : Value} {q0 q1 : List (List UInt8)} {m : Nat} (h : PairAt w lo Pb X0 X1 Y0 Y1 v0 v1 q0 q1 m) {t : List UInt8} (ht : t.length ≤ 16384) {g o c : Nat} (hq : QueT lo (.slice (some ⟨g, o, none⟩) (q1.length + 1) c) (q1 ++ [t]) w') (hg : GL v1.ownBlock.toList w w') (hgb : v1.ownBlock = some g ∨ w.heap.size < g) (hgl : g < w'.heap.size) :
  PairAt (w'.setCell ⟨Pb, 5, none⟩ (.slice (some ⟨g, o, none⟩) (q1.length + 1) c)) lo Pb X0 X1 Y0 Y1 v0 (.slice (some ⟨g, o, none⟩) (q1.length + 1) c) q0 (q1 ++ [t]) (m + 1) := by
 have hn := h.ne
 have l0 := side_lt h.s0
 have l1 := side_lt h.s1
 have lp := blk_lt h.blk
 have hb0 := queT_blk h.u0
 have hb1 := queT_blk h.u1
 have hnj : ∀ r, r = Pb ∨ r = X0 ∨ r = X1 ∨ r = Y0 ∨ r = Y1 → r ∉ v1.ownBlock.toList := fun r hr hm => by have := h.d1 r (own_some hm); omega
 have hB := blk_gl h.blk hg (hnj Pb (.inl rfl))
 have hgne : g ≠ Pb ∧ g ≠ X0 ∧ g ≠ X1 ∧ g ≠ Y0 ∧ g ≠ Y1 ∧ v0.ownBlock ≠ some g := by
  rcases hgb with hgb | hgb
  · exact h.d1 g hgb
  · exact ⟨by omega, by omega, by omega, by omega, by omega, fun hv => by have := hb0 g hv; omega⟩
 have hset : GL [Pb] w' (w'.setCell ⟨Pb, 5, none⟩ (.slice (some ⟨g, o, none⟩) (q1.length + 1) c)) := gl_seti (p := ⟨Pb, 5, none⟩) si_ (gl_refl _ _) _
 refine ⟨blk_set hB 5 _, ?_, ?_, side_gl (side_gl h.s0 hg (hnj X0 si_) (hnj Y0 si_)) hset so_ so_, side_gl (side_gl h.s1 hg (hnj X1 si_) (hnj Y1 si_)) hset so_ so_, h.low, h.ne, ?_, ?_, ?_, ?_, ?_⟩
 · exact queT_gl (queT_gl h.u0 hg (fun r hr hb => (h.d1 r (own_some hr)).2.2.2.2.2 hb)) hset (fun r hr hb => by simp at hr; subst hr; exact (h.d0 _ hb).1 rfl)
 · exact queT_gl hq hset (fun r hr hb => by simp [Value.ownBlock] at hr hb; omega)
 · exact fun r hr => ⟨(h.d0 r hr).1, (h.d0 r hr).2.1, (h.d0 r hr).2.2.1, (h.d0 r hr).2.2.2.1, (h.d0 r hr).2.2.2.2.1, fun hb => by simp [Value.ownBlock] at hb; subst hb; exact hgne.2.2.2.2.2 hr⟩
 · exact fun r hr => by simp [Value.ownBlock] at hr; subst hr; exact hgne
 · have := h.c0
   simp
   omega
 · exact h.t0
 · intro u hu
   rcases List.mem_append.1 hu with hu | hu
   · exact h.t1 u hu
   · rw [List.mem_singleton.1 hu]; exact ht
theorem pair_push1 {w w' : World} {lo Pb X0 X1 Y0 Y1 : Nat} {v0 v1 : Value} {q0 q1 : List (List UInt8)} {m : Nat} (h : PairAt w lo Pb X0 X1 Y0 Y1 v0 v1 q0 q1 m) {t : List UInt8} (ht : t.length ≤ 16384) {g o c : Nat} (hq : QueT lo (.slice (some ⟨g, o, none⟩) (q0.length + 1) c) (q0 ++ [t]) w') (hg : GL v0.ownBlock.toList w w') (hgb : v0.ownBlock = some g ∨ w.heap.size < g) (hgl : g < w'.heap.size) :
  PairAt (w'.setCell ⟨Pb, 4, none⟩ (.slice (some ⟨g, o, none⟩) (q0.length + 1) c)) lo Pb X0 X1 Y0 Y1 (.slice (some ⟨g, o, none⟩) (q0.length + 1) c) v1 (q0 ++ [t]) q1 (m + 1) := by
 have hn := h.ne
 have l0 := side_lt h.s0
 have l1 := side_lt h.s1
 have lp := blk_lt h.blk
 have hb0 := queT_blk h.u0
 have hb1 := queT_blk h.u1
 have hnj : ∀ r, r = Pb ∨ r = X0 ∨ r = X1 ∨ r = Y0 ∨ r = Y1 → r ∉ v0.ownBlock.toList := fun r hr hm => by have := h.d0 r (own_some hm); omega
 have hB := blk_gl h.blk hg (hnj Pb (.inl rfl))
 have hgne : g ≠ Pb ∧ g ≠ X0 ∧ g ≠ X1 ∧ g ≠ Y0 ∧ g ≠ Y1 ∧ v1.ownBlock ≠ some g := by
  rcases hgb with hgb | hgb
  · exact h.d0 g hgb
  · exact ⟨by omega, by omega, by omega, by omega, by omega, fun hv => by have := hb1 g hv; omega⟩
 have hset : GL [Pb] w' (w'.setCell ⟨Pb, 4, none⟩ (.slice (some ⟨g, o, none⟩) (q0.length + 1) c)) := gl_seti (p := ⟨Pb, 4, none⟩) si_ (gl_refl _ _) _
 refine ⟨blk_set hB 4 _, ?_, ?_, side_gl (side_gl h.s0 hg (hnj X0 si_) (hnj Y0 si_)) hset so_ so_, side_gl (side_gl h.s1 hg (hnj X1 si_) (hnj Y1 si_)) hset so_ so_, h.low, h.ne, ?_, ?_, ?_, ?_, ?_⟩
 · exact queT_gl hq hset (fun r hr hb => by simp [Value.ownBlock] at hr hb; omega)
 · exact queT_gl (queT_gl h.u1 hg (fun r hr hb => (h.d0 r (own_some hr)).2.2.2.2.2 hb)) hset (fun r hr hb => by simp at hr; subst hr; exact (h.d1 _ hb).1 rfl)
 · exact fun r hr => by simp [Value.ownBlock] at hr; subst hr; exact hgne
 · exact fun r hr => ⟨(h.d1 r hr).1, (h.d1 r hr).2.1, (h.d1 r hr).2.2.1, (h.d1 r hr).2.2.2.1, (h.d1 r hr).2.2.2.2.1, fun hb => by simp [Value.ownBlock] at hb; subst hb; exact hgne.2.2.2.2.2 hr⟩
 · have := h.c0
   simp
   omega
 · intro u hu
   rcases List.mem_append.1 hu with hu | hu
   · exact h.t0 u hu
   · rw [List.mem_singleton.1 hu]; exact ht
 · exact h.t1
theorem pair_pop0 {w : World} {lo Pb X0 X1 Y0 Y1 : Nat} {v0 v1 : Value} {q0 q1 : List (List UInt8)} {m : Nat} (h : PairAt w lo Pb X0 X1 Y0 Y1 v0 v1 q0 q1 m) {t : List UInt8} {r : List (List UInt8)} (hqr : q0 = t :: r) {v' : Value} (hq : QueT lo v' r w) (hv : v'.ownBlock = v0.ownBlock) :
  PairAt (w.setCell ⟨Pb, 4, none⟩ v') lo Pb X0 X1 Y0 Y1 v' v1 r q1 m := by
 have hn := h.ne
 have hset : GL [Pb] w (w.setCell ⟨Pb, 4, none⟩ v') := gl_seti (p := ⟨Pb, 4, none⟩) si_ (gl_refl _ _) _
 have hc := h.c0
 rw [hqr] at hc
 simp only [List.length_cons] at hc
 refine ⟨blk_set h.blk 4 _, ?_, ?_, side_gl h.s0 hset so_ so_, side_gl h.s1 hset so_ so_, h.low, h.ne, ?_, ?_, by omega, ?_, ?_⟩
 · exact queT_gl hq hset (fun z hz hb => by simp at hz; subst hz; rw [hv] at hb; exact (h.d0 _ hb).1 rfl)
 · exact queT_gl h.u1 hset (fun z hz hb => by simp at hz; subst hz; exact (h.d1 _ hb).1 rfl)
 · exact fun g hg => by rw [hv] at hg; exact h.d0 g hg
 · exact fun g hg => ⟨(h.d1 g hg).1, (h.d1 g hg).2.1, (h.d1 g hg).2.2.1, (h.d1 g hg).2.2.2.1, (h.d1 g hg).2.2.2.2.1, by rw [hv]; exact (h.d1 g hg).2.2.2.2.2⟩
 · exact fun u hu => h.t0 u (by rw [hqr]; simp [hu])
 · exact h.t1
theorem pair_pop1 {w : World} {lo Pb X0 X1 Y0 Y1 : Nat} {v0 v1 : Value} {q0 q1 : List (List UInt8)} {m : Nat} (h : PairAt w lo Pb X0 X1 Y0 Y1 v0 v1 q0 q1 m) {t : List UInt8} {r : List (List UInt8)} (hqr : q1 = t :: r) {v' : Value} (hq : QueT lo v' r w) (hv : v'.ownBlock = v1.ownBlock) :
  PairAt (w.setCell ⟨Pb, 5, none⟩ v') lo Pb X0 X1 Y0 Y1 v0 v' q0 r m := by
 have hn := h.ne
 have hset : GL [Pb] w (w.setCell ⟨Pb, 5, none⟩ v') := gl_seti (p := ⟨Pb, 5, none⟩) si_ (gl_refl _ _) _
 have hc := h.c0
 rw [hqr] at hc
 simp only [List.length_cons] at hc
 refine ⟨blk_set h.blk 5 _, ?_, ?_, side_gl h.s0 hset so_ so_, side_gl h.s1 hset so_ so_, h.low, h.ne, ?_, ?_, by omega, ?_, ?_⟩
 · exact queT_gl h.u0 hset (fun z hz hb => by simp at hz; subst hz; exact (h.d0 _ hb).1 rfl)
 · exact queT_gl hq hset (fun z hz hb => by simp at hz; subst hz; rw [hv] at hb; exact (h.d1 _ hb).1 rfl)
 · exact fun g hg => ⟨(h.d0 g hg).1, (h.d0 g hg).2.1, (h.d0 g hg).2.2.1, (h.d0 g hg).2.2.2.1, (h.d0 g hg).2.2.2.2.1, by rw [hv]; exact (h.d0 g hg).2.2.2.2.2⟩
 · exact fun g hg => by rw [hv] at hg; exact h.d1 g hg
 · exact h.t0
 · exact fun u hu => h.t1 u (by rw [hqr]; simp [hu])
end Go.Proofs.YtaaiaahkakkleaaGreatDoor
