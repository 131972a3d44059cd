/- The program: Copy, a mind that has heard the same. -/
import Derived.Test.YtdmfoablpdhnbaaGreatDoorDedE
set_option linter.unusedSimpArgs false
set_option linter.unusedVariables false
namespace Go.Proofs.YtdmfoablpdhnbaaGreatDoor
open Go.RowKit Go.Maps

set_option maxRecDepth 100000 in
set_option maxHeartbeats 2000000 in
theorem dCopy (M bh be n : Nat) (H S : List UInt8 → Bool) (w : World) (hM : MindAt w M bh be H S n) (hG : GOk w) :
    Calls Tryz.prog 59 #[.pointer (some ⟨M, 0, none⟩)] w fun e w' => ∃ M' bh' be', e = .returned (.pointer (some ⟨M', 0, none⟩)) ∧ MindAt w' M' bh' be' H S n ∧ w.heap.size ≤ M' ∧ w.heap.size ≤ bh' ∧ w.heap.size ≤ be' ∧ Below w.heap.size w w' := by
  have hsz := hG.size
  have a1 := blk_cell hM.blk
  have a2 := blk_free hM.blk
  have a3 := blk_lt hM.blk
  have HH := Lib.hid hM
  have t1 : True := trivial
  obtain ⟨ne, hne⟩ := hM.held
  have HNE := Lib.hid hne
  have HHD := Lib.hid hM.heard
  have HCL : Hid (∀ b m f W, MapT W b m f → Calls Tryz.prog 99 #[.map (some b)] W fun e W' => ∃ c, e = .returned (.map (some c)) ∧ c = W.heap.size ∧ MapT W' c m f ∧ GL [] W W' ∧ c < W'.heap.size) := Lib.hid (fun b m f W h => (dClone b m f W h).mono fun e W' ⟨h1, h2, h3⟩ => ⟨_, h1, rfl, h2, gl_below h3 (gl_refl _ _), mapB_lt h2⟩)
  have HZ0 := Lib.hid (show MapT w.drew bh n (setF H) ∧ MapT w.drew be ne (setF S) from ⟨mapB_gl hM.heard (gl_drew (gl_refl [] _)) (by simp), mapB_gl hne (gl_drew (gl_refl [] _)) (by simp)⟩)
  clear hM hG hne
  go_enter Tryz.func59, Tryz.ntmps59
  go_wp2_with fail
  go_region_held3 (fun w' => w'.cell? ⟨M, 0, none⟩ = some (.map (some bh)) ∧ w'.cell? ⟨M, 1, none⟩ = some (.map (some be)) ∧ MapT w' bh n (setF H) ∧ MapT w' be ne (setF S) ∧ GL [] w w')
    (first
      | (refine ⟨?_, ?_, ?_, ?_, ?_⟩
         · go_keep
         · go_keep
         · exact HZ0.out.1
         · exact HZ0.out.2
         · exact gl_drew (gl_refl [] _))
      | (go_split_ands
         refine ⟨cell_glx (by assumption) hgk (by simp), cell_glx (by assumption) hgk (by simp), mapB_gl (by assumption) hgk (by simp), mapB_gl (by assumption) hgk (by simp), gl_step hgk (by assumption) (by simp)⟩)
      | (go_split_ands
         refine ⟨cell_glx (by assumption) (gl_alloc (gl_refl [] _) _) (by simp), cell_glx (by assumption) (gl_alloc (gl_refl [] _) _) (by simp), mapB_gl (by assumption) (gl_alloc (gl_refl [] _) _) (by simp), mapB_gl (by assumption) (gl_alloc (gl_refl [] _) _) (by simp), gl_alloc (by assumption) _⟩))
    ((first
      | (have _t := t1; go_split_ands; with_reducible refine (HCL.out bh n (setF H) _ (by assumption)).mono ?_; rintro e wk ⟨c1, rfl, hc1, hm1, hgk, hl1⟩; clear t1)
      | (go_split_ands; with_reducible refine (HCL.out be ne (setF S) _ (by assumption)).mono ?_; rintro e wk2 ⟨c2, rfl, hc2, hm2, hgk2, hl2⟩; have hgk := hgk2)))
  go_split_ands
  go_wp2_with fail
  go_ret
  have hb1 := mapB_lt HHD.out
  have hb2 := mapB_lt HNE.out
  have e1 : c1 = w.heap.size := by rw [hc1]; simp
  have q0 : GL [] w wk := by assumption
  have q1 : GL [] w wk2 := gl_step hgk2 q0 (by simp)
  have q2 : MapT wk2 c1 n (setF H) := mapB_gl hm1 hgk2 (by simp)
  subst e1 hc2
  have s1 := q0.size
  have s2 := q1.size
  have s3 := hgk2.size
  refine ⟨wk2.heap.size, w.heap.size, wk.heap.size, rfl, ⟨?_, ?_, ⟨ne, ?_⟩, ⟨by omega, by omega, by omega⟩, ⟨by omega, by omega, by omega⟩, HH.out.least, HH.out.rights, HH.out.few⟩, s2, Nat.le_refl _, s1, gl_to_below (gl_alloc q1 _)⟩
  · have := blk_new wk2 (.cells #[.map (some w.heap.size), .map (some wk.heap.size)] 111)
    simpa using this
  · exact mapB_gl q2 (gl_alloc (gl_refl [] _) _) (by simp)
  · exact mapB_gl hm2 (gl_alloc (gl_refl [] _) _) (by simp)
