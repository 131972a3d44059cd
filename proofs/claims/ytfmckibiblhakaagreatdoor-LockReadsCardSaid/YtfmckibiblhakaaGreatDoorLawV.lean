/- The laws of layer 11: LockReads. -/
import Derived.Test.YtfmckibiblhakaaGreatDoorLawL
import Derived.Test.YtfmckibiblhakaaGreatDoorLRefE
set_option linter.unusedSimpArgs false
set_option linter.unusedVariables false
namespace Go.Proofs.YtfmckibiblhakaaGreatDoor
open Go.RowKit

theorem option_twoV {α : Type} (o : Option α) : o = none ∨ ∃ y, o = some y := by
  cases o with
  | none => exact .inl rfl
  | some y => exact .inr ⟨y, rfl⟩
theorem lock_zero (p : Nat → Prop) (w : World) : LockIn p w (.mk 0 [] 0 []) (.agg #[.int .u8 0, .string (bs []), .int .i64 0, .slice none 0 0]) := by
  unfold LockIn
  exact ⟨by omega, by omega, by simp, by simp, _, rfl, .inl ⟨none, 0, rfl, rfl⟩⟩

set_option maxRecDepth 100000 in
set_option maxHeartbeats 16000000 in
theorem lLockReads (s : List UInt8) (hsl : s.length ≤ 9000000000000000000) (w : World) (hG : GOk w) :
    Calls Tryz.prog 4 #[.string (bs s)] w fun e w' => e = .returned (.bool true) ∧ Below w.heap.size w w' := by
  have HG0 := Lib.hid hG
  clear hG
  have hg0 : GL [] w w := gl_refl _ _
  by_cases h3 : s.length ≤ 3000
  · skip
    have b3 : decide (3000 < (s.length : Int)) = false := by simp; omega
    rcases option_twoV (readP cutP limP s) with hq | ⟨y, hq⟩
    · skip
      have HQ := Lib.hid hq
      have HQ2 : Hid (readP termR limR s = none) := by show _ = none; rw [read_same]; exact hq
      clear hq
      go_enter Tryz.func4, Tryz.ntmps4
      go_wp2_with fail
      refine (lkRead s (by omega) _ HG0.out).mono ?_
      intro e w1 hp
      rw [HQ.out] at hp
      obtain ⟨hb1, rfl⟩ := hp
      have HG1 := Lib.hid (gok_below HG0.out hb1)
      have hg1 : GL [] w w1 := gl_below hb1 hg0
      have hs1 := hg1.size
      go_wp2_with fail
      have HA2 : Hid ((w1.alloc (.cells #[.int .u8 0, .string (bs []), .int .i64 0, .slice none 0 0] 25)).heap[w1.heap.size]? = some (.cells #[.int .u8 0, .string (bs []), .int .i64 0, .slice none 0 0] 25 (0, 0))) := by
        have h := blk_new w1 (.cells #[.int .u8 0, .string (bs []), .int .i64 0, .slice none 0 0] 25)
        exact h
      have HG2 := Lib.hid (gok_alloc HG1.out (.cells #[.int .u8 0, .string (bs []), .int .i64 0, .slice none 0 0] 25))
      have hg2 : GL [] w (w1.alloc (.cells #[.int .u8 0, .string (bs []), .int .i64 0, .slice none 0 0] 25)) := (gl_alloc hg1 (.cells #[.int .u8 0, .string (bs []), .int .i64 0, .slice none 0 0] 25))
      have geA : w.heap.size ≤ w1.heap.size := by have := hg1.size; omega
      have gnA : gN ≤ w1.heap.size := by have := HG1.out.size; omega
      generalize (w1.alloc (.cells #[.int .u8 0, .string (bs []), .int .i64 0, .slice none 0 0] 25)) = w2 at *
      generalize w1.heap.size = A at *
      have hs2 : w.heap.size ≤ w2.heap.size := hg2.size
      refine (rlRead s (by omega) _).mono ?_
      intro e w3 hp
      rw [HQ2.out] at hp
      obtain ⟨hb3, rfl⟩ := hp
      have HG3 := Lib.hid (gok_below HG2.out hb3)
      have hg3 : GL [] w w3 := gl_below hb3 hg2
      have hs3 := hg3.size
      have HA3 := Lib.hid (blk_below HA2.out hb3 (blk_lt HA2.out))
      have fa1 := blk_cell HA3.out
      have fb1 := blk_free HA3.out
      have fl1 := blk_lt HA3.out
      have flx1 : A < w3.heap.size + 1 := by omega
      go_wp2_with fail
      clear fa1 fb1 fl1
      clear flx1
      have HA4 := Lib.hid (blk_alloc HA3.out (.cells #[.int .u8 0, .string (bs []), .int .i64 0, .slice none 0 0] 25))
      have ltAB : A < w3.heap.size := by have := blk_lt HA3.out; omega
      have neAB : A ≠ w3.heap.size := by omega
      have neBA : w3.heap.size ≠ A := by omega
      have HB4 : Hid ((w3.alloc (.cells #[.int .u8 0, .string (bs []), .int .i64 0, .slice none 0 0] 25)).heap[w3.heap.size]? = some (.cells #[.int .u8 0, .string (bs []), .int .i64 0, .slice none 0 0] 25 (0, 0))) := by
        have h := blk_new w3 (.cells #[.int .u8 0, .string (bs []), .int .i64 0, .slice none 0 0] 25)
        exact h
      have HG4 := Lib.hid (gok_alloc HG3.out (.cells #[.int .u8 0, .string (bs []), .int .i64 0, .slice none 0 0] 25))
      have hg4 : GL [] w (w3.alloc (.cells #[.int .u8 0, .string (bs []), .int .i64 0, .slice none 0 0] 25)) := (gl_alloc hg3 (.cells #[.int .u8 0, .string (bs []), .int .i64 0, .slice none 0 0] 25))
      have geB : w.heap.size ≤ w3.heap.size := by have := hg3.size; omega
      have gnB : gN ≤ w3.heap.size := by have := HG3.out.size; omega
      generalize (w3.alloc (.cells #[.int .u8 0, .string (bs []), .int .i64 0, .slice none 0 0] 25)) = w4 at *
      generalize w3.heap.size = B at *
      have hs4 : w.heap.size ≤ w4.heap.size := hg4.size
      refine (lkSame (.mk 0 [] 0 []) (.mk 0 [] 0 []) (fun _ => True) (fun _ => True) _ _ _ (lock_zero _ _) (lock_zero _ _)).mono ?_
      rintro e w5 ⟨rfl, hb5⟩
      rw [sameL_self]
      have HA5 := Lib.hid (blk_below HA4.out hb5 (blk_lt HA4.out))
      have HB5 := Lib.hid (blk_below HB4.out hb5 (blk_lt HB4.out))
      have HG5 := Lib.hid (gok_below HG4.out hb5)
      have hg5 : GL [] w w5 := gl_below hb5 hg4
      have hs5 : w.heap.size ≤ w5.heap.size := hg5.size
      go_wp2_with fail
      refine (lWorks11 _ HG5.out).mono ?_
      rintro e wz ⟨rfl, hbz⟩
      have HAz := Lib.hid (blk_below HA5.out hbz (blk_lt HA5.out))
      have HBz := Lib.hid (blk_below HB5.out hbz (blk_lt HB5.out))
      have HGz := Lib.hid (gok_below HG5.out hbz)
      have hgz : GL [] w wz := gl_below hbz hg5
      have hsz : w.heap.size ≤ wz.heap.size := hgz.size
      go_wp2_with fail
      go_ret
      exact ⟨rfl, gl_to_below hgz⟩
    · skip
      have HQ := Lib.hid hq
      have HQ2 : Hid (readP termR limR s = some y) := by show _ = some y; rw [read_same]; exact hq
      clear hq
      obtain ⟨k, t, n, ks⟩ := y
      go_enter Tryz.func4, Tryz.ntmps4
      go_wp2_with fail
      refine (lkRead s (by omega) _ HG0.out).mono ?_
      intro e w1 hp
      rw [HQ.out] at hp
      obtain ⟨hb1, v1, rfl, hl1⟩ := hp
      obtain ⟨ad1, c1, rfl, _⟩ := lockIn_open hl1
      have HX1 := Lib.hid (lockIn_mono (q := fun _ => True) (fun _ _ _ => trivial) _ _ hl1)
      clear hl1
      have HG1 := Lib.hid (gok_below HG0.out hb1)
      have hg1 : GL [] w w1 := gl_below hb1 hg0
      have hs1 := hg1.size
      go_wp2_with fail
      have HX2 := Lib.hid (lockIn_gl (gl_alloc (gl_refl _ _) (.cells #[.int .u8 k, .string (bs t), .int .i64 n, .slice ad1 ks.length c1] 25)) _ _ HX1.out)
      have HA2 : Hid ((w1.alloc (.cells #[.int .u8 k, .string (bs t), .int .i64 n, .slice ad1 ks.length c1] 25)).heap[w1.heap.size]? = some (.cells #[.int .u8 k, .string (bs t), .int .i64 n, .slice ad1 ks.length c1] 25 (0, 0))) := by
        have h := blk_new w1 (.cells #[.int .u8 k, .string (bs t), .int .i64 n, .slice ad1 ks.length c1] 25)
        exact h
      have HG2 := Lib.hid (gok_alloc HG1.out (.cells #[.int .u8 k, .string (bs t), .int .i64 n, .slice ad1 ks.length c1] 25))
      have hg2 : GL [] w (w1.alloc (.cells #[.int .u8 k, .string (bs t), .int .i64 n, .slice ad1 ks.length c1] 25)) := (gl_alloc hg1 (.cells #[.int .u8 k, .string (bs t), .int .i64 n, .slice ad1 ks.length c1] 25))
      have geA : w.heap.size ≤ w1.heap.size := by have := hg1.size; omega
      have gnA : gN ≤ w1.heap.size := by have := HG1.out.size; omega
      generalize (w1.alloc (.cells #[.int .u8 k, .string (bs t), .int .i64 n, .slice ad1 ks.length c1] 25)) = w2 at *
      generalize w1.heap.size = A at *
      have hs2 : w.heap.size ≤ w2.heap.size := hg2.size
      refine (rlRead s (by omega) _).mono ?_
      intro e w3 hp
      rw [HQ2.out] at hp
      obtain ⟨hb3, v3, rfl, hl3⟩ := hp
      obtain ⟨ad3, c3, rfl, _⟩ := lockIn_open hl3
      have HY3 := Lib.hid (lockIn_mono (q := fun _ => True) (fun _ _ _ => trivial) _ _ hl3)
      clear hl3
      have HX3 := Lib.hid (lockIn_gl (gl_below hb3 (gl_refl _ _)) _ _ HX2.out)
      have HG3 := Lib.hid (gok_below HG2.out hb3)
      have hg3 : GL [] w w3 := gl_below hb3 hg2
      have hs3 := hg3.size
      have HA3 := Lib.hid (blk_below HA2.out hb3 (blk_lt HA2.out))
      have fa1 := blk_cell HA3.out
      have fb1 := blk_free HA3.out
      have fl1 := blk_lt HA3.out
      have flx1 : A < w3.heap.size + 1 := by omega
      go_wp2_with fail
      clear fa1 fb1 fl1
      clear flx1
      have HX4 := Lib.hid (lockIn_gl (gl_alloc (gl_refl _ _) (.cells #[.int .u8 k, .string (bs t), .int .i64 n, .slice ad3 ks.length c3] 25)) _ _ HX3.out)
      have HY4 := Lib.hid (lockIn_gl (gl_alloc (gl_refl _ _) (.cells #[.int .u8 k, .string (bs t), .int .i64 n, .slice ad3 ks.length c3] 25)) _ _ HY3.out)
      have HA4 := Lib.hid (blk_alloc HA3.out (.cells #[.int .u8 k, .string (bs t), .int .i64 n, .slice ad3 ks.length c3] 25))
      have ltAB : A < w3.heap.size := by have := blk_lt HA3.out; omega
      have neAB : A ≠ w3.heap.size := by omega
      have neBA : w3.heap.size ≠ A := by omega
      have HB4 : Hid ((w3.alloc (.cells #[.int .u8 k, .string (bs t), .int .i64 n, .slice ad3 ks.length c3] 25)).heap[w3.heap.size]? = some (.cells #[.int .u8 k, .string (bs t), .int .i64 n, .slice ad3 ks.length c3] 25 (0, 0))) := by
        have h := blk_new w3 (.cells #[.int .u8 k, .string (bs t), .int .i64 n, .slice ad3 ks.length c3] 25)
        exact h
      have HG4 := Lib.hid (gok_alloc HG3.out (.cells #[.int .u8 k, .string (bs t), .int .i64 n, .slice ad3 ks.length c3] 25))
      have hg4 : GL [] w (w3.alloc (.cells #[.int .u8 k, .string (bs t), .int .i64 n, .slice ad3 ks.length c3] 25)) := (gl_alloc hg3 (.cells #[.int .u8 k, .string (bs t), .int .i64 n, .slice ad3 ks.length c3] 25))
      have geB : w.heap.size ≤ w3.heap.size := by have := hg3.size; omega
      have gnB : gN ≤ w3.heap.size := by have := HG3.out.size; omega
      generalize (w3.alloc (.cells #[.int .u8 k, .string (bs t), .int .i64 n, .slice ad3 ks.length c3] 25)) = w4 at *
      generalize w3.heap.size = B at *
      have hs4 : w.heap.size ≤ w4.heap.size := hg4.size
      refine (lkSame (.mk k t n ks) (.mk k t n ks) _ _ _ _ _ HX4.out HY4.out).mono ?_
      rintro e w5 ⟨rfl, hb5⟩
      rw [sameL_self]
      have HA5 := Lib.hid (blk_below HA4.out hb5 (blk_lt HA4.out))
      have HB5 := Lib.hid (blk_below HB4.out hb5 (blk_lt HB4.out))
      have HG5 := Lib.hid (gok_below HG4.out hb5)
      have hg5 : GL [] w w5 := gl_below hb5 hg4
      have hs5 : w.heap.size ≤ w5.heap.size := hg5.size
      have HX5 := Lib.hid (lockIn_gl (gl_below hb5 (gl_refl _ _)) _ _ HX4.out)
      have HY5 := Lib.hid (lockIn_gl (gl_below hb5 (gl_refl _ _)) _ _ HY4.out)
      go_wp2_with fail
      refine (lWorks11 _ HG5.out).mono ?_
      rintro e wz ⟨rfl, hbz⟩
      have HAz := Lib.hid (blk_below HA5.out hbz (blk_lt HA5.out))
      have HBz := Lib.hid (blk_below HB5.out hbz (blk_lt HB5.out))
      have HGz := Lib.hid (gok_below HG5.out hbz)
      have hgz : GL [] w wz := gl_below hbz hg5
      have hsz : w.heap.size ≤ wz.heap.size := hgz.size
      have HXz := Lib.hid (lockIn_gl (gl_below hbz (gl_refl _ _)) _ _ HX5.out)
      have HYz := Lib.hid (lockIn_gl (gl_below hbz (gl_refl _ _)) _ _ HY5.out)
      go_wp2_with fail
      go_ret
      exact ⟨rfl, gl_to_below hgz⟩
  · skip
    have b3 : decide (3000 < (s.length : Int)) = true := by simp; omega
    go_enter Tryz.func4, Tryz.ntmps4
    go_wp2_with fail
    go_ret
    exact ⟨rfl, gl_to_below hg0⟩

end Go.Proofs.YtfmckibiblhakaaGreatDoor
