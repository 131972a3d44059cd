/- The program's locks: Read. -/
import Derived.Test.YtfmckibiblhakaaGreatDoorLockG
import Derived.Test.YtfmckibiblhakaaGreatDoorLockO
set_option linter.unusedSimpArgs false
set_option linter.unusedVariables false
namespace Go.Proofs.YtfmckibiblhakaaGreatDoor
open Go.RowKit

def LkReadPost (w : World) (o : Option LT) (e : Ending) (w' : World) : Prop := Below w.heap.size w w' ∧
  match o with
  | none => e = .returned (.tuple #[.agg #[.int .u8 0, .string (bs []), .int .i64 0, .slice none 0 0], .int .i64 110])
  | some x => ∃ v, e = .returned (.tuple #[v, .int .i64 0]) ∧ LockIn (fun b => w.heap.size ≤ b) w' x v

set_option maxRecDepth 100000 in
set_option maxHeartbeats 8000000 in
theorem lkRead (s : List UInt8) (hsl : s.length ≤ 100000000000) (w : World) (hG : GOk w) :
    Calls Tryz.prog 24 #[.string (bs s)] w (LkReadPost w (readP cutP limP s)) := by
  have hsf := store_fn
  have HG0 := Lib.hid hG
  clear hG
  have hP : readP cutP limP s = match readL cutP limP 65 64 s with | some (x, [], _) => if rightL x then some x else none | _ => none := rfl
  cases ho : readL cutP limP 65 64 s with
  | none =>
    have HP : Hid (readP cutP limP s = none) := by show _ = none; rw [hP, ho]
    have HO := Lib.hid ho
    clear hP ho
    go_enter Tryz.func24, Tryz.ntmps24
    have hg0 : GL [] w w := gl_refl _ _
    have hs0 : w.heap.size ≤ w.heap.size := Nat.le_refl _
    go_wp2_with fail
    have hle : hszW w ≤ w.heap.size ∧ w.heap.size ≤ hszW w := ⟨Nat.le_refl _, Nat.le_refl _⟩
    have HS1 : Hid (((((w.alloc (.cells #[.string (bs s)] 9)).alloc (.cells #[.int .u8 0, .string (bs []), .int .i64 0, .slice none 0 0] 25)).alloc (.cells #[.int .i64 64] 3)).alloc (.cells #[.func (.func 79) #[] #[.pointer (some ⟨w.heap.size, 0, none⟩), .pointer (some ⟨w.heap.size + 1 + 1, 0, none⟩), .pointer (some ⟨w.heap.size + 1 + 1 + 1, 0, none⟩)]] 107)).heap[w.heap.size]? = some (.cells #[.string (bs s)] 9 (0, 0))) := by
      have h := blk_new w (.cells #[.string (bs s)] 9)
      exact (blk_alloc (blk_alloc (blk_alloc h (.cells #[.int .u8 0, .string (bs []), .int .i64 0, .slice none 0 0] 25)) (.cells #[.int .i64 64] 3)) (.cells #[.func (.func 79) #[] #[.pointer (some ⟨w.heap.size, 0, none⟩), .pointer (some ⟨w.heap.size + 1 + 1, 0, none⟩), .pointer (some ⟨w.heap.size + 1 + 1 + 1, 0, none⟩)]] 107))
    have HRES1 : Hid (((((w.alloc (.cells #[.string (bs s)] 9)).alloc (.cells #[.int .u8 0, .string (bs []), .int .i64 0, .slice none 0 0] 25)).alloc (.cells #[.int .i64 64] 3)).alloc (.cells #[.func (.func 79) #[] #[.pointer (some ⟨w.heap.size, 0, none⟩), .pointer (some ⟨w.heap.size + 1 + 1, 0, none⟩), .pointer (some ⟨w.heap.size + 1 + 1 + 1, 0, none⟩)]] 107)).heap[w.heap.size + 1]? = some (.cells #[.int .u8 0, .string (bs []), .int .i64 0, .slice none 0 0] 25 (0, 0))) := by
      have h := blk_new (w.alloc (.cells #[.string (bs s)] 9)) (.cells #[.int .u8 0, .string (bs []), .int .i64 0, .slice none 0 0] 25)
      rw [show (w.alloc (.cells #[.string (bs s)] 9)).heap.size = w.heap.size + 1 by simp] at h
      exact (blk_alloc (blk_alloc h (.cells #[.int .i64 64] 3)) (.cells #[.func (.func 79) #[] #[.pointer (some ⟨w.heap.size, 0, none⟩), .pointer (some ⟨w.heap.size + 1 + 1, 0, none⟩), .pointer (some ⟨w.heap.size + 1 + 1 + 1, 0, none⟩)]] 107))
    have HR1 : Hid (((((w.alloc (.cells #[.string (bs s)] 9)).alloc (.cells #[.int .u8 0, .string (bs []), .int .i64 0, .slice none 0 0] 25)).alloc (.cells #[.int .i64 64] 3)).alloc (.cells #[.func (.func 79) #[] #[.pointer (some ⟨w.heap.size, 0, none⟩), .pointer (some ⟨w.heap.size + 1 + 1, 0, none⟩), .pointer (some ⟨w.heap.size + 1 + 1 + 1, 0, none⟩)]] 107)).heap[w.heap.size + 1 + 1]? = some (.cells #[.int .i64 64] 3 (0, 0))) := by
      have h := blk_new ((w.alloc (.cells #[.string (bs s)] 9)).alloc (.cells #[.int .u8 0, .string (bs []), .int .i64 0, .slice none 0 0] 25)) (.cells #[.int .i64 64] 3)
      rw [show ((w.alloc (.cells #[.string (bs s)] 9)).alloc (.cells #[.int .u8 0, .string (bs []), .int .i64 0, .slice none 0 0] 25)).heap.size = w.heap.size + 1 + 1 by simp] at h
      exact (blk_alloc h (.cells #[.func (.func 79) #[] #[.pointer (some ⟨w.heap.size, 0, none⟩), .pointer (some ⟨w.heap.size + 1 + 1, 0, none⟩), .pointer (some ⟨w.heap.size + 1 + 1 + 1, 0, none⟩)]] 107))
    have HF1 : Hid (((((w.alloc (.cells #[.string (bs s)] 9)).alloc (.cells #[.int .u8 0, .string (bs []), .int .i64 0, .slice none 0 0] 25)).alloc (.cells #[.int .i64 64] 3)).alloc (.cells #[.func (.func 79) #[] #[.pointer (some ⟨w.heap.size, 0, none⟩), .pointer (some ⟨w.heap.size + 1 + 1, 0, none⟩), .pointer (some ⟨w.heap.size + 1 + 1 + 1, 0, none⟩)]] 107)).heap[w.heap.size + 1 + 1 + 1]? = some (.cells #[.func (.func 79) #[] #[.pointer (some ⟨w.heap.size, 0, none⟩), .pointer (some ⟨w.heap.size + 1 + 1, 0, none⟩), .pointer (some ⟨w.heap.size + 1 + 1 + 1, 0, none⟩)]] 107 (0, 0))) := by
      have h := blk_new (((w.alloc (.cells #[.string (bs s)] 9)).alloc (.cells #[.int .u8 0, .string (bs []), .int .i64 0, .slice none 0 0] 25)).alloc (.cells #[.int .i64 64] 3)) (.cells #[.func (.func 79) #[] #[.pointer (some ⟨w.heap.size, 0, none⟩), .pointer (some ⟨w.heap.size + 1 + 1, 0, none⟩), .pointer (some ⟨w.heap.size + 1 + 1 + 1, 0, none⟩)]] 107)
      rw [show (((w.alloc (.cells #[.string (bs s)] 9)).alloc (.cells #[.int .u8 0, .string (bs []), .int .i64 0, .slice none 0 0] 25)).alloc (.cells #[.int .i64 64] 3)).heap.size = w.heap.size + 1 + 1 + 1 by simp] at h
      exact h
    have HG1 := Lib.hid (gok_alloc (gok_alloc (gok_alloc (gok_alloc HG0.out (.cells #[.string (bs s)] 9)) (.cells #[.int .u8 0, .string (bs []), .int .i64 0, .slice none 0 0] 25)) (.cells #[.int .i64 64] 3)) (.cells #[.func (.func 79) #[] #[.pointer (some ⟨w.heap.size, 0, none⟩), .pointer (some ⟨w.heap.size + 1 + 1, 0, none⟩), .pointer (some ⟨w.heap.size + 1 + 1 + 1, 0, none⟩)]] 107))
    have hg1 : GL [] w ((((w.alloc (.cells #[.string (bs s)] 9)).alloc (.cells #[.int .u8 0, .string (bs []), .int .i64 0, .slice none 0 0] 25)).alloc (.cells #[.int .i64 64] 3)).alloc (.cells #[.func (.func 79) #[] #[.pointer (some ⟨w.heap.size, 0, none⟩), .pointer (some ⟨w.heap.size + 1 + 1, 0, none⟩), .pointer (some ⟨w.heap.size + 1 + 1 + 1, 0, none⟩)]] 107)) := (gl_alloc (gl_alloc (gl_alloc (gl_alloc hg0 (.cells #[.string (bs s)] 9)) (.cells #[.int .u8 0, .string (bs []), .int .i64 0, .slice none 0 0] 25)) (.cells #[.int .i64 64] 3)) (.cells #[.func (.func 79) #[] #[.pointer (some ⟨w.heap.size, 0, none⟩), .pointer (some ⟨w.heap.size + 1 + 1, 0, none⟩), .pointer (some ⟨w.heap.size + 1 + 1 + 1, 0, none⟩)]] 107))
    have geS : w.heap.size ≤ w.heap.size := by have := hg0.size; omega
    have gnS : gN ≤ w.heap.size := by have := HG0.out.size; omega
    have geRES : w.heap.size ≤ w.heap.size + 1 := by have := hg0.size; omega
    have gnRES : gN ≤ w.heap.size + 1 := by have := HG0.out.size; omega
    have ltSRES : w.heap.size < w.heap.size + 1 := by omega
    have neSRES : w.heap.size ≠ w.heap.size + 1 := by omega
    have neRESS : w.heap.size + 1 ≠ w.heap.size := by omega
    have geR : w.heap.size ≤ w.heap.size + 1 + 1 := by have := hg0.size; omega
    have gnR : gN ≤ w.heap.size + 1 + 1 := by have := HG0.out.size; omega
    have ltSR : w.heap.size < w.heap.size + 1 + 1 := by omega
    have neSR : w.heap.size ≠ w.heap.size + 1 + 1 := by omega
    have neRS : w.heap.size + 1 + 1 ≠ w.heap.size := by omega
    have ltRESR : w.heap.size + 1 < w.heap.size + 1 + 1 := by omega
    have neRESR : w.heap.size + 1 ≠ w.heap.size + 1 + 1 := by omega
    have neRRES : w.heap.size + 1 + 1 ≠ w.heap.size + 1 := by omega
    have geF : w.heap.size ≤ w.heap.size + 1 + 1 + 1 := by have := hg0.size; omega
    have gnF : gN ≤ w.heap.size + 1 + 1 + 1 := by have := HG0.out.size; omega
    have ltSF : w.heap.size < w.heap.size + 1 + 1 + 1 := by omega
    have neSF : w.heap.size ≠ w.heap.size + 1 + 1 + 1 := by omega
    have neFS : w.heap.size + 1 + 1 + 1 ≠ w.heap.size := by omega
    have ltRESF : w.heap.size + 1 < w.heap.size + 1 + 1 + 1 := by omega
    have neRESF : w.heap.size + 1 ≠ w.heap.size + 1 + 1 + 1 := by omega
    have neFRES : w.heap.size + 1 + 1 + 1 ≠ w.heap.size + 1 := by omega
    have ltRF : w.heap.size + 1 + 1 < w.heap.size + 1 + 1 + 1 := by omega
    have neRF : w.heap.size + 1 + 1 ≠ w.heap.size + 1 + 1 + 1 := by omega
    have neFR : w.heap.size + 1 + 1 + 1 ≠ w.heap.size + 1 + 1 := by omega
    generalize ((((w.alloc (.cells #[.string (bs s)] 9)).alloc (.cells #[.int .u8 0, .string (bs []), .int .i64 0, .slice none 0 0] 25)).alloc (.cells #[.int .i64 64] 3)).alloc (.cells #[.func (.func 79) #[] #[.pointer (some ⟨w.heap.size, 0, none⟩), .pointer (some ⟨w.heap.size + 1 + 1, 0, none⟩), .pointer (some ⟨w.heap.size + 1 + 1 + 1, 0, none⟩)]] 107)) = w1 at *
    generalize w.heap.size + 1 + 1 + 1 = F at *
    generalize w.heap.size + 1 + 1 = R at *
    generalize w.heap.size + 1 = RES at *
    generalize w.heap.size = S at *
    have hs1 : w.heap.size ≤ w1.heap.size := hg1.size
    have hSw : w.heap.size ≤ S := hle.1
    refine (lkRdN 65 S R F s 64 _ (by omega) hsl (by omega) (by omega) (by omega) (by omega) gnS gnR HS1.out HR1.out HF1.out HG1.out).mono ?_
    rintro e w2 ⟨hgl2, hp⟩
    rw [HO.out] at hp
    have hg2 : GL [] w w2 := gl_step hgl2 hg1 (by simp; omega)
    have HRES2 := Lib.hid (blk_gl HRES1.out hgl2 (by simp; omega))
    have HG2 := Lib.hid (gok_gl HG0.out hg2 (by simp))
    obtain ⟨k, n, t, ad, m, c, rfl⟩ := hp
    have f1 := blk_cell HRES2.out
    have f2 := blk_free HRES2.out
    have f3 := blk_lt HRES2.out
    go_wp2
    refine bodyPost_ret (v := .tuple #[.agg #[.int .u8 0, .string (bs []), .int .i64 0, .slice none 0 0], .int .i64 110]) (by simp [results, Tryz.results24, go_sem, cell_alloc_lt, f1, f2, f3]) rfl ?_
    rw [HP.out]
    exact ⟨gl_to_below (by (repeat' (first | with_reducible exact gl_refl _ _ | with_reducible assumption | with_reducible refine gl_alloc ?_ _ | with_reducible refine gl_drewN ?_ _ | with_reducible refine gl_drew ?_ | (with_reducible refine gl_setn ?_ ?_ _; · (first | exact Nat.le_refl _ | (simp; done) | (simp; omega) | omega)) | (with_reducible refine gl_seti ?_ ?_ _; · (simp; done)) | with_reducible refine gl_below (by with_reducible assumption) ?_ | with_reducible refine gl_step (by with_reducible assumption) ?_ (by first | (simp; done) | (simp; omega)) | with_reducible refine gl_grown (by with_reducible assumption) ?_ (by first | (simp; done) | (simp; omega))))), rfl⟩
  | some z =>
    obtain ⟨x, s2, r2⟩ := z
    match s2, ho with
    | c0 :: q0, ho =>
      have HP : Hid (readP cutP limP s = none) := by show _ = none; rw [hP, ho]
      have HO := Lib.hid ho
      clear hP ho
      go_enter Tryz.func24, Tryz.ntmps24
      have hg0 : GL [] w w := gl_refl _ _
      have hs0 : w.heap.size ≤ w.heap.size := Nat.le_refl _
      go_wp2_with fail
      have hle : hszW w ≤ w.heap.size ∧ w.heap.size ≤ hszW w := ⟨Nat.le_refl _, Nat.le_refl _⟩
      have HS1 : Hid (((((w.alloc (.cells #[.string (bs s)] 9)).alloc (.cells #[.int .u8 0, .string (bs []), .int .i64 0, .slice none 0 0] 25)).alloc (.cells #[.int .i64 64] 3)).alloc (.cells #[.func (.func 79) #[] #[.pointer (some ⟨w.heap.size, 0, none⟩), .pointer (some ⟨w.heap.size + 1 + 1, 0, none⟩), .pointer (some ⟨w.heap.size + 1 + 1 + 1, 0, none⟩)]] 107)).heap[w.heap.size]? = some (.cells #[.string (bs s)] 9 (0, 0))) := by
        have h := blk_new w (.cells #[.string (bs s)] 9)
        exact (blk_alloc (blk_alloc (blk_alloc h (.cells #[.int .u8 0, .string (bs []), .int .i64 0, .slice none 0 0] 25)) (.cells #[.int .i64 64] 3)) (.cells #[.func (.func 79) #[] #[.pointer (some ⟨w.heap.size, 0, none⟩), .pointer (some ⟨w.heap.size + 1 + 1, 0, none⟩), .pointer (some ⟨w.heap.size + 1 + 1 + 1, 0, none⟩)]] 107))
      have HRES1 : Hid (((((w.alloc (.cells #[.string (bs s)] 9)).alloc (.cells #[.int .u8 0, .string (bs []), .int .i64 0, .slice none 0 0] 25)).alloc (.cells #[.int .i64 64] 3)).alloc (.cells #[.func (.func 79) #[] #[.pointer (some ⟨w.heap.size, 0, none⟩), .pointer (some ⟨w.heap.size + 1 + 1, 0, none⟩), .pointer (some ⟨w.heap.size + 1 + 1 + 1, 0, none⟩)]] 107)).heap[w.heap.size + 1]? = some (.cells #[.int .u8 0, .string (bs []), .int .i64 0, .slice none 0 0] 25 (0, 0))) := by
        have h := blk_new (w.alloc (.cells #[.string (bs s)] 9)) (.cells #[.int .u8 0, .string (bs []), .int .i64 0, .slice none 0 0] 25)
        rw [show (w.alloc (.cells #[.string (bs s)] 9)).heap.size = w.heap.size + 1 by simp] at h
        exact (blk_alloc (blk_alloc h (.cells #[.int .i64 64] 3)) (.cells #[.func (.func 79) #[] #[.pointer (some ⟨w.heap.size, 0, none⟩), .pointer (some ⟨w.heap.size + 1 + 1, 0, none⟩), .pointer (some ⟨w.heap.size + 1 + 1 + 1, 0, none⟩)]] 107))
      have HR1 : Hid (((((w.alloc (.cells #[.string (bs s)] 9)).alloc (.cells #[.int .u8 0, .string (bs []), .int .i64 0, .slice none 0 0] 25)).alloc (.cells #[.int .i64 64] 3)).alloc (.cells #[.func (.func 79) #[] #[.pointer (some ⟨w.heap.size, 0, none⟩), .pointer (some ⟨w.heap.size + 1 + 1, 0, none⟩), .pointer (some ⟨w.heap.size + 1 + 1 + 1, 0, none⟩)]] 107)).heap[w.heap.size + 1 + 1]? = some (.cells #[.int .i64 64] 3 (0, 0))) := by
        have h := blk_new ((w.alloc (.cells #[.string (bs s)] 9)).alloc (.cells #[.int .u8 0, .string (bs []), .int .i64 0, .slice none 0 0] 25)) (.cells #[.int .i64 64] 3)
        rw [show ((w.alloc (.cells #[.string (bs s)] 9)).alloc (.cells #[.int .u8 0, .string (bs []), .int .i64 0, .slice none 0 0] 25)).heap.size = w.heap.size + 1 + 1 by simp] at h
        exact (blk_alloc h (.cells #[.func (.func 79) #[] #[.pointer (some ⟨w.heap.size, 0, none⟩), .pointer (some ⟨w.heap.size + 1 + 1, 0, none⟩), .pointer (some ⟨w.heap.size + 1 + 1 + 1, 0, none⟩)]] 107))
      have HF1 : Hid (((((w.alloc (.cells #[.string (bs s)] 9)).alloc (.cells #[.int .u8 0, .string (bs []), .int .i64 0, .slice none 0 0] 25)).alloc (.cells #[.int .i64 64] 3)).alloc (.cells #[.func (.func 79) #[] #[.pointer (some ⟨w.heap.size, 0, none⟩), .pointer (some ⟨w.heap.size + 1 + 1, 0, none⟩), .pointer (some ⟨w.heap.size + 1 + 1 + 1, 0, none⟩)]] 107)).heap[w.heap.size + 1 + 1 + 1]? = some (.cells #[.func (.func 79) #[] #[.pointer (some ⟨w.heap.size, 0, none⟩), .pointer (some ⟨w.heap.size + 1 + 1, 0, none⟩), .pointer (some ⟨w.heap.size + 1 + 1 + 1, 0, none⟩)]] 107 (0, 0))) := by
        have h := blk_new (((w.alloc (.cells #[.string (bs s)] 9)).alloc (.cells #[.int .u8 0, .string (bs []), .int .i64 0, .slice none 0 0] 25)).alloc (.cells #[.int .i64 64] 3)) (.cells #[.func (.func 79) #[] #[.pointer (some ⟨w.heap.size, 0, none⟩), .pointer (some ⟨w.heap.size + 1 + 1, 0, none⟩), .pointer (some ⟨w.heap.size + 1 + 1 + 1, 0, none⟩)]] 107)
        rw [show (((w.alloc (.cells #[.string (bs s)] 9)).alloc (.cells #[.int .u8 0, .string (bs []), .int .i64 0, .slice none 0 0] 25)).alloc (.cells #[.int .i64 64] 3)).heap.size = w.heap.size + 1 + 1 + 1 by simp] at h
        exact h
      have HG1 := Lib.hid (gok_alloc (gok_alloc (gok_alloc (gok_alloc HG0.out (.cells #[.string (bs s)] 9)) (.cells #[.int .u8 0, .string (bs []), .int .i64 0, .slice none 0 0] 25)) (.cells #[.int .i64 64] 3)) (.cells #[.func (.func 79) #[] #[.pointer (some ⟨w.heap.size, 0, none⟩), .pointer (some ⟨w.heap.size + 1 + 1, 0, none⟩), .pointer (some ⟨w.heap.size + 1 + 1 + 1, 0, none⟩)]] 107))
      have hg1 : GL [] w ((((w.alloc (.cells #[.string (bs s)] 9)).alloc (.cells #[.int .u8 0, .string (bs []), .int .i64 0, .slice none 0 0] 25)).alloc (.cells #[.int .i64 64] 3)).alloc (.cells #[.func (.func 79) #[] #[.pointer (some ⟨w.heap.size, 0, none⟩), .pointer (some ⟨w.heap.size + 1 + 1, 0, none⟩), .pointer (some ⟨w.heap.size + 1 + 1 + 1, 0, none⟩)]] 107)) := (gl_alloc (gl_alloc (gl_alloc (gl_alloc hg0 (.cells #[.string (bs s)] 9)) (.cells #[.int .u8 0, .string (bs []), .int .i64 0, .slice none 0 0] 25)) (.cells #[.int .i64 64] 3)) (.cells #[.func (.func 79) #[] #[.pointer (some ⟨w.heap.size, 0, none⟩), .pointer (some ⟨w.heap.size + 1 + 1, 0, none⟩), .pointer (some ⟨w.heap.size + 1 + 1 + 1, 0, none⟩)]] 107))
      have geS : w.heap.size ≤ w.heap.size := by have := hg0.size; omega
      have gnS : gN ≤ w.heap.size := by have := HG0.out.size; omega
      have geRES : w.heap.size ≤ w.heap.size + 1 := by have := hg0.size; omega
      have gnRES : gN ≤ w.heap.size + 1 := by have := HG0.out.size; omega
      have ltSRES : w.heap.size < w.heap.size + 1 := by omega
      have neSRES : w.heap.size ≠ w.heap.size + 1 := by omega
      have neRESS : w.heap.size + 1 ≠ w.heap.size := by omega
      have geR : w.heap.size ≤ w.heap.size + 1 + 1 := by have := hg0.size; omega
      have gnR : gN ≤ w.heap.size + 1 + 1 := by have := HG0.out.size; omega
      have ltSR : w.heap.size < w.heap.size + 1 + 1 := by omega
      have neSR : w.heap.size ≠ w.heap.size + 1 + 1 := by omega
      have neRS : w.heap.size + 1 + 1 ≠ w.heap.size := by omega
      have ltRESR : w.heap.size + 1 < w.heap.size + 1 + 1 := by omega
      have neRESR : w.heap.size + 1 ≠ w.heap.size + 1 + 1 := by omega
      have neRRES : w.heap.size + 1 + 1 ≠ w.heap.size + 1 := by omega
      have geF : w.heap.size ≤ w.heap.size + 1 + 1 + 1 := by have := hg0.size; omega
      have gnF : gN ≤ w.heap.size + 1 + 1 + 1 := by have := HG0.out.size; omega
      have ltSF : w.heap.size < w.heap.size + 1 + 1 + 1 := by omega
      have neSF : w.heap.size ≠ w.heap.size + 1 + 1 + 1 := by omega
      have neFS : w.heap.size + 1 + 1 + 1 ≠ w.heap.size := by omega
      have ltRESF : w.heap.size + 1 < w.heap.size + 1 + 1 + 1 := by omega
      have neRESF : w.heap.size + 1 ≠ w.heap.size + 1 + 1 + 1 := by omega
      have neFRES : w.heap.size + 1 + 1 + 1 ≠ w.heap.size + 1 := by omega
      have ltRF : w.heap.size + 1 + 1 < w.heap.size + 1 + 1 + 1 := by omega
      have neRF : w.heap.size + 1 + 1 ≠ w.heap.size + 1 + 1 + 1 := by omega
      have neFR : w.heap.size + 1 + 1 + 1 ≠ w.heap.size + 1 + 1 := by omega
      generalize ((((w.alloc (.cells #[.string (bs s)] 9)).alloc (.cells #[.int .u8 0, .string (bs []), .int .i64 0, .slice none 0 0] 25)).alloc (.cells #[.int .i64 64] 3)).alloc (.cells #[.func (.func 79) #[] #[.pointer (some ⟨w.heap.size, 0, none⟩), .pointer (some ⟨w.heap.size + 1 + 1, 0, none⟩), .pointer (some ⟨w.heap.size + 1 + 1 + 1, 0, none⟩)]] 107)) = w1 at *
      generalize w.heap.size + 1 + 1 + 1 = F at *
      generalize w.heap.size + 1 + 1 = R at *
      generalize w.heap.size + 1 = RES at *
      generalize w.heap.size = S at *
      have hs1 : w.heap.size ≤ w1.heap.size := hg1.size
      have hSw : w.heap.size ≤ S := hle.1
      refine (lkRdN 65 S R F s 64 _ (by omega) hsl (by omega) (by omega) (by omega) (by omega) gnS gnR HS1.out HR1.out HF1.out HG1.out).mono ?_
      rintro e w2 ⟨hgl2, hp⟩
      rw [HO.out] at hp
      have hg2 : GL [] w w2 := gl_step hgl2 hg1 (by simp; omega)
      have HRES2 := Lib.hid (blk_gl HRES1.out hgl2 (by simp; omega))
      have HG2 := Lib.hid (gok_gl HG0.out hg2 (by simp))
      obtain ⟨v, rfl, hlv, hS2, hR2⟩ := hp
      obtain ⟨k, t, n, kids⟩ := x
      obtain ⟨ad, c, rfl, _⟩ := lockIn_open hlv
      clear hlv hR2
      have f1 := blk_cell HRES2.out
      have f2 := blk_free HRES2.out
      have f3 := blk_lt HRES2.out
      have f4 := blk_cell hS2
      have f5 := blk_free hS2
      have f6 := blk_lt hS2
      go_wp2
      refine bodyPost_ret (v := .tuple #[.agg #[.int .u8 0, .string (bs []), .int .i64 0, .slice none 0 0], .int .i64 110]) (by simp [results, Tryz.results24, go_sem, cell_alloc_lt, f1, f2, f3]) rfl ?_
      rw [HP.out]
      exact ⟨gl_to_below (by (repeat' (first | with_reducible exact gl_refl _ _ | with_reducible assumption | with_reducible refine gl_alloc ?_ _ | with_reducible refine gl_drewN ?_ _ | with_reducible refine gl_drew ?_ | (with_reducible refine gl_setn ?_ ?_ _; · (first | exact Nat.le_refl _ | (simp; done) | (simp; omega) | omega)) | (with_reducible refine gl_seti ?_ ?_ _; · (simp; done)) | with_reducible refine gl_below (by with_reducible assumption) ?_ | with_reducible refine gl_step (by with_reducible assumption) ?_ (by first | (simp; done) | (simp; omega)) | with_reducible refine gl_grown (by with_reducible assumption) ?_ (by first | (simp; done) | (simp; omega))))), rfl⟩
    | [], ho =>
      cases hr : rightL x with
      | false =>
        have HP : Hid (readP cutP limP s = none) := by show _ = none; rw [hP, ho]; simp [hr]
        have HO := Lib.hid ho
        have HR := Lib.hid hr
        clear hP ho hr
        go_enter Tryz.func24, Tryz.ntmps24
        have hg0 : GL [] w w := gl_refl _ _
        have hs0 : w.heap.size ≤ w.heap.size := Nat.le_refl _
        go_wp2_with fail
        have hle : hszW w ≤ w.heap.size ∧ w.heap.size ≤ hszW w := ⟨Nat.le_refl _, Nat.le_refl _⟩
        have HS1 : Hid (((((w.alloc (.cells #[.string (bs s)] 9)).alloc (.cells #[.int .u8 0, .string (bs []), .int .i64 0, .slice none 0 0] 25)).alloc (.cells #[.int .i64 64] 3)).alloc (.cells #[.func (.func 79) #[] #[.pointer (some ⟨w.heap.size, 0, none⟩), .pointer (some ⟨w.heap.size + 1 + 1, 0, none⟩), .pointer (some ⟨w.heap.size + 1 + 1 + 1, 0, none⟩)]] 107)).heap[w.heap.size]? = some (.cells #[.string (bs s)] 9 (0, 0))) := by
          have h := blk_new w (.cells #[.string (bs s)] 9)
          exact (blk_alloc (blk_alloc (blk_alloc h (.cells #[.int .u8 0, .string (bs []), .int .i64 0, .slice none 0 0] 25)) (.cells #[.int .i64 64] 3)) (.cells #[.func (.func 79) #[] #[.pointer (some ⟨w.heap.size, 0, none⟩), .pointer (some ⟨w.heap.size + 1 + 1, 0, none⟩), .pointer (some ⟨w.heap.size + 1 + 1 + 1, 0, none⟩)]] 107))
        have HRES1 : Hid (((((w.alloc (.cells #[.string (bs s)] 9)).alloc (.cells #[.int .u8 0, .string (bs []), .int .i64 0, .slice none 0 0] 25)).alloc (.cells #[.int .i64 64] 3)).alloc (.cells #[.func (.func 79) #[] #[.pointer (some ⟨w.heap.size, 0, none⟩), .pointer (some ⟨w.heap.size + 1 + 1, 0, none⟩), .pointer (some ⟨w.heap.size + 1 + 1 + 1, 0, none⟩)]] 107)).heap[w.heap.size + 1]? = some (.cells #[.int .u8 0, .string (bs []), .int .i64 0, .slice none 0 0] 25 (0, 0))) := by
          have h := blk_new (w.alloc (.cells #[.string (bs s)] 9)) (.cells #[.int .u8 0, .string (bs []), .int .i64 0, .slice none 0 0] 25)
          rw [show (w.alloc (.cells #[.string (bs s)] 9)).heap.size = w.heap.size + 1 by simp] at h
          exact (blk_alloc (blk_alloc h (.cells #[.int .i64 64] 3)) (.cells #[.func (.func 79) #[] #[.pointer (some ⟨w.heap.size, 0, none⟩), .pointer (some ⟨w.heap.size + 1 + 1, 0, none⟩), .pointer (some ⟨w.heap.size + 1 + 1 + 1, 0, none⟩)]] 107))
        have HR1 : Hid (((((w.alloc (.cells #[.string (bs s)] 9)).alloc (.cells #[.int .u8 0, .string (bs []), .int .i64 0, .slice none 0 0] 25)).alloc (.cells #[.int .i64 64] 3)).alloc (.cells #[.func (.func 79) #[] #[.pointer (some ⟨w.heap.size, 0, none⟩), .pointer (some ⟨w.heap.size + 1 + 1, 0, none⟩), .pointer (some ⟨w.heap.size + 1 + 1 + 1, 0, none⟩)]] 107)).heap[w.heap.size + 1 + 1]? = some (.cells #[.int .i64 64] 3 (0, 0))) := by
          have h := blk_new ((w.alloc (.cells #[.string (bs s)] 9)).alloc (.cells #[.int .u8 0, .string (bs []), .int .i64 0, .slice none 0 0] 25)) (.cells #[.int .i64 64] 3)
          rw [show ((w.alloc (.cells #[.string (bs s)] 9)).alloc (.cells #[.int .u8 0, .string (bs []), .int .i64 0, .slice none 0 0] 25)).heap.size = w.heap.size + 1 + 1 by simp] at h
          exact (blk_alloc h (.cells #[.func (.func 79) #[] #[.pointer (some ⟨w.heap.size, 0, none⟩), .pointer (some ⟨w.heap.size + 1 + 1, 0, none⟩), .pointer (some ⟨w.heap.size + 1 + 1 + 1, 0, none⟩)]] 107))
        have HF1 : Hid (((((w.alloc (.cells #[.string (bs s)] 9)).alloc (.cells #[.int .u8 0, .string (bs []), .int .i64 0, .slice none 0 0] 25)).alloc (.cells #[.int .i64 64] 3)).alloc (.cells #[.func (.func 79) #[] #[.pointer (some ⟨w.heap.size, 0, none⟩), .pointer (some ⟨w.heap.size + 1 + 1, 0, none⟩), .pointer (some ⟨w.heap.size + 1 + 1 + 1, 0, none⟩)]] 107)).heap[w.heap.size + 1 + 1 + 1]? = some (.cells #[.func (.func 79) #[] #[.pointer (some ⟨w.heap.size, 0, none⟩), .pointer (some ⟨w.heap.size + 1 + 1, 0, none⟩), .pointer (some ⟨w.heap.size + 1 + 1 + 1, 0, none⟩)]] 107 (0, 0))) := by
          have h := blk_new (((w.alloc (.cells #[.string (bs s)] 9)).alloc (.cells #[.int .u8 0, .string (bs []), .int .i64 0, .slice none 0 0] 25)).alloc (.cells #[.int .i64 64] 3)) (.cells #[.func (.func 79) #[] #[.pointer (some ⟨w.heap.size, 0, none⟩), .pointer (some ⟨w.heap.size + 1 + 1, 0, none⟩), .pointer (some ⟨w.heap.size + 1 + 1 + 1, 0, none⟩)]] 107)
          rw [show (((w.alloc (.cells #[.string (bs s)] 9)).alloc (.cells #[.int .u8 0, .string (bs []), .int .i64 0, .slice none 0 0] 25)).alloc (.cells #[.int .i64 64] 3)).heap.size = w.heap.size + 1 + 1 + 1 by simp] at h
          exact h
        have HG1 := Lib.hid (gok_alloc (gok_alloc (gok_alloc (gok_alloc HG0.out (.cells #[.string (bs s)] 9)) (.cells #[.int .u8 0, .string (bs []), .int .i64 0, .slice none 0 0] 25)) (.cells #[.int .i64 64] 3)) (.cells #[.func (.func 79) #[] #[.pointer (some ⟨w.heap.size, 0, none⟩), .pointer (some ⟨w.heap.size + 1 + 1, 0, none⟩), .pointer (some ⟨w.heap.size + 1 + 1 + 1, 0, none⟩)]] 107))
        have hg1 : GL [] w ((((w.alloc (.cells #[.string (bs s)] 9)).alloc (.cells #[.int .u8 0, .string (bs []), .int .i64 0, .slice none 0 0] 25)).alloc (.cells #[.int .i64 64] 3)).alloc (.cells #[.func (.func 79) #[] #[.pointer (some ⟨w.heap.size, 0, none⟩), .pointer (some ⟨w.heap.size + 1 + 1, 0, none⟩), .pointer (some ⟨w.heap.size + 1 + 1 + 1, 0, none⟩)]] 107)) := (gl_alloc (gl_alloc (gl_alloc (gl_alloc hg0 (.cells #[.string (bs s)] 9)) (.cells #[.int .u8 0, .string (bs []), .int .i64 0, .slice none 0 0] 25)) (.cells #[.int .i64 64] 3)) (.cells #[.func (.func 79) #[] #[.pointer (some ⟨w.heap.size, 0, none⟩), .pointer (some ⟨w.heap.size + 1 + 1, 0, none⟩), .pointer (some ⟨w.heap.size + 1 + 1 + 1, 0, none⟩)]] 107))
        have geS : w.heap.size ≤ w.heap.size := by have := hg0.size; omega
        have gnS : gN ≤ w.heap.size := by have := HG0.out.size; omega
        have geRES : w.heap.size ≤ w.heap.size + 1 := by have := hg0.size; omega
        have gnRES : gN ≤ w.heap.size + 1 := by have := HG0.out.size; omega
        have ltSRES : w.heap.size < w.heap.size + 1 := by omega
        have neSRES : w.heap.size ≠ w.heap.size + 1 := by omega
        have neRESS : w.heap.size + 1 ≠ w.heap.size := by omega
        have geR : w.heap.size ≤ w.heap.size + 1 + 1 := by have := hg0.size; omega
        have gnR : gN ≤ w.heap.size + 1 + 1 := by have := HG0.out.size; omega
        have ltSR : w.heap.size < w.heap.size + 1 + 1 := by omega
        have neSR : w.heap.size ≠ w.heap.size + 1 + 1 := by omega
        have neRS : w.heap.size + 1 + 1 ≠ w.heap.size := by omega
        have ltRESR : w.heap.size + 1 < w.heap.size + 1 + 1 := by omega
        have neRESR : w.heap.size + 1 ≠ w.heap.size + 1 + 1 := by omega
        have neRRES : w.heap.size + 1 + 1 ≠ w.heap.size + 1 := by omega
        have geF : w.heap.size ≤ w.heap.size + 1 + 1 + 1 := by have := hg0.size; omega
        have gnF : gN ≤ w.heap.size + 1 + 1 + 1 := by have := HG0.out.size; omega
        have ltSF : w.heap.size < w.heap.size + 1 + 1 + 1 := by omega
        have neSF : w.heap.size ≠ w.heap.size + 1 + 1 + 1 := by omega
        have neFS : w.heap.size + 1 + 1 + 1 ≠ w.heap.size := by omega
        have ltRESF : w.heap.size + 1 < w.heap.size + 1 + 1 + 1 := by omega
        have neRESF : w.heap.size + 1 ≠ w.heap.size + 1 + 1 + 1 := by omega
        have neFRES : w.heap.size + 1 + 1 + 1 ≠ w.heap.size + 1 := by omega
        have ltRF : w.heap.size + 1 + 1 < w.heap.size + 1 + 1 + 1 := by omega
        have neRF : w.heap.size + 1 + 1 ≠ w.heap.size + 1 + 1 + 1 := by omega
        have neFR : w.heap.size + 1 + 1 + 1 ≠ w.heap.size + 1 + 1 := by omega
        generalize ((((w.alloc (.cells #[.string (bs s)] 9)).alloc (.cells #[.int .u8 0, .string (bs []), .int .i64 0, .slice none 0 0] 25)).alloc (.cells #[.int .i64 64] 3)).alloc (.cells #[.func (.func 79) #[] #[.pointer (some ⟨w.heap.size, 0, none⟩), .pointer (some ⟨w.heap.size + 1 + 1, 0, none⟩), .pointer (some ⟨w.heap.size + 1 + 1 + 1, 0, none⟩)]] 107)) = w1 at *
        generalize w.heap.size + 1 + 1 + 1 = F at *
        generalize w.heap.size + 1 + 1 = R at *
        generalize w.heap.size + 1 = RES at *
        generalize w.heap.size = S at *
        have hs1 : w.heap.size ≤ w1.heap.size := hg1.size
        have hSw : w.heap.size ≤ S := hle.1
        refine (lkRdN 65 S R F s 64 _ (by omega) hsl (by omega) (by omega) (by omega) (by omega) gnS gnR HS1.out HR1.out HF1.out HG1.out).mono ?_
        rintro e w2 ⟨hgl2, hp⟩
        rw [HO.out] at hp
        have hg2 : GL [] w w2 := gl_step hgl2 hg1 (by simp; omega)
        have HRES2 := Lib.hid (blk_gl HRES1.out hgl2 (by simp; omega))
        have HG2 := Lib.hid (gok_gl HG0.out hg2 (by simp))
        obtain ⟨v, rfl, hlv, hS2, hR2⟩ := hp
        have hrt := fun (W : World) (hW : GL [] w2 W) => lkRight x _ v W (lockIn_gl hW _ _ hlv) (gok_gl HG2.out hW (by simp))
        have HLV := Lib.hid hlv
        rw [HR.out] at hrt
        have HX : Hid (∃ y, y = x) := ⟨x, rfl⟩
        obtain ⟨k, t, n, kids⟩ := x
        obtain ⟨ad, c, rfl, _⟩ := lockIn_open hlv
        have HRT := Lib.hid hrt
        clear hlv hR2 hrt
        have f1 := blk_cell HRES2.out
        have f2 := blk_free HRES2.out
        have f3 := blk_lt HRES2.out
        have f4 := blk_cell hS2
        have f5 := blk_free hS2
        have f6 := blk_lt hS2
        go_wp2_with fail
        refine (HRT.out _ (gl_alloc (gl_refl _ _) _)).mono ?_
        rintro e w3 ⟨rfl, hb3⟩
        have HRES3 := Lib.hid (blk_below (blk_alloc HRES2.out _) hb3 (by simp; omega))
        have HLB3 := Lib.hid (blk_below (blk_new w2 (.cells #[.int .u8 k, .string (bs t), .int .i64 n, .slice ad kids.length c] 25)) hb3 (by simp))
        have hg23 : GL [] w2 w3 := gl_below hb3 (gl_alloc (gl_refl _ _) _)
        have hg3 : GL [] w w3 := gl_step hg23 hg2 (by simp)
        have hneR : RES ≠ w2.heap.size := by omega
        clear f1 f2 f3 f4 f5 f6
        have f1 := blk_cell HRES3.out
        have f2 := blk_free HRES3.out
        have f3 := blk_lt HRES3.out
        have f4 := blk_cell HLB3.out
        have f5 := blk_free HLB3.out
        have f6 := blk_lt HLB3.out
        clear hb3
        go_wp2
        refine bodyPost_ret (v := .tuple #[.agg #[.int .u8 0, .string (bs []), .int .i64 0, .slice none 0 0], .int .i64 110]) (by simp [results, Tryz.results24, go_sem, cell_alloc_lt, f1, f2, f3]) rfl ?_
        rw [HP.out]
        exact ⟨gl_to_below (by (repeat' (first | with_reducible exact gl_refl _ _ | with_reducible assumption | with_reducible refine gl_alloc ?_ _ | with_reducible refine gl_drewN ?_ _ | with_reducible refine gl_drew ?_ | (with_reducible refine gl_setn ?_ ?_ _; · (first | exact Nat.le_refl _ | (simp; done) | (simp; omega) | omega)) | (with_reducible refine gl_seti ?_ ?_ _; · (simp; done)) | with_reducible refine gl_below (by with_reducible assumption) ?_ | with_reducible refine gl_step (by with_reducible assumption) ?_ (by first | (simp; done) | (simp; omega)) | with_reducible refine gl_grown (by with_reducible assumption) ?_ (by first | (simp; done) | (simp; omega))))), rfl⟩
      | true =>
        have HP : Hid (readP cutP limP s = some x) := by show _ = some x; rw [hP, ho]; simp [hr]
        have HO := Lib.hid ho
        have HR := Lib.hid hr
        clear hP ho hr
        go_enter Tryz.func24, Tryz.ntmps24
        have hg0 : GL [] w w := gl_refl _ _
        have hs0 : w.heap.size ≤ w.heap.size := Nat.le_refl _
        go_wp2_with fail
        have hle : hszW w ≤ w.heap.size ∧ w.heap.size ≤ hszW w := ⟨Nat.le_refl _, Nat.le_refl _⟩
        have HS1 : Hid (((((w.alloc (.cells #[.string (bs s)] 9)).alloc (.cells #[.int .u8 0, .string (bs []), .int .i64 0, .slice none 0 0] 25)).alloc (.cells #[.int .i64 64] 3)).alloc (.cells #[.func (.func 79) #[] #[.pointer (some ⟨w.heap.size, 0, none⟩), .pointer (some ⟨w.heap.size + 1 + 1, 0, none⟩), .pointer (some ⟨w.heap.size + 1 + 1 + 1, 0, none⟩)]] 107)).heap[w.heap.size]? = some (.cells #[.string (bs s)] 9 (0, 0))) := by
          have h := blk_new w (.cells #[.string (bs s)] 9)
          exact (blk_alloc (blk_alloc (blk_alloc h (.cells #[.int .u8 0, .string (bs []), .int .i64 0, .slice none 0 0] 25)) (.cells #[.int .i64 64] 3)) (.cells #[.func (.func 79) #[] #[.pointer (some ⟨w.heap.size, 0, none⟩), .pointer (some ⟨w.heap.size + 1 + 1, 0, none⟩), .pointer (some ⟨w.heap.size + 1 + 1 + 1, 0, none⟩)]] 107))
        have HRES1 : Hid (((((w.alloc (.cells #[.string (bs s)] 9)).alloc (.cells #[.int .u8 0, .string (bs []), .int .i64 0, .slice none 0 0] 25)).alloc (.cells #[.int .i64 64] 3)).alloc (.cells #[.func (.func 79) #[] #[.pointer (some ⟨w.heap.size, 0, none⟩), .pointer (some ⟨w.heap.size + 1 + 1, 0, none⟩), .pointer (some ⟨w.heap.size + 1 + 1 + 1, 0, none⟩)]] 107)).heap[w.heap.size + 1]? = some (.cells #[.int .u8 0, .string (bs []), .int .i64 0, .slice none 0 0] 25 (0, 0))) := by
          have h := blk_new (w.alloc (.cells #[.string (bs s)] 9)) (.cells #[.int .u8 0, .string (bs []), .int .i64 0, .slice none 0 0] 25)
          rw [show (w.alloc (.cells #[.string (bs s)] 9)).heap.size = w.heap.size + 1 by simp] at h
          exact (blk_alloc (blk_alloc h (.cells #[.int .i64 64] 3)) (.cells #[.func (.func 79) #[] #[.pointer (some ⟨w.heap.size, 0, none⟩), .pointer (some ⟨w.heap.size + 1 + 1, 0, none⟩), .pointer (some ⟨w.heap.size + 1 + 1 + 1, 0, none⟩)]] 107))
        have HR1 : Hid (((((w.alloc (.cells #[.string (bs s)] 9)).alloc (.cells #[.int .u8 0, .string (bs []), .int .i64 0, .slice none 0 0] 25)).alloc (.cells #[.int .i64 64] 3)).alloc (.cells #[.func (.func 79) #[] #[.pointer (some ⟨w.heap.size, 0, none⟩), .pointer (some ⟨w.heap.size + 1 + 1, 0, none⟩), .pointer (some ⟨w.heap.size + 1 + 1 + 1, 0, none⟩)]] 107)).heap[w.heap.size + 1 + 1]? = some (.cells #[.int .i64 64] 3 (0, 0))) := by
          have h := blk_new ((w.alloc (.cells #[.string (bs s)] 9)).alloc (.cells #[.int .u8 0, .string (bs []), .int .i64 0, .slice none 0 0] 25)) (.cells #[.int .i64 64] 3)
          rw [show ((w.alloc (.cells #[.string (bs s)] 9)).alloc (.cells #[.int .u8 0, .string (bs []), .int .i64 0, .slice none 0 0] 25)).heap.size = w.heap.size + 1 + 1 by simp] at h
          exact (blk_alloc h (.cells #[.func (.func 79) #[] #[.pointer (some ⟨w.heap.size, 0, none⟩), .pointer (some ⟨w.heap.size + 1 + 1, 0, none⟩), .pointer (some ⟨w.heap.size + 1 + 1 + 1, 0, none⟩)]] 107))
        have HF1 : Hid (((((w.alloc (.cells #[.string (bs s)] 9)).alloc (.cells #[.int .u8 0, .string (bs []), .int .i64 0, .slice none 0 0] 25)).alloc (.cells #[.int .i64 64] 3)).alloc (.cells #[.func (.func 79) #[] #[.pointer (some ⟨w.heap.size, 0, none⟩), .pointer (some ⟨w.heap.size + 1 + 1, 0, none⟩), .pointer (some ⟨w.heap.size + 1 + 1 + 1, 0, none⟩)]] 107)).heap[w.heap.size + 1 + 1 + 1]? = some (.cells #[.func (.func 79) #[] #[.pointer (some ⟨w.heap.size, 0, none⟩), .pointer (some ⟨w.heap.size + 1 + 1, 0, none⟩), .pointer (some ⟨w.heap.size + 1 + 1 + 1, 0, none⟩)]] 107 (0, 0))) := by
          have h := blk_new (((w.alloc (.cells #[.string (bs s)] 9)).alloc (.cells #[.int .u8 0, .string (bs []), .int .i64 0, .slice none 0 0] 25)).alloc (.cells #[.int .i64 64] 3)) (.cells #[.func (.func 79) #[] #[.pointer (some ⟨w.heap.size, 0, none⟩), .pointer (some ⟨w.heap.size + 1 + 1, 0, none⟩), .pointer (some ⟨w.heap.size + 1 + 1 + 1, 0, none⟩)]] 107)
          rw [show (((w.alloc (.cells #[.string (bs s)] 9)).alloc (.cells #[.int .u8 0, .string (bs []), .int .i64 0, .slice none 0 0] 25)).alloc (.cells #[.int .i64 64] 3)).heap.size = w.heap.size + 1 + 1 + 1 by simp] at h
          exact h
        have HG1 := Lib.hid (gok_alloc (gok_alloc (gok_alloc (gok_alloc HG0.out (.cells #[.string (bs s)] 9)) (.cells #[.int .u8 0, .string (bs []), .int .i64 0, .slice none 0 0] 25)) (.cells #[.int .i64 64] 3)) (.cells #[.func (.func 79) #[] #[.pointer (some ⟨w.heap.size, 0, none⟩), .pointer (some ⟨w.heap.size + 1 + 1, 0, none⟩), .pointer (some ⟨w.heap.size + 1 + 1 + 1, 0, none⟩)]] 107))
        have hg1 : GL [] w ((((w.alloc (.cells #[.string (bs s)] 9)).alloc (.cells #[.int .u8 0, .string (bs []), .int .i64 0, .slice none 0 0] 25)).alloc (.cells #[.int .i64 64] 3)).alloc (.cells #[.func (.func 79) #[] #[.pointer (some ⟨w.heap.size, 0, none⟩), .pointer (some ⟨w.heap.size + 1 + 1, 0, none⟩), .pointer (some ⟨w.heap.size + 1 + 1 + 1, 0, none⟩)]] 107)) := (gl_alloc (gl_alloc (gl_alloc (gl_alloc hg0 (.cells #[.string (bs s)] 9)) (.cells #[.int .u8 0, .string (bs []), .int .i64 0, .slice none 0 0] 25)) (.cells #[.int .i64 64] 3)) (.cells #[.func (.func 79) #[] #[.pointer (some ⟨w.heap.size, 0, none⟩), .pointer (some ⟨w.heap.size + 1 + 1, 0, none⟩), .pointer (some ⟨w.heap.size + 1 + 1 + 1, 0, none⟩)]] 107))
        have geS : w.heap.size ≤ w.heap.size := by have := hg0.size; omega
        have gnS : gN ≤ w.heap.size := by have := HG0.out.size; omega
        have geRES : w.heap.size ≤ w.heap.size + 1 := by have := hg0.size; omega
        have gnRES : gN ≤ w.heap.size + 1 := by have := HG0.out.size; omega
        have ltSRES : w.heap.size < w.heap.size + 1 := by omega
        have neSRES : w.heap.size ≠ w.heap.size + 1 := by omega
        have neRESS : w.heap.size + 1 ≠ w.heap.size := by omega
        have geR : w.heap.size ≤ w.heap.size + 1 + 1 := by have := hg0.size; omega
        have gnR : gN ≤ w.heap.size + 1 + 1 := by have := HG0.out.size; omega
        have ltSR : w.heap.size < w.heap.size + 1 + 1 := by omega
        have neSR : w.heap.size ≠ w.heap.size + 1 + 1 := by omega
        have neRS : w.heap.size + 1 + 1 ≠ w.heap.size := by omega
        have ltRESR : w.heap.size + 1 < w.heap.size + 1 + 1 := by omega
        have neRESR : w.heap.size + 1 ≠ w.heap.size + 1 + 1 := by omega
        have neRRES : w.heap.size + 1 + 1 ≠ w.heap.size + 1 := by omega
        have geF : w.heap.size ≤ w.heap.size + 1 + 1 + 1 := by have := hg0.size; omega
        have gnF : gN ≤ w.heap.size + 1 + 1 + 1 := by have := HG0.out.size; omega
        have ltSF : w.heap.size < w.heap.size + 1 + 1 + 1 := by omega
        have neSF : w.heap.size ≠ w.heap.size + 1 + 1 + 1 := by omega
        have neFS : w.heap.size + 1 + 1 + 1 ≠ w.heap.size := by omega
        have ltRESF : w.heap.size + 1 < w.heap.size + 1 + 1 + 1 := by omega
        have neRESF : w.heap.size + 1 ≠ w.heap.size + 1 + 1 + 1 := by omega
        have neFRES : w.heap.size + 1 + 1 + 1 ≠ w.heap.size + 1 := by omega
        have ltRF : w.heap.size + 1 + 1 < w.heap.size + 1 + 1 + 1 := by omega
        have neRF : w.heap.size + 1 + 1 ≠ w.heap.size + 1 + 1 + 1 := by omega
        have neFR : w.heap.size + 1 + 1 + 1 ≠ w.heap.size + 1 + 1 := by omega
        generalize ((((w.alloc (.cells #[.string (bs s)] 9)).alloc (.cells #[.int .u8 0, .string (bs []), .int .i64 0, .slice none 0 0] 25)).alloc (.cells #[.int .i64 64] 3)).alloc (.cells #[.func (.func 79) #[] #[.pointer (some ⟨w.heap.size, 0, none⟩), .pointer (some ⟨w.heap.size + 1 + 1, 0, none⟩), .pointer (some ⟨w.heap.size + 1 + 1 + 1, 0, none⟩)]] 107)) = w1 at *
        generalize w.heap.size + 1 + 1 + 1 = F at *
        generalize w.heap.size + 1 + 1 = R at *
        generalize w.heap.size + 1 = RES at *
        generalize w.heap.size = S at *
        have hs1 : w.heap.size ≤ w1.heap.size := hg1.size
        have hSw : w.heap.size ≤ S := hle.1
        refine (lkRdN 65 S R F s 64 _ (by omega) hsl (by omega) (by omega) (by omega) (by omega) gnS gnR HS1.out HR1.out HF1.out HG1.out).mono ?_
        rintro e w2 ⟨hgl2, hp⟩
        rw [HO.out] at hp
        have hg2 : GL [] w w2 := gl_step hgl2 hg1 (by simp; omega)
        have HRES2 := Lib.hid (blk_gl HRES1.out hgl2 (by simp; omega))
        have HG2 := Lib.hid (gok_gl HG0.out hg2 (by simp))
        obtain ⟨v, rfl, hlv, hS2, hR2⟩ := hp
        have hrt := fun (W : World) (hW : GL [] w2 W) => lkRight x _ v W (lockIn_gl hW _ _ hlv) (gok_gl HG2.out hW (by simp))
        have HLV := Lib.hid hlv
        rw [HR.out] at hrt
        have HX : Hid (∃ y, y = x) := ⟨x, rfl⟩
        obtain ⟨k, t, n, kids⟩ := x
        obtain ⟨ad, c, rfl, _⟩ := lockIn_open hlv
        have HRT := Lib.hid hrt
        clear hlv hR2 hrt
        have f1 := blk_cell HRES2.out
        have f2 := blk_free HRES2.out
        have f3 := blk_lt HRES2.out
        have f4 := blk_cell hS2
        have f5 := blk_free hS2
        have f6 := blk_lt hS2
        go_wp2_with fail
        refine (HRT.out _ (gl_alloc (gl_refl _ _) _)).mono ?_
        rintro e w3 ⟨rfl, hb3⟩
        have HRES3 := Lib.hid (blk_below (blk_alloc HRES2.out _) hb3 (by simp; omega))
        have HLB3 := Lib.hid (blk_below (blk_new w2 (.cells #[.int .u8 k, .string (bs t), .int .i64 n, .slice ad kids.length c] 25)) hb3 (by simp))
        have hg23 : GL [] w2 w3 := gl_below hb3 (gl_alloc (gl_refl _ _) _)
        have hg3 : GL [] w w3 := gl_step hg23 hg2 (by simp)
        have hneR : RES ≠ w2.heap.size := by omega
        clear f1 f2 f3 f4 f5 f6
        have f1 := blk_cell HRES3.out
        have f2 := blk_free HRES3.out
        have f3 := blk_lt HRES3.out
        have f4 := blk_cell HLB3.out
        have f5 := blk_free HLB3.out
        have f6 := blk_lt HLB3.out
        clear hb3
        go_wp2
        refine bodyPost_ret (v := .tuple #[.agg #[.int .u8 k, .string (bs t), .int .i64 n, .slice ad kids.length c], .int .i64 0]) (by simp [results, Tryz.results24, go_sem, cell_alloc_lt, f1, f2, f3, f4, f5, hneR]) rfl ?_
        rw [HP.out]
        refine ⟨gl_to_below (by (repeat' (first | with_reducible exact gl_refl _ _ | with_reducible assumption | with_reducible refine gl_alloc ?_ _ | with_reducible refine gl_drewN ?_ _ | with_reducible refine gl_drew ?_ | (with_reducible refine gl_setn ?_ ?_ _; · (first | exact Nat.le_refl _ | (simp; done) | (simp; omega) | omega)) | (with_reducible refine gl_seti ?_ ?_ _; · (simp; done)) | with_reducible refine gl_below (by with_reducible assumption) ?_ | with_reducible refine gl_step (by with_reducible assumption) ?_ (by first | (simp; done) | (simp; omega)) | with_reducible refine gl_grown (by with_reducible assumption) ?_ (by first | (simp; done) | (simp; omega))))), _, rfl, ?_⟩
        refine lockIn_stay (p := fun b => w1.heap.size ≤ b) ⟨by simp [World.setCell], fun b hb hp => ?_⟩ (fun b hb hp => by have := hg1.size; omega) _ _ (lockIn_gl hg23 _ _ HLV.out)
        repeat (rw [Below.heap_setCell _ _ _ _ (by simp; have := blk_lt HRES1.out; omega)])
end Go.Proofs.YtfmckibiblhakaaGreatDoor
