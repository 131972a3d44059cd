/- The program's locks: read. -/
import Derived.Test.YtfmckibiblhakaaGreatDoorLockM
import Derived.Test.YtfmckibiblhakaaGreatDoorLockZ2
import Derived.Test.YtfmckibiblhakaaGreatDoorLockT
import Derived.Maps.AppendAt
set_option linter.unusedSimpArgs false
set_option linter.unusedVariables false
namespace Go.Proofs.YtfmckibiblhakaaGreatDoor
open Go.RowKit

def hszW (w : World) : Nat := w.heap.size
theorem cell_alloc_lt {w : World} {b : Nat} (h : b < w.heap.size) (o : Obj) (j : Nat) : (w.alloc o).cell? ⟨b, j, none⟩ = w.cell? ⟨b, j, none⟩ := by
  simp only [World.cell?, Below.heap_alloc w o b h]
def SAt (w : World) (S : Nat) (s : List UInt8) : Prop := w.heap[S]? = some (.cells #[.string (bs s)] 9 (0, 0))
def RAt (w : World) (R : Nat) (r : Int) : Prop := w.heap[R]? = some (.cells #[.int .i64 r] 3 (0, 0))
def FAt (w : World) (F S R : Nat) : Prop := w.heap[F]? = some (.cells #[.func (.func 79) #[] #[.pointer (some ⟨S, 0, none⟩), .pointer (some ⟨R, 0, none⟩), .pointer (some ⟨F, 0, none⟩)]] 107 (0, 0))
def RdPost (S R : Nat) (w : World) (o : Option (LT × List UInt8 × Nat)) (e : Ending) (w' : World) : Prop := GL [S, R] w w' ∧
  match o with
  | none => ∃ (k n : Int) (t : List UInt8) (ad : Option Addr) (m c : Nat), e = .returned (.tuple #[.agg #[.int .u8 k, .string (bs t), .int .i64 n, .slice ad m c], .bool false])
  | some (x, s, r) => ∃ v, e = .returned (.tuple #[v, .bool true]) ∧ LockIn (fun b => w.heap.size ≤ b) w' x v ∧ SAt w' S s ∧ RAt w' R r
theorem readL_len : ∀ (f room : Nat) (s : List UInt8) (x : LT) (s' : List UInt8) (r : Nat), readL cutP limP f room s = some (x, s', r) → s'.length ≤ s.length ∧ r < room
  | 0, _, _, _, _, _, h => by cases h
  | f + 1, room, [], _, _, _, h => by cases room <;> cases h
  | f + 1, 0, c :: q, _, _, _, h => by cases h
  | f + 1, room + 1, c :: q, x, s', r, h => by
    rw [readL] at h
    split at h
    · split at h
      · cases h
      · rename_i t s2 hc
        simp only [Option.some.injEq, Prod.mk.injEq] at h
        obtain ⟨_, rfl, rfl⟩ := h
        have := congrArg List.length (cutP_back _ _ _ hc)
        simp at this ⊢
        omega
    · split at h
      · split at h
        · cases h
        · rename_i n s2 hc
          simp only [Option.some.injEq, Prod.mk.injEq] at h
          obtain ⟨_, rfl, rfl⟩ := h
          have := congrArg List.length (numP_back hc).1
          simp at this ⊢
          omega
      · split at h
        · split at h
          · cases h
          · rename_i n s2 hc
            split at h
            · cases h
            · rename_i n2 _
              split at h
              · cases h
              · rename_i l s3 r3 hr
                simp only [Option.some.injEq, Prod.mk.injEq] at h
                obtain ⟨_, rfl, rfl⟩ := h
                have h1 := congrArg List.length (numP_back hc).1
                have h2 := readRow_len f n2 room s2 l _ _ hr
                simp at h1 ⊢
                omega
        · cases h
where
  readRow_len (f : Nat) : ∀ (n room : Nat) (s : List UInt8) (l : List LT) (s' : List UInt8) (r : Nat), readRow (readL cutP limP f) n room s = some (l, s', r) → s'.length ≤ s.length ∧ r ≤ room
  | 0, room, s, l, s', r, h => by
    simp only [readRow, Option.some.injEq, Prod.mk.injEq] at h
    obtain ⟨_, rfl, rfl⟩ := h
    exact ⟨Nat.le_refl _, Nat.le_refl _⟩
  | n + 1, room, s, l, s', r, h => by
    rw [readRow] at h
    split at h
    · cases h
    · rename_i x s2 r2 hx
      split at h
      · cases h
      · rename_i l2 s3 r3 hl
        simp only [Option.some.injEq, Prod.mk.injEq] at h
        obtain ⟨_, rfl, rfl⟩ := h
        have h1 := readL_len f room s x s2 r2 hx
        have h2 := readRow_len f n r2 s2 l2 _ _ hl
        omega

def kidsO (k : Int) (tot : Option (List LT × List UInt8 × Nat)) : Option (LT × List UInt8 × Nat) := tot.map fun z => (.mk k [] 0 z.1, z.2.1, z.2.2)
def RdIH (f : Nat) : Prop := ∀ (S R F : Nat) (s : List UInt8) (room : Nat) (w : World), room < f → s.length ≤ 100000000000 → room ≤ 64 → S ≠ R → S ≠ F → R ≠ F → gN ≤ S → gN ≤ R → SAt w S s → RAt w R room → FAt w F S R → GOk w →
    Calls Tryz.prog 79 #[.pointer (some ⟨S, 0, none⟩), .pointer (some ⟨R, 0, none⟩), .pointer (some ⟨F, 0, none⟩)] w (RdPost S R w (readL cutP limP f room s))

set_option maxRecDepth 100000 in
set_option maxHeartbeats 4000000 in
theorem lkRdEmpty  (S R F : Nat) (w : World) (nSR : S ≠ R) (nSF : S ≠ F) (nRF : R ≠ F) (gnS : gN ≤ S) (gnR : gN ≤ R) (hS : SAt w S []) (hG : GOk w) :
    Calls Tryz.prog 79 #[.pointer (some ⟨S, 0, none⟩), .pointer (some ⟨R, 0, none⟩), .pointer (some ⟨F, 0, none⟩)] w (RdPost S R w none) := by
  have HG0 := Lib.hid hG
  have nRS := nSR.symm
  have nFS := nSF.symm
  have nFR := nRF.symm
  have HS0 := Lib.hid hS
  have fa := blk_cell HS0.out
  have fb := blk_free HS0.out
  have fl := blk_lt HS0.out
  clear hS hG
  go_enter Tryz.func79, Tryz.ntmps79
  go_wp2
  refine bodyPost_ret (v := .tuple #[.agg #[.int .u8 0, .string (bs []), .int .i64 0, .slice none 0 0], .bool false]) (by simp [results, Tryz.results79, go_sem]) rfl ⟨(by (repeat' (first | with_reducible exact gl_refl _ _ | with_reducible assumption | with_reducible refine gl_alloc ?_ _ | with_reducible refine gl_drewN ?_ _ | with_reducible refine gl_drew ?_ | (with_reducible refine gl_setn ?_ ?_ _; · (first | exact Nat.le_refl _ | (simp; done) | (simp; omega) | omega)) | (with_reducible refine gl_seti ?_ ?_ _; · (simp; done)) | with_reducible refine gl_below (by with_reducible assumption) ?_ | with_reducible refine gl_step (by with_reducible assumption) ?_ (by first | (simp; done) | (simp; omega)) | with_reducible refine gl_grown (by with_reducible assumption) ?_ (by first | (simp; done) | (simp; omega))))), _, _, _, _, _, _, rfl⟩

set_option maxRecDepth 100000 in
set_option maxHeartbeats 4000000 in
theorem lkRdFull (c : UInt8) (r : List UInt8) (S R F : Nat) (w : World) (nSR : S ≠ R) (nSF : S ≠ F) (nRF : R ≠ F) (gnS : gN ≤ S) (gnR : gN ≤ R) (hS : SAt w S (c :: r)) (hR : RAt w R 0) (hG : GOk w) :
    Calls Tryz.prog 79 #[.pointer (some ⟨S, 0, none⟩), .pointer (some ⟨R, 0, none⟩), .pointer (some ⟨F, 0, none⟩)] w (RdPost S R w none) := by
  have HG0 := Lib.hid hG
  have nRS := nSR.symm
  have nFS := nSF.symm
  have nFR := nRF.symm
  have HS0 := Lib.hid hS
  have HR0 := Lib.hid hR
  have fa := blk_cell HS0.out
  have fb := blk_free HS0.out
  have fl := blk_lt HS0.out
  have fc := blk_cell HR0.out
  have fd := blk_free HR0.out
  have fm := blk_lt HR0.out
  clear hS hR hG
  go_enter Tryz.func79, Tryz.ntmps79
  go_wp2
  refine bodyPost_ret (v := .tuple #[.agg #[.int .u8 0, .string (bs []), .int .i64 0, .slice none 0 0], .bool false]) (by simp [results, Tryz.results79, go_sem]) rfl ⟨(by (repeat' (first | with_reducible exact gl_refl _ _ | with_reducible assumption | with_reducible refine gl_alloc ?_ _ | with_reducible refine gl_drewN ?_ _ | with_reducible refine gl_drew ?_ | (with_reducible refine gl_setn ?_ ?_ _; · (first | exact Nat.le_refl _ | (simp; done) | (simp; omega) | omega)) | (with_reducible refine gl_seti ?_ ?_ _; · (simp; done)) | with_reducible refine gl_below (by with_reducible assumption) ?_ | with_reducible refine gl_step (by with_reducible assumption) ?_ (by first | (simp; done) | (simp; omega)) | with_reducible refine gl_grown (by with_reducible assumption) ?_ (by first | (simp; done) | (simp; omega))))), _, _, _, _, _, _, rfl⟩

set_option maxRecDepth 100000 in
set_option maxHeartbeats 4000000 in
theorem lkRdOtherA (c : UInt8) (r : List UInt8) (rm : Nat) (S R F : Nat) (w : World) (nSR : S ≠ R) (nSF : S ≠ F) (nRF : R ≠ F) (gnS : gN ≤ S) (gnR : gN ≤ R) (hS : SAt w S (c :: r)) (hR : RAt w R ((rm : Int) + 1)) (hF : FAt w F S R) (hrl : r.length ≤ 100000000000) (hrm : (rm : Int) ≤ 1000) (hb0 : ((rm : Int) + 1 == 0) = false) (hix : Lib.indexByte [32, 115, 112, 97, 111, 38, 124] c = 0) (hG : GOk w) :
    Calls Tryz.prog 79 #[.pointer (some ⟨S, 0, none⟩), .pointer (some ⟨R, 0, none⟩), .pointer (some ⟨F, 0, none⟩)] w (RdPost S R w none) := by
  have HG0 := Lib.hid hG
  have nRS := nSR.symm
  have nFS := nSF.symm
  have nFR := nRF.symm
  have HS0 := Lib.hid hS
  have HR0 := Lib.hid hR
  have HIX := Lib.hid hix
  clear hS hR hF hG hix
  go_enter Tryz.func79, Tryz.ntmps79
  have hg0 : GL [S, R] w w := gl_refl _ _
  have hs0 : w.heap.size ≤ w.heap.size := Nat.le_refl _
  have fa1 := blk_cell HS0.out
  have fb1 := blk_free HS0.out
  have fl1 := blk_lt HS0.out
  have fa2 := blk_cell HR0.out
  have fb2 := blk_free HR0.out
  have fl2 := blk_lt HR0.out
  go_wp2_with fail
  clear fa1 fb1 fl1 fa2 fb2 fl2
  have HS1 := Lib.hid (blk_ne HS0.out (p := ⟨R, 0, none⟩) (by first | (simp; done) | (simp; omega)) (.int .i64 rm))
  have HG1 := Lib.hid (gok_gl (rs := [R]) HG0.out (gl_set (gl_refl _ _) (p := ⟨R, 0, none⟩) (.inl (by simp)) (.int .i64 rm)) (by first | (simp; done) | (simp; omega)))
  have hg1 : GL [S, R] w (w.setCell ⟨R, 0, none⟩ (.int .i64 rm)) := gl_set hg0 (by first | (left; simp; done) | (right; simp; omega)) _
  have HR1 : Hid (RAt (w.setCell ⟨R, 0, none⟩ (.int .i64 rm)) R rm) := (blk_set HR0.out 0 (.int .i64 rm))
  have HZ1 : Hid ((w.setCell ⟨R, 0, none⟩ (.int .i64 rm)).heap.size = w.heap.size) := by show _ = _; simp [World.setCell]
  generalize (w.setCell ⟨R, 0, none⟩ (.int .i64 rm)) = w1 at *
  have hs1 : w.heap.size ≤ w1.heap.size := hg1.size
  have hle : hszW w ≤ w.heap.size ∧ w.heap.size ≤ hszW w := ⟨Nat.le_refl _, Nat.le_refl _⟩
  have HS2 := Lib.hid (blk_alloc HS1.out (.cells #[.int .u8 0, .string (bs []), .int .i64 0, .slice none 0 0] 25))
  have ltSRS : S < w.heap.size := by have := blk_lt HS1.out; have := HZ1.out; omega
  have neSRS : S ≠ w.heap.size := by omega
  have neRSS : w.heap.size ≠ S := by omega
  have HR2 := Lib.hid (blk_alloc HR1.out (.cells #[.int .u8 0, .string (bs []), .int .i64 0, .slice none 0 0] 25))
  have ltRRS : R < w.heap.size := by have := blk_lt HR1.out; have := HZ1.out; omega
  have neRRS : R ≠ w.heap.size := by omega
  have neRSR : w.heap.size ≠ R := by omega
  have HRS2 : Hid ((w1.alloc (.cells #[.int .u8 0, .string (bs []), .int .i64 0, .slice none 0 0] 25)).heap[w.heap.size]? = some (.cells #[.int .u8 0, .string (bs []), .int .i64 0, .slice none 0 0] 25 (0, 0))) := by
    have h := blk_new w1 (.cells #[.int .u8 0, .string (bs []), .int .i64 0, .slice none 0 0] 25)
    rw [HZ1.out] at h
    exact h
  have HG2 := Lib.hid (gok_alloc HG1.out (.cells #[.int .u8 0, .string (bs []), .int .i64 0, .slice none 0 0] 25))
  have hg2 : GL [S, R] w (w1.alloc (.cells #[.int .u8 0, .string (bs []), .int .i64 0, .slice none 0 0] 25)) := (gl_alloc hg1 (.cells #[.int .u8 0, .string (bs []), .int .i64 0, .slice none 0 0] 25))
  have geRS : w.heap.size ≤ w.heap.size := by have := hg1.size; omega
  have gnRS : gN ≤ w.heap.size := by have := HG1.out.size; omega
  generalize (w1.alloc (.cells #[.int .u8 0, .string (bs []), .int .i64 0, .slice none 0 0] 25)) = w2 at *
  generalize w.heap.size = RS at *
  have hs2 : w.heap.size ≤ w2.heap.size := hg2.size
  have hRSw : w.heap.size ≤ RS := hle.1
  have hRSw2 : RS ≤ w.heap.size := hle.2
  refine (idxByte [32, 115, 112, 97, 111, 38, 124] _ c rfl _).mono ?_
  rintro e wq ⟨rfl, hwq⟩
  have hwq2 := hwq.symm
  subst hwq2
  rw [HIX.out]
  have fa3 := blk_cell HS2.out
  have fb3 := blk_free HS2.out
  have fl3 := blk_lt HS2.out
  have fa4 := blk_cell HRS2.out
  have fb4 := blk_free HRS2.out
  have fl4 := blk_lt HRS2.out
  have hgq := hg2
  go_wp2
  refine bodyPost_ret (v := .tuple #[.agg #[.int .u8 0, .string (bs []), .int .i64 0, .slice none 0 0], .bool false]) (by simp [results, Tryz.results79, go_sem, cell_alloc_lt, fa3, fb3, fl3, fa4, fb4, fl4, neSRS, neRSS]) rfl ⟨(by (repeat' (first | with_reducible exact gl_refl _ _ | with_reducible assumption | with_reducible refine gl_alloc ?_ _ | with_reducible refine gl_drewN ?_ _ | with_reducible refine gl_drew ?_ | (with_reducible refine gl_setn ?_ ?_ _; · (first | exact Nat.le_refl _ | (simp; done) | (simp; omega) | omega)) | (with_reducible refine gl_seti ?_ ?_ _; · (simp; done)) | with_reducible refine gl_below (by with_reducible assumption) ?_ | with_reducible refine gl_step (by with_reducible assumption) ?_ (by first | (simp; done) | (simp; omega)) | with_reducible refine gl_grown (by with_reducible assumption) ?_ (by first | (simp; done) | (simp; omega))))), _, _, _, _, _, _, rfl⟩

set_option maxRecDepth 100000 in
set_option maxHeartbeats 4000000 in
theorem lkRdOtherB (c : UInt8) (r : List UInt8) (rm : Nat) (S R F : Nat) (w : World) (nSR : S ≠ R) (nSF : S ≠ F) (nRF : R ≠ F) (gnS : gN ≤ S) (gnR : gN ≤ R) (hS : SAt w S (c :: r)) (hR : RAt w R ((rm : Int) + 1)) (hF : FAt w F S R) (hrl : r.length ≤ 100000000000) (hrm : (rm : Int) ≤ 1000) (hb0 : ((rm : Int) + 1 == 0) = false) (hix : Lib.indexByte [32, 115, 112, 97, 111, 38, 124] c = -1) (hG : GOk w) :
    Calls Tryz.prog 79 #[.pointer (some ⟨S, 0, none⟩), .pointer (some ⟨R, 0, none⟩), .pointer (some ⟨F, 0, none⟩)] w (RdPost S R w none) := by
  have HG0 := Lib.hid hG
  have nRS := nSR.symm
  have nFS := nSF.symm
  have nFR := nRF.symm
  have HS0 := Lib.hid hS
  have HR0 := Lib.hid hR
  have HIX := Lib.hid hix
  clear hS hR hF hG hix
  go_enter Tryz.func79, Tryz.ntmps79
  have hg0 : GL [S, R] w w := gl_refl _ _
  have hs0 : w.heap.size ≤ w.heap.size := Nat.le_refl _
  have fa1 := blk_cell HS0.out
  have fb1 := blk_free HS0.out
  have fl1 := blk_lt HS0.out
  have fa2 := blk_cell HR0.out
  have fb2 := blk_free HR0.out
  have fl2 := blk_lt HR0.out
  go_wp2_with fail
  clear fa1 fb1 fl1 fa2 fb2 fl2
  have HS1 := Lib.hid (blk_ne HS0.out (p := ⟨R, 0, none⟩) (by first | (simp; done) | (simp; omega)) (.int .i64 rm))
  have HG1 := Lib.hid (gok_gl (rs := [R]) HG0.out (gl_set (gl_refl _ _) (p := ⟨R, 0, none⟩) (.inl (by simp)) (.int .i64 rm)) (by first | (simp; done) | (simp; omega)))
  have hg1 : GL [S, R] w (w.setCell ⟨R, 0, none⟩ (.int .i64 rm)) := gl_set hg0 (by first | (left; simp; done) | (right; simp; omega)) _
  have HR1 : Hid (RAt (w.setCell ⟨R, 0, none⟩ (.int .i64 rm)) R rm) := (blk_set HR0.out 0 (.int .i64 rm))
  have HZ1 : Hid ((w.setCell ⟨R, 0, none⟩ (.int .i64 rm)).heap.size = w.heap.size) := by show _ = _; simp [World.setCell]
  generalize (w.setCell ⟨R, 0, none⟩ (.int .i64 rm)) = w1 at *
  have hs1 : w.heap.size ≤ w1.heap.size := hg1.size
  have hle : hszW w ≤ w.heap.size ∧ w.heap.size ≤ hszW w := ⟨Nat.le_refl _, Nat.le_refl _⟩
  have HS2 := Lib.hid (blk_alloc HS1.out (.cells #[.int .u8 0, .string (bs []), .int .i64 0, .slice none 0 0] 25))
  have ltSRS : S < w.heap.size := by have := blk_lt HS1.out; have := HZ1.out; omega
  have neSRS : S ≠ w.heap.size := by omega
  have neRSS : w.heap.size ≠ S := by omega
  have HR2 := Lib.hid (blk_alloc HR1.out (.cells #[.int .u8 0, .string (bs []), .int .i64 0, .slice none 0 0] 25))
  have ltRRS : R < w.heap.size := by have := blk_lt HR1.out; have := HZ1.out; omega
  have neRRS : R ≠ w.heap.size := by omega
  have neRSR : w.heap.size ≠ R := by omega
  have HRS2 : Hid ((w1.alloc (.cells #[.int .u8 0, .string (bs []), .int .i64 0, .slice none 0 0] 25)).heap[w.heap.size]? = some (.cells #[.int .u8 0, .string (bs []), .int .i64 0, .slice none 0 0] 25 (0, 0))) := by
    have h := blk_new w1 (.cells #[.int .u8 0, .string (bs []), .int .i64 0, .slice none 0 0] 25)
    rw [HZ1.out] at h
    exact h
  have HG2 := Lib.hid (gok_alloc HG1.out (.cells #[.int .u8 0, .string (bs []), .int .i64 0, .slice none 0 0] 25))
  have hg2 : GL [S, R] w (w1.alloc (.cells #[.int .u8 0, .string (bs []), .int .i64 0, .slice none 0 0] 25)) := (gl_alloc hg1 (.cells #[.int .u8 0, .string (bs []), .int .i64 0, .slice none 0 0] 25))
  have geRS : w.heap.size ≤ w.heap.size := by have := hg1.size; omega
  have gnRS : gN ≤ w.heap.size := by have := HG1.out.size; omega
  generalize (w1.alloc (.cells #[.int .u8 0, .string (bs []), .int .i64 0, .slice none 0 0] 25)) = w2 at *
  generalize w.heap.size = RS at *
  have hs2 : w.heap.size ≤ w2.heap.size := hg2.size
  have hRSw : w.heap.size ≤ RS := hle.1
  have hRSw2 : RS ≤ w.heap.size := hle.2
  refine (idxByte [32, 115, 112, 97, 111, 38, 124] _ c rfl _).mono ?_
  rintro e wq ⟨rfl, hwq⟩
  have hwq2 := hwq.symm
  subst hwq2
  rw [HIX.out]
  have fa3 := blk_cell HS2.out
  have fb3 := blk_free HS2.out
  have fl3 := blk_lt HS2.out
  have fa4 := blk_cell HRS2.out
  have fb4 := blk_free HRS2.out
  have fl4 := blk_lt HRS2.out
  have hgq := hg2
  go_wp2
  refine bodyPost_ret (v := .tuple #[.agg #[.int .u8 0, .string (bs []), .int .i64 0, .slice none 0 0], .bool false]) (by simp [results, Tryz.results79, go_sem, cell_alloc_lt, fa3, fb3, fl3, fa4, fb4, fl4, neSRS, neRSS]) rfl ⟨(by (repeat' (first | with_reducible exact gl_refl _ _ | with_reducible assumption | with_reducible refine gl_alloc ?_ _ | with_reducible refine gl_drewN ?_ _ | with_reducible refine gl_drew ?_ | (with_reducible refine gl_setn ?_ ?_ _; · (first | exact Nat.le_refl _ | (simp; done) | (simp; omega) | omega)) | (with_reducible refine gl_seti ?_ ?_ _; · (simp; done)) | with_reducible refine gl_below (by with_reducible assumption) ?_ | with_reducible refine gl_step (by with_reducible assumption) ?_ (by first | (simp; done) | (simp; omega)) | with_reducible refine gl_grown (by with_reducible assumption) ?_ (by first | (simp; done) | (simp; omega))))), _, _, _, _, _, _, rfl⟩

set_option maxRecDepth 100000 in
set_option maxHeartbeats 4000000 in
theorem lkRd1N (r : List UInt8) (rm : Nat) (S R F : Nat) (w : World) (nSR : S ≠ R) (nSF : S ≠ F) (nRF : R ≠ F) (gnS : gN ≤ S) (gnR : gN ≤ R) (hS : SAt w S (115 :: r)) (hR : RAt w R ((rm : Int) + 1)) (hF : FAt w F S R) (hrl : r.length ≤ 100000000000) (hrm : (rm : Int) ≤ 1000) (hb0 : ((rm : Int) + 1 == 0) = false) (hc : cutP r = none) (hG : GOk w) :
    Calls Tryz.prog 79 #[.pointer (some ⟨S, 0, none⟩), .pointer (some ⟨R, 0, none⟩), .pointer (some ⟨F, 0, none⟩)] w (RdPost S R w (none)) := by
  have HG0 := Lib.hid hG
  have nRS := nSR.symm
  have nFS := nSF.symm
  have nFR := nRF.symm
  have HV : Hid (cutTV r = .tuple #[.string (bs []), .string (bs []), .bool false]) := by show cutTV r = _; unfold cutTV; rw [hc]
  have HS0 := Lib.hid hS
  have HR0 := Lib.hid hR
  have HF0 := Lib.hid hF
  clear hS hR hF hG
  go_enter Tryz.func79, Tryz.ntmps79
  have hg0 : GL [S, R] w w := gl_refl _ _
  have hs0 : w.heap.size ≤ w.heap.size := Nat.le_refl _
  have fa1 := blk_cell HS0.out
  have fb1 := blk_free HS0.out
  have fl1 := blk_lt HS0.out
  have fa2 := blk_cell HR0.out
  have fb2 := blk_free HR0.out
  have fl2 := blk_lt HR0.out
  go_wp2_with fail
  clear fa1 fb1 fl1 fa2 fb2 fl2
  have HS1 := Lib.hid (blk_ne HS0.out (p := ⟨R, 0, none⟩) (by first | (simp; done) | (simp; omega)) (.int .i64 rm))
  have HF1 := Lib.hid (blk_ne HF0.out (p := ⟨R, 0, none⟩) (by first | (simp; done) | (simp; omega)) (.int .i64 rm))
  have HG1 := Lib.hid (gok_gl (rs := [R]) HG0.out (gl_set (gl_refl _ _) (p := ⟨R, 0, none⟩) (.inl (by simp)) (.int .i64 rm)) (by first | (simp; done) | (simp; omega)))
  have hg1 : GL [S, R] w (w.setCell ⟨R, 0, none⟩ (.int .i64 rm)) := gl_set hg0 (by first | (left; simp; done) | (right; simp; omega)) _
  have HR1 : Hid (RAt (w.setCell ⟨R, 0, none⟩ (.int .i64 rm)) R rm) := (blk_set HR0.out 0 (.int .i64 rm))
  have HZ1 : Hid ((w.setCell ⟨R, 0, none⟩ (.int .i64 rm)).heap.size = w.heap.size) := by show _ = _; simp [World.setCell]
  generalize (w.setCell ⟨R, 0, none⟩ (.int .i64 rm)) = w1 at *
  have hs1 : w.heap.size ≤ w1.heap.size := hg1.size
  have hle : hszW w ≤ w.heap.size ∧ w.heap.size ≤ hszW w := ⟨Nat.le_refl _, Nat.le_refl _⟩
  have HS2 := Lib.hid (blk_alloc HS1.out (.cells #[.int .u8 0, .string (bs []), .int .i64 0, .slice none 0 0] 25))
  have ltSRS : S < w.heap.size := by have := blk_lt HS1.out; have := HZ1.out; omega
  have neSRS : S ≠ w.heap.size := by omega
  have neRSS : w.heap.size ≠ S := by omega
  have HR2 := Lib.hid (blk_alloc HR1.out (.cells #[.int .u8 0, .string (bs []), .int .i64 0, .slice none 0 0] 25))
  have ltRRS : R < w.heap.size := by have := blk_lt HR1.out; have := HZ1.out; omega
  have neRRS : R ≠ w.heap.size := by omega
  have neRSR : w.heap.size ≠ R := by omega
  have HF2 := Lib.hid (blk_alloc HF1.out (.cells #[.int .u8 0, .string (bs []), .int .i64 0, .slice none 0 0] 25))
  have ltFRS : F < w.heap.size := by have := blk_lt HF1.out; have := HZ1.out; omega
  have neFRS : F ≠ w.heap.size := by omega
  have neRSF : w.heap.size ≠ F := by omega
  have HRS2 : Hid ((w1.alloc (.cells #[.int .u8 0, .string (bs []), .int .i64 0, .slice none 0 0] 25)).heap[w.heap.size]? = some (.cells #[.int .u8 0, .string (bs []), .int .i64 0, .slice none 0 0] 25 (0, 0))) := by
    have h := blk_new w1 (.cells #[.int .u8 0, .string (bs []), .int .i64 0, .slice none 0 0] 25)
    rw [HZ1.out] at h
    exact h
  have HG2 := Lib.hid (gok_alloc HG1.out (.cells #[.int .u8 0, .string (bs []), .int .i64 0, .slice none 0 0] 25))
  have hg2 : GL [S, R] w (w1.alloc (.cells #[.int .u8 0, .string (bs []), .int .i64 0, .slice none 0 0] 25)) := (gl_alloc hg1 (.cells #[.int .u8 0, .string (bs []), .int .i64 0, .slice none 0 0] 25))
  have geRS : w.heap.size ≤ w.heap.size := by have := hg1.size; omega
  have gnRS : gN ≤ w.heap.size := by have := HG1.out.size; omega
  generalize (w1.alloc (.cells #[.int .u8 0, .string (bs []), .int .i64 0, .slice none 0 0] 25)) = w2 at *
  generalize w.heap.size = RS at *
  have hs2 : w.heap.size ≤ w2.heap.size := hg2.size
  have hRSw : w.heap.size ≤ RS := hle.1
  have hRSw2 : RS ≤ w.heap.size := hle.2
  refine (idxByte [32, 115, 112, 97, 111, 38, 124] _ 115 rfl _).mono ?_
  rintro e wq ⟨rfl, hwq⟩
  have hwq2 := hwq.symm
  subst hwq2
  rw [show Lib.indexByte [32, 115, 112, 97, 111, 38, 124] 115 = 1 by decide]
  have fa3 := blk_cell HS2.out
  have fb3 := blk_free HS2.out
  have fl3 := blk_lt HS2.out
  go_wp2_with fail
  clear fa3 fb3 fl3
  have HR3 := Lib.hid (blk_ne HR2.out (p := ⟨S, 0, none⟩) (by first | (simp; done) | (simp; omega)) (.string (bs r)))
  have HF3 := Lib.hid (blk_ne HF2.out (p := ⟨S, 0, none⟩) (by first | (simp; done) | (simp; omega)) (.string (bs r)))
  have HRS3 := Lib.hid (blk_ne HRS2.out (p := ⟨S, 0, none⟩) (by first | (simp; done) | (simp; omega)) (.string (bs r)))
  have HG3 := Lib.hid (gok_gl (rs := [S]) HG2.out (gl_set (gl_refl _ _) (p := ⟨S, 0, none⟩) (.inl (by simp)) (.string (bs r))) (by first | (simp; done) | (simp; omega)))
  have hg3 : GL [S, R] w (w2.setCell ⟨S, 0, none⟩ (.string (bs r))) := gl_set hg2 (by first | (left; simp; done) | (right; simp; omega)) _
  have HS3 : Hid (SAt (w2.setCell ⟨S, 0, none⟩ (.string (bs r))) S r) := (blk_set HS2.out 0 (.string (bs r)))
  have HZ3 : Hid ((w2.setCell ⟨S, 0, none⟩ (.string (bs r))).heap.size = w2.heap.size) := by show _ = _; simp [World.setCell]
  generalize (w2.setCell ⟨S, 0, none⟩ (.string (bs r))) = w3 at *
  have hs3 : w.heap.size ≤ w3.heap.size := hg3.size
  have HS4 := Lib.hid (blk_alloc HS3.out (.cells #[.int .u8 1, .string (bs []), .int .i64 0, .slice none 0 0] 25))
  have ltSLB : S < w2.heap.size := by have := blk_lt HS3.out; have := HZ3.out; omega
  have neSLB : S ≠ w2.heap.size := by omega
  have neLBS : w2.heap.size ≠ S := by omega
  have HR4 := Lib.hid (blk_alloc HR3.out (.cells #[.int .u8 1, .string (bs []), .int .i64 0, .slice none 0 0] 25))
  have ltRLB : R < w2.heap.size := by have := blk_lt HR3.out; have := HZ3.out; omega
  have neRLB : R ≠ w2.heap.size := by omega
  have neLBR : w2.heap.size ≠ R := by omega
  have HF4 := Lib.hid (blk_alloc HF3.out (.cells #[.int .u8 1, .string (bs []), .int .i64 0, .slice none 0 0] 25))
  have ltFLB : F < w2.heap.size := by have := blk_lt HF3.out; have := HZ3.out; omega
  have neFLB : F ≠ w2.heap.size := by omega
  have neLBF : w2.heap.size ≠ F := by omega
  have HRS4 := Lib.hid (blk_alloc HRS3.out (.cells #[.int .u8 1, .string (bs []), .int .i64 0, .slice none 0 0] 25))
  have ltRSLB : RS < w2.heap.size := by have := blk_lt HRS3.out; have := HZ3.out; omega
  have neRSLB : RS ≠ w2.heap.size := by omega
  have neLBRS : w2.heap.size ≠ RS := by omega
  have HLB4 : Hid ((w3.alloc (.cells #[.int .u8 1, .string (bs []), .int .i64 0, .slice none 0 0] 25)).heap[w2.heap.size]? = some (.cells #[.int .u8 1, .string (bs []), .int .i64 0, .slice none 0 0] 25 (0, 0))) := by
    have h := blk_new w3 (.cells #[.int .u8 1, .string (bs []), .int .i64 0, .slice none 0 0] 25)
    rw [HZ3.out] at h
    exact h
  have HG4 := Lib.hid (gok_alloc HG3.out (.cells #[.int .u8 1, .string (bs []), .int .i64 0, .slice none 0 0] 25))
  have hg4 : GL [S, R] w (w3.alloc (.cells #[.int .u8 1, .string (bs []), .int .i64 0, .slice none 0 0] 25)) := (gl_alloc hg3 (.cells #[.int .u8 1, .string (bs []), .int .i64 0, .slice none 0 0] 25))
  have geLB : w.heap.size ≤ w2.heap.size := by have := hg3.size; omega
  have gnLB : gN ≤ w2.heap.size := by have := HG3.out.size; omega
  generalize (w3.alloc (.cells #[.int .u8 1, .string (bs []), .int .i64 0, .slice none 0 0] 25)) = w4 at *
  generalize w2.heap.size = LB at *
  have hs4 : w.heap.size ≤ w4.heap.size := hg4.size
  go_wp2_with fail
  refine (lkCutT r (by omega) _ HG4.out).mono ?_
  rintro e w5 ⟨rfl, hb5⟩
  rw [HV.out]
  have HS5 := Lib.hid (blk_below HS4.out hb5 (blk_lt HS4.out))
  have HR5 := Lib.hid (blk_below HR4.out hb5 (blk_lt HR4.out))
  have HF5 := Lib.hid (blk_below HF4.out hb5 (blk_lt HF4.out))
  have HRS5 := Lib.hid (blk_below HRS4.out hb5 (blk_lt HRS4.out))
  have HLB5 := Lib.hid (blk_below HLB4.out hb5 (blk_lt HLB4.out))
  have HG5 := Lib.hid (gok_below HG4.out hb5)
  have hg5 : GL [S, R] w w5 := gl_below hb5 hg4
  have hs5 : w.heap.size ≤ w5.heap.size := hg5.size
  have fa4 := blk_cell HS5.out
  have fb4 := blk_free HS5.out
  have fl4 := blk_lt HS5.out
  have fa5 := blk_cell HLB5.out
  have fb5 := blk_free HLB5.out
  have fl5 := blk_lt HLB5.out
  have fa6 := blk_cell HRS5.out
  have fb6 := blk_free HRS5.out
  have fl6 := blk_lt HRS5.out
  have hgq := hg5
  go_wp2
  refine bodyPost_ret (v := .tuple #[.agg #[.int .u8 1, .string (bs []), .int .i64 0, .slice none 0 0], .bool false]) (by simp [results, Tryz.results79, go_sem, cell_alloc_lt, fa4, fb4, fl4, fa5, fb5, fl5, fa6, fb6, fl6, neSRS, neRSS, neSLB, neLBS, neRSLB, neLBRS]) rfl ⟨(by (repeat' (first | with_reducible exact gl_refl _ _ | with_reducible assumption | with_reducible refine gl_alloc ?_ _ | with_reducible refine gl_drewN ?_ _ | with_reducible refine gl_drew ?_ | (with_reducible refine gl_setn ?_ ?_ _; · (first | exact Nat.le_refl _ | (simp; done) | (simp; omega) | omega)) | (with_reducible refine gl_seti ?_ ?_ _; · (simp; done)) | with_reducible refine gl_below (by with_reducible assumption) ?_ | with_reducible refine gl_step (by with_reducible assumption) ?_ (by first | (simp; done) | (simp; omega)) | with_reducible refine gl_grown (by with_reducible assumption) ?_ (by first | (simp; done) | (simp; omega))))), _, _, _, _, _, _, rfl⟩

set_option maxRecDepth 100000 in
set_option maxHeartbeats 4000000 in
theorem lkRd1Y (r : List UInt8) (rm : Nat) (S R F : Nat) (w : World) (nSR : S ≠ R) (nSF : S ≠ F) (nRF : R ≠ F) (gnS : gN ≤ S) (gnR : gN ≤ R) (hS : SAt w S (115 :: r)) (hR : RAt w R ((rm : Int) + 1)) (hF : FAt w F S R) (hrl : r.length ≤ 100000000000) (hrm : (rm : Int) ≤ 1000) (hb0 : ((rm : Int) + 1 == 0) = false) (t s2 : List UInt8) (ht : t.length ≤ 100000000000) (hc : cutP r = some (t, s2)) (hG : GOk w) :
    Calls Tryz.prog 79 #[.pointer (some ⟨S, 0, none⟩), .pointer (some ⟨R, 0, none⟩), .pointer (some ⟨F, 0, none⟩)] w (RdPost S R w (some (.mk 1 t 0 [], s2, rm))) := by
  have HG0 := Lib.hid hG
  have nRS := nSR.symm
  have nFS := nSF.symm
  have nFR := nRF.symm
  have HV : Hid (cutTV r = .tuple #[.string (bs t), .string (bs s2), .bool true]) := by show cutTV r = _; unfold cutTV; rw [hc]
  have HS0 := Lib.hid hS
  have HR0 := Lib.hid hR
  have HF0 := Lib.hid hF
  clear hS hR hF hG
  go_enter Tryz.func79, Tryz.ntmps79
  have hg0 : GL [S, R] w w := gl_refl _ _
  have hs0 : w.heap.size ≤ w.heap.size := Nat.le_refl _
  have fa1 := blk_cell HS0.out
  have fb1 := blk_free HS0.out
  have fl1 := blk_lt HS0.out
  have fa2 := blk_cell HR0.out
  have fb2 := blk_free HR0.out
  have fl2 := blk_lt HR0.out
  go_wp2_with fail
  clear fa1 fb1 fl1 fa2 fb2 fl2
  have HS1 := Lib.hid (blk_ne HS0.out (p := ⟨R, 0, none⟩) (by first | (simp; done) | (simp; omega)) (.int .i64 rm))
  have HF1 := Lib.hid (blk_ne HF0.out (p := ⟨R, 0, none⟩) (by first | (simp; done) | (simp; omega)) (.int .i64 rm))
  have HG1 := Lib.hid (gok_gl (rs := [R]) HG0.out (gl_set (gl_refl _ _) (p := ⟨R, 0, none⟩) (.inl (by simp)) (.int .i64 rm)) (by first | (simp; done) | (simp; omega)))
  have hg1 : GL [S, R] w (w.setCell ⟨R, 0, none⟩ (.int .i64 rm)) := gl_set hg0 (by first | (left; simp; done) | (right; simp; omega)) _
  have HR1 : Hid (RAt (w.setCell ⟨R, 0, none⟩ (.int .i64 rm)) R rm) := (blk_set HR0.out 0 (.int .i64 rm))
  have HZ1 : Hid ((w.setCell ⟨R, 0, none⟩ (.int .i64 rm)).heap.size = w.heap.size) := by show _ = _; simp [World.setCell]
  generalize (w.setCell ⟨R, 0, none⟩ (.int .i64 rm)) = w1 at *
  have hs1 : w.heap.size ≤ w1.heap.size := hg1.size
  have hle : hszW w ≤ w.heap.size ∧ w.heap.size ≤ hszW w := ⟨Nat.le_refl _, Nat.le_refl _⟩
  have HS2 := Lib.hid (blk_alloc HS1.out (.cells #[.int .u8 0, .string (bs []), .int .i64 0, .slice none 0 0] 25))
  have ltSRS : S < w.heap.size := by have := blk_lt HS1.out; have := HZ1.out; omega
  have neSRS : S ≠ w.heap.size := by omega
  have neRSS : w.heap.size ≠ S := by omega
  have HR2 := Lib.hid (blk_alloc HR1.out (.cells #[.int .u8 0, .string (bs []), .int .i64 0, .slice none 0 0] 25))
  have ltRRS : R < w.heap.size := by have := blk_lt HR1.out; have := HZ1.out; omega
  have neRRS : R ≠ w.heap.size := by omega
  have neRSR : w.heap.size ≠ R := by omega
  have HF2 := Lib.hid (blk_alloc HF1.out (.cells #[.int .u8 0, .string (bs []), .int .i64 0, .slice none 0 0] 25))
  have ltFRS : F < w.heap.size := by have := blk_lt HF1.out; have := HZ1.out; omega
  have neFRS : F ≠ w.heap.size := by omega
  have neRSF : w.heap.size ≠ F := by omega
  have HRS2 : Hid ((w1.alloc (.cells #[.int .u8 0, .string (bs []), .int .i64 0, .slice none 0 0] 25)).heap[w.heap.size]? = some (.cells #[.int .u8 0, .string (bs []), .int .i64 0, .slice none 0 0] 25 (0, 0))) := by
    have h := blk_new w1 (.cells #[.int .u8 0, .string (bs []), .int .i64 0, .slice none 0 0] 25)
    rw [HZ1.out] at h
    exact h
  have HG2 := Lib.hid (gok_alloc HG1.out (.cells #[.int .u8 0, .string (bs []), .int .i64 0, .slice none 0 0] 25))
  have hg2 : GL [S, R] w (w1.alloc (.cells #[.int .u8 0, .string (bs []), .int .i64 0, .slice none 0 0] 25)) := (gl_alloc hg1 (.cells #[.int .u8 0, .string (bs []), .int .i64 0, .slice none 0 0] 25))
  have geRS : w.heap.size ≤ w.heap.size := by have := hg1.size; omega
  have gnRS : gN ≤ w.heap.size := by have := HG1.out.size; omega
  generalize (w1.alloc (.cells #[.int .u8 0, .string (bs []), .int .i64 0, .slice none 0 0] 25)) = w2 at *
  generalize w.heap.size = RS at *
  have hs2 : w.heap.size ≤ w2.heap.size := hg2.size
  have hRSw : w.heap.size ≤ RS := hle.1
  have hRSw2 : RS ≤ w.heap.size := hle.2
  refine (idxByte [32, 115, 112, 97, 111, 38, 124] _ 115 rfl _).mono ?_
  rintro e wq ⟨rfl, hwq⟩
  have hwq2 := hwq.symm
  subst hwq2
  rw [show Lib.indexByte [32, 115, 112, 97, 111, 38, 124] 115 = 1 by decide]
  have fa3 := blk_cell HS2.out
  have fb3 := blk_free HS2.out
  have fl3 := blk_lt HS2.out
  go_wp2_with fail
  clear fa3 fb3 fl3
  have HR3 := Lib.hid (blk_ne HR2.out (p := ⟨S, 0, none⟩) (by first | (simp; done) | (simp; omega)) (.string (bs r)))
  have HF3 := Lib.hid (blk_ne HF2.out (p := ⟨S, 0, none⟩) (by first | (simp; done) | (simp; omega)) (.string (bs r)))
  have HRS3 := Lib.hid (blk_ne HRS2.out (p := ⟨S, 0, none⟩) (by first | (simp; done) | (simp; omega)) (.string (bs r)))
  have HG3 := Lib.hid (gok_gl (rs := [S]) HG2.out (gl_set (gl_refl _ _) (p := ⟨S, 0, none⟩) (.inl (by simp)) (.string (bs r))) (by first | (simp; done) | (simp; omega)))
  have hg3 : GL [S, R] w (w2.setCell ⟨S, 0, none⟩ (.string (bs r))) := gl_set hg2 (by first | (left; simp; done) | (right; simp; omega)) _
  have HS3 : Hid (SAt (w2.setCell ⟨S, 0, none⟩ (.string (bs r))) S r) := (blk_set HS2.out 0 (.string (bs r)))
  have HZ3 : Hid ((w2.setCell ⟨S, 0, none⟩ (.string (bs r))).heap.size = w2.heap.size) := by show _ = _; simp [World.setCell]
  generalize (w2.setCell ⟨S, 0, none⟩ (.string (bs r))) = w3 at *
  have hs3 : w.heap.size ≤ w3.heap.size := hg3.size
  have HS4 := Lib.hid (blk_alloc HS3.out (.cells #[.int .u8 1, .string (bs []), .int .i64 0, .slice none 0 0] 25))
  have ltSLB : S < w2.heap.size := by have := blk_lt HS3.out; have := HZ3.out; omega
  have neSLB : S ≠ w2.heap.size := by omega
  have neLBS : w2.heap.size ≠ S := by omega
  have HR4 := Lib.hid (blk_alloc HR3.out (.cells #[.int .u8 1, .string (bs []), .int .i64 0, .slice none 0 0] 25))
  have ltRLB : R < w2.heap.size := by have := blk_lt HR3.out; have := HZ3.out; omega
  have neRLB : R ≠ w2.heap.size := by omega
  have neLBR : w2.heap.size ≠ R := by omega
  have HF4 := Lib.hid (blk_alloc HF3.out (.cells #[.int .u8 1, .string (bs []), .int .i64 0, .slice none 0 0] 25))
  have ltFLB : F < w2.heap.size := by have := blk_lt HF3.out; have := HZ3.out; omega
  have neFLB : F ≠ w2.heap.size := by omega
  have neLBF : w2.heap.size ≠ F := by omega
  have HRS4 := Lib.hid (blk_alloc HRS3.out (.cells #[.int .u8 1, .string (bs []), .int .i64 0, .slice none 0 0] 25))
  have ltRSLB : RS < w2.heap.size := by have := blk_lt HRS3.out; have := HZ3.out; omega
  have neRSLB : RS ≠ w2.heap.size := by omega
  have neLBRS : w2.heap.size ≠ RS := by omega
  have HLB4 : Hid ((w3.alloc (.cells #[.int .u8 1, .string (bs []), .int .i64 0, .slice none 0 0] 25)).heap[w2.heap.size]? = some (.cells #[.int .u8 1, .string (bs []), .int .i64 0, .slice none 0 0] 25 (0, 0))) := by
    have h := blk_new w3 (.cells #[.int .u8 1, .string (bs []), .int .i64 0, .slice none 0 0] 25)
    rw [HZ3.out] at h
    exact h
  have HG4 := Lib.hid (gok_alloc HG3.out (.cells #[.int .u8 1, .string (bs []), .int .i64 0, .slice none 0 0] 25))
  have hg4 : GL [S, R] w (w3.alloc (.cells #[.int .u8 1, .string (bs []), .int .i64 0, .slice none 0 0] 25)) := (gl_alloc hg3 (.cells #[.int .u8 1, .string (bs []), .int .i64 0, .slice none 0 0] 25))
  have geLB : w.heap.size ≤ w2.heap.size := by have := hg3.size; omega
  have gnLB : gN ≤ w2.heap.size := by have := HG3.out.size; omega
  generalize (w3.alloc (.cells #[.int .u8 1, .string (bs []), .int .i64 0, .slice none 0 0] 25)) = w4 at *
  generalize w2.heap.size = LB at *
  have hs4 : w.heap.size ≤ w4.heap.size := hg4.size
  go_wp2_with fail
  refine (lkCutT r (by omega) _ HG4.out).mono ?_
  rintro e w5 ⟨rfl, hb5⟩
  rw [HV.out]
  have HS5 := Lib.hid (blk_below HS4.out hb5 (blk_lt HS4.out))
  have HR5 := Lib.hid (blk_below HR4.out hb5 (blk_lt HR4.out))
  have HF5 := Lib.hid (blk_below HF4.out hb5 (blk_lt HF4.out))
  have HRS5 := Lib.hid (blk_below HRS4.out hb5 (blk_lt HRS4.out))
  have HLB5 := Lib.hid (blk_below HLB4.out hb5 (blk_lt HLB4.out))
  have HG5 := Lib.hid (gok_below HG4.out hb5)
  have hg5 : GL [S, R] w w5 := gl_below hb5 hg4
  have hs5 : w.heap.size ≤ w5.heap.size := hg5.size
  have fa4 := blk_cell HS5.out
  have fb4 := blk_free HS5.out
  have fl4 := blk_lt HS5.out
  have fa5 := blk_cell HLB5.out
  have fb5 := blk_free HLB5.out
  have fl5 := blk_lt HLB5.out
  have fa6 := blk_cell HRS5.out
  have fb6 := blk_free HRS5.out
  have fl6 := blk_lt HRS5.out
  have hgq := hg5
  go_wp2
  refine bodyPost_ret (v := .tuple #[.agg #[.int .u8 1, .string (bs t), .int .i64 0, .slice none 0 0], .bool true]) (by simp [results, Tryz.results79, go_sem, cell_alloc_lt, fa4, fb4, fl4, fa5, fb5, fl5, fa6, fb6, fl6, neSRS, neRSS, neSLB, neLBS, neRSLB, neLBRS]) rfl ⟨by (repeat' (first | with_reducible exact gl_refl _ _ | with_reducible assumption | with_reducible refine gl_alloc ?_ _ | with_reducible refine gl_drewN ?_ _ | with_reducible refine gl_drew ?_ | (with_reducible refine gl_setn ?_ ?_ _; · (first | exact Nat.le_refl _ | (simp; done) | (simp; omega) | omega)) | (with_reducible refine gl_seti ?_ ?_ _; · (simp; done)) | with_reducible refine gl_below (by with_reducible assumption) ?_ | with_reducible refine gl_step (by with_reducible assumption) ?_ (by first | (simp; done) | (simp; omega)) | with_reducible refine gl_grown (by with_reducible assumption) ?_ (by first | (simp; done) | (simp; omega)))), _, rfl, ?_, ?_, ?_⟩
  · unfold LockIn
    exact ⟨by omega, by omega, by omega, by simp, _, rfl, .inl ⟨none, 0, rfl, rfl⟩⟩
  · have hq : SAt ((w5.setCell ⟨LB, 1, none⟩ (.string (bs t))).setCell ⟨S, 0, none⟩ (.string (bs s2))) S s2 := blk_set (blk_ne HS5.out (p := ⟨LB, 1, none⟩) (by first | exact neSLB | (simp; omega)) (.string (bs t))) 0 (.string (bs s2))
    unfold SAt at hq ⊢
    (repeat' (first | with_reducible exact hq | with_reducible refine blk_alloc ?_ _ | with_reducible refine blk_drewN ?_ _ | with_reducible refine blk_drew ?_ | with_reducible refine blk_ne ?_ ?_ _ | (simp; done) | (simp; omega) | omega))
  · have hq := HR5.out
    unfold RAt at hq ⊢
    (repeat' (first | with_reducible exact hq | with_reducible refine blk_alloc ?_ _ | with_reducible refine blk_drewN ?_ _ | with_reducible refine blk_drew ?_ | with_reducible refine blk_ne ?_ ?_ _ | (simp; done) | (simp; omega) | omega))

set_option maxRecDepth 100000 in
set_option maxHeartbeats 4000000 in
theorem lkRd2N (r : List UInt8) (rm : Nat) (S R F : Nat) (w : World) (nSR : S ≠ R) (nSF : S ≠ F) (nRF : R ≠ F) (gnS : gN ≤ S) (gnR : gN ≤ R) (hS : SAt w S (112 :: r)) (hR : RAt w R ((rm : Int) + 1)) (hF : FAt w F S R) (hrl : r.length ≤ 100000000000) (hrm : (rm : Int) ≤ 1000) (hb0 : ((rm : Int) + 1 == 0) = false) (hc : cutP r = none) (hG : GOk w) :
    Calls Tryz.prog 79 #[.pointer (some ⟨S, 0, none⟩), .pointer (some ⟨R, 0, none⟩), .pointer (some ⟨F, 0, none⟩)] w (RdPost S R w (none)) := by
  have HG0 := Lib.hid hG
  have nRS := nSR.symm
  have nFS := nSF.symm
  have nFR := nRF.symm
  have HV : Hid (cutTV r = .tuple #[.string (bs []), .string (bs []), .bool false]) := by show cutTV r = _; unfold cutTV; rw [hc]
  have HS0 := Lib.hid hS
  have HR0 := Lib.hid hR
  have HF0 := Lib.hid hF
  clear hS hR hF hG
  go_enter Tryz.func79, Tryz.ntmps79
  have hg0 : GL [S, R] w w := gl_refl _ _
  have hs0 : w.heap.size ≤ w.heap.size := Nat.le_refl _
  have fa1 := blk_cell HS0.out
  have fb1 := blk_free HS0.out
  have fl1 := blk_lt HS0.out
  have fa2 := blk_cell HR0.out
  have fb2 := blk_free HR0.out
  have fl2 := blk_lt HR0.out
  go_wp2_with fail
  clear fa1 fb1 fl1 fa2 fb2 fl2
  have HS1 := Lib.hid (blk_ne HS0.out (p := ⟨R, 0, none⟩) (by first | (simp; done) | (simp; omega)) (.int .i64 rm))
  have HF1 := Lib.hid (blk_ne HF0.out (p := ⟨R, 0, none⟩) (by first | (simp; done) | (simp; omega)) (.int .i64 rm))
  have HG1 := Lib.hid (gok_gl (rs := [R]) HG0.out (gl_set (gl_refl _ _) (p := ⟨R, 0, none⟩) (.inl (by simp)) (.int .i64 rm)) (by first | (simp; done) | (simp; omega)))
  have hg1 : GL [S, R] w (w.setCell ⟨R, 0, none⟩ (.int .i64 rm)) := gl_set hg0 (by first | (left; simp; done) | (right; simp; omega)) _
  have HR1 : Hid (RAt (w.setCell ⟨R, 0, none⟩ (.int .i64 rm)) R rm) := (blk_set HR0.out 0 (.int .i64 rm))
  have HZ1 : Hid ((w.setCell ⟨R, 0, none⟩ (.int .i64 rm)).heap.size = w.heap.size) := by show _ = _; simp [World.setCell]
  generalize (w.setCell ⟨R, 0, none⟩ (.int .i64 rm)) = w1 at *
  have hs1 : w.heap.size ≤ w1.heap.size := hg1.size
  have hle : hszW w ≤ w.heap.size ∧ w.heap.size ≤ hszW w := ⟨Nat.le_refl _, Nat.le_refl _⟩
  have HS2 := Lib.hid (blk_alloc HS1.out (.cells #[.int .u8 0, .string (bs []), .int .i64 0, .slice none 0 0] 25))
  have ltSRS : S < w.heap.size := by have := blk_lt HS1.out; have := HZ1.out; omega
  have neSRS : S ≠ w.heap.size := by omega
  have neRSS : w.heap.size ≠ S := by omega
  have HR2 := Lib.hid (blk_alloc HR1.out (.cells #[.int .u8 0, .string (bs []), .int .i64 0, .slice none 0 0] 25))
  have ltRRS : R < w.heap.size := by have := blk_lt HR1.out; have := HZ1.out; omega
  have neRRS : R ≠ w.heap.size := by omega
  have neRSR : w.heap.size ≠ R := by omega
  have HF2 := Lib.hid (blk_alloc HF1.out (.cells #[.int .u8 0, .string (bs []), .int .i64 0, .slice none 0 0] 25))
  have ltFRS : F < w.heap.size := by have := blk_lt HF1.out; have := HZ1.out; omega
  have neFRS : F ≠ w.heap.size := by omega
  have neRSF : w.heap.size ≠ F := by omega
  have HRS2 : Hid ((w1.alloc (.cells #[.int .u8 0, .string (bs []), .int .i64 0, .slice none 0 0] 25)).heap[w.heap.size]? = some (.cells #[.int .u8 0, .string (bs []), .int .i64 0, .slice none 0 0] 25 (0, 0))) := by
    have h := blk_new w1 (.cells #[.int .u8 0, .string (bs []), .int .i64 0, .slice none 0 0] 25)
    rw [HZ1.out] at h
    exact h
  have HG2 := Lib.hid (gok_alloc HG1.out (.cells #[.int .u8 0, .string (bs []), .int .i64 0, .slice none 0 0] 25))
  have hg2 : GL [S, R] w (w1.alloc (.cells #[.int .u8 0, .string (bs []), .int .i64 0, .slice none 0 0] 25)) := (gl_alloc hg1 (.cells #[.int .u8 0, .string (bs []), .int .i64 0, .slice none 0 0] 25))
  have geRS : w.heap.size ≤ w.heap.size := by have := hg1.size; omega
  have gnRS : gN ≤ w.heap.size := by have := HG1.out.size; omega
  generalize (w1.alloc (.cells #[.int .u8 0, .string (bs []), .int .i64 0, .slice none 0 0] 25)) = w2 at *
  generalize w.heap.size = RS at *
  have hs2 : w.heap.size ≤ w2.heap.size := hg2.size
  have hRSw : w.heap.size ≤ RS := hle.1
  have hRSw2 : RS ≤ w.heap.size := hle.2
  refine (idxByte [32, 115, 112, 97, 111, 38, 124] _ 112 rfl _).mono ?_
  rintro e wq ⟨rfl, hwq⟩
  have hwq2 := hwq.symm
  subst hwq2
  rw [show Lib.indexByte [32, 115, 112, 97, 111, 38, 124] 112 = 2 by decide]
  have fa3 := blk_cell HS2.out
  have fb3 := blk_free HS2.out
  have fl3 := blk_lt HS2.out
  go_wp2_with fail
  clear fa3 fb3 fl3
  have HR3 := Lib.hid (blk_ne HR2.out (p := ⟨S, 0, none⟩) (by first | (simp; done) | (simp; omega)) (.string (bs r)))
  have HF3 := Lib.hid (blk_ne HF2.out (p := ⟨S, 0, none⟩) (by first | (simp; done) | (simp; omega)) (.string (bs r)))
  have HRS3 := Lib.hid (blk_ne HRS2.out (p := ⟨S, 0, none⟩) (by first | (simp; done) | (simp; omega)) (.string (bs r)))
  have HG3 := Lib.hid (gok_gl (rs := [S]) HG2.out (gl_set (gl_refl _ _) (p := ⟨S, 0, none⟩) (.inl (by simp)) (.string (bs r))) (by first | (simp; done) | (simp; omega)))
  have hg3 : GL [S, R] w (w2.setCell ⟨S, 0, none⟩ (.string (bs r))) := gl_set hg2 (by first | (left; simp; done) | (right; simp; omega)) _
  have HS3 : Hid (SAt (w2.setCell ⟨S, 0, none⟩ (.string (bs r))) S r) := (blk_set HS2.out 0 (.string (bs r)))
  have HZ3 : Hid ((w2.setCell ⟨S, 0, none⟩ (.string (bs r))).heap.size = w2.heap.size) := by show _ = _; simp [World.setCell]
  generalize (w2.setCell ⟨S, 0, none⟩ (.string (bs r))) = w3 at *
  have hs3 : w.heap.size ≤ w3.heap.size := hg3.size
  have HS4 := Lib.hid (blk_alloc HS3.out (.cells #[.int .u8 2, .string (bs []), .int .i64 0, .slice none 0 0] 25))
  have ltSLB : S < w2.heap.size := by have := blk_lt HS3.out; have := HZ3.out; omega
  have neSLB : S ≠ w2.heap.size := by omega
  have neLBS : w2.heap.size ≠ S := by omega
  have HR4 := Lib.hid (blk_alloc HR3.out (.cells #[.int .u8 2, .string (bs []), .int .i64 0, .slice none 0 0] 25))
  have ltRLB : R < w2.heap.size := by have := blk_lt HR3.out; have := HZ3.out; omega
  have neRLB : R ≠ w2.heap.size := by omega
  have neLBR : w2.heap.size ≠ R := by omega
  have HF4 := Lib.hid (blk_alloc HF3.out (.cells #[.int .u8 2, .string (bs []), .int .i64 0, .slice none 0 0] 25))
  have ltFLB : F < w2.heap.size := by have := blk_lt HF3.out; have := HZ3.out; omega
  have neFLB : F ≠ w2.heap.size := by omega
  have neLBF : w2.heap.size ≠ F := by omega
  have HRS4 := Lib.hid (blk_alloc HRS3.out (.cells #[.int .u8 2, .string (bs []), .int .i64 0, .slice none 0 0] 25))
  have ltRSLB : RS < w2.heap.size := by have := blk_lt HRS3.out; have := HZ3.out; omega
  have neRSLB : RS ≠ w2.heap.size := by omega
  have neLBRS : w2.heap.size ≠ RS := by omega
  have HLB4 : Hid ((w3.alloc (.cells #[.int .u8 2, .string (bs []), .int .i64 0, .slice none 0 0] 25)).heap[w2.heap.size]? = some (.cells #[.int .u8 2, .string (bs []), .int .i64 0, .slice none 0 0] 25 (0, 0))) := by
    have h := blk_new w3 (.cells #[.int .u8 2, .string (bs []), .int .i64 0, .slice none 0 0] 25)
    rw [HZ3.out] at h
    exact h
  have HG4 := Lib.hid (gok_alloc HG3.out (.cells #[.int .u8 2, .string (bs []), .int .i64 0, .slice none 0 0] 25))
  have hg4 : GL [S, R] w (w3.alloc (.cells #[.int .u8 2, .string (bs []), .int .i64 0, .slice none 0 0] 25)) := (gl_alloc hg3 (.cells #[.int .u8 2, .string (bs []), .int .i64 0, .slice none 0 0] 25))
  have geLB : w.heap.size ≤ w2.heap.size := by have := hg3.size; omega
  have gnLB : gN ≤ w2.heap.size := by have := HG3.out.size; omega
  generalize (w3.alloc (.cells #[.int .u8 2, .string (bs []), .int .i64 0, .slice none 0 0] 25)) = w4 at *
  generalize w2.heap.size = LB at *
  have hs4 : w.heap.size ≤ w4.heap.size := hg4.size
  go_wp2_with fail
  refine (lkCutT r (by omega) _ HG4.out).mono ?_
  rintro e w5 ⟨rfl, hb5⟩
  rw [HV.out]
  have HS5 := Lib.hid (blk_below HS4.out hb5 (blk_lt HS4.out))
  have HR5 := Lib.hid (blk_below HR4.out hb5 (blk_lt HR4.out))
  have HF5 := Lib.hid (blk_below HF4.out hb5 (blk_lt HF4.out))
  have HRS5 := Lib.hid (blk_below HRS4.out hb5 (blk_lt HRS4.out))
  have HLB5 := Lib.hid (blk_below HLB4.out hb5 (blk_lt HLB4.out))
  have HG5 := Lib.hid (gok_below HG4.out hb5)
  have hg5 : GL [S, R] w w5 := gl_below hb5 hg4
  have hs5 : w.heap.size ≤ w5.heap.size := hg5.size
  have fa4 := blk_cell HS5.out
  have fb4 := blk_free HS5.out
  have fl4 := blk_lt HS5.out
  have fa5 := blk_cell HLB5.out
  have fb5 := blk_free HLB5.out
  have fl5 := blk_lt HLB5.out
  have fa6 := blk_cell HRS5.out
  have fb6 := blk_free HRS5.out
  have fl6 := blk_lt HRS5.out
  have hgq := hg5
  go_wp2
  refine bodyPost_ret (v := .tuple #[.agg #[.int .u8 2, .string (bs []), .int .i64 0, .slice none 0 0], .bool false]) (by simp [results, Tryz.results79, go_sem, cell_alloc_lt, fa4, fb4, fl4, fa5, fb5, fl5, fa6, fb6, fl6, neSRS, neRSS, neSLB, neLBS, neRSLB, neLBRS]) rfl ⟨(by (repeat' (first | with_reducible exact gl_refl _ _ | with_reducible assumption | with_reducible refine gl_alloc ?_ _ | with_reducible refine gl_drewN ?_ _ | with_reducible refine gl_drew ?_ | (with_reducible refine gl_setn ?_ ?_ _; · (first | exact Nat.le_refl _ | (simp; done) | (simp; omega) | omega)) | (with_reducible refine gl_seti ?_ ?_ _; · (simp; done)) | with_reducible refine gl_below (by with_reducible assumption) ?_ | with_reducible refine gl_step (by with_reducible assumption) ?_ (by first | (simp; done) | (simp; omega)) | with_reducible refine gl_grown (by with_reducible assumption) ?_ (by first | (simp; done) | (simp; omega))))), _, _, _, _, _, _, rfl⟩

set_option maxRecDepth 100000 in
set_option maxHeartbeats 4000000 in
theorem lkRd2Y (r : List UInt8) (rm : Nat) (S R F : Nat) (w : World) (nSR : S ≠ R) (nSF : S ≠ F) (nRF : R ≠ F) (gnS : gN ≤ S) (gnR : gN ≤ R) (hS : SAt w S (112 :: r)) (hR : RAt w R ((rm : Int) + 1)) (hF : FAt w F S R) (hrl : r.length ≤ 100000000000) (hrm : (rm : Int) ≤ 1000) (hb0 : ((rm : Int) + 1 == 0) = false) (t s2 : List UInt8) (ht : t.length ≤ 100000000000) (hc : cutP r = some (t, s2)) (hG : GOk w) :
    Calls Tryz.prog 79 #[.pointer (some ⟨S, 0, none⟩), .pointer (some ⟨R, 0, none⟩), .pointer (some ⟨F, 0, none⟩)] w (RdPost S R w (some (.mk 2 t 0 [], s2, rm))) := by
  have HG0 := Lib.hid hG
  have nRS := nSR.symm
  have nFS := nSF.symm
  have nFR := nRF.symm
  have HV : Hid (cutTV r = .tuple #[.string (bs t), .string (bs s2), .bool true]) := by show cutTV r = _; unfold cutTV; rw [hc]
  have HS0 := Lib.hid hS
  have HR0 := Lib.hid hR
  have HF0 := Lib.hid hF
  clear hS hR hF hG
  go_enter Tryz.func79, Tryz.ntmps79
  have hg0 : GL [S, R] w w := gl_refl _ _
  have hs0 : w.heap.size ≤ w.heap.size := Nat.le_refl _
  have fa1 := blk_cell HS0.out
  have fb1 := blk_free HS0.out
  have fl1 := blk_lt HS0.out
  have fa2 := blk_cell HR0.out
  have fb2 := blk_free HR0.out
  have fl2 := blk_lt HR0.out
  go_wp2_with fail
  clear fa1 fb1 fl1 fa2 fb2 fl2
  have HS1 := Lib.hid (blk_ne HS0.out (p := ⟨R, 0, none⟩) (by first | (simp; done) | (simp; omega)) (.int .i64 rm))
  have HF1 := Lib.hid (blk_ne HF0.out (p := ⟨R, 0, none⟩) (by first | (simp; done) | (simp; omega)) (.int .i64 rm))
  have HG1 := Lib.hid (gok_gl (rs := [R]) HG0.out (gl_set (gl_refl _ _) (p := ⟨R, 0, none⟩) (.inl (by simp)) (.int .i64 rm)) (by first | (simp; done) | (simp; omega)))
  have hg1 : GL [S, R] w (w.setCell ⟨R, 0, none⟩ (.int .i64 rm)) := gl_set hg0 (by first | (left; simp; done) | (right; simp; omega)) _
  have HR1 : Hid (RAt (w.setCell ⟨R, 0, none⟩ (.int .i64 rm)) R rm) := (blk_set HR0.out 0 (.int .i64 rm))
  have HZ1 : Hid ((w.setCell ⟨R, 0, none⟩ (.int .i64 rm)).heap.size = w.heap.size) := by show _ = _; simp [World.setCell]
  generalize (w.setCell ⟨R, 0, none⟩ (.int .i64 rm)) = w1 at *
  have hs1 : w.heap.size ≤ w1.heap.size := hg1.size
  have hle : hszW w ≤ w.heap.size ∧ w.heap.size ≤ hszW w := ⟨Nat.le_refl _, Nat.le_refl _⟩
  have HS2 := Lib.hid (blk_alloc HS1.out (.cells #[.int .u8 0, .string (bs []), .int .i64 0, .slice none 0 0] 25))
  have ltSRS : S < w.heap.size := by have := blk_lt HS1.out; have := HZ1.out; omega
  have neSRS : S ≠ w.heap.size := by omega
  have neRSS : w.heap.size ≠ S := by omega
  have HR2 := Lib.hid (blk_alloc HR1.out (.cells #[.int .u8 0, .string (bs []), .int .i64 0, .slice none 0 0] 25))
  have ltRRS : R < w.heap.size := by have := blk_lt HR1.out; have := HZ1.out; omega
  have neRRS : R ≠ w.heap.size := by omega
  have neRSR : w.heap.size ≠ R := by omega
  have HF2 := Lib.hid (blk_alloc HF1.out (.cells #[.int .u8 0, .string (bs []), .int .i64 0, .slice none 0 0] 25))
  have ltFRS : F < w.heap.size := by have := blk_lt HF1.out; have := HZ1.out; omega
  have neFRS : F ≠ w.heap.size := by omega
  have neRSF : w.heap.size ≠ F := by omega
  have HRS2 : Hid ((w1.alloc (.cells #[.int .u8 0, .string (bs []), .int .i64 0, .slice none 0 0] 25)).heap[w.heap.size]? = some (.cells #[.int .u8 0, .string (bs []), .int .i64 0, .slice none 0 0] 25 (0, 0))) := by
    have h := blk_new w1 (.cells #[.int .u8 0, .string (bs []), .int .i64 0, .slice none 0 0] 25)
    rw [HZ1.out] at h
    exact h
  have HG2 := Lib.hid (gok_alloc HG1.out (.cells #[.int .u8 0, .string (bs []), .int .i64 0, .slice none 0 0] 25))
  have hg2 : GL [S, R] w (w1.alloc (.cells #[.int .u8 0, .string (bs []), .int .i64 0, .slice none 0 0] 25)) := (gl_alloc hg1 (.cells #[.int .u8 0, .string (bs []), .int .i64 0, .slice none 0 0] 25))
  have geRS : w.heap.size ≤ w.heap.size := by have := hg1.size; omega
  have gnRS : gN ≤ w.heap.size := by have := HG1.out.size; omega
  generalize (w1.alloc (.cells #[.int .u8 0, .string (bs []), .int .i64 0, .slice none 0 0] 25)) = w2 at *
  generalize w.heap.size = RS at *
  have hs2 : w.heap.size ≤ w2.heap.size := hg2.size
  have hRSw : w.heap.size ≤ RS := hle.1
  have hRSw2 : RS ≤ w.heap.size := hle.2
  refine (idxByte [32, 115, 112, 97, 111, 38, 124] _ 112 rfl _).mono ?_
  rintro e wq ⟨rfl, hwq⟩
  have hwq2 := hwq.symm
  subst hwq2
  rw [show Lib.indexByte [32, 115, 112, 97, 111, 38, 124] 112 = 2 by decide]
  have fa3 := blk_cell HS2.out
  have fb3 := blk_free HS2.out
  have fl3 := blk_lt HS2.out
  go_wp2_with fail
  clear fa3 fb3 fl3
  have HR3 := Lib.hid (blk_ne HR2.out (p := ⟨S, 0, none⟩) (by first | (simp; done) | (simp; omega)) (.string (bs r)))
  have HF3 := Lib.hid (blk_ne HF2.out (p := ⟨S, 0, none⟩) (by first | (simp; done) | (simp; omega)) (.string (bs r)))
  have HRS3 := Lib.hid (blk_ne HRS2.out (p := ⟨S, 0, none⟩) (by first | (simp; done) | (simp; omega)) (.string (bs r)))
  have HG3 := Lib.hid (gok_gl (rs := [S]) HG2.out (gl_set (gl_refl _ _) (p := ⟨S, 0, none⟩) (.inl (by simp)) (.string (bs r))) (by first | (simp; done) | (simp; omega)))
  have hg3 : GL [S, R] w (w2.setCell ⟨S, 0, none⟩ (.string (bs r))) := gl_set hg2 (by first | (left; simp; done) | (right; simp; omega)) _
  have HS3 : Hid (SAt (w2.setCell ⟨S, 0, none⟩ (.string (bs r))) S r) := (blk_set HS2.out 0 (.string (bs r)))
  have HZ3 : Hid ((w2.setCell ⟨S, 0, none⟩ (.string (bs r))).heap.size = w2.heap.size) := by show _ = _; simp [World.setCell]
  generalize (w2.setCell ⟨S, 0, none⟩ (.string (bs r))) = w3 at *
  have hs3 : w.heap.size ≤ w3.heap.size := hg3.size
  have HS4 := Lib.hid (blk_alloc HS3.out (.cells #[.int .u8 2, .string (bs []), .int .i64 0, .slice none 0 0] 25))
  have ltSLB : S < w2.heap.size := by have := blk_lt HS3.out; have := HZ3.out; omega
  have neSLB : S ≠ w2.heap.size := by omega
  have neLBS : w2.heap.size ≠ S := by omega
  have HR4 := Lib.hid (blk_alloc HR3.out (.cells #[.int .u8 2, .string (bs []), .int .i64 0, .slice none 0 0] 25))
  have ltRLB : R < w2.heap.size := by have := blk_lt HR3.out; have := HZ3.out; omega
  have neRLB : R ≠ w2.heap.size := by omega
  have neLBR : w2.heap.size ≠ R := by omega
  have HF4 := Lib.hid (blk_alloc HF3.out (.cells #[.int .u8 2, .string (bs []), .int .i64 0, .slice none 0 0] 25))
  have ltFLB : F < w2.heap.size := by have := blk_lt HF3.out; have := HZ3.out; omega
  have neFLB : F ≠ w2.heap.size := by omega
  have neLBF : w2.heap.size ≠ F := by omega
  have HRS4 := Lib.hid (blk_alloc HRS3.out (.cells #[.int .u8 2, .string (bs []), .int .i64 0, .slice none 0 0] 25))
  have ltRSLB : RS < w2.heap.size := by have := blk_lt HRS3.out; have := HZ3.out; omega
  have neRSLB : RS ≠ w2.heap.size := by omega
  have neLBRS : w2.heap.size ≠ RS := by omega
  have HLB4 : Hid ((w3.alloc (.cells #[.int .u8 2, .string (bs []), .int .i64 0, .slice none 0 0] 25)).heap[w2.heap.size]? = some (.cells #[.int .u8 2, .string (bs []), .int .i64 0, .slice none 0 0] 25 (0, 0))) := by
    have h := blk_new w3 (.cells #[.int .u8 2, .string (bs []), .int .i64 0, .slice none 0 0] 25)
    rw [HZ3.out] at h
    exact h
  have HG4 := Lib.hid (gok_alloc HG3.out (.cells #[.int .u8 2, .string (bs []), .int .i64 0, .slice none 0 0] 25))
  have hg4 : GL [S, R] w (w3.alloc (.cells #[.int .u8 2, .string (bs []), .int .i64 0, .slice none 0 0] 25)) := (gl_alloc hg3 (.cells #[.int .u8 2, .string (bs []), .int .i64 0, .slice none 0 0] 25))
  have geLB : w.heap.size ≤ w2.heap.size := by have := hg3.size; omega
  have gnLB : gN ≤ w2.heap.size := by have := HG3.out.size; omega
  generalize (w3.alloc (.cells #[.int .u8 2, .string (bs []), .int .i64 0, .slice none 0 0] 25)) = w4 at *
  generalize w2.heap.size = LB at *
  have hs4 : w.heap.size ≤ w4.heap.size := hg4.size
  go_wp2_with fail
  refine (lkCutT r (by omega) _ HG4.out).mono ?_
  rintro e w5 ⟨rfl, hb5⟩
  rw [HV.out]
  have HS5 := Lib.hid (blk_below HS4.out hb5 (blk_lt HS4.out))
  have HR5 := Lib.hid (blk_below HR4.out hb5 (blk_lt HR4.out))
  have HF5 := Lib.hid (blk_below HF4.out hb5 (blk_lt HF4.out))
  have HRS5 := Lib.hid (blk_below HRS4.out hb5 (blk_lt HRS4.out))
  have HLB5 := Lib.hid (blk_below HLB4.out hb5 (blk_lt HLB4.out))
  have HG5 := Lib.hid (gok_below HG4.out hb5)
  have hg5 : GL [S, R] w w5 := gl_below hb5 hg4
  have hs5 : w.heap.size ≤ w5.heap.size := hg5.size
  have fa4 := blk_cell HS5.out
  have fb4 := blk_free HS5.out
  have fl4 := blk_lt HS5.out
  have fa5 := blk_cell HLB5.out
  have fb5 := blk_free HLB5.out
  have fl5 := blk_lt HLB5.out
  have fa6 := blk_cell HRS5.out
  have fb6 := blk_free HRS5.out
  have fl6 := blk_lt HRS5.out
  have hgq := hg5
  go_wp2
  refine bodyPost_ret (v := .tuple #[.agg #[.int .u8 2, .string (bs t), .int .i64 0, .slice none 0 0], .bool true]) (by simp [results, Tryz.results79, go_sem, cell_alloc_lt, fa4, fb4, fl4, fa5, fb5, fl5, fa6, fb6, fl6, neSRS, neRSS, neSLB, neLBS, neRSLB, neLBRS]) rfl ⟨by (repeat' (first | with_reducible exact gl_refl _ _ | with_reducible assumption | with_reducible refine gl_alloc ?_ _ | with_reducible refine gl_drewN ?_ _ | with_reducible refine gl_drew ?_ | (with_reducible refine gl_setn ?_ ?_ _; · (first | exact Nat.le_refl _ | (simp; done) | (simp; omega) | omega)) | (with_reducible refine gl_seti ?_ ?_ _; · (simp; done)) | with_reducible refine gl_below (by with_reducible assumption) ?_ | with_reducible refine gl_step (by with_reducible assumption) ?_ (by first | (simp; done) | (simp; omega)) | with_reducible refine gl_grown (by with_reducible assumption) ?_ (by first | (simp; done) | (simp; omega)))), _, rfl, ?_, ?_, ?_⟩
  · unfold LockIn
    exact ⟨by omega, by omega, by omega, by simp, _, rfl, .inl ⟨none, 0, rfl, rfl⟩⟩
  · have hq : SAt ((w5.setCell ⟨LB, 1, none⟩ (.string (bs t))).setCell ⟨S, 0, none⟩ (.string (bs s2))) S s2 := blk_set (blk_ne HS5.out (p := ⟨LB, 1, none⟩) (by first | exact neSLB | (simp; omega)) (.string (bs t))) 0 (.string (bs s2))
    unfold SAt at hq ⊢
    (repeat' (first | with_reducible exact hq | with_reducible refine blk_alloc ?_ _ | with_reducible refine blk_drewN ?_ _ | with_reducible refine blk_drew ?_ | with_reducible refine blk_ne ?_ ?_ _ | (simp; done) | (simp; omega) | omega))
  · have hq := HR5.out
    unfold RAt at hq ⊢
    (repeat' (first | with_reducible exact hq | with_reducible refine blk_alloc ?_ _ | with_reducible refine blk_drewN ?_ _ | with_reducible refine blk_drew ?_ | with_reducible refine blk_ne ?_ ?_ _ | (simp; done) | (simp; omega) | omega))

set_option maxRecDepth 100000 in
set_option maxHeartbeats 4000000 in
theorem lkRd3N (r : List UInt8) (rm : Nat) (S R F : Nat) (w : World) (nSR : S ≠ R) (nSF : S ≠ F) (nRF : R ≠ F) (gnS : gN ≤ S) (gnR : gN ≤ R) (hS : SAt w S (97 :: r)) (hR : RAt w R ((rm : Int) + 1)) (hF : FAt w F S R) (hrl : r.length ≤ 100000000000) (hrm : (rm : Int) ≤ 1000) (hb0 : ((rm : Int) + 1 == 0) = false) (hc : numP 59 r = none) (hG : GOk w) :
    Calls Tryz.prog 79 #[.pointer (some ⟨S, 0, none⟩), .pointer (some ⟨R, 0, none⟩), .pointer (some ⟨F, 0, none⟩)] w (RdPost S R w (none)) := by
  have HG0 := Lib.hid hG
  have nRS := nSR.symm
  have nFS := nSF.symm
  have nFR := nRF.symm
  have HV := Lib.hid (numV_none hc)
  have HS0 := Lib.hid hS
  have HR0 := Lib.hid hR
  have HF0 := Lib.hid hF
  clear hS hR hF hG
  go_enter Tryz.func79, Tryz.ntmps79
  have hg0 : GL [S, R] w w := gl_refl _ _
  have hs0 : w.heap.size ≤ w.heap.size := Nat.le_refl _
  have fa1 := blk_cell HS0.out
  have fb1 := blk_free HS0.out
  have fl1 := blk_lt HS0.out
  have fa2 := blk_cell HR0.out
  have fb2 := blk_free HR0.out
  have fl2 := blk_lt HR0.out
  go_wp2_with fail
  clear fa1 fb1 fl1 fa2 fb2 fl2
  have HS1 := Lib.hid (blk_ne HS0.out (p := ⟨R, 0, none⟩) (by first | (simp; done) | (simp; omega)) (.int .i64 rm))
  have HF1 := Lib.hid (blk_ne HF0.out (p := ⟨R, 0, none⟩) (by first | (simp; done) | (simp; omega)) (.int .i64 rm))
  have HG1 := Lib.hid (gok_gl (rs := [R]) HG0.out (gl_set (gl_refl _ _) (p := ⟨R, 0, none⟩) (.inl (by simp)) (.int .i64 rm)) (by first | (simp; done) | (simp; omega)))
  have hg1 : GL [S, R] w (w.setCell ⟨R, 0, none⟩ (.int .i64 rm)) := gl_set hg0 (by first | (left; simp; done) | (right; simp; omega)) _
  have HR1 : Hid (RAt (w.setCell ⟨R, 0, none⟩ (.int .i64 rm)) R rm) := (blk_set HR0.out 0 (.int .i64 rm))
  have HZ1 : Hid ((w.setCell ⟨R, 0, none⟩ (.int .i64 rm)).heap.size = w.heap.size) := by show _ = _; simp [World.setCell]
  generalize (w.setCell ⟨R, 0, none⟩ (.int .i64 rm)) = w1 at *
  have hs1 : w.heap.size ≤ w1.heap.size := hg1.size
  have hle : hszW w ≤ w.heap.size ∧ w.heap.size ≤ hszW w := ⟨Nat.le_refl _, Nat.le_refl _⟩
  have HS2 := Lib.hid (blk_alloc HS1.out (.cells #[.int .u8 0, .string (bs []), .int .i64 0, .slice none 0 0] 25))
  have ltSRS : S < w.heap.size := by have := blk_lt HS1.out; have := HZ1.out; omega
  have neSRS : S ≠ w.heap.size := by omega
  have neRSS : w.heap.size ≠ S := by omega
  have HR2 := Lib.hid (blk_alloc HR1.out (.cells #[.int .u8 0, .string (bs []), .int .i64 0, .slice none 0 0] 25))
  have ltRRS : R < w.heap.size := by have := blk_lt HR1.out; have := HZ1.out; omega
  have neRRS : R ≠ w.heap.size := by omega
  have neRSR : w.heap.size ≠ R := by omega
  have HF2 := Lib.hid (blk_alloc HF1.out (.cells #[.int .u8 0, .string (bs []), .int .i64 0, .slice none 0 0] 25))
  have ltFRS : F < w.heap.size := by have := blk_lt HF1.out; have := HZ1.out; omega
  have neFRS : F ≠ w.heap.size := by omega
  have neRSF : w.heap.size ≠ F := by omega
  have HRS2 : Hid ((w1.alloc (.cells #[.int .u8 0, .string (bs []), .int .i64 0, .slice none 0 0] 25)).heap[w.heap.size]? = some (.cells #[.int .u8 0, .string (bs []), .int .i64 0, .slice none 0 0] 25 (0, 0))) := by
    have h := blk_new w1 (.cells #[.int .u8 0, .string (bs []), .int .i64 0, .slice none 0 0] 25)
    rw [HZ1.out] at h
    exact h
  have HG2 := Lib.hid (gok_alloc HG1.out (.cells #[.int .u8 0, .string (bs []), .int .i64 0, .slice none 0 0] 25))
  have hg2 : GL [S, R] w (w1.alloc (.cells #[.int .u8 0, .string (bs []), .int .i64 0, .slice none 0 0] 25)) := (gl_alloc hg1 (.cells #[.int .u8 0, .string (bs []), .int .i64 0, .slice none 0 0] 25))
  have geRS : w.heap.size ≤ w.heap.size := by have := hg1.size; omega
  have gnRS : gN ≤ w.heap.size := by have := HG1.out.size; omega
  generalize (w1.alloc (.cells #[.int .u8 0, .string (bs []), .int .i64 0, .slice none 0 0] 25)) = w2 at *
  generalize w.heap.size = RS at *
  have hs2 : w.heap.size ≤ w2.heap.size := hg2.size
  have hRSw : w.heap.size ≤ RS := hle.1
  have hRSw2 : RS ≤ w.heap.size := hle.2
  refine (idxByte [32, 115, 112, 97, 111, 38, 124] _ 97 rfl _).mono ?_
  rintro e wq ⟨rfl, hwq⟩
  have hwq2 := hwq.symm
  subst hwq2
  rw [show Lib.indexByte [32, 115, 112, 97, 111, 38, 124] 97 = 3 by decide]
  have fa3 := blk_cell HS2.out
  have fb3 := blk_free HS2.out
  have fl3 := blk_lt HS2.out
  go_wp2_with fail
  clear fa3 fb3 fl3
  have HR3 := Lib.hid (blk_ne HR2.out (p := ⟨S, 0, none⟩) (by first | (simp; done) | (simp; omega)) (.string (bs r)))
  have HF3 := Lib.hid (blk_ne HF2.out (p := ⟨S, 0, none⟩) (by first | (simp; done) | (simp; omega)) (.string (bs r)))
  have HRS3 := Lib.hid (blk_ne HRS2.out (p := ⟨S, 0, none⟩) (by first | (simp; done) | (simp; omega)) (.string (bs r)))
  have HG3 := Lib.hid (gok_gl (rs := [S]) HG2.out (gl_set (gl_refl _ _) (p := ⟨S, 0, none⟩) (.inl (by simp)) (.string (bs r))) (by first | (simp; done) | (simp; omega)))
  have hg3 : GL [S, R] w (w2.setCell ⟨S, 0, none⟩ (.string (bs r))) := gl_set hg2 (by first | (left; simp; done) | (right; simp; omega)) _
  have HS3 : Hid (SAt (w2.setCell ⟨S, 0, none⟩ (.string (bs r))) S r) := (blk_set HS2.out 0 (.string (bs r)))
  have HZ3 : Hid ((w2.setCell ⟨S, 0, none⟩ (.string (bs r))).heap.size = w2.heap.size) := by show _ = _; simp [World.setCell]
  generalize (w2.setCell ⟨S, 0, none⟩ (.string (bs r))) = w3 at *
  have hs3 : w.heap.size ≤ w3.heap.size := hg3.size
  have HS4 := Lib.hid (blk_alloc HS3.out (.cells #[.int .u8 3, .string (bs []), .int .i64 0, .slice none 0 0] 25))
  have ltSLB : S < w2.heap.size := by have := blk_lt HS3.out; have := HZ3.out; omega
  have neSLB : S ≠ w2.heap.size := by omega
  have neLBS : w2.heap.size ≠ S := by omega
  have HR4 := Lib.hid (blk_alloc HR3.out (.cells #[.int .u8 3, .string (bs []), .int .i64 0, .slice none 0 0] 25))
  have ltRLB : R < w2.heap.size := by have := blk_lt HR3.out; have := HZ3.out; omega
  have neRLB : R ≠ w2.heap.size := by omega
  have neLBR : w2.heap.size ≠ R := by omega
  have HF4 := Lib.hid (blk_alloc HF3.out (.cells #[.int .u8 3, .string (bs []), .int .i64 0, .slice none 0 0] 25))
  have ltFLB : F < w2.heap.size := by have := blk_lt HF3.out; have := HZ3.out; omega
  have neFLB : F ≠ w2.heap.size := by omega
  have neLBF : w2.heap.size ≠ F := by omega
  have HRS4 := Lib.hid (blk_alloc HRS3.out (.cells #[.int .u8 3, .string (bs []), .int .i64 0, .slice none 0 0] 25))
  have ltRSLB : RS < w2.heap.size := by have := blk_lt HRS3.out; have := HZ3.out; omega
  have neRSLB : RS ≠ w2.heap.size := by omega
  have neLBRS : w2.heap.size ≠ RS := by omega
  have HLB4 : Hid ((w3.alloc (.cells #[.int .u8 3, .string (bs []), .int .i64 0, .slice none 0 0] 25)).heap[w2.heap.size]? = some (.cells #[.int .u8 3, .string (bs []), .int .i64 0, .slice none 0 0] 25 (0, 0))) := by
    have h := blk_new w3 (.cells #[.int .u8 3, .string (bs []), .int .i64 0, .slice none 0 0] 25)
    rw [HZ3.out] at h
    exact h
  have HG4 := Lib.hid (gok_alloc HG3.out (.cells #[.int .u8 3, .string (bs []), .int .i64 0, .slice none 0 0] 25))
  have hg4 : GL [S, R] w (w3.alloc (.cells #[.int .u8 3, .string (bs []), .int .i64 0, .slice none 0 0] 25)) := (gl_alloc hg3 (.cells #[.int .u8 3, .string (bs []), .int .i64 0, .slice none 0 0] 25))
  have geLB : w.heap.size ≤ w2.heap.size := by have := hg3.size; omega
  have gnLB : gN ≤ w2.heap.size := by have := HG3.out.size; omega
  generalize (w3.alloc (.cells #[.int .u8 3, .string (bs []), .int .i64 0, .slice none 0 0] 25)) = w4 at *
  generalize w2.heap.size = LB at *
  have hs4 : w.heap.size ≤ w4.heap.size := hg4.size
  go_wp2_with fail
  refine (lkNumber 59 r (by omega) _ HG4.out).mono ?_
  rintro e w5 ⟨rfl, hb5⟩
  rw [HV.out]
  have HS5 := Lib.hid (blk_below HS4.out hb5 (blk_lt HS4.out))
  have HR5 := Lib.hid (blk_below HR4.out hb5 (blk_lt HR4.out))
  have HF5 := Lib.hid (blk_below HF4.out hb5 (blk_lt HF4.out))
  have HRS5 := Lib.hid (blk_below HRS4.out hb5 (blk_lt HRS4.out))
  have HLB5 := Lib.hid (blk_below HLB4.out hb5 (blk_lt HLB4.out))
  have HG5 := Lib.hid (gok_below HG4.out hb5)
  have hg5 : GL [S, R] w w5 := gl_below hb5 hg4
  have hs5 : w.heap.size ≤ w5.heap.size := hg5.size
  have fa4 := blk_cell HS5.out
  have fb4 := blk_free HS5.out
  have fl4 := blk_lt HS5.out
  have fa5 := blk_cell HLB5.out
  have fb5 := blk_free HLB5.out
  have fl5 := blk_lt HLB5.out
  have fa6 := blk_cell HRS5.out
  have fb6 := blk_free HRS5.out
  have fl6 := blk_lt HRS5.out
  have hgq := hg5
  go_wp2
  refine bodyPost_ret (v := .tuple #[.agg #[.int .u8 3, .string (bs []), .int .i64 0, .slice none 0 0], .bool false]) (by simp [results, Tryz.results79, go_sem, cell_alloc_lt, fa4, fb4, fl4, fa5, fb5, fl5, fa6, fb6, fl6, neSRS, neRSS, neSLB, neLBS, neRSLB, neLBRS]) rfl ⟨(by (repeat' (first | with_reducible exact gl_refl _ _ | with_reducible assumption | with_reducible refine gl_alloc ?_ _ | with_reducible refine gl_drewN ?_ _ | with_reducible refine gl_drew ?_ | (with_reducible refine gl_setn ?_ ?_ _; · (first | exact Nat.le_refl _ | (simp; done) | (simp; omega) | omega)) | (with_reducible refine gl_seti ?_ ?_ _; · (simp; done)) | with_reducible refine gl_below (by with_reducible assumption) ?_ | with_reducible refine gl_step (by with_reducible assumption) ?_ (by first | (simp; done) | (simp; omega)) | with_reducible refine gl_grown (by with_reducible assumption) ?_ (by first | (simp; done) | (simp; omega))))), _, _, _, _, _, _, rfl⟩

set_option maxRecDepth 100000 in
set_option maxHeartbeats 4000000 in
theorem lkRd3Y (r : List UInt8) (rm : Nat) (S R F : Nat) (w : World) (nSR : S ≠ R) (nSF : S ≠ F) (nRF : R ≠ F) (gnS : gN ≤ S) (gnR : gN ≤ R) (hS : SAt w S (97 :: r)) (hR : RAt w R ((rm : Int) + 1)) (hF : FAt w F S R) (hrl : r.length ≤ 100000000000) (hrm : (rm : Int) ≤ 1000) (hb0 : ((rm : Int) + 1 == 0) = false) (n : Nat) (s2 : List UInt8) (hc : numP 59 r = some (n, s2)) (hG : GOk w) :
    Calls Tryz.prog 79 #[.pointer (some ⟨S, 0, none⟩), .pointer (some ⟨R, 0, none⟩), .pointer (some ⟨F, 0, none⟩)] w (RdPost S R w (some (.mk 3 [] n [], s2, rm))) := by
  have HG0 := Lib.hid hG
  have nRS := nSR.symm
  have nFS := nSF.symm
  have nFR := nRF.symm
  have HV := Lib.hid (numV_some hc)
  have hn := (numP_back hc).2
  have HS0 := Lib.hid hS
  have HR0 := Lib.hid hR
  have HF0 := Lib.hid hF
  clear hS hR hF hG
  go_enter Tryz.func79, Tryz.ntmps79
  have hg0 : GL [S, R] w w := gl_refl _ _
  have hs0 : w.heap.size ≤ w.heap.size := Nat.le_refl _
  have fa1 := blk_cell HS0.out
  have fb1 := blk_free HS0.out
  have fl1 := blk_lt HS0.out
  have fa2 := blk_cell HR0.out
  have fb2 := blk_free HR0.out
  have fl2 := blk_lt HR0.out
  go_wp2_with fail
  clear fa1 fb1 fl1 fa2 fb2 fl2
  have HS1 := Lib.hid (blk_ne HS0.out (p := ⟨R, 0, none⟩) (by first | (simp; done) | (simp; omega)) (.int .i64 rm))
  have HF1 := Lib.hid (blk_ne HF0.out (p := ⟨R, 0, none⟩) (by first | (simp; done) | (simp; omega)) (.int .i64 rm))
  have HG1 := Lib.hid (gok_gl (rs := [R]) HG0.out (gl_set (gl_refl _ _) (p := ⟨R, 0, none⟩) (.inl (by simp)) (.int .i64 rm)) (by first | (simp; done) | (simp; omega)))
  have hg1 : GL [S, R] w (w.setCell ⟨R, 0, none⟩ (.int .i64 rm)) := gl_set hg0 (by first | (left; simp; done) | (right; simp; omega)) _
  have HR1 : Hid (RAt (w.setCell ⟨R, 0, none⟩ (.int .i64 rm)) R rm) := (blk_set HR0.out 0 (.int .i64 rm))
  have HZ1 : Hid ((w.setCell ⟨R, 0, none⟩ (.int .i64 rm)).heap.size = w.heap.size) := by show _ = _; simp [World.setCell]
  generalize (w.setCell ⟨R, 0, none⟩ (.int .i64 rm)) = w1 at *
  have hs1 : w.heap.size ≤ w1.heap.size := hg1.size
  have hle : hszW w ≤ w.heap.size ∧ w.heap.size ≤ hszW w := ⟨Nat.le_refl _, Nat.le_refl _⟩
  have HS2 := Lib.hid (blk_alloc HS1.out (.cells #[.int .u8 0, .string (bs []), .int .i64 0, .slice none 0 0] 25))
  have ltSRS : S < w.heap.size := by have := blk_lt HS1.out; have := HZ1.out; omega
  have neSRS : S ≠ w.heap.size := by omega
  have neRSS : w.heap.size ≠ S := by omega
  have HR2 := Lib.hid (blk_alloc HR1.out (.cells #[.int .u8 0, .string (bs []), .int .i64 0, .slice none 0 0] 25))
  have ltRRS : R < w.heap.size := by have := blk_lt HR1.out; have := HZ1.out; omega
  have neRRS : R ≠ w.heap.size := by omega
  have neRSR : w.heap.size ≠ R := by omega
  have HF2 := Lib.hid (blk_alloc HF1.out (.cells #[.int .u8 0, .string (bs []), .int .i64 0, .slice none 0 0] 25))
  have ltFRS : F < w.heap.size := by have := blk_lt HF1.out; have := HZ1.out; omega
  have neFRS : F ≠ w.heap.size := by omega
  have neRSF : w.heap.size ≠ F := by omega
  have HRS2 : Hid ((w1.alloc (.cells #[.int .u8 0, .string (bs []), .int .i64 0, .slice none 0 0] 25)).heap[w.heap.size]? = some (.cells #[.int .u8 0, .string (bs []), .int .i64 0, .slice none 0 0] 25 (0, 0))) := by
    have h := blk_new w1 (.cells #[.int .u8 0, .string (bs []), .int .i64 0, .slice none 0 0] 25)
    rw [HZ1.out] at h
    exact h
  have HG2 := Lib.hid (gok_alloc HG1.out (.cells #[.int .u8 0, .string (bs []), .int .i64 0, .slice none 0 0] 25))
  have hg2 : GL [S, R] w (w1.alloc (.cells #[.int .u8 0, .string (bs []), .int .i64 0, .slice none 0 0] 25)) := (gl_alloc hg1 (.cells #[.int .u8 0, .string (bs []), .int .i64 0, .slice none 0 0] 25))
  have geRS : w.heap.size ≤ w.heap.size := by have := hg1.size; omega
  have gnRS : gN ≤ w.heap.size := by have := HG1.out.size; omega
  generalize (w1.alloc (.cells #[.int .u8 0, .string (bs []), .int .i64 0, .slice none 0 0] 25)) = w2 at *
  generalize w.heap.size = RS at *
  have hs2 : w.heap.size ≤ w2.heap.size := hg2.size
  have hRSw : w.heap.size ≤ RS := hle.1
  have hRSw2 : RS ≤ w.heap.size := hle.2
  refine (idxByte [32, 115, 112, 97, 111, 38, 124] _ 97 rfl _).mono ?_
  rintro e wq ⟨rfl, hwq⟩
  have hwq2 := hwq.symm
  subst hwq2
  rw [show Lib.indexByte [32, 115, 112, 97, 111, 38, 124] 97 = 3 by decide]
  have fa3 := blk_cell HS2.out
  have fb3 := blk_free HS2.out
  have fl3 := blk_lt HS2.out
  go_wp2_with fail
  clear fa3 fb3 fl3
  have HR3 := Lib.hid (blk_ne HR2.out (p := ⟨S, 0, none⟩) (by first | (simp; done) | (simp; omega)) (.string (bs r)))
  have HF3 := Lib.hid (blk_ne HF2.out (p := ⟨S, 0, none⟩) (by first | (simp; done) | (simp; omega)) (.string (bs r)))
  have HRS3 := Lib.hid (blk_ne HRS2.out (p := ⟨S, 0, none⟩) (by first | (simp; done) | (simp; omega)) (.string (bs r)))
  have HG3 := Lib.hid (gok_gl (rs := [S]) HG2.out (gl_set (gl_refl _ _) (p := ⟨S, 0, none⟩) (.inl (by simp)) (.string (bs r))) (by first | (simp; done) | (simp; omega)))
  have hg3 : GL [S, R] w (w2.setCell ⟨S, 0, none⟩ (.string (bs r))) := gl_set hg2 (by first | (left; simp; done) | (right; simp; omega)) _
  have HS3 : Hid (SAt (w2.setCell ⟨S, 0, none⟩ (.string (bs r))) S r) := (blk_set HS2.out 0 (.string (bs r)))
  have HZ3 : Hid ((w2.setCell ⟨S, 0, none⟩ (.string (bs r))).heap.size = w2.heap.size) := by show _ = _; simp [World.setCell]
  generalize (w2.setCell ⟨S, 0, none⟩ (.string (bs r))) = w3 at *
  have hs3 : w.heap.size ≤ w3.heap.size := hg3.size
  have HS4 := Lib.hid (blk_alloc HS3.out (.cells #[.int .u8 3, .string (bs []), .int .i64 0, .slice none 0 0] 25))
  have ltSLB : S < w2.heap.size := by have := blk_lt HS3.out; have := HZ3.out; omega
  have neSLB : S ≠ w2.heap.size := by omega
  have neLBS : w2.heap.size ≠ S := by omega
  have HR4 := Lib.hid (blk_alloc HR3.out (.cells #[.int .u8 3, .string (bs []), .int .i64 0, .slice none 0 0] 25))
  have ltRLB : R < w2.heap.size := by have := blk_lt HR3.out; have := HZ3.out; omega
  have neRLB : R ≠ w2.heap.size := by omega
  have neLBR : w2.heap.size ≠ R := by omega
  have HF4 := Lib.hid (blk_alloc HF3.out (.cells #[.int .u8 3, .string (bs []), .int .i64 0, .slice none 0 0] 25))
  have ltFLB : F < w2.heap.size := by have := blk_lt HF3.out; have := HZ3.out; omega
  have neFLB : F ≠ w2.heap.size := by omega
  have neLBF : w2.heap.size ≠ F := by omega
  have HRS4 := Lib.hid (blk_alloc HRS3.out (.cells #[.int .u8 3, .string (bs []), .int .i64 0, .slice none 0 0] 25))
  have ltRSLB : RS < w2.heap.size := by have := blk_lt HRS3.out; have := HZ3.out; omega
  have neRSLB : RS ≠ w2.heap.size := by omega
  have neLBRS : w2.heap.size ≠ RS := by omega
  have HLB4 : Hid ((w3.alloc (.cells #[.int .u8 3, .string (bs []), .int .i64 0, .slice none 0 0] 25)).heap[w2.heap.size]? = some (.cells #[.int .u8 3, .string (bs []), .int .i64 0, .slice none 0 0] 25 (0, 0))) := by
    have h := blk_new w3 (.cells #[.int .u8 3, .string (bs []), .int .i64 0, .slice none 0 0] 25)
    rw [HZ3.out] at h
    exact h
  have HG4 := Lib.hid (gok_alloc HG3.out (.cells #[.int .u8 3, .string (bs []), .int .i64 0, .slice none 0 0] 25))
  have hg4 : GL [S, R] w (w3.alloc (.cells #[.int .u8 3, .string (bs []), .int .i64 0, .slice none 0 0] 25)) := (gl_alloc hg3 (.cells #[.int .u8 3, .string (bs []), .int .i64 0, .slice none 0 0] 25))
  have geLB : w.heap.size ≤ w2.heap.size := by have := hg3.size; omega
  have gnLB : gN ≤ w2.heap.size := by have := HG3.out.size; omega
  generalize (w3.alloc (.cells #[.int .u8 3, .string (bs []), .int .i64 0, .slice none 0 0] 25)) = w4 at *
  generalize w2.heap.size = LB at *
  have hs4 : w.heap.size ≤ w4.heap.size := hg4.size
  go_wp2_with fail
  refine (lkNumber 59 r (by omega) _ HG4.out).mono ?_
  rintro e w5 ⟨rfl, hb5⟩
  rw [HV.out]
  have HS5 := Lib.hid (blk_below HS4.out hb5 (blk_lt HS4.out))
  have HR5 := Lib.hid (blk_below HR4.out hb5 (blk_lt HR4.out))
  have HF5 := Lib.hid (blk_below HF4.out hb5 (blk_lt HF4.out))
  have HRS5 := Lib.hid (blk_below HRS4.out hb5 (blk_lt HRS4.out))
  have HLB5 := Lib.hid (blk_below HLB4.out hb5 (blk_lt HLB4.out))
  have HG5 := Lib.hid (gok_below HG4.out hb5)
  have hg5 : GL [S, R] w w5 := gl_below hb5 hg4
  have hs5 : w.heap.size ≤ w5.heap.size := hg5.size
  have fa4 := blk_cell HS5.out
  have fb4 := blk_free HS5.out
  have fl4 := blk_lt HS5.out
  have fa5 := blk_cell HLB5.out
  have fb5 := blk_free HLB5.out
  have fl5 := blk_lt HLB5.out
  have fa6 := blk_cell HRS5.out
  have fb6 := blk_free HRS5.out
  have fl6 := blk_lt HRS5.out
  have hgq := hg5
  go_wp2
  refine bodyPost_ret (v := .tuple #[.agg #[.int .u8 3, .string (bs []), .int .i64 n, .slice none 0 0], .bool true]) (by simp [results, Tryz.results79, go_sem, cell_alloc_lt, fa4, fb4, fl4, fa5, fb5, fl5, fa6, fb6, fl6, neSRS, neRSS, neSLB, neLBS, neRSLB, neLBRS]) rfl ⟨by (repeat' (first | with_reducible exact gl_refl _ _ | with_reducible assumption | with_reducible refine gl_alloc ?_ _ | with_reducible refine gl_drewN ?_ _ | with_reducible refine gl_drew ?_ | (with_reducible refine gl_setn ?_ ?_ _; · (first | exact Nat.le_refl _ | (simp; done) | (simp; omega) | omega)) | (with_reducible refine gl_seti ?_ ?_ _; · (simp; done)) | with_reducible refine gl_below (by with_reducible assumption) ?_ | with_reducible refine gl_step (by with_reducible assumption) ?_ (by first | (simp; done) | (simp; omega)) | with_reducible refine gl_grown (by with_reducible assumption) ?_ (by first | (simp; done) | (simp; omega)))), _, rfl, ?_, ?_, ?_⟩
  · unfold LockIn
    exact ⟨by omega, by omega, by simp, by simp, _, rfl, .inl ⟨none, 0, rfl, rfl⟩⟩
  · have hq : SAt ((w5.setCell ⟨LB, 2, none⟩ (.int .i64 n)).setCell ⟨S, 0, none⟩ (.string (bs s2))) S s2 := blk_set (blk_ne HS5.out (p := ⟨LB, 2, none⟩) (by first | exact neSLB | (simp; omega)) (.int .i64 n)) 0 (.string (bs s2))
    unfold SAt at hq ⊢
    (repeat' (first | with_reducible exact hq | with_reducible refine blk_alloc ?_ _ | with_reducible refine blk_drewN ?_ _ | with_reducible refine blk_drew ?_ | with_reducible refine blk_ne ?_ ?_ _ | (simp; done) | (simp; omega) | omega))
  · have hq := HR5.out
    unfold RAt at hq ⊢
    (repeat' (first | with_reducible exact hq | with_reducible refine blk_alloc ?_ _ | with_reducible refine blk_drewN ?_ _ | with_reducible refine blk_drew ?_ | with_reducible refine blk_ne ?_ ?_ _ | (simp; done) | (simp; omega) | omega))

set_option maxRecDepth 100000 in
set_option maxHeartbeats 4000000 in
theorem lkRd4N (r : List UInt8) (rm : Nat) (S R F : Nat) (w : World) (nSR : S ≠ R) (nSF : S ≠ F) (nRF : R ≠ F) (gnS : gN ≤ S) (gnR : gN ≤ R) (hS : SAt w S (111 :: r)) (hR : RAt w R ((rm : Int) + 1)) (hF : FAt w F S R) (hrl : r.length ≤ 100000000000) (hrm : (rm : Int) ≤ 1000) (hb0 : ((rm : Int) + 1 == 0) = false) (hc : numP 59 r = none) (hG : GOk w) :
    Calls Tryz.prog 79 #[.pointer (some ⟨S, 0, none⟩), .pointer (some ⟨R, 0, none⟩), .pointer (some ⟨F, 0, none⟩)] w (RdPost S R w (none)) := by
  have HG0 := Lib.hid hG
  have nRS := nSR.symm
  have nFS := nSF.symm
  have nFR := nRF.symm
  have HV := Lib.hid (numV_none hc)
  have HS0 := Lib.hid hS
  have HR0 := Lib.hid hR
  have HF0 := Lib.hid hF
  clear hS hR hF hG
  go_enter Tryz.func79, Tryz.ntmps79
  have hg0 : GL [S, R] w w := gl_refl _ _
  have hs0 : w.heap.size ≤ w.heap.size := Nat.le_refl _
  have fa1 := blk_cell HS0.out
  have fb1 := blk_free HS0.out
  have fl1 := blk_lt HS0.out
  have fa2 := blk_cell HR0.out
  have fb2 := blk_free HR0.out
  have fl2 := blk_lt HR0.out
  go_wp2_with fail
  clear fa1 fb1 fl1 fa2 fb2 fl2
  have HS1 := Lib.hid (blk_ne HS0.out (p := ⟨R, 0, none⟩) (by first | (simp; done) | (simp; omega)) (.int .i64 rm))
  have HF1 := Lib.hid (blk_ne HF0.out (p := ⟨R, 0, none⟩) (by first | (simp; done) | (simp; omega)) (.int .i64 rm))
  have HG1 := Lib.hid (gok_gl (rs := [R]) HG0.out (gl_set (gl_refl _ _) (p := ⟨R, 0, none⟩) (.inl (by simp)) (.int .i64 rm)) (by first | (simp; done) | (simp; omega)))
  have hg1 : GL [S, R] w (w.setCell ⟨R, 0, none⟩ (.int .i64 rm)) := gl_set hg0 (by first | (left; simp; done) | (right; simp; omega)) _
  have HR1 : Hid (RAt (w.setCell ⟨R, 0, none⟩ (.int .i64 rm)) R rm) := (blk_set HR0.out 0 (.int .i64 rm))
  have HZ1 : Hid ((w.setCell ⟨R, 0, none⟩ (.int .i64 rm)).heap.size = w.heap.size) := by show _ = _; simp [World.setCell]
  generalize (w.setCell ⟨R, 0, none⟩ (.int .i64 rm)) = w1 at *
  have hs1 : w.heap.size ≤ w1.heap.size := hg1.size
  have hle : hszW w ≤ w.heap.size ∧ w.heap.size ≤ hszW w := ⟨Nat.le_refl _, Nat.le_refl _⟩
  have HS2 := Lib.hid (blk_alloc HS1.out (.cells #[.int .u8 0, .string (bs []), .int .i64 0, .slice none 0 0] 25))
  have ltSRS : S < w.heap.size := by have := blk_lt HS1.out; have := HZ1.out; omega
  have neSRS : S ≠ w.heap.size := by omega
  have neRSS : w.heap.size ≠ S := by omega
  have HR2 := Lib.hid (blk_alloc HR1.out (.cells #[.int .u8 0, .string (bs []), .int .i64 0, .slice none 0 0] 25))
  have ltRRS : R < w.heap.size := by have := blk_lt HR1.out; have := HZ1.out; omega
  have neRRS : R ≠ w.heap.size := by omega
  have neRSR : w.heap.size ≠ R := by omega
  have HF2 := Lib.hid (blk_alloc HF1.out (.cells #[.int .u8 0, .string (bs []), .int .i64 0, .slice none 0 0] 25))
  have ltFRS : F < w.heap.size := by have := blk_lt HF1.out; have := HZ1.out; omega
  have neFRS : F ≠ w.heap.size := by omega
  have neRSF : w.heap.size ≠ F := by omega
  have HRS2 : Hid ((w1.alloc (.cells #[.int .u8 0, .string (bs []), .int .i64 0, .slice none 0 0] 25)).heap[w.heap.size]? = some (.cells #[.int .u8 0, .string (bs []), .int .i64 0, .slice none 0 0] 25 (0, 0))) := by
    have h := blk_new w1 (.cells #[.int .u8 0, .string (bs []), .int .i64 0, .slice none 0 0] 25)
    rw [HZ1.out] at h
    exact h
  have HG2 := Lib.hid (gok_alloc HG1.out (.cells #[.int .u8 0, .string (bs []), .int .i64 0, .slice none 0 0] 25))
  have hg2 : GL [S, R] w (w1.alloc (.cells #[.int .u8 0, .string (bs []), .int .i64 0, .slice none 0 0] 25)) := (gl_alloc hg1 (.cells #[.int .u8 0, .string (bs []), .int .i64 0, .slice none 0 0] 25))
  have geRS : w.heap.size ≤ w.heap.size := by have := hg1.size; omega
  have gnRS : gN ≤ w.heap.size := by have := HG1.out.size; omega
  generalize (w1.alloc (.cells #[.int .u8 0, .string (bs []), .int .i64 0, .slice none 0 0] 25)) = w2 at *
  generalize w.heap.size = RS at *
  have hs2 : w.heap.size ≤ w2.heap.size := hg2.size
  have hRSw : w.heap.size ≤ RS := hle.1
  have hRSw2 : RS ≤ w.heap.size := hle.2
  refine (idxByte [32, 115, 112, 97, 111, 38, 124] _ 111 rfl _).mono ?_
  rintro e wq ⟨rfl, hwq⟩
  have hwq2 := hwq.symm
  subst hwq2
  rw [show Lib.indexByte [32, 115, 112, 97, 111, 38, 124] 111 = 4 by decide]
  have fa3 := blk_cell HS2.out
  have fb3 := blk_free HS2.out
  have fl3 := blk_lt HS2.out
  go_wp2_with fail
  clear fa3 fb3 fl3
  have HR3 := Lib.hid (blk_ne HR2.out (p := ⟨S, 0, none⟩) (by first | (simp; done) | (simp; omega)) (.string (bs r)))
  have HF3 := Lib.hid (blk_ne HF2.out (p := ⟨S, 0, none⟩) (by first | (simp; done) | (simp; omega)) (.string (bs r)))
  have HRS3 := Lib.hid (blk_ne HRS2.out (p := ⟨S, 0, none⟩) (by first | (simp; done) | (simp; omega)) (.string (bs r)))
  have HG3 := Lib.hid (gok_gl (rs := [S]) HG2.out (gl_set (gl_refl _ _) (p := ⟨S, 0, none⟩) (.inl (by simp)) (.string (bs r))) (by first | (simp; done) | (simp; omega)))
  have hg3 : GL [S, R] w (w2.setCell ⟨S, 0, none⟩ (.string (bs r))) := gl_set hg2 (by first | (left; simp; done) | (right; simp; omega)) _
  have HS3 : Hid (SAt (w2.setCell ⟨S, 0, none⟩ (.string (bs r))) S r) := (blk_set HS2.out 0 (.string (bs r)))
  have HZ3 : Hid ((w2.setCell ⟨S, 0, none⟩ (.string (bs r))).heap.size = w2.heap.size) := by show _ = _; simp [World.setCell]
  generalize (w2.setCell ⟨S, 0, none⟩ (.string (bs r))) = w3 at *
  have hs3 : w.heap.size ≤ w3.heap.size := hg3.size
  have HS4 := Lib.hid (blk_alloc HS3.out (.cells #[.int .u8 4, .string (bs []), .int .i64 0, .slice none 0 0] 25))
  have ltSLB : S < w2.heap.size := by have := blk_lt HS3.out; have := HZ3.out; omega
  have neSLB : S ≠ w2.heap.size := by omega
  have neLBS : w2.heap.size ≠ S := by omega
  have HR4 := Lib.hid (blk_alloc HR3.out (.cells #[.int .u8 4, .string (bs []), .int .i64 0, .slice none 0 0] 25))
  have ltRLB : R < w2.heap.size := by have := blk_lt HR3.out; have := HZ3.out; omega
  have neRLB : R ≠ w2.heap.size := by omega
  have neLBR : w2.heap.size ≠ R := by omega
  have HF4 := Lib.hid (blk_alloc HF3.out (.cells #[.int .u8 4, .string (bs []), .int .i64 0, .slice none 0 0] 25))
  have ltFLB : F < w2.heap.size := by have := blk_lt HF3.out; have := HZ3.out; omega
  have neFLB : F ≠ w2.heap.size := by omega
  have neLBF : w2.heap.size ≠ F := by omega
  have HRS4 := Lib.hid (blk_alloc HRS3.out (.cells #[.int .u8 4, .string (bs []), .int .i64 0, .slice none 0 0] 25))
  have ltRSLB : RS < w2.heap.size := by have := blk_lt HRS3.out; have := HZ3.out; omega
  have neRSLB : RS ≠ w2.heap.size := by omega
  have neLBRS : w2.heap.size ≠ RS := by omega
  have HLB4 : Hid ((w3.alloc (.cells #[.int .u8 4, .string (bs []), .int .i64 0, .slice none 0 0] 25)).heap[w2.heap.size]? = some (.cells #[.int .u8 4, .string (bs []), .int .i64 0, .slice none 0 0] 25 (0, 0))) := by
    have h := blk_new w3 (.cells #[.int .u8 4, .string (bs []), .int .i64 0, .slice none 0 0] 25)
    rw [HZ3.out] at h
    exact h
  have HG4 := Lib.hid (gok_alloc HG3.out (.cells #[.int .u8 4, .string (bs []), .int .i64 0, .slice none 0 0] 25))
  have hg4 : GL [S, R] w (w3.alloc (.cells #[.int .u8 4, .string (bs []), .int .i64 0, .slice none 0 0] 25)) := (gl_alloc hg3 (.cells #[.int .u8 4, .string (bs []), .int .i64 0, .slice none 0 0] 25))
  have geLB : w.heap.size ≤ w2.heap.size := by have := hg3.size; omega
  have gnLB : gN ≤ w2.heap.size := by have := HG3.out.size; omega
  generalize (w3.alloc (.cells #[.int .u8 4, .string (bs []), .int .i64 0, .slice none 0 0] 25)) = w4 at *
  generalize w2.heap.size = LB at *
  have hs4 : w.heap.size ≤ w4.heap.size := hg4.size
  go_wp2_with fail
  refine (lkNumber 59 r (by omega) _ HG4.out).mono ?_
  rintro e w5 ⟨rfl, hb5⟩
  rw [HV.out]
  have HS5 := Lib.hid (blk_below HS4.out hb5 (blk_lt HS4.out))
  have HR5 := Lib.hid (blk_below HR4.out hb5 (blk_lt HR4.out))
  have HF5 := Lib.hid (blk_below HF4.out hb5 (blk_lt HF4.out))
  have HRS5 := Lib.hid (blk_below HRS4.out hb5 (blk_lt HRS4.out))
  have HLB5 := Lib.hid (blk_below HLB4.out hb5 (blk_lt HLB4.out))
  have HG5 := Lib.hid (gok_below HG4.out hb5)
  have hg5 : GL [S, R] w w5 := gl_below hb5 hg4
  have hs5 : w.heap.size ≤ w5.heap.size := hg5.size
  have fa4 := blk_cell HS5.out
  have fb4 := blk_free HS5.out
  have fl4 := blk_lt HS5.out
  have fa5 := blk_cell HLB5.out
  have fb5 := blk_free HLB5.out
  have fl5 := blk_lt HLB5.out
  have fa6 := blk_cell HRS5.out
  have fb6 := blk_free HRS5.out
  have fl6 := blk_lt HRS5.out
  have hgq := hg5
  go_wp2
  refine bodyPost_ret (v := .tuple #[.agg #[.int .u8 4, .string (bs []), .int .i64 0, .slice none 0 0], .bool false]) (by simp [results, Tryz.results79, go_sem, cell_alloc_lt, fa4, fb4, fl4, fa5, fb5, fl5, fa6, fb6, fl6, neSRS, neRSS, neSLB, neLBS, neRSLB, neLBRS]) rfl ⟨(by (repeat' (first | with_reducible exact gl_refl _ _ | with_reducible assumption | with_reducible refine gl_alloc ?_ _ | with_reducible refine gl_drewN ?_ _ | with_reducible refine gl_drew ?_ | (with_reducible refine gl_setn ?_ ?_ _; · (first | exact Nat.le_refl _ | (simp; done) | (simp; omega) | omega)) | (with_reducible refine gl_seti ?_ ?_ _; · (simp; done)) | with_reducible refine gl_below (by with_reducible assumption) ?_ | with_reducible refine gl_step (by with_reducible assumption) ?_ (by first | (simp; done) | (simp; omega)) | with_reducible refine gl_grown (by with_reducible assumption) ?_ (by first | (simp; done) | (simp; omega))))), _, _, _, _, _, _, rfl⟩

set_option maxRecDepth 100000 in
set_option maxHeartbeats 4000000 in
theorem lkRd4Y (r : List UInt8) (rm : Nat) (S R F : Nat) (w : World) (nSR : S ≠ R) (nSF : S ≠ F) (nRF : R ≠ F) (gnS : gN ≤ S) (gnR : gN ≤ R) (hS : SAt w S (111 :: r)) (hR : RAt w R ((rm : Int) + 1)) (hF : FAt w F S R) (hrl : r.length ≤ 100000000000) (hrm : (rm : Int) ≤ 1000) (hb0 : ((rm : Int) + 1 == 0) = false) (n : Nat) (s2 : List UInt8) (hc : numP 59 r = some (n, s2)) (hG : GOk w) :
    Calls Tryz.prog 79 #[.pointer (some ⟨S, 0, none⟩), .pointer (some ⟨R, 0, none⟩), .pointer (some ⟨F, 0, none⟩)] w (RdPost S R w (some (.mk 4 [] n [], s2, rm))) := by
  have HG0 := Lib.hid hG
  have nRS := nSR.symm
  have nFS := nSF.symm
  have nFR := nRF.symm
  have HV := Lib.hid (numV_some hc)
  have hn := (numP_back hc).2
  have HS0 := Lib.hid hS
  have HR0 := Lib.hid hR
  have HF0 := Lib.hid hF
  clear hS hR hF hG
  go_enter Tryz.func79, Tryz.ntmps79
  have hg0 : GL [S, R] w w := gl_refl _ _
  have hs0 : w.heap.size ≤ w.heap.size := Nat.le_refl _
  have fa1 := blk_cell HS0.out
  have fb1 := blk_free HS0.out
  have fl1 := blk_lt HS0.out
  have fa2 := blk_cell HR0.out
  have fb2 := blk_free HR0.out
  have fl2 := blk_lt HR0.out
  go_wp2_with fail
  clear fa1 fb1 fl1 fa2 fb2 fl2
  have HS1 := Lib.hid (blk_ne HS0.out (p := ⟨R, 0, none⟩) (by first | (simp; done) | (simp; omega)) (.int .i64 rm))
  have HF1 := Lib.hid (blk_ne HF0.out (p := ⟨R, 0, none⟩) (by first | (simp; done) | (simp; omega)) (.int .i64 rm))
  have HG1 := Lib.hid (gok_gl (rs := [R]) HG0.out (gl_set (gl_refl _ _) (p := ⟨R, 0, none⟩) (.inl (by simp)) (.int .i64 rm)) (by first | (simp; done) | (simp; omega)))
  have hg1 : GL [S, R] w (w.setCell ⟨R, 0, none⟩ (.int .i64 rm)) := gl_set hg0 (by first | (left; simp; done) | (right; simp; omega)) _
  have HR1 : Hid (RAt (w.setCell ⟨R, 0, none⟩ (.int .i64 rm)) R rm) := (blk_set HR0.out 0 (.int .i64 rm))
  have HZ1 : Hid ((w.setCell ⟨R, 0, none⟩ (.int .i64 rm)).heap.size = w.heap.size) := by show _ = _; simp [World.setCell]
  generalize (w.setCell ⟨R, 0, none⟩ (.int .i64 rm)) = w1 at *
  have hs1 : w.heap.size ≤ w1.heap.size := hg1.size
  have hle : hszW w ≤ w.heap.size ∧ w.heap.size ≤ hszW w := ⟨Nat.le_refl _, Nat.le_refl _⟩
  have HS2 := Lib.hid (blk_alloc HS1.out (.cells #[.int .u8 0, .string (bs []), .int .i64 0, .slice none 0 0] 25))
  have ltSRS : S < w.heap.size := by have := blk_lt HS1.out; have := HZ1.out; omega
  have neSRS : S ≠ w.heap.size := by omega
  have neRSS : w.heap.size ≠ S := by omega
  have HR2 := Lib.hid (blk_alloc HR1.out (.cells #[.int .u8 0, .string (bs []), .int .i64 0, .slice none 0 0] 25))
  have ltRRS : R < w.heap.size := by have := blk_lt HR1.out; have := HZ1.out; omega
  have neRRS : R ≠ w.heap.size := by omega
  have neRSR : w.heap.size ≠ R := by omega
  have HF2 := Lib.hid (blk_alloc HF1.out (.cells #[.int .u8 0, .string (bs []), .int .i64 0, .slice none 0 0] 25))
  have ltFRS : F < w.heap.size := by have := blk_lt HF1.out; have := HZ1.out; omega
  have neFRS : F ≠ w.heap.size := by omega
  have neRSF : w.heap.size ≠ F := by omega
  have HRS2 : Hid ((w1.alloc (.cells #[.int .u8 0, .string (bs []), .int .i64 0, .slice none 0 0] 25)).heap[w.heap.size]? = some (.cells #[.int .u8 0, .string (bs []), .int .i64 0, .slice none 0 0] 25 (0, 0))) := by
    have h := blk_new w1 (.cells #[.int .u8 0, .string (bs []), .int .i64 0, .slice none 0 0] 25)
    rw [HZ1.out] at h
    exact h
  have HG2 := Lib.hid (gok_alloc HG1.out (.cells #[.int .u8 0, .string (bs []), .int .i64 0, .slice none 0 0] 25))
  have hg2 : GL [S, R] w (w1.alloc (.cells #[.int .u8 0, .string (bs []), .int .i64 0, .slice none 0 0] 25)) := (gl_alloc hg1 (.cells #[.int .u8 0, .string (bs []), .int .i64 0, .slice none 0 0] 25))
  have geRS : w.heap.size ≤ w.heap.size := by have := hg1.size; omega
  have gnRS : gN ≤ w.heap.size := by have := HG1.out.size; omega
  generalize (w1.alloc (.cells #[.int .u8 0, .string (bs []), .int .i64 0, .slice none 0 0] 25)) = w2 at *
  generalize w.heap.size = RS at *
  have hs2 : w.heap.size ≤ w2.heap.size := hg2.size
  have hRSw : w.heap.size ≤ RS := hle.1
  have hRSw2 : RS ≤ w.heap.size := hle.2
  refine (idxByte [32, 115, 112, 97, 111, 38, 124] _ 111 rfl _).mono ?_
  rintro e wq ⟨rfl, hwq⟩
  have hwq2 := hwq.symm
  subst hwq2
  rw [show Lib.indexByte [32, 115, 112, 97, 111, 38, 124] 111 = 4 by decide]
  have fa3 := blk_cell HS2.out
  have fb3 := blk_free HS2.out
  have fl3 := blk_lt HS2.out
  go_wp2_with fail
  clear fa3 fb3 fl3
  have HR3 := Lib.hid (blk_ne HR2.out (p := ⟨S, 0, none⟩) (by first | (simp; done) | (simp; omega)) (.string (bs r)))
  have HF3 := Lib.hid (blk_ne HF2.out (p := ⟨S, 0, none⟩) (by first | (simp; done) | (simp; omega)) (.string (bs r)))
  have HRS3 := Lib.hid (blk_ne HRS2.out (p := ⟨S, 0, none⟩) (by first | (simp; done) | (simp; omega)) (.string (bs r)))
  have HG3 := Lib.hid (gok_gl (rs := [S]) HG2.out (gl_set (gl_refl _ _) (p := ⟨S, 0, none⟩) (.inl (by simp)) (.string (bs r))) (by first | (simp; done) | (simp; omega)))
  have hg3 : GL [S, R] w (w2.setCell ⟨S, 0, none⟩ (.string (bs r))) := gl_set hg2 (by first | (left; simp; done) | (right; simp; omega)) _
  have HS3 : Hid (SAt (w2.setCell ⟨S, 0, none⟩ (.string (bs r))) S r) := (blk_set HS2.out 0 (.string (bs r)))
  have HZ3 : Hid ((w2.setCell ⟨S, 0, none⟩ (.string (bs r))).heap.size = w2.heap.size) := by show _ = _; simp [World.setCell]
  generalize (w2.setCell ⟨S, 0, none⟩ (.string (bs r))) = w3 at *
  have hs3 : w.heap.size ≤ w3.heap.size := hg3.size
  have HS4 := Lib.hid (blk_alloc HS3.out (.cells #[.int .u8 4, .string (bs []), .int .i64 0, .slice none 0 0] 25))
  have ltSLB : S < w2.heap.size := by have := blk_lt HS3.out; have := HZ3.out; omega
  have neSLB : S ≠ w2.heap.size := by omega
  have neLBS : w2.heap.size ≠ S := by omega
  have HR4 := Lib.hid (blk_alloc HR3.out (.cells #[.int .u8 4, .string (bs []), .int .i64 0, .slice none 0 0] 25))
  have ltRLB : R < w2.heap.size := by have := blk_lt HR3.out; have := HZ3.out; omega
  have neRLB : R ≠ w2.heap.size := by omega
  have neLBR : w2.heap.size ≠ R := by omega
  have HF4 := Lib.hid (blk_alloc HF3.out (.cells #[.int .u8 4, .string (bs []), .int .i64 0, .slice none 0 0] 25))
  have ltFLB : F < w2.heap.size := by have := blk_lt HF3.out; have := HZ3.out; omega
  have neFLB : F ≠ w2.heap.size := by omega
  have neLBF : w2.heap.size ≠ F := by omega
  have HRS4 := Lib.hid (blk_alloc HRS3.out (.cells #[.int .u8 4, .string (bs []), .int .i64 0, .slice none 0 0] 25))
  have ltRSLB : RS < w2.heap.size := by have := blk_lt HRS3.out; have := HZ3.out; omega
  have neRSLB : RS ≠ w2.heap.size := by omega
  have neLBRS : w2.heap.size ≠ RS := by omega
  have HLB4 : Hid ((w3.alloc (.cells #[.int .u8 4, .string (bs []), .int .i64 0, .slice none 0 0] 25)).heap[w2.heap.size]? = some (.cells #[.int .u8 4, .string (bs []), .int .i64 0, .slice none 0 0] 25 (0, 0))) := by
    have h := blk_new w3 (.cells #[.int .u8 4, .string (bs []), .int .i64 0, .slice none 0 0] 25)
    rw [HZ3.out] at h
    exact h
  have HG4 := Lib.hid (gok_alloc HG3.out (.cells #[.int .u8 4, .string (bs []), .int .i64 0, .slice none 0 0] 25))
  have hg4 : GL [S, R] w (w3.alloc (.cells #[.int .u8 4, .string (bs []), .int .i64 0, .slice none 0 0] 25)) := (gl_alloc hg3 (.cells #[.int .u8 4, .string (bs []), .int .i64 0, .slice none 0 0] 25))
  have geLB : w.heap.size ≤ w2.heap.size := by have := hg3.size; omega
  have gnLB : gN ≤ w2.heap.size := by have := HG3.out.size; omega
  generalize (w3.alloc (.cells #[.int .u8 4, .string (bs []), .int .i64 0, .slice none 0 0] 25)) = w4 at *
  generalize w2.heap.size = LB at *
  have hs4 : w.heap.size ≤ w4.heap.size := hg4.size
  go_wp2_with fail
  refine (lkNumber 59 r (by omega) _ HG4.out).mono ?_
  rintro e w5 ⟨rfl, hb5⟩
  rw [HV.out]
  have HS5 := Lib.hid (blk_below HS4.out hb5 (blk_lt HS4.out))
  have HR5 := Lib.hid (blk_below HR4.out hb5 (blk_lt HR4.out))
  have HF5 := Lib.hid (blk_below HF4.out hb5 (blk_lt HF4.out))
  have HRS5 := Lib.hid (blk_below HRS4.out hb5 (blk_lt HRS4.out))
  have HLB5 := Lib.hid (blk_below HLB4.out hb5 (blk_lt HLB4.out))
  have HG5 := Lib.hid (gok_below HG4.out hb5)
  have hg5 : GL [S, R] w w5 := gl_below hb5 hg4
  have hs5 : w.heap.size ≤ w5.heap.size := hg5.size
  have fa4 := blk_cell HS5.out
  have fb4 := blk_free HS5.out
  have fl4 := blk_lt HS5.out
  have fa5 := blk_cell HLB5.out
  have fb5 := blk_free HLB5.out
  have fl5 := blk_lt HLB5.out
  have fa6 := blk_cell HRS5.out
  have fb6 := blk_free HRS5.out
  have fl6 := blk_lt HRS5.out
  have hgq := hg5
  go_wp2
  refine bodyPost_ret (v := .tuple #[.agg #[.int .u8 4, .string (bs []), .int .i64 n, .slice none 0 0], .bool true]) (by simp [results, Tryz.results79, go_sem, cell_alloc_lt, fa4, fb4, fl4, fa5, fb5, fl5, fa6, fb6, fl6, neSRS, neRSS, neSLB, neLBS, neRSLB, neLBRS]) rfl ⟨by (repeat' (first | with_reducible exact gl_refl _ _ | with_reducible assumption | with_reducible refine gl_alloc ?_ _ | with_reducible refine gl_drewN ?_ _ | with_reducible refine gl_drew ?_ | (with_reducible refine gl_setn ?_ ?_ _; · (first | exact Nat.le_refl _ | (simp; done) | (simp; omega) | omega)) | (with_reducible refine gl_seti ?_ ?_ _; · (simp; done)) | with_reducible refine gl_below (by with_reducible assumption) ?_ | with_reducible refine gl_step (by with_reducible assumption) ?_ (by first | (simp; done) | (simp; omega)) | with_reducible refine gl_grown (by with_reducible assumption) ?_ (by first | (simp; done) | (simp; omega)))), _, rfl, ?_, ?_, ?_⟩
  · unfold LockIn
    exact ⟨by omega, by omega, by simp, by simp, _, rfl, .inl ⟨none, 0, rfl, rfl⟩⟩
  · have hq : SAt ((w5.setCell ⟨LB, 2, none⟩ (.int .i64 n)).setCell ⟨S, 0, none⟩ (.string (bs s2))) S s2 := blk_set (blk_ne HS5.out (p := ⟨LB, 2, none⟩) (by first | exact neSLB | (simp; omega)) (.int .i64 n)) 0 (.string (bs s2))
    unfold SAt at hq ⊢
    (repeat' (first | with_reducible exact hq | with_reducible refine blk_alloc ?_ _ | with_reducible refine blk_drewN ?_ _ | with_reducible refine blk_drew ?_ | with_reducible refine blk_ne ?_ ?_ _ | (simp; done) | (simp; omega) | omega))
  · have hq := HR5.out
    unfold RAt at hq ⊢
    (repeat' (first | with_reducible exact hq | with_reducible refine blk_alloc ?_ _ | with_reducible refine blk_drewN ?_ _ | with_reducible refine blk_drew ?_ | with_reducible refine blk_ne ?_ ?_ _ | (simp; done) | (simp; omega) | omega))

set_option maxRecDepth 100000 in
set_option maxHeartbeats 4000000 in
theorem lkRd5N (r : List UInt8) (rm : Nat) (S R F : Nat) (w : World) (nSR : S ≠ R) (nSF : S ≠ F) (nRF : R ≠ F) (gnS : gN ≤ S) (gnR : gN ≤ R) (hS : SAt w S (38 :: r)) (hR : RAt w R ((rm : Int) + 1)) (hF : FAt w F S R) (hrl : r.length ≤ 100000000000) (hrm : (rm : Int) ≤ 1000) (hb0 : ((rm : Int) + 1 == 0) = false) (hc : numP 58 r = none) (hG : GOk w) :
    Calls Tryz.prog 79 #[.pointer (some ⟨S, 0, none⟩), .pointer (some ⟨R, 0, none⟩), .pointer (some ⟨F, 0, none⟩)] w (RdPost S R w none) := by
  have HG0 := Lib.hid hG
  have nRS := nSR.symm
  have nFS := nSF.symm
  have nFR := nRF.symm
  have HV := Lib.hid (numV_none hc)
  have HS0 := Lib.hid hS
  have HR0 := Lib.hid hR
  have HF0 := Lib.hid hF
  clear hS hR hF hG
  go_enter Tryz.func79, Tryz.ntmps79
  have hg0 : GL [S, R] w w := gl_refl _ _
  have hs0 : w.heap.size ≤ w.heap.size := Nat.le_refl _
  have fa1 := blk_cell HS0.out
  have fb1 := blk_free HS0.out
  have fl1 := blk_lt HS0.out
  have fa2 := blk_cell HR0.out
  have fb2 := blk_free HR0.out
  have fl2 := blk_lt HR0.out
  go_wp2_with fail
  clear fa1 fb1 fl1 fa2 fb2 fl2
  have HS1 := Lib.hid (blk_ne HS0.out (p := ⟨R, 0, none⟩) (by first | (simp; done) | (simp; omega)) (.int .i64 rm))
  have HF1 := Lib.hid (blk_ne HF0.out (p := ⟨R, 0, none⟩) (by first | (simp; done) | (simp; omega)) (.int .i64 rm))
  have HG1 := Lib.hid (gok_gl (rs := [R]) HG0.out (gl_set (gl_refl _ _) (p := ⟨R, 0, none⟩) (.inl (by simp)) (.int .i64 rm)) (by first | (simp; done) | (simp; omega)))
  have hg1 : GL [S, R] w (w.setCell ⟨R, 0, none⟩ (.int .i64 rm)) := gl_set hg0 (by first | (left; simp; done) | (right; simp; omega)) _
  have HR1 : Hid (RAt (w.setCell ⟨R, 0, none⟩ (.int .i64 rm)) R rm) := (blk_set HR0.out 0 (.int .i64 rm))
  have HZ1 : Hid ((w.setCell ⟨R, 0, none⟩ (.int .i64 rm)).heap.size = w.heap.size) := by show _ = _; simp [World.setCell]
  generalize (w.setCell ⟨R, 0, none⟩ (.int .i64 rm)) = w1 at *
  have hs1 : w.heap.size ≤ w1.heap.size := hg1.size
  have hle : hszW w ≤ w.heap.size ∧ w.heap.size ≤ hszW w := ⟨Nat.le_refl _, Nat.le_refl _⟩
  have HS2 := Lib.hid (blk_alloc HS1.out (.cells #[.int .u8 0, .string (bs []), .int .i64 0, .slice none 0 0] 25))
  have ltSRS : S < w.heap.size := by have := blk_lt HS1.out; have := HZ1.out; omega
  have neSRS : S ≠ w.heap.size := by omega
  have neRSS : w.heap.size ≠ S := by omega
  have HR2 := Lib.hid (blk_alloc HR1.out (.cells #[.int .u8 0, .string (bs []), .int .i64 0, .slice none 0 0] 25))
  have ltRRS : R < w.heap.size := by have := blk_lt HR1.out; have := HZ1.out; omega
  have neRRS : R ≠ w.heap.size := by omega
  have neRSR : w.heap.size ≠ R := by omega
  have HF2 := Lib.hid (blk_alloc HF1.out (.cells #[.int .u8 0, .string (bs []), .int .i64 0, .slice none 0 0] 25))
  have ltFRS : F < w.heap.size := by have := blk_lt HF1.out; have := HZ1.out; omega
  have neFRS : F ≠ w.heap.size := by omega
  have neRSF : w.heap.size ≠ F := by omega
  have HRS2 : Hid ((w1.alloc (.cells #[.int .u8 0, .string (bs []), .int .i64 0, .slice none 0 0] 25)).heap[w.heap.size]? = some (.cells #[.int .u8 0, .string (bs []), .int .i64 0, .slice none 0 0] 25 (0, 0))) := by
    have h := blk_new w1 (.cells #[.int .u8 0, .string (bs []), .int .i64 0, .slice none 0 0] 25)
    rw [HZ1.out] at h
    exact h
  have HG2 := Lib.hid (gok_alloc HG1.out (.cells #[.int .u8 0, .string (bs []), .int .i64 0, .slice none 0 0] 25))
  have hg2 : GL [S, R] w (w1.alloc (.cells #[.int .u8 0, .string (bs []), .int .i64 0, .slice none 0 0] 25)) := (gl_alloc hg1 (.cells #[.int .u8 0, .string (bs []), .int .i64 0, .slice none 0 0] 25))
  have geRS : w.heap.size ≤ w.heap.size := by have := hg1.size; omega
  have gnRS : gN ≤ w.heap.size := by have := HG1.out.size; omega
  generalize (w1.alloc (.cells #[.int .u8 0, .string (bs []), .int .i64 0, .slice none 0 0] 25)) = w2 at *
  generalize w.heap.size = RS at *
  have hs2 : w.heap.size ≤ w2.heap.size := hg2.size
  have hRSw : w.heap.size ≤ RS := hle.1
  have hRSw2 : RS ≤ w.heap.size := hle.2
  refine (idxByte [32, 115, 112, 97, 111, 38, 124] _ 38 rfl _).mono ?_
  rintro e wq ⟨rfl, hwq⟩
  have hwq2 := hwq.symm
  subst hwq2
  rw [show Lib.indexByte [32, 115, 112, 97, 111, 38, 124] 38 = 5 by decide]
  have fa3 := blk_cell HS2.out
  have fb3 := blk_free HS2.out
  have fl3 := blk_lt HS2.out
  go_wp2_with fail
  clear fa3 fb3 fl3
  have HR3 := Lib.hid (blk_ne HR2.out (p := ⟨S, 0, none⟩) (by first | (simp; done) | (simp; omega)) (.string (bs r)))
  have HF3 := Lib.hid (blk_ne HF2.out (p := ⟨S, 0, none⟩) (by first | (simp; done) | (simp; omega)) (.string (bs r)))
  have HRS3 := Lib.hid (blk_ne HRS2.out (p := ⟨S, 0, none⟩) (by first | (simp; done) | (simp; omega)) (.string (bs r)))
  have HG3 := Lib.hid (gok_gl (rs := [S]) HG2.out (gl_set (gl_refl _ _) (p := ⟨S, 0, none⟩) (.inl (by simp)) (.string (bs r))) (by first | (simp; done) | (simp; omega)))
  have hg3 : GL [S, R] w (w2.setCell ⟨S, 0, none⟩ (.string (bs r))) := gl_set hg2 (by first | (left; simp; done) | (right; simp; omega)) _
  have HS3 : Hid (SAt (w2.setCell ⟨S, 0, none⟩ (.string (bs r))) S r) := (blk_set HS2.out 0 (.string (bs r)))
  have HZ3 : Hid ((w2.setCell ⟨S, 0, none⟩ (.string (bs r))).heap.size = w2.heap.size) := by show _ = _; simp [World.setCell]
  generalize (w2.setCell ⟨S, 0, none⟩ (.string (bs r))) = w3 at *
  have hs3 : w.heap.size ≤ w3.heap.size := hg3.size
  have HS4 := Lib.hid (blk_alloc HS3.out (.cells #[.int .u8 5, .string (bs []), .int .i64 0, .slice none 0 0] 25))
  have ltSLB : S < w2.heap.size := by have := blk_lt HS3.out; have := HZ3.out; omega
  have neSLB : S ≠ w2.heap.size := by omega
  have neLBS : w2.heap.size ≠ S := by omega
  have HR4 := Lib.hid (blk_alloc HR3.out (.cells #[.int .u8 5, .string (bs []), .int .i64 0, .slice none 0 0] 25))
  have ltRLB : R < w2.heap.size := by have := blk_lt HR3.out; have := HZ3.out; omega
  have neRLB : R ≠ w2.heap.size := by omega
  have neLBR : w2.heap.size ≠ R := by omega
  have HF4 := Lib.hid (blk_alloc HF3.out (.cells #[.int .u8 5, .string (bs []), .int .i64 0, .slice none 0 0] 25))
  have ltFLB : F < w2.heap.size := by have := blk_lt HF3.out; have := HZ3.out; omega
  have neFLB : F ≠ w2.heap.size := by omega
  have neLBF : w2.heap.size ≠ F := by omega
  have HRS4 := Lib.hid (blk_alloc HRS3.out (.cells #[.int .u8 5, .string (bs []), .int .i64 0, .slice none 0 0] 25))
  have ltRSLB : RS < w2.heap.size := by have := blk_lt HRS3.out; have := HZ3.out; omega
  have neRSLB : RS ≠ w2.heap.size := by omega
  have neLBRS : w2.heap.size ≠ RS := by omega
  have HLB4 : Hid ((w3.alloc (.cells #[.int .u8 5, .string (bs []), .int .i64 0, .slice none 0 0] 25)).heap[w2.heap.size]? = some (.cells #[.int .u8 5, .string (bs []), .int .i64 0, .slice none 0 0] 25 (0, 0))) := by
    have h := blk_new w3 (.cells #[.int .u8 5, .string (bs []), .int .i64 0, .slice none 0 0] 25)
    rw [HZ3.out] at h
    exact h
  have HG4 := Lib.hid (gok_alloc HG3.out (.cells #[.int .u8 5, .string (bs []), .int .i64 0, .slice none 0 0] 25))
  have hg4 : GL [S, R] w (w3.alloc (.cells #[.int .u8 5, .string (bs []), .int .i64 0, .slice none 0 0] 25)) := (gl_alloc hg3 (.cells #[.int .u8 5, .string (bs []), .int .i64 0, .slice none 0 0] 25))
  have geLB : w.heap.size ≤ w2.heap.size := by have := hg3.size; omega
  have gnLB : gN ≤ w2.heap.size := by have := HG3.out.size; omega
  generalize (w3.alloc (.cells #[.int .u8 5, .string (bs []), .int .i64 0, .slice none 0 0] 25)) = w4 at *
  generalize w2.heap.size = LB at *
  have hs4 : w.heap.size ≤ w4.heap.size := hg4.size
  go_wp2_with fail
  refine (lkNumber 58 r (by omega) _ HG4.out).mono ?_
  rintro e w5 ⟨rfl, hb5⟩
  rw [HV.out]
  have HS5 := Lib.hid (blk_below HS4.out hb5 (blk_lt HS4.out))
  have HR5 := Lib.hid (blk_below HR4.out hb5 (blk_lt HR4.out))
  have HF5 := Lib.hid (blk_below HF4.out hb5 (blk_lt HF4.out))
  have HRS5 := Lib.hid (blk_below HRS4.out hb5 (blk_lt HRS4.out))
  have HLB5 := Lib.hid (blk_below HLB4.out hb5 (blk_lt HLB4.out))
  have HG5 := Lib.hid (gok_below HG4.out hb5)
  have hg5 : GL [S, R] w w5 := gl_below hb5 hg4
  have hs5 : w.heap.size ≤ w5.heap.size := hg5.size
  have fa4 := blk_cell HS5.out
  have fb4 := blk_free HS5.out
  have fl4 := blk_lt HS5.out
  have fa5 := blk_cell HLB5.out
  have fb5 := blk_free HLB5.out
  have fl5 := blk_lt HLB5.out
  have fa6 := blk_cell HRS5.out
  have fb6 := blk_free HRS5.out
  have fl6 := blk_lt HRS5.out
  have hgq := hg5
  go_wp2
  go_loopw [8, 9, 60] (fun _ _ iv wr => iv = .int .i64 0 ∧ Hid (wr = w5.setCell ⟨S, 0, none⟩ (.string (bs [])))) (fun _ _ _ _ => 0)
  case atStart => exact ⟨rfl, rfl⟩
  case round =>
    obtain ⟨rfl, hwr⟩ := hrel
    have hwr2 := hwr.out
    subst hwr2
    go_wp2
    refine bodyPost_ret (v := .tuple #[.agg #[.int .u8 5, .string (bs []), .int .i64 0, .slice none 0 0], .bool false]) (by simp [results, Tryz.results79, go_sem, cell_alloc_lt, fa4, fb4, fl4, fa5, fb5, fl5, fa6, fb6, fl6, neSRS, neRSS, neSLB, neLBS, neRSLB, neLBRS]) rfl ⟨(by (repeat' (first | with_reducible exact gl_refl _ _ | with_reducible assumption | with_reducible refine gl_alloc ?_ _ | with_reducible refine gl_drewN ?_ _ | with_reducible refine gl_drew ?_ | (with_reducible refine gl_setn ?_ ?_ _; · (first | exact Nat.le_refl _ | (simp; done) | (simp; omega) | omega)) | (with_reducible refine gl_seti ?_ ?_ _; · (simp; done)) | with_reducible refine gl_below (by with_reducible assumption) ?_ | with_reducible refine gl_step (by with_reducible assumption) ?_ (by first | (simp; done) | (simp; omega)) | with_reducible refine gl_grown (by with_reducible assumption) ?_ (by first | (simp; done) | (simp; omega))))), _, _, _, _, _, _, rfl⟩

set_option maxRecDepth 100000 in
set_option maxHeartbeats 4000000 in
theorem lkRd6N (r : List UInt8) (rm : Nat) (S R F : Nat) (w : World) (nSR : S ≠ R) (nSF : S ≠ F) (nRF : R ≠ F) (gnS : gN ≤ S) (gnR : gN ≤ R) (hS : SAt w S (124 :: r)) (hR : RAt w R ((rm : Int) + 1)) (hF : FAt w F S R) (hrl : r.length ≤ 100000000000) (hrm : (rm : Int) ≤ 1000) (hb0 : ((rm : Int) + 1 == 0) = false) (hc : numP 58 r = none) (hG : GOk w) :
    Calls Tryz.prog 79 #[.pointer (some ⟨S, 0, none⟩), .pointer (some ⟨R, 0, none⟩), .pointer (some ⟨F, 0, none⟩)] w (RdPost S R w none) := by
  have HG0 := Lib.hid hG
  have nRS := nSR.symm
  have nFS := nSF.symm
  have nFR := nRF.symm
  have HV := Lib.hid (numV_none hc)
  have HS0 := Lib.hid hS
  have HR0 := Lib.hid hR
  have HF0 := Lib.hid hF
  clear hS hR hF hG
  go_enter Tryz.func79, Tryz.ntmps79
  have hg0 : GL [S, R] w w := gl_refl _ _
  have hs0 : w.heap.size ≤ w.heap.size := Nat.le_refl _
  have fa1 := blk_cell HS0.out
  have fb1 := blk_free HS0.out
  have fl1 := blk_lt HS0.out
  have fa2 := blk_cell HR0.out
  have fb2 := blk_free HR0.out
  have fl2 := blk_lt HR0.out
  go_wp2_with fail
  clear fa1 fb1 fl1 fa2 fb2 fl2
  have HS1 := Lib.hid (blk_ne HS0.out (p := ⟨R, 0, none⟩) (by first | (simp; done) | (simp; omega)) (.int .i64 rm))
  have HF1 := Lib.hid (blk_ne HF0.out (p := ⟨R, 0, none⟩) (by first | (simp; done) | (simp; omega)) (.int .i64 rm))
  have HG1 := Lib.hid (gok_gl (rs := [R]) HG0.out (gl_set (gl_refl _ _) (p := ⟨R, 0, none⟩) (.inl (by simp)) (.int .i64 rm)) (by first | (simp; done) | (simp; omega)))
  have hg1 : GL [S, R] w (w.setCell ⟨R, 0, none⟩ (.int .i64 rm)) := gl_set hg0 (by first | (left; simp; done) | (right; simp; omega)) _
  have HR1 : Hid (RAt (w.setCell ⟨R, 0, none⟩ (.int .i64 rm)) R rm) := (blk_set HR0.out 0 (.int .i64 rm))
  have HZ1 : Hid ((w.setCell ⟨R, 0, none⟩ (.int .i64 rm)).heap.size = w.heap.size) := by show _ = _; simp [World.setCell]
  generalize (w.setCell ⟨R, 0, none⟩ (.int .i64 rm)) = w1 at *
  have hs1 : w.heap.size ≤ w1.heap.size := hg1.size
  have hle : hszW w ≤ w.heap.size ∧ w.heap.size ≤ hszW w := ⟨Nat.le_refl _, Nat.le_refl _⟩
  have HS2 := Lib.hid (blk_alloc HS1.out (.cells #[.int .u8 0, .string (bs []), .int .i64 0, .slice none 0 0] 25))
  have ltSRS : S < w.heap.size := by have := blk_lt HS1.out; have := HZ1.out; omega
  have neSRS : S ≠ w.heap.size := by omega
  have neRSS : w.heap.size ≠ S := by omega
  have HR2 := Lib.hid (blk_alloc HR1.out (.cells #[.int .u8 0, .string (bs []), .int .i64 0, .slice none 0 0] 25))
  have ltRRS : R < w.heap.size := by have := blk_lt HR1.out; have := HZ1.out; omega
  have neRRS : R ≠ w.heap.size := by omega
  have neRSR : w.heap.size ≠ R := by omega
  have HF2 := Lib.hid (blk_alloc HF1.out (.cells #[.int .u8 0, .string (bs []), .int .i64 0, .slice none 0 0] 25))
  have ltFRS : F < w.heap.size := by have := blk_lt HF1.out; have := HZ1.out; omega
  have neFRS : F ≠ w.heap.size := by omega
  have neRSF : w.heap.size ≠ F := by omega
  have HRS2 : Hid ((w1.alloc (.cells #[.int .u8 0, .string (bs []), .int .i64 0, .slice none 0 0] 25)).heap[w.heap.size]? = some (.cells #[.int .u8 0, .string (bs []), .int .i64 0, .slice none 0 0] 25 (0, 0))) := by
    have h := blk_new w1 (.cells #[.int .u8 0, .string (bs []), .int .i64 0, .slice none 0 0] 25)
    rw [HZ1.out] at h
    exact h
  have HG2 := Lib.hid (gok_alloc HG1.out (.cells #[.int .u8 0, .string (bs []), .int .i64 0, .slice none 0 0] 25))
  have hg2 : GL [S, R] w (w1.alloc (.cells #[.int .u8 0, .string (bs []), .int .i64 0, .slice none 0 0] 25)) := (gl_alloc hg1 (.cells #[.int .u8 0, .string (bs []), .int .i64 0, .slice none 0 0] 25))
  have geRS : w.heap.size ≤ w.heap.size := by have := hg1.size; omega
  have gnRS : gN ≤ w.heap.size := by have := HG1.out.size; omega
  generalize (w1.alloc (.cells #[.int .u8 0, .string (bs []), .int .i64 0, .slice none 0 0] 25)) = w2 at *
  generalize w.heap.size = RS at *
  have hs2 : w.heap.size ≤ w2.heap.size := hg2.size
  have hRSw : w.heap.size ≤ RS := hle.1
  have hRSw2 : RS ≤ w.heap.size := hle.2
  refine (idxByte [32, 115, 112, 97, 111, 38, 124] _ 124 rfl _).mono ?_
  rintro e wq ⟨rfl, hwq⟩
  have hwq2 := hwq.symm
  subst hwq2
  rw [show Lib.indexByte [32, 115, 112, 97, 111, 38, 124] 124 = 6 by decide]
  have fa3 := blk_cell HS2.out
  have fb3 := blk_free HS2.out
  have fl3 := blk_lt HS2.out
  go_wp2_with fail
  clear fa3 fb3 fl3
  have HR3 := Lib.hid (blk_ne HR2.out (p := ⟨S, 0, none⟩) (by first | (simp; done) | (simp; omega)) (.string (bs r)))
  have HF3 := Lib.hid (blk_ne HF2.out (p := ⟨S, 0, none⟩) (by first | (simp; done) | (simp; omega)) (.string (bs r)))
  have HRS3 := Lib.hid (blk_ne HRS2.out (p := ⟨S, 0, none⟩) (by first | (simp; done) | (simp; omega)) (.string (bs r)))
  have HG3 := Lib.hid (gok_gl (rs := [S]) HG2.out (gl_set (gl_refl _ _) (p := ⟨S, 0, none⟩) (.inl (by simp)) (.string (bs r))) (by first | (simp; done) | (simp; omega)))
  have hg3 : GL [S, R] w (w2.setCell ⟨S, 0, none⟩ (.string (bs r))) := gl_set hg2 (by first | (left; simp; done) | (right; simp; omega)) _
  have HS3 : Hid (SAt (w2.setCell ⟨S, 0, none⟩ (.string (bs r))) S r) := (blk_set HS2.out 0 (.string (bs r)))
  have HZ3 : Hid ((w2.setCell ⟨S, 0, none⟩ (.string (bs r))).heap.size = w2.heap.size) := by show _ = _; simp [World.setCell]
  generalize (w2.setCell ⟨S, 0, none⟩ (.string (bs r))) = w3 at *
  have hs3 : w.heap.size ≤ w3.heap.size := hg3.size
  have HS4 := Lib.hid (blk_alloc HS3.out (.cells #[.int .u8 6, .string (bs []), .int .i64 0, .slice none 0 0] 25))
  have ltSLB : S < w2.heap.size := by have := blk_lt HS3.out; have := HZ3.out; omega
  have neSLB : S ≠ w2.heap.size := by omega
  have neLBS : w2.heap.size ≠ S := by omega
  have HR4 := Lib.hid (blk_alloc HR3.out (.cells #[.int .u8 6, .string (bs []), .int .i64 0, .slice none 0 0] 25))
  have ltRLB : R < w2.heap.size := by have := blk_lt HR3.out; have := HZ3.out; omega
  have neRLB : R ≠ w2.heap.size := by omega
  have neLBR : w2.heap.size ≠ R := by omega
  have HF4 := Lib.hid (blk_alloc HF3.out (.cells #[.int .u8 6, .string (bs []), .int .i64 0, .slice none 0 0] 25))
  have ltFLB : F < w2.heap.size := by have := blk_lt HF3.out; have := HZ3.out; omega
  have neFLB : F ≠ w2.heap.size := by omega
  have neLBF : w2.heap.size ≠ F := by omega
  have HRS4 := Lib.hid (blk_alloc HRS3.out (.cells #[.int .u8 6, .string (bs []), .int .i64 0, .slice none 0 0] 25))
  have ltRSLB : RS < w2.heap.size := by have := blk_lt HRS3.out; have := HZ3.out; omega
  have neRSLB : RS ≠ w2.heap.size := by omega
  have neLBRS : w2.heap.size ≠ RS := by omega
  have HLB4 : Hid ((w3.alloc (.cells #[.int .u8 6, .string (bs []), .int .i64 0, .slice none 0 0] 25)).heap[w2.heap.size]? = some (.cells #[.int .u8 6, .string (bs []), .int .i64 0, .slice none 0 0] 25 (0, 0))) := by
    have h := blk_new w3 (.cells #[.int .u8 6, .string (bs []), .int .i64 0, .slice none 0 0] 25)
    rw [HZ3.out] at h
    exact h
  have HG4 := Lib.hid (gok_alloc HG3.out (.cells #[.int .u8 6, .string (bs []), .int .i64 0, .slice none 0 0] 25))
  have hg4 : GL [S, R] w (w3.alloc (.cells #[.int .u8 6, .string (bs []), .int .i64 0, .slice none 0 0] 25)) := (gl_alloc hg3 (.cells #[.int .u8 6, .string (bs []), .int .i64 0, .slice none 0 0] 25))
  have geLB : w.heap.size ≤ w2.heap.size := by have := hg3.size; omega
  have gnLB : gN ≤ w2.heap.size := by have := HG3.out.size; omega
  generalize (w3.alloc (.cells #[.int .u8 6, .string (bs []), .int .i64 0, .slice none 0 0] 25)) = w4 at *
  generalize w2.heap.size = LB at *
  have hs4 : w.heap.size ≤ w4.heap.size := hg4.size
  go_wp2_with fail
  refine (lkNumber 58 r (by omega) _ HG4.out).mono ?_
  rintro e w5 ⟨rfl, hb5⟩
  rw [HV.out]
  have HS5 := Lib.hid (blk_below HS4.out hb5 (blk_lt HS4.out))
  have HR5 := Lib.hid (blk_below HR4.out hb5 (blk_lt HR4.out))
  have HF5 := Lib.hid (blk_below HF4.out hb5 (blk_lt HF4.out))
  have HRS5 := Lib.hid (blk_below HRS4.out hb5 (blk_lt HRS4.out))
  have HLB5 := Lib.hid (blk_below HLB4.out hb5 (blk_lt HLB4.out))
  have HG5 := Lib.hid (gok_below HG4.out hb5)
  have hg5 : GL [S, R] w w5 := gl_below hb5 hg4
  have hs5 : w.heap.size ≤ w5.heap.size := hg5.size
  have fa4 := blk_cell HS5.out
  have fb4 := blk_free HS5.out
  have fl4 := blk_lt HS5.out
  have fa5 := blk_cell HLB5.out
  have fb5 := blk_free HLB5.out
  have fl5 := blk_lt HLB5.out
  have fa6 := blk_cell HRS5.out
  have fb6 := blk_free HRS5.out
  have fl6 := blk_lt HRS5.out
  have hgq := hg5
  go_wp2
  go_loopw [8, 9, 60] (fun _ _ iv wr => iv = .int .i64 0 ∧ Hid (wr = w5.setCell ⟨S, 0, none⟩ (.string (bs [])))) (fun _ _ _ _ => 0)
  case atStart => exact ⟨rfl, rfl⟩
  case round =>
    obtain ⟨rfl, hwr⟩ := hrel
    have hwr2 := hwr.out
    subst hwr2
    go_wp2
    refine bodyPost_ret (v := .tuple #[.agg #[.int .u8 6, .string (bs []), .int .i64 0, .slice none 0 0], .bool false]) (by simp [results, Tryz.results79, go_sem, cell_alloc_lt, fa4, fb4, fl4, fa5, fb5, fl5, fa6, fb6, fl6, neSRS, neRSS, neSLB, neLBS, neRSLB, neLBRS]) rfl ⟨(by (repeat' (first | with_reducible exact gl_refl _ _ | with_reducible assumption | with_reducible refine gl_alloc ?_ _ | with_reducible refine gl_drewN ?_ _ | with_reducible refine gl_drew ?_ | (with_reducible refine gl_setn ?_ ?_ _; · (first | exact Nat.le_refl _ | (simp; done) | (simp; omega) | omega)) | (with_reducible refine gl_seti ?_ ?_ _; · (simp; done)) | with_reducible refine gl_below (by with_reducible assumption) ?_ | with_reducible refine gl_step (by with_reducible assumption) ?_ (by first | (simp; done) | (simp; omega)) | with_reducible refine gl_grown (by with_reducible assumption) ?_ (by first | (simp; done) | (simp; omega))))), _, _, _, _, _, _, rfl⟩

end Go.Proofs.YtfmckibiblhakaaGreatDoor
