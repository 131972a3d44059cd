/- The program's locks: read, kids and all. -/
import Derived.Test.YtfmckibiblhakaaGreatDoorLockD
set_option linter.unusedSimpArgs false
set_option linter.unusedVariables false
namespace Go.Proofs.YtfmckibiblhakaaGreatDoor
open Go.RowKit

/-- Where the reading of kids stands. -/
def KSt (S R F RS LB : Nat) (k : Int) (w : World) (f m : Nat) (tot : Option (List LT × List UInt8 × Nat)) (rm sl : Nat) (iv : Value) (wr : World) : Prop :=
  ∃ (j rj : Nat) (sj : List UInt8) (l : List LT) (cs : List Value) (a : Option Addr) (nn cap : Nat), j ≤ m ∧ iv = .int .i64 j ∧ l.length = j ∧ rj ≤ rm ∧ sj.length ≤ sl ∧ LB < wr.heap.size ∧
    Hid (GL [S, R] w wr) ∧ Hid (SAt wr S sj) ∧ Hid (RAt wr R rj) ∧ Hid (FAt wr F S R) ∧ Hid (wr.heap[RS]? = some (.cells #[.int .u8 0, .string (bs []), .int .i64 0, .slice none 0 0] 25 (0, 0))) ∧
    Hid (wr.heap[LB]? = some (.cells #[.int .u8 k, .string (bs []), .int .i64 0, .slice a nn cap] 25 (0, 0))) ∧ Hid (wr.ownsRow (LB + 1) 25 4 (.slice a nn cap) j cs) ∧
    Hid (RowV (fun b => w.heap.size ≤ b ∧ b ≠ RS ∧ b ≠ LB ∧ some b ≠ (Value.slice a nn cap).ownBlock) wr l cs) ∧
    Hid ((match readRow (readL cutP limP f) (m - j) rj sj with | none => none | some (l', s', r') => some (l ++ l', s', r')) = tot)
theorem kst_none {f d rj : Nat} {sj : List UInt8} {l : List LT} {tot : Option (List LT × List UInt8 × Nat)} (hd : 0 < d) (h : (match readRow (readL cutP limP f) d rj sj with | none => none | some (l', s', r') => some (l ++ l', s', r')) = tot) (hx : readL cutP limP f rj sj = none) : tot = none := by
  obtain ⟨e, rfl⟩ : ∃ e, d = e + 1 := ⟨d - 1, by omega⟩
  rw [readRow, hx] at h
  exact h.symm
theorem kst_some {f d rj r' : Nat} {sj s' : List UInt8} {l : List LT} {x : LT} {tot : Option (List LT × List UInt8 × Nat)} (hd : 0 < d) (h : (match readRow (readL cutP limP f) d rj sj with | none => none | some (l', s', r') => some (l ++ l', s', r')) = tot) (hx : readL cutP limP f rj sj = some (x, s', r')) :
    (match readRow (readL cutP limP f) (d - 1) r' s' with | none => none | some (l', s', r') => some ((l ++ [x]) ++ l', s', r')) = tot := by
  obtain ⟨e, rfl⟩ : ∃ e, d = e + 1 := ⟨d - 1, by omega⟩
  rw [readRow, hx] at h
  simp only at h
  rw [← h, Nat.add_sub_cancel]
  cases readRow (readL cutP limP f) e r' s' with
  | none => rfl
  | some z => simp
theorem own_lt {w : World} {base e size n : Nat} {v : Value} {xs : List Value} (h : w.ownsRow base e size v n xs) : ∀ g, v.ownBlock = some g → g < w.heap.size := by
  intro g hg
  rcases h.2 with ⟨rfl, _⟩ | ⟨g', cap, cur, rfl, _, h', _⟩
  · simp [Value.ownBlock] at hg
  · simp [Value.ownBlock] at hg
    subst hg
    exact blk_lt h'

theorem kst_next {S R F RS LB : Nat} {k : Int} {w : World} {f m rm sl : Nat} {tot : Option (List LT × List UInt8 × Nat)} {j rj r' : Nat} {sj s' : List UInt8} {l : List LT} {cs : List Value} {a ad4 : Option Addr} {nn cap n4 cp4 : Nat} {wr w1 w4 : World} {X Y : Obj} {x : LT} {u0 u1 u2 u3 : Value}
    (hlt : j < m) (hll : l.length = j) (hrj : rj ≤ rm) (hsj : sj.length ≤ sl) (hlen : s'.length ≤ sj.length ∧ r' < rj) (hLs : LB < wr.heap.size) (hRSL : RS < LB) (hwR : w.heap.size ≤ RS) (hSw : S < w.heap.size) (hRw : R < w.heap.size) (hFw : F < w.heap.size)
    (hgr : GL [S, R] w wr) (hgl1 : GL [S, R] wr w1) (hS1 : SAt w1 S s') (hR1 : RAt w1 R r') (hF1 : FAt w1 F S R)
    (hQ1 : w1.heap[RS]? = some (.cells #[.int .u8 0, .string (bs []), .int .i64 0, .slice none 0 0] 25 (0, 0))) (hL4 : w4.heap[LB]? = some (.cells #[.int .u8 k, .string (bs []), .int .i64 0, .slice a nn cap] 25 (0, 0)))
    (hown : wr.ownsRow (LB + 1) 25 4 (.slice a nn cap) j cs) (hrv : RowV (fun b => w.heap.size ≤ b ∧ b ≠ RS ∧ b ≠ LB ∧ some b ≠ (Value.slice a nn cap).ownBlock) wr l cs)
    (hlv : LockIn (fun b => wr.heap.size ≤ b) w1 x (.agg #[u0, u1, u2, u3])) (hown4 : w4.ownsRow (LB + 1) 25 4 (.slice ad4 n4 cp4) (j + 1) (cs ++ [u0, u1, u2, u3]))
    (hgr4 : ((w1.alloc X).alloc Y).grownBy w4 (Value.slice a nn cap).ownBlock)
    (hat4 : (Value.slice ad4 n4 cp4).ownBlock = (Value.slice a nn cap).ownBlock ∨ (Value.slice ad4 n4 cp4).ownBlock = some ((w1.alloc X).alloc Y).heap.size)
    (hct : (match readRow (readL cutP limP f) (m - j - 1) r' s' with | none => none | some (l', s', r') => some ((l ++ [x]) ++ l', s', r')) = tot) :
    KSt S R F RS LB k w f m tot rm sl (.int .i64 ((j : Int) + 1)) (w4.setCell ⟨LB, 3, none⟩ (.slice ad4 n4 cp4)) := by
  have hob := own_ge hown
  have hol := own_lt hown
  have hob4 := own_ge hown4
  have h1 := hgr.size
  have h2 := hgl1.size
  have h3 := hgr4.size
  simp only [World.size_alloc] at h3
  have hkeep : ∀ b, b < w1.heap.size → some b ≠ (Value.slice a nn cap).ownBlock → b ≠ LB → (w4.setCell ⟨LB, 3, none⟩ (.slice ad4 n4 cp4)).heap[b]? = w1.heap[b]? := fun b hb ho hl => by
    rw [Below.heap_setCell _ _ _ _ (by simpa using hl), hgr4.block b (by simp; omega) ho, Below.heap_alloc _ _ _ (by simp; omega), Below.heap_alloc _ _ _ hb]
  have hnew : ∀ b, b < w1.heap.size → some b ≠ (Value.slice a nn cap).ownBlock → some b ≠ (Value.slice ad4 n4 cp4).ownBlock := fun b hb ho => by
    rcases hat4 with h | h
    · rw [h]; exact ho
    · rw [h]; simp; omega
  have hlow : ∀ b, b < LB → some b ≠ (Value.slice a nn cap).ownBlock := fun b hb h => by have := hob b h.symm; omega
  refine ⟨j + 1, r', s', l ++ [x], cs ++ [u0, u1, u2, u3], ad4, n4, cp4, by omega, by simp, by simp [hll], by omega, by omega, by simp [World.setCell]; omega, Lib.hid ?_, Lib.hid ?_, Lib.hid ?_, Lib.hid ?_, Lib.hid ?_, Lib.hid ?_, Lib.hid ?_, Lib.hid ?_, Lib.hid ?_⟩
  · exact gl_set (gl_grown hgr4 (gl_alloc (gl_alloc (gl_step hgl1 hgr (by simp)) X) Y) (fun r hr => .inr (by have := hob r hr; omega))) (.inr (by simp; omega)) _
  · show (w4.setCell _ _).heap[S]? = _
    rw [hkeep S (by omega) (hlow S (by omega)) (by omega)]; exact hS1
  · show (w4.setCell _ _).heap[R]? = _
    rw [hkeep R (by omega) (hlow R (by omega)) (by omega)]; exact hR1
  · show (w4.setCell _ _).heap[F]? = _
    rw [hkeep F (by omega) (hlow F (by omega)) (by omega)]; exact hF1
  · rw [hkeep RS (by omega) (hlow RS (by omega)) (by omega)]; exact hQ1
  · exact blk_set hL4 3 (.slice ad4 n4 cp4)
  · exact own_ne_set hown4 (p := ⟨LB, 3, none⟩) (fun h => by have := hob4 LB h.symm; omega) _
  · refine rowV_snoc (lockIn_stay ⟨by simp [World.setCell]; omega, fun b hb hp => hkeep b hb (fun h => by have := hol b h.symm; omega) (by omega)⟩ (fun b hb hp => ⟨by omega, by omega, by omega, hnew b hb (fun h => by have := hol b h.symm; omega)⟩) x _ hlv) l cs ?_
    exact rowV_stay ⟨by simp [World.setCell]; omega, fun b hb hp => (hkeep b (by omega) hp.2.2.2 hp.2.2.1).trans (hgl1.block b hb (by simp; omega))⟩ (fun b hb hp => ⟨hp.1, hp.2.1, hp.2.2.1, hnew b (by omega) hp.2.2.2⟩) l cs hrv
  · exact hct
theorem kst_lock {RS LB : Nat} {k : Int} {w wr W : World} {j : Nat} {l : List LT} {cs : List Value} {a : Option Addr} {nn cap : Nat} (hk : 0 ≤ k ∧ k ≤ 255) (hj : j ≤ 9) (hll : l.length = j) (hRSL : RS < LB) (hwR : w.heap.size ≤ RS) (hsz : w.heap.size ≤ wr.heap.size)
    (hown : wr.ownsRow (LB + 1) 25 4 (.slice a nn cap) j cs) (hrv : RowV (fun b => w.heap.size ≤ b ∧ b ≠ RS ∧ b ≠ LB ∧ some b ≠ (Value.slice a nn cap).ownBlock) wr l cs) (hW : wr.heap.size ≤ W.heap.size) (hW2 : ∀ b, b ≠ RS → W.heap[b]? = wr.heap[b]?) :
    LockIn (fun b => w.heap.size ≤ b) W (.mk k [] 0 l) (.agg #[.int .u8 k, .string (bs []), .int .i64 0, .slice a nn cap]) := by
  obtain rfl := own_len hown
  unfold LockIn
  refine ⟨hk, by omega, by simp, by omega, _, rfl, ?_⟩
  by_cases hz : nn = 0
  · subst hz
    exact .inl ⟨a, cap, rfl, List.eq_nil_of_length_eq_zero hll⟩
  · obtain ⟨g, c2, e, h1, h2, h3⟩ := own_row hown (by omega) hll hrv
    injection e with e1 e2 e3
    subst e1 e3
    refine .inr ⟨g, 0, cap, by rw [hll], by omega, by omega, ?_⟩
    exact rowIn_stay (p := fun b => b ≠ RS ∧ w.heap.size ≤ b) ⟨hW, fun b hb hp => hW2 b hp.1⟩ (fun b _ h => h.2) l g 0 h2 ⟨by omega, by omega⟩ (rowIn_mono (fun b _ h => ⟨h.2.1, h.1⟩) l g 0 h3)

set_option maxRecDepth 100000 in
set_option maxHeartbeats 8000000 in
theorem lkRd5Y (r : List UInt8) (rm f : Nat) (ih : RdIH f) (n : Nat) (s2 : List UInt8) (tot : Option (List LT × List UInt8 × Nat)) (hf : rm < f) (h64 : rm ≤ 64) (S R F : Nat) (w : World) (nSR : S ≠ R) (nSF : S ≠ F) (nRF : R ≠ F) (gnS : gN ≤ S) (gnR : gN ≤ R) (hS : SAt w S (38 :: r)) (hR : RAt w R ((rm : Int) + 1)) (hF : FAt w F S R) (hrl : r.length ≤ 100000000000) (hrm : (rm : Int) ≤ 1000) (hb0 : ((rm : Int) + 1 == 0) = false) (hc : numP 58 r = some (n, s2)) (htot : readRow (readL cutP limP f) (min n 9) rm s2 = tot) (hG : GOk w) :
    Calls Tryz.prog 79 #[.pointer (some ⟨S, 0, none⟩), .pointer (some ⟨R, 0, none⟩), .pointer (some ⟨F, 0, none⟩)] w (RdPost S R w (kidsO 5 tot)) := by
  have HG0 := Lib.hid hG
  have nRS := nSR.symm
  have nFS := nSF.symm
  have nFR := nRF.symm
  have HV := Lib.hid (numV_some hc)
  have hn := (numP_back hc).2
  have hs2l : s2.length ≤ 100000000000 := by
    have := congrArg List.length (numP_back hc).1
    simp at this
    omega
  have IH := Lib.hid ih
  have HT := Lib.hid htot
  obtain ⟨m, hm⟩ : ∃ m, min n 9 = m := ⟨_, rfl⟩
  rw [hm] at HT
  have hm9 : m ≤ 9 := by omega
  have hmin : min (n : Int) 9 = (m : Int) := by omega
  have hsL := blk_lt hS
  have hrL := blk_lt hR
  have hfL := blk_lt hF
  clear ih htot hc hm
  obtain ⟨i0, hi0, hi1, hi2, hi3⟩ := info_parts Tryz.infoLock
  have HS0 := Lib.hid hS
  have HR0 := Lib.hid hR
  have HF0 := Lib.hid hF
  clear hS hR hF hG
  go_enter Tryz.func79, Tryz.ntmps79
  have hg0 : GL [S, R] w w := gl_refl _ _
  have hs0 : w.heap.size ≤ w.heap.size := Nat.le_refl _
  have fa1 := blk_cell HS0.out
  have fb1 := blk_free HS0.out
  have fl1 := blk_lt HS0.out
  have fa2 := blk_cell HR0.out
  have fb2 := blk_free HR0.out
  have fl2 := blk_lt HR0.out
  go_wp2_with fail
  clear fa1 fb1 fl1 fa2 fb2 fl2
  have HS1 := Lib.hid (blk_ne HS0.out (p := ⟨R, 0, none⟩) (by first | (simp; done) | (simp; omega)) (.int .i64 rm))
  have HF1 := Lib.hid (blk_ne HF0.out (p := ⟨R, 0, none⟩) (by first | (simp; done) | (simp; omega)) (.int .i64 rm))
  have HG1 := Lib.hid (gok_gl (rs := [R]) HG0.out (gl_set (gl_refl _ _) (p := ⟨R, 0, none⟩) (.inl (by simp)) (.int .i64 rm)) (by first | (simp; done) | (simp; omega)))
  have hg1 : GL [S, R] w (w.setCell ⟨R, 0, none⟩ (.int .i64 rm)) := gl_set hg0 (by first | (left; simp; done) | (right; simp; omega)) _
  have HR1 : Hid (RAt (w.setCell ⟨R, 0, none⟩ (.int .i64 rm)) R rm) := (blk_set HR0.out 0 (.int .i64 rm))
  have HZ1 : Hid ((w.setCell ⟨R, 0, none⟩ (.int .i64 rm)).heap.size = w.heap.size) := by show _ = _; simp [World.setCell]
  generalize (w.setCell ⟨R, 0, none⟩ (.int .i64 rm)) = w1 at *
  have hs1 : w.heap.size ≤ w1.heap.size := hg1.size
  have hle : hszW w ≤ w.heap.size ∧ w.heap.size ≤ hszW w := ⟨Nat.le_refl _, Nat.le_refl _⟩
  have HS2 := Lib.hid (blk_alloc HS1.out (.cells #[.int .u8 0, .string (bs []), .int .i64 0, .slice none 0 0] 25))
  have ltSRS : S < w.heap.size := by have := blk_lt HS1.out; have := HZ1.out; omega
  have neSRS : S ≠ w.heap.size := by omega
  have neRSS : w.heap.size ≠ S := by omega
  have HR2 := Lib.hid (blk_alloc HR1.out (.cells #[.int .u8 0, .string (bs []), .int .i64 0, .slice none 0 0] 25))
  have ltRRS : R < w.heap.size := by have := blk_lt HR1.out; have := HZ1.out; omega
  have neRRS : R ≠ w.heap.size := by omega
  have neRSR : w.heap.size ≠ R := by omega
  have HF2 := Lib.hid (blk_alloc HF1.out (.cells #[.int .u8 0, .string (bs []), .int .i64 0, .slice none 0 0] 25))
  have ltFRS : F < w.heap.size := by have := blk_lt HF1.out; have := HZ1.out; omega
  have neFRS : F ≠ w.heap.size := by omega
  have neRSF : w.heap.size ≠ F := by omega
  have HRS2 : Hid ((w1.alloc (.cells #[.int .u8 0, .string (bs []), .int .i64 0, .slice none 0 0] 25)).heap[w.heap.size]? = some (.cells #[.int .u8 0, .string (bs []), .int .i64 0, .slice none 0 0] 25 (0, 0))) := by
    have h := blk_new w1 (.cells #[.int .u8 0, .string (bs []), .int .i64 0, .slice none 0 0] 25)
    rw [HZ1.out] at h
    exact h
  have HG2 := Lib.hid (gok_alloc HG1.out (.cells #[.int .u8 0, .string (bs []), .int .i64 0, .slice none 0 0] 25))
  have hg2 : GL [S, R] w (w1.alloc (.cells #[.int .u8 0, .string (bs []), .int .i64 0, .slice none 0 0] 25)) := (gl_alloc hg1 (.cells #[.int .u8 0, .string (bs []), .int .i64 0, .slice none 0 0] 25))
  have geRS : w.heap.size ≤ w.heap.size := by have := hg1.size; omega
  have gnRS : gN ≤ w.heap.size := by have := HG1.out.size; omega
  generalize (w1.alloc (.cells #[.int .u8 0, .string (bs []), .int .i64 0, .slice none 0 0] 25)) = w2 at *
  generalize w.heap.size = RS at *
  have hs2 : w.heap.size ≤ w2.heap.size := hg2.size
  have hRSw : w.heap.size ≤ RS := hle.1
  have hRSw2 : RS ≤ w.heap.size := hle.2
  refine (idxByte [32, 115, 112, 97, 111, 38, 124] _ 38 rfl _).mono ?_
  rintro e wq ⟨rfl, hwq⟩
  have hwq2 := hwq.symm
  subst hwq2
  rw [show Lib.indexByte [32, 115, 112, 97, 111, 38, 124] 38 = 5 by decide]
  have fa3 := blk_cell HS2.out
  have fb3 := blk_free HS2.out
  have fl3 := blk_lt HS2.out
  go_wp2_with fail
  clear fa3 fb3 fl3
  have HR3 := Lib.hid (blk_ne HR2.out (p := ⟨S, 0, none⟩) (by first | (simp; done) | (simp; omega)) (.string (bs r)))
  have HF3 := Lib.hid (blk_ne HF2.out (p := ⟨S, 0, none⟩) (by first | (simp; done) | (simp; omega)) (.string (bs r)))
  have HRS3 := Lib.hid (blk_ne HRS2.out (p := ⟨S, 0, none⟩) (by first | (simp; done) | (simp; omega)) (.string (bs r)))
  have HG3 := Lib.hid (gok_gl (rs := [S]) HG2.out (gl_set (gl_refl _ _) (p := ⟨S, 0, none⟩) (.inl (by simp)) (.string (bs r))) (by first | (simp; done) | (simp; omega)))
  have hg3 : GL [S, R] w (w2.setCell ⟨S, 0, none⟩ (.string (bs r))) := gl_set hg2 (by first | (left; simp; done) | (right; simp; omega)) _
  have HS3 : Hid (SAt (w2.setCell ⟨S, 0, none⟩ (.string (bs r))) S r) := (blk_set HS2.out 0 (.string (bs r)))
  have HZ3 : Hid ((w2.setCell ⟨S, 0, none⟩ (.string (bs r))).heap.size = w2.heap.size) := by show _ = _; simp [World.setCell]
  generalize (w2.setCell ⟨S, 0, none⟩ (.string (bs r))) = w3 at *
  have hs3 : w.heap.size ≤ w3.heap.size := hg3.size
  have HS4 := Lib.hid (blk_alloc HS3.out (.cells #[.int .u8 5, .string (bs []), .int .i64 0, .slice none 0 0] 25))
  have ltSLB : S < w2.heap.size := by have := blk_lt HS3.out; have := HZ3.out; omega
  have neSLB : S ≠ w2.heap.size := by omega
  have neLBS : w2.heap.size ≠ S := by omega
  have HR4 := Lib.hid (blk_alloc HR3.out (.cells #[.int .u8 5, .string (bs []), .int .i64 0, .slice none 0 0] 25))
  have ltRLB : R < w2.heap.size := by have := blk_lt HR3.out; have := HZ3.out; omega
  have neRLB : R ≠ w2.heap.size := by omega
  have neLBR : w2.heap.size ≠ R := by omega
  have HF4 := Lib.hid (blk_alloc HF3.out (.cells #[.int .u8 5, .string (bs []), .int .i64 0, .slice none 0 0] 25))
  have ltFLB : F < w2.heap.size := by have := blk_lt HF3.out; have := HZ3.out; omega
  have neFLB : F ≠ w2.heap.size := by omega
  have neLBF : w2.heap.size ≠ F := by omega
  have HRS4 := Lib.hid (blk_alloc HRS3.out (.cells #[.int .u8 5, .string (bs []), .int .i64 0, .slice none 0 0] 25))
  have ltRSLB : RS < w2.heap.size := by have := blk_lt HRS3.out; have := HZ3.out; omega
  have neRSLB : RS ≠ w2.heap.size := by omega
  have neLBRS : w2.heap.size ≠ RS := by omega
  have HLB4 : Hid ((w3.alloc (.cells #[.int .u8 5, .string (bs []), .int .i64 0, .slice none 0 0] 25)).heap[w2.heap.size]? = some (.cells #[.int .u8 5, .string (bs []), .int .i64 0, .slice none 0 0] 25 (0, 0))) := by
    have h := blk_new w3 (.cells #[.int .u8 5, .string (bs []), .int .i64 0, .slice none 0 0] 25)
    rw [HZ3.out] at h
    exact h
  have HG4 := Lib.hid (gok_alloc HG3.out (.cells #[.int .u8 5, .string (bs []), .int .i64 0, .slice none 0 0] 25))
  have hg4 : GL [S, R] w (w3.alloc (.cells #[.int .u8 5, .string (bs []), .int .i64 0, .slice none 0 0] 25)) := (gl_alloc hg3 (.cells #[.int .u8 5, .string (bs []), .int .i64 0, .slice none 0 0] 25))
  have geLB : w.heap.size ≤ w2.heap.size := by have := hg3.size; omega
  have gnLB : gN ≤ w2.heap.size := by have := HG3.out.size; omega
  generalize (w3.alloc (.cells #[.int .u8 5, .string (bs []), .int .i64 0, .slice none 0 0] 25)) = w4 at *
  generalize w2.heap.size = LB at *
  have hs4 : w.heap.size ≤ w4.heap.size := hg4.size
  go_wp2_with fail
  refine (lkNumber 58 r (by omega) _ HG4.out).mono ?_
  rintro e w5 ⟨rfl, hb5⟩
  rw [HV.out]
  have HS5 := Lib.hid (blk_below HS4.out hb5 (blk_lt HS4.out))
  have HR5 := Lib.hid (blk_below HR4.out hb5 (blk_lt HR4.out))
  have HF5 := Lib.hid (blk_below HF4.out hb5 (blk_lt HF4.out))
  have HRS5 := Lib.hid (blk_below HRS4.out hb5 (blk_lt HRS4.out))
  have HLB5 := Lib.hid (blk_below HLB4.out hb5 (blk_lt HLB4.out))
  have HG5 := Lib.hid (gok_below HG4.out hb5)
  have hg5 : GL [S, R] w w5 := gl_below hb5 hg4
  have hs5 : w.heap.size ≤ w5.heap.size := hg5.size
  have fa4 := blk_cell HS5.out
  have fb4 := blk_free HS5.out
  have fl4 := blk_lt HS5.out
  have fa5 := blk_cell HLB5.out
  have fb5 := blk_free HLB5.out
  have fl5 := blk_lt HLB5.out
  have fa6 := blk_cell HRS5.out
  have fb6 := blk_free HRS5.out
  have fl6 := blk_lt HRS5.out
  go_wp2_with fail
  clear fa4 fb4 fl4 fa5 fb5 fl5 fa6 fb6 fl6
  have HR6 := Lib.hid (blk_ne HR5.out (p := ⟨S, 0, none⟩) (by first | (simp; done) | (simp; omega)) (.string (bs s2)))
  have HF6 := Lib.hid (blk_ne HF5.out (p := ⟨S, 0, none⟩) (by first | (simp; done) | (simp; omega)) (.string (bs s2)))
  have HRS6 := Lib.hid (blk_ne HRS5.out (p := ⟨S, 0, none⟩) (by first | (simp; done) | (simp; omega)) (.string (bs s2)))
  have HLB6 := Lib.hid (blk_ne HLB5.out (p := ⟨S, 0, none⟩) (by first | (simp; done) | (simp; omega)) (.string (bs s2)))
  have HG6 := Lib.hid (gok_gl (rs := [S]) HG5.out (gl_set (gl_refl _ _) (p := ⟨S, 0, none⟩) (.inl (by simp)) (.string (bs s2))) (by first | (simp; done) | (simp; omega)))
  have hg6 : GL [S, R] w (w5.setCell ⟨S, 0, none⟩ (.string (bs s2))) := gl_set hg5 (by first | (left; simp; done) | (right; simp; omega)) _
  have HS6 : Hid (SAt (w5.setCell ⟨S, 0, none⟩ (.string (bs s2))) S s2) := (blk_set HS5.out 0 (.string (bs s2)))
  have HZ6 : Hid ((w5.setCell ⟨S, 0, none⟩ (.string (bs s2))).heap.size = w5.heap.size) := by show _ = _; simp [World.setCell]
  generalize (w5.setCell ⟨S, 0, none⟩ (.string (bs s2))) = w6 at *
  have hs6 : w.heap.size ≤ w6.heap.size := hg6.size
  have hLBs : LB < w6.heap.size := blk_lt HLB6.out
  go_loopw [8, 9, 60] (fun _ _ iv wr => KSt S R F RS LB 5 w f m tot rm 100000000000 iv wr) (fun _ _ iv _ => m - (intOf iv).toNat)
  case atStart =>
    refine ⟨0, rm, s2, [], [], none, 0, 0, by omega, rfl, rfl, Nat.le_refl _, hs2l, hLBs, Lib.hid hg6, HS6, HR6, HF6, HRS6, HLB6, Lib.hid ⟨rfl, .inl ⟨rfl, rfl⟩⟩, Lib.hid rfl, Lib.hid ?_⟩
    rw [← HT.out, Nat.sub_zero]
    cases readRow (readL cutP limP f) m rm s2 with
    | none => rfl
    | some z => simp
  case round =>
    obtain ⟨j, rj, sj, l, cs, a, nn, cap, hj, rfl, hll, hrj, hsj, hLs, hgr, HSr, HRr, HFr, HRSr, HLBr, hown, hrv, hct⟩ := hrel
    have hsz := hgr.out.size
    have fS := blk_cell HSr.out
    have fF := blk_cell HFr.out
    have fF2 := blk_free HFr.out
    have fL := blk_cell HLBr.out
    have fL2 := blk_free HLBr.out
    have fQ := blk_cell HRSr.out
    have fQ2 := blk_free HRSr.out
    have lQ := blk_lt HRSr.out
    by_cases hlt : j < m
    · have i1 : (j : Int) < m := by omega
      have hGr := gok_gl HG6.out (w := w6) (w' := w6) (gl_refl [] _) (by simp)
      have hGr : GOk wr := gok_gl HG0.out hgr.out (by simp; omega)
      have hcall := IH.out S R F sj rj wr (by omega) (by omega) (by omega) nSR nSF nRF gnS gnR HSr.out HRr.out HFr.out hGr
      cases ho : readL cutP limP f rj sj with
      | none =>
        have HTN : Hid (tot = none) := kst_none (by omega) hct.out ho
        rw [ho] at hcall
        have HC := Lib.hid hcall
        clear hcall ho hct
        go_wp2_with fail
        refine (HC.out).mono ?_
        rintro e w1 ⟨hgl1, kk, kn, kt, ka, km, kc, rfl⟩
        have HQ1 := Lib.hid (blk_gl HRSr.out hgl1 (by simp; omega))
        have fq1 := blk_cell HQ1.out
        have fq2 := blk_free HQ1.out
        have fq3 := blk_lt HQ1.out
        have hg1 : GL [S, R] w w1 := gl_step hgl1 hgr.out (by simp)
        go_wp2
        refine bodyPost_ret (v := .tuple #[.agg #[.int .u8 0, .string (bs []), .int .i64 0, .slice none 0 0], .bool false]) (by simp [results, Tryz.results79, go_sem, cell_alloc_lt, fq1, fq2, fq3]) rfl ?_
        show RdPost S R w (kidsO 5 tot) _ _
        rw [HTN.out]
        exact ⟨(by (repeat' (first | with_reducible exact gl_refl _ _ | with_reducible assumption | with_reducible refine gl_alloc ?_ _ | with_reducible refine gl_drewN ?_ _ | with_reducible refine gl_drew ?_ | (with_reducible refine gl_setn ?_ ?_ _; · (first | exact Nat.le_refl _ | (simp; done) | (simp; omega) | omega)) | (with_reducible refine gl_seti ?_ ?_ _; · (simp; done)) | with_reducible refine gl_below (by with_reducible assumption) ?_ | with_reducible refine gl_step (by with_reducible assumption) ?_ (by first | (simp; done) | (simp; omega)) | with_reducible refine gl_grown (by with_reducible assumption) ?_ (by first | (simp; done) | (simp; omega))))), _, _, _, _, _, _, rfl⟩
      | some z =>
        obtain ⟨x, s', r'⟩ := z
        have hlen := readL_len _ _ _ _ _ _ ho
        have HCT := Lib.hid (kst_some (by omega) hct.out ho)
        rw [ho] at hcall
        have HC := Lib.hid hcall
        clear hcall ho hct
        go_wp2_with fail
        refine (HC.out).mono ?_
        rintro e w1 ⟨hgl1, v, rfl, hlv, hS1, hR1⟩
        obtain ⟨xk, xt, xn, xkids⟩ := x
        obtain ⟨xa, xc, rfl, _⟩ := lockIn_open hlv
        have HLV := Lib.hid hlv
        have HS1 := Lib.hid hS1
        have HR1 := Lib.hid hR1
        have HL1 := Lib.hid (blk_gl HLBr.out hgl1 (by simp; omega))
        have HQ1 := Lib.hid (blk_gl HRSr.out hgl1 (by simp; omega))
        have HF1 := Lib.hid (blk_gl HFr.out hgl1 (by simp; omega))
        have hown1 := own_gl hown.out hgl1 (by
          intro g hg he
          have := own_ge hown.out g he
          simp at hg
          omega)
        have fl1 := blk_cell HL1.out
        have fl2 := blk_free HL1.out
        have fl3 := blk_lt HL1.out
        have hsz1 := hgl1.size
        have hog := own_lt hown.out
        have hob := own_ge hown.out
        obtain ⟨OB, hOB⟩ : ∃ OB, (Value.slice a nn cap).ownBlock = OB := ⟨_, rfl⟩
        rw [hOB] at hog hob
        have HOB := Lib.hid hOB
        clear hlv hS1 hR1 hOB fS fF fF2 fL fL2 fQ fQ2
        go_wp2_with (at_builtin; go_must (refine wpList_append_own_at _ rfl _ _ 23 rfl (LB + 1) 25 i0 (.agg #[.int .u8 0, .string ByteArray.empty, .int .i64 0, .slice none 0 0]) 4 56 Tryz.underlying23 hi0 hi1 hi2 hi3 rfl (by decide) _ j cs rfl (own_alloc (own_alloc hown1 _) _) ⟨w1.heap.size + 1, 0, none⟩ 1 1 [.int .u8 xk, .string (bs xt), .int .i64 xn, .slice xa xkids.length xc] rfl rfl ?c1 ?c2 ?c3 ?c4 ?c5 ?_; (case c1 => (intro i u hi; (match i, hi with | 0, hi => (simp at hi; subst hi; simp [Addr.add]) | 1, hi => (simp at hi; subst hi; simp [Addr.add]) | 2, hi => (simp at hi; subst hi; simp [Addr.add]) | 3, hi => (simp at hi; subst hi; simp [Addr.add]) | i + 4, hi => (simp at hi)))); (case c2 => (intro u hu; simp at hu; rcases hu with rfl | rfl | rfl | rfl <;> rfl)); (case c3 => (unfold maxLen; omega)); (case c4 => omega); (case c5 => (simp; omega)); (intro v' w4 hown4 hgr4 _ hat4); (obtain ⟨ad4, n4, cp4, hv4⟩ := own_slice hown4); (subst hv4); (have hneL : some LB ≠ OB := fun h => by have := hob LB h.symm; omega); (have HL4 := Lib.hid (blk_grown (blk_alloc (blk_alloc HL1.out _) _) hgr4 (by show some LB ≠ (Value.slice a nn cap).ownBlock; rw [HOB.out]; exact hneL))); (have g4 := blk_cell HL4.out); (have g5 := blk_free HL4.out)))
        go_wp2
        go_roundw
        case rel => exact kst_next hlt hll hrj hsj hlen hLs ltRSLB hRSw (by omega) (by omega) (by omega) hgr.out hgl1 HS1.out HR1.out HF1.out HQ1.out HL4.out hown.out hrv.out HLV.out hown4 hgr4 hat4 HCT.out
        case measure => simp [intOf]; omega
    · obtain rfl : j = m := by omega
      have HTY : Hid (tot = some (l, sj, rj)) := by
        show tot = _
        have := hct.out
        rw [Nat.sub_self] at this
        rw [← this]
        simp [readRow]
      clear hct
      go_wp2
      refine bodyPost_ret (v := .tuple #[.agg #[.int .u8 5, .string (bs []), .int .i64 0, .slice a nn cap], .bool true]) (by simp [results, Tryz.results79, go_sem, fQ, fQ2, lQ, fL, fL2]) rfl ?_
      show RdPost S R w (kidsO 5 tot) _ _
      rw [HTY.out]
      refine ⟨by have := hgr.out; (repeat' (first | with_reducible exact gl_refl _ _ | with_reducible assumption | with_reducible refine gl_alloc ?_ _ | with_reducible refine gl_drewN ?_ _ | with_reducible refine gl_drew ?_ | (with_reducible refine gl_setn ?_ ?_ _; · (first | exact Nat.le_refl _ | (simp; done) | (simp; omega) | omega)) | (with_reducible refine gl_seti ?_ ?_ _; · (simp; done)) | with_reducible refine gl_below (by with_reducible assumption) ?_ | with_reducible refine gl_step (by with_reducible assumption) ?_ (by first | (simp; done) | (simp; omega)) | with_reducible refine gl_grown (by with_reducible assumption) ?_ (by first | (simp; done) | (simp; omega)))), _, rfl, kst_lock (RS := RS) (by omega) (by omega) hll ltRSLB hRSw hsz hown.out hrv.out (by simp [World.setCell]) (fun b hb => ?_), ?_, ?_⟩
      · repeat (rw [Below.heap_setCell _ _ _ _ (by simpa using hb)])
      · have hq := HSr.out
        unfold SAt at hq ⊢
        (repeat' (first | with_reducible exact hq | with_reducible refine blk_alloc ?_ _ | with_reducible refine blk_drewN ?_ _ | with_reducible refine blk_drew ?_ | with_reducible refine blk_ne ?_ ?_ _ | (simp; done) | (simp; omega) | omega))
      · have hq := HRr.out
        unfold RAt at hq ⊢
        (repeat' (first | with_reducible exact hq | with_reducible refine blk_alloc ?_ _ | with_reducible refine blk_drewN ?_ _ | with_reducible refine blk_drew ?_ | with_reducible refine blk_ne ?_ ?_ _ | (simp; done) | (simp; omega) | omega))

set_option maxRecDepth 100000 in
set_option maxHeartbeats 8000000 in
theorem lkRd6Y (r : List UInt8) (rm f : Nat) (ih : RdIH f) (n : Nat) (s2 : List UInt8) (tot : Option (List LT × List UInt8 × Nat)) (hf : rm < f) (h64 : rm ≤ 64) (S R F : Nat) (w : World) (nSR : S ≠ R) (nSF : S ≠ F) (nRF : R ≠ F) (gnS : gN ≤ S) (gnR : gN ≤ R) (hS : SAt w S (124 :: r)) (hR : RAt w R ((rm : Int) + 1)) (hF : FAt w F S R) (hrl : r.length ≤ 100000000000) (hrm : (rm : Int) ≤ 1000) (hb0 : ((rm : Int) + 1 == 0) = false) (hc : numP 58 r = some (n, s2)) (htot : readRow (readL cutP limP f) (min n 9) rm s2 = tot) (hG : GOk w) :
    Calls Tryz.prog 79 #[.pointer (some ⟨S, 0, none⟩), .pointer (some ⟨R, 0, none⟩), .pointer (some ⟨F, 0, none⟩)] w (RdPost S R w (kidsO 6 tot)) := by
  have HG0 := Lib.hid hG
  have nRS := nSR.symm
  have nFS := nSF.symm
  have nFR := nRF.symm
  have HV := Lib.hid (numV_some hc)
  have hn := (numP_back hc).2
  have hs2l : s2.length ≤ 100000000000 := by
    have := congrArg List.length (numP_back hc).1
    simp at this
    omega
  have IH := Lib.hid ih
  have HT := Lib.hid htot
  obtain ⟨m, hm⟩ : ∃ m, min n 9 = m := ⟨_, rfl⟩
  rw [hm] at HT
  have hm9 : m ≤ 9 := by omega
  have hmin : min (n : Int) 9 = (m : Int) := by omega
  have hsL := blk_lt hS
  have hrL := blk_lt hR
  have hfL := blk_lt hF
  clear ih htot hc hm
  obtain ⟨i0, hi0, hi1, hi2, hi3⟩ := info_parts Tryz.infoLock
  have HS0 := Lib.hid hS
  have HR0 := Lib.hid hR
  have HF0 := Lib.hid hF
  clear hS hR hF hG
  go_enter Tryz.func79, Tryz.ntmps79
  have hg0 : GL [S, R] w w := gl_refl _ _
  have hs0 : w.heap.size ≤ w.heap.size := Nat.le_refl _
  have fa1 := blk_cell HS0.out
  have fb1 := blk_free HS0.out
  have fl1 := blk_lt HS0.out
  have fa2 := blk_cell HR0.out
  have fb2 := blk_free HR0.out
  have fl2 := blk_lt HR0.out
  go_wp2_with fail
  clear fa1 fb1 fl1 fa2 fb2 fl2
  have HS1 := Lib.hid (blk_ne HS0.out (p := ⟨R, 0, none⟩) (by first | (simp; done) | (simp; omega)) (.int .i64 rm))
  have HF1 := Lib.hid (blk_ne HF0.out (p := ⟨R, 0, none⟩) (by first | (simp; done) | (simp; omega)) (.int .i64 rm))
  have HG1 := Lib.hid (gok_gl (rs := [R]) HG0.out (gl_set (gl_refl _ _) (p := ⟨R, 0, none⟩) (.inl (by simp)) (.int .i64 rm)) (by first | (simp; done) | (simp; omega)))
  have hg1 : GL [S, R] w (w.setCell ⟨R, 0, none⟩ (.int .i64 rm)) := gl_set hg0 (by first | (left; simp; done) | (right; simp; omega)) _
  have HR1 : Hid (RAt (w.setCell ⟨R, 0, none⟩ (.int .i64 rm)) R rm) := (blk_set HR0.out 0 (.int .i64 rm))
  have HZ1 : Hid ((w.setCell ⟨R, 0, none⟩ (.int .i64 rm)).heap.size = w.heap.size) := by show _ = _; simp [World.setCell]
  generalize (w.setCell ⟨R, 0, none⟩ (.int .i64 rm)) = w1 at *
  have hs1 : w.heap.size ≤ w1.heap.size := hg1.size
  have hle : hszW w ≤ w.heap.size ∧ w.heap.size ≤ hszW w := ⟨Nat.le_refl _, Nat.le_refl _⟩
  have HS2 := Lib.hid (blk_alloc HS1.out (.cells #[.int .u8 0, .string (bs []), .int .i64 0, .slice none 0 0] 25))
  have ltSRS : S < w.heap.size := by have := blk_lt HS1.out; have := HZ1.out; omega
  have neSRS : S ≠ w.heap.size := by omega
  have neRSS : w.heap.size ≠ S := by omega
  have HR2 := Lib.hid (blk_alloc HR1.out (.cells #[.int .u8 0, .string (bs []), .int .i64 0, .slice none 0 0] 25))
  have ltRRS : R < w.heap.size := by have := blk_lt HR1.out; have := HZ1.out; omega
  have neRRS : R ≠ w.heap.size := by omega
  have neRSR : w.heap.size ≠ R := by omega
  have HF2 := Lib.hid (blk_alloc HF1.out (.cells #[.int .u8 0, .string (bs []), .int .i64 0, .slice none 0 0] 25))
  have ltFRS : F < w.heap.size := by have := blk_lt HF1.out; have := HZ1.out; omega
  have neFRS : F ≠ w.heap.size := by omega
  have neRSF : w.heap.size ≠ F := by omega
  have HRS2 : Hid ((w1.alloc (.cells #[.int .u8 0, .string (bs []), .int .i64 0, .slice none 0 0] 25)).heap[w.heap.size]? = some (.cells #[.int .u8 0, .string (bs []), .int .i64 0, .slice none 0 0] 25 (0, 0))) := by
    have h := blk_new w1 (.cells #[.int .u8 0, .string (bs []), .int .i64 0, .slice none 0 0] 25)
    rw [HZ1.out] at h
    exact h
  have HG2 := Lib.hid (gok_alloc HG1.out (.cells #[.int .u8 0, .string (bs []), .int .i64 0, .slice none 0 0] 25))
  have hg2 : GL [S, R] w (w1.alloc (.cells #[.int .u8 0, .string (bs []), .int .i64 0, .slice none 0 0] 25)) := (gl_alloc hg1 (.cells #[.int .u8 0, .string (bs []), .int .i64 0, .slice none 0 0] 25))
  have geRS : w.heap.size ≤ w.heap.size := by have := hg1.size; omega
  have gnRS : gN ≤ w.heap.size := by have := HG1.out.size; omega
  generalize (w1.alloc (.cells #[.int .u8 0, .string (bs []), .int .i64 0, .slice none 0 0] 25)) = w2 at *
  generalize w.heap.size = RS at *
  have hs2 : w.heap.size ≤ w2.heap.size := hg2.size
  have hRSw : w.heap.size ≤ RS := hle.1
  have hRSw2 : RS ≤ w.heap.size := hle.2
  refine (idxByte [32, 115, 112, 97, 111, 38, 124] _ 124 rfl _).mono ?_
  rintro e wq ⟨rfl, hwq⟩
  have hwq2 := hwq.symm
  subst hwq2
  rw [show Lib.indexByte [32, 115, 112, 97, 111, 38, 124] 124 = 6 by decide]
  have fa3 := blk_cell HS2.out
  have fb3 := blk_free HS2.out
  have fl3 := blk_lt HS2.out
  go_wp2_with fail
  clear fa3 fb3 fl3
  have HR3 := Lib.hid (blk_ne HR2.out (p := ⟨S, 0, none⟩) (by first | (simp; done) | (simp; omega)) (.string (bs r)))
  have HF3 := Lib.hid (blk_ne HF2.out (p := ⟨S, 0, none⟩) (by first | (simp; done) | (simp; omega)) (.string (bs r)))
  have HRS3 := Lib.hid (blk_ne HRS2.out (p := ⟨S, 0, none⟩) (by first | (simp; done) | (simp; omega)) (.string (bs r)))
  have HG3 := Lib.hid (gok_gl (rs := [S]) HG2.out (gl_set (gl_refl _ _) (p := ⟨S, 0, none⟩) (.inl (by simp)) (.string (bs r))) (by first | (simp; done) | (simp; omega)))
  have hg3 : GL [S, R] w (w2.setCell ⟨S, 0, none⟩ (.string (bs r))) := gl_set hg2 (by first | (left; simp; done) | (right; simp; omega)) _
  have HS3 : Hid (SAt (w2.setCell ⟨S, 0, none⟩ (.string (bs r))) S r) := (blk_set HS2.out 0 (.string (bs r)))
  have HZ3 : Hid ((w2.setCell ⟨S, 0, none⟩ (.string (bs r))).heap.size = w2.heap.size) := by show _ = _; simp [World.setCell]
  generalize (w2.setCell ⟨S, 0, none⟩ (.string (bs r))) = w3 at *
  have hs3 : w.heap.size ≤ w3.heap.size := hg3.size
  have HS4 := Lib.hid (blk_alloc HS3.out (.cells #[.int .u8 6, .string (bs []), .int .i64 0, .slice none 0 0] 25))
  have ltSLB : S < w2.heap.size := by have := blk_lt HS3.out; have := HZ3.out; omega
  have neSLB : S ≠ w2.heap.size := by omega
  have neLBS : w2.heap.size ≠ S := by omega
  have HR4 := Lib.hid (blk_alloc HR3.out (.cells #[.int .u8 6, .string (bs []), .int .i64 0, .slice none 0 0] 25))
  have ltRLB : R < w2.heap.size := by have := blk_lt HR3.out; have := HZ3.out; omega
  have neRLB : R ≠ w2.heap.size := by omega
  have neLBR : w2.heap.size ≠ R := by omega
  have HF4 := Lib.hid (blk_alloc HF3.out (.cells #[.int .u8 6, .string (bs []), .int .i64 0, .slice none 0 0] 25))
  have ltFLB : F < w2.heap.size := by have := blk_lt HF3.out; have := HZ3.out; omega
  have neFLB : F ≠ w2.heap.size := by omega
  have neLBF : w2.heap.size ≠ F := by omega
  have HRS4 := Lib.hid (blk_alloc HRS3.out (.cells #[.int .u8 6, .string (bs []), .int .i64 0, .slice none 0 0] 25))
  have ltRSLB : RS < w2.heap.size := by have := blk_lt HRS3.out; have := HZ3.out; omega
  have neRSLB : RS ≠ w2.heap.size := by omega
  have neLBRS : w2.heap.size ≠ RS := by omega
  have HLB4 : Hid ((w3.alloc (.cells #[.int .u8 6, .string (bs []), .int .i64 0, .slice none 0 0] 25)).heap[w2.heap.size]? = some (.cells #[.int .u8 6, .string (bs []), .int .i64 0, .slice none 0 0] 25 (0, 0))) := by
    have h := blk_new w3 (.cells #[.int .u8 6, .string (bs []), .int .i64 0, .slice none 0 0] 25)
    rw [HZ3.out] at h
    exact h
  have HG4 := Lib.hid (gok_alloc HG3.out (.cells #[.int .u8 6, .string (bs []), .int .i64 0, .slice none 0 0] 25))
  have hg4 : GL [S, R] w (w3.alloc (.cells #[.int .u8 6, .string (bs []), .int .i64 0, .slice none 0 0] 25)) := (gl_alloc hg3 (.cells #[.int .u8 6, .string (bs []), .int .i64 0, .slice none 0 0] 25))
  have geLB : w.heap.size ≤ w2.heap.size := by have := hg3.size; omega
  have gnLB : gN ≤ w2.heap.size := by have := HG3.out.size; omega
  generalize (w3.alloc (.cells #[.int .u8 6, .string (bs []), .int .i64 0, .slice none 0 0] 25)) = w4 at *
  generalize w2.heap.size = LB at *
  have hs4 : w.heap.size ≤ w4.heap.size := hg4.size
  go_wp2_with fail
  refine (lkNumber 58 r (by omega) _ HG4.out).mono ?_
  rintro e w5 ⟨rfl, hb5⟩
  rw [HV.out]
  have HS5 := Lib.hid (blk_below HS4.out hb5 (blk_lt HS4.out))
  have HR5 := Lib.hid (blk_below HR4.out hb5 (blk_lt HR4.out))
  have HF5 := Lib.hid (blk_below HF4.out hb5 (blk_lt HF4.out))
  have HRS5 := Lib.hid (blk_below HRS4.out hb5 (blk_lt HRS4.out))
  have HLB5 := Lib.hid (blk_below HLB4.out hb5 (blk_lt HLB4.out))
  have HG5 := Lib.hid (gok_below HG4.out hb5)
  have hg5 : GL [S, R] w w5 := gl_below hb5 hg4
  have hs5 : w.heap.size ≤ w5.heap.size := hg5.size
  have fa4 := blk_cell HS5.out
  have fb4 := blk_free HS5.out
  have fl4 := blk_lt HS5.out
  have fa5 := blk_cell HLB5.out
  have fb5 := blk_free HLB5.out
  have fl5 := blk_lt HLB5.out
  have fa6 := blk_cell HRS5.out
  have fb6 := blk_free HRS5.out
  have fl6 := blk_lt HRS5.out
  go_wp2_with fail
  clear fa4 fb4 fl4 fa5 fb5 fl5 fa6 fb6 fl6
  have HR6 := Lib.hid (blk_ne HR5.out (p := ⟨S, 0, none⟩) (by first | (simp; done) | (simp; omega)) (.string (bs s2)))
  have HF6 := Lib.hid (blk_ne HF5.out (p := ⟨S, 0, none⟩) (by first | (simp; done) | (simp; omega)) (.string (bs s2)))
  have HRS6 := Lib.hid (blk_ne HRS5.out (p := ⟨S, 0, none⟩) (by first | (simp; done) | (simp; omega)) (.string (bs s2)))
  have HLB6 := Lib.hid (blk_ne HLB5.out (p := ⟨S, 0, none⟩) (by first | (simp; done) | (simp; omega)) (.string (bs s2)))
  have HG6 := Lib.hid (gok_gl (rs := [S]) HG5.out (gl_set (gl_refl _ _) (p := ⟨S, 0, none⟩) (.inl (by simp)) (.string (bs s2))) (by first | (simp; done) | (simp; omega)))
  have hg6 : GL [S, R] w (w5.setCell ⟨S, 0, none⟩ (.string (bs s2))) := gl_set hg5 (by first | (left; simp; done) | (right; simp; omega)) _
  have HS6 : Hid (SAt (w5.setCell ⟨S, 0, none⟩ (.string (bs s2))) S s2) := (blk_set HS5.out 0 (.string (bs s2)))
  have HZ6 : Hid ((w5.setCell ⟨S, 0, none⟩ (.string (bs s2))).heap.size = w5.heap.size) := by show _ = _; simp [World.setCell]
  generalize (w5.setCell ⟨S, 0, none⟩ (.string (bs s2))) = w6 at *
  have hs6 : w.heap.size ≤ w6.heap.size := hg6.size
  have hLBs : LB < w6.heap.size := blk_lt HLB6.out
  go_loopw [8, 9, 60] (fun _ _ iv wr => KSt S R F RS LB 6 w f m tot rm 100000000000 iv wr) (fun _ _ iv _ => m - (intOf iv).toNat)
  case atStart =>
    refine ⟨0, rm, s2, [], [], none, 0, 0, by omega, rfl, rfl, Nat.le_refl _, hs2l, hLBs, Lib.hid hg6, HS6, HR6, HF6, HRS6, HLB6, Lib.hid ⟨rfl, .inl ⟨rfl, rfl⟩⟩, Lib.hid rfl, Lib.hid ?_⟩
    rw [← HT.out, Nat.sub_zero]
    cases readRow (readL cutP limP f) m rm s2 with
    | none => rfl
    | some z => simp
  case round =>
    obtain ⟨j, rj, sj, l, cs, a, nn, cap, hj, rfl, hll, hrj, hsj, hLs, hgr, HSr, HRr, HFr, HRSr, HLBr, hown, hrv, hct⟩ := hrel
    have hsz := hgr.out.size
    have fS := blk_cell HSr.out
    have fF := blk_cell HFr.out
    have fF2 := blk_free HFr.out
    have fL := blk_cell HLBr.out
    have fL2 := blk_free HLBr.out
    have fQ := blk_cell HRSr.out
    have fQ2 := blk_free HRSr.out
    have lQ := blk_lt HRSr.out
    by_cases hlt : j < m
    · have i1 : (j : Int) < m := by omega
      have hGr := gok_gl HG6.out (w := w6) (w' := w6) (gl_refl [] _) (by simp)
      have hGr : GOk wr := gok_gl HG0.out hgr.out (by simp; omega)
      have hcall := IH.out S R F sj rj wr (by omega) (by omega) (by omega) nSR nSF nRF gnS gnR HSr.out HRr.out HFr.out hGr
      cases ho : readL cutP limP f rj sj with
      | none =>
        have HTN : Hid (tot = none) := kst_none (by omega) hct.out ho
        rw [ho] at hcall
        have HC := Lib.hid hcall
        clear hcall ho hct
        go_wp2_with fail
        refine (HC.out).mono ?_
        rintro e w1 ⟨hgl1, kk, kn, kt, ka, km, kc, rfl⟩
        have HQ1 := Lib.hid (blk_gl HRSr.out hgl1 (by simp; omega))
        have fq1 := blk_cell HQ1.out
        have fq2 := blk_free HQ1.out
        have fq3 := blk_lt HQ1.out
        have hg1 : GL [S, R] w w1 := gl_step hgl1 hgr.out (by simp)
        go_wp2
        refine bodyPost_ret (v := .tuple #[.agg #[.int .u8 0, .string (bs []), .int .i64 0, .slice none 0 0], .bool false]) (by simp [results, Tryz.results79, go_sem, cell_alloc_lt, fq1, fq2, fq3]) rfl ?_
        show RdPost S R w (kidsO 6 tot) _ _
        rw [HTN.out]
        exact ⟨(by (repeat' (first | with_reducible exact gl_refl _ _ | with_reducible assumption | with_reducible refine gl_alloc ?_ _ | with_reducible refine gl_drewN ?_ _ | with_reducible refine gl_drew ?_ | (with_reducible refine gl_setn ?_ ?_ _; · (first | exact Nat.le_refl _ | (simp; done) | (simp; omega) | omega)) | (with_reducible refine gl_seti ?_ ?_ _; · (simp; done)) | with_reducible refine gl_below (by with_reducible assumption) ?_ | with_reducible refine gl_step (by with_reducible assumption) ?_ (by first | (simp; done) | (simp; omega)) | with_reducible refine gl_grown (by with_reducible assumption) ?_ (by first | (simp; done) | (simp; omega))))), _, _, _, _, _, _, rfl⟩
      | some z =>
        obtain ⟨x, s', r'⟩ := z
        have hlen := readL_len _ _ _ _ _ _ ho
        have HCT := Lib.hid (kst_some (by omega) hct.out ho)
        rw [ho] at hcall
        have HC := Lib.hid hcall
        clear hcall ho hct
        go_wp2_with fail
        refine (HC.out).mono ?_
        rintro e w1 ⟨hgl1, v, rfl, hlv, hS1, hR1⟩
        obtain ⟨xk, xt, xn, xkids⟩ := x
        obtain ⟨xa, xc, rfl, _⟩ := lockIn_open hlv
        have HLV := Lib.hid hlv
        have HS1 := Lib.hid hS1
        have HR1 := Lib.hid hR1
        have HL1 := Lib.hid (blk_gl HLBr.out hgl1 (by simp; omega))
        have HQ1 := Lib.hid (blk_gl HRSr.out hgl1 (by simp; omega))
        have HF1 := Lib.hid (blk_gl HFr.out hgl1 (by simp; omega))
        have hown1 := own_gl hown.out hgl1 (by
          intro g hg he
          have := own_ge hown.out g he
          simp at hg
          omega)
        have fl1 := blk_cell HL1.out
        have fl2 := blk_free HL1.out
        have fl3 := blk_lt HL1.out
        have hsz1 := hgl1.size
        have hog := own_lt hown.out
        have hob := own_ge hown.out
        obtain ⟨OB, hOB⟩ : ∃ OB, (Value.slice a nn cap).ownBlock = OB := ⟨_, rfl⟩
        rw [hOB] at hog hob
        have HOB := Lib.hid hOB
        clear hlv hS1 hR1 hOB fS fF fF2 fL fL2 fQ fQ2
        go_wp2_with (at_builtin; go_must (refine wpList_append_own_at _ rfl _ _ 23 rfl (LB + 1) 25 i0 (.agg #[.int .u8 0, .string ByteArray.empty, .int .i64 0, .slice none 0 0]) 4 56 Tryz.underlying23 hi0 hi1 hi2 hi3 rfl (by decide) _ j cs rfl (own_alloc (own_alloc hown1 _) _) ⟨w1.heap.size + 1, 0, none⟩ 1 1 [.int .u8 xk, .string (bs xt), .int .i64 xn, .slice xa xkids.length xc] rfl rfl ?c1 ?c2 ?c3 ?c4 ?c5 ?_; (case c1 => (intro i u hi; (match i, hi with | 0, hi => (simp at hi; subst hi; simp [Addr.add]) | 1, hi => (simp at hi; subst hi; simp [Addr.add]) | 2, hi => (simp at hi; subst hi; simp [Addr.add]) | 3, hi => (simp at hi; subst hi; simp [Addr.add]) | i + 4, hi => (simp at hi)))); (case c2 => (intro u hu; simp at hu; rcases hu with rfl | rfl | rfl | rfl <;> rfl)); (case c3 => (unfold maxLen; omega)); (case c4 => omega); (case c5 => (simp; omega)); (intro v' w4 hown4 hgr4 _ hat4); (obtain ⟨ad4, n4, cp4, hv4⟩ := own_slice hown4); (subst hv4); (have hneL : some LB ≠ OB := fun h => by have := hob LB h.symm; omega); (have HL4 := Lib.hid (blk_grown (blk_alloc (blk_alloc HL1.out _) _) hgr4 (by show some LB ≠ (Value.slice a nn cap).ownBlock; rw [HOB.out]; exact hneL))); (have g4 := blk_cell HL4.out); (have g5 := blk_free HL4.out)))
        go_wp2
        go_roundw
        case rel => exact kst_next hlt hll hrj hsj hlen hLs ltRSLB hRSw (by omega) (by omega) (by omega) hgr.out hgl1 HS1.out HR1.out HF1.out HQ1.out HL4.out hown.out hrv.out HLV.out hown4 hgr4 hat4 HCT.out
        case measure => simp [intOf]; omega
    · obtain rfl : j = m := by omega
      have HTY : Hid (tot = some (l, sj, rj)) := by
        show tot = _
        have := hct.out
        rw [Nat.sub_self] at this
        rw [← this]
        simp [readRow]
      clear hct
      go_wp2
      refine bodyPost_ret (v := .tuple #[.agg #[.int .u8 6, .string (bs []), .int .i64 0, .slice a nn cap], .bool true]) (by simp [results, Tryz.results79, go_sem, fQ, fQ2, lQ, fL, fL2]) rfl ?_
      show RdPost S R w (kidsO 6 tot) _ _
      rw [HTY.out]
      refine ⟨by have := hgr.out; (repeat' (first | with_reducible exact gl_refl _ _ | with_reducible assumption | with_reducible refine gl_alloc ?_ _ | with_reducible refine gl_drewN ?_ _ | with_reducible refine gl_drew ?_ | (with_reducible refine gl_setn ?_ ?_ _; · (first | exact Nat.le_refl _ | (simp; done) | (simp; omega) | omega)) | (with_reducible refine gl_seti ?_ ?_ _; · (simp; done)) | with_reducible refine gl_below (by with_reducible assumption) ?_ | with_reducible refine gl_step (by with_reducible assumption) ?_ (by first | (simp; done) | (simp; omega)) | with_reducible refine gl_grown (by with_reducible assumption) ?_ (by first | (simp; done) | (simp; omega)))), _, rfl, kst_lock (RS := RS) (by omega) (by omega) hll ltRSLB hRSw hsz hown.out hrv.out (by simp [World.setCell]) (fun b hb => ?_), ?_, ?_⟩
      · repeat (rw [Below.heap_setCell _ _ _ _ (by simpa using hb)])
      · have hq := HSr.out
        unfold SAt at hq ⊢
        (repeat' (first | with_reducible exact hq | with_reducible refine blk_alloc ?_ _ | with_reducible refine blk_drewN ?_ _ | with_reducible refine blk_drew ?_ | with_reducible refine blk_ne ?_ ?_ _ | (simp; done) | (simp; omega) | omega))
      · have hq := HRr.out
        unfold RAt at hq ⊢
        (repeat' (first | with_reducible exact hq | with_reducible refine blk_alloc ?_ _ | with_reducible refine blk_drewN ?_ _ | with_reducible refine blk_drew ?_ | with_reducible refine blk_ne ?_ ?_ _ | (simp; done) | (simp; omega) | omega))

theorem lkRdN : ∀ f, RdIH f
  | 0 => fun S R F s room w h _ _ _ _ _ _ _ _ _ _ _ => by omega
  | f + 1 => fun S R F s room w hf hsl hrm nSR nSF nRF gnS gnR hS hR hF hG => by
    match s, room, hf, hsl, hrm, hS, hR with
    | [], 0, _, _, _, hS, _ => exact lkRdEmpty S R F w nSR nSF nRF gnS gnR hS hG
    | [], _ + 1, _, _, _, hS, _ => exact lkRdEmpty S R F w nSR nSF nRF gnS gnR hS hG
    | c :: r, 0, _, _, _, hS, hR => exact lkRdFull c r S R F w nSR nSF nRF gnS gnR hS hR hG
    | c :: r, rm + 1, hf, hsl, hrm, hS, hR =>
      have hR2 : RAt w R ((rm : Int) + 1) := by simpa using hR
      have hsl2 : r.length ≤ 100000000000 := by simp at hsl; omega
      have hb0 : ((rm : Int) + 1 == 0) = false := by simp; omega
      have hrm2 : (rm : Int) ≤ 1000 := by omega
      rw [readL]
      by_cases h1 : c = 115
      · subst h1
        rw [if_pos (by decide)]
        cases hc : cutP r with
        | none => exact lkRd1N r rm S R F w nSR nSF nRF gnS gnR hS hR2 hF hsl2 hrm2 hb0 hc hG
        | some z =>
          obtain ⟨t, s2⟩ := z
          have := congrArg List.length (cutP_back _ _ _ hc)
          simp at this
          exact lkRd1Y r rm S R F w nSR nSF nRF gnS gnR hS hR2 hF hsl2 hrm2 hb0 t s2 (by omega) hc hG
      by_cases h2 : c = 112
      · subst h2
        rw [if_pos (by decide)]
        cases hc : cutP r with
        | none => exact lkRd2N r rm S R F w nSR nSF nRF gnS gnR hS hR2 hF hsl2 hrm2 hb0 hc hG
        | some z =>
          obtain ⟨t, s2⟩ := z
          have := congrArg List.length (cutP_back _ _ _ hc)
          simp at this
          exact lkRd2Y r rm S R F w nSR nSF nRF gnS gnR hS hR2 hF hsl2 hrm2 hb0 t s2 (by omega) hc hG
      rw [if_neg (by simp [h1, h2])]
      by_cases h3 : c = 97
      · subst h3
        rw [if_pos (by decide)]
        cases hc : numP 59 r with
        | none => exact lkRd3N r rm S R F w nSR nSF nRF gnS gnR hS hR2 hF hsl2 hrm2 hb0 hc hG
        | some z => exact lkRd3Y r rm S R F w nSR nSF nRF gnS gnR hS hR2 hF hsl2 hrm2 hb0 z.1 z.2 hc hG
      by_cases h4 : c = 111
      · subst h4
        rw [if_pos (by decide)]
        cases hc : numP 59 r with
        | none => exact lkRd4N r rm S R F w nSR nSF nRF gnS gnR hS hR2 hF hsl2 hrm2 hb0 hc hG
        | some z => exact lkRd4Y r rm S R F w nSR nSF nRF gnS gnR hS hR2 hF hsl2 hrm2 hb0 z.1 z.2 hc hG
      rw [if_neg (by simp [h3, h4])]
      by_cases h5 : c = 38
      · subst h5
        rw [if_pos (by decide)]
        cases hc : numP 58 r with
        | none => exact lkRd5N r rm S R F w nSR nSF nRF gnS gnR hS hR2 hF hsl2 hrm2 hb0 hc hG
        | some z =>
          obtain ⟨n, s2⟩ := z
          have h := lkRd5Y r rm f (lkRdN f) n s2 _ (by omega) (by omega) S R F w nSR nSF nRF gnS gnR hS hR2 hF hsl2 hrm2 hb0 hc rfl hG
          refine h.mono fun e w' hp => ?_
          simp only [limP]
          unfold kidsO at hp
          cases hq : readRow (readL cutP limP f) (min n 9) rm s2 with
          | none => rw [hq] at hp; exact hp
          | some y => rw [hq] at hp; exact hp
      by_cases h6 : c = 124
      · subst h6
        rw [if_pos (by decide)]
        cases hc : numP 58 r with
        | none => exact lkRd6N r rm S R F w nSR nSF nRF gnS gnR hS hR2 hF hsl2 hrm2 hb0 hc hG
        | some z =>
          obtain ⟨n, s2⟩ := z
          have h := lkRd6Y r rm f (lkRdN f) n s2 _ (by omega) (by omega) S R F w nSR nSF nRF gnS gnR hS hR2 hF hsl2 hrm2 hb0 hc rfl hG
          refine h.mono fun e w' hp => ?_
          simp only [limP]
          unfold kidsO at hp
          cases hq : readRow (readL cutP limP f) (min n 9) rm s2 with
          | none => rw [hq] at hp; exact hp
          | some y => rw [hq] at hp; exact hp
      rw [if_neg (by simp [h5, h6])]
      have hne : ∀ d : UInt8, c ≠ d → (d == c) = false := fun d hd => by simpa using fun h => hd h.symm
      by_cases h0 : c = 32
      · subst h0
        exact lkRdOtherA 32 r rm S R F w nSR nSF nRF gnS gnR hS hR2 hF hsl2 hrm2 hb0 (by decide) hG
      · exact lkRdOtherB c r rm S R F w nSR nSF nRF gnS gnR hS hR2 hF hsl2 hrm2 hb0 (by simp [Lib.indexByte, hne 32 h0, hne 115 h1, hne 112 h2, hne 97 h3, hne 111 h4, hne 38 h5, hne 124 h6]) hG

end Go.Proofs.YtfmckibiblhakaaGreatDoor
