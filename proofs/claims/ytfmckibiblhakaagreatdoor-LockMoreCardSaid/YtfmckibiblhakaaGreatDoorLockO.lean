/- The program's locks: does a lock open? -/
import Derived.Test.YtfmckibiblhakaaGreatDoorLockX
set_option linter.unusedSimpArgs false
set_option linter.unusedVariables false
namespace Go.Proofs.YtfmckibiblhakaaGreatDoor
open Go.RowKit

theorem allL_any (sg pr : List UInt8 → Bool) (a b : Int) : ∀ l : List LT, allL sg pr a b l = !(l.any fun x => !(opensL sg pr a b x))
  | [] => by rw [allL]; rfl
  | x :: r => by rw [allL, List.any_cons, allL_any sg pr a b r]; cases opensL sg pr a b x <;> simp
theorem anyL_any (sg pr : List UInt8 → Bool) (a b : Int) : ∀ l : List LT, anyL sg pr a b l = l.any (opensL sg pr a b)
  | [] => by rw [anyL]; rfl
  | x :: r => by rw [anyL, List.any_cons, anyL_any sg pr a b r]

set_option maxRecDepth 100000 in
set_option maxHeartbeats 1000000 in
theorem lkO2 (s t msg : List UInt8) (hs : s.length ≤ 9000000000000000000) (a b : Nat) (c0 c2 c3 : Value) (w : World) (H5 : w.heap[a]? = some (.cells #[c0, .string (bs t), c2, c3] 25 (0, 0))) (H7 : w.heap[b]? = some (.cells #[.string (bs msg)] 22 (0, 0))) (hG : GOk w) :
    Calls Tryz.prog 117 #[.string (bs s), .pointer (some ⟨a, 0, none⟩), .pointer (some ⟨b, 0, none⟩)] w fun e w' => e = .returned (.bool (verifyT t msg s)) ∧ Below w.heap.size w w' := by
  have f0 := blk_cell H5
  have f1 := blk_free H5
  have f2 := blk_cell H7
  have f3 := blk_free H7
  clear H5 H7
  go_enter Tryz.func117, Tryz.ntmps117
  go_wp2_with fail
  refine (tVerify t msg s hs _ hG).mono ?_
  rintro e w1 ⟨rfl, hb1⟩
  go_wp2_with fail
  go_ret
  exact ⟨rfl, hb1⟩

set_option maxRecDepth 100000 in
set_option maxHeartbeats 1000000 in
theorem lkO3 (s t : List UInt8) (hs : s.length ≤ 9000000000000000000) (a : Nat) (c0 c2 c3 : Value) (w : World) (H5 : w.heap[a]? = some (.cells #[c0, .string (bs t), c2, c3] 25 (0, 0))) (hG : GOk w) :
    Calls Tryz.prog 119 #[.string (bs s), .pointer (some ⟨a, 0, none⟩)] w fun e w' => e = .returned (.bool ((oneT 72 s).2 == 0 && (oneT 72 s).1 == t)) ∧ Below w.heap.size w w' := by
  have HB := Lib.hid H5
  clear H5
  have hc := tHash s hs w hG
  generalize oneT 72 s = z at *
  obtain ⟨h, n⟩ := z
  by_cases hn : n = 0
  · subst hn
    go_enter Tryz.func119, Tryz.ntmps119
    go_wp2_with fail
    refine hc.mono ?_
    rintro e w1 ⟨rfl, hb1⟩
    have hq := blk_below HB.out hb1 (blk_lt HB.out)
    have f0 := blk_cell hq
    have f1 := blk_free hq
    clear hq
    go_wp2_with fail
    go_ret
    exact ⟨by first | rfl | (congr 3; rw [Bool.eq_iff_iff]; simp) | (simp; done), hb1⟩
  · have b1 : (n == 0) = false := by simpa using hn
    clear hn
    go_enter Tryz.func119, Tryz.ntmps119
    go_wp2_with fail
    refine hc.mono ?_
    rintro e w1 ⟨rfl, hb1⟩
    go_wp2_with fail
    go_ret
    exact ⟨by first | (simp [b1]; done) | (rw [b1]; rfl), hb1⟩

theorem store_fn (a : Addr) (g : Nat) (cap : Array Value) (m : Mode) (w : World) : (store a (.func (.func g) #[] cap) m).run Tryz.prog w = stored Tryz.prog w a (.func (.func g) #[] cap) m := run_store Tryz.prog w a (.func (.func g) #[] cap) m rfl

def OpensIH (N : Nat) : Prop := ∀ (x : LT) (q : Nat → Prop) (v sv pv : Value) (sigs pres : List (List UInt8)) (msg : List UInt8) (after age : Int) (w : World), countL x ≤ N → LockIn q w x v → TermsAt sv sigs w → TermsAt pv pres w →
    sigs.length ≤ 9000000000000000000 → pres.length ≤ 9000000000000000000 → (∀ s ∈ sigs, s.length ≤ 9000000000000000000) → (∀ s ∈ pres, s.length ≤ 9000000000000000000) →
    -9223372036854775808 ≤ after ∧ after ≤ 9223372036854775807 → -9223372036854775808 ≤ age ∧ age ≤ 9223372036854775807 → GOk w →
    Calls Tryz.prog 84 #[v, .agg #[sv, pv], .string (bs msg), .int .i64 after, .int .i64 age] w fun e w' => e = .returned (.bool (opensL (sgP sigs msg) (prP pres) after age x)) ∧ Below w.heap.size w w'

set_option maxRecDepth 100000 in
set_option maxHeartbeats 4000000 in
theorem lkOpens1 (n : Int) (t : List UInt8) (kids : List LT) (ad : Option Addr) (c : Nat) (sa pa : Option Addr) (sc pc : Nat) (sigs pres : List (List UInt8)) (msg : List UInt8) (after age : Int) (w : World) (q : Nat → Prop)
    (hsv : TermsAt (.slice sa sigs.length sc) sigs w) (hpv : TermsAt (.slice pa pres.length pc) pres w) (hsn : sigs.length ≤ 9000000000000000000) (hpn : pres.length ≤ 9000000000000000000) (hst : ∀ s ∈ sigs, s.length ≤ 9000000000000000000) (hpt : ∀ s ∈ pres, s.length ≤ 9000000000000000000)
    (ha : -9223372036854775808 ≤ after ∧ after ≤ 9223372036854775807) (hg : -9223372036854775808 ≤ age ∧ age ≤ 9223372036854775807) (hn : -9223372036854775808 ≤ n ∧ n ≤ 9223372036854775807) (hkn : kids.length ≤ 9000000000000000000) (hG : GOk w)  :
    Calls Tryz.prog 84 #[.agg #[.int .u8 1, .string (bs t), .int .i64 n, .slice ad kids.length c], .agg #[.slice sa sigs.length sc, .slice pa pres.length pc], .string (bs msg), .int .i64 after, .int .i64 age] w fun e w' =>
      e = .returned (.bool (sgP sigs msg t)) ∧ Below w.heap.size w w' := by
  have hsf := store_fn
  have HG0 := Lib.hid hG
  have HSV := Lib.hid hsv
  have HPV := Lib.hid hpv
  have HST := Lib.hid hst
  have HPT := Lib.hid hpt
  clear hG hsv hpv hst hpt
  go_enter Tryz.func84, Tryz.ntmps84
  have hg0 : GL [] w w := gl_refl _ _
  have hs0 : w.heap.size ≤ w.heap.size := Nat.le_refl _
  go_wp2_with fail
  have HLK1 : Hid (((((((w.alloc (.cells #[.int .u8 1, .string (bs t), .int .i64 n, .slice ad kids.length c] 25)).alloc (.cells #[.slice sa sigs.length sc, .slice pa pres.length pc] 40)).alloc (.cells #[.string (bs msg)] 22)).alloc (.cells #[.int .i64 after] 3)).alloc (.cells #[.int .i64 age] 3)).alloc (.cells #[.func (.func 115) #[] #[.pointer (some ⟨w.heap.size + 1, 0, none⟩), .pointer (some ⟨w.heap.size + 1 + 1, 0, none⟩), .pointer (some ⟨w.heap.size + 1 + 1 + 1, 0, none⟩), .pointer (some ⟨w.heap.size + 1 + 1 + 1 + 1, 0, none⟩)]] 30)).heap[w.heap.size]? = some (.cells #[.int .u8 1, .string (bs t), .int .i64 n, .slice ad kids.length c] 25 (0, 0))) := by
    have h := blk_new w (.cells #[.int .u8 1, .string (bs t), .int .i64 n, .slice ad kids.length c] 25)
    exact (blk_alloc (blk_alloc (blk_alloc (blk_alloc (blk_alloc h (.cells #[.slice sa sigs.length sc, .slice pa pres.length pc] 40)) (.cells #[.string (bs msg)] 22)) (.cells #[.int .i64 after] 3)) (.cells #[.int .i64 age] 3)) (.cells #[.func (.func 115) #[] #[.pointer (some ⟨w.heap.size + 1, 0, none⟩), .pointer (some ⟨w.heap.size + 1 + 1, 0, none⟩), .pointer (some ⟨w.heap.size + 1 + 1 + 1, 0, none⟩), .pointer (some ⟨w.heap.size + 1 + 1 + 1 + 1, 0, none⟩)]] 30))
  have HWT1 : Hid (((((((w.alloc (.cells #[.int .u8 1, .string (bs t), .int .i64 n, .slice ad kids.length c] 25)).alloc (.cells #[.slice sa sigs.length sc, .slice pa pres.length pc] 40)).alloc (.cells #[.string (bs msg)] 22)).alloc (.cells #[.int .i64 after] 3)).alloc (.cells #[.int .i64 age] 3)).alloc (.cells #[.func (.func 115) #[] #[.pointer (some ⟨w.heap.size + 1, 0, none⟩), .pointer (some ⟨w.heap.size + 1 + 1, 0, none⟩), .pointer (some ⟨w.heap.size + 1 + 1 + 1, 0, none⟩), .pointer (some ⟨w.heap.size + 1 + 1 + 1 + 1, 0, none⟩)]] 30)).heap[w.heap.size + 1]? = some (.cells #[.slice sa sigs.length sc, .slice pa pres.length pc] 40 (0, 0))) := by
    have h := blk_new (w.alloc (.cells #[.int .u8 1, .string (bs t), .int .i64 n, .slice ad kids.length c] 25)) (.cells #[.slice sa sigs.length sc, .slice pa pres.length pc] 40)
    rw [show (w.alloc (.cells #[.int .u8 1, .string (bs t), .int .i64 n, .slice ad kids.length c] 25)).heap.size = w.heap.size + 1 by simp] at h
    exact (blk_alloc (blk_alloc (blk_alloc (blk_alloc h (.cells #[.string (bs msg)] 22)) (.cells #[.int .i64 after] 3)) (.cells #[.int .i64 age] 3)) (.cells #[.func (.func 115) #[] #[.pointer (some ⟨w.heap.size + 1, 0, none⟩), .pointer (some ⟨w.heap.size + 1 + 1, 0, none⟩), .pointer (some ⟨w.heap.size + 1 + 1 + 1, 0, none⟩), .pointer (some ⟨w.heap.size + 1 + 1 + 1 + 1, 0, none⟩)]] 30))
  have HMS1 : Hid (((((((w.alloc (.cells #[.int .u8 1, .string (bs t), .int .i64 n, .slice ad kids.length c] 25)).alloc (.cells #[.slice sa sigs.length sc, .slice pa pres.length pc] 40)).alloc (.cells #[.string (bs msg)] 22)).alloc (.cells #[.int .i64 after] 3)).alloc (.cells #[.int .i64 age] 3)).alloc (.cells #[.func (.func 115) #[] #[.pointer (some ⟨w.heap.size + 1, 0, none⟩), .pointer (some ⟨w.heap.size + 1 + 1, 0, none⟩), .pointer (some ⟨w.heap.size + 1 + 1 + 1, 0, none⟩), .pointer (some ⟨w.heap.size + 1 + 1 + 1 + 1, 0, none⟩)]] 30)).heap[w.heap.size + 1 + 1]? = some (.cells #[.string (bs msg)] 22 (0, 0))) := by
    have h := blk_new ((w.alloc (.cells #[.int .u8 1, .string (bs t), .int .i64 n, .slice ad kids.length c] 25)).alloc (.cells #[.slice sa sigs.length sc, .slice pa pres.length pc] 40)) (.cells #[.string (bs msg)] 22)
    rw [show ((w.alloc (.cells #[.int .u8 1, .string (bs t), .int .i64 n, .slice ad kids.length c] 25)).alloc (.cells #[.slice sa sigs.length sc, .slice pa pres.length pc] 40)).heap.size = w.heap.size + 1 + 1 by simp] at h
    exact (blk_alloc (blk_alloc (blk_alloc h (.cells #[.int .i64 after] 3)) (.cells #[.int .i64 age] 3)) (.cells #[.func (.func 115) #[] #[.pointer (some ⟨w.heap.size + 1, 0, none⟩), .pointer (some ⟨w.heap.size + 1 + 1, 0, none⟩), .pointer (some ⟨w.heap.size + 1 + 1 + 1, 0, none⟩), .pointer (some ⟨w.heap.size + 1 + 1 + 1 + 1, 0, none⟩)]] 30))
  have HAF1 : Hid (((((((w.alloc (.cells #[.int .u8 1, .string (bs t), .int .i64 n, .slice ad kids.length c] 25)).alloc (.cells #[.slice sa sigs.length sc, .slice pa pres.length pc] 40)).alloc (.cells #[.string (bs msg)] 22)).alloc (.cells #[.int .i64 after] 3)).alloc (.cells #[.int .i64 age] 3)).alloc (.cells #[.func (.func 115) #[] #[.pointer (some ⟨w.heap.size + 1, 0, none⟩), .pointer (some ⟨w.heap.size + 1 + 1, 0, none⟩), .pointer (some ⟨w.heap.size + 1 + 1 + 1, 0, none⟩), .pointer (some ⟨w.heap.size + 1 + 1 + 1 + 1, 0, none⟩)]] 30)).heap[w.heap.size + 1 + 1 + 1]? = some (.cells #[.int .i64 after] 3 (0, 0))) := by
    have h := blk_new (((w.alloc (.cells #[.int .u8 1, .string (bs t), .int .i64 n, .slice ad kids.length c] 25)).alloc (.cells #[.slice sa sigs.length sc, .slice pa pres.length pc] 40)).alloc (.cells #[.string (bs msg)] 22)) (.cells #[.int .i64 after] 3)
    rw [show (((w.alloc (.cells #[.int .u8 1, .string (bs t), .int .i64 n, .slice ad kids.length c] 25)).alloc (.cells #[.slice sa sigs.length sc, .slice pa pres.length pc] 40)).alloc (.cells #[.string (bs msg)] 22)).heap.size = w.heap.size + 1 + 1 + 1 by simp] at h
    exact (blk_alloc (blk_alloc h (.cells #[.int .i64 age] 3)) (.cells #[.func (.func 115) #[] #[.pointer (some ⟨w.heap.size + 1, 0, none⟩), .pointer (some ⟨w.heap.size + 1 + 1, 0, none⟩), .pointer (some ⟨w.heap.size + 1 + 1 + 1, 0, none⟩), .pointer (some ⟨w.heap.size + 1 + 1 + 1 + 1, 0, none⟩)]] 30))
  have HAG1 : Hid (((((((w.alloc (.cells #[.int .u8 1, .string (bs t), .int .i64 n, .slice ad kids.length c] 25)).alloc (.cells #[.slice sa sigs.length sc, .slice pa pres.length pc] 40)).alloc (.cells #[.string (bs msg)] 22)).alloc (.cells #[.int .i64 after] 3)).alloc (.cells #[.int .i64 age] 3)).alloc (.cells #[.func (.func 115) #[] #[.pointer (some ⟨w.heap.size + 1, 0, none⟩), .pointer (some ⟨w.heap.size + 1 + 1, 0, none⟩), .pointer (some ⟨w.heap.size + 1 + 1 + 1, 0, none⟩), .pointer (some ⟨w.heap.size + 1 + 1 + 1 + 1, 0, none⟩)]] 30)).heap[w.heap.size + 1 + 1 + 1 + 1]? = some (.cells #[.int .i64 age] 3 (0, 0))) := by
    have h := blk_new ((((w.alloc (.cells #[.int .u8 1, .string (bs t), .int .i64 n, .slice ad kids.length c] 25)).alloc (.cells #[.slice sa sigs.length sc, .slice pa pres.length pc] 40)).alloc (.cells #[.string (bs msg)] 22)).alloc (.cells #[.int .i64 after] 3)) (.cells #[.int .i64 age] 3)
    rw [show ((((w.alloc (.cells #[.int .u8 1, .string (bs t), .int .i64 n, .slice ad kids.length c] 25)).alloc (.cells #[.slice sa sigs.length sc, .slice pa pres.length pc] 40)).alloc (.cells #[.string (bs msg)] 22)).alloc (.cells #[.int .i64 after] 3)).heap.size = w.heap.size + 1 + 1 + 1 + 1 by simp] at h
    exact (blk_alloc h (.cells #[.func (.func 115) #[] #[.pointer (some ⟨w.heap.size + 1, 0, none⟩), .pointer (some ⟨w.heap.size + 1 + 1, 0, none⟩), .pointer (some ⟨w.heap.size + 1 + 1 + 1, 0, none⟩), .pointer (some ⟨w.heap.size + 1 + 1 + 1 + 1, 0, none⟩)]] 30))
  have HWI1 : Hid (((((((w.alloc (.cells #[.int .u8 1, .string (bs t), .int .i64 n, .slice ad kids.length c] 25)).alloc (.cells #[.slice sa sigs.length sc, .slice pa pres.length pc] 40)).alloc (.cells #[.string (bs msg)] 22)).alloc (.cells #[.int .i64 after] 3)).alloc (.cells #[.int .i64 age] 3)).alloc (.cells #[.func (.func 115) #[] #[.pointer (some ⟨w.heap.size + 1, 0, none⟩), .pointer (some ⟨w.heap.size + 1 + 1, 0, none⟩), .pointer (some ⟨w.heap.size + 1 + 1 + 1, 0, none⟩), .pointer (some ⟨w.heap.size + 1 + 1 + 1 + 1, 0, none⟩)]] 30)).heap[w.heap.size + 1 + 1 + 1 + 1 + 1]? = some (.cells #[.func (.func 115) #[] #[.pointer (some ⟨w.heap.size + 1, 0, none⟩), .pointer (some ⟨w.heap.size + 1 + 1, 0, none⟩), .pointer (some ⟨w.heap.size + 1 + 1 + 1, 0, none⟩), .pointer (some ⟨w.heap.size + 1 + 1 + 1 + 1, 0, none⟩)]] 30 (0, 0))) := by
    have h := blk_new (((((w.alloc (.cells #[.int .u8 1, .string (bs t), .int .i64 n, .slice ad kids.length c] 25)).alloc (.cells #[.slice sa sigs.length sc, .slice pa pres.length pc] 40)).alloc (.cells #[.string (bs msg)] 22)).alloc (.cells #[.int .i64 after] 3)).alloc (.cells #[.int .i64 age] 3)) (.cells #[.func (.func 115) #[] #[.pointer (some ⟨w.heap.size + 1, 0, none⟩), .pointer (some ⟨w.heap.size + 1 + 1, 0, none⟩), .pointer (some ⟨w.heap.size + 1 + 1 + 1, 0, none⟩), .pointer (some ⟨w.heap.size + 1 + 1 + 1 + 1, 0, none⟩)]] 30)
    rw [show (((((w.alloc (.cells #[.int .u8 1, .string (bs t), .int .i64 n, .slice ad kids.length c] 25)).alloc (.cells #[.slice sa sigs.length sc, .slice pa pres.length pc] 40)).alloc (.cells #[.string (bs msg)] 22)).alloc (.cells #[.int .i64 after] 3)).alloc (.cells #[.int .i64 age] 3)).heap.size = w.heap.size + 1 + 1 + 1 + 1 + 1 by simp] at h
    exact h
  have HG1 := Lib.hid (gok_alloc (gok_alloc (gok_alloc (gok_alloc (gok_alloc (gok_alloc HG0.out (.cells #[.int .u8 1, .string (bs t), .int .i64 n, .slice ad kids.length c] 25)) (.cells #[.slice sa sigs.length sc, .slice pa pres.length pc] 40)) (.cells #[.string (bs msg)] 22)) (.cells #[.int .i64 after] 3)) (.cells #[.int .i64 age] 3)) (.cells #[.func (.func 115) #[] #[.pointer (some ⟨w.heap.size + 1, 0, none⟩), .pointer (some ⟨w.heap.size + 1 + 1, 0, none⟩), .pointer (some ⟨w.heap.size + 1 + 1 + 1, 0, none⟩), .pointer (some ⟨w.heap.size + 1 + 1 + 1 + 1, 0, none⟩)]] 30))
  have hg1 : GL [] w ((((((w.alloc (.cells #[.int .u8 1, .string (bs t), .int .i64 n, .slice ad kids.length c] 25)).alloc (.cells #[.slice sa sigs.length sc, .slice pa pres.length pc] 40)).alloc (.cells #[.string (bs msg)] 22)).alloc (.cells #[.int .i64 after] 3)).alloc (.cells #[.int .i64 age] 3)).alloc (.cells #[.func (.func 115) #[] #[.pointer (some ⟨w.heap.size + 1, 0, none⟩), .pointer (some ⟨w.heap.size + 1 + 1, 0, none⟩), .pointer (some ⟨w.heap.size + 1 + 1 + 1, 0, none⟩), .pointer (some ⟨w.heap.size + 1 + 1 + 1 + 1, 0, none⟩)]] 30)) := (gl_alloc (gl_alloc (gl_alloc (gl_alloc (gl_alloc (gl_alloc hg0 (.cells #[.int .u8 1, .string (bs t), .int .i64 n, .slice ad kids.length c] 25)) (.cells #[.slice sa sigs.length sc, .slice pa pres.length pc] 40)) (.cells #[.string (bs msg)] 22)) (.cells #[.int .i64 after] 3)) (.cells #[.int .i64 age] 3)) (.cells #[.func (.func 115) #[] #[.pointer (some ⟨w.heap.size + 1, 0, none⟩), .pointer (some ⟨w.heap.size + 1 + 1, 0, none⟩), .pointer (some ⟨w.heap.size + 1 + 1 + 1, 0, none⟩), .pointer (some ⟨w.heap.size + 1 + 1 + 1 + 1, 0, none⟩)]] 30))
  have geLK : w.heap.size ≤ w.heap.size := by have := hg0.size; omega
  have gnLK : gN ≤ w.heap.size := by have := HG0.out.size; omega
  have geWT : w.heap.size ≤ w.heap.size + 1 := by have := hg0.size; omega
  have gnWT : gN ≤ w.heap.size + 1 := by have := HG0.out.size; omega
  have ltLKWT : w.heap.size < w.heap.size + 1 := by omega
  have neLKWT : w.heap.size ≠ w.heap.size + 1 := by omega
  have neWTLK : w.heap.size + 1 ≠ w.heap.size := by omega
  have geMS : w.heap.size ≤ w.heap.size + 1 + 1 := by have := hg0.size; omega
  have gnMS : gN ≤ w.heap.size + 1 + 1 := by have := HG0.out.size; omega
  have ltLKMS : w.heap.size < w.heap.size + 1 + 1 := by omega
  have neLKMS : w.heap.size ≠ w.heap.size + 1 + 1 := by omega
  have neMSLK : w.heap.size + 1 + 1 ≠ w.heap.size := by omega
  have ltWTMS : w.heap.size + 1 < w.heap.size + 1 + 1 := by omega
  have neWTMS : w.heap.size + 1 ≠ w.heap.size + 1 + 1 := by omega
  have neMSWT : w.heap.size + 1 + 1 ≠ w.heap.size + 1 := by omega
  have geAF : w.heap.size ≤ w.heap.size + 1 + 1 + 1 := by have := hg0.size; omega
  have gnAF : gN ≤ w.heap.size + 1 + 1 + 1 := by have := HG0.out.size; omega
  have ltLKAF : w.heap.size < w.heap.size + 1 + 1 + 1 := by omega
  have neLKAF : w.heap.size ≠ w.heap.size + 1 + 1 + 1 := by omega
  have neAFLK : w.heap.size + 1 + 1 + 1 ≠ w.heap.size := by omega
  have ltWTAF : w.heap.size + 1 < w.heap.size + 1 + 1 + 1 := by omega
  have neWTAF : w.heap.size + 1 ≠ w.heap.size + 1 + 1 + 1 := by omega
  have neAFWT : w.heap.size + 1 + 1 + 1 ≠ w.heap.size + 1 := by omega
  have ltMSAF : w.heap.size + 1 + 1 < w.heap.size + 1 + 1 + 1 := by omega
  have neMSAF : w.heap.size + 1 + 1 ≠ w.heap.size + 1 + 1 + 1 := by omega
  have neAFMS : w.heap.size + 1 + 1 + 1 ≠ w.heap.size + 1 + 1 := by omega
  have geAG : w.heap.size ≤ w.heap.size + 1 + 1 + 1 + 1 := by have := hg0.size; omega
  have gnAG : gN ≤ w.heap.size + 1 + 1 + 1 + 1 := by have := HG0.out.size; omega
  have ltLKAG : w.heap.size < w.heap.size + 1 + 1 + 1 + 1 := by omega
  have neLKAG : w.heap.size ≠ w.heap.size + 1 + 1 + 1 + 1 := by omega
  have neAGLK : w.heap.size + 1 + 1 + 1 + 1 ≠ w.heap.size := by omega
  have ltWTAG : w.heap.size + 1 < w.heap.size + 1 + 1 + 1 + 1 := by omega
  have neWTAG : w.heap.size + 1 ≠ w.heap.size + 1 + 1 + 1 + 1 := by omega
  have neAGWT : w.heap.size + 1 + 1 + 1 + 1 ≠ w.heap.size + 1 := by omega
  have ltMSAG : w.heap.size + 1 + 1 < w.heap.size + 1 + 1 + 1 + 1 := by omega
  have neMSAG : w.heap.size + 1 + 1 ≠ w.heap.size + 1 + 1 + 1 + 1 := by omega
  have neAGMS : w.heap.size + 1 + 1 + 1 + 1 ≠ w.heap.size + 1 + 1 := by omega
  have ltAFAG : w.heap.size + 1 + 1 + 1 < w.heap.size + 1 + 1 + 1 + 1 := by omega
  have neAFAG : w.heap.size + 1 + 1 + 1 ≠ w.heap.size + 1 + 1 + 1 + 1 := by omega
  have neAGAF : w.heap.size + 1 + 1 + 1 + 1 ≠ w.heap.size + 1 + 1 + 1 := by omega
  have geWI : w.heap.size ≤ w.heap.size + 1 + 1 + 1 + 1 + 1 := by have := hg0.size; omega
  have gnWI : gN ≤ w.heap.size + 1 + 1 + 1 + 1 + 1 := by have := HG0.out.size; omega
  have ltLKWI : w.heap.size < w.heap.size + 1 + 1 + 1 + 1 + 1 := by omega
  have neLKWI : w.heap.size ≠ w.heap.size + 1 + 1 + 1 + 1 + 1 := by omega
  have neWILK : w.heap.size + 1 + 1 + 1 + 1 + 1 ≠ w.heap.size := by omega
  have ltWTWI : w.heap.size + 1 < w.heap.size + 1 + 1 + 1 + 1 + 1 := by omega
  have neWTWI : w.heap.size + 1 ≠ w.heap.size + 1 + 1 + 1 + 1 + 1 := by omega
  have neWIWT : w.heap.size + 1 + 1 + 1 + 1 + 1 ≠ w.heap.size + 1 := by omega
  have ltMSWI : w.heap.size + 1 + 1 < w.heap.size + 1 + 1 + 1 + 1 + 1 := by omega
  have neMSWI : w.heap.size + 1 + 1 ≠ w.heap.size + 1 + 1 + 1 + 1 + 1 := by omega
  have neWIMS : w.heap.size + 1 + 1 + 1 + 1 + 1 ≠ w.heap.size + 1 + 1 := by omega
  have ltAFWI : w.heap.size + 1 + 1 + 1 < w.heap.size + 1 + 1 + 1 + 1 + 1 := by omega
  have neAFWI : w.heap.size + 1 + 1 + 1 ≠ w.heap.size + 1 + 1 + 1 + 1 + 1 := by omega
  have neWIAF : w.heap.size + 1 + 1 + 1 + 1 + 1 ≠ w.heap.size + 1 + 1 + 1 := by omega
  have ltAGWI : w.heap.size + 1 + 1 + 1 + 1 < w.heap.size + 1 + 1 + 1 + 1 + 1 := by omega
  have neAGWI : w.heap.size + 1 + 1 + 1 + 1 ≠ w.heap.size + 1 + 1 + 1 + 1 + 1 := by omega
  have neWIAG : w.heap.size + 1 + 1 + 1 + 1 + 1 ≠ w.heap.size + 1 + 1 + 1 + 1 := by omega
  generalize ((((((w.alloc (.cells #[.int .u8 1, .string (bs t), .int .i64 n, .slice ad kids.length c] 25)).alloc (.cells #[.slice sa sigs.length sc, .slice pa pres.length pc] 40)).alloc (.cells #[.string (bs msg)] 22)).alloc (.cells #[.int .i64 after] 3)).alloc (.cells #[.int .i64 age] 3)).alloc (.cells #[.func (.func 115) #[] #[.pointer (some ⟨w.heap.size + 1, 0, none⟩), .pointer (some ⟨w.heap.size + 1 + 1, 0, none⟩), .pointer (some ⟨w.heap.size + 1 + 1 + 1, 0, none⟩), .pointer (some ⟨w.heap.size + 1 + 1 + 1 + 1, 0, none⟩)]] 30)) = w1 at *
  generalize w.heap.size + 1 + 1 + 1 + 1 + 1 = WI at *
  generalize w.heap.size + 1 + 1 + 1 + 1 = AG at *
  generalize w.heap.size + 1 + 1 + 1 = AF at *
  generalize w.heap.size + 1 + 1 = MS at *
  generalize w.heap.size + 1 = WT at *
  generalize w.heap.size = LK at *
  have hs1 : w.heap.size ≤ w1.heap.size := hg1.size
  refine (tContainsT 117 _ (fun _ _ => by kernel_rfl) (verifyT t msg) sigs hsn _ _ (termsAt_gl HSV.out hg1) (fun W x hx hgw => ?_)).mono ?_
  · exact lkO2 x t msg (HST.out x hx) LK MS _ _ _ W (blk_gl HLK1.out hgw (by simp)) (blk_gl HMS1.out hgw (by simp)) (gok_gl HG1.out hgw (by simp))
  rintro e w2 ⟨rfl, hb2⟩
  go_wp2_with fail
  go_ret
  exact ⟨rfl, gl_to_below (gl_below hb2 hg1)⟩

set_option maxRecDepth 100000 in
set_option maxHeartbeats 4000000 in
theorem lkOpens2 (n : Int) (t : List UInt8) (kids : List LT) (ad : Option Addr) (c : Nat) (sa pa : Option Addr) (sc pc : Nat) (sigs pres : List (List UInt8)) (msg : List UInt8) (after age : Int) (w : World) (q : Nat → Prop)
    (hsv : TermsAt (.slice sa sigs.length sc) sigs w) (hpv : TermsAt (.slice pa pres.length pc) pres w) (hsn : sigs.length ≤ 9000000000000000000) (hpn : pres.length ≤ 9000000000000000000) (hst : ∀ s ∈ sigs, s.length ≤ 9000000000000000000) (hpt : ∀ s ∈ pres, s.length ≤ 9000000000000000000)
    (ha : -9223372036854775808 ≤ after ∧ after ≤ 9223372036854775807) (hg : -9223372036854775808 ≤ age ∧ age ≤ 9223372036854775807) (hn : -9223372036854775808 ≤ n ∧ n ≤ 9223372036854775807) (hkn : kids.length ≤ 9000000000000000000) (hG : GOk w)  :
    Calls Tryz.prog 84 #[.agg #[.int .u8 2, .string (bs t), .int .i64 n, .slice ad kids.length c], .agg #[.slice sa sigs.length sc, .slice pa pres.length pc], .string (bs msg), .int .i64 after, .int .i64 age] w fun e w' =>
      e = .returned (.bool (prP pres t)) ∧ Below w.heap.size w w' := by
  have hsf := store_fn
  have HG0 := Lib.hid hG
  have HSV := Lib.hid hsv
  have HPV := Lib.hid hpv
  have HST := Lib.hid hst
  have HPT := Lib.hid hpt
  clear hG hsv hpv hst hpt
  go_enter Tryz.func84, Tryz.ntmps84
  have hg0 : GL [] w w := gl_refl _ _
  have hs0 : w.heap.size ≤ w.heap.size := Nat.le_refl _
  go_wp2_with fail
  have HLK1 : Hid (((((((w.alloc (.cells #[.int .u8 2, .string (bs t), .int .i64 n, .slice ad kids.length c] 25)).alloc (.cells #[.slice sa sigs.length sc, .slice pa pres.length pc] 40)).alloc (.cells #[.string (bs msg)] 22)).alloc (.cells #[.int .i64 after] 3)).alloc (.cells #[.int .i64 age] 3)).alloc (.cells #[.func (.func 115) #[] #[.pointer (some ⟨w.heap.size + 1, 0, none⟩), .pointer (some ⟨w.heap.size + 1 + 1, 0, none⟩), .pointer (some ⟨w.heap.size + 1 + 1 + 1, 0, none⟩), .pointer (some ⟨w.heap.size + 1 + 1 + 1 + 1, 0, none⟩)]] 30)).heap[w.heap.size]? = some (.cells #[.int .u8 2, .string (bs t), .int .i64 n, .slice ad kids.length c] 25 (0, 0))) := by
    have h := blk_new w (.cells #[.int .u8 2, .string (bs t), .int .i64 n, .slice ad kids.length c] 25)
    exact (blk_alloc (blk_alloc (blk_alloc (blk_alloc (blk_alloc h (.cells #[.slice sa sigs.length sc, .slice pa pres.length pc] 40)) (.cells #[.string (bs msg)] 22)) (.cells #[.int .i64 after] 3)) (.cells #[.int .i64 age] 3)) (.cells #[.func (.func 115) #[] #[.pointer (some ⟨w.heap.size + 1, 0, none⟩), .pointer (some ⟨w.heap.size + 1 + 1, 0, none⟩), .pointer (some ⟨w.heap.size + 1 + 1 + 1, 0, none⟩), .pointer (some ⟨w.heap.size + 1 + 1 + 1 + 1, 0, none⟩)]] 30))
  have HWT1 : Hid (((((((w.alloc (.cells #[.int .u8 2, .string (bs t), .int .i64 n, .slice ad kids.length c] 25)).alloc (.cells #[.slice sa sigs.length sc, .slice pa pres.length pc] 40)).alloc (.cells #[.string (bs msg)] 22)).alloc (.cells #[.int .i64 after] 3)).alloc (.cells #[.int .i64 age] 3)).alloc (.cells #[.func (.func 115) #[] #[.pointer (some ⟨w.heap.size + 1, 0, none⟩), .pointer (some ⟨w.heap.size + 1 + 1, 0, none⟩), .pointer (some ⟨w.heap.size + 1 + 1 + 1, 0, none⟩), .pointer (some ⟨w.heap.size + 1 + 1 + 1 + 1, 0, none⟩)]] 30)).heap[w.heap.size + 1]? = some (.cells #[.slice sa sigs.length sc, .slice pa pres.length pc] 40 (0, 0))) := by
    have h := blk_new (w.alloc (.cells #[.int .u8 2, .string (bs t), .int .i64 n, .slice ad kids.length c] 25)) (.cells #[.slice sa sigs.length sc, .slice pa pres.length pc] 40)
    rw [show (w.alloc (.cells #[.int .u8 2, .string (bs t), .int .i64 n, .slice ad kids.length c] 25)).heap.size = w.heap.size + 1 by simp] at h
    exact (blk_alloc (blk_alloc (blk_alloc (blk_alloc h (.cells #[.string (bs msg)] 22)) (.cells #[.int .i64 after] 3)) (.cells #[.int .i64 age] 3)) (.cells #[.func (.func 115) #[] #[.pointer (some ⟨w.heap.size + 1, 0, none⟩), .pointer (some ⟨w.heap.size + 1 + 1, 0, none⟩), .pointer (some ⟨w.heap.size + 1 + 1 + 1, 0, none⟩), .pointer (some ⟨w.heap.size + 1 + 1 + 1 + 1, 0, none⟩)]] 30))
  have HMS1 : Hid (((((((w.alloc (.cells #[.int .u8 2, .string (bs t), .int .i64 n, .slice ad kids.length c] 25)).alloc (.cells #[.slice sa sigs.length sc, .slice pa pres.length pc] 40)).alloc (.cells #[.string (bs msg)] 22)).alloc (.cells #[.int .i64 after] 3)).alloc (.cells #[.int .i64 age] 3)).alloc (.cells #[.func (.func 115) #[] #[.pointer (some ⟨w.heap.size + 1, 0, none⟩), .pointer (some ⟨w.heap.size + 1 + 1, 0, none⟩), .pointer (some ⟨w.heap.size + 1 + 1 + 1, 0, none⟩), .pointer (some ⟨w.heap.size + 1 + 1 + 1 + 1, 0, none⟩)]] 30)).heap[w.heap.size + 1 + 1]? = some (.cells #[.string (bs msg)] 22 (0, 0))) := by
    have h := blk_new ((w.alloc (.cells #[.int .u8 2, .string (bs t), .int .i64 n, .slice ad kids.length c] 25)).alloc (.cells #[.slice sa sigs.length sc, .slice pa pres.length pc] 40)) (.cells #[.string (bs msg)] 22)
    rw [show ((w.alloc (.cells #[.int .u8 2, .string (bs t), .int .i64 n, .slice ad kids.length c] 25)).alloc (.cells #[.slice sa sigs.length sc, .slice pa pres.length pc] 40)).heap.size = w.heap.size + 1 + 1 by simp] at h
    exact (blk_alloc (blk_alloc (blk_alloc h (.cells #[.int .i64 after] 3)) (.cells #[.int .i64 age] 3)) (.cells #[.func (.func 115) #[] #[.pointer (some ⟨w.heap.size + 1, 0, none⟩), .pointer (some ⟨w.heap.size + 1 + 1, 0, none⟩), .pointer (some ⟨w.heap.size + 1 + 1 + 1, 0, none⟩), .pointer (some ⟨w.heap.size + 1 + 1 + 1 + 1, 0, none⟩)]] 30))
  have HAF1 : Hid (((((((w.alloc (.cells #[.int .u8 2, .string (bs t), .int .i64 n, .slice ad kids.length c] 25)).alloc (.cells #[.slice sa sigs.length sc, .slice pa pres.length pc] 40)).alloc (.cells #[.string (bs msg)] 22)).alloc (.cells #[.int .i64 after] 3)).alloc (.cells #[.int .i64 age] 3)).alloc (.cells #[.func (.func 115) #[] #[.pointer (some ⟨w.heap.size + 1, 0, none⟩), .pointer (some ⟨w.heap.size + 1 + 1, 0, none⟩), .pointer (some ⟨w.heap.size + 1 + 1 + 1, 0, none⟩), .pointer (some ⟨w.heap.size + 1 + 1 + 1 + 1, 0, none⟩)]] 30)).heap[w.heap.size + 1 + 1 + 1]? = some (.cells #[.int .i64 after] 3 (0, 0))) := by
    have h := blk_new (((w.alloc (.cells #[.int .u8 2, .string (bs t), .int .i64 n, .slice ad kids.length c] 25)).alloc (.cells #[.slice sa sigs.length sc, .slice pa pres.length pc] 40)).alloc (.cells #[.string (bs msg)] 22)) (.cells #[.int .i64 after] 3)
    rw [show (((w.alloc (.cells #[.int .u8 2, .string (bs t), .int .i64 n, .slice ad kids.length c] 25)).alloc (.cells #[.slice sa sigs.length sc, .slice pa pres.length pc] 40)).alloc (.cells #[.string (bs msg)] 22)).heap.size = w.heap.size + 1 + 1 + 1 by simp] at h
    exact (blk_alloc (blk_alloc h (.cells #[.int .i64 age] 3)) (.cells #[.func (.func 115) #[] #[.pointer (some ⟨w.heap.size + 1, 0, none⟩), .pointer (some ⟨w.heap.size + 1 + 1, 0, none⟩), .pointer (some ⟨w.heap.size + 1 + 1 + 1, 0, none⟩), .pointer (some ⟨w.heap.size + 1 + 1 + 1 + 1, 0, none⟩)]] 30))
  have HAG1 : Hid (((((((w.alloc (.cells #[.int .u8 2, .string (bs t), .int .i64 n, .slice ad kids.length c] 25)).alloc (.cells #[.slice sa sigs.length sc, .slice pa pres.length pc] 40)).alloc (.cells #[.string (bs msg)] 22)).alloc (.cells #[.int .i64 after] 3)).alloc (.cells #[.int .i64 age] 3)).alloc (.cells #[.func (.func 115) #[] #[.pointer (some ⟨w.heap.size + 1, 0, none⟩), .pointer (some ⟨w.heap.size + 1 + 1, 0, none⟩), .pointer (some ⟨w.heap.size + 1 + 1 + 1, 0, none⟩), .pointer (some ⟨w.heap.size + 1 + 1 + 1 + 1, 0, none⟩)]] 30)).heap[w.heap.size + 1 + 1 + 1 + 1]? = some (.cells #[.int .i64 age] 3 (0, 0))) := by
    have h := blk_new ((((w.alloc (.cells #[.int .u8 2, .string (bs t), .int .i64 n, .slice ad kids.length c] 25)).alloc (.cells #[.slice sa sigs.length sc, .slice pa pres.length pc] 40)).alloc (.cells #[.string (bs msg)] 22)).alloc (.cells #[.int .i64 after] 3)) (.cells #[.int .i64 age] 3)
    rw [show ((((w.alloc (.cells #[.int .u8 2, .string (bs t), .int .i64 n, .slice ad kids.length c] 25)).alloc (.cells #[.slice sa sigs.length sc, .slice pa pres.length pc] 40)).alloc (.cells #[.string (bs msg)] 22)).alloc (.cells #[.int .i64 after] 3)).heap.size = w.heap.size + 1 + 1 + 1 + 1 by simp] at h
    exact (blk_alloc h (.cells #[.func (.func 115) #[] #[.pointer (some ⟨w.heap.size + 1, 0, none⟩), .pointer (some ⟨w.heap.size + 1 + 1, 0, none⟩), .pointer (some ⟨w.heap.size + 1 + 1 + 1, 0, none⟩), .pointer (some ⟨w.heap.size + 1 + 1 + 1 + 1, 0, none⟩)]] 30))
  have HWI1 : Hid (((((((w.alloc (.cells #[.int .u8 2, .string (bs t), .int .i64 n, .slice ad kids.length c] 25)).alloc (.cells #[.slice sa sigs.length sc, .slice pa pres.length pc] 40)).alloc (.cells #[.string (bs msg)] 22)).alloc (.cells #[.int .i64 after] 3)).alloc (.cells #[.int .i64 age] 3)).alloc (.cells #[.func (.func 115) #[] #[.pointer (some ⟨w.heap.size + 1, 0, none⟩), .pointer (some ⟨w.heap.size + 1 + 1, 0, none⟩), .pointer (some ⟨w.heap.size + 1 + 1 + 1, 0, none⟩), .pointer (some ⟨w.heap.size + 1 + 1 + 1 + 1, 0, none⟩)]] 30)).heap[w.heap.size + 1 + 1 + 1 + 1 + 1]? = some (.cells #[.func (.func 115) #[] #[.pointer (some ⟨w.heap.size + 1, 0, none⟩), .pointer (some ⟨w.heap.size + 1 + 1, 0, none⟩), .pointer (some ⟨w.heap.size + 1 + 1 + 1, 0, none⟩), .pointer (some ⟨w.heap.size + 1 + 1 + 1 + 1, 0, none⟩)]] 30 (0, 0))) := by
    have h := blk_new (((((w.alloc (.cells #[.int .u8 2, .string (bs t), .int .i64 n, .slice ad kids.length c] 25)).alloc (.cells #[.slice sa sigs.length sc, .slice pa pres.length pc] 40)).alloc (.cells #[.string (bs msg)] 22)).alloc (.cells #[.int .i64 after] 3)).alloc (.cells #[.int .i64 age] 3)) (.cells #[.func (.func 115) #[] #[.pointer (some ⟨w.heap.size + 1, 0, none⟩), .pointer (some ⟨w.heap.size + 1 + 1, 0, none⟩), .pointer (some ⟨w.heap.size + 1 + 1 + 1, 0, none⟩), .pointer (some ⟨w.heap.size + 1 + 1 + 1 + 1, 0, none⟩)]] 30)
    rw [show (((((w.alloc (.cells #[.int .u8 2, .string (bs t), .int .i64 n, .slice ad kids.length c] 25)).alloc (.cells #[.slice sa sigs.length sc, .slice pa pres.length pc] 40)).alloc (.cells #[.string (bs msg)] 22)).alloc (.cells #[.int .i64 after] 3)).alloc (.cells #[.int .i64 age] 3)).heap.size = w.heap.size + 1 + 1 + 1 + 1 + 1 by simp] at h
    exact h
  have HG1 := Lib.hid (gok_alloc (gok_alloc (gok_alloc (gok_alloc (gok_alloc (gok_alloc HG0.out (.cells #[.int .u8 2, .string (bs t), .int .i64 n, .slice ad kids.length c] 25)) (.cells #[.slice sa sigs.length sc, .slice pa pres.length pc] 40)) (.cells #[.string (bs msg)] 22)) (.cells #[.int .i64 after] 3)) (.cells #[.int .i64 age] 3)) (.cells #[.func (.func 115) #[] #[.pointer (some ⟨w.heap.size + 1, 0, none⟩), .pointer (some ⟨w.heap.size + 1 + 1, 0, none⟩), .pointer (some ⟨w.heap.size + 1 + 1 + 1, 0, none⟩), .pointer (some ⟨w.heap.size + 1 + 1 + 1 + 1, 0, none⟩)]] 30))
  have hg1 : GL [] w ((((((w.alloc (.cells #[.int .u8 2, .string (bs t), .int .i64 n, .slice ad kids.length c] 25)).alloc (.cells #[.slice sa sigs.length sc, .slice pa pres.length pc] 40)).alloc (.cells #[.string (bs msg)] 22)).alloc (.cells #[.int .i64 after] 3)).alloc (.cells #[.int .i64 age] 3)).alloc (.cells #[.func (.func 115) #[] #[.pointer (some ⟨w.heap.size + 1, 0, none⟩), .pointer (some ⟨w.heap.size + 1 + 1, 0, none⟩), .pointer (some ⟨w.heap.size + 1 + 1 + 1, 0, none⟩), .pointer (some ⟨w.heap.size + 1 + 1 + 1 + 1, 0, none⟩)]] 30)) := (gl_alloc (gl_alloc (gl_alloc (gl_alloc (gl_alloc (gl_alloc hg0 (.cells #[.int .u8 2, .string (bs t), .int .i64 n, .slice ad kids.length c] 25)) (.cells #[.slice sa sigs.length sc, .slice pa pres.length pc] 40)) (.cells #[.string (bs msg)] 22)) (.cells #[.int .i64 after] 3)) (.cells #[.int .i64 age] 3)) (.cells #[.func (.func 115) #[] #[.pointer (some ⟨w.heap.size + 1, 0, none⟩), .pointer (some ⟨w.heap.size + 1 + 1, 0, none⟩), .pointer (some ⟨w.heap.size + 1 + 1 + 1, 0, none⟩), .pointer (some ⟨w.heap.size + 1 + 1 + 1 + 1, 0, none⟩)]] 30))
  have geLK : w.heap.size ≤ w.heap.size := by have := hg0.size; omega
  have gnLK : gN ≤ w.heap.size := by have := HG0.out.size; omega
  have geWT : w.heap.size ≤ w.heap.size + 1 := by have := hg0.size; omega
  have gnWT : gN ≤ w.heap.size + 1 := by have := HG0.out.size; omega
  have ltLKWT : w.heap.size < w.heap.size + 1 := by omega
  have neLKWT : w.heap.size ≠ w.heap.size + 1 := by omega
  have neWTLK : w.heap.size + 1 ≠ w.heap.size := by omega
  have geMS : w.heap.size ≤ w.heap.size + 1 + 1 := by have := hg0.size; omega
  have gnMS : gN ≤ w.heap.size + 1 + 1 := by have := HG0.out.size; omega
  have ltLKMS : w.heap.size < w.heap.size + 1 + 1 := by omega
  have neLKMS : w.heap.size ≠ w.heap.size + 1 + 1 := by omega
  have neMSLK : w.heap.size + 1 + 1 ≠ w.heap.size := by omega
  have ltWTMS : w.heap.size + 1 < w.heap.size + 1 + 1 := by omega
  have neWTMS : w.heap.size + 1 ≠ w.heap.size + 1 + 1 := by omega
  have neMSWT : w.heap.size + 1 + 1 ≠ w.heap.size + 1 := by omega
  have geAF : w.heap.size ≤ w.heap.size + 1 + 1 + 1 := by have := hg0.size; omega
  have gnAF : gN ≤ w.heap.size + 1 + 1 + 1 := by have := HG0.out.size; omega
  have ltLKAF : w.heap.size < w.heap.size + 1 + 1 + 1 := by omega
  have neLKAF : w.heap.size ≠ w.heap.size + 1 + 1 + 1 := by omega
  have neAFLK : w.heap.size + 1 + 1 + 1 ≠ w.heap.size := by omega
  have ltWTAF : w.heap.size + 1 < w.heap.size + 1 + 1 + 1 := by omega
  have neWTAF : w.heap.size + 1 ≠ w.heap.size + 1 + 1 + 1 := by omega
  have neAFWT : w.heap.size + 1 + 1 + 1 ≠ w.heap.size + 1 := by omega
  have ltMSAF : w.heap.size + 1 + 1 < w.heap.size + 1 + 1 + 1 := by omega
  have neMSAF : w.heap.size + 1 + 1 ≠ w.heap.size + 1 + 1 + 1 := by omega
  have neAFMS : w.heap.size + 1 + 1 + 1 ≠ w.heap.size + 1 + 1 := by omega
  have geAG : w.heap.size ≤ w.heap.size + 1 + 1 + 1 + 1 := by have := hg0.size; omega
  have gnAG : gN ≤ w.heap.size + 1 + 1 + 1 + 1 := by have := HG0.out.size; omega
  have ltLKAG : w.heap.size < w.heap.size + 1 + 1 + 1 + 1 := by omega
  have neLKAG : w.heap.size ≠ w.heap.size + 1 + 1 + 1 + 1 := by omega
  have neAGLK : w.heap.size + 1 + 1 + 1 + 1 ≠ w.heap.size := by omega
  have ltWTAG : w.heap.size + 1 < w.heap.size + 1 + 1 + 1 + 1 := by omega
  have neWTAG : w.heap.size + 1 ≠ w.heap.size + 1 + 1 + 1 + 1 := by omega
  have neAGWT : w.heap.size + 1 + 1 + 1 + 1 ≠ w.heap.size + 1 := by omega
  have ltMSAG : w.heap.size + 1 + 1 < w.heap.size + 1 + 1 + 1 + 1 := by omega
  have neMSAG : w.heap.size + 1 + 1 ≠ w.heap.size + 1 + 1 + 1 + 1 := by omega
  have neAGMS : w.heap.size + 1 + 1 + 1 + 1 ≠ w.heap.size + 1 + 1 := by omega
  have ltAFAG : w.heap.size + 1 + 1 + 1 < w.heap.size + 1 + 1 + 1 + 1 := by omega
  have neAFAG : w.heap.size + 1 + 1 + 1 ≠ w.heap.size + 1 + 1 + 1 + 1 := by omega
  have neAGAF : w.heap.size + 1 + 1 + 1 + 1 ≠ w.heap.size + 1 + 1 + 1 := by omega
  have geWI : w.heap.size ≤ w.heap.size + 1 + 1 + 1 + 1 + 1 := by have := hg0.size; omega
  have gnWI : gN ≤ w.heap.size + 1 + 1 + 1 + 1 + 1 := by have := HG0.out.size; omega
  have ltLKWI : w.heap.size < w.heap.size + 1 + 1 + 1 + 1 + 1 := by omega
  have neLKWI : w.heap.size ≠ w.heap.size + 1 + 1 + 1 + 1 + 1 := by omega
  have neWILK : w.heap.size + 1 + 1 + 1 + 1 + 1 ≠ w.heap.size := by omega
  have ltWTWI : w.heap.size + 1 < w.heap.size + 1 + 1 + 1 + 1 + 1 := by omega
  have neWTWI : w.heap.size + 1 ≠ w.heap.size + 1 + 1 + 1 + 1 + 1 := by omega
  have neWIWT : w.heap.size + 1 + 1 + 1 + 1 + 1 ≠ w.heap.size + 1 := by omega
  have ltMSWI : w.heap.size + 1 + 1 < w.heap.size + 1 + 1 + 1 + 1 + 1 := by omega
  have neMSWI : w.heap.size + 1 + 1 ≠ w.heap.size + 1 + 1 + 1 + 1 + 1 := by omega
  have neWIMS : w.heap.size + 1 + 1 + 1 + 1 + 1 ≠ w.heap.size + 1 + 1 := by omega
  have ltAFWI : w.heap.size + 1 + 1 + 1 < w.heap.size + 1 + 1 + 1 + 1 + 1 := by omega
  have neAFWI : w.heap.size + 1 + 1 + 1 ≠ w.heap.size + 1 + 1 + 1 + 1 + 1 := by omega
  have neWIAF : w.heap.size + 1 + 1 + 1 + 1 + 1 ≠ w.heap.size + 1 + 1 + 1 := by omega
  have ltAGWI : w.heap.size + 1 + 1 + 1 + 1 < w.heap.size + 1 + 1 + 1 + 1 + 1 := by omega
  have neAGWI : w.heap.size + 1 + 1 + 1 + 1 ≠ w.heap.size + 1 + 1 + 1 + 1 + 1 := by omega
  have neWIAG : w.heap.size + 1 + 1 + 1 + 1 + 1 ≠ w.heap.size + 1 + 1 + 1 + 1 := by omega
  generalize ((((((w.alloc (.cells #[.int .u8 2, .string (bs t), .int .i64 n, .slice ad kids.length c] 25)).alloc (.cells #[.slice sa sigs.length sc, .slice pa pres.length pc] 40)).alloc (.cells #[.string (bs msg)] 22)).alloc (.cells #[.int .i64 after] 3)).alloc (.cells #[.int .i64 age] 3)).alloc (.cells #[.func (.func 115) #[] #[.pointer (some ⟨w.heap.size + 1, 0, none⟩), .pointer (some ⟨w.heap.size + 1 + 1, 0, none⟩), .pointer (some ⟨w.heap.size + 1 + 1 + 1, 0, none⟩), .pointer (some ⟨w.heap.size + 1 + 1 + 1 + 1, 0, none⟩)]] 30)) = w1 at *
  generalize w.heap.size + 1 + 1 + 1 + 1 + 1 = WI at *
  generalize w.heap.size + 1 + 1 + 1 + 1 = AG at *
  generalize w.heap.size + 1 + 1 + 1 = AF at *
  generalize w.heap.size + 1 + 1 = MS at *
  generalize w.heap.size + 1 = WT at *
  generalize w.heap.size = LK at *
  have hs1 : w.heap.size ≤ w1.heap.size := hg1.size
  refine (tContainsT 119 _ (fun _ _ => by kernel_rfl) (fun x => (oneT 72 x).2 == 0 && (oneT 72 x).1 == t) pres hpn _ _ (termsAt_gl HPV.out hg1) (fun W x hx hgw => ?_)).mono ?_
  · exact lkO3 x t (HPT.out x hx) LK _ _ _ W (blk_gl HLK1.out hgw (by simp)) (gok_gl HG1.out hgw (by simp))
  rintro e w2 ⟨rfl, hb2⟩
  go_wp2_with fail
  go_ret
  exact ⟨rfl, gl_to_below (gl_below hb2 hg1)⟩

set_option maxRecDepth 100000 in
set_option maxHeartbeats 4000000 in
theorem lkOpens3 (n : Int) (t : List UInt8) (kids : List LT) (ad : Option Addr) (c : Nat) (sa pa : Option Addr) (sc pc : Nat) (sigs pres : List (List UInt8)) (msg : List UInt8) (after age : Int) (w : World) (q : Nat → Prop)
    (hsv : TermsAt (.slice sa sigs.length sc) sigs w) (hpv : TermsAt (.slice pa pres.length pc) pres w) (hsn : sigs.length ≤ 9000000000000000000) (hpn : pres.length ≤ 9000000000000000000) (hst : ∀ s ∈ sigs, s.length ≤ 9000000000000000000) (hpt : ∀ s ∈ pres, s.length ≤ 9000000000000000000)
    (ha : -9223372036854775808 ≤ after ∧ after ≤ 9223372036854775807) (hg : -9223372036854775808 ≤ age ∧ age ≤ 9223372036854775807) (hn : -9223372036854775808 ≤ n ∧ n ≤ 9223372036854775807) (hkn : kids.length ≤ 9000000000000000000) (hG : GOk w)  :
    Calls Tryz.prog 84 #[.agg #[.int .u8 3, .string (bs t), .int .i64 n, .slice ad kids.length c], .agg #[.slice sa sigs.length sc, .slice pa pres.length pc], .string (bs msg), .int .i64 after, .int .i64 age] w fun e w' =>
      e = .returned (.bool (decide (n ≤ after))) ∧ Below w.heap.size w w' := by
  have hsf := store_fn
  have HG0 := Lib.hid hG
  have HSV := Lib.hid hsv
  have HPV := Lib.hid hpv
  have HST := Lib.hid hst
  have HPT := Lib.hid hpt
  clear hG hsv hpv hst hpt
  go_enter Tryz.func84, Tryz.ntmps84
  go_wp2
  go_ret
  exact ⟨rfl, by (repeat' (first | with_reducible exact Below.refl _ _ | with_reducible assumption | with_reducible refine below_alloc ?_ ?_ _ | with_reducible refine Below.setCell ?_ ?_ _ | with_reducible refine Below.drew ?_ | with_reducible refine below_drewN ?_ _ | with_reducible refine below_step (by assumption) ?_ ?_ | (with_reducible refine Below.trans ?_ (Below.mono (by assumption) ?_)) | exact Nat.le_refl _ | (simp; done) | (simp; omega) | omega))⟩

set_option maxRecDepth 100000 in
set_option maxHeartbeats 4000000 in
theorem lkOpens4 (n : Int) (t : List UInt8) (kids : List LT) (ad : Option Addr) (c : Nat) (sa pa : Option Addr) (sc pc : Nat) (sigs pres : List (List UInt8)) (msg : List UInt8) (after age : Int) (w : World) (q : Nat → Prop)
    (hsv : TermsAt (.slice sa sigs.length sc) sigs w) (hpv : TermsAt (.slice pa pres.length pc) pres w) (hsn : sigs.length ≤ 9000000000000000000) (hpn : pres.length ≤ 9000000000000000000) (hst : ∀ s ∈ sigs, s.length ≤ 9000000000000000000) (hpt : ∀ s ∈ pres, s.length ≤ 9000000000000000000)
    (ha : -9223372036854775808 ≤ after ∧ after ≤ 9223372036854775807) (hg : -9223372036854775808 ≤ age ∧ age ≤ 9223372036854775807) (hn : -9223372036854775808 ≤ n ∧ n ≤ 9223372036854775807) (hkn : kids.length ≤ 9000000000000000000) (hG : GOk w)  :
    Calls Tryz.prog 84 #[.agg #[.int .u8 4, .string (bs t), .int .i64 n, .slice ad kids.length c], .agg #[.slice sa sigs.length sc, .slice pa pres.length pc], .string (bs msg), .int .i64 after, .int .i64 age] w fun e w' =>
      e = .returned (.bool (decide (n ≤ age))) ∧ Below w.heap.size w w' := by
  have hsf := store_fn
  have HG0 := Lib.hid hG
  have HSV := Lib.hid hsv
  have HPV := Lib.hid hpv
  have HST := Lib.hid hst
  have HPT := Lib.hid hpt
  clear hG hsv hpv hst hpt
  go_enter Tryz.func84, Tryz.ntmps84
  go_wp2
  go_ret
  exact ⟨rfl, by (repeat' (first | with_reducible exact Below.refl _ _ | with_reducible assumption | with_reducible refine below_alloc ?_ ?_ _ | with_reducible refine Below.setCell ?_ ?_ _ | with_reducible refine Below.drew ?_ | with_reducible refine below_drewN ?_ _ | with_reducible refine below_step (by assumption) ?_ ?_ | (with_reducible refine Below.trans ?_ (Below.mono (by assumption) ?_)) | exact Nat.le_refl _ | (simp; done) | (simp; omega) | omega))⟩

def WithinOk (N : Nat) (f : LT → Bool) (q : Nat → Prop) (a1 a2 a3 a4 : Nat) (w : World) : Prop := ∀ (W : World) (x : LT) (u : Value), countL x ≤ N → GL [] w W → LockIn q W x u →
    Calls Tryz.prog 115 #[u, .pointer (some ⟨a1, 0, none⟩), .pointer (some ⟨a2, 0, none⟩), .pointer (some ⟨a3, 0, none⟩), .pointer (some ⟨a4, 0, none⟩)] W fun e W' => e = .returned (.bool (f x)) ∧ Below W.heap.size W W'

set_option maxRecDepth 100000 in
set_option maxHeartbeats 2000000 in
theorem lkO1 (N : Nat) (ih : OpensIH N) (q : Nat → Prop) (a1 a2 a3 a4 : Nat) (sa pa : Option Addr) (sc pc : Nat) (sigs pres : List (List UInt8)) (msg : List UInt8) (after age : Int) (w : World)
    (H1 : w.heap[a1]? = some (.cells #[.slice sa sigs.length sc, .slice pa pres.length pc] 40 (0, 0))) (H2 : w.heap[a2]? = some (.cells #[.string (bs msg)] 22 (0, 0))) (H3 : w.heap[a3]? = some (.cells #[.int .i64 after] 3 (0, 0))) (H4 : w.heap[a4]? = some (.cells #[.int .i64 age] 3 (0, 0)))
    (hsv : TermsAt (.slice sa sigs.length sc) sigs w) (hpv : TermsAt (.slice pa pres.length pc) pres w) (hsn : sigs.length ≤ 9000000000000000000) (hpn : pres.length ≤ 9000000000000000000) (hst : ∀ s ∈ sigs, s.length ≤ 9000000000000000000) (hpt : ∀ s ∈ pres, s.length ≤ 9000000000000000000)
    (ha : -9223372036854775808 ≤ after ∧ after ≤ 9223372036854775807) (hg : -9223372036854775808 ≤ age ∧ age ≤ 9223372036854775807) (hG : GOk w) : WithinOk N (opensL (sgP sigs msg) (prP pres) after age) q a1 a2 a3 a4 w := by
  intro W x u hx hgw hL
  have HL := Lib.hid hL
  obtain ⟨k, t, n, kids⟩ := x
  obtain ⟨ad, c, rfl, _⟩ := lockIn_open hL
  have HG := Lib.hid (gok_gl hG hgw (by simp))
  have HSV := Lib.hid (termsAt_gl hsv hgw)
  have HPV := Lib.hid (termsAt_gl hpv hgw)
  have IH := Lib.hid ih
  have HST := Lib.hid hst
  have HPT := Lib.hid hpt
  have HX := Lib.hid hx
  have g1 := blk_gl H1 hgw (by simp)
  have g2 := blk_gl H2 hgw (by simp)
  have g3 := blk_gl H3 hgw (by simp)
  have g4 := blk_gl H4 hgw (by simp)
  have f1 := blk_cell g1
  have e1 := blk_free g1
  have f2 := blk_cell g2
  have e2 := blk_free g2
  have f3 := blk_cell g3
  have e3 := blk_free g3
  have f4 := blk_cell g4
  have e4 := blk_free g4
  have l1 := blk_lt g1
  have l2 := blk_lt g2
  have l3 := blk_lt g3
  have l4 := blk_lt g4
  clear hL hG hsv hpv ih hst hpt hx g1 g2 g3 g4 H1 H2 H3 H4 hgw
  go_enter Tryz.func115, Tryz.ntmps115
  go_wp2_with fail
  refine (IH.out _ q _ _ _ sigs pres msg after age _ HX.out (lockIn_gl (gl_alloc (gl_refl _ _) _) _ _ HL.out) (termsAt_gl HSV.out (gl_alloc (gl_refl _ _) _)) (termsAt_gl HPV.out (gl_alloc (gl_refl _ _) _)) hsn hpn HST.out HPT.out ha hg (gok_alloc HG.out _)).mono ?_
  rintro e w1 ⟨rfl, hb1⟩
  go_wp2_with fail
  go_ret
  exact ⟨rfl, by (repeat' (first | with_reducible exact Below.refl _ _ | with_reducible assumption | with_reducible refine below_alloc ?_ ?_ _ | with_reducible refine Below.setCell ?_ ?_ _ | with_reducible refine Below.drew ?_ | with_reducible refine below_drewN ?_ _ | with_reducible refine below_step (by assumption) ?_ ?_ | (with_reducible refine Below.trans ?_ (Below.mono (by assumption) ?_)) | exact Nat.le_refl _ | (simp; done) | (simp; omega) | omega))⟩

set_option maxRecDepth 100000 in
set_option maxHeartbeats 2000000 in
theorem lkO4 (N : Nat) (f : LT → Bool) (q : Nat → Prop) (a1 a2 a3 a4 b : Nat) (w : World) (hW : WithinOk N f q a1 a2 a3 a4 w)
    (H : w.heap[b]? = some (.cells #[.func (.func 115) #[] #[.pointer (some ⟨a1, 0, none⟩), .pointer (some ⟨a2, 0, none⟩), .pointer (some ⟨a3, 0, none⟩), .pointer (some ⟨a4, 0, none⟩)]] 30 (0, 0)))
    (W : World) (x : LT) (u : Value) (hx : countL x ≤ N) (hgw : GL [] w W) (hL : LockIn q W x u) :
    Calls Tryz.prog 122 #[u, .pointer (some ⟨b, 0, none⟩)] W fun e W' => e = .returned (.bool (!(f x))) ∧ Below W.heap.size W W' := by
  have hc := hW (W.alloc (.cells u.cells 25)) x u hx (gl_alloc hgw _) (lockIn_gl (gl_alloc (gl_refl _ _) _) _ _ hL)
  obtain ⟨k, t, n, kids⟩ := x
  obtain ⟨ad, c, rfl, _⟩ := lockIn_open hL
  have g1 := blk_gl H hgw (by simp)
  have f1 := blk_cell g1
  have e1 := blk_free g1
  have l1 := blk_lt g1
  have HC := Lib.hid hc
  clear hc hL hW H g1 hgw
  go_enter Tryz.func122, Tryz.ntmps122
  go_wp2_with fail
  refine (HC.out).mono ?_
  rintro e w1 ⟨rfl, hb1⟩
  go_wp2_with fail
  go_ret
  exact ⟨rfl, by (repeat' (first | with_reducible exact Below.refl _ _ | with_reducible assumption | with_reducible refine below_alloc ?_ ?_ _ | with_reducible refine Below.setCell ?_ ?_ _ | with_reducible refine Below.drew ?_ | with_reducible refine below_drewN ?_ _ | with_reducible refine below_step (by assumption) ?_ ?_ | (with_reducible refine Below.trans ?_ (Below.mono (by assumption) ?_)) | exact Nat.le_refl _ | (simp; done) | (simp; omega) | omega))⟩

set_option maxRecDepth 100000 in
set_option maxHeartbeats 4000000 in
theorem lkOpens5 (n : Int) (t : List UInt8) (kids : List LT) (ad : Option Addr) (c : Nat) (sa pa : Option Addr) (sc pc : Nat) (sigs pres : List (List UInt8)) (msg : List UInt8) (after age : Int) (w : World) (q : Nat → Prop)
    (hsv : TermsAt (.slice sa sigs.length sc) sigs w) (hpv : TermsAt (.slice pa pres.length pc) pres w) (hsn : sigs.length ≤ 9000000000000000000) (hpn : pres.length ≤ 9000000000000000000) (hst : ∀ s ∈ sigs, s.length ≤ 9000000000000000000) (hpt : ∀ s ∈ pres, s.length ≤ 9000000000000000000)
    (ha : -9223372036854775808 ≤ after ∧ after ≤ 9223372036854775807) (hg : -9223372036854775808 ≤ age ∧ age ≤ 9223372036854775807) (hn : -9223372036854775808 ≤ n ∧ n ≤ 9223372036854775807) (hkn : kids.length ≤ 9000000000000000000) (hG : GOk w) (N : Nat) (ih : OpensIH N) (hcN : countRow kids ≤ N) (hd : kids = [] ∨ ∃ b o, ad = some ⟨b, o, none⟩ ∧ b < w.heap.size ∧ q b ∧ RowIn q w kids b o) :
    Calls Tryz.prog 84 #[.agg #[.int .u8 5, .string (bs t), .int .i64 n, .slice ad kids.length c], .agg #[.slice sa sigs.length sc, .slice pa pres.length pc], .string (bs msg), .int .i64 after, .int .i64 age] w fun e w' =>
      e = .returned (.bool (!(kids.any fun x => !(opensL (sgP sigs msg) (prP pres) after age x)))) ∧ Below w.heap.size w w' := by
  have hsf := store_fn
  have HG0 := Lib.hid hG
  have HSV := Lib.hid hsv
  have HPV := Lib.hid hpv
  have HST := Lib.hid hst
  have HPT := Lib.hid hpt
  clear hG hsv hpv hst hpt
  have IH := Lib.hid ih
  have hd2 : ∀ W, GL [] w W → (kids = [] ∨ ∃ b o, ad = some ⟨b, o, none⟩ ∧ b < W.heap.size ∧ q b ∧ RowIn q W kids b o) := fun W hgW => by
    rcases hd with h | ⟨b, o, h1, h2, h3, h4⟩
    · exact .inl h
    · exact .inr ⟨b, o, h1, Nat.lt_of_lt_of_le h2 hgW.size, h3, rowIn_gl hgW kids b o h2 h3 h4⟩
  have HD := Lib.hid hd2
  clear ih hd hd2
  go_enter Tryz.func84, Tryz.ntmps84
  have hg0 : GL [] w w := gl_refl _ _
  have hs0 : w.heap.size ≤ w.heap.size := Nat.le_refl _
  go_wp2_with fail
  have HLK1 : Hid (((((((w.alloc (.cells #[.int .u8 5, .string (bs t), .int .i64 n, .slice ad kids.length c] 25)).alloc (.cells #[.slice sa sigs.length sc, .slice pa pres.length pc] 40)).alloc (.cells #[.string (bs msg)] 22)).alloc (.cells #[.int .i64 after] 3)).alloc (.cells #[.int .i64 age] 3)).alloc (.cells #[.func (.func 115) #[] #[.pointer (some ⟨w.heap.size + 1, 0, none⟩), .pointer (some ⟨w.heap.size + 1 + 1, 0, none⟩), .pointer (some ⟨w.heap.size + 1 + 1 + 1, 0, none⟩), .pointer (some ⟨w.heap.size + 1 + 1 + 1 + 1, 0, none⟩)]] 30)).heap[w.heap.size]? = some (.cells #[.int .u8 5, .string (bs t), .int .i64 n, .slice ad kids.length c] 25 (0, 0))) := by
    have h := blk_new w (.cells #[.int .u8 5, .string (bs t), .int .i64 n, .slice ad kids.length c] 25)
    exact (blk_alloc (blk_alloc (blk_alloc (blk_alloc (blk_alloc h (.cells #[.slice sa sigs.length sc, .slice pa pres.length pc] 40)) (.cells #[.string (bs msg)] 22)) (.cells #[.int .i64 after] 3)) (.cells #[.int .i64 age] 3)) (.cells #[.func (.func 115) #[] #[.pointer (some ⟨w.heap.size + 1, 0, none⟩), .pointer (some ⟨w.heap.size + 1 + 1, 0, none⟩), .pointer (some ⟨w.heap.size + 1 + 1 + 1, 0, none⟩), .pointer (some ⟨w.heap.size + 1 + 1 + 1 + 1, 0, none⟩)]] 30))
  have HWT1 : Hid (((((((w.alloc (.cells #[.int .u8 5, .string (bs t), .int .i64 n, .slice ad kids.length c] 25)).alloc (.cells #[.slice sa sigs.length sc, .slice pa pres.length pc] 40)).alloc (.cells #[.string (bs msg)] 22)).alloc (.cells #[.int .i64 after] 3)).alloc (.cells #[.int .i64 age] 3)).alloc (.cells #[.func (.func 115) #[] #[.pointer (some ⟨w.heap.size + 1, 0, none⟩), .pointer (some ⟨w.heap.size + 1 + 1, 0, none⟩), .pointer (some ⟨w.heap.size + 1 + 1 + 1, 0, none⟩), .pointer (some ⟨w.heap.size + 1 + 1 + 1 + 1, 0, none⟩)]] 30)).heap[w.heap.size + 1]? = some (.cells #[.slice sa sigs.length sc, .slice pa pres.length pc] 40 (0, 0))) := by
    have h := blk_new (w.alloc (.cells #[.int .u8 5, .string (bs t), .int .i64 n, .slice ad kids.length c] 25)) (.cells #[.slice sa sigs.length sc, .slice pa pres.length pc] 40)
    rw [show (w.alloc (.cells #[.int .u8 5, .string (bs t), .int .i64 n, .slice ad kids.length c] 25)).heap.size = w.heap.size + 1 by simp] at h
    exact (blk_alloc (blk_alloc (blk_alloc (blk_alloc h (.cells #[.string (bs msg)] 22)) (.cells #[.int .i64 after] 3)) (.cells #[.int .i64 age] 3)) (.cells #[.func (.func 115) #[] #[.pointer (some ⟨w.heap.size + 1, 0, none⟩), .pointer (some ⟨w.heap.size + 1 + 1, 0, none⟩), .pointer (some ⟨w.heap.size + 1 + 1 + 1, 0, none⟩), .pointer (some ⟨w.heap.size + 1 + 1 + 1 + 1, 0, none⟩)]] 30))
  have HMS1 : Hid (((((((w.alloc (.cells #[.int .u8 5, .string (bs t), .int .i64 n, .slice ad kids.length c] 25)).alloc (.cells #[.slice sa sigs.length sc, .slice pa pres.length pc] 40)).alloc (.cells #[.string (bs msg)] 22)).alloc (.cells #[.int .i64 after] 3)).alloc (.cells #[.int .i64 age] 3)).alloc (.cells #[.func (.func 115) #[] #[.pointer (some ⟨w.heap.size + 1, 0, none⟩), .pointer (some ⟨w.heap.size + 1 + 1, 0, none⟩), .pointer (some ⟨w.heap.size + 1 + 1 + 1, 0, none⟩), .pointer (some ⟨w.heap.size + 1 + 1 + 1 + 1, 0, none⟩)]] 30)).heap[w.heap.size + 1 + 1]? = some (.cells #[.string (bs msg)] 22 (0, 0))) := by
    have h := blk_new ((w.alloc (.cells #[.int .u8 5, .string (bs t), .int .i64 n, .slice ad kids.length c] 25)).alloc (.cells #[.slice sa sigs.length sc, .slice pa pres.length pc] 40)) (.cells #[.string (bs msg)] 22)
    rw [show ((w.alloc (.cells #[.int .u8 5, .string (bs t), .int .i64 n, .slice ad kids.length c] 25)).alloc (.cells #[.slice sa sigs.length sc, .slice pa pres.length pc] 40)).heap.size = w.heap.size + 1 + 1 by simp] at h
    exact (blk_alloc (blk_alloc (blk_alloc h (.cells #[.int .i64 after] 3)) (.cells #[.int .i64 age] 3)) (.cells #[.func (.func 115) #[] #[.pointer (some ⟨w.heap.size + 1, 0, none⟩), .pointer (some ⟨w.heap.size + 1 + 1, 0, none⟩), .pointer (some ⟨w.heap.size + 1 + 1 + 1, 0, none⟩), .pointer (some ⟨w.heap.size + 1 + 1 + 1 + 1, 0, none⟩)]] 30))
  have HAF1 : Hid (((((((w.alloc (.cells #[.int .u8 5, .string (bs t), .int .i64 n, .slice ad kids.length c] 25)).alloc (.cells #[.slice sa sigs.length sc, .slice pa pres.length pc] 40)).alloc (.cells #[.string (bs msg)] 22)).alloc (.cells #[.int .i64 after] 3)).alloc (.cells #[.int .i64 age] 3)).alloc (.cells #[.func (.func 115) #[] #[.pointer (some ⟨w.heap.size + 1, 0, none⟩), .pointer (some ⟨w.heap.size + 1 + 1, 0, none⟩), .pointer (some ⟨w.heap.size + 1 + 1 + 1, 0, none⟩), .pointer (some ⟨w.heap.size + 1 + 1 + 1 + 1, 0, none⟩)]] 30)).heap[w.heap.size + 1 + 1 + 1]? = some (.cells #[.int .i64 after] 3 (0, 0))) := by
    have h := blk_new (((w.alloc (.cells #[.int .u8 5, .string (bs t), .int .i64 n, .slice ad kids.length c] 25)).alloc (.cells #[.slice sa sigs.length sc, .slice pa pres.length pc] 40)).alloc (.cells #[.string (bs msg)] 22)) (.cells #[.int .i64 after] 3)
    rw [show (((w.alloc (.cells #[.int .u8 5, .string (bs t), .int .i64 n, .slice ad kids.length c] 25)).alloc (.cells #[.slice sa sigs.length sc, .slice pa pres.length pc] 40)).alloc (.cells #[.string (bs msg)] 22)).heap.size = w.heap.size + 1 + 1 + 1 by simp] at h
    exact (blk_alloc (blk_alloc h (.cells #[.int .i64 age] 3)) (.cells #[.func (.func 115) #[] #[.pointer (some ⟨w.heap.size + 1, 0, none⟩), .pointer (some ⟨w.heap.size + 1 + 1, 0, none⟩), .pointer (some ⟨w.heap.size + 1 + 1 + 1, 0, none⟩), .pointer (some ⟨w.heap.size + 1 + 1 + 1 + 1, 0, none⟩)]] 30))
  have HAG1 : Hid (((((((w.alloc (.cells #[.int .u8 5, .string (bs t), .int .i64 n, .slice ad kids.length c] 25)).alloc (.cells #[.slice sa sigs.length sc, .slice pa pres.length pc] 40)).alloc (.cells #[.string (bs msg)] 22)).alloc (.cells #[.int .i64 after] 3)).alloc (.cells #[.int .i64 age] 3)).alloc (.cells #[.func (.func 115) #[] #[.pointer (some ⟨w.heap.size + 1, 0, none⟩), .pointer (some ⟨w.heap.size + 1 + 1, 0, none⟩), .pointer (some ⟨w.heap.size + 1 + 1 + 1, 0, none⟩), .pointer (some ⟨w.heap.size + 1 + 1 + 1 + 1, 0, none⟩)]] 30)).heap[w.heap.size + 1 + 1 + 1 + 1]? = some (.cells #[.int .i64 age] 3 (0, 0))) := by
    have h := blk_new ((((w.alloc (.cells #[.int .u8 5, .string (bs t), .int .i64 n, .slice ad kids.length c] 25)).alloc (.cells #[.slice sa sigs.length sc, .slice pa pres.length pc] 40)).alloc (.cells #[.string (bs msg)] 22)).alloc (.cells #[.int .i64 after] 3)) (.cells #[.int .i64 age] 3)
    rw [show ((((w.alloc (.cells #[.int .u8 5, .string (bs t), .int .i64 n, .slice ad kids.length c] 25)).alloc (.cells #[.slice sa sigs.length sc, .slice pa pres.length pc] 40)).alloc (.cells #[.string (bs msg)] 22)).alloc (.cells #[.int .i64 after] 3)).heap.size = w.heap.size + 1 + 1 + 1 + 1 by simp] at h
    exact (blk_alloc h (.cells #[.func (.func 115) #[] #[.pointer (some ⟨w.heap.size + 1, 0, none⟩), .pointer (some ⟨w.heap.size + 1 + 1, 0, none⟩), .pointer (some ⟨w.heap.size + 1 + 1 + 1, 0, none⟩), .pointer (some ⟨w.heap.size + 1 + 1 + 1 + 1, 0, none⟩)]] 30))
  have HWI1 : Hid (((((((w.alloc (.cells #[.int .u8 5, .string (bs t), .int .i64 n, .slice ad kids.length c] 25)).alloc (.cells #[.slice sa sigs.length sc, .slice pa pres.length pc] 40)).alloc (.cells #[.string (bs msg)] 22)).alloc (.cells #[.int .i64 after] 3)).alloc (.cells #[.int .i64 age] 3)).alloc (.cells #[.func (.func 115) #[] #[.pointer (some ⟨w.heap.size + 1, 0, none⟩), .pointer (some ⟨w.heap.size + 1 + 1, 0, none⟩), .pointer (some ⟨w.heap.size + 1 + 1 + 1, 0, none⟩), .pointer (some ⟨w.heap.size + 1 + 1 + 1 + 1, 0, none⟩)]] 30)).heap[w.heap.size + 1 + 1 + 1 + 1 + 1]? = some (.cells #[.func (.func 115) #[] #[.pointer (some ⟨w.heap.size + 1, 0, none⟩), .pointer (some ⟨w.heap.size + 1 + 1, 0, none⟩), .pointer (some ⟨w.heap.size + 1 + 1 + 1, 0, none⟩), .pointer (some ⟨w.heap.size + 1 + 1 + 1 + 1, 0, none⟩)]] 30 (0, 0))) := by
    have h := blk_new (((((w.alloc (.cells #[.int .u8 5, .string (bs t), .int .i64 n, .slice ad kids.length c] 25)).alloc (.cells #[.slice sa sigs.length sc, .slice pa pres.length pc] 40)).alloc (.cells #[.string (bs msg)] 22)).alloc (.cells #[.int .i64 after] 3)).alloc (.cells #[.int .i64 age] 3)) (.cells #[.func (.func 115) #[] #[.pointer (some ⟨w.heap.size + 1, 0, none⟩), .pointer (some ⟨w.heap.size + 1 + 1, 0, none⟩), .pointer (some ⟨w.heap.size + 1 + 1 + 1, 0, none⟩), .pointer (some ⟨w.heap.size + 1 + 1 + 1 + 1, 0, none⟩)]] 30)
    rw [show (((((w.alloc (.cells #[.int .u8 5, .string (bs t), .int .i64 n, .slice ad kids.length c] 25)).alloc (.cells #[.slice sa sigs.length sc, .slice pa pres.length pc] 40)).alloc (.cells #[.string (bs msg)] 22)).alloc (.cells #[.int .i64 after] 3)).alloc (.cells #[.int .i64 age] 3)).heap.size = w.heap.size + 1 + 1 + 1 + 1 + 1 by simp] at h
    exact h
  have HG1 := Lib.hid (gok_alloc (gok_alloc (gok_alloc (gok_alloc (gok_alloc (gok_alloc HG0.out (.cells #[.int .u8 5, .string (bs t), .int .i64 n, .slice ad kids.length c] 25)) (.cells #[.slice sa sigs.length sc, .slice pa pres.length pc] 40)) (.cells #[.string (bs msg)] 22)) (.cells #[.int .i64 after] 3)) (.cells #[.int .i64 age] 3)) (.cells #[.func (.func 115) #[] #[.pointer (some ⟨w.heap.size + 1, 0, none⟩), .pointer (some ⟨w.heap.size + 1 + 1, 0, none⟩), .pointer (some ⟨w.heap.size + 1 + 1 + 1, 0, none⟩), .pointer (some ⟨w.heap.size + 1 + 1 + 1 + 1, 0, none⟩)]] 30))
  have hg1 : GL [] w ((((((w.alloc (.cells #[.int .u8 5, .string (bs t), .int .i64 n, .slice ad kids.length c] 25)).alloc (.cells #[.slice sa sigs.length sc, .slice pa pres.length pc] 40)).alloc (.cells #[.string (bs msg)] 22)).alloc (.cells #[.int .i64 after] 3)).alloc (.cells #[.int .i64 age] 3)).alloc (.cells #[.func (.func 115) #[] #[.pointer (some ⟨w.heap.size + 1, 0, none⟩), .pointer (some ⟨w.heap.size + 1 + 1, 0, none⟩), .pointer (some ⟨w.heap.size + 1 + 1 + 1, 0, none⟩), .pointer (some ⟨w.heap.size + 1 + 1 + 1 + 1, 0, none⟩)]] 30)) := (gl_alloc (gl_alloc (gl_alloc (gl_alloc (gl_alloc (gl_alloc hg0 (.cells #[.int .u8 5, .string (bs t), .int .i64 n, .slice ad kids.length c] 25)) (.cells #[.slice sa sigs.length sc, .slice pa pres.length pc] 40)) (.cells #[.string (bs msg)] 22)) (.cells #[.int .i64 after] 3)) (.cells #[.int .i64 age] 3)) (.cells #[.func (.func 115) #[] #[.pointer (some ⟨w.heap.size + 1, 0, none⟩), .pointer (some ⟨w.heap.size + 1 + 1, 0, none⟩), .pointer (some ⟨w.heap.size + 1 + 1 + 1, 0, none⟩), .pointer (some ⟨w.heap.size + 1 + 1 + 1 + 1, 0, none⟩)]] 30))
  have geLK : w.heap.size ≤ w.heap.size := by have := hg0.size; omega
  have gnLK : gN ≤ w.heap.size := by have := HG0.out.size; omega
  have geWT : w.heap.size ≤ w.heap.size + 1 := by have := hg0.size; omega
  have gnWT : gN ≤ w.heap.size + 1 := by have := HG0.out.size; omega
  have ltLKWT : w.heap.size < w.heap.size + 1 := by omega
  have neLKWT : w.heap.size ≠ w.heap.size + 1 := by omega
  have neWTLK : w.heap.size + 1 ≠ w.heap.size := by omega
  have geMS : w.heap.size ≤ w.heap.size + 1 + 1 := by have := hg0.size; omega
  have gnMS : gN ≤ w.heap.size + 1 + 1 := by have := HG0.out.size; omega
  have ltLKMS : w.heap.size < w.heap.size + 1 + 1 := by omega
  have neLKMS : w.heap.size ≠ w.heap.size + 1 + 1 := by omega
  have neMSLK : w.heap.size + 1 + 1 ≠ w.heap.size := by omega
  have ltWTMS : w.heap.size + 1 < w.heap.size + 1 + 1 := by omega
  have neWTMS : w.heap.size + 1 ≠ w.heap.size + 1 + 1 := by omega
  have neMSWT : w.heap.size + 1 + 1 ≠ w.heap.size + 1 := by omega
  have geAF : w.heap.size ≤ w.heap.size + 1 + 1 + 1 := by have := hg0.size; omega
  have gnAF : gN ≤ w.heap.size + 1 + 1 + 1 := by have := HG0.out.size; omega
  have ltLKAF : w.heap.size < w.heap.size + 1 + 1 + 1 := by omega
  have neLKAF : w.heap.size ≠ w.heap.size + 1 + 1 + 1 := by omega
  have neAFLK : w.heap.size + 1 + 1 + 1 ≠ w.heap.size := by omega
  have ltWTAF : w.heap.size + 1 < w.heap.size + 1 + 1 + 1 := by omega
  have neWTAF : w.heap.size + 1 ≠ w.heap.size + 1 + 1 + 1 := by omega
  have neAFWT : w.heap.size + 1 + 1 + 1 ≠ w.heap.size + 1 := by omega
  have ltMSAF : w.heap.size + 1 + 1 < w.heap.size + 1 + 1 + 1 := by omega
  have neMSAF : w.heap.size + 1 + 1 ≠ w.heap.size + 1 + 1 + 1 := by omega
  have neAFMS : w.heap.size + 1 + 1 + 1 ≠ w.heap.size + 1 + 1 := by omega
  have geAG : w.heap.size ≤ w.heap.size + 1 + 1 + 1 + 1 := by have := hg0.size; omega
  have gnAG : gN ≤ w.heap.size + 1 + 1 + 1 + 1 := by have := HG0.out.size; omega
  have ltLKAG : w.heap.size < w.heap.size + 1 + 1 + 1 + 1 := by omega
  have neLKAG : w.heap.size ≠ w.heap.size + 1 + 1 + 1 + 1 := by omega
  have neAGLK : w.heap.size + 1 + 1 + 1 + 1 ≠ w.heap.size := by omega
  have ltWTAG : w.heap.size + 1 < w.heap.size + 1 + 1 + 1 + 1 := by omega
  have neWTAG : w.heap.size + 1 ≠ w.heap.size + 1 + 1 + 1 + 1 := by omega
  have neAGWT : w.heap.size + 1 + 1 + 1 + 1 ≠ w.heap.size + 1 := by omega
  have ltMSAG : w.heap.size + 1 + 1 < w.heap.size + 1 + 1 + 1 + 1 := by omega
  have neMSAG : w.heap.size + 1 + 1 ≠ w.heap.size + 1 + 1 + 1 + 1 := by omega
  have neAGMS : w.heap.size + 1 + 1 + 1 + 1 ≠ w.heap.size + 1 + 1 := by omega
  have ltAFAG : w.heap.size + 1 + 1 + 1 < w.heap.size + 1 + 1 + 1 + 1 := by omega
  have neAFAG : w.heap.size + 1 + 1 + 1 ≠ w.heap.size + 1 + 1 + 1 + 1 := by omega
  have neAGAF : w.heap.size + 1 + 1 + 1 + 1 ≠ w.heap.size + 1 + 1 + 1 := by omega
  have geWI : w.heap.size ≤ w.heap.size + 1 + 1 + 1 + 1 + 1 := by have := hg0.size; omega
  have gnWI : gN ≤ w.heap.size + 1 + 1 + 1 + 1 + 1 := by have := HG0.out.size; omega
  have ltLKWI : w.heap.size < w.heap.size + 1 + 1 + 1 + 1 + 1 := by omega
  have neLKWI : w.heap.size ≠ w.heap.size + 1 + 1 + 1 + 1 + 1 := by omega
  have neWILK : w.heap.size + 1 + 1 + 1 + 1 + 1 ≠ w.heap.size := by omega
  have ltWTWI : w.heap.size + 1 < w.heap.size + 1 + 1 + 1 + 1 + 1 := by omega
  have neWTWI : w.heap.size + 1 ≠ w.heap.size + 1 + 1 + 1 + 1 + 1 := by omega
  have neWIWT : w.heap.size + 1 + 1 + 1 + 1 + 1 ≠ w.heap.size + 1 := by omega
  have ltMSWI : w.heap.size + 1 + 1 < w.heap.size + 1 + 1 + 1 + 1 + 1 := by omega
  have neMSWI : w.heap.size + 1 + 1 ≠ w.heap.size + 1 + 1 + 1 + 1 + 1 := by omega
  have neWIMS : w.heap.size + 1 + 1 + 1 + 1 + 1 ≠ w.heap.size + 1 + 1 := by omega
  have ltAFWI : w.heap.size + 1 + 1 + 1 < w.heap.size + 1 + 1 + 1 + 1 + 1 := by omega
  have neAFWI : w.heap.size + 1 + 1 + 1 ≠ w.heap.size + 1 + 1 + 1 + 1 + 1 := by omega
  have neWIAF : w.heap.size + 1 + 1 + 1 + 1 + 1 ≠ w.heap.size + 1 + 1 + 1 := by omega
  have ltAGWI : w.heap.size + 1 + 1 + 1 + 1 < w.heap.size + 1 + 1 + 1 + 1 + 1 := by omega
  have neAGWI : w.heap.size + 1 + 1 + 1 + 1 ≠ w.heap.size + 1 + 1 + 1 + 1 + 1 := by omega
  have neWIAG : w.heap.size + 1 + 1 + 1 + 1 + 1 ≠ w.heap.size + 1 + 1 + 1 + 1 := by omega
  generalize ((((((w.alloc (.cells #[.int .u8 5, .string (bs t), .int .i64 n, .slice ad kids.length c] 25)).alloc (.cells #[.slice sa sigs.length sc, .slice pa pres.length pc] 40)).alloc (.cells #[.string (bs msg)] 22)).alloc (.cells #[.int .i64 after] 3)).alloc (.cells #[.int .i64 age] 3)).alloc (.cells #[.func (.func 115) #[] #[.pointer (some ⟨w.heap.size + 1, 0, none⟩), .pointer (some ⟨w.heap.size + 1 + 1, 0, none⟩), .pointer (some ⟨w.heap.size + 1 + 1 + 1, 0, none⟩), .pointer (some ⟨w.heap.size + 1 + 1 + 1 + 1, 0, none⟩)]] 30)) = w1 at *
  generalize w.heap.size + 1 + 1 + 1 + 1 + 1 = WI at *
  generalize w.heap.size + 1 + 1 + 1 + 1 = AG at *
  generalize w.heap.size + 1 + 1 + 1 = AF at *
  generalize w.heap.size + 1 + 1 = MS at *
  generalize w.heap.size + 1 = WT at *
  generalize w.heap.size = LK at *
  have hs1 : w.heap.size ≤ w1.heap.size := hg1.size
  have hW := lkO1 N IH.out q WT MS AF AG sa pa sc pc sigs pres msg after age w1 HWT1.out HMS1.out HAF1.out HAG1.out (termsAt_gl HSV.out hg1) (termsAt_gl HPV.out hg1) hsn hpn HST.out HPT.out ha hg HG1.out
  have HW := Lib.hid hW
  clear hW
  have hd1 := HD.out w1 hg1
  refine (tContainsL 122 _ (fun _ _ => by kernel_rfl) (fun x => !(opensL (sgP sigs msg) (prP pres) after age x)) kids hkn q _ _ _ hd1 (fun W x u hx hgw hL => ?_)).mono ?_
  · have hcx : countL x ≤ N := by have := countL_mem kids x hx; omega
    exact lkO4 N _ q WT MS AF AG WI w1 HW.out HWI1.out W x u hcx hgw hL
  rintro e w2 ⟨rfl, hb2⟩
  go_wp2_with fail
  go_ret
  exact ⟨by first | rfl | (simp; done), gl_to_below (gl_below hb2 hg1)⟩

set_option maxRecDepth 100000 in
set_option maxHeartbeats 4000000 in
theorem lkOpens6 (k n : Int) (t : List UInt8) (kids : List LT) (ad : Option Addr) (c : Nat) (sa pa : Option Addr) (sc pc : Nat) (sigs pres : List (List UInt8)) (msg : List UInt8) (after age : Int) (w : World) (q : Nat → Prop)
    (hsv : TermsAt (.slice sa sigs.length sc) sigs w) (hpv : TermsAt (.slice pa pres.length pc) pres w) (hsn : sigs.length ≤ 9000000000000000000) (hpn : pres.length ≤ 9000000000000000000) (hst : ∀ s ∈ sigs, s.length ≤ 9000000000000000000) (hpt : ∀ s ∈ pres, s.length ≤ 9000000000000000000)
    (ha : -9223372036854775808 ≤ after ∧ after ≤ 9223372036854775807) (hg : -9223372036854775808 ≤ age ∧ age ≤ 9223372036854775807) (hn : -9223372036854775808 ≤ n ∧ n ≤ 9223372036854775807) (hkn : kids.length ≤ 9000000000000000000) (hG : GOk w) (N : Nat) (ih : OpensIH N) (hcN : countRow kids ≤ N) (hd : kids = [] ∨ ∃ b o, ad = some ⟨b, o, none⟩ ∧ b < w.heap.size ∧ q b ∧ RowIn q w kids b o) (b1 : (k == 1) = false) (b2 : (k == 2) = false) (b3 : (k == 3) = false) (b4 : (k == 4) = false) (b5 : (k == 5) = false) :
    Calls Tryz.prog 84 #[.agg #[.int .u8 k, .string (bs t), .int .i64 n, .slice ad kids.length c], .agg #[.slice sa sigs.length sc, .slice pa pres.length pc], .string (bs msg), .int .i64 after, .int .i64 age] w fun e w' =>
      e = .returned (.bool (kids.any (opensL (sgP sigs msg) (prP pres) after age))) ∧ Below w.heap.size w w' := by
  have hsf := store_fn
  have HG0 := Lib.hid hG
  have HSV := Lib.hid hsv
  have HPV := Lib.hid hpv
  have HST := Lib.hid hst
  have HPT := Lib.hid hpt
  clear hG hsv hpv hst hpt
  have IH := Lib.hid ih
  have hd2 : ∀ W, GL [] w W → (kids = [] ∨ ∃ b o, ad = some ⟨b, o, none⟩ ∧ b < W.heap.size ∧ q b ∧ RowIn q W kids b o) := fun W hgW => by
    rcases hd with h | ⟨b, o, h1, h2, h3, h4⟩
    · exact .inl h
    · exact .inr ⟨b, o, h1, Nat.lt_of_lt_of_le h2 hgW.size, h3, rowIn_gl hgW kids b o h2 h3 h4⟩
  have HD := Lib.hid hd2
  clear ih hd hd2
  go_enter Tryz.func84, Tryz.ntmps84
  have hg0 : GL [] w w := gl_refl _ _
  have hs0 : w.heap.size ≤ w.heap.size := Nat.le_refl _
  go_wp2_with fail
  have HLK1 : Hid (((((((w.alloc (.cells #[.int .u8 k, .string (bs t), .int .i64 n, .slice ad kids.length c] 25)).alloc (.cells #[.slice sa sigs.length sc, .slice pa pres.length pc] 40)).alloc (.cells #[.string (bs msg)] 22)).alloc (.cells #[.int .i64 after] 3)).alloc (.cells #[.int .i64 age] 3)).alloc (.cells #[.func (.func 115) #[] #[.pointer (some ⟨w.heap.size + 1, 0, none⟩), .pointer (some ⟨w.heap.size + 1 + 1, 0, none⟩), .pointer (some ⟨w.heap.size + 1 + 1 + 1, 0, none⟩), .pointer (some ⟨w.heap.size + 1 + 1 + 1 + 1, 0, none⟩)]] 30)).heap[w.heap.size]? = some (.cells #[.int .u8 k, .string (bs t), .int .i64 n, .slice ad kids.length c] 25 (0, 0))) := by
    have h := blk_new w (.cells #[.int .u8 k, .string (bs t), .int .i64 n, .slice ad kids.length c] 25)
    exact (blk_alloc (blk_alloc (blk_alloc (blk_alloc (blk_alloc h (.cells #[.slice sa sigs.length sc, .slice pa pres.length pc] 40)) (.cells #[.string (bs msg)] 22)) (.cells #[.int .i64 after] 3)) (.cells #[.int .i64 age] 3)) (.cells #[.func (.func 115) #[] #[.pointer (some ⟨w.heap.size + 1, 0, none⟩), .pointer (some ⟨w.heap.size + 1 + 1, 0, none⟩), .pointer (some ⟨w.heap.size + 1 + 1 + 1, 0, none⟩), .pointer (some ⟨w.heap.size + 1 + 1 + 1 + 1, 0, none⟩)]] 30))
  have HWT1 : Hid (((((((w.alloc (.cells #[.int .u8 k, .string (bs t), .int .i64 n, .slice ad kids.length c] 25)).alloc (.cells #[.slice sa sigs.length sc, .slice pa pres.length pc] 40)).alloc (.cells #[.string (bs msg)] 22)).alloc (.cells #[.int .i64 after] 3)).alloc (.cells #[.int .i64 age] 3)).alloc (.cells #[.func (.func 115) #[] #[.pointer (some ⟨w.heap.size + 1, 0, none⟩), .pointer (some ⟨w.heap.size + 1 + 1, 0, none⟩), .pointer (some ⟨w.heap.size + 1 + 1 + 1, 0, none⟩), .pointer (some ⟨w.heap.size + 1 + 1 + 1 + 1, 0, none⟩)]] 30)).heap[w.heap.size + 1]? = some (.cells #[.slice sa sigs.length sc, .slice pa pres.length pc] 40 (0, 0))) := by
    have h := blk_new (w.alloc (.cells #[.int .u8 k, .string (bs t), .int .i64 n, .slice ad kids.length c] 25)) (.cells #[.slice sa sigs.length sc, .slice pa pres.length pc] 40)
    rw [show (w.alloc (.cells #[.int .u8 k, .string (bs t), .int .i64 n, .slice ad kids.length c] 25)).heap.size = w.heap.size + 1 by simp] at h
    exact (blk_alloc (blk_alloc (blk_alloc (blk_alloc h (.cells #[.string (bs msg)] 22)) (.cells #[.int .i64 after] 3)) (.cells #[.int .i64 age] 3)) (.cells #[.func (.func 115) #[] #[.pointer (some ⟨w.heap.size + 1, 0, none⟩), .pointer (some ⟨w.heap.size + 1 + 1, 0, none⟩), .pointer (some ⟨w.heap.size + 1 + 1 + 1, 0, none⟩), .pointer (some ⟨w.heap.size + 1 + 1 + 1 + 1, 0, none⟩)]] 30))
  have HMS1 : Hid (((((((w.alloc (.cells #[.int .u8 k, .string (bs t), .int .i64 n, .slice ad kids.length c] 25)).alloc (.cells #[.slice sa sigs.length sc, .slice pa pres.length pc] 40)).alloc (.cells #[.string (bs msg)] 22)).alloc (.cells #[.int .i64 after] 3)).alloc (.cells #[.int .i64 age] 3)).alloc (.cells #[.func (.func 115) #[] #[.pointer (some ⟨w.heap.size + 1, 0, none⟩), .pointer (some ⟨w.heap.size + 1 + 1, 0, none⟩), .pointer (some ⟨w.heap.size + 1 + 1 + 1, 0, none⟩), .pointer (some ⟨w.heap.size + 1 + 1 + 1 + 1, 0, none⟩)]] 30)).heap[w.heap.size + 1 + 1]? = some (.cells #[.string (bs msg)] 22 (0, 0))) := by
    have h := blk_new ((w.alloc (.cells #[.int .u8 k, .string (bs t), .int .i64 n, .slice ad kids.length c] 25)).alloc (.cells #[.slice sa sigs.length sc, .slice pa pres.length pc] 40)) (.cells #[.string (bs msg)] 22)
    rw [show ((w.alloc (.cells #[.int .u8 k, .string (bs t), .int .i64 n, .slice ad kids.length c] 25)).alloc (.cells #[.slice sa sigs.length sc, .slice pa pres.length pc] 40)).heap.size = w.heap.size + 1 + 1 by simp] at h
    exact (blk_alloc (blk_alloc (blk_alloc h (.cells #[.int .i64 after] 3)) (.cells #[.int .i64 age] 3)) (.cells #[.func (.func 115) #[] #[.pointer (some ⟨w.heap.size + 1, 0, none⟩), .pointer (some ⟨w.heap.size + 1 + 1, 0, none⟩), .pointer (some ⟨w.heap.size + 1 + 1 + 1, 0, none⟩), .pointer (some ⟨w.heap.size + 1 + 1 + 1 + 1, 0, none⟩)]] 30))
  have HAF1 : Hid (((((((w.alloc (.cells #[.int .u8 k, .string (bs t), .int .i64 n, .slice ad kids.length c] 25)).alloc (.cells #[.slice sa sigs.length sc, .slice pa pres.length pc] 40)).alloc (.cells #[.string (bs msg)] 22)).alloc (.cells #[.int .i64 after] 3)).alloc (.cells #[.int .i64 age] 3)).alloc (.cells #[.func (.func 115) #[] #[.pointer (some ⟨w.heap.size + 1, 0, none⟩), .pointer (some ⟨w.heap.size + 1 + 1, 0, none⟩), .pointer (some ⟨w.heap.size + 1 + 1 + 1, 0, none⟩), .pointer (some ⟨w.heap.size + 1 + 1 + 1 + 1, 0, none⟩)]] 30)).heap[w.heap.size + 1 + 1 + 1]? = some (.cells #[.int .i64 after] 3 (0, 0))) := by
    have h := blk_new (((w.alloc (.cells #[.int .u8 k, .string (bs t), .int .i64 n, .slice ad kids.length c] 25)).alloc (.cells #[.slice sa sigs.length sc, .slice pa pres.length pc] 40)).alloc (.cells #[.string (bs msg)] 22)) (.cells #[.int .i64 after] 3)
    rw [show (((w.alloc (.cells #[.int .u8 k, .string (bs t), .int .i64 n, .slice ad kids.length c] 25)).alloc (.cells #[.slice sa sigs.length sc, .slice pa pres.length pc] 40)).alloc (.cells #[.string (bs msg)] 22)).heap.size = w.heap.size + 1 + 1 + 1 by simp] at h
    exact (blk_alloc (blk_alloc h (.cells #[.int .i64 age] 3)) (.cells #[.func (.func 115) #[] #[.pointer (some ⟨w.heap.size + 1, 0, none⟩), .pointer (some ⟨w.heap.size + 1 + 1, 0, none⟩), .pointer (some ⟨w.heap.size + 1 + 1 + 1, 0, none⟩), .pointer (some ⟨w.heap.size + 1 + 1 + 1 + 1, 0, none⟩)]] 30))
  have HAG1 : Hid (((((((w.alloc (.cells #[.int .u8 k, .string (bs t), .int .i64 n, .slice ad kids.length c] 25)).alloc (.cells #[.slice sa sigs.length sc, .slice pa pres.length pc] 40)).alloc (.cells #[.string (bs msg)] 22)).alloc (.cells #[.int .i64 after] 3)).alloc (.cells #[.int .i64 age] 3)).alloc (.cells #[.func (.func 115) #[] #[.pointer (some ⟨w.heap.size + 1, 0, none⟩), .pointer (some ⟨w.heap.size + 1 + 1, 0, none⟩), .pointer (some ⟨w.heap.size + 1 + 1 + 1, 0, none⟩), .pointer (some ⟨w.heap.size + 1 + 1 + 1 + 1, 0, none⟩)]] 30)).heap[w.heap.size + 1 + 1 + 1 + 1]? = some (.cells #[.int .i64 age] 3 (0, 0))) := by
    have h := blk_new ((((w.alloc (.cells #[.int .u8 k, .string (bs t), .int .i64 n, .slice ad kids.length c] 25)).alloc (.cells #[.slice sa sigs.length sc, .slice pa pres.length pc] 40)).alloc (.cells #[.string (bs msg)] 22)).alloc (.cells #[.int .i64 after] 3)) (.cells #[.int .i64 age] 3)
    rw [show ((((w.alloc (.cells #[.int .u8 k, .string (bs t), .int .i64 n, .slice ad kids.length c] 25)).alloc (.cells #[.slice sa sigs.length sc, .slice pa pres.length pc] 40)).alloc (.cells #[.string (bs msg)] 22)).alloc (.cells #[.int .i64 after] 3)).heap.size = w.heap.size + 1 + 1 + 1 + 1 by simp] at h
    exact (blk_alloc h (.cells #[.func (.func 115) #[] #[.pointer (some ⟨w.heap.size + 1, 0, none⟩), .pointer (some ⟨w.heap.size + 1 + 1, 0, none⟩), .pointer (some ⟨w.heap.size + 1 + 1 + 1, 0, none⟩), .pointer (some ⟨w.heap.size + 1 + 1 + 1 + 1, 0, none⟩)]] 30))
  have HWI1 : Hid (((((((w.alloc (.cells #[.int .u8 k, .string (bs t), .int .i64 n, .slice ad kids.length c] 25)).alloc (.cells #[.slice sa sigs.length sc, .slice pa pres.length pc] 40)).alloc (.cells #[.string (bs msg)] 22)).alloc (.cells #[.int .i64 after] 3)).alloc (.cells #[.int .i64 age] 3)).alloc (.cells #[.func (.func 115) #[] #[.pointer (some ⟨w.heap.size + 1, 0, none⟩), .pointer (some ⟨w.heap.size + 1 + 1, 0, none⟩), .pointer (some ⟨w.heap.size + 1 + 1 + 1, 0, none⟩), .pointer (some ⟨w.heap.size + 1 + 1 + 1 + 1, 0, none⟩)]] 30)).heap[w.heap.size + 1 + 1 + 1 + 1 + 1]? = some (.cells #[.func (.func 115) #[] #[.pointer (some ⟨w.heap.size + 1, 0, none⟩), .pointer (some ⟨w.heap.size + 1 + 1, 0, none⟩), .pointer (some ⟨w.heap.size + 1 + 1 + 1, 0, none⟩), .pointer (some ⟨w.heap.size + 1 + 1 + 1 + 1, 0, none⟩)]] 30 (0, 0))) := by
    have h := blk_new (((((w.alloc (.cells #[.int .u8 k, .string (bs t), .int .i64 n, .slice ad kids.length c] 25)).alloc (.cells #[.slice sa sigs.length sc, .slice pa pres.length pc] 40)).alloc (.cells #[.string (bs msg)] 22)).alloc (.cells #[.int .i64 after] 3)).alloc (.cells #[.int .i64 age] 3)) (.cells #[.func (.func 115) #[] #[.pointer (some ⟨w.heap.size + 1, 0, none⟩), .pointer (some ⟨w.heap.size + 1 + 1, 0, none⟩), .pointer (some ⟨w.heap.size + 1 + 1 + 1, 0, none⟩), .pointer (some ⟨w.heap.size + 1 + 1 + 1 + 1, 0, none⟩)]] 30)
    rw [show (((((w.alloc (.cells #[.int .u8 k, .string (bs t), .int .i64 n, .slice ad kids.length c] 25)).alloc (.cells #[.slice sa sigs.length sc, .slice pa pres.length pc] 40)).alloc (.cells #[.string (bs msg)] 22)).alloc (.cells #[.int .i64 after] 3)).alloc (.cells #[.int .i64 age] 3)).heap.size = w.heap.size + 1 + 1 + 1 + 1 + 1 by simp] at h
    exact h
  have HG1 := Lib.hid (gok_alloc (gok_alloc (gok_alloc (gok_alloc (gok_alloc (gok_alloc HG0.out (.cells #[.int .u8 k, .string (bs t), .int .i64 n, .slice ad kids.length c] 25)) (.cells #[.slice sa sigs.length sc, .slice pa pres.length pc] 40)) (.cells #[.string (bs msg)] 22)) (.cells #[.int .i64 after] 3)) (.cells #[.int .i64 age] 3)) (.cells #[.func (.func 115) #[] #[.pointer (some ⟨w.heap.size + 1, 0, none⟩), .pointer (some ⟨w.heap.size + 1 + 1, 0, none⟩), .pointer (some ⟨w.heap.size + 1 + 1 + 1, 0, none⟩), .pointer (some ⟨w.heap.size + 1 + 1 + 1 + 1, 0, none⟩)]] 30))
  have hg1 : GL [] w ((((((w.alloc (.cells #[.int .u8 k, .string (bs t), .int .i64 n, .slice ad kids.length c] 25)).alloc (.cells #[.slice sa sigs.length sc, .slice pa pres.length pc] 40)).alloc (.cells #[.string (bs msg)] 22)).alloc (.cells #[.int .i64 after] 3)).alloc (.cells #[.int .i64 age] 3)).alloc (.cells #[.func (.func 115) #[] #[.pointer (some ⟨w.heap.size + 1, 0, none⟩), .pointer (some ⟨w.heap.size + 1 + 1, 0, none⟩), .pointer (some ⟨w.heap.size + 1 + 1 + 1, 0, none⟩), .pointer (some ⟨w.heap.size + 1 + 1 + 1 + 1, 0, none⟩)]] 30)) := (gl_alloc (gl_alloc (gl_alloc (gl_alloc (gl_alloc (gl_alloc hg0 (.cells #[.int .u8 k, .string (bs t), .int .i64 n, .slice ad kids.length c] 25)) (.cells #[.slice sa sigs.length sc, .slice pa pres.length pc] 40)) (.cells #[.string (bs msg)] 22)) (.cells #[.int .i64 after] 3)) (.cells #[.int .i64 age] 3)) (.cells #[.func (.func 115) #[] #[.pointer (some ⟨w.heap.size + 1, 0, none⟩), .pointer (some ⟨w.heap.size + 1 + 1, 0, none⟩), .pointer (some ⟨w.heap.size + 1 + 1 + 1, 0, none⟩), .pointer (some ⟨w.heap.size + 1 + 1 + 1 + 1, 0, none⟩)]] 30))
  have geLK : w.heap.size ≤ w.heap.size := by have := hg0.size; omega
  have gnLK : gN ≤ w.heap.size := by have := HG0.out.size; omega
  have geWT : w.heap.size ≤ w.heap.size + 1 := by have := hg0.size; omega
  have gnWT : gN ≤ w.heap.size + 1 := by have := HG0.out.size; omega
  have ltLKWT : w.heap.size < w.heap.size + 1 := by omega
  have neLKWT : w.heap.size ≠ w.heap.size + 1 := by omega
  have neWTLK : w.heap.size + 1 ≠ w.heap.size := by omega
  have geMS : w.heap.size ≤ w.heap.size + 1 + 1 := by have := hg0.size; omega
  have gnMS : gN ≤ w.heap.size + 1 + 1 := by have := HG0.out.size; omega
  have ltLKMS : w.heap.size < w.heap.size + 1 + 1 := by omega
  have neLKMS : w.heap.size ≠ w.heap.size + 1 + 1 := by omega
  have neMSLK : w.heap.size + 1 + 1 ≠ w.heap.size := by omega
  have ltWTMS : w.heap.size + 1 < w.heap.size + 1 + 1 := by omega
  have neWTMS : w.heap.size + 1 ≠ w.heap.size + 1 + 1 := by omega
  have neMSWT : w.heap.size + 1 + 1 ≠ w.heap.size + 1 := by omega
  have geAF : w.heap.size ≤ w.heap.size + 1 + 1 + 1 := by have := hg0.size; omega
  have gnAF : gN ≤ w.heap.size + 1 + 1 + 1 := by have := HG0.out.size; omega
  have ltLKAF : w.heap.size < w.heap.size + 1 + 1 + 1 := by omega
  have neLKAF : w.heap.size ≠ w.heap.size + 1 + 1 + 1 := by omega
  have neAFLK : w.heap.size + 1 + 1 + 1 ≠ w.heap.size := by omega
  have ltWTAF : w.heap.size + 1 < w.heap.size + 1 + 1 + 1 := by omega
  have neWTAF : w.heap.size + 1 ≠ w.heap.size + 1 + 1 + 1 := by omega
  have neAFWT : w.heap.size + 1 + 1 + 1 ≠ w.heap.size + 1 := by omega
  have ltMSAF : w.heap.size + 1 + 1 < w.heap.size + 1 + 1 + 1 := by omega
  have neMSAF : w.heap.size + 1 + 1 ≠ w.heap.size + 1 + 1 + 1 := by omega
  have neAFMS : w.heap.size + 1 + 1 + 1 ≠ w.heap.size + 1 + 1 := by omega
  have geAG : w.heap.size ≤ w.heap.size + 1 + 1 + 1 + 1 := by have := hg0.size; omega
  have gnAG : gN ≤ w.heap.size + 1 + 1 + 1 + 1 := by have := HG0.out.size; omega
  have ltLKAG : w.heap.size < w.heap.size + 1 + 1 + 1 + 1 := by omega
  have neLKAG : w.heap.size ≠ w.heap.size + 1 + 1 + 1 + 1 := by omega
  have neAGLK : w.heap.size + 1 + 1 + 1 + 1 ≠ w.heap.size := by omega
  have ltWTAG : w.heap.size + 1 < w.heap.size + 1 + 1 + 1 + 1 := by omega
  have neWTAG : w.heap.size + 1 ≠ w.heap.size + 1 + 1 + 1 + 1 := by omega
  have neAGWT : w.heap.size + 1 + 1 + 1 + 1 ≠ w.heap.size + 1 := by omega
  have ltMSAG : w.heap.size + 1 + 1 < w.heap.size + 1 + 1 + 1 + 1 := by omega
  have neMSAG : w.heap.size + 1 + 1 ≠ w.heap.size + 1 + 1 + 1 + 1 := by omega
  have neAGMS : w.heap.size + 1 + 1 + 1 + 1 ≠ w.heap.size + 1 + 1 := by omega
  have ltAFAG : w.heap.size + 1 + 1 + 1 < w.heap.size + 1 + 1 + 1 + 1 := by omega
  have neAFAG : w.heap.size + 1 + 1 + 1 ≠ w.heap.size + 1 + 1 + 1 + 1 := by omega
  have neAGAF : w.heap.size + 1 + 1 + 1 + 1 ≠ w.heap.size + 1 + 1 + 1 := by omega
  have geWI : w.heap.size ≤ w.heap.size + 1 + 1 + 1 + 1 + 1 := by have := hg0.size; omega
  have gnWI : gN ≤ w.heap.size + 1 + 1 + 1 + 1 + 1 := by have := HG0.out.size; omega
  have ltLKWI : w.heap.size < w.heap.size + 1 + 1 + 1 + 1 + 1 := by omega
  have neLKWI : w.heap.size ≠ w.heap.size + 1 + 1 + 1 + 1 + 1 := by omega
  have neWILK : w.heap.size + 1 + 1 + 1 + 1 + 1 ≠ w.heap.size := by omega
  have ltWTWI : w.heap.size + 1 < w.heap.size + 1 + 1 + 1 + 1 + 1 := by omega
  have neWTWI : w.heap.size + 1 ≠ w.heap.size + 1 + 1 + 1 + 1 + 1 := by omega
  have neWIWT : w.heap.size + 1 + 1 + 1 + 1 + 1 ≠ w.heap.size + 1 := by omega
  have ltMSWI : w.heap.size + 1 + 1 < w.heap.size + 1 + 1 + 1 + 1 + 1 := by omega
  have neMSWI : w.heap.size + 1 + 1 ≠ w.heap.size + 1 + 1 + 1 + 1 + 1 := by omega
  have neWIMS : w.heap.size + 1 + 1 + 1 + 1 + 1 ≠ w.heap.size + 1 + 1 := by omega
  have ltAFWI : w.heap.size + 1 + 1 + 1 < w.heap.size + 1 + 1 + 1 + 1 + 1 := by omega
  have neAFWI : w.heap.size + 1 + 1 + 1 ≠ w.heap.size + 1 + 1 + 1 + 1 + 1 := by omega
  have neWIAF : w.heap.size + 1 + 1 + 1 + 1 + 1 ≠ w.heap.size + 1 + 1 + 1 := by omega
  have ltAGWI : w.heap.size + 1 + 1 + 1 + 1 < w.heap.size + 1 + 1 + 1 + 1 + 1 := by omega
  have neAGWI : w.heap.size + 1 + 1 + 1 + 1 ≠ w.heap.size + 1 + 1 + 1 + 1 + 1 := by omega
  have neWIAG : w.heap.size + 1 + 1 + 1 + 1 + 1 ≠ w.heap.size + 1 + 1 + 1 + 1 := by omega
  generalize ((((((w.alloc (.cells #[.int .u8 k, .string (bs t), .int .i64 n, .slice ad kids.length c] 25)).alloc (.cells #[.slice sa sigs.length sc, .slice pa pres.length pc] 40)).alloc (.cells #[.string (bs msg)] 22)).alloc (.cells #[.int .i64 after] 3)).alloc (.cells #[.int .i64 age] 3)).alloc (.cells #[.func (.func 115) #[] #[.pointer (some ⟨w.heap.size + 1, 0, none⟩), .pointer (some ⟨w.heap.size + 1 + 1, 0, none⟩), .pointer (some ⟨w.heap.size + 1 + 1 + 1, 0, none⟩), .pointer (some ⟨w.heap.size + 1 + 1 + 1 + 1, 0, none⟩)]] 30)) = w1 at *
  generalize w.heap.size + 1 + 1 + 1 + 1 + 1 = WI at *
  generalize w.heap.size + 1 + 1 + 1 + 1 = AG at *
  generalize w.heap.size + 1 + 1 + 1 = AF at *
  generalize w.heap.size + 1 + 1 = MS at *
  generalize w.heap.size + 1 = WT at *
  generalize w.heap.size = LK at *
  have hs1 : w.heap.size ≤ w1.heap.size := hg1.size
  have hW := lkO1 N IH.out q WT MS AF AG sa pa sc pc sigs pres msg after age w1 HWT1.out HMS1.out HAF1.out HAG1.out (termsAt_gl HSV.out hg1) (termsAt_gl HPV.out hg1) hsn hpn HST.out HPT.out ha hg HG1.out
  have HW := Lib.hid hW
  clear hW
  have hd1 := HD.out w1 hg1
  refine (tContainsL 115 _ (fun _ _ => by kernel_rfl) (opensL (sgP sigs msg) (prP pres) after age) kids hkn q _ _ _ hd1 (fun W x u hx hgw hL => ?_)).mono ?_
  · have hcx : countL x ≤ N := by have := countL_mem kids x hx; omega
    exact HW.out W x u hcx hgw hL
  rintro e w2 ⟨rfl, hb2⟩
  go_wp2_with fail
  go_ret
  exact ⟨by first | rfl | (simp; done), gl_to_below (gl_below hb2 hg1)⟩

theorem lkOpensN : ∀ N, OpensIH N
  | 0 => fun x q v sv pv sigs pres msg after age w hN _ _ _ _ _ _ _ _ _ _ => by have := count_pos x; omega
  | N + 1 => fun x q v sv pv sigs pres msg after age w hN hL hS hP hsn hpn hst hpt ha hg hG => by
    obtain ⟨k, t, n, kids⟩ := x
    obtain ⟨ad, c, rfl, ⟨hk0, hk1⟩, hn, ht, hkl, hd⟩ := lockIn_open hL
    obtain ⟨sa, sc, rfl, _⟩ := termsAt_open hS
    obtain ⟨pa, pc, rfl, _⟩ := termsAt_open hP
    rw [countL] at hN
    rw [opensL]
    by_cases h1 : k = 1
    · subst h1; rw [if_pos rfl]
      exact lkOpens1 n t kids ad c sa pa sc pc sigs pres msg after age w q hS hP hsn hpn hst hpt ha hg hn hkl hG
    rw [if_neg h1]
    by_cases h2 : k = 2
    · subst h2; rw [if_pos rfl]
      exact lkOpens2 n t kids ad c sa pa sc pc sigs pres msg after age w q hS hP hsn hpn hst hpt ha hg hn hkl hG
    rw [if_neg h2]
    by_cases h3 : k = 3
    · subst h3; rw [if_pos rfl]
      exact lkOpens3 n t kids ad c sa pa sc pc sigs pres msg after age w q hS hP hsn hpn hst hpt ha hg hn hkl hG
    rw [if_neg h3]
    by_cases h4 : k = 4
    · subst h4; rw [if_pos rfl]
      exact lkOpens4 n t kids ad c sa pa sc pc sigs pres msg after age w q hS hP hsn hpn hst hpt ha hg hn hkl hG
    rw [if_neg h4]
    by_cases h5 : k = 5
    · subst h5; rw [if_pos rfl, allL_any]
      exact lkOpens5 n t kids ad c sa pa sc pc sigs pres msg after age w q hS hP hsn hpn hst hpt ha hg hn hkl hG N (lkOpensN N) (by omega) hd
    rw [if_neg h5, anyL_any]
    exact lkOpens6 k n t kids ad c sa pa sc pc sigs pres msg after age w q hS hP hsn hpn hst hpt ha hg hn hkl hG N (lkOpensN N) (by omega) hd (int_ne h1) (int_ne h2) (int_ne h3) (int_ne h4) (int_ne h5)

set_option maxRecDepth 100000 in
set_option maxHeartbeats 4000000 in
theorem lkOpens (x : LT) (q : Nat → Prop) (v sv pv : Value) (sigs pres : List (List UInt8)) (msg : List UInt8) (after age : Int) (w : World) (hL : LockIn q w x v) (hS : TermsAt sv sigs w) (hP : TermsAt pv pres w)
    (hsn : sigs.length ≤ 9000000000000000000) (hpn : pres.length ≤ 9000000000000000000) (hst : ∀ s ∈ sigs, s.length ≤ 9000000000000000000) (hpt : ∀ s ∈ pres, s.length ≤ 9000000000000000000)
    (ha : -9223372036854775808 ≤ after ∧ after ≤ 9223372036854775807) (hg : -9223372036854775808 ≤ age ∧ age ≤ 9223372036854775807) (hG : GOk w) :
    Calls Tryz.prog 28 #[v, .agg #[sv, pv], .string (bs msg), .int .i64 after, .int .i64 age] w fun e w' => e = .returned (.bool (opensP sigs pres msg after age x)) ∧ Below w.heap.size w w' := by
  have hc := fun (W : World) (hgw : GL [] w W) => lkOpensN (countL x).toNat x q v sv pv sigs pres msg after age W (by have := count_pos x; omega) (lockIn_gl hgw _ _ hL) (termsAt_gl hS hgw) (termsAt_gl hP hgw) hsn hpn hst hpt ha hg (gok_gl hG hgw (by simp))
  have hr := fun (W : World) (hgw : GL [] w W) => lkRight x q v W (lockIn_gl hgw _ _ hL) (gok_gl hG hgw (by simp))
  obtain ⟨sa, sc, rfl, _⟩ := termsAt_open hS
  obtain ⟨pa, pc, rfl, _⟩ := termsAt_open hP
  have H : Hid (opensP sigs pres msg after age x = (rightL x && decide (sigs.length ≤ 16) && decide (pres.length ≤ 16) && opensL (sgP sigs msg) (prP pres) after age x)) := rfl
  generalize opensL (sgP sigs msg) (prP pres) after age x = z at *
  generalize rightL x = y at *
  obtain ⟨k, t, n, kids⟩ := x
  obtain ⟨ad, c, rfl, _⟩ := lockIn_open hL
  have HC := Lib.hid hc
  have HR := Lib.hid hr
  clear hc hr hL hS hP hst hpt hG
  have hg0 : GL [] w w := gl_refl _ _
  cases y with
  | false =>
    go_enter Tryz.func28, Tryz.ntmps28
    go_wp2_with fail
    refine (HR.out _ (by (repeat' (first | with_reducible exact gl_refl _ _ | with_reducible assumption | with_reducible refine gl_alloc ?_ _ | with_reducible refine gl_drewN ?_ _ | with_reducible refine gl_drew ?_ | (with_reducible refine gl_setn ?_ ?_ _; · (first | exact Nat.le_refl _ | (simp; done) | (simp; omega) | omega)) | (with_reducible refine gl_seti ?_ ?_ _; · (simp; done)) | with_reducible refine gl_below (by with_reducible assumption) ?_ | with_reducible refine gl_step (by with_reducible assumption) ?_ (by first | (simp; done) | (simp; omega)) | with_reducible refine gl_grown (by with_reducible assumption) ?_ (by first | (simp; done) | (simp; omega)))))).mono ?_
    rintro e w1 ⟨rfl, hb1⟩
    go_wp2_with fail
    go_ret
    exact ⟨by rw [H.out]; rfl, by (repeat' (first | with_reducible exact Below.refl _ _ | with_reducible assumption | with_reducible refine below_alloc ?_ ?_ _ | with_reducible refine Below.setCell ?_ ?_ _ | with_reducible refine Below.drew ?_ | with_reducible refine below_drewN ?_ _ | with_reducible refine below_step (by assumption) ?_ ?_ | (with_reducible refine Below.trans ?_ (Below.mono (by assumption) ?_)) | exact Nat.le_refl _ | (simp; done) | (simp; omega) | omega))⟩
  | true =>
    by_cases h1 : sigs.length ≤ 16
    · have b1 : decide ((sigs.length : Int) ≤ 16) = true := by simp; omega
      by_cases h2 : pres.length ≤ 16
      · have b2 : decide ((pres.length : Int) ≤ 16) = true := by simp; omega
        have HH : Hid (opensP sigs pres msg after age (.mk k t n kids) = z) := by show _ = _; rw [H.out]; simp [h1, h2]
        go_enter Tryz.func28, Tryz.ntmps28
        go_wp2_with fail
        refine (HR.out _ (by (repeat' (first | with_reducible exact gl_refl _ _ | with_reducible assumption | with_reducible refine gl_alloc ?_ _ | with_reducible refine gl_drewN ?_ _ | with_reducible refine gl_drew ?_ | (with_reducible refine gl_setn ?_ ?_ _; · (first | exact Nat.le_refl _ | (simp; done) | (simp; omega) | omega)) | (with_reducible refine gl_seti ?_ ?_ _; · (simp; done)) | with_reducible refine gl_below (by with_reducible assumption) ?_ | with_reducible refine gl_step (by with_reducible assumption) ?_ (by first | (simp; done) | (simp; omega)) | with_reducible refine gl_grown (by with_reducible assumption) ?_ (by first | (simp; done) | (simp; omega)))))).mono ?_
        rintro e w1 ⟨rfl, hb1⟩
        have g1 := blk_below (blk_alloc (blk_new w (.cells #[.int .u8 k, .string (bs t), .int .i64 n, .slice ad kids.length c] 25)) (.cells #[.slice sa sigs.length sc, .slice pa pres.length pc] 40)) hb1 (by simp; omega)
        have g2 := blk_below (blk_new (w.alloc (.cells #[.int .u8 k, .string (bs t), .int .i64 n, .slice ad kids.length c] 25)) (.cells #[.slice sa sigs.length sc, .slice pa pres.length pc] 40)) hb1 (by simp)
        rw [show (w.alloc (.cells #[.int .u8 k, .string (bs t), .int .i64 n, .slice ad kids.length c] 25)).heap.size = w.heap.size + 1 by simp] at g2
        have f1 := blk_cell g1
        have e1 := blk_free g1
        have f2 := blk_cell g2
        have e2 := blk_free g2
        clear g1 g2
        go_wp2_with fail
        refine (HC.out _ (gl_below hb1 (by (repeat' (first | with_reducible exact gl_refl _ _ | with_reducible assumption | with_reducible refine gl_alloc ?_ _ | with_reducible refine gl_drewN ?_ _ | with_reducible refine gl_drew ?_ | (with_reducible refine gl_setn ?_ ?_ _; · (first | exact Nat.le_refl _ | (simp; done) | (simp; omega) | omega)) | (with_reducible refine gl_seti ?_ ?_ _; · (simp; done)) | with_reducible refine gl_below (by with_reducible assumption) ?_ | with_reducible refine gl_step (by with_reducible assumption) ?_ (by first | (simp; done) | (simp; omega)) | with_reducible refine gl_grown (by with_reducible assumption) ?_ (by first | (simp; done) | (simp; omega))))))).mono ?_
        rintro e w2 ⟨rfl, hb2⟩
        go_wp2_with fail
        go_ret
        exact ⟨by rw [HH.out]; rfl, by (repeat' (first | with_reducible exact Below.refl _ _ | with_reducible assumption | with_reducible refine below_alloc ?_ ?_ _ | with_reducible refine Below.setCell ?_ ?_ _ | with_reducible refine Below.drew ?_ | with_reducible refine below_drewN ?_ _ | with_reducible refine below_step (by assumption) ?_ ?_ | (with_reducible refine Below.trans ?_ (Below.mono (by assumption) ?_)) | exact Nat.le_refl _ | (simp; done) | (simp; omega) | omega))⟩
      · have b2 : decide ((pres.length : Int) ≤ 16) = false := by simp; omega
        have HH : Hid (opensP sigs pres msg after age (.mk k t n kids) = false) := by show _ = _; rw [H.out]; simp [h2]
        go_enter Tryz.func28, Tryz.ntmps28
        go_wp2_with fail
        refine (HR.out _ (by (repeat' (first | with_reducible exact gl_refl _ _ | with_reducible assumption | with_reducible refine gl_alloc ?_ _ | with_reducible refine gl_drewN ?_ _ | with_reducible refine gl_drew ?_ | (with_reducible refine gl_setn ?_ ?_ _; · (first | exact Nat.le_refl _ | (simp; done) | (simp; omega) | omega)) | (with_reducible refine gl_seti ?_ ?_ _; · (simp; done)) | with_reducible refine gl_below (by with_reducible assumption) ?_ | with_reducible refine gl_step (by with_reducible assumption) ?_ (by first | (simp; done) | (simp; omega)) | with_reducible refine gl_grown (by with_reducible assumption) ?_ (by first | (simp; done) | (simp; omega)))))).mono ?_
        rintro e w1 ⟨rfl, hb1⟩
        have g2 := blk_below (blk_new (w.alloc (.cells #[.int .u8 k, .string (bs t), .int .i64 n, .slice ad kids.length c] 25)) (.cells #[.slice sa sigs.length sc, .slice pa pres.length pc] 40)) hb1 (by simp)
        rw [show (w.alloc (.cells #[.int .u8 k, .string (bs t), .int .i64 n, .slice ad kids.length c] 25)).heap.size = w.heap.size + 1 by simp] at g2
        have f2 := blk_cell g2
        have e2 := blk_free g2
        clear g2
        go_wp2_with fail
        go_ret
        exact ⟨by rw [HH.out]; rfl, by (repeat' (first | with_reducible exact Below.refl _ _ | with_reducible assumption | with_reducible refine below_alloc ?_ ?_ _ | with_reducible refine Below.setCell ?_ ?_ _ | with_reducible refine Below.drew ?_ | with_reducible refine below_drewN ?_ _ | with_reducible refine below_step (by assumption) ?_ ?_ | (with_reducible refine Below.trans ?_ (Below.mono (by assumption) ?_)) | exact Nat.le_refl _ | (simp; done) | (simp; omega) | omega))⟩
    · have b1 : decide ((sigs.length : Int) ≤ 16) = false := by simp; omega
      have HH : Hid (opensP sigs pres msg after age (.mk k t n kids) = false) := by show _ = _; rw [H.out]; simp [h1]
      go_enter Tryz.func28, Tryz.ntmps28
      go_wp2_with fail
      refine (HR.out _ (by (repeat' (first | with_reducible exact gl_refl _ _ | with_reducible assumption | with_reducible refine gl_alloc ?_ _ | with_reducible refine gl_drewN ?_ _ | with_reducible refine gl_drew ?_ | (with_reducible refine gl_setn ?_ ?_ _; · (first | exact Nat.le_refl _ | (simp; done) | (simp; omega) | omega)) | (with_reducible refine gl_seti ?_ ?_ _; · (simp; done)) | with_reducible refine gl_below (by with_reducible assumption) ?_ | with_reducible refine gl_step (by with_reducible assumption) ?_ (by first | (simp; done) | (simp; omega)) | with_reducible refine gl_grown (by with_reducible assumption) ?_ (by first | (simp; done) | (simp; omega)))))).mono ?_
      rintro e w1 ⟨rfl, hb1⟩
      have g2 := blk_below (blk_new (w.alloc (.cells #[.int .u8 k, .string (bs t), .int .i64 n, .slice ad kids.length c] 25)) (.cells #[.slice sa sigs.length sc, .slice pa pres.length pc] 40)) hb1 (by simp)
      rw [show (w.alloc (.cells #[.int .u8 k, .string (bs t), .int .i64 n, .slice ad kids.length c] 25)).heap.size = w.heap.size + 1 by simp] at g2
      have f2 := blk_cell g2
      have e2 := blk_free g2
      clear g2
      go_wp2_with fail
      go_ret
      exact ⟨by rw [HH.out]; rfl, by (repeat' (first | with_reducible exact Below.refl _ _ | with_reducible assumption | with_reducible refine below_alloc ?_ ?_ _ | with_reducible refine Below.setCell ?_ ?_ _ | with_reducible refine Below.drew ?_ | with_reducible refine below_drewN ?_ _ | with_reducible refine below_step (by assumption) ?_ ?_ | (with_reducible refine Below.trans ?_ (Below.mono (by assumption) ?_)) | exact Nat.le_refl _ | (simp; done) | (simp; omega) | omega))⟩
end Go.Proofs.YtfmckibiblhakaaGreatDoor
