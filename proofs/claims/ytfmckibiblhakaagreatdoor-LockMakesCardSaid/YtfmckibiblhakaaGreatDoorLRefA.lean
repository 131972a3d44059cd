/- The reference's locks: how many parts, right. -/
import Derived.Test.YtfmckibiblhakaaGreatDoorLockX
import Derived.Test.YtfmckibiblhakaaGreatDoorMRef
set_option linter.unusedSimpArgs false
set_option linter.unusedVariables false
namespace Go.Proofs.YtfmckibiblhakaaGreatDoor
open Go.RowKit

def CountIH (N : Nat) : Prop := ∀ (x : LT) (p : Nat → Prop) (u : Value) (top : Int) (w : World), countL x ≤ N → 0 ≤ top → top ≤ 1000 → LockIn p w x u →
    Calls Tryz.prog 75 #[u, .int .i64 top] w fun e w' => e = .returned (.int .i64 (min (countL x) (top + 1))) ∧ Below w.heap.size w w'
theorem countRow_takeS (l : List LT) (j : Nat) (h : j < l.length) : countRow (l.take (j + 1)) = countRow (l.take j) + countL l[j] := by
  have happ : ∀ a b : List LT, countRow (a ++ b) = countRow a + countRow b := by
    intro a b
    induction a with
    | nil => rw [countRow_nil]; simp
    | cons x r ih => rw [List.cons_append, countRow_cons, countRow_cons, ih]; omega
  rw [List.take_succ_eq_append_getElem h, happ, countRow_cons, countRow_nil]; omega
theorem countRow_takeL (l : List LT) (j : Nat) : countRow (l.take j) ≤ countRow l := by
  have happ : ∀ a b : List LT, countRow (a ++ b) = countRow a + countRow b := by
    intro a b
    induction a with
    | nil => rw [countRow_nil]; simp
    | cons x r ih => rw [List.cons_append, countRow_cons, countRow_cons, ih]; omega
  have h := congrArg countRow (List.take_append_drop j l)
  rw [happ] at h
  have := count_pos_row (l.drop j)
  omega

set_option maxRecDepth 100000 in
set_option maxHeartbeats 8000000 in
theorem rlCountAll (N : Nat) (ih : CountIH N) (top : Int) (h0 : 0 ≤ top) (h1 : top ≤ 1000) (k n : Int) (t : List UInt8) (kids : List LT) (ad : Option Addr) (c : Nat) (p : Nat → Prop) (hkn : kids.length ≤ 9000000000000000000) (hcN : countRow kids ≤ N) (w : World)
    (hd : kids = [] ∨ ∃ b o, ad = some ⟨b, o, none⟩ ∧ b < w.heap.size ∧ p b ∧ RowIn p w kids b o) :
    Calls Tryz.prog 75 #[.agg #[.int .u8 k, .string (bs t), .int .i64 n, .slice ad kids.length c], .int .i64 top] w fun e w' => e = .returned (.int .i64 (min (1 + countRow kids) (top + 1))) ∧ Below w.heap.size w w' := by
  have HD := Lib.hid hd
  have IH := Lib.hid ih
  have hpr := count_pos_row kids
  clear hd ih
  go_enter Tryz.func75, Tryz.ntmps75
  go_wp2
  go_loopw [5, 6] (fun nv iv wr => ∃ (j : Nat) (s : Int), j ≤ kids.length ∧ iv = .int .i64 j ∧ nv = .int .i64 s ∧ 1 ≤ s ∧ s ≤ top + 1 ∧ Hid (s = min (1 + countRow (kids.take j)) (top + 1)) ∧ Hid (wr.heap[w.heap.size]? = some (.cells #[.int .u8 k, .string (bs t), .int .i64 n, .slice ad kids.length c] 25 (0, 0))) ∧ Hid (GL [] w wr)) (fun _ iv _ => kids.length - (intOf iv).toNat)
  case atStart => exact ⟨0, 1, by omega, rfl, rfl, by omega, by omega, Lib.hid (by rw [List.take_zero, countRow_nil]; omega), Lib.hid (blk_new w (.cells #[.int .u8 k, .string (bs t), .int .i64 n, .slice ad kids.length c] 25)), Lib.hid (by (repeat' (first | with_reducible exact gl_refl _ _ | with_reducible assumption | with_reducible refine gl_alloc ?_ _ | with_reducible refine gl_drewN ?_ _ | with_reducible refine gl_drew ?_ | (with_reducible refine gl_setn ?_ ?_ _; · (first | exact Nat.le_refl _ | (simp; done) | (simp; omega) | omega)) | (with_reducible refine gl_seti ?_ ?_ _; · (simp; done)) | with_reducible refine gl_below (by with_reducible assumption) ?_ | with_reducible refine gl_step (by with_reducible assumption) ?_ (by first | (simp; done) | (simp; omega)) | with_reducible refine gl_grown (by with_reducible assumption) ?_ (by first | (simp; done) | (simp; omega)))))⟩
  case round =>
    obtain ⟨j, s, hj, rfl, rfl, hs0, hs1, hsv, H1, hgr⟩ := hrel
    have f1 := blk_cell H1.out
    have e1 := blk_free H1.out
    have htl := countRow_takeL kids j
    by_cases hlt : j < kids.length
    · have i3 : (j : Int) < kids.length := by omega
      by_cases hst : s ≤ top
      · rcases HD.out with h0' | ⟨b, o, rfl, hb, hqb, hrow⟩
        · subst h0'; simp at hlt
        obtain ⟨u0, u1, u2, u3, hx, c0, c1, c2', c3⟩ := rowIn_get kids b o j kids[j] (rowIn_gl hgr.out kids b o hb hqb hrow) (List.getElem?_eq_getElem hlt)
        obtain ⟨ku, nu, tu, au, mu, cu, rfl, rfl, rfl, rfl⟩ := lockIn_cells hx
        have hcx : countL kids[j] ≤ N := by have := countL_mem kids kids[j] (List.getElem_mem hlt); omega
        have hcp := count_pos kids[j]
        have hcall := fun (W : World) (hg : GL [] wr W) => IH.out kids[j] p _ (top - s) W hcx (by omega) (by omega) (lockIn_gl hg _ _ hx)
        have hts := countRow_takeS kids j hlt
        have HTS := Lib.hid hts
        generalize countL kids[j] = z at *
        have HC := Lib.hid hcall
        have hz : 1 ≤ min z (top - s + 1) ∧ min z (top - s + 1) ≤ top - s + 1 := by omega
        obtain ⟨zz, hzz⟩ : ∃ zz, min z (top - s + 1) = zz := ⟨_, rfl⟩
        have HZZ := Lib.hid hzz
        rw [hzz] at hz
        clear hcall hx hrow hcx HD hts hzz
        go_wp2_with fail
        refine (HC.out _ (gl_refl _ _)).mono ?_
        rintro e w1 ⟨rfl, hb1⟩
        rw [HZZ.out]
        go_wp2_with fail
        go_roundw
        case rel => exact ⟨j + 1, s + zz, by omega, by go_num, by first | rfl | (congr; omega), by omega, by omega, Lib.hid (by have h1 := hsv.out; have h2 := HTS.out; have h3 := HZZ.out; omega), Lib.hid (blk_below H1.out hb1 (blk_lt H1.out)), Lib.hid (gl_below hb1 hgr.out)⟩
        case measure => simp [intOf]; omega
      · have b1 : decide (s ≤ top) = false := by simpa using hst
        have HE : Hid (s = min (1 + countRow kids) (top + 1)) := by
          show s = _
          have := hsv.out
          omega
        go_wp2
        go_ret
        exact ⟨by rw [← HE.out]; rfl, gl_to_below hgr.out⟩
    · obtain rfl : j = kids.length := by omega
      have i4 : decide ((kids.length : Int) < kids.length) = false := by simp
      have HE : Hid (s = min (1 + countRow kids) (top + 1)) := by
        show s = _
        have := hsv.out
        rw [List.take_length] at this
        exact this
      go_wp2
      go_ret
      exact ⟨by rw [← HE.out]; rfl, gl_to_below hgr.out⟩
theorem rlCountN : ∀ N, CountIH N
  | 0 => fun x p u top w hN _ _ _ => by have := count_pos x; omega
  | N + 1 => fun x p u top w hN h0 h1 hx => by
    obtain ⟨k, t, n, kids⟩ := x
    obtain ⟨ad, c, rfl, _, _, ht, hkn, hd⟩ := lockIn_open hx
    rw [countL] at hN ⊢
    exact rlCountAll N (rlCountN N) top h0 h1 k n t kids ad c p hkn (by omega) w hd

set_option maxRecDepth 100000 in
set_option maxHeartbeats 4000000 in
theorem rlRight1n (n : Int) (t : List UInt8) (ht : t.length ≤ 9000000000000000000) (ad : Option Addr) (m c : Nat) (h1 : (n != 0) = true) (w : World) :
    Calls Tryz.prog 76 #[.agg #[.int .u8 1, .string (bs t), .int .i64 n, .slice ad m c]] w fun e w' => e = .returned (.bool false) ∧ Below w.heap.size w w' := by
  go_enter Tryz.func76, Tryz.ntmps76
  go_wp2
  go_ret
  exact ⟨by first | rfl | (simp; done), by (repeat' (first | with_reducible exact Below.refl _ _ | with_reducible assumption | with_reducible refine below_alloc ?_ ?_ _ | with_reducible refine Below.setCell ?_ ?_ _ | with_reducible refine Below.drew ?_ | with_reducible refine below_drewN ?_ _ | with_reducible refine below_step (by assumption) ?_ ?_ | (with_reducible refine Below.trans ?_ (Below.mono (by assumption) ?_)) | exact Nat.le_refl _ | (simp; done) | (simp; omega) | omega))⟩

set_option maxRecDepth 100000 in
set_option maxHeartbeats 4000000 in
theorem rlRight1m  (t : List UInt8) (ht : t.length ≤ 9000000000000000000) (ad : Option Addr) (m c : Nat) (h1 : (0 : Int) < m) (w : World) :
    Calls Tryz.prog 76 #[.agg #[.int .u8 1, .string (bs t), .int .i64 0, .slice ad m c]] w fun e w' => e = .returned (.bool false) ∧ Below w.heap.size w w' := by
  go_enter Tryz.func76, Tryz.ntmps76
  go_wp2
  go_ret
  exact ⟨by first | rfl | (simp; done), by (repeat' (first | with_reducible exact Below.refl _ _ | with_reducible assumption | with_reducible refine below_alloc ?_ ?_ _ | with_reducible refine Below.setCell ?_ ?_ _ | with_reducible refine Below.drew ?_ | with_reducible refine below_drewN ?_ _ | with_reducible refine below_step (by assumption) ?_ ?_ | (with_reducible refine Below.trans ?_ (Below.mono (by assumption) ?_)) | exact Nat.le_refl _ | (simp; done) | (simp; omega) | omega))⟩

set_option maxRecDepth 100000 in
set_option maxHeartbeats 4000000 in
theorem rlRight1r  (t : List UInt8) (ht : t.length ≤ 9000000000000000000) (ad : Option Addr) (m c : Nat) (hr : right t = false) (w : World) :
    Calls Tryz.prog 76 #[.agg #[.int .u8 1, .string (bs t), .int .i64 0, .slice ad 0 c]] w fun e w' => e = .returned (.bool false) ∧ Below w.heap.size w w' := by
  go_enter Tryz.func76, Tryz.ntmps76
  go_wp2_with fail
  refine (refRight t (by first | exact ht | simp) _).mono ?_
  rintro e w1 ⟨rfl, hb1⟩
  rw [hr]
  have hq := blk_below (blk_new w _) hb1 (by simp)
  have f0 := blk_cell hq
  have f1 := blk_free hq
  clear hq
  go_wp2
  go_ret
  exact ⟨by first | rfl | (simp; done), by (repeat' (first | with_reducible exact Below.refl _ _ | with_reducible assumption | with_reducible refine below_alloc ?_ ?_ _ | with_reducible refine Below.setCell ?_ ?_ _ | with_reducible refine Below.drew ?_ | with_reducible refine below_drewN ?_ _ | with_reducible refine below_step (by assumption) ?_ ?_ | (with_reducible refine Below.trans ?_ (Below.mono (by assumption) ?_)) | exact Nat.le_refl _ | (simp; done) | (simp; omega) | omega))⟩

set_option maxRecDepth 100000 in
set_option maxHeartbeats 4000000 in
theorem rlRight2n (n : Int) (t : List UInt8) (ht : t.length ≤ 9000000000000000000) (ad : Option Addr) (m c : Nat) (h1 : (n != 0) = true) (w : World) :
    Calls Tryz.prog 76 #[.agg #[.int .u8 2, .string (bs t), .int .i64 n, .slice ad m c]] w fun e w' => e = .returned (.bool false) ∧ Below w.heap.size w w' := by
  go_enter Tryz.func76, Tryz.ntmps76
  go_wp2
  go_ret
  exact ⟨by first | rfl | (simp; done), by (repeat' (first | with_reducible exact Below.refl _ _ | with_reducible assumption | with_reducible refine below_alloc ?_ ?_ _ | with_reducible refine Below.setCell ?_ ?_ _ | with_reducible refine Below.drew ?_ | with_reducible refine below_drewN ?_ _ | with_reducible refine below_step (by assumption) ?_ ?_ | (with_reducible refine Below.trans ?_ (Below.mono (by assumption) ?_)) | exact Nat.le_refl _ | (simp; done) | (simp; omega) | omega))⟩

set_option maxRecDepth 100000 in
set_option maxHeartbeats 4000000 in
theorem rlRight2m  (t : List UInt8) (ht : t.length ≤ 9000000000000000000) (ad : Option Addr) (m c : Nat) (h1 : (0 : Int) < m) (w : World) :
    Calls Tryz.prog 76 #[.agg #[.int .u8 2, .string (bs t), .int .i64 0, .slice ad m c]] w fun e w' => e = .returned (.bool false) ∧ Below w.heap.size w w' := by
  go_enter Tryz.func76, Tryz.ntmps76
  go_wp2
  go_ret
  exact ⟨by first | rfl | (simp; done), by (repeat' (first | with_reducible exact Below.refl _ _ | with_reducible assumption | with_reducible refine below_alloc ?_ ?_ _ | with_reducible refine Below.setCell ?_ ?_ _ | with_reducible refine Below.drew ?_ | with_reducible refine below_drewN ?_ _ | with_reducible refine below_step (by assumption) ?_ ?_ | (with_reducible refine Below.trans ?_ (Below.mono (by assumption) ?_)) | exact Nat.le_refl _ | (simp; done) | (simp; omega) | omega))⟩

set_option maxRecDepth 100000 in
set_option maxHeartbeats 4000000 in
theorem rlRight2r  (t : List UInt8) (ht : t.length ≤ 9000000000000000000) (ad : Option Addr) (m c : Nat) (hr : right t = false) (w : World) :
    Calls Tryz.prog 76 #[.agg #[.int .u8 2, .string (bs t), .int .i64 0, .slice ad 0 c]] w fun e w' => e = .returned (.bool false) ∧ Below w.heap.size w w' := by
  go_enter Tryz.func76, Tryz.ntmps76
  go_wp2_with fail
  refine (refRight t (by first | exact ht | simp) _).mono ?_
  rintro e w1 ⟨rfl, hb1⟩
  rw [hr]
  have hq := blk_below (blk_new w _) hb1 (by simp)
  have f0 := blk_cell hq
  have f1 := blk_free hq
  clear hq
  go_wp2
  go_ret
  exact ⟨by first | rfl | (simp; done), by (repeat' (first | with_reducible exact Below.refl _ _ | with_reducible assumption | with_reducible refine below_alloc ?_ ?_ _ | with_reducible refine Below.setCell ?_ ?_ _ | with_reducible refine Below.drew ?_ | with_reducible refine below_drewN ?_ _ | with_reducible refine below_step (by assumption) ?_ ?_ | (with_reducible refine Below.trans ?_ (Below.mono (by assumption) ?_)) | exact Nat.le_refl _ | (simp; done) | (simp; omega) | omega))⟩

set_option maxRecDepth 100000 in
set_option maxHeartbeats 4000000 in
theorem rlRight1y80 (r : List UInt8) (t : List UInt8) (ht : t.length ≤ 9000000000000000000) (ad : Option Addr) (m c : Nat) (hr : right (80 :: r) = true) (hrl : r.length ≤ 8000000000000000000) (w : World) :
    Calls Tryz.prog 76 #[.agg #[.int .u8 1, .string (bs (80 :: r)), .int .i64 0, .slice ad 0 c]] w fun e w' => e = .returned (.bool true) ∧ Below w.heap.size w w' := by
  go_enter Tryz.func76, Tryz.ntmps76
  go_wp2_with fail
  refine (refRight (80 :: r) (by simp; omega) _).mono ?_
  rintro e w1 ⟨rfl, hb1⟩
  rw [hr]
  have hq := blk_below (blk_new w _) hb1 (by simp)
  have f0 := blk_cell hq
  have f1 := blk_free hq
  clear hq
  go_wp2
  go_ret
  exact ⟨by first | rfl | (simp; done), by (repeat' (first | with_reducible exact Below.refl _ _ | with_reducible assumption | with_reducible refine below_alloc ?_ ?_ _ | with_reducible refine Below.setCell ?_ ?_ _ | with_reducible refine Below.drew ?_ | with_reducible refine below_drewN ?_ _ | with_reducible refine below_step (by assumption) ?_ ?_ | (with_reducible refine Below.trans ?_ (Below.mono (by assumption) ?_)) | exact Nat.le_refl _ | (simp; done) | (simp; omega) | omega))⟩

set_option maxRecDepth 100000 in
set_option maxHeartbeats 4000000 in
theorem rlRight1y87 (r : List UInt8) (t : List UInt8) (ht : t.length ≤ 9000000000000000000) (ad : Option Addr) (m c : Nat) (hr : right (87 :: r) = true) (hrl : r.length ≤ 8000000000000000000) (w : World) :
    Calls Tryz.prog 76 #[.agg #[.int .u8 1, .string (bs (87 :: r)), .int .i64 0, .slice ad 0 c]] w fun e w' => e = .returned (.bool true) ∧ Below w.heap.size w w' := by
  go_enter Tryz.func76, Tryz.ntmps76
  go_wp2_with fail
  refine (refRight (87 :: r) (by simp; omega) _).mono ?_
  rintro e w1 ⟨rfl, hb1⟩
  rw [hr]
  have hq := blk_below (blk_new w _) hb1 (by simp)
  have f0 := blk_cell hq
  have f1 := blk_free hq
  clear hq
  go_wp2
  go_ret
  exact ⟨by first | rfl | (simp; done), by (repeat' (first | with_reducible exact Below.refl _ _ | with_reducible assumption | with_reducible refine below_alloc ?_ ?_ _ | with_reducible refine Below.setCell ?_ ?_ _ | with_reducible refine Below.drew ?_ | with_reducible refine below_drewN ?_ _ | with_reducible refine below_step (by assumption) ?_ ?_ | (with_reducible refine Below.trans ?_ (Below.mono (by assumption) ?_)) | exact Nat.le_refl _ | (simp; done) | (simp; omega) | omega))⟩

set_option maxRecDepth 100000 in
set_option maxHeartbeats 4000000 in
theorem rlRight1y76 (r : List UInt8) (t : List UInt8) (ht : t.length ≤ 9000000000000000000) (ad : Option Addr) (m c : Nat) (hr : right (76 :: r) = true) (hrl : r.length ≤ 8000000000000000000) (w : World) :
    Calls Tryz.prog 76 #[.agg #[.int .u8 1, .string (bs (76 :: r)), .int .i64 0, .slice ad 0 c]] w fun e w' => e = .returned (.bool true) ∧ Below w.heap.size w w' := by
  go_enter Tryz.func76, Tryz.ntmps76
  go_wp2_with fail
  refine (refRight (76 :: r) (by simp; omega) _).mono ?_
  rintro e w1 ⟨rfl, hb1⟩
  rw [hr]
  have hq := blk_below (blk_new w _) hb1 (by simp)
  have f0 := blk_cell hq
  have f1 := blk_free hq
  clear hq
  go_wp2
  go_ret
  exact ⟨by first | rfl | (simp; done), by (repeat' (first | with_reducible exact Below.refl _ _ | with_reducible assumption | with_reducible refine below_alloc ?_ ?_ _ | with_reducible refine Below.setCell ?_ ?_ _ | with_reducible refine Below.drew ?_ | with_reducible refine below_drewN ?_ _ | with_reducible refine below_step (by assumption) ?_ ?_ | (with_reducible refine Below.trans ?_ (Below.mono (by assumption) ?_)) | exact Nat.le_refl _ | (simp; done) | (simp; omega) | omega))⟩

set_option maxRecDepth 100000 in
set_option maxHeartbeats 4000000 in
theorem rlRight1z (cc : UInt8) (r : List UInt8) (t : List UInt8) (ht : t.length ≤ 9000000000000000000) (ad : Option Addr) (m c : Nat) (hr : right (cc :: r) = true) (hrl : r.length ≤ 8000000000000000000) (b1 : (((cc.toNat : Nat) : Int) == 80) = false) (b2 : (((cc.toNat : Nat) : Int) == 87) = false) (b3 : (((cc.toNat : Nat) : Int) == 76) = false) (w : World) :
    Calls Tryz.prog 76 #[.agg #[.int .u8 1, .string (bs (cc :: r)), .int .i64 0, .slice ad 0 c]] w fun e w' => e = .returned (.bool false) ∧ Below w.heap.size w w' := by
  go_enter Tryz.func76, Tryz.ntmps76
  go_wp2_with fail
  refine (refRight (cc :: r) (by simp; omega) _).mono ?_
  rintro e w1 ⟨rfl, hb1⟩
  rw [hr]
  have hq := blk_below (blk_new w _) hb1 (by simp)
  have f0 := blk_cell hq
  have f1 := blk_free hq
  clear hq
  go_wp2
  go_ret
  exact ⟨by first | rfl | (simp; done), by (repeat' (first | with_reducible exact Below.refl _ _ | with_reducible assumption | with_reducible refine below_alloc ?_ ?_ _ | with_reducible refine Below.setCell ?_ ?_ _ | with_reducible refine Below.drew ?_ | with_reducible refine below_drewN ?_ _ | with_reducible refine below_step (by assumption) ?_ ?_ | (with_reducible refine Below.trans ?_ (Below.mono (by assumption) ?_)) | exact Nat.le_refl _ | (simp; done) | (simp; omega) | omega))⟩

set_option maxRecDepth 100000 in
set_option maxHeartbeats 4000000 in
theorem rlRight2y (cc : UInt8) (r : List UInt8) (t : List UInt8) (ht : t.length ≤ 9000000000000000000) (ad : Option Addr) (m c : Nat) (hr : right (cc :: r) = true) (hrl : r.length ≤ 8000000000000000000) (w : World) :
    Calls Tryz.prog 76 #[.agg #[.int .u8 2, .string (bs (cc :: r)), .int .i64 0, .slice ad 0 c]] w fun e w' => e = .returned (.bool (((cc.toNat : Nat) : Int) == 72)) ∧ Below w.heap.size w w' := by
  go_enter Tryz.func76, Tryz.ntmps76
  go_wp2_with fail
  refine (refRight (cc :: r) (by simp; omega) _).mono ?_
  rintro e w1 ⟨rfl, hb1⟩
  rw [hr]
  have hq := blk_below (blk_new w _) hb1 (by simp)
  have f0 := blk_cell hq
  have f1 := blk_free hq
  clear hq
  go_wp2
  go_ret
  exact ⟨by first | rfl | (simp; done), by (repeat' (first | with_reducible exact Below.refl _ _ | with_reducible assumption | with_reducible refine below_alloc ?_ ?_ _ | with_reducible refine Below.setCell ?_ ?_ _ | with_reducible refine Below.drew ?_ | with_reducible refine below_drewN ?_ _ | with_reducible refine below_step (by assumption) ?_ ?_ | (with_reducible refine Below.trans ?_ (Below.mono (by assumption) ?_)) | exact Nat.le_refl _ | (simp; done) | (simp; omega) | omega))⟩

set_option maxRecDepth 100000 in
set_option maxHeartbeats 4000000 in
theorem rlRight3t (n : Int) (t : List UInt8) (ht : t.length ≤ 9000000000000000000) (ad : Option Addr) (m c : Nat) (h1 : (t == []) = false) (w : World) :
    Calls Tryz.prog 76 #[.agg #[.int .u8 3, .string (bs t), .int .i64 n, .slice ad m c]] w fun e w' => e = .returned (.bool false) ∧ Below w.heap.size w w' := by
  go_enter Tryz.func76, Tryz.ntmps76
  go_wp2
  go_ret
  exact ⟨by first | rfl | (simp; done), by (repeat' (first | with_reducible exact Below.refl _ _ | with_reducible assumption | with_reducible refine below_alloc ?_ ?_ _ | with_reducible refine Below.setCell ?_ ?_ _ | with_reducible refine Below.drew ?_ | with_reducible refine below_drewN ?_ _ | with_reducible refine below_step (by assumption) ?_ ?_ | (with_reducible refine Below.trans ?_ (Below.mono (by assumption) ?_)) | exact Nat.le_refl _ | (simp; done) | (simp; omega) | omega))⟩

set_option maxRecDepth 100000 in
set_option maxHeartbeats 4000000 in
theorem rlRight3m (n : Int) (t : List UInt8) (ht : t.length ≤ 9000000000000000000) (ad : Option Addr) (m c : Nat) (h1 : ((m : Int) == 0) = false) (w : World) :
    Calls Tryz.prog 76 #[.agg #[.int .u8 3, .string (bs []), .int .i64 n, .slice ad m c]] w fun e w' => e = .returned (.bool false) ∧ Below w.heap.size w w' := by
  go_enter Tryz.func76, Tryz.ntmps76
  go_wp2
  go_ret
  exact ⟨by first | rfl | (simp; done), by (repeat' (first | with_reducible exact Below.refl _ _ | with_reducible assumption | with_reducible refine below_alloc ?_ ?_ _ | with_reducible refine Below.setCell ?_ ?_ _ | with_reducible refine Below.drew ?_ | with_reducible refine below_drewN ?_ _ | with_reducible refine below_step (by assumption) ?_ ?_ | (with_reducible refine Below.trans ?_ (Below.mono (by assumption) ?_)) | exact Nat.le_refl _ | (simp; done) | (simp; omega) | omega))⟩

set_option maxRecDepth 100000 in
set_option maxHeartbeats 4000000 in
theorem rlRight3l (n : Int) (t : List UInt8) (ht : t.length ≤ 9000000000000000000) (ad : Option Addr) (m c : Nat) (h1 : decide (0 ≤ n) = false) (w : World) :
    Calls Tryz.prog 76 #[.agg #[.int .u8 3, .string (bs []), .int .i64 n, .slice ad 0 c]] w fun e w' => e = .returned (.bool false) ∧ Below w.heap.size w w' := by
  go_enter Tryz.func76, Tryz.ntmps76
  go_wp2
  go_ret
  exact ⟨by first | rfl | (simp; done), by (repeat' (first | with_reducible exact Below.refl _ _ | with_reducible assumption | with_reducible refine below_alloc ?_ ?_ _ | with_reducible refine Below.setCell ?_ ?_ _ | with_reducible refine Below.drew ?_ | with_reducible refine below_drewN ?_ _ | with_reducible refine below_step (by assumption) ?_ ?_ | (with_reducible refine Below.trans ?_ (Below.mono (by assumption) ?_)) | exact Nat.le_refl _ | (simp; done) | (simp; omega) | omega))⟩

set_option maxRecDepth 100000 in
set_option maxHeartbeats 4000000 in
theorem rlRight3h (n : Int) (t : List UInt8) (ht : t.length ≤ 9000000000000000000) (ad : Option Addr) (m c : Nat) (h1 : 0 ≤ n) (w : World) :
    Calls Tryz.prog 76 #[.agg #[.int .u8 3, .string (bs []), .int .i64 n, .slice ad 0 c]] w fun e w' => e = .returned (.bool (decide (n < 1073741824))) ∧ Below w.heap.size w w' := by
  go_enter Tryz.func76, Tryz.ntmps76
  go_wp2
  go_ret
  exact ⟨by first | rfl | (simp; done), by (repeat' (first | with_reducible exact Below.refl _ _ | with_reducible assumption | with_reducible refine below_alloc ?_ ?_ _ | with_reducible refine Below.setCell ?_ ?_ _ | with_reducible refine Below.drew ?_ | with_reducible refine below_drewN ?_ _ | with_reducible refine below_step (by assumption) ?_ ?_ | (with_reducible refine Below.trans ?_ (Below.mono (by assumption) ?_)) | exact Nat.le_refl _ | (simp; done) | (simp; omega) | omega))⟩

set_option maxRecDepth 100000 in
set_option maxHeartbeats 4000000 in
theorem rlRight4t (n : Int) (t : List UInt8) (ht : t.length ≤ 9000000000000000000) (ad : Option Addr) (m c : Nat) (h1 : (t == []) = false) (w : World) :
    Calls Tryz.prog 76 #[.agg #[.int .u8 4, .string (bs t), .int .i64 n, .slice ad m c]] w fun e w' => e = .returned (.bool false) ∧ Below w.heap.size w w' := by
  go_enter Tryz.func76, Tryz.ntmps76
  go_wp2
  go_ret
  exact ⟨by first | rfl | (simp; done), by (repeat' (first | with_reducible exact Below.refl _ _ | with_reducible assumption | with_reducible refine below_alloc ?_ ?_ _ | with_reducible refine Below.setCell ?_ ?_ _ | with_reducible refine Below.drew ?_ | with_reducible refine below_drewN ?_ _ | with_reducible refine below_step (by assumption) ?_ ?_ | (with_reducible refine Below.trans ?_ (Below.mono (by assumption) ?_)) | exact Nat.le_refl _ | (simp; done) | (simp; omega) | omega))⟩

set_option maxRecDepth 100000 in
set_option maxHeartbeats 4000000 in
theorem rlRight4m (n : Int) (t : List UInt8) (ht : t.length ≤ 9000000000000000000) (ad : Option Addr) (m c : Nat) (h1 : ((m : Int) == 0) = false) (w : World) :
    Calls Tryz.prog 76 #[.agg #[.int .u8 4, .string (bs []), .int .i64 n, .slice ad m c]] w fun e w' => e = .returned (.bool false) ∧ Below w.heap.size w w' := by
  go_enter Tryz.func76, Tryz.ntmps76
  go_wp2
  go_ret
  exact ⟨by first | rfl | (simp; done), by (repeat' (first | with_reducible exact Below.refl _ _ | with_reducible assumption | with_reducible refine below_alloc ?_ ?_ _ | with_reducible refine Below.setCell ?_ ?_ _ | with_reducible refine Below.drew ?_ | with_reducible refine below_drewN ?_ _ | with_reducible refine below_step (by assumption) ?_ ?_ | (with_reducible refine Below.trans ?_ (Below.mono (by assumption) ?_)) | exact Nat.le_refl _ | (simp; done) | (simp; omega) | omega))⟩

set_option maxRecDepth 100000 in
set_option maxHeartbeats 4000000 in
theorem rlRight4l (n : Int) (t : List UInt8) (ht : t.length ≤ 9000000000000000000) (ad : Option Addr) (m c : Nat) (h1 : decide (0 ≤ n) = false) (w : World) :
    Calls Tryz.prog 76 #[.agg #[.int .u8 4, .string (bs []), .int .i64 n, .slice ad 0 c]] w fun e w' => e = .returned (.bool false) ∧ Below w.heap.size w w' := by
  go_enter Tryz.func76, Tryz.ntmps76
  go_wp2
  go_ret
  exact ⟨by first | rfl | (simp; done), by (repeat' (first | with_reducible exact Below.refl _ _ | with_reducible assumption | with_reducible refine below_alloc ?_ ?_ _ | with_reducible refine Below.setCell ?_ ?_ _ | with_reducible refine Below.drew ?_ | with_reducible refine below_drewN ?_ _ | with_reducible refine below_step (by assumption) ?_ ?_ | (with_reducible refine Below.trans ?_ (Below.mono (by assumption) ?_)) | exact Nat.le_refl _ | (simp; done) | (simp; omega) | omega))⟩

set_option maxRecDepth 100000 in
set_option maxHeartbeats 4000000 in
theorem rlRight4h (n : Int) (t : List UInt8) (ht : t.length ≤ 9000000000000000000) (ad : Option Addr) (m c : Nat) (h1 : 0 ≤ n) (w : World) :
    Calls Tryz.prog 76 #[.agg #[.int .u8 4, .string (bs []), .int .i64 n, .slice ad 0 c]] w fun e w' => e = .returned (.bool (decide (n < 1073741824))) ∧ Below w.heap.size w w' := by
  go_enter Tryz.func76, Tryz.ntmps76
  go_wp2
  go_ret
  exact ⟨by first | rfl | (simp; done), by (repeat' (first | with_reducible exact Below.refl _ _ | with_reducible assumption | with_reducible refine below_alloc ?_ ?_ _ | with_reducible refine Below.setCell ?_ ?_ _ | with_reducible refine Below.drew ?_ | with_reducible refine below_drewN ?_ _ | with_reducible refine below_step (by assumption) ?_ ?_ | (with_reducible refine Below.trans ?_ (Below.mono (by assumption) ?_)) | exact Nat.le_refl _ | (simp; done) | (simp; omega) | omega))⟩

set_option maxRecDepth 100000 in
set_option maxHeartbeats 4000000 in
theorem rlRight5t (n : Int) (t : List UInt8) (ht : t.length ≤ 9000000000000000000) (ad : Option Addr) (m c : Nat) (h0 : ¬ t = []) (h1 : (t != []) = true) (w : World) :
    Calls Tryz.prog 76 #[.agg #[.int .u8 5, .string (bs t), .int .i64 n, .slice ad m c]] w fun e w' => e = .returned (.bool false) ∧ Below w.heap.size w w' := by
  go_enter Tryz.func76, Tryz.ntmps76
  go_wp2
  go_ret
  exact ⟨by first | rfl | (simp; done), by (repeat' (first | with_reducible exact Below.refl _ _ | with_reducible assumption | with_reducible refine below_alloc ?_ ?_ _ | with_reducible refine Below.setCell ?_ ?_ _ | with_reducible refine Below.drew ?_ | with_reducible refine below_drewN ?_ _ | with_reducible refine below_step (by assumption) ?_ ?_ | (with_reducible refine Below.trans ?_ (Below.mono (by assumption) ?_)) | exact Nat.le_refl _ | (simp; done) | (simp; omega) | omega))⟩

set_option maxRecDepth 100000 in
set_option maxHeartbeats 4000000 in
theorem rlRight5n (n : Int) (t : List UInt8) (ht : t.length ≤ 9000000000000000000) (ad : Option Addr) (m c : Nat) (h1 : (n != 0) = true) (w : World) :
    Calls Tryz.prog 76 #[.agg #[.int .u8 5, .string (bs []), .int .i64 n, .slice ad m c]] w fun e w' => e = .returned (.bool false) ∧ Below w.heap.size w w' := by
  go_enter Tryz.func76, Tryz.ntmps76
  go_wp2
  go_ret
  exact ⟨by first | rfl | (simp; done), by (repeat' (first | with_reducible exact Below.refl _ _ | with_reducible assumption | with_reducible refine below_alloc ?_ ?_ _ | with_reducible refine Below.setCell ?_ ?_ _ | with_reducible refine Below.drew ?_ | with_reducible refine below_drewN ?_ _ | with_reducible refine below_step (by assumption) ?_ ?_ | (with_reducible refine Below.trans ?_ (Below.mono (by assumption) ?_)) | exact Nat.le_refl _ | (simp; done) | (simp; omega) | omega))⟩

set_option maxRecDepth 100000 in
set_option maxHeartbeats 4000000 in
theorem rlRight5z  (t : List UInt8) (ht : t.length ≤ 9000000000000000000) (ad : Option Addr) (m c : Nat)  (w : World) :
    Calls Tryz.prog 76 #[.agg #[.int .u8 5, .string (bs []), .int .i64 0, .slice ad 0 c]] w fun e w' => e = .returned (.bool false) ∧ Below w.heap.size w w' := by
  go_enter Tryz.func76, Tryz.ntmps76
  go_wp2
  go_ret
  exact ⟨by first | rfl | (simp; done), by (repeat' (first | with_reducible exact Below.refl _ _ | with_reducible assumption | with_reducible refine below_alloc ?_ ?_ _ | with_reducible refine Below.setCell ?_ ?_ _ | with_reducible refine Below.drew ?_ | with_reducible refine below_drewN ?_ _ | with_reducible refine below_step (by assumption) ?_ ?_ | (with_reducible refine Below.trans ?_ (Below.mono (by assumption) ?_)) | exact Nat.le_refl _ | (simp; done) | (simp; omega) | omega))⟩

set_option maxRecDepth 100000 in
set_option maxHeartbeats 4000000 in
theorem rlRight5g  (t : List UInt8) (ht : t.length ≤ 9000000000000000000) (ad : Option Addr) (m c : Nat) (h1 : decide ((m : Int) < 1) = false) (h2 : decide (8 < (m : Int)) = true) (w : World) :
    Calls Tryz.prog 76 #[.agg #[.int .u8 5, .string (bs []), .int .i64 0, .slice ad m c]] w fun e w' => e = .returned (.bool false) ∧ Below w.heap.size w w' := by
  go_enter Tryz.func76, Tryz.ntmps76
  go_wp2
  go_ret
  exact ⟨by first | rfl | (simp; done), by (repeat' (first | with_reducible exact Below.refl _ _ | with_reducible assumption | with_reducible refine below_alloc ?_ ?_ _ | with_reducible refine Below.setCell ?_ ?_ _ | with_reducible refine Below.drew ?_ | with_reducible refine below_drewN ?_ _ | with_reducible refine below_step (by assumption) ?_ ?_ | (with_reducible refine Below.trans ?_ (Below.mono (by assumption) ?_)) | exact Nat.le_refl _ | (simp; done) | (simp; omega) | omega))⟩

set_option maxRecDepth 100000 in
set_option maxHeartbeats 4000000 in
theorem rlRight6t (n : Int) (t : List UInt8) (ht : t.length ≤ 9000000000000000000) (ad : Option Addr) (m c : Nat) (h0 : ¬ t = []) (h1 : (t != []) = true) (w : World) :
    Calls Tryz.prog 76 #[.agg #[.int .u8 6, .string (bs t), .int .i64 n, .slice ad m c]] w fun e w' => e = .returned (.bool false) ∧ Below w.heap.size w w' := by
  go_enter Tryz.func76, Tryz.ntmps76
  go_wp2
  go_ret
  exact ⟨by first | rfl | (simp; done), by (repeat' (first | with_reducible exact Below.refl _ _ | with_reducible assumption | with_reducible refine below_alloc ?_ ?_ _ | with_reducible refine Below.setCell ?_ ?_ _ | with_reducible refine Below.drew ?_ | with_reducible refine below_drewN ?_ _ | with_reducible refine below_step (by assumption) ?_ ?_ | (with_reducible refine Below.trans ?_ (Below.mono (by assumption) ?_)) | exact Nat.le_refl _ | (simp; done) | (simp; omega) | omega))⟩

set_option maxRecDepth 100000 in
set_option maxHeartbeats 4000000 in
theorem rlRight6n (n : Int) (t : List UInt8) (ht : t.length ≤ 9000000000000000000) (ad : Option Addr) (m c : Nat) (h1 : (n != 0) = true) (w : World) :
    Calls Tryz.prog 76 #[.agg #[.int .u8 6, .string (bs []), .int .i64 n, .slice ad m c]] w fun e w' => e = .returned (.bool false) ∧ Below w.heap.size w w' := by
  go_enter Tryz.func76, Tryz.ntmps76
  go_wp2
  go_ret
  exact ⟨by first | rfl | (simp; done), by (repeat' (first | with_reducible exact Below.refl _ _ | with_reducible assumption | with_reducible refine below_alloc ?_ ?_ _ | with_reducible refine Below.setCell ?_ ?_ _ | with_reducible refine Below.drew ?_ | with_reducible refine below_drewN ?_ _ | with_reducible refine below_step (by assumption) ?_ ?_ | (with_reducible refine Below.trans ?_ (Below.mono (by assumption) ?_)) | exact Nat.le_refl _ | (simp; done) | (simp; omega) | omega))⟩

set_option maxRecDepth 100000 in
set_option maxHeartbeats 4000000 in
theorem rlRight6z  (t : List UInt8) (ht : t.length ≤ 9000000000000000000) (ad : Option Addr) (m c : Nat)  (w : World) :
    Calls Tryz.prog 76 #[.agg #[.int .u8 6, .string (bs []), .int .i64 0, .slice ad 0 c]] w fun e w' => e = .returned (.bool false) ∧ Below w.heap.size w w' := by
  go_enter Tryz.func76, Tryz.ntmps76
  go_wp2
  go_ret
  exact ⟨by first | rfl | (simp; done), by (repeat' (first | with_reducible exact Below.refl _ _ | with_reducible assumption | with_reducible refine below_alloc ?_ ?_ _ | with_reducible refine Below.setCell ?_ ?_ _ | with_reducible refine Below.drew ?_ | with_reducible refine below_drewN ?_ _ | with_reducible refine below_step (by assumption) ?_ ?_ | (with_reducible refine Below.trans ?_ (Below.mono (by assumption) ?_)) | exact Nat.le_refl _ | (simp; done) | (simp; omega) | omega))⟩

set_option maxRecDepth 100000 in
set_option maxHeartbeats 4000000 in
theorem rlRight6g  (t : List UInt8) (ht : t.length ≤ 9000000000000000000) (ad : Option Addr) (m c : Nat) (h1 : decide ((m : Int) < 1) = false) (h2 : decide (8 < (m : Int)) = true) (w : World) :
    Calls Tryz.prog 76 #[.agg #[.int .u8 6, .string (bs []), .int .i64 0, .slice ad m c]] w fun e w' => e = .returned (.bool false) ∧ Below w.heap.size w w' := by
  go_enter Tryz.func76, Tryz.ntmps76
  go_wp2
  go_ret
  exact ⟨by first | rfl | (simp; done), by (repeat' (first | with_reducible exact Below.refl _ _ | with_reducible assumption | with_reducible refine below_alloc ?_ ?_ _ | with_reducible refine Below.setCell ?_ ?_ _ | with_reducible refine Below.drew ?_ | with_reducible refine below_drewN ?_ _ | with_reducible refine below_step (by assumption) ?_ ?_ | (with_reducible refine Below.trans ?_ (Below.mono (by assumption) ?_)) | exact Nat.le_refl _ | (simp; done) | (simp; omega) | omega))⟩

set_option maxRecDepth 100000 in
set_option maxHeartbeats 4000000 in
theorem rlRightO (k n : Int) (t : List UInt8) (ht : t.length ≤ 9000000000000000000) (ad : Option Addr) (m c : Nat) (b1 : (k == 1) = false) (b2 : (k == 2) = false) (b3 : (k == 3) = false) (b4 : (k == 4) = false) (b5 : (k == 5) = false) (b6 : (k == 6) = false) (w : World) :
    Calls Tryz.prog 76 #[.agg #[.int .u8 k, .string (bs t), .int .i64 n, .slice ad m c]] w fun e w' => e = .returned (.bool false) ∧ Below w.heap.size w w' := by
  go_enter Tryz.func76, Tryz.ntmps76
  go_wp2
  go_ret
  exact ⟨by first | rfl | (simp; done), by (repeat' (first | with_reducible exact Below.refl _ _ | with_reducible assumption | with_reducible refine below_alloc ?_ ?_ _ | with_reducible refine Below.setCell ?_ ?_ _ | with_reducible refine Below.drew ?_ | with_reducible refine below_drewN ?_ _ | with_reducible refine below_step (by assumption) ?_ ?_ | (with_reducible refine Below.trans ?_ (Below.mono (by assumption) ?_)) | exact Nat.le_refl _ | (simp; done) | (simp; omega) | omega))⟩

def RightsIH (N : Nat) : Prop := ∀ (x : LT) (p : Nat → Prop) (u : Value) (w : World), countL x ≤ N → LockIn p w x u →
    Calls Tryz.prog 76 #[u] w fun e w' => e = .returned (.bool (rightsL x)) ∧ Below w.heap.size w w'
theorem rightsRow_nil : rightsRow [] = true := by rw [rightsRow]

set_option maxRecDepth 100000 in
set_option maxHeartbeats 8000000 in
theorem rlRightAll5 (N : Nat) (ih : RightsIH N) (kids : List LT) (ad : Option Addr) (c : Nat) (p : Nat → Prop) (hm0 : 0 < kids.length) (hm1 : kids.length ≤ 8) (hcN : countRow kids ≤ N) (w : World)
    (hd : kids = [] ∨ ∃ b o, ad = some ⟨b, o, none⟩ ∧ b < w.heap.size ∧ p b ∧ RowIn p w kids b o) :
    Calls Tryz.prog 76 #[.agg #[.int .u8 5, .string (bs []), .int .i64 0, .slice ad kids.length c]] w fun e w' => e = .returned (.bool (rightsRow kids)) ∧ Below w.heap.size w w' := by
  have HD := Lib.hid hd
  have IH := Lib.hid ih
  have b1 : decide ((kids.length : Int) < 1) = false := by simp; omega
  have b2 : decide (8 < (kids.length : Int)) = false := by simp; omega
  clear hd ih
  go_enter Tryz.func76, Tryz.ntmps76
  go_wp2
  go_loopw [4] (fun iv wr => ∃ j : Nat, j ≤ kids.length ∧ iv = .int .i64 j ∧ Hid (wr.heap[w.heap.size]? = some (.cells #[.int .u8 5, .string (bs []), .int .i64 0, .slice ad kids.length c] 25 (0, 0))) ∧ Hid (GL [] w wr) ∧ Hid (rightsRow (kids.drop j) = rightsRow kids)) (fun iv _ => kids.length - (intOf iv).toNat)
  case atStart => exact ⟨0, by omega, rfl, Lib.hid (blk_new w (.cells #[.int .u8 5, .string (bs []), .int .i64 0, .slice ad kids.length c] 25)), Lib.hid (by (repeat' (first | with_reducible exact gl_refl _ _ | with_reducible assumption | with_reducible refine gl_alloc ?_ _ | with_reducible refine gl_drewN ?_ _ | with_reducible refine gl_drew ?_ | (with_reducible refine gl_setn ?_ ?_ _; · (first | exact Nat.le_refl _ | (simp; done) | (simp; omega) | omega)) | (with_reducible refine gl_seti ?_ ?_ _; · (simp; done)) | with_reducible refine gl_below (by with_reducible assumption) ?_ | with_reducible refine gl_step (by with_reducible assumption) ?_ (by first | (simp; done) | (simp; omega)) | with_reducible refine gl_grown (by with_reducible assumption) ?_ (by first | (simp; done) | (simp; omega))))), Lib.hid rfl⟩
  case round =>
    obtain ⟨j, hj, rfl, H1, hgr, hpr⟩ := hrel
    have f1 := blk_cell H1.out
    have e1 := blk_free H1.out
    by_cases hlt : j < kids.length
    · have i3 : (j : Int) < kids.length := by omega
      rcases HD.out with h0' | ⟨b, o, rfl, hb, hqb, hrow⟩
      · subst h0'; simp at hlt
      obtain ⟨u0, u1, u2, u3, hx, c0, c1, c2', c3⟩ := rowIn_get kids b o j kids[j] (rowIn_gl hgr.out kids b o hb hqb hrow) (List.getElem?_eq_getElem hlt)
      obtain ⟨ku, nu, tu, au, mu, cu, rfl, rfl, rfl, rfl⟩ := lockIn_cells hx
      have hcx : countL kids[j] ≤ N := by have := countL_mem kids kids[j] (List.getElem_mem hlt); omega
      have hcall := fun (W : World) (hg : GL [] wr W) => IH.out kids[j] p _ W hcx (lockIn_gl hg _ _ hx)
      have hp2 := hpr.out
      rw [List.drop_eq_getElem_cons hlt, rightsRow_cons] at hp2
      generalize rightsL kids[j] = z at *
      have HC := Lib.hid hcall
      clear hcall hx hrow hcx HD hpr
      cases z with
      | false =>
        have HP : Hid (rightsRow kids = false) := by show _ = _; rw [← hp2]; rfl
        clear hp2
        go_wp2_with fail
        refine (HC.out _ (gl_refl _ _)).mono ?_
        rintro e w1 ⟨rfl, hb1⟩
        go_wp2_with fail
        go_ret
        exact ⟨by rw [HP.out]; rfl, gl_to_below (gl_below hb1 hgr.out)⟩
      | true =>
        have HP : Hid (rightsRow (kids.drop (j + 1)) = rightsRow kids) := by show _ = _; rw [← hp2]; simp
        clear hp2
        go_wp2_with fail
        refine (HC.out _ (gl_refl _ _)).mono ?_
        rintro e w1 ⟨rfl, hb1⟩
        go_wp2_with fail
        go_roundw
        case rel => exact ⟨j + 1, by omega, by go_num, Lib.hid (blk_below H1.out hb1 (blk_lt H1.out)), Lib.hid (gl_below hb1 hgr.out), HP⟩
        case measure => simp [intOf]; omega
    · obtain rfl : j = kids.length := by omega
      have hz := hpr.out
      rw [List.drop_length, rightsRow_nil] at hz
      have HI := Lib.hid hz
      have i4 : decide ((kids.length : Int) < kids.length) = false := by simp
      clear hz hpr
      go_wp2
      go_ret
      exact ⟨by rw [← HI.out]; rfl, gl_to_below hgr.out⟩

set_option maxRecDepth 100000 in
set_option maxHeartbeats 8000000 in
theorem rlRightAll6 (N : Nat) (ih : RightsIH N) (kids : List LT) (ad : Option Addr) (c : Nat) (p : Nat → Prop) (hm0 : 0 < kids.length) (hm1 : kids.length ≤ 8) (hcN : countRow kids ≤ N) (w : World)
    (hd : kids = [] ∨ ∃ b o, ad = some ⟨b, o, none⟩ ∧ b < w.heap.size ∧ p b ∧ RowIn p w kids b o) :
    Calls Tryz.prog 76 #[.agg #[.int .u8 6, .string (bs []), .int .i64 0, .slice ad kids.length c]] w fun e w' => e = .returned (.bool (rightsRow kids)) ∧ Below w.heap.size w w' := by
  have HD := Lib.hid hd
  have IH := Lib.hid ih
  have b1 : decide ((kids.length : Int) < 1) = false := by simp; omega
  have b2 : decide (8 < (kids.length : Int)) = false := by simp; omega
  clear hd ih
  go_enter Tryz.func76, Tryz.ntmps76
  go_wp2
  go_loopw [4] (fun iv wr => ∃ j : Nat, j ≤ kids.length ∧ iv = .int .i64 j ∧ Hid (wr.heap[w.heap.size]? = some (.cells #[.int .u8 6, .string (bs []), .int .i64 0, .slice ad kids.length c] 25 (0, 0))) ∧ Hid (GL [] w wr) ∧ Hid (rightsRow (kids.drop j) = rightsRow kids)) (fun iv _ => kids.length - (intOf iv).toNat)
  case atStart => exact ⟨0, by omega, rfl, Lib.hid (blk_new w (.cells #[.int .u8 6, .string (bs []), .int .i64 0, .slice ad kids.length c] 25)), Lib.hid (by (repeat' (first | with_reducible exact gl_refl _ _ | with_reducible assumption | with_reducible refine gl_alloc ?_ _ | with_reducible refine gl_drewN ?_ _ | with_reducible refine gl_drew ?_ | (with_reducible refine gl_setn ?_ ?_ _; · (first | exact Nat.le_refl _ | (simp; done) | (simp; omega) | omega)) | (with_reducible refine gl_seti ?_ ?_ _; · (simp; done)) | with_reducible refine gl_below (by with_reducible assumption) ?_ | with_reducible refine gl_step (by with_reducible assumption) ?_ (by first | (simp; done) | (simp; omega)) | with_reducible refine gl_grown (by with_reducible assumption) ?_ (by first | (simp; done) | (simp; omega))))), Lib.hid rfl⟩
  case round =>
    obtain ⟨j, hj, rfl, H1, hgr, hpr⟩ := hrel
    have f1 := blk_cell H1.out
    have e1 := blk_free H1.out
    by_cases hlt : j < kids.length
    · have i3 : (j : Int) < kids.length := by omega
      rcases HD.out with h0' | ⟨b, o, rfl, hb, hqb, hrow⟩
      · subst h0'; simp at hlt
      obtain ⟨u0, u1, u2, u3, hx, c0, c1, c2', c3⟩ := rowIn_get kids b o j kids[j] (rowIn_gl hgr.out kids b o hb hqb hrow) (List.getElem?_eq_getElem hlt)
      obtain ⟨ku, nu, tu, au, mu, cu, rfl, rfl, rfl, rfl⟩ := lockIn_cells hx
      have hcx : countL kids[j] ≤ N := by have := countL_mem kids kids[j] (List.getElem_mem hlt); omega
      have hcall := fun (W : World) (hg : GL [] wr W) => IH.out kids[j] p _ W hcx (lockIn_gl hg _ _ hx)
      have hp2 := hpr.out
      rw [List.drop_eq_getElem_cons hlt, rightsRow_cons] at hp2
      generalize rightsL kids[j] = z at *
      have HC := Lib.hid hcall
      clear hcall hx hrow hcx HD hpr
      cases z with
      | false =>
        have HP : Hid (rightsRow kids = false) := by show _ = _; rw [← hp2]; rfl
        clear hp2
        go_wp2_with fail
        refine (HC.out _ (gl_refl _ _)).mono ?_
        rintro e w1 ⟨rfl, hb1⟩
        go_wp2_with fail
        go_ret
        exact ⟨by rw [HP.out]; rfl, gl_to_below (gl_below hb1 hgr.out)⟩
      | true =>
        have HP : Hid (rightsRow (kids.drop (j + 1)) = rightsRow kids) := by show _ = _; rw [← hp2]; simp
        clear hp2
        go_wp2_with fail
        refine (HC.out _ (gl_refl _ _)).mono ?_
        rintro e w1 ⟨rfl, hb1⟩
        go_wp2_with fail
        go_roundw
        case rel => exact ⟨j + 1, by omega, by go_num, Lib.hid (blk_below H1.out hb1 (blk_lt H1.out)), Lib.hid (gl_below hb1 hgr.out), HP⟩
        case measure => simp [intOf]; omega
    · obtain rfl : j = kids.length := by omega
      have hz := hpr.out
      rw [List.drop_length, rightsRow_nil] at hz
      have HI := Lib.hid hz
      have i4 : decide ((kids.length : Int) < kids.length) = false := by simp
      clear hz hpr
      go_wp2
      go_ret
      exact ⟨by rw [← HI.out]; rfl, gl_to_below hgr.out⟩

theorem rlRightN : ∀ N, RightsIH N
  | 0 => fun x p u w hN _ => by have := count_pos x; omega
  | N + 1 => fun x p u w hN hx => by
    obtain ⟨k, t, n, kids⟩ := x
    obtain ⟨ad, c, rfl, _, _, ht, hkn, hd⟩ := lockIn_open hx
    rw [countL] at hN
    rw [rightsL]
    by_cases h1 : k = 1
    · subst h1
      by_cases hn0 : n = 0
      · subst hn0
        by_cases hm : kids.length = 0
        · obtain rfl := nil_len hm
          rw [rightsRow_nil, Bool.and_true]
          cases hr : right t with
          | false =>
            rw [show bareR 1 t 0 ([] : List LT).length (pubB t) (hashB t) = false by simp [bareR, pubB, hr]]
            exact rlRight1r t ht ad 0 c hr w
          | true =>
            have hl := right_len hr
            match t, ht, hr, hl with
            | [], _, _, hl => simp at hl
            | cc :: r, ht, hr, hl =>
              have hrl : r.length ≤ 8000000000000000000 := by simp at hl; omega
              by_cases h80 : cc = 80
              · subst h80
                rw [show bareR 1 (80 :: r) 0 ([] : List LT).length (pubB (80 :: r)) (hashB (80 :: r)) = true by simp [bareR, pubB, hr]]
                exact rlRight1y80 r _ ht ad 0 c hr hrl w
              by_cases h87 : cc = 87
              · subst h87
                rw [show bareR 1 (87 :: r) 0 ([] : List LT).length (pubB (87 :: r)) (hashB (87 :: r)) = true by simp [bareR, pubB, hr]]
                exact rlRight1y87 r _ ht ad 0 c hr hrl w
              by_cases h76 : cc = 76
              · subst h76
                rw [show bareR 1 (76 :: r) 0 ([] : List LT).length (pubB (76 :: r)) (hashB (76 :: r)) = true by simp [bareR, pubB, hr]]
                exact rlRight1y76 r _ ht ad 0 c hr hrl w
              rw [show bareR 1 (cc :: r) 0 ([] : List LT).length (pubB (cc :: r)) (hashB (cc :: r)) = false by simp [bareR, pubB, hr, h80, h87, h76]]
              exact rlRight1z cc r _ ht ad 0 c hr hrl (by have : cc.toNat ≠ 80 := fun h => h80 (UInt8.toNat_inj.1 h); simp; omega) (by have : cc.toNat ≠ 87 := fun h => h87 (UInt8.toNat_inj.1 h); simp; omega) (by have : cc.toNat ≠ 76 := fun h => h76 (UInt8.toNat_inj.1 h); simp; omega) w
        · rw [show (bareR 1 t 0 kids.length (pubB t) (hashB t) && rightsRow kids) = false by simp [bareR]; intro hh; subst hh; simp at hm]
          exact rlRight1m t ht ad _ c (by omega) w
      · rw [show (bareR 1 t n kids.length (pubB t) (hashB t) && rightsRow kids) = false by simp [bareR, hn0]]
        exact rlRight1n n t ht ad _ c (by simpa using hn0) w
    by_cases h2 : k = 2
    · subst h2
      by_cases hn0 : n = 0
      · subst hn0
        by_cases hm : kids.length = 0
        · obtain rfl := nil_len hm
          rw [rightsRow_nil, Bool.and_true]
          cases hr : right t with
          | false =>
            rw [show bareR 2 t 0 ([] : List LT).length (pubB t) (hashB t) = false by simp [bareR, hashB, hr]]
            exact rlRight2r t ht ad 0 c hr w
          | true =>
            have hl := right_len hr
            match t, ht, hr, hl with
            | [], _, _, hl => simp at hl
            | cc :: r, ht, hr, hl =>
              have hrl : r.length ≤ 8000000000000000000 := by simp at hl; omega
              rw [show bareR 2 (cc :: r) 0 ([] : List LT).length (pubB (cc :: r)) (hashB (cc :: r)) = (((cc.toNat : Nat) : Int) == 72) by
                simp only [bareR, hashB, hr]
                rw [Bool.eq_iff_iff]
                simp [← UInt8.toNat_inj]
                omega]
              exact rlRight2y cc r _ ht ad 0 c hr hrl w
        · rw [show (bareR 2 t 0 kids.length (pubB t) (hashB t) && rightsRow kids) = false by simp [bareR]; intro hh; subst hh; simp at hm]
          exact rlRight2m t ht ad _ c (by omega) w
      · rw [show (bareR 2 t n kids.length (pubB t) (hashB t) && rightsRow kids) = false by simp [bareR, hn0]]
        exact rlRight2n n t ht ad _ c (by simpa using hn0) w
    by_cases h3 : k = 3
    · subst h3
      by_cases ht0 : t = []
      · subst ht0
        by_cases hm : kids.length = 0
        · obtain rfl := nil_len hm
          rw [rightsRow_nil, Bool.and_true]
          by_cases hl : 0 ≤ n
          · rw [show bareR 3 [] n ([] : List LT).length (pubB []) (hashB []) = decide (n < 1073741824) by simp [bareR, hl]]
            exact rlRight3h n [] ht ad 0 c hl w
          · rw [show bareR 3 [] n ([] : List LT).length (pubB []) (hashB []) = false by simp [bareR, hl]]
            exact rlRight3l n [] ht ad 0 c (by simpa using hl) w
        · rw [show (bareR 3 [] n kids.length (pubB []) (hashB []) && rightsRow kids) = false by simp [bareR]; intro hh; subst hh; simp at hm]
          exact rlRight3m n [] ht ad _ c (int_ne (by omega)) w
      · rw [show (bareR 3 t n kids.length (pubB t) (hashB t) && rightsRow kids) = false by simp [bareR, ht0]]
        exact rlRight3t n t ht ad _ c (by simpa using ht0) w
    by_cases h4 : k = 4
    · subst h4
      by_cases ht0 : t = []
      · subst ht0
        by_cases hm : kids.length = 0
        · obtain rfl := nil_len hm
          rw [rightsRow_nil, Bool.and_true]
          by_cases hl : 0 ≤ n
          · rw [show bareR 4 [] n ([] : List LT).length (pubB []) (hashB []) = decide (n < 1073741824) by simp [bareR, hl]]
            exact rlRight4h n [] ht ad 0 c hl w
          · rw [show bareR 4 [] n ([] : List LT).length (pubB []) (hashB []) = false by simp [bareR, hl]]
            exact rlRight4l n [] ht ad 0 c (by simpa using hl) w
        · rw [show (bareR 4 [] n kids.length (pubB []) (hashB []) && rightsRow kids) = false by simp [bareR]; intro hh; subst hh; simp at hm]
          exact rlRight4m n [] ht ad _ c (int_ne (by omega)) w
      · rw [show (bareR 4 t n kids.length (pubB t) (hashB t) && rightsRow kids) = false by simp [bareR, ht0]]
        exact rlRight4t n t ht ad _ c (by simpa using ht0) w
    by_cases h5 : k = 5
    · subst h5
      by_cases ht0 : t = []
      · subst ht0
        by_cases hn0 : n = 0
        · subst hn0
          by_cases hm : kids.length = 0
          · obtain rfl := nil_len hm
            rw [show (bareR 5 [] 0 ([] : List LT).length (pubB []) (hashB []) && rightsRow []) = false by simp [bareR]]
            exact rlRight5z [] ht ad 0 c w
          · by_cases hm8 : kids.length ≤ 8
            · rw [show bareR 5 [] 0 kids.length (pubB []) (hashB []) = true by simp [bareR, hm8]; omega, Bool.true_and]
              exact rlRightAll5 N (rlRightN N) kids ad c p (by omega) hm8 (by omega) w hd
            · rw [show (bareR 5 [] 0 kids.length (pubB []) (hashB []) && rightsRow kids) = false by simp [bareR]; omega]
              exact rlRight5g [] ht ad _ c (by simp; omega) (by simp; omega) w
        · rw [show (bareR 5 [] n kids.length (pubB []) (hashB []) && rightsRow kids) = false by simp [bareR, hn0]]
          exact rlRight5n n [] ht ad _ c (by simpa using hn0) w
      · rw [show (bareR 5 t n kids.length (pubB t) (hashB t) && rightsRow kids) = false by simp [bareR, ht0]]
        exact rlRight5t n t ht ad _ c ht0 (by simpa using ht0) w
    by_cases h6 : k = 6
    · subst h6
      by_cases ht0 : t = []
      · subst ht0
        by_cases hn0 : n = 0
        · subst hn0
          by_cases hm : kids.length = 0
          · obtain rfl := nil_len hm
            rw [show (bareR 6 [] 0 ([] : List LT).length (pubB []) (hashB []) && rightsRow []) = false by simp [bareR]]
            exact rlRight6z [] ht ad 0 c w
          · by_cases hm8 : kids.length ≤ 8
            · rw [show bareR 6 [] 0 kids.length (pubB []) (hashB []) = true by simp [bareR, hm8]; omega, Bool.true_and]
              exact rlRightAll6 N (rlRightN N) kids ad c p (by omega) hm8 (by omega) w hd
            · rw [show (bareR 6 [] 0 kids.length (pubB []) (hashB []) && rightsRow kids) = false by simp [bareR]; omega]
              exact rlRight6g [] ht ad _ c (by simp; omega) (by simp; omega) w
        · rw [show (bareR 6 [] n kids.length (pubB []) (hashB []) && rightsRow kids) = false by simp [bareR, hn0]]
          exact rlRight6n n [] ht ad _ c (by simpa using hn0) w
      · rw [show (bareR 6 t n kids.length (pubB t) (hashB t) && rightsRow kids) = false by simp [bareR, ht0]]
        exact rlRight6t n t ht ad _ c ht0 (by simpa using ht0) w
    rw [show (bareR k t n kids.length (pubB t) (hashB t) && rightsRow kids) = false by simp [bareR, h1, h2, h3, h4, h5, h6]]
    exact rlRightO k n t ht ad _ c (int_ne h1) (int_ne h2) (int_ne h3) (int_ne h4) (int_ne h5) (int_ne h6) w

set_option maxRecDepth 100000 in
set_option maxHeartbeats 2000000 in
theorem rlRight (x : LT) (q : Nat → Prop) (v : Value) (w : World) (hL : LockIn q w x v) :
    Calls Tryz.prog 19 #[v] w fun e w' => e = .returned (.bool (rightL x)) ∧ Below w.heap.size w w' := by
  have hc := fun (W : World) (hgw : GL [] w W) => rlCountN (countL x).toNat x q v 64 W (by have := count_pos x; omega) (by omega) (by omega) (lockIn_gl hgw _ _ hL)
  have hr := fun (W : World) (hgw : GL [] w W) => rlRightN (countL x).toNat x q v W (by have := count_pos x; omega) (lockIn_gl hgw _ _ hL)
  have H : Hid (rightL x = (decide (countL x ≤ 64) && rightsL x)) := rfl
  generalize rightL x = y at *
  generalize rightsL x = z at *
  generalize countL x = cn at *
  obtain ⟨k, t, n, kids⟩ := x
  obtain ⟨ad, c, rfl, _⟩ := lockIn_open hL
  have HC := Lib.hid hc
  have HR := Lib.hid hr
  clear hc hr hL
  by_cases h : cn ≤ 64
  · have HM : Hid (min cn (64 + 1) = cn) := by show _ = _; omega
    have b1 : decide (cn ≤ 64) = true := by simpa using h
    go_enter Tryz.func19, Tryz.ntmps19
    go_wp2_with fail
    refine (HC.out _ (by (repeat' (first | with_reducible exact gl_refl _ _ | with_reducible assumption | with_reducible refine gl_alloc ?_ _ | with_reducible refine gl_drewN ?_ _ | with_reducible refine gl_drew ?_ | (with_reducible refine gl_setn ?_ ?_ _; · (first | exact Nat.le_refl _ | (simp; done) | (simp; omega) | omega)) | (with_reducible refine gl_seti ?_ ?_ _; · (simp; done)) | with_reducible refine gl_below (by with_reducible assumption) ?_ | with_reducible refine gl_step (by with_reducible assumption) ?_ (by first | (simp; done) | (simp; omega)) | with_reducible refine gl_grown (by with_reducible assumption) ?_ (by first | (simp; done) | (simp; omega)))))).mono ?_
    rintro e w1 ⟨rfl, hb1⟩
    rw [HM.out]
    have g1 := blk_below (blk_new w (.cells #[.int .u8 k, .string (bs t), .int .i64 n, .slice ad kids.length c] 25)) hb1 (by simp)
    have f1 := blk_cell g1
    have e1 := blk_free g1
    clear g1
    go_wp2_with fail
    refine (HR.out _ (gl_below hb1 (by (repeat' (first | with_reducible exact gl_refl _ _ | with_reducible assumption | with_reducible refine gl_alloc ?_ _ | with_reducible refine gl_drewN ?_ _ | with_reducible refine gl_drew ?_ | (with_reducible refine gl_setn ?_ ?_ _; · (first | exact Nat.le_refl _ | (simp; done) | (simp; omega) | omega)) | (with_reducible refine gl_seti ?_ ?_ _; · (simp; done)) | with_reducible refine gl_below (by with_reducible assumption) ?_ | with_reducible refine gl_step (by with_reducible assumption) ?_ (by first | (simp; done) | (simp; omega)) | with_reducible refine gl_grown (by with_reducible assumption) ?_ (by first | (simp; done) | (simp; omega))))))).mono ?_
    rintro e w2 ⟨rfl, hb2⟩
    go_wp2_with fail
    go_ret
    exact ⟨by rw [H.out, b1]; rfl, by (repeat' (first | with_reducible exact Below.refl _ _ | with_reducible assumption | with_reducible refine below_alloc ?_ ?_ _ | with_reducible refine Below.setCell ?_ ?_ _ | with_reducible refine Below.drew ?_ | with_reducible refine below_drewN ?_ _ | with_reducible refine below_step (by assumption) ?_ ?_ | (with_reducible refine Below.trans ?_ (Below.mono (by assumption) ?_)) | exact Nat.le_refl _ | (simp; done) | (simp; omega) | omega))⟩
  · have HM : Hid (min cn (64 + 1) = 65) := by show _ = _; omega
    have b1 : decide (cn ≤ 64) = false := by simpa using h
    go_enter Tryz.func19, Tryz.ntmps19
    go_wp2_with fail
    refine (HC.out _ (by (repeat' (first | with_reducible exact gl_refl _ _ | with_reducible assumption | with_reducible refine gl_alloc ?_ _ | with_reducible refine gl_drewN ?_ _ | with_reducible refine gl_drew ?_ | (with_reducible refine gl_setn ?_ ?_ _; · (first | exact Nat.le_refl _ | (simp; done) | (simp; omega) | omega)) | (with_reducible refine gl_seti ?_ ?_ _; · (simp; done)) | with_reducible refine gl_below (by with_reducible assumption) ?_ | with_reducible refine gl_step (by with_reducible assumption) ?_ (by first | (simp; done) | (simp; omega)) | with_reducible refine gl_grown (by with_reducible assumption) ?_ (by first | (simp; done) | (simp; omega)))))).mono ?_
    rintro e w1 ⟨rfl, hb1⟩
    rw [HM.out]
    go_wp2_with fail
    go_ret
    exact ⟨by rw [H.out, b1]; rfl, by (repeat' (first | with_reducible exact Below.refl _ _ | with_reducible assumption | with_reducible refine below_alloc ?_ ?_ _ | with_reducible refine Below.setCell ?_ ?_ _ | with_reducible refine Below.drew ?_ | with_reducible refine below_drewN ?_ _ | with_reducible refine below_step (by assumption) ?_ ?_ | (with_reducible refine Below.trans ?_ (Below.mono (by assumption) ?_)) | exact Nat.le_refl _ | (simp; done) | (simp; omega) | omega))⟩

end Go.Proofs.YtfmckibiblhakaaGreatDoor
