/- The laws' helpers on locks: two the same; how great; a great witness. -/
import Derived.Test.YtfmckibiblhakaaGreatDoorLockX
set_option linter.unusedSimpArgs false
set_option linter.unusedVariables false
namespace Go.Proofs.YtfmckibiblhakaaGreatDoor
open Go.RowKit

theorem sameRow_nil (l : List LT) : sameRow [] l = true := by rw [sameRow]
theorem sameRow_cons (x y : LT) (r s : List LT) : sameRow (x :: r) (y :: s) = (sameL x y && sameRow r s) := by rw [sameRow]

set_option maxRecDepth 100000 in
set_option maxHeartbeats 2000000 in
theorem lkSameK (k n k2 n2 : Int) (t t2 : List UInt8) (m m2 : Nat) (ad ad2 : Option Addr) (c c2 : Nat) (h : (k != k2) = true) (w : World) :
    Calls Tryz.prog 26 #[.agg #[.int .u8 k, .string (bs t), .int .i64 n, .slice ad m c], .agg #[.int .u8 k2, .string (bs t2), .int .i64 n2, .slice ad2 m2 c2]] w fun e w' => e = .returned (.bool false) ∧ Below w.heap.size w w' := by
  go_enter Tryz.func26, Tryz.ntmps26
  go_wp2
  go_ret
  exact ⟨rfl, by (repeat' (first | with_reducible exact Below.refl _ _ | with_reducible assumption | with_reducible refine below_alloc ?_ ?_ _ | with_reducible refine Below.setCell ?_ ?_ _ | with_reducible refine Below.drew ?_ | with_reducible refine below_drewN ?_ _ | with_reducible refine below_step (by assumption) ?_ ?_ | (with_reducible refine Below.trans ?_ (Below.mono (by assumption) ?_)) | exact Nat.le_refl _ | (simp; done) | (simp; omega) | omega))⟩

set_option maxRecDepth 100000 in
set_option maxHeartbeats 2000000 in
theorem lkSameT (k n k2 n2 : Int) (t t2 : List UInt8) (m m2 : Nat) (ad ad2 : Option Addr) (c c2 : Nat) (h : ¬ t = t2) (h2 : (t != t2) = true) (w : World) :
    Calls Tryz.prog 26 #[.agg #[.int .u8 k, .string (bs t), .int .i64 n, .slice ad m c], .agg #[.int .u8 k, .string (bs t2), .int .i64 n2, .slice ad2 m2 c2]] w fun e w' => e = .returned (.bool false) ∧ Below w.heap.size w w' := by
  go_enter Tryz.func26, Tryz.ntmps26
  go_wp2
  go_ret
  exact ⟨rfl, by (repeat' (first | with_reducible exact Below.refl _ _ | with_reducible assumption | with_reducible refine below_alloc ?_ ?_ _ | with_reducible refine Below.setCell ?_ ?_ _ | with_reducible refine Below.drew ?_ | with_reducible refine below_drewN ?_ _ | with_reducible refine below_step (by assumption) ?_ ?_ | (with_reducible refine Below.trans ?_ (Below.mono (by assumption) ?_)) | exact Nat.le_refl _ | (simp; done) | (simp; omega) | omega))⟩

set_option maxRecDepth 100000 in
set_option maxHeartbeats 2000000 in
theorem lkSameN (k n k2 n2 : Int) (t t2 : List UInt8) (m m2 : Nat) (ad ad2 : Option Addr) (c c2 : Nat) (h : (n != n2) = true) (w : World) :
    Calls Tryz.prog 26 #[.agg #[.int .u8 k, .string (bs t), .int .i64 n, .slice ad m c], .agg #[.int .u8 k, .string (bs t), .int .i64 n2, .slice ad2 m2 c2]] w fun e w' => e = .returned (.bool false) ∧ Below w.heap.size w w' := by
  go_enter Tryz.func26, Tryz.ntmps26
  go_wp2
  go_ret
  exact ⟨rfl, by (repeat' (first | with_reducible exact Below.refl _ _ | with_reducible assumption | with_reducible refine below_alloc ?_ ?_ _ | with_reducible refine Below.setCell ?_ ?_ _ | with_reducible refine Below.drew ?_ | with_reducible refine below_drewN ?_ _ | with_reducible refine below_step (by assumption) ?_ ?_ | (with_reducible refine Below.trans ?_ (Below.mono (by assumption) ?_)) | exact Nat.le_refl _ | (simp; done) | (simp; omega) | omega))⟩

set_option maxRecDepth 100000 in
set_option maxHeartbeats 2000000 in
theorem lkSameL (k n k2 n2 : Int) (t t2 : List UInt8) (m m2 : Nat) (ad ad2 : Option Addr) (c c2 : Nat) (h : ((m : Int) != (m2 : Int)) = true) (w : World) :
    Calls Tryz.prog 26 #[.agg #[.int .u8 k, .string (bs t), .int .i64 n, .slice ad m c], .agg #[.int .u8 k, .string (bs t), .int .i64 n, .slice ad2 m2 c2]] w fun e w' => e = .returned (.bool false) ∧ Below w.heap.size w w' := by
  go_enter Tryz.func26, Tryz.ntmps26
  go_wp2
  go_ret
  exact ⟨rfl, by (repeat' (first | with_reducible exact Below.refl _ _ | with_reducible assumption | with_reducible refine below_alloc ?_ ?_ _ | with_reducible refine Below.setCell ?_ ?_ _ | with_reducible refine Below.drew ?_ | with_reducible refine below_drewN ?_ _ | with_reducible refine below_step (by assumption) ?_ ?_ | (with_reducible refine Below.trans ?_ (Below.mono (by assumption) ?_)) | exact Nat.le_refl _ | (simp; done) | (simp; omega) | omega))⟩

def SameIH (N : Nat) : Prop := ∀ (x y : LT) (p q : Nat → Prop) (u v : Value) (w : World), countL x ≤ N → LockIn p w x u → LockIn q w y v →
    Calls Tryz.prog 26 #[u, v] w fun e w' => e = .returned (.bool (sameL x y)) ∧ Below w.heap.size w w'

set_option maxRecDepth 100000 in
set_option maxHeartbeats 8000000 in
theorem lkSameAll (N : Nat) (ih : SameIH N) (k n : Int) (t : List UInt8) (kids kids2 : List LT) (ad ad2 : Option Addr) (c c2 : Nat) (p q : Nat → Prop) (hl : kids.length = kids2.length) (hkn : kids.length ≤ 9000000000000000000) (hcN : countRow kids ≤ N) (w : World)
    (hd : kids = [] ∨ ∃ b o, ad = some ⟨b, o, none⟩ ∧ b < w.heap.size ∧ p b ∧ RowIn p w kids b o) (hd2 : kids2 = [] ∨ ∃ b o, ad2 = some ⟨b, o, none⟩ ∧ b < w.heap.size ∧ q b ∧ RowIn q w kids2 b o) :
    Calls Tryz.prog 26 #[.agg #[.int .u8 k, .string (bs t), .int .i64 n, .slice ad kids.length c], .agg #[.int .u8 k, .string (bs t), .int .i64 n, .slice ad2 kids2.length c2]] w fun e w' => e = .returned (.bool (sameRow kids kids2)) ∧ Below w.heap.size w w' := by
  have HD := Lib.hid hd
  have HD2 := Lib.hid hd2
  have IH := Lib.hid ih
  have HL := Lib.hid hl
  have b1 : ((kids.length : Int) != (kids2.length : Int)) = false := by simp; omega
  clear hd hd2 ih hl
  go_enter Tryz.func26, Tryz.ntmps26
  go_wp2
  go_loopw [5] (fun iv wr => ∃ j : Nat, j ≤ kids.length ∧ iv = .int .i64 j ∧ Hid (wr.heap[w.heap.size]? = some (.cells #[.int .u8 k, .string (bs t), .int .i64 n, .slice ad kids.length c] 25 (0, 0))) ∧ Hid (wr.heap[w.heap.size + 1]? = some (.cells #[.int .u8 k, .string (bs t), .int .i64 n, .slice ad2 kids2.length c2] 25 (0, 0))) ∧ Hid (GL [] w wr) ∧ Hid (sameRow (kids.drop j) (kids2.drop j) = sameRow kids kids2)) (fun iv _ => kids.length - (intOf iv).toNat)
  case atStart =>
    refine ⟨0, by omega, rfl, Lib.hid (blk_alloc (blk_new w (.cells #[.int .u8 k, .string (bs t), .int .i64 n, .slice ad kids.length c] 25)) (.cells #[.int .u8 k, .string (bs t), .int .i64 n, .slice ad2 kids2.length c2] 25)), ?_, Lib.hid (by (repeat' (first | with_reducible exact gl_refl _ _ | with_reducible assumption | with_reducible refine gl_alloc ?_ _ | with_reducible refine gl_drewN ?_ _ | with_reducible refine gl_drew ?_ | (with_reducible refine gl_setn ?_ ?_ _; · (first | exact Nat.le_refl _ | (simp; done) | (simp; omega) | omega)) | (with_reducible refine gl_seti ?_ ?_ _; · (simp; done)) | with_reducible refine gl_below (by with_reducible assumption) ?_ | with_reducible refine gl_step (by with_reducible assumption) ?_ (by first | (simp; done) | (simp; omega)) | with_reducible refine gl_grown (by with_reducible assumption) ?_ (by first | (simp; done) | (simp; omega))))), Lib.hid rfl⟩
    have h := blk_new (w.alloc (.cells #[.int .u8 k, .string (bs t), .int .i64 n, .slice ad kids.length c] 25)) (.cells #[.int .u8 k, .string (bs t), .int .i64 n, .slice ad2 kids2.length c2] 25)
    rw [show (w.alloc (.cells #[.int .u8 k, .string (bs t), .int .i64 n, .slice ad kids.length c] 25)).heap.size = w.heap.size + 1 by simp] at h
    exact h
  case round =>
    obtain ⟨j, hj, rfl, H1, H2, hgr, hpr⟩ := hrel
    have f1 := blk_cell H1.out
    have e1 := blk_free H1.out
    have f2 := blk_cell H2.out
    have e2 := blk_free H2.out
    by_cases hlt : j < kids.length
    · have i3 : (j : Int) < kids.length := by omega
      have i4 : (j : Int) < kids2.length := by have := HL.out; omega
      have hlt2 : j < kids2.length := by have := HL.out; omega
      rcases HD.out with h0 | ⟨b, o, rfl, hb, hqb, hrow⟩
      · subst h0; simp at hlt
      rcases HD2.out with h0 | ⟨b2, o2, rfl, hb2, hqb2, hrow2⟩
      · subst h0; simp at hlt2
      obtain ⟨u0, u1, u2, u3, hx, c0, c1, c2', c3⟩ := rowIn_get kids b o j kids[j] (rowIn_gl hgr.out kids b o hb hqb hrow) (List.getElem?_eq_getElem hlt)
      obtain ⟨v0, v1, v2, v3, hy, d0, d1, d2, d3⟩ := rowIn_get kids2 b2 o2 j kids2[j] (rowIn_gl hgr.out kids2 b2 o2 hb2 hqb2 hrow2) (List.getElem?_eq_getElem hlt2)
      obtain ⟨ku, nu, tu, au, mu, cu, rfl, rfl, rfl, rfl⟩ := lockIn_cells hx
      obtain ⟨kv, nv, tv, av, mv, cv, rfl, rfl, rfl, rfl⟩ := lockIn_cells hy
      have hcx : countL kids[j] ≤ N := by have := countL_mem kids kids[j] (List.getElem_mem hlt); omega
      have hcall := fun (W : World) (hg : GL [] wr W) => IH.out kids[j] kids2[j] p q _ _ W hcx (lockIn_gl hg _ _ hx) (lockIn_gl hg _ _ hy)
      have hp2 := hpr.out
      rw [List.drop_eq_getElem_cons hlt, List.drop_eq_getElem_cons hlt2, sameRow_cons] at hp2
      generalize sameL kids[j] kids2[j] = z at *
      have HC := Lib.hid hcall
      have hbk1 := hgr.out.size
      clear hcall hx hy hrow hrow2 hcx hpr HD HD2
      cases z with
      | false =>
        have HP : Hid (sameRow kids kids2 = false) := by show _ = _; rw [← hp2]; rfl
        clear hp2
        go_wp2
        go_region_held3 (fun w' => w'.cell? ⟨w.heap.size, 3, none⟩ = some (.slice (some ⟨b, o, none⟩) kids.length c) ∧ w'.cell? ⟨w.heap.size + 1, 3, none⟩ = some (.slice (some ⟨b2, o2, none⟩) kids2.length c2) ∧ w'.cell? ⟨b, o + j * 4, none⟩ = some (.int .u8 ku) ∧ w'.cell? ⟨b, o + j * 4 + 1, none⟩ = some (.string (bs tu)) ∧ w'.cell? ⟨b, o + j * 4 + 2, none⟩ = some (.int .i64 nu) ∧ w'.cell? ⟨b, o + j * 4 + 3, none⟩ = some (.slice au mu cu) ∧ w'.cell? ⟨b2, o2 + j * 4, none⟩ = some (.int .u8 kv) ∧ w'.cell? ⟨b2, o2 + j * 4 + 1, none⟩ = some (.string (bs tv)) ∧ w'.cell? ⟨b2, o2 + j * 4 + 2, none⟩ = some (.int .i64 nv) ∧ w'.cell? ⟨b2, o2 + j * 4 + 3, none⟩ = some (.slice av mv cv))
          (first | go_keep | (go_split_ands; refine ⟨?_, ?_, ?_, ?_, ?_, ?_, ?_, ?_, ?_, ?_⟩ <;> exact (hbk.cell (World.block_lt_of_cell? _ _ (by assumption))).trans (by assumption)))
          ((go_at_call 26; refine (HC.out _ (by first | exact gl_refl _ _ | exact gl_drew (gl_refl _ _) | exact gl_drewN (gl_refl _ _) _)).mono ?_; rintro e wk ⟨rfl, hbk⟩; have hgk : GL [] w wk := gl_below hbk (by have := hgr.out; (repeat' (first | with_reducible exact gl_refl _ _ | with_reducible assumption | with_reducible refine gl_alloc ?_ _ | with_reducible refine gl_drewN ?_ _ | with_reducible refine gl_drew ?_ | (with_reducible refine gl_setn ?_ ?_ _; · (first | exact Nat.le_refl _ | (simp; done) | (simp; omega) | omega)) | (with_reducible refine gl_seti ?_ ?_ _; · (simp; done)) | with_reducible refine gl_below (by with_reducible assumption) ?_ | with_reducible refine gl_step (by with_reducible assumption) ?_ (by first | (simp; done) | (simp; omega)) | with_reducible refine gl_grown (by with_reducible assumption) ?_ (by first | (simp; done) | (simp; omega)))))))
        all_goals
          go_wp2
          go_ret
          exact ⟨by rw [HP.out]; rfl, gl_to_below (by have := hgr.out; (repeat' (first | with_reducible exact gl_refl _ _ | with_reducible assumption | with_reducible refine gl_alloc ?_ _ | with_reducible refine gl_drewN ?_ _ | with_reducible refine gl_drew ?_ | (with_reducible refine gl_setn ?_ ?_ _; · (first | exact Nat.le_refl _ | (simp; done) | (simp; omega) | omega)) | (with_reducible refine gl_seti ?_ ?_ _; · (simp; done)) | with_reducible refine gl_below (by with_reducible assumption) ?_ | with_reducible refine gl_step (by with_reducible assumption) ?_ (by first | (simp; done) | (simp; omega)) | with_reducible refine gl_grown (by with_reducible assumption) ?_ (by first | (simp; done) | (simp; omega)))))⟩
      | true =>
        have HP : Hid (sameRow (kids.drop (j + 1)) (kids2.drop (j + 1)) = sameRow kids kids2) := by show _ = _; rw [← hp2]; simp
        clear hp2
        go_wp2
        go_region_held3 (fun w' => w'.cell? ⟨w.heap.size, 3, none⟩ = some (.slice (some ⟨b, o, none⟩) kids.length c) ∧ w'.cell? ⟨w.heap.size + 1, 3, none⟩ = some (.slice (some ⟨b2, o2, none⟩) kids2.length c2) ∧ w'.cell? ⟨b, o + j * 4, none⟩ = some (.int .u8 ku) ∧ w'.cell? ⟨b, o + j * 4 + 1, none⟩ = some (.string (bs tu)) ∧ w'.cell? ⟨b, o + j * 4 + 2, none⟩ = some (.int .i64 nu) ∧ w'.cell? ⟨b, o + j * 4 + 3, none⟩ = some (.slice au mu cu) ∧ w'.cell? ⟨b2, o2 + j * 4, none⟩ = some (.int .u8 kv) ∧ w'.cell? ⟨b2, o2 + j * 4 + 1, none⟩ = some (.string (bs tv)) ∧ w'.cell? ⟨b2, o2 + j * 4 + 2, none⟩ = some (.int .i64 nv) ∧ w'.cell? ⟨b2, o2 + j * 4 + 3, none⟩ = some (.slice av mv cv))
          (first | go_keep | (go_split_ands; refine ⟨?_, ?_, ?_, ?_, ?_, ?_, ?_, ?_, ?_, ?_⟩ <;> exact (hbk.cell (World.block_lt_of_cell? _ _ (by assumption))).trans (by assumption)))
          ((go_at_call 26; refine (HC.out _ (by first | exact gl_refl _ _ | exact gl_drew (gl_refl _ _) | exact gl_drewN (gl_refl _ _) _)).mono ?_; rintro e wk ⟨rfl, hbk⟩; have hgk : GL [] wr wk := gl_below hbk (by (repeat' (first | with_reducible exact gl_refl _ _ | with_reducible assumption | with_reducible refine gl_alloc ?_ _ | with_reducible refine gl_drewN ?_ _ | with_reducible refine gl_drew ?_ | (with_reducible refine gl_setn ?_ ?_ _; · (first | exact Nat.le_refl _ | (simp; done) | (simp; omega) | omega)) | (with_reducible refine gl_seti ?_ ?_ _; · (simp; done)) | with_reducible refine gl_below (by with_reducible assumption) ?_ | with_reducible refine gl_step (by with_reducible assumption) ?_ (by first | (simp; done) | (simp; omega)) | with_reducible refine gl_grown (by with_reducible assumption) ?_ (by first | (simp; done) | (simp; omega)))))))
        all_goals
          go_wp2
          go_roundw
          case rel => exact ⟨j + 1, by omega, by go_num, Lib.hid (by have := blk_gl H1.out hgk (by simp); exact this), Lib.hid (by have := blk_gl H2.out hgk (by simp); exact this), Lib.hid (gl_step hgk hgr.out (by simp)), HP⟩
          case measure => simp [intOf]; omega
    · obtain rfl : j = kids.length := by omega
      have hz := hpr.out
      rw [List.drop_length, sameRow_nil] at hz
      have HI := Lib.hid hz
      have i4 : decide ((kids.length : Int) < kids.length) = false := by simp
      clear hz hpr
      go_wp2
      go_ret
      exact ⟨by rw [← HI.out]; rfl, gl_to_below hgr.out⟩

theorem lkSameN0 : ∀ N, SameIH N
  | 0 => fun x y p q u v w hN _ _ => by have := count_pos x; omega
  | N + 1 => fun x y p q u v w hN hx hy => by
    obtain ⟨k, t, n, kids⟩ := x
    obtain ⟨k2, t2, n2, kids2⟩ := y
    obtain ⟨ad, c, rfl, _, _, _, hkn, hd⟩ := lockIn_open hx
    obtain ⟨ad2, c2, rfl, _, _, _, _, hd2⟩ := lockIn_open hy
    rw [countL] at hN
    rw [sameL]
    by_cases h1 : k = k2
    · subst h1
      by_cases h2 : t = t2
      · subst h2
        by_cases h3 : n = n2
        · subst h3
          by_cases h4 : kids.length = kids2.length
          · rw [show (decide (k = k) && decide (t = t) && decide (n = n) && decide (kids.length = kids2.length) && sameRow kids kids2) = sameRow kids kids2 by simp [h4]]
            exact lkSameAll N (lkSameN0 N) k n t kids kids2 ad ad2 c c2 p q h4 hkn (by omega) w hd hd2
          · rw [show (decide (k = k) && decide (t = t) && decide (n = n) && decide (kids.length = kids2.length) && sameRow kids kids2) = false by simp [h4]]
            exact lkSameL k n k n t t _ _ ad ad2 c c2 (by simp; omega) w
        · rw [show (decide (k = k) && decide (t = t) && decide (n = n2) && decide (kids.length = kids2.length) && sameRow kids kids2) = false by simp [h3]]
          exact lkSameN k n k n2 t t _ _ ad ad2 c c2 (by simpa using h3) w
      · rw [show (decide (k = k) && decide (t = t2) && decide (n = n2) && decide (kids.length = kids2.length) && sameRow kids kids2) = false by simp [h2]]
        exact lkSameT k n k n2 t t2 _ _ ad ad2 c c2 h2 (by simpa using h2) w
    · rw [show (decide (k = k2) && decide (t = t2) && decide (n = n2) && decide (kids.length = kids2.length) && sameRow kids kids2) = false by simp [h1]]
      exact lkSameK k n k2 n2 t t2 _ _ ad ad2 c c2 (by simpa using h1) w
theorem lkSame (x y : LT) (p q : Nat → Prop) (u v : Value) (w : World) (hx : LockIn p w x u) (hy : LockIn q w y v) :
    Calls Tryz.prog 26 #[u, v] w fun e w' => e = .returned (.bool (sameL x y)) ∧ Below w.heap.size w w' :=
  lkSameN0 (countL x).toNat x y p q u v w (by have := count_pos x; omega) hx hy

def SizeIH (N : Nat) (top : Int) : Prop := ∀ (x : LT) (p : Nat → Prop) (u : Value) (w : World), countL x ≤ N → LockIn p w x u →
    Calls Tryz.prog 15 #[u, .int .i64 top] w fun e w' => Below w.heap.size w w' ∧ ∃ z : Int, e = .returned (.int .i64 z) ∧ 0 ≤ z ∧ z ≤ top + 1

set_option maxRecDepth 100000 in
set_option maxHeartbeats 8000000 in
theorem lkSizeAll (N : Nat) (top : Int) (ih : SizeIH N top) (h0 : 0 ≤ top) (h1 : top ≤ 1000) (k n : Int) (t : List UInt8) (kids : List LT) (ad : Option Addr) (c : Nat) (p : Nat → Prop) (ht : t.length ≤ 9000000000000000000) (hkn : kids.length ≤ 9000000000000000000) (hcN : countRow kids ≤ N) (w : World)
    (hd : kids = [] ∨ ∃ b o, ad = some ⟨b, o, none⟩ ∧ b < w.heap.size ∧ p b ∧ RowIn p w kids b o) :
    Calls Tryz.prog 15 #[.agg #[.int .u8 k, .string (bs t), .int .i64 n, .slice ad kids.length c], .int .i64 top] w fun e w' => Below w.heap.size w w' ∧ ∃ z : Int, e = .returned (.int .i64 z) ∧ 0 ≤ z ∧ z ≤ top + 1 := by
  have HD := Lib.hid hd
  have IH := Lib.hid ih
  obtain ⟨z, hz⟩ : ∃ z : Int, (t.length : Int).tdiv 64 = z := ⟨_, rfl⟩
  have hz0 : 0 ≤ z ∧ z ≤ 200000000000000000 := by
    rw [Int.tdiv_eq_ediv_of_nonneg (by omega)] at hz
    omega
  clear hd ih
  go_enter Tryz.func15, Tryz.ntmps15
  go_wp2
  go_loopw [5, 6] (fun nv iv wr => ∃ (j : Nat) (s : Int), j ≤ kids.length ∧ iv = .int .i64 j ∧ nv = .int .i64 s ∧ 0 ≤ s ∧ s ≤ 300000000000000000 ∧ Hid (wr.heap[w.heap.size]? = some (.cells #[.int .u8 k, .string (bs t), .int .i64 n, .slice ad kids.length c] 25 (0, 0))) ∧ Hid (GL [] w wr)) (fun _ iv _ => kids.length - (intOf iv).toNat)
  case atStart => exact ⟨0, 1 + z, by omega, rfl, by first | rfl | (rw [← hz]; rfl) | (congr; omega), by omega, by omega, Lib.hid (blk_new w (.cells #[.int .u8 k, .string (bs t), .int .i64 n, .slice ad kids.length c] 25)), Lib.hid (by (repeat' (first | with_reducible exact gl_refl _ _ | with_reducible assumption | with_reducible refine gl_alloc ?_ _ | with_reducible refine gl_drewN ?_ _ | with_reducible refine gl_drew ?_ | (with_reducible refine gl_setn ?_ ?_ _; · (first | exact Nat.le_refl _ | (simp; done) | (simp; omega) | omega)) | (with_reducible refine gl_seti ?_ ?_ _; · (simp; done)) | with_reducible refine gl_below (by with_reducible assumption) ?_ | with_reducible refine gl_step (by with_reducible assumption) ?_ (by first | (simp; done) | (simp; omega)) | with_reducible refine gl_grown (by with_reducible assumption) ?_ (by first | (simp; done) | (simp; omega)))))⟩
  case round =>
    obtain ⟨j, s, hj, rfl, rfl, hs0, hs1, H1, hgr⟩ := hrel
    have f1 := blk_cell H1.out
    have e1 := blk_free H1.out
    have fin : ∀ (W : World), GL [] w W → ∀ e : Ending, e = .returned (.int .i64 (min s (top + 1))) → Below w.heap.size w W ∧ ∃ z : Int, e = .returned (.int .i64 z) ∧ 0 ≤ z ∧ z ≤ top + 1 := fun W hW e he => ⟨gl_to_below hW, _, he, by omega, by omega⟩
    have HF := Lib.hid fin
    clear fin
    by_cases hlt : j < kids.length
    · have i3 : (j : Int) < kids.length := by omega
      by_cases hst : s ≤ top
      · rcases HD.out with h0' | ⟨b, o, rfl, hb, hqb, hrow⟩
        · subst h0'; simp at hlt
        obtain ⟨u0, u1, u2, u3, hx, c0, c1, c2', c3⟩ := rowIn_get kids b o j kids[j] (rowIn_gl hgr.out kids b o hb hqb hrow) (List.getElem?_eq_getElem hlt)
        obtain ⟨ku, nu, tu, au, mu, cu, rfl, rfl, rfl, rfl⟩ := lockIn_cells hx
        have hcx : countL kids[j] ≤ N := by have := countL_mem kids kids[j] (List.getElem_mem hlt); omega
        have hcall := fun (W : World) (hg : GL [] wr W) => IH.out kids[j] p _ W hcx (lockIn_gl hg _ _ hx)
        have HC := Lib.hid hcall
        clear hcall hx hrow hcx HD
        go_wp2_with fail
        refine (HC.out _ (gl_refl _ _)).mono ?_
        rintro e w1 ⟨hb1, z1, rfl, hz1, hz2⟩
        go_wp2_with fail
        go_roundw
        case rel => exact ⟨j + 1, s + z1, by omega, by go_num, by first | rfl | (congr; omega), by omega, by omega, Lib.hid (blk_below H1.out hb1 (blk_lt H1.out)), Lib.hid (gl_below hb1 hgr.out)⟩
        case measure => simp [intOf]; omega
      · have b1 : decide (s ≤ top) = false := by simpa using hst
        go_wp2
        go_ret
        exact HF.out _ hgr.out _ (by first | rfl | (congr; omega) | (simp; omega))
    · obtain rfl : j = kids.length := by omega
      have i4 : decide ((kids.length : Int) < kids.length) = false := by simp
      go_wp2
      go_ret
      exact HF.out _ hgr.out _ (by first | rfl | (congr; omega) | (simp; omega))

theorem lkSizeN (top : Int) (h0 : 0 ≤ top) (h1 : top ≤ 1000) : ∀ N, SizeIH N top
  | 0 => fun x p u w hN _ => by have := count_pos x; omega
  | N + 1 => fun x p u w hN hx => by
    obtain ⟨k, t, n, kids⟩ := x
    obtain ⟨ad, c, rfl, _, _, ht, hkn, hd⟩ := lockIn_open hx
    rw [countL] at hN
    exact lkSizeAll N top (lkSizeN top h0 h1 N) h0 h1 k n t kids ad c p ht hkn (by omega) w hd
theorem lkSize (top : Int) (h0 : 0 ≤ top) (h1 : top ≤ 1000) (x : LT) (p : Nat → Prop) (u : Value) (w : World) (hx : LockIn p w x u) :
    Calls Tryz.prog 15 #[u, .int .i64 top] w fun e w' => Below w.heap.size w w' ∧ ∃ z : Int, e = .returned (.int .i64 z) ∧ 0 ≤ z ∧ z ≤ top + 1 :=
  lkSizeN top h0 h1 (countL x).toNat x p u w (by have := count_pos x; omega) hx

end Go.Proofs.YtfmckibiblhakaaGreatDoor
