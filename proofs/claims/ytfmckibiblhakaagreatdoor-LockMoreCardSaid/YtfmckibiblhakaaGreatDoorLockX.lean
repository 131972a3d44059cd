/- The program's locks: how many parts; right. -/
import Derived.Test.YtfmckibiblhakaaGreatDoorLockW
import Derived.Test.YtfmckibiblhakaaGreatDoorLockS
set_option linter.unusedSimpArgs false
set_option linter.unusedVariables false
namespace Go.Proofs.YtfmckibiblhakaaGreatDoor
open Go.RowKit

theorem partsRow_cons (x : LT) (l : List LT) (r : Int) : partsRow (x :: l) r = if partsL x r < 0 then -1 else partsRow l (partsL x r) := by rw [partsRow]
theorem partsRow_nil (r : Int) : partsRow [] r = r := by rw [partsRow]
theorem partsL_le (x : LT) (r : Int) (h : 0 ≤ r) : -1 ≤ partsL x r ∧ partsL x r ≤ r := by
  rw [parts_is]
  have := count_pos x
  split <;> omega
def PartsIH (N : Nat) : Prop := ∀ (x : LT) (q : Nat → Prop) (v : Value) (room : Int) (w : World), countL x ≤ N → -1000 ≤ room → room ≤ 1000 → LockIn q w x v → GOk w →
    Calls Tryz.prog 74 #[v, .int .i64 room] w fun e w' => e = .returned (.int .i64 (partsL x room)) ∧ Below w.heap.size w w'

set_option maxRecDepth 100000 in
set_option maxHeartbeats 4000000 in
theorem lkPartsAll5 (N : Nat) (ih : PartsIH N) (kids : List LT) (ad : Option Addr) (c : Nat) (room : Int) (hr0 : 0 ≤ room - 1) (hr1 : room ≤ 1000) (hm0 : 0 < kids.length) (hm1 : kids.length ≤ 8) (hcN : countRow kids ≤ N) (q : Nat → Prop) (w : World)
    (hd : kids = [] ∨ ∃ b o, ad = some ⟨b, o, none⟩ ∧ b < w.heap.size ∧ q b ∧ RowIn q w kids b o) (hG : GOk w) :
    Calls Tryz.prog 74 #[.agg #[.int .u8 5, .string (bs []), .int .i64 0, .slice ad kids.length c], .int .i64 room] w fun e w' => e = .returned (.int .i64 (partsRow kids (room - 1))) ∧ Below w.heap.size w w' := by
  have HG := Lib.hid hG
  have HD := Lib.hid hd
  have IH := Lib.hid ih
  clear hG hd ih
  have hR : decide (room - 1 < 0) = false := by simp; omega
  have i1 : (0 : Int) < kids.length := by omega
  have i2 : (kids.length : Int) ≤ 8 := by omega
  go_enter Tryz.func74, Tryz.ntmps74
  go_wp2
  go_loopw [1, 8, 98] (fun rv _ iv wr => ∃ (j : Nat) (r : Int), j ≤ kids.length ∧ iv = .int .i64 j ∧ rv = .int .i64 r ∧ 0 ≤ r ∧ r ≤ 1000 ∧ Hid (GL [] w wr) ∧ Hid (partsRow (kids.drop j) r = partsRow kids (room - 1))) (fun _ _ iv _ => kids.length - (intOf iv).toNat)
  case atStart => exact ⟨0, room - 1, by omega, rfl, by first | rfl | (congr; omega), hr0, by omega, (by show GL _ _ _; (repeat' (first | with_reducible exact gl_refl _ _ | with_reducible assumption | with_reducible refine gl_alloc ?_ _ | with_reducible refine gl_drewN ?_ _ | with_reducible refine gl_drew ?_ | (with_reducible refine gl_setn ?_ ?_ _; · (first | exact Nat.le_refl _ | (simp; done) | (simp; omega) | omega)) | (with_reducible refine gl_seti ?_ ?_ _; · (simp; done)) | with_reducible refine gl_below (by with_reducible assumption) ?_ | with_reducible refine gl_step (by with_reducible assumption) ?_ (by first | (simp; done) | (simp; omega)) | with_reducible refine gl_grown (by with_reducible assumption) ?_ (by first | (simp; done) | (simp; omega))))), rfl⟩
  case round =>
    obtain ⟨j, r, hj, rfl, rfl, hq0, hq1, hgr, hpr⟩ := hrel
    by_cases hlt : j < kids.length
    · have i3 : (j : Int) < kids.length := by omega
      rcases HD.out with h0 | ⟨b, o, rfl, hb, hqb, hrow⟩
      · subst h0; simp at hlt
      · obtain ⟨u0, u1, u2, u3, hl, c0, c1, c2, c3⟩ := rowIn_get kids b o j kids[j] (rowIn_gl hgr.out kids b o hb hqb hrow) (List.getElem?_eq_getElem hlt)
        obtain ⟨ku, nu, tu, au, mu, cu, rfl, rfl, rfl, rfl⟩ := lockIn_cells hl
        have hd0 : kids.drop j = kids[j] :: kids.drop (j + 1) := List.drop_eq_getElem_cons hlt
        have hcx : countL kids[j] ≤ N := by have := countL_mem kids kids[j] (List.getElem_mem hlt); omega
        have hcall := fun (W : World) (hg : GL [] wr W) (hG : GOk W) => IH.out kids[j] q _ r W hcx (by omega) hq1 (lockIn_gl hg _ _ hl) hG
        have hp2 := hpr.out
        rw [hd0, partsRow_cons] at hp2
        have hle := partsL_le kids[j] r hq0
        generalize partsL kids[j] r = z at *
        have HC := Lib.hid hcall
        clear hcall hl hrow hd0 hcx hpr
        by_cases hz : z < 0
        · rw [if_pos hz] at hp2
          have HP := Lib.hid hp2
          have b1 : decide (z < 0) = true := by simpa using hz
          clear hp2
          go_wp2_with fail
          refine (HC.out _ (gl_alloc (gl_refl _ _) _) (gok_alloc (gok_gl HG.out hgr.out (by simp)) _)).mono ?_
          rintro e w1 ⟨rfl, hb1⟩
          go_wp2_with fail
          go_ret
          exact ⟨by first | (rw [← HP.out]; done) | (rw [← HP.out]; rfl), gl_to_below (gl_below hb1 (gl_alloc hgr.out _))⟩
        · rw [if_neg hz] at hp2
          have HP := Lib.hid hp2
          have b1 : decide (z < 0) = false := by simpa using hz
          clear hp2
          go_wp2_with fail
          refine (HC.out _ (gl_alloc (gl_refl _ _) _) (gok_alloc (gok_gl HG.out hgr.out (by simp)) _)).mono ?_
          rintro e w1 ⟨rfl, hb1⟩
          go_wp2_with fail
          go_roundw
          case rel => exact ⟨j + 1, z, by omega, by go_num, rfl, by omega, by omega, Lib.hid (gl_below hb1 (gl_alloc hgr.out _)), HP⟩
          case measure => simp [intOf]; omega
    · obtain rfl : j = kids.length := by omega
      have hz := hpr.out
      rw [List.drop_length, partsRow_nil] at hz
      have HI := Lib.hid hz
      clear hz hpr
      go_wp2
      go_ret
      exact ⟨by first | (rw [HI.out]; done) | (rw [HI.out]; rfl), gl_to_below hgr.out⟩

set_option maxRecDepth 100000 in
set_option maxHeartbeats 4000000 in
theorem lkPartsAll6 (N : Nat) (ih : PartsIH N) (kids : List LT) (ad : Option Addr) (c : Nat) (room : Int) (hr0 : 0 ≤ room - 1) (hr1 : room ≤ 1000) (hm0 : 0 < kids.length) (hm1 : kids.length ≤ 8) (hcN : countRow kids ≤ N) (q : Nat → Prop) (w : World)
    (hd : kids = [] ∨ ∃ b o, ad = some ⟨b, o, none⟩ ∧ b < w.heap.size ∧ q b ∧ RowIn q w kids b o) (hG : GOk w) :
    Calls Tryz.prog 74 #[.agg #[.int .u8 6, .string (bs []), .int .i64 0, .slice ad kids.length c], .int .i64 room] w fun e w' => e = .returned (.int .i64 (partsRow kids (room - 1))) ∧ Below w.heap.size w w' := by
  have HG := Lib.hid hG
  have HD := Lib.hid hd
  have IH := Lib.hid ih
  clear hG hd ih
  have hR : decide (room - 1 < 0) = false := by simp; omega
  have i1 : (0 : Int) < kids.length := by omega
  have i2 : (kids.length : Int) ≤ 8 := by omega
  go_enter Tryz.func74, Tryz.ntmps74
  go_wp2
  go_loopw [1, 8, 98] (fun rv _ iv wr => ∃ (j : Nat) (r : Int), j ≤ kids.length ∧ iv = .int .i64 j ∧ rv = .int .i64 r ∧ 0 ≤ r ∧ r ≤ 1000 ∧ Hid (GL [] w wr) ∧ Hid (partsRow (kids.drop j) r = partsRow kids (room - 1))) (fun _ _ iv _ => kids.length - (intOf iv).toNat)
  case atStart => exact ⟨0, room - 1, by omega, rfl, by first | rfl | (congr; omega), hr0, by omega, (by show GL _ _ _; (repeat' (first | with_reducible exact gl_refl _ _ | with_reducible assumption | with_reducible refine gl_alloc ?_ _ | with_reducible refine gl_drewN ?_ _ | with_reducible refine gl_drew ?_ | (with_reducible refine gl_setn ?_ ?_ _; · (first | exact Nat.le_refl _ | (simp; done) | (simp; omega) | omega)) | (with_reducible refine gl_seti ?_ ?_ _; · (simp; done)) | with_reducible refine gl_below (by with_reducible assumption) ?_ | with_reducible refine gl_step (by with_reducible assumption) ?_ (by first | (simp; done) | (simp; omega)) | with_reducible refine gl_grown (by with_reducible assumption) ?_ (by first | (simp; done) | (simp; omega))))), rfl⟩
  case round =>
    obtain ⟨j, r, hj, rfl, rfl, hq0, hq1, hgr, hpr⟩ := hrel
    by_cases hlt : j < kids.length
    · have i3 : (j : Int) < kids.length := by omega
      rcases HD.out with h0 | ⟨b, o, rfl, hb, hqb, hrow⟩
      · subst h0; simp at hlt
      · obtain ⟨u0, u1, u2, u3, hl, c0, c1, c2, c3⟩ := rowIn_get kids b o j kids[j] (rowIn_gl hgr.out kids b o hb hqb hrow) (List.getElem?_eq_getElem hlt)
        obtain ⟨ku, nu, tu, au, mu, cu, rfl, rfl, rfl, rfl⟩ := lockIn_cells hl
        have hd0 : kids.drop j = kids[j] :: kids.drop (j + 1) := List.drop_eq_getElem_cons hlt
        have hcx : countL kids[j] ≤ N := by have := countL_mem kids kids[j] (List.getElem_mem hlt); omega
        have hcall := fun (W : World) (hg : GL [] wr W) (hG : GOk W) => IH.out kids[j] q _ r W hcx (by omega) hq1 (lockIn_gl hg _ _ hl) hG
        have hp2 := hpr.out
        rw [hd0, partsRow_cons] at hp2
        have hle := partsL_le kids[j] r hq0
        generalize partsL kids[j] r = z at *
        have HC := Lib.hid hcall
        clear hcall hl hrow hd0 hcx hpr
        by_cases hz : z < 0
        · rw [if_pos hz] at hp2
          have HP := Lib.hid hp2
          have b1 : decide (z < 0) = true := by simpa using hz
          clear hp2
          go_wp2_with fail
          refine (HC.out _ (gl_alloc (gl_refl _ _) _) (gok_alloc (gok_gl HG.out hgr.out (by simp)) _)).mono ?_
          rintro e w1 ⟨rfl, hb1⟩
          go_wp2_with fail
          go_ret
          exact ⟨by first | (rw [← HP.out]; done) | (rw [← HP.out]; rfl), gl_to_below (gl_below hb1 (gl_alloc hgr.out _))⟩
        · rw [if_neg hz] at hp2
          have HP := Lib.hid hp2
          have b1 : decide (z < 0) = false := by simpa using hz
          clear hp2
          go_wp2_with fail
          refine (HC.out _ (gl_alloc (gl_refl _ _) _) (gok_alloc (gok_gl HG.out hgr.out (by simp)) _)).mono ?_
          rintro e w1 ⟨rfl, hb1⟩
          go_wp2_with fail
          go_roundw
          case rel => exact ⟨j + 1, z, by omega, by go_num, rfl, by omega, by omega, Lib.hid (gl_below hb1 (gl_alloc hgr.out _)), HP⟩
          case measure => simp [intOf]; omega
    · obtain rfl : j = kids.length := by omega
      have hz := hpr.out
      rw [List.drop_length, partsRow_nil] at hz
      have HI := Lib.hid hz
      clear hz hpr
      go_wp2
      go_ret
      exact ⟨by first | (rw [HI.out]; done) | (rw [HI.out]; rfl), gl_to_below hgr.out⟩

theorem nil_len {kids : List LT} (h : kids.length = 0) : kids = [] := List.eq_nil_of_length_eq_zero h
theorem int_ne {a b : Int} (h : ¬ a = b) : (a == b) = false := by simpa using h
theorem lkPartsN : ∀ N, PartsIH N
  | 0 => fun x q v room w hN _ _ _ _ => by have := count_pos x; omega
  | N + 1 => fun x q v room w hN hr0 hr1 hL hG => by
    obtain ⟨k, t, n, kids⟩ := x
    obtain ⟨ad, c, rfl, ⟨hk0, hk1⟩, hn, ht, hkl, hd⟩ := lockIn_open hL
    rw [partsL]
    rw [countL] at hN
    by_cases h : room - 1 < 0
    · rw [if_pos h]; exact lkPartsLow k n t ht ad _ c room hr0 hr1 (by simpa using h) w hG
    rw [if_neg h]
    have hR : decide (room - 1 < 0) = false := by simpa using h
    by_cases h1 : k = 1
    · subst h1
      by_cases hn0 : n = 0
      · subst hn0
        by_cases hm : kids.length = 0
        · obtain rfl := nil_len hm
          cases hp : pubB t with
          | true =>
            have ht0 : (t == []) = false := by
              cases t with
              | nil => exact absurd hp (by decide)
              | cons a b => rfl
            rw [if_pos (by simp [bareR, hp]), partsRow]
            exact lkParts1y t ht ad 0 c room hr0 hr1 hR ht0 hp w hG
          | false =>
            rw [if_neg (by simp [bareR, hp])]
            cases t with
            | nil => exact lkParts1pe [] ht ad 0 c room hr0 hr1 hR hp w hG
            | cons a b => exact lkParts1p (a :: b) ht ad 0 c room hr0 hr1 hR rfl hp w hG
        · rw [if_neg (by simp [bareR]; intro hh; subst hh; simp at hm)]
          cases t with
          | nil => exact lkParts1me [] ht ad _ c room hr0 hr1 hR (int_ne (by omega)) w hG
          | cons a b => exact lkParts1m (a :: b) ht ad _ c room hr0 hr1 hR rfl (int_ne (by omega)) w hG
      · rw [if_neg (by simp [bareR, hn0])]
        cases t with
        | nil => exact lkParts1ne n [] ht ad _ c room hr0 hr1 hR (int_ne hn0) w hG
        | cons a b => exact lkParts1n n (a :: b) ht ad _ c room hr0 hr1 hR rfl (int_ne hn0) w hG
    by_cases h2 : k = 2
    · subst h2
      by_cases hn0 : n = 0
      · subst hn0
        by_cases hm : kids.length = 0
        · obtain rfl := nil_len hm
          cases hp : hashB t with
          | true =>
            have ht0 : (t == []) = false := by
              cases t with
              | nil => exact absurd hp (by decide)
              | cons a b => rfl
            rw [if_pos (by simp [bareR, hp]), partsRow]
            exact lkParts2y t ht ad 0 c room hr0 hr1 hR ht0 hp w hG
          | false =>
            rw [if_neg (by simp [bareR, hp])]
            cases t with
            | nil => exact lkParts2pe [] ht ad 0 c room hr0 hr1 hR hp w hG
            | cons a b => exact lkParts2p (a :: b) ht ad 0 c room hr0 hr1 hR rfl hp w hG
        · rw [if_neg (by simp [bareR]; intro hh; subst hh; simp at hm)]
          cases t with
          | nil => exact lkParts2me [] ht ad _ c room hr0 hr1 hR (int_ne (by omega)) w hG
          | cons a b => exact lkParts2m (a :: b) ht ad _ c room hr0 hr1 hR rfl (int_ne (by omega)) w hG
      · rw [if_neg (by simp [bareR, hn0])]
        cases t with
        | nil => exact lkParts2ne n [] ht ad _ c room hr0 hr1 hR (int_ne hn0) w hG
        | cons a b => exact lkParts2n n (a :: b) ht ad _ c room hr0 hr1 hR rfl (int_ne hn0) w hG
    by_cases h3 : k = 3
    · subst h3
      by_cases ht0 : t = []
      · subst ht0
        by_cases hm : kids.length = 0
        · obtain rfl := nil_len hm
          by_cases hl : 0 ≤ n
          · by_cases hh : n < 1073741824
            · rw [if_pos (by simp [bareR, hl, hh]), partsRow]
              exact lkParts3y n [] ht ad 0 c room hr0 hr1 hR hl hh w hG
            · rw [if_neg (by simp [bareR, hl, hh])]
              exact lkParts3h n [] ht ad 0 c room hr0 hr1 hR hl (by simpa using hh) w hG
          · rw [if_neg (by simp [bareR, hl])]
            exact lkParts3l n [] ht ad 0 c room hr0 hr1 hR (by simpa using hl) w hG
        · rw [if_neg (by simp [bareR]; intro hh; subst hh; simp at hm)]
          exact lkParts3m n [] ht ad _ c room hr0 hr1 hR (int_ne (by omega)) w hG
      · rw [if_neg (by simp [bareR, ht0])]
        exact lkParts3t n t ht ad _ c room hr0 hr1 hR (by simpa using ht0) w hG
    by_cases h4 : k = 4
    · subst h4
      by_cases ht0 : t = []
      · subst ht0
        by_cases hm : kids.length = 0
        · obtain rfl := nil_len hm
          by_cases hl : 0 ≤ n
          · by_cases hh : n < 1073741824
            · rw [if_pos (by simp [bareR, hl, hh]), partsRow]
              exact lkParts4y n [] ht ad 0 c room hr0 hr1 hR hl hh w hG
            · rw [if_neg (by simp [bareR, hl, hh])]
              exact lkParts4h n [] ht ad 0 c room hr0 hr1 hR hl (by simpa using hh) w hG
          · rw [if_neg (by simp [bareR, hl])]
            exact lkParts4l n [] ht ad 0 c room hr0 hr1 hR (by simpa using hl) w hG
        · rw [if_neg (by simp [bareR]; intro hh; subst hh; simp at hm)]
          exact lkParts4m n [] ht ad _ c room hr0 hr1 hR (int_ne (by omega)) w hG
      · rw [if_neg (by simp [bareR, ht0])]
        exact lkParts4t n t ht ad _ c room hr0 hr1 hR (by simpa using ht0) w hG
    by_cases h5 : k = 5
    · subst h5
      by_cases ht0 : t = []
      · subst ht0
        by_cases hn0 : n = 0
        · subst hn0
          by_cases hm : kids.length = 0
          · obtain rfl := nil_len hm
            rw [if_neg (by simp [bareR])]
            exact lkParts5z [] ht ad 0 c room hr0 hr1 hR w hG
          · by_cases hm8 : kids.length ≤ 8
            · rw [if_pos (by simp [bareR, hm8]; omega)]
              exact lkPartsAll5 N (lkPartsN N) kids ad c room (by omega) hr1 (by omega) hm8 (by omega) q w hd hG
            · rw [if_neg (by simp [bareR]; omega)]
              exact lkParts5g [] ht ad _ c room hr0 hr1 hR (by omega) (by simp; omega) w hG
        · rw [if_neg (by simp [bareR, hn0])]
          exact lkParts5n n [] ht ad _ c room hr0 hr1 hR (int_ne hn0) w hG
      · rw [if_neg (by simp [bareR, ht0])]
        exact lkParts5t n t ht ad _ c room hr0 hr1 hR (by simpa using ht0) w hG
    by_cases h6 : k = 6
    · subst h6
      by_cases ht0 : t = []
      · subst ht0
        by_cases hn0 : n = 0
        · subst hn0
          by_cases hm : kids.length = 0
          · obtain rfl := nil_len hm
            rw [if_neg (by simp [bareR])]
            exact lkParts6z [] ht ad 0 c room hr0 hr1 hR w hG
          · by_cases hm8 : kids.length ≤ 8
            · rw [if_pos (by simp [bareR, hm8]; omega)]
              exact lkPartsAll6 N (lkPartsN N) kids ad c room (by omega) hr1 (by omega) hm8 (by omega) q w hd hG
            · rw [if_neg (by simp [bareR]; omega)]
              exact lkParts6g [] ht ad _ c room hr0 hr1 hR (by omega) (by simp; omega) w hG
        · rw [if_neg (by simp [bareR, hn0])]
          exact lkParts6n n [] ht ad _ c room hr0 hr1 hR (int_ne hn0) w hG
      · rw [if_neg (by simp [bareR, ht0])]
        exact lkParts6t n t ht ad _ c room hr0 hr1 hR (by simpa using ht0) w hG
    rw [if_neg (by simp [bareR, h1, h2, h3, h4, h5, h6])]
    cases t with
    | nil => exact lkPartsOthere k n [] ht ad _ c room hr0 hr1 hR (int_ne h1) (int_ne h2) (int_ne h3) (int_ne h4) (int_ne h5) (int_ne h6) w hG
    | cons a b => exact lkPartsOther k n (a :: b) ht ad _ c room hr0 hr1 hR rfl (int_ne h1) (int_ne h2) (int_ne h3) (int_ne h4) (int_ne h5) (int_ne h6) w hG
theorem lkParts (x : LT) (q : Nat → Prop) (v : Value) (room : Int) (w : World) (hr0 : -1000 ≤ room) (hr1 : room ≤ 1000) (hL : LockIn q w x v) (hG : GOk w) :
    Calls Tryz.prog 74 #[v, .int .i64 room] w fun e w' => e = .returned (.int .i64 (partsL x room)) ∧ Below w.heap.size w w' :=
  lkPartsN (countL x).toNat x q v room w (by have := count_pos x; omega) hr0 hr1 hL hG

set_option maxRecDepth 100000 in
set_option maxHeartbeats 1000000 in
theorem lkRight (x : LT) (q : Nat → Prop) (v : Value) (w : World) (hL : LockIn q w x v) (hG : GOk w) :
    Calls Tryz.prog 18 #[v] w fun e w' => e = .returned (.bool (rightL x)) ∧ Below w.heap.size w w' := by
  have H := Lib.hid (right_parts x)
  have HL := Lib.hid hL
  have HG := Lib.hid hG
  obtain ⟨k, t, n, kids⟩ := x
  obtain ⟨ad, c, rfl, _⟩ := lockIn_open hL
  clear hL hG
  go_enter Tryz.func18, Tryz.ntmps18
  go_wp2_with fail
  refine (lkParts _ q _ 64 _ (by omega) (by omega) (lockIn_gl (gl_alloc (gl_refl _ _) _) _ _ HL.out) (gok_alloc HG.out _)).mono ?_
  rintro e w1 ⟨rfl, hb1⟩
  go_wp2_with fail
  go_ret
  exact ⟨by first | (rw [← H.out]; done) | (rw [← H.out]; rfl), by (repeat' (first | with_reducible exact Below.refl _ _ | with_reducible assumption | with_reducible refine below_alloc ?_ ?_ _ | with_reducible refine Below.setCell ?_ ?_ _ | with_reducible refine Below.drew ?_ | with_reducible refine below_drewN ?_ _ | with_reducible refine below_step (by assumption) ?_ ?_ | (with_reducible refine Below.trans ?_ (Below.mono (by assumption) ?_)) | exact Nat.le_refl _ | (simp; done) | (simp; omega) | omega))⟩
end Go.Proofs.YtfmckibiblhakaaGreatDoor
