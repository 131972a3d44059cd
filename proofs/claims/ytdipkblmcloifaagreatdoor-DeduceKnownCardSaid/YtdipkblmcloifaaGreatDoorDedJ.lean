/- The program's layer term: two agree, a box is opened; public keys of joined and bound secrets. -/
import Derived.Test.YtdipkblmcloifaaGreatDoorMTerm
import Derived.Test.YtdipkblmcloifaaGreatDoorMSpec
import Derived.Laws.EntriesVeiled
import Derived.BigRegion
set_option linter.unusedSimpArgs false
set_option linter.unusedVariables false
namespace Go.Proofs.YtdipkblmcloifaaGreatDoor
open Go.RowKit

theorem cell_alloc {w : World} {a : Addr} {v : Value} (h : w.cell? a = some v) (o : Obj) : (w.alloc o).cell? a = some v := by
  rw [World.cell?_alloc_some _ _ _ (by rw [h]; rfl)]; exact h
theorem cell_below {w w' : World} {a : Addr} {v : Value} (h : w.cell? a = some v) (hb : Below w.heap.size w w') : w'.cell? a = some v :=
  (hb.cell (World.block_lt_of_cell? _ _ h)).trans h

theorem two_cells_n {w : World} {x y : List UInt8} {T n : Nat} (h : n = w.heap.size) : ∀ (j : Nat) (z : List UInt8), [x, y][j]? = some z → (w.alloc (.cells #[.string (bs x), .string (bs y)] T)).cell? ⟨n, j, none⟩ = some (.string (bs z)) := by
  subst h; exact two_cells
theorem one_cell_n {w : World} {x : List UInt8} {T n : Nat} (h : n = w.heap.size) : ∀ (j : Nat) (z : List UInt8), [x][j]? = some z → (w.alloc (.cells #[.string (bs x)] T)).cell? ⟨n, j, none⟩ = some (.string (bs z)) := by
  subst h; exact one_cell

set_option maxRecDepth 100000 in
set_option maxHeartbeats 2000000 in
theorem tAgree (k l : List UInt8) (hk : k.length ≤ 9000000000000000000) (hl : l.length ≤ 9000000000000000000) (w : World) (hG : GOk w) :
    Calls Tryz.prog 50 #[.string (bs k), .string (bs l)] w fun e w' => e = .returned (.tuple #[.string (bs (agreeT k l).1), .int .i64 (agreeT k l).2]) ∧ Below w.heap.size w w' := by
  have HG := Lib.hid hG
  clear hG
  cases hr : rt l with
  | none =>
    have H : Hid (agreeT k l = ([], 10)) := by show agreeT k l = _; simp [agreeT, hr]
    have HR := Lib.hid hr
    clear hr
    go_enter Tryz.func50, Tryz.ntmps50
    go_wp2_with fail
    refine (tOpen l hl _ HG.out).mono ?_
    rintro e w1 hp
    rw [HR.out] at hp
    obtain ⟨rfl, hb1⟩ := hp
    go_wp2_with fail
    go_ret2
    exact ⟨by rw [H.out]; rfl, by (repeat' (first | with_reducible exact Below.refl _ _ | with_reducible assumption | with_reducible refine below_alloc ?_ ?_ _ | with_reducible refine Below.setCell ?_ ?_ _ | with_reducible refine Below.drew ?_ | with_reducible refine below_drewN ?_ _ | with_reducible refine below_step (by assumption) ?_ ?_ | (with_reducible refine Below.trans ?_ (Below.mono (by assumption) ?_)) | exact Nat.le_refl _ | (simp; done) | (simp; omega) | omega))⟩
  | some s =>
    by_cases ho : s.op.toNat = 80
    · obtain ⟨j, hj, hjr, hjl⟩ := rt_one_kid hr (by simp [arity, ← UInt8.toNat_inj, ho])
      have hjl2 := right_len hjr
      have HKS := Lib.hid hj
      have HR := Lib.hid hr
      have b1 : (((s.op.toNat : Nat) : Int) != 80) = false := by simp [ho]
      cases hbl : Op.bytesLess j k with
      | false =>
        have H : Hid (agreeT k l = twoT 88 k j) := by show agreeT k l = _; simp [agreeT, hr, ho, hj, hbl]
        have HB := Lib.hid (build_two 88 k j)
        clear hr ho hj hjr
        go_enter Tryz.func50, Tryz.ntmps50
        go_wp2_with fail
        refine (tOpen l hl _ HG.out).mono ?_
        rintro e w1 hp
        rw [HR.out] at hp
        obtain ⟨ad, kn, kc, rfl, hown, hb1⟩ := hp
        rw [HKS.out] at hown
        obtain ⟨g, cap, hv, hgb, hgw, hcap, hcap2, hcell⟩ := own_cells hown (by simp)
        injection hv with hv1 hv2 hv3
        subst hv1 hv2 hv3
        have c0 := cell_alloc (hcell 0 (.string (bs j)) rfl) (.cells #[.int .u8 s.op.toNat, .int .i64 (numOf s), .string (bs s.text), .slice (some ⟨g, 0, none⟩) 1 kc] 63)
        have HP := Lib.hid (blk_new w1 (.cells #[.int .u8 s.op.toNat, .int .i64 (numOf s), .string (bs s.text), .slice (some ⟨g, 0, none⟩) 1 kc] 63))
        have HG1 := Lib.hid (gok_alloc (gok_below HG.out hb1) (.cells #[.int .u8 s.op.toNat, .int .i64 (numOf s), .string (bs s.text), .slice (some ⟨g, 0, none⟩) 1 kc] 63))
        have hb2 : Below w.heap.size w (w1.alloc (.cells #[.int .u8 s.op.toNat, .int .i64 (numOf s), .string (bs s.text), .slice (some ⟨g, 0, none⟩) 1 kc] 63)) := by (repeat' (first | with_reducible exact Below.refl _ _ | with_reducible assumption | with_reducible refine below_alloc ?_ ?_ _ | with_reducible refine Below.setCell ?_ ?_ _ | with_reducible refine Below.drew ?_ | with_reducible refine below_drewN ?_ _ | with_reducible refine below_step (by assumption) ?_ ?_ | (with_reducible refine Below.trans ?_ (Below.mono (by assumption) ?_)) | exact Nat.le_refl _ | (simp; done) | (simp; omega) | omega))
        have HZ : Hid (w1.heap.size + 1 = (w1.alloc (.cells #[.int .u8 s.op.toNat, .int .i64 (numOf s), .string (bs s.text), .slice (some ⟨g, 0, none⟩) 1 kc] 63)).heap.size) := by show _ = _; simp
        clear hcell hown
        go_wp2_with fail
        generalize w1.alloc (.cells #[.int .u8 s.op.toNat, .int .i64 (numOf s), .string (bs s.text), .slice (some ⟨g, 0, none⟩) 1 kc] 63) = v1 at *
        refine (tBuild [88] [k, j] _ _ (by simp) (by simp; omega) (by simp) _ (by have := HZ.out; simp; omega) (two_cells_n HZ.out) (gok_alloc HG1.out _)).mono ?_
        rintro e w2 ⟨rfl, hb3⟩
        go_wp2_with fail
        go_ret2
        exact ⟨by rw [H.out, ← HB.out]; rfl, by (repeat' (first | with_reducible exact Below.refl _ _ | with_reducible assumption | with_reducible refine below_alloc ?_ ?_ _ | with_reducible refine Below.setCell ?_ ?_ _ | with_reducible refine Below.drew ?_ | with_reducible refine below_drewN ?_ _ | with_reducible refine below_step (by assumption) ?_ ?_ | (with_reducible refine Below.trans ?_ (Below.mono (by assumption) ?_)) | exact Nat.le_refl _ | (simp; done) | (simp; omega) | omega))⟩
      | true =>
        have H : Hid (agreeT k l = twoT 88 j k) := by show agreeT k l = _; simp [agreeT, hr, ho, hj, hbl]
        have HB := Lib.hid (build_two 88 j k)
        clear hr ho hj hjr
        go_enter Tryz.func50, Tryz.ntmps50
        go_wp2_with fail
        refine (tOpen l hl _ HG.out).mono ?_
        rintro e w1 hp
        rw [HR.out] at hp
        obtain ⟨ad, kn, kc, rfl, hown, hb1⟩ := hp
        rw [HKS.out] at hown
        obtain ⟨g, cap, hv, hgb, hgw, hcap, hcap2, hcell⟩ := own_cells hown (by simp)
        injection hv with hv1 hv2 hv3
        subst hv1 hv2 hv3
        have c0 := cell_alloc (hcell 0 (.string (bs j)) rfl) (.cells #[.int .u8 s.op.toNat, .int .i64 (numOf s), .string (bs s.text), .slice (some ⟨g, 0, none⟩) 1 kc] 63)
        have HP := Lib.hid (blk_new w1 (.cells #[.int .u8 s.op.toNat, .int .i64 (numOf s), .string (bs s.text), .slice (some ⟨g, 0, none⟩) 1 kc] 63))
        have HG1 := Lib.hid (gok_alloc (gok_below HG.out hb1) (.cells #[.int .u8 s.op.toNat, .int .i64 (numOf s), .string (bs s.text), .slice (some ⟨g, 0, none⟩) 1 kc] 63))
        have hb2 : Below w.heap.size w (w1.alloc (.cells #[.int .u8 s.op.toNat, .int .i64 (numOf s), .string (bs s.text), .slice (some ⟨g, 0, none⟩) 1 kc] 63)) := by (repeat' (first | with_reducible exact Below.refl _ _ | with_reducible assumption | with_reducible refine below_alloc ?_ ?_ _ | with_reducible refine Below.setCell ?_ ?_ _ | with_reducible refine Below.drew ?_ | with_reducible refine below_drewN ?_ _ | with_reducible refine below_step (by assumption) ?_ ?_ | (with_reducible refine Below.trans ?_ (Below.mono (by assumption) ?_)) | exact Nat.le_refl _ | (simp; done) | (simp; omega) | omega))
        have HZ : Hid (w1.heap.size + 1 = (w1.alloc (.cells #[.int .u8 s.op.toNat, .int .i64 (numOf s), .string (bs s.text), .slice (some ⟨g, 0, none⟩) 1 kc] 63)).heap.size) := by show _ = _; simp
        clear hcell hown
        go_wp2_with fail
        generalize w1.alloc (.cells #[.int .u8 s.op.toNat, .int .i64 (numOf s), .string (bs s.text), .slice (some ⟨g, 0, none⟩) 1 kc] 63) = v1 at *
        refine (tBuild [88] [j, k] _ _ (by simp) (by simp; omega) (by simp) _ (by have := HZ.out; simp; omega) (two_cells_n HZ.out) (gok_alloc HG1.out _)).mono ?_
        rintro e w2 ⟨rfl, hb3⟩
        go_wp2_with fail
        go_ret2
        exact ⟨by rw [H.out, ← HB.out]; rfl, by (repeat' (first | with_reducible exact Below.refl _ _ | with_reducible assumption | with_reducible refine below_alloc ?_ ?_ _ | with_reducible refine Below.setCell ?_ ?_ _ | with_reducible refine Below.drew ?_ | with_reducible refine below_drewN ?_ _ | with_reducible refine below_step (by assumption) ?_ ?_ | (with_reducible refine Below.trans ?_ (Below.mono (by assumption) ?_)) | exact Nat.le_refl _ | (simp; done) | (simp; omega) | omega))⟩
    · have H : Hid (agreeT k l = ([], 10)) := by show agreeT k l = _; simp [agreeT, hr, ho]
      have HR := Lib.hid hr
      have b1 : (((s.op.toNat : Nat) : Int) != 80) = true := by simp; omega
      clear hr ho
      go_enter Tryz.func50, Tryz.ntmps50
      go_wp2_with fail
      refine (tOpen l hl _ HG.out).mono ?_
      rintro e w1 hp
      rw [HR.out] at hp
      obtain ⟨ad, kn, kc, rfl, hown, hb1⟩ := hp
      clear hown
      go_wp2_with fail
      go_ret2
      exact ⟨by rw [H.out]; rfl, by (repeat' (first | with_reducible exact Below.refl _ _ | with_reducible assumption | with_reducible refine below_alloc ?_ ?_ _ | with_reducible refine Below.setCell ?_ ?_ _ | with_reducible refine Below.drew ?_ | with_reducible refine below_drewN ?_ _ | with_reducible refine below_step (by assumption) ?_ ?_ | (with_reducible refine Below.trans ?_ (Below.mono (by assumption) ?_)) | exact Nat.le_refl _ | (simp; done) | (simp; omega) | omega))⟩

set_option maxRecDepth 100000 in
set_option maxHeartbeats 2000000 in
theorem tUnbox (k l : List UInt8) (hl : l.length ≤ 9000000000000000000) (w : World) (hG : GOk w) :
    Calls Tryz.prog 52 #[.string (bs k), .string (bs l)] w fun e w' => e = .returned (.tuple #[.string (bs (unboxT k l).1), .bool (unboxT k l).2]) ∧ Below w.heap.size w w' := by
  have HG := Lib.hid hG
  clear hG
  cases hr : rt l with
  | none =>
    have H : Hid (unboxT k l = ([], false)) := by show unboxT k l = _; simp [unboxT, hr]
    have HR := Lib.hid hr
    clear hr
    go_enter Tryz.func52, Tryz.ntmps52
    go_wp2_with fail
    refine (tOpen l hl _ HG.out).mono ?_
    rintro e w1 hp
    rw [HR.out] at hp
    obtain ⟨rfl, hb1⟩ := hp
    go_wp2_with fail
    go_ret2
    exact ⟨by rw [H.out]; rfl, by (repeat' (first | with_reducible exact Below.refl _ _ | with_reducible assumption | with_reducible refine below_alloc ?_ ?_ _ | with_reducible refine Below.setCell ?_ ?_ _ | with_reducible refine Below.drew ?_ | with_reducible refine below_drewN ?_ _ | with_reducible refine below_step (by assumption) ?_ ?_ | (with_reducible refine Below.trans ?_ (Below.mono (by assumption) ?_)) | exact Nat.le_refl _ | (simp; done) | (simp; omega) | omega))⟩
  | some s =>
    by_cases ho : s.op.toNat = 66
    · obtain ⟨a, b, hj, har, hbr, hal, hbl⟩ := rt_two_kids hr (by simp [arity, ← UInt8.toNat_inj, ho])
      have HKS := Lib.hid hj
      have HR := Lib.hid hr
      have b1 : (((s.op.toNat : Nat) : Int) != 66) = false := by simp [ho]
      by_cases hak : a = k
      · subst hak
        have H : Hid (unboxT a l = (b, true)) := by show unboxT a l = _; simp [unboxT, hr, ho, hj]
        clear hr ho hj har hbr
        go_enter Tryz.func52, Tryz.ntmps52
        go_wp2_with (first | (go_at_call 40; refine (tOpen l hl _ HG.out).mono ?_; rintro e w1 hp; rw [HR.out] at hp; obtain ⟨ad, kn, kc, rfl, hown, hb1⟩ := hp; rw [HKS.out] at hown; obtain ⟨g, cap, hv, hgb, hgw, hcap, hcap2, hcell⟩ := own_cells hown (by simp); injection hv with hv1 hv2 hv3; subst hv1 hv2 hv3; have c0 := hcell 0 (.string (bs a)) rfl; have c1 := hcell 1 (.string (bs b)) rfl; have HG1 := Lib.hid (gok_below HG.out hb1); clear hcell hown))
        go_ret2
        exact ⟨by rw [H.out]; rfl, by (repeat' (first | with_reducible exact Below.refl _ _ | with_reducible assumption | with_reducible refine below_alloc ?_ ?_ _ | with_reducible refine Below.setCell ?_ ?_ _ | with_reducible refine Below.drew ?_ | with_reducible refine below_drewN ?_ _ | with_reducible refine below_step (by assumption) ?_ ?_ | (with_reducible refine Below.trans ?_ (Below.mono (by assumption) ?_)) | exact Nat.le_refl _ | (simp; done) | (simp; omega) | omega))⟩
      · have H : Hid (unboxT k l = ([], false)) := by show unboxT k l = _; simp [unboxT, hr, ho, hj, hak]
        have q : (a == k) = false := by simpa using hak
        have q2 : (a != k) = true := by simpa using hak
        clear hr ho hj har hbr
        go_enter Tryz.func52, Tryz.ntmps52
        go_wp2_with (first | (go_at_call 40; refine (tOpen l hl _ HG.out).mono ?_; rintro e w1 hp; rw [HR.out] at hp; obtain ⟨ad, kn, kc, rfl, hown, hb1⟩ := hp; rw [HKS.out] at hown; obtain ⟨g, cap, hv, hgb, hgw, hcap, hcap2, hcell⟩ := own_cells hown (by simp); injection hv with hv1 hv2 hv3; subst hv1 hv2 hv3; have c0 := hcell 0 (.string (bs a)) rfl; have c1 := hcell 1 (.string (bs b)) rfl; have HG1 := Lib.hid (gok_below HG.out hb1); clear hcell hown))
        go_ret2
        exact ⟨by rw [H.out]; rfl, by (repeat' (first | with_reducible exact Below.refl _ _ | with_reducible assumption | with_reducible refine below_alloc ?_ ?_ _ | with_reducible refine Below.setCell ?_ ?_ _ | with_reducible refine Below.drew ?_ | with_reducible refine below_drewN ?_ _ | with_reducible refine below_step (by assumption) ?_ ?_ | (with_reducible refine Below.trans ?_ (Below.mono (by assumption) ?_)) | exact Nat.le_refl _ | (simp; done) | (simp; omega) | omega))⟩
    · have H : Hid (unboxT k l = ([], false)) := by show unboxT k l = _; simp [unboxT, hr, ho]
      have HR := Lib.hid hr
      have b1 : (((s.op.toNat : Nat) : Int) != 66) = true := by simp; omega
      clear hr ho
      go_enter Tryz.func52, Tryz.ntmps52
      go_wp2_with fail
      refine (tOpen l hl _ HG.out).mono ?_
      rintro e w1 hp
      rw [HR.out] at hp
      obtain ⟨ad, kn, kc, rfl, hown, hb1⟩ := hp
      clear hown
      go_wp2_with fail
      go_ret2
      exact ⟨by rw [H.out]; rfl, by (repeat' (first | with_reducible exact Below.refl _ _ | with_reducible assumption | with_reducible refine below_alloc ?_ ?_ _ | with_reducible refine Below.setCell ?_ ?_ _ | with_reducible refine Below.drew ?_ | with_reducible refine below_drewN ?_ _ | with_reducible refine below_step (by assumption) ?_ ?_ | (with_reducible refine Below.trans ?_ (Below.mono (by assumption) ?_)) | exact Nat.le_refl _ | (simp; done) | (simp; omega) | omega))⟩


set_option maxRecDepth 100000 in
set_option maxHeartbeats 2000000 in
theorem tJoint (x y : List UInt8) (hlx : x.length ≤ 9000000000000000000) (hly : y.length ≤ 9000000000000000000) (w : World) (hG : GOk w) :
    Calls Tryz.prog 48 #[.string (bs x), .string (bs y)] w fun e w' => e = .returned (.tuple #[.string (bs (jointT x y).1), .int .i64 (jointT x y).2]) ∧ Below w.heap.size w w' := by
  have HG := Lib.hid hG
  clear hG
  cases h : right x with
  | false =>
    have H : Hid (jointT x y = ([], 10)) := by show jointT x y = _; simp [jointT, h]
    have HR := Lib.hid h
    clear h
    go_enter Tryz.func48, Tryz.ntmps48
    go_wp2_with fail
    refine (tRight x hlx _ HG.out).mono ?_
    rintro e w1 ⟨rfl, hb1⟩
    rw [HR.out]
    have HG := Lib.hid (gok_below HG.out hb1)
    go_wp2_with fail
    go_ret2
    exact ⟨by rw [H.out]; rfl, by (repeat' (first | with_reducible exact Below.refl _ _ | with_reducible assumption | with_reducible refine below_alloc ?_ ?_ _ | with_reducible refine Below.setCell ?_ ?_ _ | with_reducible refine Below.drew ?_ | with_reducible refine below_drewN ?_ _ | with_reducible refine below_step (by assumption) ?_ ?_ | (with_reducible refine Below.trans ?_ (Below.mono (by assumption) ?_)) | exact Nat.le_refl _ | (simp; done) | (simp; omega) | omega))⟩
  | true =>
    cases h2 : right y with
    | false =>
      have H : Hid (jointT x y = ([], 10)) := by show jointT x y = _; simp [jointT, h2]
      have HR := Lib.hid h
      have HR2 := Lib.hid h2
      clear h h2
      go_enter Tryz.func48, Tryz.ntmps48
      go_wp2_with fail
      refine (tRight x hlx _ HG.out).mono ?_
      rintro e w1 ⟨rfl, hb1⟩
      rw [HR.out]
      have HG := Lib.hid (gok_below HG.out hb1)
      go_wp2_with fail
      refine (tRight y hly _ HG.out).mono ?_
      rintro e w2 ⟨rfl, hb2⟩
      rw [HR2.out]
      have HG := Lib.hid (gok_below HG.out hb2)
      go_wp2_with fail
      go_ret2
      exact ⟨by rw [H.out]; rfl, by (repeat' (first | with_reducible exact Below.refl _ _ | with_reducible assumption | with_reducible refine below_alloc ?_ ?_ _ | with_reducible refine Below.setCell ?_ ?_ _ | with_reducible refine Below.drew ?_ | with_reducible refine below_drewN ?_ _ | with_reducible refine below_step (by assumption) ?_ ?_ | (with_reducible refine Below.trans ?_ (Below.mono (by assumption) ?_)) | exact Nat.le_refl _ | (simp; done) | (simp; omega) | omega))⟩
    | true =>
      obtain ⟨c, r, rfl⟩ := right_cons h
      obtain ⟨c', r', rfl⟩ := right_cons h2
      have hr0 : (0 : Int) ≤ (r.length : Int) := by omega
      have hr0' : (0 : Int) ≤ (r'.length : Int) := by omega
      cases h3 : pubC c with
      | false =>
        have H : Hid (jointT (c :: r) (c' :: r') = ([], 10)) := by show jointT _ _ = _; simp [jointT, head, h3]
        have HR := Lib.hid h
        have HR2 := Lib.hid h2
        have HR3 := Lib.hid h3
        clear h h2 h3
        go_enter Tryz.func48, Tryz.ntmps48
        go_wp2_with fail
        refine (tRight _ hlx _ HG.out).mono ?_
        rintro e w1 ⟨rfl, hb1⟩
        rw [HR.out]
        have HG := Lib.hid (gok_below HG.out hb1)
        go_wp2_with fail
        refine (tRight _ hly _ HG.out).mono ?_
        rintro e w2 ⟨rfl, hb2⟩
        rw [HR2.out]
        have HG := Lib.hid (gok_below HG.out hb2)
        go_wp2_with fail
        refine (tPublic c _ _).mono ?_
        rintro e w3 ⟨rfl, rfl⟩
        rw [HR3.out]
        go_wp2_with fail
        go_ret2
        exact ⟨by rw [H.out]; rfl, by (repeat' (first | with_reducible exact Below.refl _ _ | with_reducible assumption | with_reducible refine below_alloc ?_ ?_ _ | with_reducible refine Below.setCell ?_ ?_ _ | with_reducible refine Below.drew ?_ | with_reducible refine below_drewN ?_ _ | with_reducible refine below_step (by assumption) ?_ ?_ | (with_reducible refine Below.trans ?_ (Below.mono (by assumption) ?_)) | exact Nat.le_refl _ | (simp; done) | (simp; omega) | omega))⟩
      | true =>
        cases h4 : pubC c' with
        | false =>
          have H : Hid (jointT (c :: r) (c' :: r') = ([], 10)) := by show jointT _ _ = _; simp [jointT, head, h4]
          have HR := Lib.hid h
          have HR2 := Lib.hid h2
          have HR3 := Lib.hid h3
          have HR4 := Lib.hid h4
          clear h h2 h3 h4
          go_enter Tryz.func48, Tryz.ntmps48
          go_wp2_with fail
          refine (tRight _ hlx _ HG.out).mono ?_
          rintro e w1 ⟨rfl, hb1⟩
          rw [HR.out]
          have HG := Lib.hid (gok_below HG.out hb1)
          go_wp2_with fail
          refine (tRight _ hly _ HG.out).mono ?_
          rintro e w2 ⟨rfl, hb2⟩
          rw [HR2.out]
          have HG := Lib.hid (gok_below HG.out hb2)
          go_wp2_with fail
          refine (tPublic c _ _).mono ?_
          rintro e w3 ⟨rfl, rfl⟩
          rw [HR3.out]
          go_wp2_with fail
          refine (tPublic c' _ _).mono ?_
          rintro e w4 ⟨rfl, rfl⟩
          rw [HR4.out]
          go_wp2_with fail
          go_ret2
          exact ⟨by rw [H.out]; rfl, by (repeat' (first | with_reducible exact Below.refl _ _ | with_reducible assumption | with_reducible refine below_alloc ?_ ?_ _ | with_reducible refine Below.setCell ?_ ?_ _ | with_reducible refine Below.drew ?_ | with_reducible refine below_drewN ?_ _ | with_reducible refine below_step (by assumption) ?_ ?_ | (with_reducible refine Below.trans ?_ (Below.mono (by assumption) ?_)) | exact Nat.le_refl _ | (simp; done) | (simp; omega) | omega))⟩
        | true =>
          have H : Hid (jointT (c :: r) (c' :: r') = buildT [87] [c :: r, c' :: r']) := by show jointT _ _ = _; rw [build_two]; simp [jointT, head, h, h2, h3, h4]
          have HR := Lib.hid h
          have HR2 := Lib.hid h2
          have HR3 := Lib.hid h3
          have HR4 := Lib.hid h4
          clear h h2 h3 h4
          go_enter Tryz.func48, Tryz.ntmps48
          go_wp2_with fail
          refine (tRight _ hlx _ HG.out).mono ?_
          rintro e w1 ⟨rfl, hb1⟩
          rw [HR.out]
          have HG := Lib.hid (gok_below HG.out hb1)
          go_wp2_with fail
          refine (tRight _ hly _ HG.out).mono ?_
          rintro e w2 ⟨rfl, hb2⟩
          rw [HR2.out]
          have HG := Lib.hid (gok_below HG.out hb2)
          go_wp2_with fail
          refine (tPublic c _ _).mono ?_
          rintro e w3 ⟨rfl, rfl⟩
          rw [HR3.out]
          go_wp2_with fail
          refine (tPublic c' _ _).mono ?_
          rintro e w4 ⟨rfl, rfl⟩
          rw [HR4.out]
          go_wp2_with fail
          refine (tBuild [87] [c :: r, c' :: r'] _ _ (by simp) (by intro z hz; simp at hz; rcases hz with rfl | rfl <;> assumption) (by simp) _ (by simp) (two_cells (x := c :: r) (y := c' :: r') (T := 28)) (gok_alloc HG.out _)).mono ?_
          rintro e w9 ⟨rfl, hb9⟩
          go_wp2_with fail
          go_ret2
          exact ⟨by rw [H.out]; rfl, by (repeat' (first | with_reducible exact Below.refl _ _ | with_reducible assumption | with_reducible refine below_alloc ?_ ?_ _ | with_reducible refine Below.setCell ?_ ?_ _ | with_reducible refine Below.drew ?_ | with_reducible refine below_drewN ?_ _ | with_reducible refine below_step (by assumption) ?_ ?_ | (with_reducible refine Below.trans ?_ (Below.mono (by assumption) ?_)) | exact Nat.le_refl _ | (simp; done) | (simp; omega) | omega))⟩

set_option maxRecDepth 100000 in
set_option maxHeartbeats 2000000 in
theorem tBound (x y : List UInt8) (hlx : x.length ≤ 9000000000000000000) (hly : y.length ≤ 9000000000000000000) (w : World) (hG : GOk w) :
    Calls Tryz.prog 49 #[.string (bs x), .string (bs y)] w fun e w' => e = .returned (.tuple #[.string (bs (boundT x y).1), .int .i64 (boundT x y).2]) ∧ Below w.heap.size w w' := by
  have HG := Lib.hid hG
  clear hG
  cases h : right x with
  | false =>
    have H : Hid (boundT x y = ([], 10)) := by show boundT x y = _; simp [boundT, h]
    have HR := Lib.hid h
    clear h
    go_enter Tryz.func49, Tryz.ntmps49
    go_wp2_with fail
    refine (tRight x hlx _ HG.out).mono ?_
    rintro e w1 ⟨rfl, hb1⟩
    rw [HR.out]
    have HG := Lib.hid (gok_below HG.out hb1)
    go_wp2_with fail
    go_ret2
    exact ⟨by rw [H.out]; rfl, by (repeat' (first | with_reducible exact Below.refl _ _ | with_reducible assumption | with_reducible refine below_alloc ?_ ?_ _ | with_reducible refine Below.setCell ?_ ?_ _ | with_reducible refine Below.drew ?_ | with_reducible refine below_drewN ?_ _ | with_reducible refine below_step (by assumption) ?_ ?_ | (with_reducible refine Below.trans ?_ (Below.mono (by assumption) ?_)) | exact Nat.le_refl _ | (simp; done) | (simp; omega) | omega))⟩
  | true =>
    obtain ⟨c, r, rfl⟩ := right_cons h
    have hr0 : (0 : Int) ≤ (r.length : Int) := by omega
    cases h3 : pubC c with
    | false =>
      have H : Hid (boundT (c :: r) y = ([], 10)) := by show boundT _ _ = _; simp [boundT, head, h3]
      have HR := Lib.hid h
      have HR3 := Lib.hid h3
      clear h h3
      go_enter Tryz.func49, Tryz.ntmps49
      go_wp2_with fail
      refine (tRight _ hlx _ HG.out).mono ?_
      rintro e w1 ⟨rfl, hb1⟩
      rw [HR.out]
      have HG := Lib.hid (gok_below HG.out hb1)
      go_wp2_with fail
      refine (tPublic c _ _).mono ?_
      rintro e w2 ⟨rfl, rfl⟩
      rw [HR3.out]
      go_wp2_with fail
      go_ret2
      exact ⟨by rw [H.out]; rfl, by (repeat' (first | with_reducible exact Below.refl _ _ | with_reducible assumption | with_reducible refine below_alloc ?_ ?_ _ | with_reducible refine Below.setCell ?_ ?_ _ | with_reducible refine Below.drew ?_ | with_reducible refine below_drewN ?_ _ | with_reducible refine below_step (by assumption) ?_ ?_ | (with_reducible refine Below.trans ?_ (Below.mono (by assumption) ?_)) | exact Nat.le_refl _ | (simp; done) | (simp; omega) | omega))⟩
    | true =>
      have H : Hid (boundT (c :: r) y = buildT [76] [c :: r, y]) := by show boundT _ _ = _; rw [build_two]; cases h2 : right y <;> simp [boundT, twoT, head, h, h2, h3]
      have HR := Lib.hid h
      have HR3 := Lib.hid h3
      clear h h3
      go_enter Tryz.func49, Tryz.ntmps49
      go_wp2_with fail
      refine (tRight _ hlx _ HG.out).mono ?_
      rintro e w1 ⟨rfl, hb1⟩
      rw [HR.out]
      have HG := Lib.hid (gok_below HG.out hb1)
      go_wp2_with fail
      refine (tPublic c _ _).mono ?_
      rintro e w2 ⟨rfl, rfl⟩
      rw [HR3.out]
      go_wp2_with fail
      refine (tBuild [76] [c :: r, y] _ _ (by simp) (by intro z hz; simp at hz; rcases hz with rfl | rfl <;> assumption) (by simp) _ (by simp) (two_cells (x := c :: r) (y := y) (T := 28)) (gok_alloc HG.out _)).mono ?_
      rintro e w9 ⟨rfl, hb9⟩
      go_wp2_with fail
      go_ret2
      exact ⟨by rw [H.out]; rfl, by (repeat' (first | with_reducible exact Below.refl _ _ | with_reducible assumption | with_reducible refine below_alloc ?_ ?_ _ | with_reducible refine Below.setCell ?_ ?_ _ | with_reducible refine Below.drew ?_ | with_reducible refine below_drewN ?_ _ | with_reducible refine below_step (by assumption) ?_ ?_ | (with_reducible refine Below.trans ?_ (Below.mono (by assumption) ?_)) | exact Nat.le_refl _ | (simp; done) | (simp; omega) | omega))⟩
