/- The program's locks: what is a public key, a digest; how many parts; right; does a signature fit? -/
import Derived.Test.YtfmckibiblhakaaGreatDoorLockP
import Derived.Test.YtfmckibiblhakaaGreatDoorMTerm
import Derived.Test.YtfmckibiblhakaaGreatDoorLockV
set_option linter.unusedSimpArgs false
set_option linter.unusedVariables false
namespace Go.Proofs.YtfmckibiblhakaaGreatDoor
open Go.RowKit

theorem kcell_alloc {w : World} {a : Addr} {v : Value} (h : w.cell? a = some v) (o : Obj) : (w.alloc o).cell? a = some v := by
  rw [World.cell?_alloc_some _ _ _ (by rw [h]; rfl)]; exact h
theorem open_head {t : List UInt8} {s : Sh} (h : rt t = some s) : ∃ r, t = s.op :: r ∧ right t = true := by
  have h1 := (rt_rd h).1
  cases t with
  | nil => simp [rd] at h1
  | cons c r =>
    have hop : s.op = c := (rd_ok _ _ _ h1).2.2.2.2
    exact ⟨r, by rw [hop], by unfold right; rw [h]; rfl⟩
theorem pubB_some {t : List UInt8} {s : Sh} (h : rt t = some s) : pubB t = (s.op.toNat == 80 || s.op.toNat == 87 || s.op.toNat == 76) := by
  obtain ⟨r, e, hr⟩ := open_head h
  unfold pubB
  rw [hr, e, Bool.eq_iff_iff]
  simp [← UInt8.toNat_inj]
theorem hashB_some {t : List UInt8} {s : Sh} (h : rt t = some s) : hashB t = (s.op.toNat == 72) := by
  obtain ⟨r, e, hr⟩ := open_head h
  unfold hashB
  rw [hr, e, Bool.eq_iff_iff]
  simp [← UInt8.toNat_inj]
theorem pubB_none {t : List UInt8} (h : rt t = none) : pubB t = false := by
  unfold pubB right; rw [h]; rfl
theorem hashB_none {t : List UInt8} (h : rt t = none) : hashB t = false := by
  unfold hashB right; rw [h]; rfl

set_option maxRecDepth 100000 in
set_option maxHeartbeats 2000000 in
theorem lkPublic (t : List UInt8) (ht : t.length ≤ 9000000000000000000) (w : World) (hG : GOk w) :
    Calls Tryz.prog 104 #[.string (bs t)] w fun e w' => e = .returned (.bool (pubB t)) ∧ Below w.heap.size w w' := by
  have HG := Lib.hid hG
  clear hG
  cases hr : rt t with
  | none =>
    have H : Hid (pubB t = false) := pubB_none hr
    have HR := Lib.hid hr
    clear hr
    go_enter Tryz.func104, Tryz.ntmps104
    go_wp2_with fail
    refine (tOpen t ht _ HG.out).mono ?_
    rintro e w1 hp
    rw [HR.out] at hp
    obtain ⟨rfl, hb1⟩ := hp
    go_wp2_with fail
    go_ret
    exact ⟨by first | (rw [H.out]; done) | (rw [H.out]; rfl), by (repeat' (first | with_reducible exact Below.refl _ _ | with_reducible assumption | with_reducible refine below_alloc ?_ ?_ _ | with_reducible refine Below.setCell ?_ ?_ _ | with_reducible refine Below.drew ?_ | with_reducible refine below_drewN ?_ _ | with_reducible refine below_step (by assumption) ?_ ?_ | (with_reducible refine Below.trans ?_ (Below.mono (by assumption) ?_)) | exact Nat.le_refl _ | (simp; done) | (simp; omega) | omega))⟩
  | some s =>
    have H := Lib.hid (pubB_some hr)
    have HR := Lib.hid hr
    clear hr
    by_cases h80 : s.op.toNat = 80
    · have b80 : (((s.op.toNat : Nat) : Int) == 80) = true := by simp [h80]
      have HH : Hid (pubB t = true) := by show pubB t = true; rw [H.out]; simp [h80]
      clear H h80
      go_enter Tryz.func104, Tryz.ntmps104
      go_wp2_with fail
      refine (tOpen t ht _ HG.out).mono ?_
      rintro e w1 hp
      rw [HR.out] at hp
      obtain ⟨ad, kn, kc, rfl, hown, hb1⟩ := hp
      clear hown
      go_wp2_with fail
      go_ret
      exact ⟨by first | (rw [HH.out]; done) | (rw [HH.out]; rfl), by (repeat' (first | with_reducible exact Below.refl _ _ | with_reducible assumption | with_reducible refine below_alloc ?_ ?_ _ | with_reducible refine Below.setCell ?_ ?_ _ | with_reducible refine Below.drew ?_ | with_reducible refine below_drewN ?_ _ | with_reducible refine below_step (by assumption) ?_ ?_ | (with_reducible refine Below.trans ?_ (Below.mono (by assumption) ?_)) | exact Nat.le_refl _ | (simp; done) | (simp; omega) | omega))⟩
    · have b80 : (((s.op.toNat : Nat) : Int) == 80) = false := by simp; omega
      by_cases h87 : s.op.toNat = 87
      · have b87 : (((s.op.toNat : Nat) : Int) == 87) = true := by simp [h87]
        have HH : Hid (pubB t = true) := by show pubB t = true; rw [H.out]; simp [h80, h87]
        clear H h87
        go_enter Tryz.func104, Tryz.ntmps104
        go_wp2_with fail
        refine (tOpen t ht _ HG.out).mono ?_
        rintro e w1 hp
        rw [HR.out] at hp
        obtain ⟨ad, kn, kc, rfl, hown, hb1⟩ := hp
        clear hown
        go_wp2_with fail
        go_ret
        exact ⟨by first | (rw [HH.out]; done) | (rw [HH.out]; rfl), by (repeat' (first | with_reducible exact Below.refl _ _ | with_reducible assumption | with_reducible refine below_alloc ?_ ?_ _ | with_reducible refine Below.setCell ?_ ?_ _ | with_reducible refine Below.drew ?_ | with_reducible refine below_drewN ?_ _ | with_reducible refine below_step (by assumption) ?_ ?_ | (with_reducible refine Below.trans ?_ (Below.mono (by assumption) ?_)) | exact Nat.le_refl _ | (simp; done) | (simp; omega) | omega))⟩
      · have b87 : (((s.op.toNat : Nat) : Int) == 87) = false := by simp; omega
        by_cases h76 : s.op.toNat = 76
        · have b76 : (((s.op.toNat : Nat) : Int) == 76) = true := by simp [h76]
          have HH : Hid (pubB t = true) := by show pubB t = true; rw [H.out]; simp [h80, h87, h76]
          clear H h76
          go_enter Tryz.func104, Tryz.ntmps104
          go_wp2_with fail
          refine (tOpen t ht _ HG.out).mono ?_
          rintro e w1 hp
          rw [HR.out] at hp
          obtain ⟨ad, kn, kc, rfl, hown, hb1⟩ := hp
          clear hown
          go_wp2_with fail
          go_ret
          exact ⟨by first | (rw [HH.out]; done) | (rw [HH.out]; rfl), by (repeat' (first | with_reducible exact Below.refl _ _ | with_reducible assumption | with_reducible refine below_alloc ?_ ?_ _ | with_reducible refine Below.setCell ?_ ?_ _ | with_reducible refine Below.drew ?_ | with_reducible refine below_drewN ?_ _ | with_reducible refine below_step (by assumption) ?_ ?_ | (with_reducible refine Below.trans ?_ (Below.mono (by assumption) ?_)) | exact Nat.le_refl _ | (simp; done) | (simp; omega) | omega))⟩
        · have b76 : (((s.op.toNat : Nat) : Int) == 76) = false := by simp; omega
          have HH : Hid (pubB t = false) := by show pubB t = false; rw [H.out]; simp [h80, h87, h76]
          clear H
          go_enter Tryz.func104, Tryz.ntmps104
          go_wp2_with fail
          refine (tOpen t ht _ HG.out).mono ?_
          rintro e w1 hp
          rw [HR.out] at hp
          obtain ⟨ad, kn, kc, rfl, hown, hb1⟩ := hp
          clear hown
          go_wp2_with fail
          go_ret
          exact ⟨by first | (rw [HH.out]; done) | (rw [HH.out]; rfl), by (repeat' (first | with_reducible exact Below.refl _ _ | with_reducible assumption | with_reducible refine below_alloc ?_ ?_ _ | with_reducible refine Below.setCell ?_ ?_ _ | with_reducible refine Below.drew ?_ | with_reducible refine below_drewN ?_ _ | with_reducible refine below_step (by assumption) ?_ ?_ | (with_reducible refine Below.trans ?_ (Below.mono (by assumption) ?_)) | exact Nat.le_refl _ | (simp; done) | (simp; omega) | omega))⟩

set_option maxRecDepth 100000 in
set_option maxHeartbeats 2000000 in
theorem lkHash (t : List UInt8) (ht : t.length ≤ 9000000000000000000) (w : World) (hG : GOk w) :
    Calls Tryz.prog 105 #[.string (bs t)] w fun e w' => e = .returned (.bool (hashB t)) ∧ Below w.heap.size w w' := by
  have HG := Lib.hid hG
  clear hG
  cases hr : rt t with
  | none =>
    have H : Hid (hashB t = false) := hashB_none hr
    have HR := Lib.hid hr
    clear hr
    go_enter Tryz.func105, Tryz.ntmps105
    go_wp2_with fail
    refine (tOpen t ht _ HG.out).mono ?_
    rintro e w1 hp
    rw [HR.out] at hp
    obtain ⟨rfl, hb1⟩ := hp
    go_wp2_with fail
    go_ret
    exact ⟨by first | (rw [H.out]; done) | (rw [H.out]; rfl), by (repeat' (first | with_reducible exact Below.refl _ _ | with_reducible assumption | with_reducible refine below_alloc ?_ ?_ _ | with_reducible refine Below.setCell ?_ ?_ _ | with_reducible refine Below.drew ?_ | with_reducible refine below_drewN ?_ _ | with_reducible refine below_step (by assumption) ?_ ?_ | (with_reducible refine Below.trans ?_ (Below.mono (by assumption) ?_)) | exact Nat.le_refl _ | (simp; done) | (simp; omega) | omega))⟩
  | some s =>
    have H := Lib.hid (hashB_some hr)
    have HR := Lib.hid hr
    clear hr
    by_cases h72 : s.op.toNat = 72
    · have b72 : (((s.op.toNat : Nat) : Int) == 72) = true := by simp [h72]
      have HH : Hid (hashB t = true) := by show hashB t = true; rw [H.out]; simp [h72]
      clear H h72
      go_enter Tryz.func105, Tryz.ntmps105
      go_wp2_with fail
      refine (tOpen t ht _ HG.out).mono ?_
      rintro e w1 hp
      rw [HR.out] at hp
      obtain ⟨ad, kn, kc, rfl, hown, hb1⟩ := hp
      clear hown
      go_wp2_with fail
      go_ret
      exact ⟨by first | (rw [HH.out]; done) | (rw [HH.out]; rfl), by (repeat' (first | with_reducible exact Below.refl _ _ | with_reducible assumption | with_reducible refine below_alloc ?_ ?_ _ | with_reducible refine Below.setCell ?_ ?_ _ | with_reducible refine Below.drew ?_ | with_reducible refine below_drewN ?_ _ | with_reducible refine below_step (by assumption) ?_ ?_ | (with_reducible refine Below.trans ?_ (Below.mono (by assumption) ?_)) | exact Nat.le_refl _ | (simp; done) | (simp; omega) | omega))⟩
    · have b72 : (((s.op.toNat : Nat) : Int) == 72) = false := by simp; omega
      have HH : Hid (hashB t = false) := by show hashB t = false; rw [H.out]; simp [h72]
      clear H
      go_enter Tryz.func105, Tryz.ntmps105
      go_wp2_with fail
      refine (tOpen t ht _ HG.out).mono ?_
      rintro e w1 hp
      rw [HR.out] at hp
      obtain ⟨ad, kn, kc, rfl, hown, hb1⟩ := hp
      clear hown
      go_wp2_with fail
      go_ret
      exact ⟨by first | (rw [HH.out]; done) | (rw [HH.out]; rfl), by (repeat' (first | with_reducible exact Below.refl _ _ | with_reducible assumption | with_reducible refine below_alloc ?_ ?_ _ | with_reducible refine Below.setCell ?_ ?_ _ | with_reducible refine Below.drew ?_ | with_reducible refine below_drewN ?_ _ | with_reducible refine below_step (by assumption) ?_ ?_ | (with_reducible refine Below.trans ?_ (Below.mono (by assumption) ?_)) | exact Nat.le_refl _ | (simp; done) | (simp; omega) | omega))⟩

set_option maxRecDepth 100000 in
set_option maxHeartbeats 2000000 in
theorem tVerify (p m s : List UInt8) (hs : s.length ≤ 9000000000000000000) (w : World) (hG : GOk w) :
    Calls Tryz.prog 118 #[.string (bs p), .string (bs m), .string (bs s)] w fun e w' => e = .returned (.bool (verifyT p m s)) ∧ Below w.heap.size w w' := by
  have HG := Lib.hid hG
  clear hG
  cases hr : rt s with
  | none =>
    have H : Hid (verifyT p m s = false) := by show verifyT p m s = false; unfold verifyT; rw [hr]
    have HR := Lib.hid hr
    clear hr
    go_enter Tryz.func118, Tryz.ntmps118
    go_wp2_with fail
    refine (tOpen s hs _ HG.out).mono ?_
    rintro e w1 hp
    rw [HR.out] at hp
    obtain ⟨rfl, hb1⟩ := hp
    go_wp2_with fail
    go_ret
    exact ⟨by first | (rw [H.out]; done) | (rw [H.out]; rfl), by (repeat' (first | with_reducible exact Below.refl _ _ | with_reducible assumption | with_reducible refine below_alloc ?_ ?_ _ | with_reducible refine Below.setCell ?_ ?_ _ | with_reducible refine Below.drew ?_ | with_reducible refine below_drewN ?_ _ | with_reducible refine below_step (by assumption) ?_ ?_ | (with_reducible refine Below.trans ?_ (Below.mono (by assumption) ?_)) | exact Nat.le_refl _ | (simp; done) | (simp; omega) | omega))⟩
  | some x =>
    by_cases ho : x.op.toNat = 83
    · obtain ⟨a, b, hk, ha, hb, _⟩ := rt_two_kids hr (by simp [arity, ← UInt8.toNat_inj, ho])
      have HV : Hid (verifyT p m s = (b == m && keyT a == p)) := by
        show verifyT p m s = _
        unfold verifyT
        rw [hr]
        simp [ho, hk]
      have HKS := Lib.hid hk
      have HR := Lib.hid hr
      have b1 : (((x.op.toNat : Nat) : Int) == 83) = true := by simp [ho]
      clear hr ho hk hb
      cases hbm : (b == m) with
      | false =>
        have H : Hid (verifyT p m s = false) := by show verifyT p m s = false; rw [HV.out, hbm]; rfl
        clear HV
        go_enter Tryz.func118, Tryz.ntmps118
        go_wp2_with fail
        refine (tOpen s hs _ HG.out).mono ?_
        rintro e w1 hp
        rw [HR.out] at hp
        obtain ⟨ad, kn, kc, rfl, hown, hb1⟩ := hp
        rw [HKS.out] at hown
        obtain ⟨g, cap, hv, hgb, hgw, hcap, hcap2, hcell⟩ := own_cells hown (by simp)
        injection hv with hv1 hv2 hv3
        subst hv1 hv2 hv3
        have c0 := kcell_alloc (hcell 0 (.string (bs a)) rfl) (.cells #[.int .u8 x.op.toNat, .int .i64 (numOf x), .string (bs x.text), .slice (some ⟨g, 0, none⟩) 2 kc] 194)
        have c1 := kcell_alloc (hcell 1 (.string (bs b)) rfl) (.cells #[.int .u8 x.op.toNat, .int .i64 (numOf x), .string (bs x.text), .slice (some ⟨g, 0, none⟩) 2 kc] 194)
        have HG1 := Lib.hid (gok_alloc (gok_below HG.out hb1) (.cells #[.int .u8 x.op.toNat, .int .i64 (numOf x), .string (bs x.text), .slice (some ⟨g, 0, none⟩) 2 kc] 194))
        have hb2 : Below w.heap.size w (w1.alloc (.cells #[.int .u8 x.op.toNat, .int .i64 (numOf x), .string (bs x.text), .slice (some ⟨g, 0, none⟩) 2 kc] 194)) := by (repeat' (first | with_reducible exact Below.refl _ _ | with_reducible assumption | with_reducible refine below_alloc ?_ ?_ _ | with_reducible refine Below.setCell ?_ ?_ _ | with_reducible refine Below.drew ?_ | with_reducible refine below_drewN ?_ _ | with_reducible refine below_step (by assumption) ?_ ?_ | (with_reducible refine Below.trans ?_ (Below.mono (by assumption) ?_)) | exact Nat.le_refl _ | (simp; done) | (simp; omega) | omega))
        clear hcell hown
        go_wp2_with fail
        go_ret
        exact ⟨by first | (rw [H.out]; done) | (rw [H.out]; rfl), by (repeat' (first | with_reducible exact Below.refl _ _ | with_reducible assumption | with_reducible refine below_alloc ?_ ?_ _ | with_reducible refine Below.setCell ?_ ?_ _ | with_reducible refine Below.drew ?_ | with_reducible refine below_drewN ?_ _ | with_reducible refine below_step (by assumption) ?_ ?_ | (with_reducible refine Below.trans ?_ (Below.mono (by assumption) ?_)) | exact Nat.le_refl _ | (simp; done) | (simp; omega) | omega))⟩
      | true =>
        obtain rfl : b = m := by simpa using hbm
        clear hbm
        have H : Hid (verifyT p b s = (keyT a == p)) := by show verifyT p b s = _; rw [HV.out]; simp
        clear HV
        go_enter Tryz.func118, Tryz.ntmps118
        go_wp2_with fail
        refine (tOpen s hs _ HG.out).mono ?_
        rintro e w1 hp
        rw [HR.out] at hp
        obtain ⟨ad, kn, kc, rfl, hown, hb1⟩ := hp
        rw [HKS.out] at hown
        obtain ⟨g, cap, hv, hgb, hgw, hcap, hcap2, hcell⟩ := own_cells hown (by simp)
        injection hv with hv1 hv2 hv3
        subst hv1 hv2 hv3
        have c0 := kcell_alloc (hcell 0 (.string (bs a)) rfl) (.cells #[.int .u8 x.op.toNat, .int .i64 (numOf x), .string (bs x.text), .slice (some ⟨g, 0, none⟩) 2 kc] 194)
        have c1 := kcell_alloc (hcell 1 (.string (bs b)) rfl) (.cells #[.int .u8 x.op.toNat, .int .i64 (numOf x), .string (bs x.text), .slice (some ⟨g, 0, none⟩) 2 kc] 194)
        have HG1 := Lib.hid (gok_alloc (gok_below HG.out hb1) (.cells #[.int .u8 x.op.toNat, .int .i64 (numOf x), .string (bs x.text), .slice (some ⟨g, 0, none⟩) 2 kc] 194))
        have hb2 : Below w.heap.size w (w1.alloc (.cells #[.int .u8 x.op.toNat, .int .i64 (numOf x), .string (bs x.text), .slice (some ⟨g, 0, none⟩) 2 kc] 194)) := by (repeat' (first | with_reducible exact Below.refl _ _ | with_reducible assumption | with_reducible refine below_alloc ?_ ?_ _ | with_reducible refine Below.setCell ?_ ?_ _ | with_reducible refine Below.drew ?_ | with_reducible refine below_drewN ?_ _ | with_reducible refine below_step (by assumption) ?_ ?_ | (with_reducible refine Below.trans ?_ (Below.mono (by assumption) ?_)) | exact Nat.le_refl _ | (simp; done) | (simp; omega) | omega))
        clear hcell hown
        go_wp2_with fail
        refine (tKey a ha _ HG1.out).mono ?_
        rintro e w2 ⟨rfl, hb3⟩
        go_wp2_with fail
        go_ret
        exact ⟨by rw [H.out]; first | rfl | (congr 3; rw [Bool.eq_iff_iff]; simp), by (repeat' (first | with_reducible exact Below.refl _ _ | with_reducible assumption | with_reducible refine below_alloc ?_ ?_ _ | with_reducible refine Below.setCell ?_ ?_ _ | with_reducible refine Below.drew ?_ | with_reducible refine below_drewN ?_ _ | with_reducible refine below_step (by assumption) ?_ ?_ | (with_reducible refine Below.trans ?_ (Below.mono (by assumption) ?_)) | exact Nat.le_refl _ | (simp; done) | (simp; omega) | omega))⟩
    · have H : Hid (verifyT p m s = false) := by show verifyT p m s = false; unfold verifyT; rw [hr]; simp [ho]
      have HR := Lib.hid hr
      have b1 : (((x.op.toNat : Nat) : Int) == 83) = false := by simp; omega
      clear hr ho
      go_enter Tryz.func118, Tryz.ntmps118
      go_wp2_with fail
      refine (tOpen s hs _ HG.out).mono ?_
      rintro e w1 hp
      rw [HR.out] at hp
      obtain ⟨ad, kn, kc, rfl, hown, hb1⟩ := hp
      clear hown
      go_wp2_with fail
      go_ret
      exact ⟨by first | (rw [H.out]; done) | (rw [H.out]; rfl), by (repeat' (first | with_reducible exact Below.refl _ _ | with_reducible assumption | with_reducible refine below_alloc ?_ ?_ _ | with_reducible refine Below.setCell ?_ ?_ _ | with_reducible refine Below.drew ?_ | with_reducible refine below_drewN ?_ _ | with_reducible refine below_step (by assumption) ?_ ?_ | (with_reducible refine Below.trans ?_ (Below.mono (by assumption) ?_)) | exact Nat.le_refl _ | (simp; done) | (simp; omega) | omega))⟩

set_option maxRecDepth 100000 in
set_option maxHeartbeats 4000000 in
theorem lkPartsLow (k n : Int) (t : List UInt8) (ht : t.length ≤ 9000000000000000000) (ad : Option Addr) (m c : Nat) (room : Int) (hr0 : -1000 ≤ room) (hr1 : room ≤ 1000) (h : decide (room - 1 < 0) = true) (w : World) (hG : GOk w) :
    Calls Tryz.prog 74 #[.agg #[.int .u8 k, .string (bs t), .int .i64 n, .slice ad m c], .int .i64 room] w fun e w' => e = .returned (.int .i64 (-1)) ∧ Below w.heap.size w w' := by
  have HG := Lib.hid hG
  clear hG
  go_enter Tryz.func74, Tryz.ntmps74
  go_wp2
  go_ret
  exact ⟨by first | rfl | (congr; omega), by (repeat' (first | with_reducible exact Below.refl _ _ | with_reducible assumption | with_reducible refine below_alloc ?_ ?_ _ | with_reducible refine Below.setCell ?_ ?_ _ | with_reducible refine Below.drew ?_ | with_reducible refine below_drewN ?_ _ | with_reducible refine below_step (by assumption) ?_ ?_ | (with_reducible refine Below.trans ?_ (Below.mono (by assumption) ?_)) | exact Nat.le_refl _ | (simp; done) | (simp; omega) | omega))⟩

set_option maxRecDepth 100000 in
set_option maxHeartbeats 4000000 in
theorem lkParts1n (n : Int) (t : List UInt8) (ht : t.length ≤ 9000000000000000000) (ad : Option Addr) (m c : Nat) (room : Int) (hr0 : -1000 ≤ room) (hr1 : room ≤ 1000) (h : decide (room - 1 < 0) = false) (ht0 : (t == []) = false) (h1 : (n == 0) = false) (w : World) (hG : GOk w) :
    Calls Tryz.prog 74 #[.agg #[.int .u8 1, .string (bs t), .int .i64 n, .slice ad m c], .int .i64 room] w fun e w' => e = .returned (.int .i64 (-1)) ∧ Below w.heap.size w w' := by
  have HG := Lib.hid hG
  clear hG
  go_enter Tryz.func74, Tryz.ntmps74
  go_wp2
  go_ret
  exact ⟨by first | rfl | (congr; omega), by (repeat' (first | with_reducible exact Below.refl _ _ | with_reducible assumption | with_reducible refine below_alloc ?_ ?_ _ | with_reducible refine Below.setCell ?_ ?_ _ | with_reducible refine Below.drew ?_ | with_reducible refine below_drewN ?_ _ | with_reducible refine below_step (by assumption) ?_ ?_ | (with_reducible refine Below.trans ?_ (Below.mono (by assumption) ?_)) | exact Nat.le_refl _ | (simp; done) | (simp; omega) | omega))⟩

set_option maxRecDepth 100000 in
set_option maxHeartbeats 4000000 in
theorem lkParts1m  (t : List UInt8) (ht : t.length ≤ 9000000000000000000) (ad : Option Addr) (m c : Nat) (room : Int) (hr0 : -1000 ≤ room) (hr1 : room ≤ 1000) (h : decide (room - 1 < 0) = false) (ht0 : (t == []) = false) (h1 : ((m : Int) == 0) = false) (w : World) (hG : GOk w) :
    Calls Tryz.prog 74 #[.agg #[.int .u8 1, .string (bs t), .int .i64 0, .slice ad m c], .int .i64 room] w fun e w' => e = .returned (.int .i64 (-1)) ∧ Below w.heap.size w w' := by
  have HG := Lib.hid hG
  clear hG
  go_enter Tryz.func74, Tryz.ntmps74
  go_wp2
  go_ret
  exact ⟨by first | rfl | (congr; omega), by (repeat' (first | with_reducible exact Below.refl _ _ | with_reducible assumption | with_reducible refine below_alloc ?_ ?_ _ | with_reducible refine Below.setCell ?_ ?_ _ | with_reducible refine Below.drew ?_ | with_reducible refine below_drewN ?_ _ | with_reducible refine below_step (by assumption) ?_ ?_ | (with_reducible refine Below.trans ?_ (Below.mono (by assumption) ?_)) | exact Nat.le_refl _ | (simp; done) | (simp; omega) | omega))⟩

set_option maxRecDepth 100000 in
set_option maxHeartbeats 4000000 in
theorem lkParts1p  (t : List UInt8) (ht : t.length ≤ 9000000000000000000) (ad : Option Addr) (m c : Nat) (room : Int) (hr0 : -1000 ≤ room) (hr1 : room ≤ 1000) (h : decide (room - 1 < 0) = false) (ht0 : (t == []) = false) (hp : pubB t = false) (w : World) (hG : GOk w) :
    Calls Tryz.prog 74 #[.agg #[.int .u8 1, .string (bs t), .int .i64 0, .slice ad 0 c], .int .i64 room] w fun e w' => e = .returned (.int .i64 (-1)) ∧ Below w.heap.size w w' := by
  have HG := Lib.hid hG
  clear hG
  go_enter Tryz.func74, Tryz.ntmps74
  go_wp2_with (go_at_call 104; refine (lkPublic t (by first | exact ht | simp) _ (gok_alloc HG.out _)).mono ?_; rintro e w1 ⟨rfl, hb1⟩; rw [hp])
  go_ret
  exact ⟨by first | rfl | (congr; omega), by (repeat' (first | with_reducible exact Below.refl _ _ | with_reducible assumption | with_reducible refine below_alloc ?_ ?_ _ | with_reducible refine Below.setCell ?_ ?_ _ | with_reducible refine Below.drew ?_ | with_reducible refine below_drewN ?_ _ | with_reducible refine below_step (by assumption) ?_ ?_ | (with_reducible refine Below.trans ?_ (Below.mono (by assumption) ?_)) | exact Nat.le_refl _ | (simp; done) | (simp; omega) | omega))⟩

set_option maxRecDepth 100000 in
set_option maxHeartbeats 4000000 in
theorem lkParts1ne (n : Int) (t : List UInt8) (ht : t.length ≤ 9000000000000000000) (ad : Option Addr) (m c : Nat) (room : Int) (hr0 : -1000 ≤ room) (hr1 : room ≤ 1000) (h : decide (room - 1 < 0) = false) (h1 : (n == 0) = false) (w : World) (hG : GOk w) :
    Calls Tryz.prog 74 #[.agg #[.int .u8 1, .string (bs []), .int .i64 n, .slice ad m c], .int .i64 room] w fun e w' => e = .returned (.int .i64 (-1)) ∧ Below w.heap.size w w' := by
  have HG := Lib.hid hG
  clear hG
  go_enter Tryz.func74, Tryz.ntmps74
  go_wp2
  go_ret
  exact ⟨by first | rfl | (congr; omega), by (repeat' (first | with_reducible exact Below.refl _ _ | with_reducible assumption | with_reducible refine below_alloc ?_ ?_ _ | with_reducible refine Below.setCell ?_ ?_ _ | with_reducible refine Below.drew ?_ | with_reducible refine below_drewN ?_ _ | with_reducible refine below_step (by assumption) ?_ ?_ | (with_reducible refine Below.trans ?_ (Below.mono (by assumption) ?_)) | exact Nat.le_refl _ | (simp; done) | (simp; omega) | omega))⟩

set_option maxRecDepth 100000 in
set_option maxHeartbeats 4000000 in
theorem lkParts1me  (t : List UInt8) (ht : t.length ≤ 9000000000000000000) (ad : Option Addr) (m c : Nat) (room : Int) (hr0 : -1000 ≤ room) (hr1 : room ≤ 1000) (h : decide (room - 1 < 0) = false) (h1 : ((m : Int) == 0) = false) (w : World) (hG : GOk w) :
    Calls Tryz.prog 74 #[.agg #[.int .u8 1, .string (bs []), .int .i64 0, .slice ad m c], .int .i64 room] w fun e w' => e = .returned (.int .i64 (-1)) ∧ Below w.heap.size w w' := by
  have HG := Lib.hid hG
  clear hG
  go_enter Tryz.func74, Tryz.ntmps74
  go_wp2
  go_ret
  exact ⟨by first | rfl | (congr; omega), by (repeat' (first | with_reducible exact Below.refl _ _ | with_reducible assumption | with_reducible refine below_alloc ?_ ?_ _ | with_reducible refine Below.setCell ?_ ?_ _ | with_reducible refine Below.drew ?_ | with_reducible refine below_drewN ?_ _ | with_reducible refine below_step (by assumption) ?_ ?_ | (with_reducible refine Below.trans ?_ (Below.mono (by assumption) ?_)) | exact Nat.le_refl _ | (simp; done) | (simp; omega) | omega))⟩

set_option maxRecDepth 100000 in
set_option maxHeartbeats 4000000 in
theorem lkParts1pe  (t : List UInt8) (ht : t.length ≤ 9000000000000000000) (ad : Option Addr) (m c : Nat) (room : Int) (hr0 : -1000 ≤ room) (hr1 : room ≤ 1000) (h : decide (room - 1 < 0) = false) (hp : pubB [] = false) (w : World) (hG : GOk w) :
    Calls Tryz.prog 74 #[.agg #[.int .u8 1, .string (bs []), .int .i64 0, .slice ad 0 c], .int .i64 room] w fun e w' => e = .returned (.int .i64 (-1)) ∧ Below w.heap.size w w' := by
  have HG := Lib.hid hG
  clear hG
  go_enter Tryz.func74, Tryz.ntmps74
  go_wp2_with (go_at_call 104; refine (lkPublic [] (by first | exact ht | simp) _ (gok_alloc HG.out _)).mono ?_; rintro e w1 ⟨rfl, hb1⟩; rw [hp])
  go_ret
  exact ⟨by first | rfl | (congr; omega), by (repeat' (first | with_reducible exact Below.refl _ _ | with_reducible assumption | with_reducible refine below_alloc ?_ ?_ _ | with_reducible refine Below.setCell ?_ ?_ _ | with_reducible refine Below.drew ?_ | with_reducible refine below_drewN ?_ _ | with_reducible refine below_step (by assumption) ?_ ?_ | (with_reducible refine Below.trans ?_ (Below.mono (by assumption) ?_)) | exact Nat.le_refl _ | (simp; done) | (simp; omega) | omega))⟩

set_option maxRecDepth 100000 in
set_option maxHeartbeats 4000000 in
theorem lkParts1y  (t : List UInt8) (ht : t.length ≤ 9000000000000000000) (ad : Option Addr) (m c : Nat) (room : Int) (hr0 : -1000 ≤ room) (hr1 : room ≤ 1000) (h : decide (room - 1 < 0) = false) (ht0 : (t == []) = false) (hp : pubB t = true) (w : World) (hG : GOk w) :
    Calls Tryz.prog 74 #[.agg #[.int .u8 1, .string (bs t), .int .i64 0, .slice ad 0 c], .int .i64 room] w fun e w' => e = .returned (.int .i64 (room - 1)) ∧ Below w.heap.size w w' := by
  have HG := Lib.hid hG
  clear hG
  go_enter Tryz.func74, Tryz.ntmps74
  go_wp2_with (go_at_call 104; refine (lkPublic t ht _ (gok_alloc HG.out _)).mono ?_; rintro e w1 ⟨rfl, hb1⟩; rw [hp]; have hq := blk_below (blk_new w _) hb1 (by simp); have f0 := blk_cell hq; have f1 := blk_free hq; clear hq)
  go_loopw [1, 8, 98] (fun rv _ iv wr => rv = .int .i64 (room - 1) ∧ iv = .int .i64 0 ∧ Hid (Below w.heap.size w wr)) (fun _ _ _ _ => 0)
  case atStart => exact ⟨by first | rfl | (congr; omega), rfl, by show Below _ _ _; (repeat' (first | with_reducible exact Below.refl _ _ | with_reducible assumption | with_reducible refine below_alloc ?_ ?_ _ | with_reducible refine Below.setCell ?_ ?_ _ | with_reducible refine Below.drew ?_ | with_reducible refine below_drewN ?_ _ | with_reducible refine below_step (by assumption) ?_ ?_ | (with_reducible refine Below.trans ?_ (Below.mono (by assumption) ?_)) | exact Nat.le_refl _ | (simp; done) | (simp; omega) | omega))⟩
  case round =>
    obtain ⟨rfl, rfl, hbr⟩ := hrel
    go_wp2
    go_ret
    exact ⟨rfl, hbr.out⟩

set_option maxRecDepth 100000 in
set_option maxHeartbeats 4000000 in
theorem lkParts2n (n : Int) (t : List UInt8) (ht : t.length ≤ 9000000000000000000) (ad : Option Addr) (m c : Nat) (room : Int) (hr0 : -1000 ≤ room) (hr1 : room ≤ 1000) (h : decide (room - 1 < 0) = false) (ht0 : (t == []) = false) (h1 : (n == 0) = false) (w : World) (hG : GOk w) :
    Calls Tryz.prog 74 #[.agg #[.int .u8 2, .string (bs t), .int .i64 n, .slice ad m c], .int .i64 room] w fun e w' => e = .returned (.int .i64 (-1)) ∧ Below w.heap.size w w' := by
  have HG := Lib.hid hG
  clear hG
  go_enter Tryz.func74, Tryz.ntmps74
  go_wp2
  go_ret
  exact ⟨by first | rfl | (congr; omega), by (repeat' (first | with_reducible exact Below.refl _ _ | with_reducible assumption | with_reducible refine below_alloc ?_ ?_ _ | with_reducible refine Below.setCell ?_ ?_ _ | with_reducible refine Below.drew ?_ | with_reducible refine below_drewN ?_ _ | with_reducible refine below_step (by assumption) ?_ ?_ | (with_reducible refine Below.trans ?_ (Below.mono (by assumption) ?_)) | exact Nat.le_refl _ | (simp; done) | (simp; omega) | omega))⟩

set_option maxRecDepth 100000 in
set_option maxHeartbeats 4000000 in
theorem lkParts2m  (t : List UInt8) (ht : t.length ≤ 9000000000000000000) (ad : Option Addr) (m c : Nat) (room : Int) (hr0 : -1000 ≤ room) (hr1 : room ≤ 1000) (h : decide (room - 1 < 0) = false) (ht0 : (t == []) = false) (h1 : ((m : Int) == 0) = false) (w : World) (hG : GOk w) :
    Calls Tryz.prog 74 #[.agg #[.int .u8 2, .string (bs t), .int .i64 0, .slice ad m c], .int .i64 room] w fun e w' => e = .returned (.int .i64 (-1)) ∧ Below w.heap.size w w' := by
  have HG := Lib.hid hG
  clear hG
  go_enter Tryz.func74, Tryz.ntmps74
  go_wp2
  go_ret
  exact ⟨by first | rfl | (congr; omega), by (repeat' (first | with_reducible exact Below.refl _ _ | with_reducible assumption | with_reducible refine below_alloc ?_ ?_ _ | with_reducible refine Below.setCell ?_ ?_ _ | with_reducible refine Below.drew ?_ | with_reducible refine below_drewN ?_ _ | with_reducible refine below_step (by assumption) ?_ ?_ | (with_reducible refine Below.trans ?_ (Below.mono (by assumption) ?_)) | exact Nat.le_refl _ | (simp; done) | (simp; omega) | omega))⟩

set_option maxRecDepth 100000 in
set_option maxHeartbeats 4000000 in
theorem lkParts2p  (t : List UInt8) (ht : t.length ≤ 9000000000000000000) (ad : Option Addr) (m c : Nat) (room : Int) (hr0 : -1000 ≤ room) (hr1 : room ≤ 1000) (h : decide (room - 1 < 0) = false) (ht0 : (t == []) = false) (hp : hashB t = false) (w : World) (hG : GOk w) :
    Calls Tryz.prog 74 #[.agg #[.int .u8 2, .string (bs t), .int .i64 0, .slice ad 0 c], .int .i64 room] w fun e w' => e = .returned (.int .i64 (-1)) ∧ Below w.heap.size w w' := by
  have HG := Lib.hid hG
  clear hG
  go_enter Tryz.func74, Tryz.ntmps74
  go_wp2_with (go_at_call 105; refine (lkHash t (by first | exact ht | simp) _ (gok_alloc HG.out _)).mono ?_; rintro e w1 ⟨rfl, hb1⟩; rw [hp])
  go_ret
  exact ⟨by first | rfl | (congr; omega), by (repeat' (first | with_reducible exact Below.refl _ _ | with_reducible assumption | with_reducible refine below_alloc ?_ ?_ _ | with_reducible refine Below.setCell ?_ ?_ _ | with_reducible refine Below.drew ?_ | with_reducible refine below_drewN ?_ _ | with_reducible refine below_step (by assumption) ?_ ?_ | (with_reducible refine Below.trans ?_ (Below.mono (by assumption) ?_)) | exact Nat.le_refl _ | (simp; done) | (simp; omega) | omega))⟩

set_option maxRecDepth 100000 in
set_option maxHeartbeats 4000000 in
theorem lkParts2ne (n : Int) (t : List UInt8) (ht : t.length ≤ 9000000000000000000) (ad : Option Addr) (m c : Nat) (room : Int) (hr0 : -1000 ≤ room) (hr1 : room ≤ 1000) (h : decide (room - 1 < 0) = false) (h1 : (n == 0) = false) (w : World) (hG : GOk w) :
    Calls Tryz.prog 74 #[.agg #[.int .u8 2, .string (bs []), .int .i64 n, .slice ad m c], .int .i64 room] w fun e w' => e = .returned (.int .i64 (-1)) ∧ Below w.heap.size w w' := by
  have HG := Lib.hid hG
  clear hG
  go_enter Tryz.func74, Tryz.ntmps74
  go_wp2
  go_ret
  exact ⟨by first | rfl | (congr; omega), by (repeat' (first | with_reducible exact Below.refl _ _ | with_reducible assumption | with_reducible refine below_alloc ?_ ?_ _ | with_reducible refine Below.setCell ?_ ?_ _ | with_reducible refine Below.drew ?_ | with_reducible refine below_drewN ?_ _ | with_reducible refine below_step (by assumption) ?_ ?_ | (with_reducible refine Below.trans ?_ (Below.mono (by assumption) ?_)) | exact Nat.le_refl _ | (simp; done) | (simp; omega) | omega))⟩

set_option maxRecDepth 100000 in
set_option maxHeartbeats 4000000 in
theorem lkParts2me  (t : List UInt8) (ht : t.length ≤ 9000000000000000000) (ad : Option Addr) (m c : Nat) (room : Int) (hr0 : -1000 ≤ room) (hr1 : room ≤ 1000) (h : decide (room - 1 < 0) = false) (h1 : ((m : Int) == 0) = false) (w : World) (hG : GOk w) :
    Calls Tryz.prog 74 #[.agg #[.int .u8 2, .string (bs []), .int .i64 0, .slice ad m c], .int .i64 room] w fun e w' => e = .returned (.int .i64 (-1)) ∧ Below w.heap.size w w' := by
  have HG := Lib.hid hG
  clear hG
  go_enter Tryz.func74, Tryz.ntmps74
  go_wp2
  go_ret
  exact ⟨by first | rfl | (congr; omega), by (repeat' (first | with_reducible exact Below.refl _ _ | with_reducible assumption | with_reducible refine below_alloc ?_ ?_ _ | with_reducible refine Below.setCell ?_ ?_ _ | with_reducible refine Below.drew ?_ | with_reducible refine below_drewN ?_ _ | with_reducible refine below_step (by assumption) ?_ ?_ | (with_reducible refine Below.trans ?_ (Below.mono (by assumption) ?_)) | exact Nat.le_refl _ | (simp; done) | (simp; omega) | omega))⟩

set_option maxRecDepth 100000 in
set_option maxHeartbeats 4000000 in
theorem lkParts2pe  (t : List UInt8) (ht : t.length ≤ 9000000000000000000) (ad : Option Addr) (m c : Nat) (room : Int) (hr0 : -1000 ≤ room) (hr1 : room ≤ 1000) (h : decide (room - 1 < 0) = false) (hp : hashB [] = false) (w : World) (hG : GOk w) :
    Calls Tryz.prog 74 #[.agg #[.int .u8 2, .string (bs []), .int .i64 0, .slice ad 0 c], .int .i64 room] w fun e w' => e = .returned (.int .i64 (-1)) ∧ Below w.heap.size w w' := by
  have HG := Lib.hid hG
  clear hG
  go_enter Tryz.func74, Tryz.ntmps74
  go_wp2_with (go_at_call 105; refine (lkHash [] (by first | exact ht | simp) _ (gok_alloc HG.out _)).mono ?_; rintro e w1 ⟨rfl, hb1⟩; rw [hp])
  go_ret
  exact ⟨by first | rfl | (congr; omega), by (repeat' (first | with_reducible exact Below.refl _ _ | with_reducible assumption | with_reducible refine below_alloc ?_ ?_ _ | with_reducible refine Below.setCell ?_ ?_ _ | with_reducible refine Below.drew ?_ | with_reducible refine below_drewN ?_ _ | with_reducible refine below_step (by assumption) ?_ ?_ | (with_reducible refine Below.trans ?_ (Below.mono (by assumption) ?_)) | exact Nat.le_refl _ | (simp; done) | (simp; omega) | omega))⟩

set_option maxRecDepth 100000 in
set_option maxHeartbeats 4000000 in
theorem lkParts2y  (t : List UInt8) (ht : t.length ≤ 9000000000000000000) (ad : Option Addr) (m c : Nat) (room : Int) (hr0 : -1000 ≤ room) (hr1 : room ≤ 1000) (h : decide (room - 1 < 0) = false) (ht0 : (t == []) = false) (hp : hashB t = true) (w : World) (hG : GOk w) :
    Calls Tryz.prog 74 #[.agg #[.int .u8 2, .string (bs t), .int .i64 0, .slice ad 0 c], .int .i64 room] w fun e w' => e = .returned (.int .i64 (room - 1)) ∧ Below w.heap.size w w' := by
  have HG := Lib.hid hG
  clear hG
  go_enter Tryz.func74, Tryz.ntmps74
  go_wp2_with (go_at_call 105; refine (lkHash t ht _ (gok_alloc HG.out _)).mono ?_; rintro e w1 ⟨rfl, hb1⟩; rw [hp]; have hq := blk_below (blk_new w _) hb1 (by simp); have f0 := blk_cell hq; have f1 := blk_free hq; clear hq)
  go_loopw [1, 8, 98] (fun rv _ iv wr => rv = .int .i64 (room - 1) ∧ iv = .int .i64 0 ∧ Hid (Below w.heap.size w wr)) (fun _ _ _ _ => 0)
  case atStart => exact ⟨by first | rfl | (congr; omega), rfl, by show Below _ _ _; (repeat' (first | with_reducible exact Below.refl _ _ | with_reducible assumption | with_reducible refine below_alloc ?_ ?_ _ | with_reducible refine Below.setCell ?_ ?_ _ | with_reducible refine Below.drew ?_ | with_reducible refine below_drewN ?_ _ | with_reducible refine below_step (by assumption) ?_ ?_ | (with_reducible refine Below.trans ?_ (Below.mono (by assumption) ?_)) | exact Nat.le_refl _ | (simp; done) | (simp; omega) | omega))⟩
  case round =>
    obtain ⟨rfl, rfl, hbr⟩ := hrel
    go_wp2
    go_ret
    exact ⟨rfl, hbr.out⟩

set_option maxRecDepth 100000 in
set_option maxHeartbeats 4000000 in
theorem lkParts3t (n : Int) (t : List UInt8) (ht : t.length ≤ 9000000000000000000) (ad : Option Addr) (m c : Nat) (room : Int) (hr0 : -1000 ≤ room) (hr1 : room ≤ 1000) (h : decide (room - 1 < 0) = false) (h1 : (t == []) = false) (w : World) (hG : GOk w) :
    Calls Tryz.prog 74 #[.agg #[.int .u8 3, .string (bs t), .int .i64 n, .slice ad m c], .int .i64 room] w fun e w' => e = .returned (.int .i64 (-1)) ∧ Below w.heap.size w w' := by
  have HG := Lib.hid hG
  clear hG
  go_enter Tryz.func74, Tryz.ntmps74
  go_wp2
  go_ret
  exact ⟨by first | rfl | (congr; omega), by (repeat' (first | with_reducible exact Below.refl _ _ | with_reducible assumption | with_reducible refine below_alloc ?_ ?_ _ | with_reducible refine Below.setCell ?_ ?_ _ | with_reducible refine Below.drew ?_ | with_reducible refine below_drewN ?_ _ | with_reducible refine below_step (by assumption) ?_ ?_ | (with_reducible refine Below.trans ?_ (Below.mono (by assumption) ?_)) | exact Nat.le_refl _ | (simp; done) | (simp; omega) | omega))⟩

set_option maxRecDepth 100000 in
set_option maxHeartbeats 4000000 in
theorem lkParts3m (n : Int) (t : List UInt8) (ht : t.length ≤ 9000000000000000000) (ad : Option Addr) (m c : Nat) (room : Int) (hr0 : -1000 ≤ room) (hr1 : room ≤ 1000) (h : decide (room - 1 < 0) = false) (h1 : ((m : Int) == 0) = false) (w : World) (hG : GOk w) :
    Calls Tryz.prog 74 #[.agg #[.int .u8 3, .string (bs []), .int .i64 n, .slice ad m c], .int .i64 room] w fun e w' => e = .returned (.int .i64 (-1)) ∧ Below w.heap.size w w' := by
  have HG := Lib.hid hG
  clear hG
  go_enter Tryz.func74, Tryz.ntmps74
  go_wp2
  go_ret
  exact ⟨by first | rfl | (congr; omega), by (repeat' (first | with_reducible exact Below.refl _ _ | with_reducible assumption | with_reducible refine below_alloc ?_ ?_ _ | with_reducible refine Below.setCell ?_ ?_ _ | with_reducible refine Below.drew ?_ | with_reducible refine below_drewN ?_ _ | with_reducible refine below_step (by assumption) ?_ ?_ | (with_reducible refine Below.trans ?_ (Below.mono (by assumption) ?_)) | exact Nat.le_refl _ | (simp; done) | (simp; omega) | omega))⟩

set_option maxRecDepth 100000 in
set_option maxHeartbeats 4000000 in
theorem lkParts3l (n : Int) (t : List UInt8) (ht : t.length ≤ 9000000000000000000) (ad : Option Addr) (m c : Nat) (room : Int) (hr0 : -1000 ≤ room) (hr1 : room ≤ 1000) (h : decide (room - 1 < 0) = false) (h1 : decide (0 ≤ n) = false) (w : World) (hG : GOk w) :
    Calls Tryz.prog 74 #[.agg #[.int .u8 3, .string (bs []), .int .i64 n, .slice ad 0 c], .int .i64 room] w fun e w' => e = .returned (.int .i64 (-1)) ∧ Below w.heap.size w w' := by
  have HG := Lib.hid hG
  clear hG
  go_enter Tryz.func74, Tryz.ntmps74
  go_wp2
  go_ret
  exact ⟨by first | rfl | (congr; omega), by (repeat' (first | with_reducible exact Below.refl _ _ | with_reducible assumption | with_reducible refine below_alloc ?_ ?_ _ | with_reducible refine Below.setCell ?_ ?_ _ | with_reducible refine Below.drew ?_ | with_reducible refine below_drewN ?_ _ | with_reducible refine below_step (by assumption) ?_ ?_ | (with_reducible refine Below.trans ?_ (Below.mono (by assumption) ?_)) | exact Nat.le_refl _ | (simp; done) | (simp; omega) | omega))⟩

set_option maxRecDepth 100000 in
set_option maxHeartbeats 4000000 in
theorem lkParts3h (n : Int) (t : List UInt8) (ht : t.length ≤ 9000000000000000000) (ad : Option Addr) (m c : Nat) (room : Int) (hr0 : -1000 ≤ room) (hr1 : room ≤ 1000) (h : decide (room - 1 < 0) = false) (h1 : 0 ≤ n) (h2 : decide (n < 1073741824) = false) (w : World) (hG : GOk w) :
    Calls Tryz.prog 74 #[.agg #[.int .u8 3, .string (bs []), .int .i64 n, .slice ad 0 c], .int .i64 room] w fun e w' => e = .returned (.int .i64 (-1)) ∧ Below w.heap.size w w' := by
  have HG := Lib.hid hG
  clear hG
  go_enter Tryz.func74, Tryz.ntmps74
  go_wp2
  go_ret
  exact ⟨by first | rfl | (congr; omega), by (repeat' (first | with_reducible exact Below.refl _ _ | with_reducible assumption | with_reducible refine below_alloc ?_ ?_ _ | with_reducible refine Below.setCell ?_ ?_ _ | with_reducible refine Below.drew ?_ | with_reducible refine below_drewN ?_ _ | with_reducible refine below_step (by assumption) ?_ ?_ | (with_reducible refine Below.trans ?_ (Below.mono (by assumption) ?_)) | exact Nat.le_refl _ | (simp; done) | (simp; omega) | omega))⟩

set_option maxRecDepth 100000 in
set_option maxHeartbeats 4000000 in
theorem lkParts3y (n : Int) (t : List UInt8) (ht : t.length ≤ 9000000000000000000) (ad : Option Addr) (m c : Nat) (room : Int) (hr0 : -1000 ≤ room) (hr1 : room ≤ 1000) (h : decide (room - 1 < 0) = false) (h1 : 0 ≤ n) (h2 : n < 1073741824) (w : World) (hG : GOk w) :
    Calls Tryz.prog 74 #[.agg #[.int .u8 3, .string (bs []), .int .i64 n, .slice ad 0 c], .int .i64 room] w fun e w' => e = .returned (.int .i64 (room - 1)) ∧ Below w.heap.size w w' := by
  have HG := Lib.hid hG
  clear hG
  go_enter Tryz.func74, Tryz.ntmps74
  go_wp2
  go_loopw [1, 8, 98] (fun rv _ iv wr => rv = .int .i64 (room - 1) ∧ iv = .int .i64 0 ∧ Hid (Below w.heap.size w wr)) (fun _ _ _ _ => 0)
  case atStart => exact ⟨by first | rfl | (congr; omega), rfl, by show Below _ _ _; (repeat' (first | with_reducible exact Below.refl _ _ | with_reducible assumption | with_reducible refine below_alloc ?_ ?_ _ | with_reducible refine Below.setCell ?_ ?_ _ | with_reducible refine Below.drew ?_ | with_reducible refine below_drewN ?_ _ | with_reducible refine below_step (by assumption) ?_ ?_ | (with_reducible refine Below.trans ?_ (Below.mono (by assumption) ?_)) | exact Nat.le_refl _ | (simp; done) | (simp; omega) | omega))⟩
  case round =>
    obtain ⟨rfl, rfl, hbr⟩ := hrel
    go_wp2
    go_ret
    exact ⟨rfl, hbr.out⟩

set_option maxRecDepth 100000 in
set_option maxHeartbeats 4000000 in
theorem lkParts4t (n : Int) (t : List UInt8) (ht : t.length ≤ 9000000000000000000) (ad : Option Addr) (m c : Nat) (room : Int) (hr0 : -1000 ≤ room) (hr1 : room ≤ 1000) (h : decide (room - 1 < 0) = false) (h1 : (t == []) = false) (w : World) (hG : GOk w) :
    Calls Tryz.prog 74 #[.agg #[.int .u8 4, .string (bs t), .int .i64 n, .slice ad m c], .int .i64 room] w fun e w' => e = .returned (.int .i64 (-1)) ∧ Below w.heap.size w w' := by
  have HG := Lib.hid hG
  clear hG
  go_enter Tryz.func74, Tryz.ntmps74
  go_wp2
  go_ret
  exact ⟨by first | rfl | (congr; omega), by (repeat' (first | with_reducible exact Below.refl _ _ | with_reducible assumption | with_reducible refine below_alloc ?_ ?_ _ | with_reducible refine Below.setCell ?_ ?_ _ | with_reducible refine Below.drew ?_ | with_reducible refine below_drewN ?_ _ | with_reducible refine below_step (by assumption) ?_ ?_ | (with_reducible refine Below.trans ?_ (Below.mono (by assumption) ?_)) | exact Nat.le_refl _ | (simp; done) | (simp; omega) | omega))⟩

set_option maxRecDepth 100000 in
set_option maxHeartbeats 4000000 in
theorem lkParts4m (n : Int) (t : List UInt8) (ht : t.length ≤ 9000000000000000000) (ad : Option Addr) (m c : Nat) (room : Int) (hr0 : -1000 ≤ room) (hr1 : room ≤ 1000) (h : decide (room - 1 < 0) = false) (h1 : ((m : Int) == 0) = false) (w : World) (hG : GOk w) :
    Calls Tryz.prog 74 #[.agg #[.int .u8 4, .string (bs []), .int .i64 n, .slice ad m c], .int .i64 room] w fun e w' => e = .returned (.int .i64 (-1)) ∧ Below w.heap.size w w' := by
  have HG := Lib.hid hG
  clear hG
  go_enter Tryz.func74, Tryz.ntmps74
  go_wp2
  go_ret
  exact ⟨by first | rfl | (congr; omega), by (repeat' (first | with_reducible exact Below.refl _ _ | with_reducible assumption | with_reducible refine below_alloc ?_ ?_ _ | with_reducible refine Below.setCell ?_ ?_ _ | with_reducible refine Below.drew ?_ | with_reducible refine below_drewN ?_ _ | with_reducible refine below_step (by assumption) ?_ ?_ | (with_reducible refine Below.trans ?_ (Below.mono (by assumption) ?_)) | exact Nat.le_refl _ | (simp; done) | (simp; omega) | omega))⟩

set_option maxRecDepth 100000 in
set_option maxHeartbeats 4000000 in
theorem lkParts4l (n : Int) (t : List UInt8) (ht : t.length ≤ 9000000000000000000) (ad : Option Addr) (m c : Nat) (room : Int) (hr0 : -1000 ≤ room) (hr1 : room ≤ 1000) (h : decide (room - 1 < 0) = false) (h1 : decide (0 ≤ n) = false) (w : World) (hG : GOk w) :
    Calls Tryz.prog 74 #[.agg #[.int .u8 4, .string (bs []), .int .i64 n, .slice ad 0 c], .int .i64 room] w fun e w' => e = .returned (.int .i64 (-1)) ∧ Below w.heap.size w w' := by
  have HG := Lib.hid hG
  clear hG
  go_enter Tryz.func74, Tryz.ntmps74
  go_wp2
  go_ret
  exact ⟨by first | rfl | (congr; omega), by (repeat' (first | with_reducible exact Below.refl _ _ | with_reducible assumption | with_reducible refine below_alloc ?_ ?_ _ | with_reducible refine Below.setCell ?_ ?_ _ | with_reducible refine Below.drew ?_ | with_reducible refine below_drewN ?_ _ | with_reducible refine below_step (by assumption) ?_ ?_ | (with_reducible refine Below.trans ?_ (Below.mono (by assumption) ?_)) | exact Nat.le_refl _ | (simp; done) | (simp; omega) | omega))⟩

set_option maxRecDepth 100000 in
set_option maxHeartbeats 4000000 in
theorem lkParts4h (n : Int) (t : List UInt8) (ht : t.length ≤ 9000000000000000000) (ad : Option Addr) (m c : Nat) (room : Int) (hr0 : -1000 ≤ room) (hr1 : room ≤ 1000) (h : decide (room - 1 < 0) = false) (h1 : 0 ≤ n) (h2 : decide (n < 1073741824) = false) (w : World) (hG : GOk w) :
    Calls Tryz.prog 74 #[.agg #[.int .u8 4, .string (bs []), .int .i64 n, .slice ad 0 c], .int .i64 room] w fun e w' => e = .returned (.int .i64 (-1)) ∧ Below w.heap.size w w' := by
  have HG := Lib.hid hG
  clear hG
  go_enter Tryz.func74, Tryz.ntmps74
  go_wp2
  go_ret
  exact ⟨by first | rfl | (congr; omega), by (repeat' (first | with_reducible exact Below.refl _ _ | with_reducible assumption | with_reducible refine below_alloc ?_ ?_ _ | with_reducible refine Below.setCell ?_ ?_ _ | with_reducible refine Below.drew ?_ | with_reducible refine below_drewN ?_ _ | with_reducible refine below_step (by assumption) ?_ ?_ | (with_reducible refine Below.trans ?_ (Below.mono (by assumption) ?_)) | exact Nat.le_refl _ | (simp; done) | (simp; omega) | omega))⟩

set_option maxRecDepth 100000 in
set_option maxHeartbeats 4000000 in
theorem lkParts4y (n : Int) (t : List UInt8) (ht : t.length ≤ 9000000000000000000) (ad : Option Addr) (m c : Nat) (room : Int) (hr0 : -1000 ≤ room) (hr1 : room ≤ 1000) (h : decide (room - 1 < 0) = false) (h1 : 0 ≤ n) (h2 : n < 1073741824) (w : World) (hG : GOk w) :
    Calls Tryz.prog 74 #[.agg #[.int .u8 4, .string (bs []), .int .i64 n, .slice ad 0 c], .int .i64 room] w fun e w' => e = .returned (.int .i64 (room - 1)) ∧ Below w.heap.size w w' := by
  have HG := Lib.hid hG
  clear hG
  go_enter Tryz.func74, Tryz.ntmps74
  go_wp2
  go_loopw [1, 8, 98] (fun rv _ iv wr => rv = .int .i64 (room - 1) ∧ iv = .int .i64 0 ∧ Hid (Below w.heap.size w wr)) (fun _ _ _ _ => 0)
  case atStart => exact ⟨by first | rfl | (congr; omega), rfl, by show Below _ _ _; (repeat' (first | with_reducible exact Below.refl _ _ | with_reducible assumption | with_reducible refine below_alloc ?_ ?_ _ | with_reducible refine Below.setCell ?_ ?_ _ | with_reducible refine Below.drew ?_ | with_reducible refine below_drewN ?_ _ | with_reducible refine below_step (by assumption) ?_ ?_ | (with_reducible refine Below.trans ?_ (Below.mono (by assumption) ?_)) | exact Nat.le_refl _ | (simp; done) | (simp; omega) | omega))⟩
  case round =>
    obtain ⟨rfl, rfl, hbr⟩ := hrel
    go_wp2
    go_ret
    exact ⟨rfl, hbr.out⟩

set_option maxRecDepth 100000 in
set_option maxHeartbeats 4000000 in
theorem lkParts5t (n : Int) (t : List UInt8) (ht : t.length ≤ 9000000000000000000) (ad : Option Addr) (m c : Nat) (room : Int) (hr0 : -1000 ≤ room) (hr1 : room ≤ 1000) (h : decide (room - 1 < 0) = false) (h1 : (t == []) = false) (w : World) (hG : GOk w) :
    Calls Tryz.prog 74 #[.agg #[.int .u8 5, .string (bs t), .int .i64 n, .slice ad m c], .int .i64 room] w fun e w' => e = .returned (.int .i64 (-1)) ∧ Below w.heap.size w w' := by
  have HG := Lib.hid hG
  clear hG
  go_enter Tryz.func74, Tryz.ntmps74
  go_wp2
  go_ret
  exact ⟨by first | rfl | (congr; omega), by (repeat' (first | with_reducible exact Below.refl _ _ | with_reducible assumption | with_reducible refine below_alloc ?_ ?_ _ | with_reducible refine Below.setCell ?_ ?_ _ | with_reducible refine Below.drew ?_ | with_reducible refine below_drewN ?_ _ | with_reducible refine below_step (by assumption) ?_ ?_ | (with_reducible refine Below.trans ?_ (Below.mono (by assumption) ?_)) | exact Nat.le_refl _ | (simp; done) | (simp; omega) | omega))⟩

set_option maxRecDepth 100000 in
set_option maxHeartbeats 4000000 in
theorem lkParts5n (n : Int) (t : List UInt8) (ht : t.length ≤ 9000000000000000000) (ad : Option Addr) (m c : Nat) (room : Int) (hr0 : -1000 ≤ room) (hr1 : room ≤ 1000) (h : decide (room - 1 < 0) = false) (h1 : (n == 0) = false) (w : World) (hG : GOk w) :
    Calls Tryz.prog 74 #[.agg #[.int .u8 5, .string (bs []), .int .i64 n, .slice ad m c], .int .i64 room] w fun e w' => e = .returned (.int .i64 (-1)) ∧ Below w.heap.size w w' := by
  have HG := Lib.hid hG
  clear hG
  go_enter Tryz.func74, Tryz.ntmps74
  go_wp2
  go_ret
  exact ⟨by first | rfl | (congr; omega), by (repeat' (first | with_reducible exact Below.refl _ _ | with_reducible assumption | with_reducible refine below_alloc ?_ ?_ _ | with_reducible refine Below.setCell ?_ ?_ _ | with_reducible refine Below.drew ?_ | with_reducible refine below_drewN ?_ _ | with_reducible refine below_step (by assumption) ?_ ?_ | (with_reducible refine Below.trans ?_ (Below.mono (by assumption) ?_)) | exact Nat.le_refl _ | (simp; done) | (simp; omega) | omega))⟩

set_option maxRecDepth 100000 in
set_option maxHeartbeats 4000000 in
theorem lkParts5z  (t : List UInt8) (ht : t.length ≤ 9000000000000000000) (ad : Option Addr) (m c : Nat) (room : Int) (hr0 : -1000 ≤ room) (hr1 : room ≤ 1000) (h : decide (room - 1 < 0) = false) (w : World) (hG : GOk w) :
    Calls Tryz.prog 74 #[.agg #[.int .u8 5, .string (bs []), .int .i64 0, .slice ad 0 c], .int .i64 room] w fun e w' => e = .returned (.int .i64 (-1)) ∧ Below w.heap.size w w' := by
  have HG := Lib.hid hG
  clear hG
  go_enter Tryz.func74, Tryz.ntmps74
  go_wp2
  go_ret
  exact ⟨by first | rfl | (congr; omega), by (repeat' (first | with_reducible exact Below.refl _ _ | with_reducible assumption | with_reducible refine below_alloc ?_ ?_ _ | with_reducible refine Below.setCell ?_ ?_ _ | with_reducible refine Below.drew ?_ | with_reducible refine below_drewN ?_ _ | with_reducible refine below_step (by assumption) ?_ ?_ | (with_reducible refine Below.trans ?_ (Below.mono (by assumption) ?_)) | exact Nat.le_refl _ | (simp; done) | (simp; omega) | omega))⟩

set_option maxRecDepth 100000 in
set_option maxHeartbeats 4000000 in
theorem lkParts5g  (t : List UInt8) (ht : t.length ≤ 9000000000000000000) (ad : Option Addr) (m c : Nat) (room : Int) (hr0 : -1000 ≤ room) (hr1 : room ≤ 1000) (h : decide (room - 1 < 0) = false) (h1 : (0 : Int) < m) (h2 : decide ((m : Int) ≤ 8) = false) (w : World) (hG : GOk w) :
    Calls Tryz.prog 74 #[.agg #[.int .u8 5, .string (bs []), .int .i64 0, .slice ad m c], .int .i64 room] w fun e w' => e = .returned (.int .i64 (-1)) ∧ Below w.heap.size w w' := by
  have HG := Lib.hid hG
  clear hG
  go_enter Tryz.func74, Tryz.ntmps74
  go_wp2
  go_ret
  exact ⟨by first | rfl | (congr; omega), by (repeat' (first | with_reducible exact Below.refl _ _ | with_reducible assumption | with_reducible refine below_alloc ?_ ?_ _ | with_reducible refine Below.setCell ?_ ?_ _ | with_reducible refine Below.drew ?_ | with_reducible refine below_drewN ?_ _ | with_reducible refine below_step (by assumption) ?_ ?_ | (with_reducible refine Below.trans ?_ (Below.mono (by assumption) ?_)) | exact Nat.le_refl _ | (simp; done) | (simp; omega) | omega))⟩

set_option maxRecDepth 100000 in
set_option maxHeartbeats 4000000 in
theorem lkParts6t (n : Int) (t : List UInt8) (ht : t.length ≤ 9000000000000000000) (ad : Option Addr) (m c : Nat) (room : Int) (hr0 : -1000 ≤ room) (hr1 : room ≤ 1000) (h : decide (room - 1 < 0) = false) (h1 : (t == []) = false) (w : World) (hG : GOk w) :
    Calls Tryz.prog 74 #[.agg #[.int .u8 6, .string (bs t), .int .i64 n, .slice ad m c], .int .i64 room] w fun e w' => e = .returned (.int .i64 (-1)) ∧ Below w.heap.size w w' := by
  have HG := Lib.hid hG
  clear hG
  go_enter Tryz.func74, Tryz.ntmps74
  go_wp2
  go_ret
  exact ⟨by first | rfl | (congr; omega), by (repeat' (first | with_reducible exact Below.refl _ _ | with_reducible assumption | with_reducible refine below_alloc ?_ ?_ _ | with_reducible refine Below.setCell ?_ ?_ _ | with_reducible refine Below.drew ?_ | with_reducible refine below_drewN ?_ _ | with_reducible refine below_step (by assumption) ?_ ?_ | (with_reducible refine Below.trans ?_ (Below.mono (by assumption) ?_)) | exact Nat.le_refl _ | (simp; done) | (simp; omega) | omega))⟩

set_option maxRecDepth 100000 in
set_option maxHeartbeats 4000000 in
theorem lkParts6n (n : Int) (t : List UInt8) (ht : t.length ≤ 9000000000000000000) (ad : Option Addr) (m c : Nat) (room : Int) (hr0 : -1000 ≤ room) (hr1 : room ≤ 1000) (h : decide (room - 1 < 0) = false) (h1 : (n == 0) = false) (w : World) (hG : GOk w) :
    Calls Tryz.prog 74 #[.agg #[.int .u8 6, .string (bs []), .int .i64 n, .slice ad m c], .int .i64 room] w fun e w' => e = .returned (.int .i64 (-1)) ∧ Below w.heap.size w w' := by
  have HG := Lib.hid hG
  clear hG
  go_enter Tryz.func74, Tryz.ntmps74
  go_wp2
  go_ret
  exact ⟨by first | rfl | (congr; omega), by (repeat' (first | with_reducible exact Below.refl _ _ | with_reducible assumption | with_reducible refine below_alloc ?_ ?_ _ | with_reducible refine Below.setCell ?_ ?_ _ | with_reducible refine Below.drew ?_ | with_reducible refine below_drewN ?_ _ | with_reducible refine below_step (by assumption) ?_ ?_ | (with_reducible refine Below.trans ?_ (Below.mono (by assumption) ?_)) | exact Nat.le_refl _ | (simp; done) | (simp; omega) | omega))⟩

set_option maxRecDepth 100000 in
set_option maxHeartbeats 4000000 in
theorem lkParts6z  (t : List UInt8) (ht : t.length ≤ 9000000000000000000) (ad : Option Addr) (m c : Nat) (room : Int) (hr0 : -1000 ≤ room) (hr1 : room ≤ 1000) (h : decide (room - 1 < 0) = false) (w : World) (hG : GOk w) :
    Calls Tryz.prog 74 #[.agg #[.int .u8 6, .string (bs []), .int .i64 0, .slice ad 0 c], .int .i64 room] w fun e w' => e = .returned (.int .i64 (-1)) ∧ Below w.heap.size w w' := by
  have HG := Lib.hid hG
  clear hG
  go_enter Tryz.func74, Tryz.ntmps74
  go_wp2
  go_ret
  exact ⟨by first | rfl | (congr; omega), by (repeat' (first | with_reducible exact Below.refl _ _ | with_reducible assumption | with_reducible refine below_alloc ?_ ?_ _ | with_reducible refine Below.setCell ?_ ?_ _ | with_reducible refine Below.drew ?_ | with_reducible refine below_drewN ?_ _ | with_reducible refine below_step (by assumption) ?_ ?_ | (with_reducible refine Below.trans ?_ (Below.mono (by assumption) ?_)) | exact Nat.le_refl _ | (simp; done) | (simp; omega) | omega))⟩

set_option maxRecDepth 100000 in
set_option maxHeartbeats 4000000 in
theorem lkParts6g  (t : List UInt8) (ht : t.length ≤ 9000000000000000000) (ad : Option Addr) (m c : Nat) (room : Int) (hr0 : -1000 ≤ room) (hr1 : room ≤ 1000) (h : decide (room - 1 < 0) = false) (h1 : (0 : Int) < m) (h2 : decide ((m : Int) ≤ 8) = false) (w : World) (hG : GOk w) :
    Calls Tryz.prog 74 #[.agg #[.int .u8 6, .string (bs []), .int .i64 0, .slice ad m c], .int .i64 room] w fun e w' => e = .returned (.int .i64 (-1)) ∧ Below w.heap.size w w' := by
  have HG := Lib.hid hG
  clear hG
  go_enter Tryz.func74, Tryz.ntmps74
  go_wp2
  go_ret
  exact ⟨by first | rfl | (congr; omega), by (repeat' (first | with_reducible exact Below.refl _ _ | with_reducible assumption | with_reducible refine below_alloc ?_ ?_ _ | with_reducible refine Below.setCell ?_ ?_ _ | with_reducible refine Below.drew ?_ | with_reducible refine below_drewN ?_ _ | with_reducible refine below_step (by assumption) ?_ ?_ | (with_reducible refine Below.trans ?_ (Below.mono (by assumption) ?_)) | exact Nat.le_refl _ | (simp; done) | (simp; omega) | omega))⟩

set_option maxRecDepth 100000 in
set_option maxHeartbeats 4000000 in
theorem lkPartsOther (k n : Int) (t : List UInt8) (ht : t.length ≤ 9000000000000000000) (ad : Option Addr) (m c : Nat) (room : Int) (hr0 : -1000 ≤ room) (hr1 : room ≤ 1000) (h : decide (room - 1 < 0) = false) (ht0 : (t == []) = false) (b1 : (k == 1) = false) (b2 : (k == 2) = false) (b3 : (k == 3) = false) (b4 : (k == 4) = false) (b5 : (k == 5) = false) (b6 : (k == 6) = false) (w : World) (hG : GOk w) :
    Calls Tryz.prog 74 #[.agg #[.int .u8 k, .string (bs t), .int .i64 n, .slice ad m c], .int .i64 room] w fun e w' => e = .returned (.int .i64 (-1)) ∧ Below w.heap.size w w' := by
  have HG := Lib.hid hG
  clear hG
  go_enter Tryz.func74, Tryz.ntmps74
  go_wp2
  go_ret
  exact ⟨by first | rfl | (congr; omega), by (repeat' (first | with_reducible exact Below.refl _ _ | with_reducible assumption | with_reducible refine below_alloc ?_ ?_ _ | with_reducible refine Below.setCell ?_ ?_ _ | with_reducible refine Below.drew ?_ | with_reducible refine below_drewN ?_ _ | with_reducible refine below_step (by assumption) ?_ ?_ | (with_reducible refine Below.trans ?_ (Below.mono (by assumption) ?_)) | exact Nat.le_refl _ | (simp; done) | (simp; omega) | omega))⟩

set_option maxRecDepth 100000 in
set_option maxHeartbeats 4000000 in
theorem lkPartsOthere (k n : Int) (t : List UInt8) (ht : t.length ≤ 9000000000000000000) (ad : Option Addr) (m c : Nat) (room : Int) (hr0 : -1000 ≤ room) (hr1 : room ≤ 1000) (h : decide (room - 1 < 0) = false) (b1 : (k == 1) = false) (b2 : (k == 2) = false) (b3 : (k == 3) = false) (b4 : (k == 4) = false) (b5 : (k == 5) = false) (b6 : (k == 6) = false) (w : World) (hG : GOk w) :
    Calls Tryz.prog 74 #[.agg #[.int .u8 k, .string (bs []), .int .i64 n, .slice ad m c], .int .i64 room] w fun e w' => e = .returned (.int .i64 (-1)) ∧ Below w.heap.size w w' := by
  have HG := Lib.hid hG
  clear hG
  go_enter Tryz.func74, Tryz.ntmps74
  go_wp2
  go_ret
  exact ⟨by first | rfl | (congr; omega), by (repeat' (first | with_reducible exact Below.refl _ _ | with_reducible assumption | with_reducible refine below_alloc ?_ ?_ _ | with_reducible refine Below.setCell ?_ ?_ _ | with_reducible refine Below.drew ?_ | with_reducible refine below_drewN ?_ _ | with_reducible refine below_step (by assumption) ?_ ?_ | (with_reducible refine Below.trans ?_ (Below.mono (by assumption) ?_)) | exact Nat.le_refl _ | (simp; done) | (simp; omega) | omega))⟩

end Go.Proofs.YtfmckibiblhakaaGreatDoor
