/- The program's locks: cut. -/
import Derived.Test.YtfmckibiblhakaaGreatDoorLockZ
set_option linter.unusedSimpArgs false
set_option linter.unusedVariables false
namespace Go.Proofs.YtfmckibiblhakaaGreatDoor
open Go.RowKit

theorem st110_no {m : Nat} {c : UInt8} {r : List UInt8} (hc : c = 110) (he : ¬ (59 : UInt8) ∈ r) : stepT m c r = none := by
  subst hc; unfold stepT; simp [he]
theorem st110_len {m : Nat} {c : UInt8} {r : List UInt8} (hc : c = 110) (he : (59 : UInt8) ∈ r) (hl : (r.takeWhile (· != 59)).length < 1 ∨ 19 < (r.takeWhile (· != 59)).length) : stepT m c r = none := by
  subst hc; unfold stepT
  rw [if_pos (by decide)]
  simp only [show ((if (110 : UInt8) = 110 then (59 : UInt8) else 58)) = 59 from rfl, if_true]
  rw [if_pos he, if_pos hl]
theorem st110_ok {m : Nat} {c : UInt8} {r : List UInt8} (hc : c = 110) (he : (59 : UInt8) ∈ r) (hl : 1 ≤ (r.takeWhile (· != 59)).length ∧ (r.takeWhile (· != 59)).length ≤ 19) : stepT m c r = some ((r.takeWhile (· != 59)).length + 2, m) := by
  subst hc; unfold stepT
  rw [if_pos (by decide)]
  simp only [show ((if (110 : UInt8) = 110 then (59 : UInt8) else 58)) = 59 from rfl, if_true]
  rw [if_pos he, if_neg (by omega)]
  try simp
theorem st116_no {m : Nat} {c : UInt8} {r : List UInt8} (hc : c = 116) (he : ¬ (58 : UInt8) ∈ r) : stepT m c r = none := by
  subst hc; unfold stepT; simp [he]
theorem st116_len {m : Nat} {c : UInt8} {r : List UInt8} (hc : c = 116) (he : (58 : UInt8) ∈ r) (hl : (r.takeWhile (· != 58)).length < 1 ∨ 19 < (r.takeWhile (· != 58)).length) : stepT m c r = none := by
  subst hc; unfold stepT
  rw [if_pos (by decide)]
  simp only [show ((if (116 : UInt8) = 110 then (59 : UInt8) else 58)) = 58 from rfl, if_true]
  rw [if_pos he, if_pos hl]
theorem st116_bad {m : Nat} {c : UInt8} {r : List UInt8} (hc : c = 116) (he : (58 : UInt8) ∈ r) (hl : 1 ≤ (r.takeWhile (· != 58)).length ∧ (r.takeWhile (· != 58)).length ≤ 19) (ha : ∀ u, Lib.atoiAll (r.takeWhile (· != 58)) ≠ .ok u) : stepT m c r = none := by
  subst hc; unfold stepT
  rw [if_pos (by decide)]
  simp only [show ((if (116 : UInt8) = 110 then (59 : UInt8) else 58)) = 58 from rfl, if_true]
  rw [if_pos he, if_neg (by omega), if_neg (by decide)]
  all_goals (cases h : Lib.atoiAll (r.takeWhile (· != 58)) with | ok u => exact absurd h (ha u) | _ => rfl)
theorem st116_out {m : Nat} {c : UInt8} {r : List UInt8} (hc : c = 116) (he : (58 : UInt8) ∈ r) (hl : 1 ≤ (r.takeWhile (· != 58)).length ∧ (r.takeWhile (· != 58)).length ≤ 19) {n : Int} (ha : Lib.atoiAll (r.takeWhile (· != 58)) = .ok n) (hn : n < 0 ∨ 4096 < n) : stepT m c r = none := by
  subst hc; unfold stepT
  rw [if_pos (by decide)]
  simp only [show ((if (116 : UInt8) = 110 then (59 : UInt8) else 58)) = 58 from rfl, if_true]
  rw [if_pos he, if_neg (by omega), if_neg (by decide), ha]
  simp only
  rw [if_pos hn]
theorem st116_ok {m : Nat} {c : UInt8} {r : List UInt8} (hc : c = 116) (he : (58 : UInt8) ∈ r) (hl : 1 ≤ (r.takeWhile (· != 58)).length ∧ (r.takeWhile (· != 58)).length ≤ 19) {n : Int} (ha : Lib.atoiAll (r.takeWhile (· != 58)) = .ok n) (hn : 0 ≤ n ∧ n ≤ 4096) : stepT m c r = some ((r.takeWhile (· != 58)).length + 2 + n.toNat, m) := by
  subst hc; unfold stepT
  rw [if_pos (by decide)]
  simp only [show ((if (116 : UInt8) = 110 then (59 : UInt8) else 58)) = 58 from rfl, if_true]
  rw [if_pos he, if_neg (by omega), if_neg (by decide), ha]
  simp only
  rw [if_neg (by omega)]
  try simp
theorem st84_no {m : Nat} {c : UInt8} {r : List UInt8} (hc : c = 84) (he : ¬ (58 : UInt8) ∈ r) : stepT m c r = none := by
  subst hc; unfold stepT; simp [he]
theorem st84_len {m : Nat} {c : UInt8} {r : List UInt8} (hc : c = 84) (he : (58 : UInt8) ∈ r) (hl : (r.takeWhile (· != 58)).length < 1 ∨ 19 < (r.takeWhile (· != 58)).length) : stepT m c r = none := by
  subst hc; unfold stepT
  rw [if_pos (by decide)]
  simp only [show ((if (84 : UInt8) = 110 then (59 : UInt8) else 58)) = 58 from rfl, if_true]
  rw [if_pos he, if_pos hl]
theorem st84_bad {m : Nat} {c : UInt8} {r : List UInt8} (hc : c = 84) (he : (58 : UInt8) ∈ r) (hl : 1 ≤ (r.takeWhile (· != 58)).length ∧ (r.takeWhile (· != 58)).length ≤ 19) (ha : ∀ u, Lib.atoiAll (r.takeWhile (· != 58)) ≠ .ok u) : stepT m c r = none := by
  subst hc; unfold stepT
  rw [if_pos (by decide)]
  simp only [show ((if (84 : UInt8) = 110 then (59 : UInt8) else 58)) = 58 from rfl, if_true]
  rw [if_pos he, if_neg (by omega), if_neg (by decide)]
  all_goals (cases h : Lib.atoiAll (r.takeWhile (· != 58)) with | ok u => exact absurd h (ha u) | _ => rfl)
theorem st84_out {m : Nat} {c : UInt8} {r : List UInt8} (hc : c = 84) (he : (58 : UInt8) ∈ r) (hl : 1 ≤ (r.takeWhile (· != 58)).length ∧ (r.takeWhile (· != 58)).length ≤ 19) {n : Int} (ha : Lib.atoiAll (r.takeWhile (· != 58)) = .ok n) (hn : n < 0 ∨ 4096 < n) : stepT m c r = none := by
  subst hc; unfold stepT
  rw [if_pos (by decide)]
  simp only [show ((if (84 : UInt8) = 110 then (59 : UInt8) else 58)) = 58 from rfl, if_true]
  rw [if_pos he, if_neg (by omega), if_neg (by decide), ha]
  simp only
  rw [if_pos hn]
theorem st84_ok {m : Nat} {c : UInt8} {r : List UInt8} (hc : c = 84) (he : (58 : UInt8) ∈ r) (hl : 1 ≤ (r.takeWhile (· != 58)).length ∧ (r.takeWhile (· != 58)).length ≤ 19) {n : Int} (ha : Lib.atoiAll (r.takeWhile (· != 58)) = .ok n) (hn : 0 ≤ n ∧ n ≤ 4096) : stepT m c r = some ((r.takeWhile (· != 58)).length + 2, m + n.toNat) := by
  subst hc; unfold stepT
  rw [if_pos (by decide)]
  simp only [show ((if (84 : UInt8) = 110 then (59 : UInt8) else 58)) = 58 from rfl, if_true]
  rw [if_pos he, if_neg (by omega), if_neg (by decide), ha]
  simp only
  rw [if_neg (by omega)]
  try simp
theorem st_one {m : Nat} {c : UInt8} {r : List UInt8} (hc : c = 80 ∨ c = 72) : stepT m c r = some (1, m + 1) := by
  unfold stepT
  rw [if_neg (by rcases hc with rfl | rfl <;> decide), if_pos hc]
theorem st_two {m : Nat} {c : UInt8} {r : List UInt8} (h1 : ¬ (c = 110 ∨ c = 116 ∨ c = 84)) (h2 : ¬ (c = 80 ∨ c = 72)) : stepT m c r = some (1, m + 2) := by
  unfold stepT
  rw [if_neg h1, if_neg h2]

set_option maxRecDepth 100000 in
set_option maxHeartbeats 8000000 in
theorem lkCutT (s : List UInt8) (hs : s.length ≤ 200000000000000) (w : World) (hG : GOk w) :
    Calls Tryz.prog 81 #[.string (bs s)] w fun en w' => en = .returned (cutTV s) ∧ Below w.heap.size w w' := by
  have HG := Lib.hid hG
  clear hG
  have hnil : ∀ (t : Nat) (N : Nat) (w : World), True := fun _ _ _ => trivial
  go_enter Tryz.func81, Tryz.ntmps81
  go_wp2
  go_loopw [5, 6, 7, 8, 9, 10, 11] (fun nv iv _ _ _ _ _ wr => ∃ (m i : Nat), nv = .int .i64 m ∧ iv = .int .i64 i ∧ m ≤ 4097 * (i + 1) ∧ i ≤ s.length + 4096 ∧ Hid (Below w.heap.size w wr) ∧ Hid (ScanAt s m i)) (fun _ iv _ _ _ _ _ _ => s.length + 5000 - (intOf iv).toNat)
  case atStart => exact ⟨1, 0, rfl, rfl, by omega, by omega, (by show Below _ _ _; (repeat' (first | with_reducible exact Below.refl _ _ | with_reducible assumption | with_reducible refine below_alloc ?_ ?_ _ | with_reducible refine Below.setCell ?_ ?_ _ | with_reducible refine Below.drew ?_ | with_reducible refine below_drewN ?_ _ | with_reducible refine below_step (by assumption) ?_ ?_ | (with_reducible refine Below.trans ?_ (Below.mono (by assumption) ?_)) | exact Nat.le_refl _ | (simp; done) | (simp; omega) | omega))), Lib.hid (by unfold ScanAt; rw [if_pos (by omega)]; simp)⟩
  case round =>
    obtain ⟨m, i, rfl, rfl, hmb, hib, hbr, hsc⟩ := hrel
    have e0 : ((i : Int)).toNat = i := by omega
    by_cases hm : m = 0
    · subst hm
      by_cases hi : i ≤ s.length
      · have H := Lib.hid (scanAt_end hsc.out hi)
        have i1 : (i : Int) ≤ s.length := by omega
        have i2 : (0 : Int) ≤ (i : Int) := by omega
        have b1 : decide ((s.length : Int) < i) = false := by simp; omega
        have ht : List.take (s.length - i) (List.drop i s) = List.drop i s := List.take_of_length_le (by simp)
        clear hsc
        go_wp2
        go_quiet (fail)
        go_wp2
        go_ret3
        exact ⟨by rw [H.out]; first | rfl | (simp; done), by have := hbr.out; (repeat' (first | with_reducible exact Below.refl _ _ | with_reducible assumption | with_reducible refine below_alloc ?_ ?_ _ | with_reducible refine Below.setCell ?_ ?_ _ | with_reducible refine Below.drew ?_ | with_reducible refine below_drewN ?_ _ | with_reducible refine below_step (by assumption) ?_ ?_ | (with_reducible refine Below.trans ?_ (Below.mono (by assumption) ?_)) | exact Nat.le_refl _ | (simp; done) | (simp; omega) | omega))⟩
      · have H := Lib.hid (scanAt_out hsc.out (by omega))
        have b1 : decide ((s.length : Int) < i) = true := by simp; omega
        clear hsc
        go_wp2
        go_ret3
        exact ⟨by rw [H.out]; rfl, by have := hbr.out; (repeat' (first | with_reducible exact Below.refl _ _ | with_reducible assumption | with_reducible refine below_alloc ?_ ?_ _ | with_reducible refine Below.setCell ?_ ?_ _ | with_reducible refine Below.drew ?_ | with_reducible refine below_drewN ?_ _ | with_reducible refine below_step (by assumption) ?_ ?_ | (with_reducible refine Below.trans ?_ (Below.mono (by assumption) ?_)) | exact Nat.le_refl _ | (simp; done) | (simp; omega) | omega))⟩
    · have b0 : decide (0 < (m : Int)) = true := by simp; omega
      have hm1 : m - 1 + 1 = m := by omega
      have hsc' : Hid (ScanAt s (m - 1 + 1) i) := by show ScanAt _ _ _; rw [hm1]; exact hsc.out
      clear hsc
      by_cases hi : i < s.length
      · have i1 : (i : Int) < s.length := by omega
        have i2 : (0 : Int) ≤ (i : Int) := by omega
        have i3 : (i : Int) ≤ s.length := by omega
        have j1 : (m : Int) ≤ 900000000000000000 := by omega
        have ht : List.take (s.length - i) (List.drop i s) = List.drop i s := List.take_of_length_le (by simp)
        by_cases h110 : s[i] = 110
        · have c110 : (((s[i].toNat : Nat) : Int) == 110) = true := by rw [h110]; rfl
          have c116 : (((s[i].toNat : Nat) : Int) == 116) = false := by rw [h110]; rfl
          have c84 : (((s[i].toNat : Nat) : Int) == 84) = false := by rw [h110]; rfl
          have cn : (((s[i].toNat : Nat) : Int) != 110) = false := by rw [h110]; rfl
          by_cases he : (59 : UInt8) ∈ s.drop (i + 1)
          · have hix : Lib.indexByte (s.drop i) 59 = ((((s.drop (i + 1)).takeWhile (· != 59)).length + 1 : Nat) : Int) := by
              rw [List.drop_eq_getElem_cons hi, idx_cons (by rw [h110]; decide), if_pos he]
            have htw := tw_take (e := 59) (s := s.drop (i + 1))
            have hjl := tw_lt he
            rw [List.length_drop] at hjl
            obtain ⟨j, hj⟩ : ∃ j, ((s.drop (i + 1)).takeWhile (· != 59)).length = j := ⟨_, rfl⟩
            rw [hj] at hix hjl htw
            have HIX : Hid (Lib.indexByte (s.drop i) 59 = (j : Int) + 1) := by show _ = _; rw [hix]; simp
            have HTW := Lib.hid htw
            clear hix htw
            by_cases hlo : j < 1 ∨ 19 < j
            · have H := Lib.hid (scanAt_fail hsc'.out hi (st110_len h110 he (by rw [hj]; exact hlo)))
              clear hsc'
              have hj0 : j = 0 ∨ 19 < j := by omega
              clear hlo he hj HTW h110
              rcases hj0 with rfl | hj0
              · go_wp2_with fail
                refine (Tryz.strings_Index_one (bs (s.drop i)) 59 _).mono ?_
                rintro en w1 ⟨rfl, rfl⟩
                rw [bs_data, HIX.out]
                go_wp2_with fail
                go_ret3
                exact ⟨by rw [H.out]; rfl, by have := hbr.out; (repeat' (first | with_reducible exact Below.refl _ _ | with_reducible assumption | with_reducible refine below_alloc ?_ ?_ _ | with_reducible refine Below.setCell ?_ ?_ _ | with_reducible refine Below.drew ?_ | with_reducible refine below_drewN ?_ _ | with_reducible refine below_step (by assumption) ?_ ?_ | (with_reducible refine Below.trans ?_ (Below.mono (by assumption) ?_)) | exact Nat.le_refl _ | (simp; done) | (simp; omega) | omega))⟩
              · have d1 : decide ((j : Int) + 1 < 2) = false := by simp; omega
                have d2 : decide (20 < (j : Int) + 1) = true := by simp; omega
                go_wp2_with fail
                refine (Tryz.strings_Index_one (bs (s.drop i)) 59 _).mono ?_
                rintro en w1 ⟨rfl, rfl⟩
                rw [bs_data, HIX.out]
                go_wp2_with fail
                go_ret3
                exact ⟨by rw [H.out]; rfl, by have := hbr.out; (repeat' (first | with_reducible exact Below.refl _ _ | with_reducible assumption | with_reducible refine below_alloc ?_ ?_ _ | with_reducible refine Below.setCell ?_ ?_ _ | with_reducible refine Below.drew ?_ | with_reducible refine below_drewN ?_ _ | with_reducible refine below_step (by assumption) ?_ ?_ | (with_reducible refine Below.trans ?_ (Below.mono (by assumption) ?_)) | exact Nat.le_refl _ | (simp; done) | (simp; omega) | omega))⟩
            · have d1 : decide ((j : Int) + 1 < 2) = false := by simp; omega
              have d2 : decide (20 < (j : Int) + 1) = false := by simp; omega
              have e1 : ((i : Int) + 1).toNat = i + 1 := by omega
              have e2 : ((i : Int) + ((j : Int) + 1)).toNat = i + (j + 1) := by omega
              have e3 : i + (j + 1) - (i + 1) = j := by omega
              have k1 : (0 : Int) ≤ (i : Int) + 1 := by omega
              have k2 : (i : Int) + 1 ≤ (i : Int) + ((j : Int) + 1) := by omega
              have k3 : (i : Int) + ((j : Int) + 1) ≤ s.length := by omega
              have hl19 : ((s.drop (i + 1)).takeWhile (· != 59)).length ≤ 19 := by rw [hj]; omega
              have hlen2 : 1 ≤ ((s.drop (i + 1)).takeWhile (· != 59)).length ∧ ((s.drop (i + 1)).takeWhile (· != 59)).length ≤ 19 := by rw [hj]; omega
              have HN := Lib.hid (scanAt_step hsc'.out hi (st110_ok h110 he hlen2))
              clear hsc'
              rw [hj] at HN
              clear he h110 hlen2
              go_wp2_with fail
              refine (Tryz.strings_Index_one (bs (s.drop i)) 59 _).mono ?_
              rintro en w1 ⟨rfl, rfl⟩
              rw [bs_data, HIX.out]
              go_wp2_with fail
              rw [HTW.out]
              refine (tAtoi _ (by omega) _ (gok_below HG.out (by have := hbr.out; (repeat' (first | with_reducible exact Below.refl _ _ | with_reducible assumption | with_reducible refine below_alloc ?_ ?_ _ | with_reducible refine Below.setCell ?_ ?_ _ | with_reducible refine Below.drew ?_ | with_reducible refine below_drewN ?_ _ | with_reducible refine below_step (by assumption) ?_ ?_ | (with_reducible refine Below.trans ?_ (Below.mono (by assumption) ?_)) | exact Nat.le_refl _ | (simp; done) | (simp; omega) | omega)))).err).mono ?_
              rintro en w2 ⟨hb2, v, er, rfl, hv⟩
              clear hv
              go_wp2_with fail
              go_roundw
              case rel => exact ⟨m - 1, i + (j + 2), by first | rfl | (congr; omega), by first | rfl | (congr; omega), by omega, by omega, (by show Below _ _ _; have := hbr.out; (repeat' (first | with_reducible exact Below.refl _ _ | with_reducible assumption | with_reducible refine below_alloc ?_ ?_ _ | with_reducible refine Below.setCell ?_ ?_ _ | with_reducible refine Below.drew ?_ | with_reducible refine below_drewN ?_ _ | with_reducible refine below_step (by assumption) ?_ ?_ | (with_reducible refine Below.trans ?_ (Below.mono (by assumption) ?_)) | exact Nat.le_refl _ | (simp; done) | (simp; omega) | omega))), by first | exact HN | (show ScanAt _ _ _; have := HN.out; simpa [Nat.add_assoc] using this)⟩
              case measure => simp [intOf]; omega
          · have hix : Lib.indexByte (s.drop i) 59 = -1 := by
              rw [List.drop_eq_getElem_cons hi, idx_cons (by rw [h110]; decide), if_neg he]
            have HIX := Lib.hid hix
            have H := Lib.hid (scanAt_fail hsc'.out hi (st110_no h110 he))
            clear hsc'
            clear hix he h110
            go_wp2_with fail
            refine (Tryz.strings_Index_one (bs (s.drop i)) 59 _).mono ?_
            rintro en w1 ⟨rfl, rfl⟩
            rw [bs_data, HIX.out]
            go_wp2_with fail
            go_ret3
            exact ⟨by rw [H.out]; rfl, by have := hbr.out; (repeat' (first | with_reducible exact Below.refl _ _ | with_reducible assumption | with_reducible refine below_alloc ?_ ?_ _ | with_reducible refine Below.setCell ?_ ?_ _ | with_reducible refine Below.drew ?_ | with_reducible refine below_drewN ?_ _ | with_reducible refine below_step (by assumption) ?_ ?_ | (with_reducible refine Below.trans ?_ (Below.mono (by assumption) ?_)) | exact Nat.le_refl _ | (simp; done) | (simp; omega) | omega))⟩
        have c110 : (((s[i].toNat : Nat) : Int) == 110) = false := by
          have : s[i].toNat ≠ 110 := fun h => h110 (UInt8.toNat_inj.1 h)
          simp; omega
        by_cases h116 : s[i] = 116
        · have c116 : (((s[i].toNat : Nat) : Int) == 116) = true := by rw [h116]; rfl
          have c84 : (((s[i].toNat : Nat) : Int) == 84) = false := by rw [h116]; rfl
          have cn : (((s[i].toNat : Nat) : Int) != 110) = true := by rw [h116]; rfl
          by_cases he : (58 : UInt8) ∈ s.drop (i + 1)
          · have hix : Lib.indexByte (s.drop i) 58 = ((((s.drop (i + 1)).takeWhile (· != 58)).length + 1 : Nat) : Int) := by
              rw [List.drop_eq_getElem_cons hi, idx_cons (by rw [h116]; decide), if_pos he]
            have htw := tw_take (e := 58) (s := s.drop (i + 1))
            have hjl := tw_lt he
            rw [List.length_drop] at hjl
            obtain ⟨j, hj⟩ : ∃ j, ((s.drop (i + 1)).takeWhile (· != 58)).length = j := ⟨_, rfl⟩
            rw [hj] at hix hjl htw
            have HIX : Hid (Lib.indexByte (s.drop i) 58 = (j : Int) + 1) := by show _ = _; rw [hix]; simp
            have HTW := Lib.hid htw
            clear hix htw
            by_cases hlo : j < 1 ∨ 19 < j
            · have H := Lib.hid (scanAt_fail hsc'.out hi (st116_len h116 he (by rw [hj]; exact hlo)))
              clear hsc'
              have hj0 : j = 0 ∨ 19 < j := by omega
              clear hlo he hj HTW h116
              rcases hj0 with rfl | hj0
              · go_wp2_with fail
                refine (Tryz.strings_Index_one (bs (s.drop i)) 58 _).mono ?_
                rintro en w1 ⟨rfl, rfl⟩
                rw [bs_data, HIX.out]
                go_wp2_with fail
                go_ret3
                exact ⟨by rw [H.out]; rfl, by have := hbr.out; (repeat' (first | with_reducible exact Below.refl _ _ | with_reducible assumption | with_reducible refine below_alloc ?_ ?_ _ | with_reducible refine Below.setCell ?_ ?_ _ | with_reducible refine Below.drew ?_ | with_reducible refine below_drewN ?_ _ | with_reducible refine below_step (by assumption) ?_ ?_ | (with_reducible refine Below.trans ?_ (Below.mono (by assumption) ?_)) | exact Nat.le_refl _ | (simp; done) | (simp; omega) | omega))⟩
              · have d1 : decide ((j : Int) + 1 < 2) = false := by simp; omega
                have d2 : decide (20 < (j : Int) + 1) = true := by simp; omega
                go_wp2_with fail
                refine (Tryz.strings_Index_one (bs (s.drop i)) 58 _).mono ?_
                rintro en w1 ⟨rfl, rfl⟩
                rw [bs_data, HIX.out]
                go_wp2_with fail
                go_ret3
                exact ⟨by rw [H.out]; rfl, by have := hbr.out; (repeat' (first | with_reducible exact Below.refl _ _ | with_reducible assumption | with_reducible refine below_alloc ?_ ?_ _ | with_reducible refine Below.setCell ?_ ?_ _ | with_reducible refine Below.drew ?_ | with_reducible refine below_drewN ?_ _ | with_reducible refine below_step (by assumption) ?_ ?_ | (with_reducible refine Below.trans ?_ (Below.mono (by assumption) ?_)) | exact Nat.le_refl _ | (simp; done) | (simp; omega) | omega))⟩
            · have d1 : decide ((j : Int) + 1 < 2) = false := by simp; omega
              have d2 : decide (20 < (j : Int) + 1) = false := by simp; omega
              have e1 : ((i : Int) + 1).toNat = i + 1 := by omega
              have e2 : ((i : Int) + ((j : Int) + 1)).toNat = i + (j + 1) := by omega
              have e3 : i + (j + 1) - (i + 1) = j := by omega
              have k1 : (0 : Int) ≤ (i : Int) + 1 := by omega
              have k2 : (i : Int) + 1 ≤ (i : Int) + ((j : Int) + 1) := by omega
              have k3 : (i : Int) + ((j : Int) + 1) ≤ s.length := by omega
              have hl19 : ((s.drop (i + 1)).takeWhile (· != 58)).length ≤ 19 := by rw [hj]; omega
              have hlen2 : 1 ≤ ((s.drop (i + 1)).takeWhile (· != 58)).length ∧ ((s.drop (i + 1)).takeWhile (· != 58)).length ≤ 19 := by rw [hj]; omega
              have HH := Lib.hid (And.intro h116 (And.intro he hlen2))
              clear he hlen2 h116
              go_wp2_with fail
              refine (Tryz.strings_Index_one (bs (s.drop i)) 58 _).mono ?_
              rintro en w1 ⟨rfl, rfl⟩
              rw [bs_data, HIX.out]
              go_wp2_with fail
              rw [HTW.out]
              refine (tAtoi _ (by omega) _ (gok_below HG.out (by have := hbr.out; (repeat' (first | with_reducible exact Below.refl _ _ | with_reducible assumption | with_reducible refine below_alloc ?_ ?_ _ | with_reducible refine Below.setCell ?_ ?_ _ | with_reducible refine Below.drew ?_ | with_reducible refine below_drewN ?_ _ | with_reducible refine below_step (by assumption) ?_ ?_ | (with_reducible refine Below.trans ?_ (Below.mono (by assumption) ?_)) | exact Nat.le_refl _ | (simp; done) | (simp; omega) | omega)))).err).mono ?_
              rintro en w2 ⟨hb2, v, er, rfl, hv⟩
              rcases hv with ⟨ha, rfl⟩ | ⟨ha, N, rfl⟩
              · by_cases hv0 : v < 0
                · have d3 : decide (v < 0) = true := by simpa using hv0
                  have H := Lib.hid (scanAt_fail hsc'.out hi (st116_out HH.out.1 HH.out.2.1 HH.out.2.2 ha (.inl hv0)))
                  clear hsc' ha
                  go_wp2_with fail
                  go_ret3
                  exact ⟨by rw [H.out]; rfl, by have := hbr.out; (repeat' (first | with_reducible exact Below.refl _ _ | with_reducible assumption | with_reducible refine below_alloc ?_ ?_ _ | with_reducible refine Below.setCell ?_ ?_ _ | with_reducible refine Below.drew ?_ | with_reducible refine below_drewN ?_ _ | with_reducible refine below_step (by assumption) ?_ ?_ | (with_reducible refine Below.trans ?_ (Below.mono (by assumption) ?_)) | exact Nat.le_refl _ | (simp; done) | (simp; omega) | omega))⟩
                · have d3 : decide (v < 0) = false := by simpa using hv0
                  by_cases hv1 : 4096 < v
                  · have d4 : decide (4096 < v) = true := by simpa using hv1
                    have H := Lib.hid (scanAt_fail hsc'.out hi (st116_out HH.out.1 HH.out.2.1 HH.out.2.2 ha (.inr hv1)))
                    clear hsc' ha
                    go_wp2_with fail
                    go_ret3
                    exact ⟨by rw [H.out]; rfl, by have := hbr.out; (repeat' (first | with_reducible exact Below.refl _ _ | with_reducible assumption | with_reducible refine below_alloc ?_ ?_ _ | with_reducible refine Below.setCell ?_ ?_ _ | with_reducible refine Below.drew ?_ | with_reducible refine below_drewN ?_ _ | with_reducible refine below_step (by assumption) ?_ ?_ | (with_reducible refine Below.trans ?_ (Below.mono (by assumption) ?_)) | exact Nat.le_refl _ | (simp; done) | (simp; omega) | omega))⟩
                  · have d4 : decide (4096 < v) = false := by simpa using hv1
                    have HN := Lib.hid (scanAt_step hsc'.out hi (st116_ok HH.out.1 HH.out.2.1 HH.out.2.2 ha (by omega)))
                    rw [hj] at HN
                    clear hsc' ha
                    obtain ⟨vn, rfl⟩ : ∃ vn : Nat, v = (vn : Int) := ⟨v.toNat, by omega⟩
                    rw [Int.toNat_natCast] at HN
                    go_wp2_with fail
                    go_roundw
                    case rel => exact ⟨m - 1, i + (j + 2 + vn), by first | rfl | (congr; omega), by first | rfl | (congr; omega), by omega, by omega, (by show Below _ _ _; have := hbr.out; (repeat' (first | with_reducible exact Below.refl _ _ | with_reducible assumption | with_reducible refine below_alloc ?_ ?_ _ | with_reducible refine Below.setCell ?_ ?_ _ | with_reducible refine Below.drew ?_ | with_reducible refine below_drewN ?_ _ | with_reducible refine below_step (by assumption) ?_ ?_ | (with_reducible refine Below.trans ?_ (Below.mono (by assumption) ?_)) | exact Nat.le_refl _ | (simp; done) | (simp; omega) | omega))), by first | exact HN | (show ScanAt _ _ _; have := HN.out; simpa [Nat.add_assoc] using this)⟩
                    case measure => simp [intOf]; omega
              · have H := Lib.hid (scanAt_fail hsc'.out hi (st116_bad HH.out.1 HH.out.2.1 HH.out.2.2 ha))
                clear hsc' ha
                go_wp2_with fail
                go_ret3
                exact ⟨by rw [H.out]; rfl, by have := hbr.out; (repeat' (first | with_reducible exact Below.refl _ _ | with_reducible assumption | with_reducible refine below_alloc ?_ ?_ _ | with_reducible refine Below.setCell ?_ ?_ _ | with_reducible refine Below.drew ?_ | with_reducible refine below_drewN ?_ _ | with_reducible refine below_step (by assumption) ?_ ?_ | (with_reducible refine Below.trans ?_ (Below.mono (by assumption) ?_)) | exact Nat.le_refl _ | (simp; done) | (simp; omega) | omega))⟩
          · have hix : Lib.indexByte (s.drop i) 58 = -1 := by
              rw [List.drop_eq_getElem_cons hi, idx_cons (by rw [h116]; decide), if_neg he]
            have HIX := Lib.hid hix
            have H := Lib.hid (scanAt_fail hsc'.out hi (st116_no h116 he))
            clear hsc'
            clear hix he h116
            go_wp2_with fail
            refine (Tryz.strings_Index_one (bs (s.drop i)) 58 _).mono ?_
            rintro en w1 ⟨rfl, rfl⟩
            rw [bs_data, HIX.out]
            go_wp2_with fail
            go_ret3
            exact ⟨by rw [H.out]; rfl, by have := hbr.out; (repeat' (first | with_reducible exact Below.refl _ _ | with_reducible assumption | with_reducible refine below_alloc ?_ ?_ _ | with_reducible refine Below.setCell ?_ ?_ _ | with_reducible refine Below.drew ?_ | with_reducible refine below_drewN ?_ _ | with_reducible refine below_step (by assumption) ?_ ?_ | (with_reducible refine Below.trans ?_ (Below.mono (by assumption) ?_)) | exact Nat.le_refl _ | (simp; done) | (simp; omega) | omega))⟩
        have c116 : (((s[i].toNat : Nat) : Int) == 116) = false := by
          have : s[i].toNat ≠ 116 := fun h => h116 (UInt8.toNat_inj.1 h)
          simp; omega
        by_cases h84 : s[i] = 84
        · have c84 : (((s[i].toNat : Nat) : Int) == 84) = true := by rw [h84]; rfl
          have cn : (((s[i].toNat : Nat) : Int) != 110) = true := by rw [h84]; rfl
          by_cases he : (58 : UInt8) ∈ s.drop (i + 1)
          · have hix : Lib.indexByte (s.drop i) 58 = ((((s.drop (i + 1)).takeWhile (· != 58)).length + 1 : Nat) : Int) := by
              rw [List.drop_eq_getElem_cons hi, idx_cons (by rw [h84]; decide), if_pos he]
            have htw := tw_take (e := 58) (s := s.drop (i + 1))
            have hjl := tw_lt he
            rw [List.length_drop] at hjl
            obtain ⟨j, hj⟩ : ∃ j, ((s.drop (i + 1)).takeWhile (· != 58)).length = j := ⟨_, rfl⟩
            rw [hj] at hix hjl htw
            have HIX : Hid (Lib.indexByte (s.drop i) 58 = (j : Int) + 1) := by show _ = _; rw [hix]; simp
            have HTW := Lib.hid htw
            clear hix htw
            by_cases hlo : j < 1 ∨ 19 < j
            · have H := Lib.hid (scanAt_fail hsc'.out hi (st84_len h84 he (by rw [hj]; exact hlo)))
              clear hsc'
              have hj0 : j = 0 ∨ 19 < j := by omega
              clear hlo he hj HTW h84
              rcases hj0 with rfl | hj0
              · go_wp2_with fail
                refine (Tryz.strings_Index_one (bs (s.drop i)) 58 _).mono ?_
                rintro en w1 ⟨rfl, rfl⟩
                rw [bs_data, HIX.out]
                go_wp2_with fail
                go_ret3
                exact ⟨by rw [H.out]; rfl, by have := hbr.out; (repeat' (first | with_reducible exact Below.refl _ _ | with_reducible assumption | with_reducible refine below_alloc ?_ ?_ _ | with_reducible refine Below.setCell ?_ ?_ _ | with_reducible refine Below.drew ?_ | with_reducible refine below_drewN ?_ _ | with_reducible refine below_step (by assumption) ?_ ?_ | (with_reducible refine Below.trans ?_ (Below.mono (by assumption) ?_)) | exact Nat.le_refl _ | (simp; done) | (simp; omega) | omega))⟩
              · have d1 : decide ((j : Int) + 1 < 2) = false := by simp; omega
                have d2 : decide (20 < (j : Int) + 1) = true := by simp; omega
                go_wp2_with fail
                refine (Tryz.strings_Index_one (bs (s.drop i)) 58 _).mono ?_
                rintro en w1 ⟨rfl, rfl⟩
                rw [bs_data, HIX.out]
                go_wp2_with fail
                go_ret3
                exact ⟨by rw [H.out]; rfl, by have := hbr.out; (repeat' (first | with_reducible exact Below.refl _ _ | with_reducible assumption | with_reducible refine below_alloc ?_ ?_ _ | with_reducible refine Below.setCell ?_ ?_ _ | with_reducible refine Below.drew ?_ | with_reducible refine below_drewN ?_ _ | with_reducible refine below_step (by assumption) ?_ ?_ | (with_reducible refine Below.trans ?_ (Below.mono (by assumption) ?_)) | exact Nat.le_refl _ | (simp; done) | (simp; omega) | omega))⟩
            · have d1 : decide ((j : Int) + 1 < 2) = false := by simp; omega
              have d2 : decide (20 < (j : Int) + 1) = false := by simp; omega
              have e1 : ((i : Int) + 1).toNat = i + 1 := by omega
              have e2 : ((i : Int) + ((j : Int) + 1)).toNat = i + (j + 1) := by omega
              have e3 : i + (j + 1) - (i + 1) = j := by omega
              have k1 : (0 : Int) ≤ (i : Int) + 1 := by omega
              have k2 : (i : Int) + 1 ≤ (i : Int) + ((j : Int) + 1) := by omega
              have k3 : (i : Int) + ((j : Int) + 1) ≤ s.length := by omega
              have hl19 : ((s.drop (i + 1)).takeWhile (· != 58)).length ≤ 19 := by rw [hj]; omega
              have hlen2 : 1 ≤ ((s.drop (i + 1)).takeWhile (· != 58)).length ∧ ((s.drop (i + 1)).takeWhile (· != 58)).length ≤ 19 := by rw [hj]; omega
              have HH := Lib.hid (And.intro h84 (And.intro he hlen2))
              clear he hlen2 h84
              go_wp2_with fail
              refine (Tryz.strings_Index_one (bs (s.drop i)) 58 _).mono ?_
              rintro en w1 ⟨rfl, rfl⟩
              rw [bs_data, HIX.out]
              go_wp2_with fail
              rw [HTW.out]
              refine (tAtoi _ (by omega) _ (gok_below HG.out (by have := hbr.out; (repeat' (first | with_reducible exact Below.refl _ _ | with_reducible assumption | with_reducible refine below_alloc ?_ ?_ _ | with_reducible refine Below.setCell ?_ ?_ _ | with_reducible refine Below.drew ?_ | with_reducible refine below_drewN ?_ _ | with_reducible refine below_step (by assumption) ?_ ?_ | (with_reducible refine Below.trans ?_ (Below.mono (by assumption) ?_)) | exact Nat.le_refl _ | (simp; done) | (simp; omega) | omega)))).err).mono ?_
              rintro en w2 ⟨hb2, v, er, rfl, hv⟩
              rcases hv with ⟨ha, rfl⟩ | ⟨ha, N, rfl⟩
              · by_cases hv0 : v < 0
                · have d3 : decide (v < 0) = true := by simpa using hv0
                  have H := Lib.hid (scanAt_fail hsc'.out hi (st84_out HH.out.1 HH.out.2.1 HH.out.2.2 ha (.inl hv0)))
                  clear hsc' ha
                  go_wp2_with fail
                  go_ret3
                  exact ⟨by rw [H.out]; rfl, by have := hbr.out; (repeat' (first | with_reducible exact Below.refl _ _ | with_reducible assumption | with_reducible refine below_alloc ?_ ?_ _ | with_reducible refine Below.setCell ?_ ?_ _ | with_reducible refine Below.drew ?_ | with_reducible refine below_drewN ?_ _ | with_reducible refine below_step (by assumption) ?_ ?_ | (with_reducible refine Below.trans ?_ (Below.mono (by assumption) ?_)) | exact Nat.le_refl _ | (simp; done) | (simp; omega) | omega))⟩
                · have d3 : decide (v < 0) = false := by simpa using hv0
                  by_cases hv1 : 4096 < v
                  · have d4 : decide (4096 < v) = true := by simpa using hv1
                    have H := Lib.hid (scanAt_fail hsc'.out hi (st84_out HH.out.1 HH.out.2.1 HH.out.2.2 ha (.inr hv1)))
                    clear hsc' ha
                    go_wp2_with fail
                    go_ret3
                    exact ⟨by rw [H.out]; rfl, by have := hbr.out; (repeat' (first | with_reducible exact Below.refl _ _ | with_reducible assumption | with_reducible refine below_alloc ?_ ?_ _ | with_reducible refine Below.setCell ?_ ?_ _ | with_reducible refine Below.drew ?_ | with_reducible refine below_drewN ?_ _ | with_reducible refine below_step (by assumption) ?_ ?_ | (with_reducible refine Below.trans ?_ (Below.mono (by assumption) ?_)) | exact Nat.le_refl _ | (simp; done) | (simp; omega) | omega))⟩
                  · have d4 : decide (4096 < v) = false := by simpa using hv1
                    have HN := Lib.hid (scanAt_step hsc'.out hi (st84_ok HH.out.1 HH.out.2.1 HH.out.2.2 ha (by omega)))
                    rw [hj] at HN
                    clear hsc' ha
                    obtain ⟨vn, rfl⟩ : ∃ vn : Nat, v = (vn : Int) := ⟨v.toNat, by omega⟩
                    rw [Int.toNat_natCast] at HN
                    go_wp2_with fail
                    go_roundw
                    case rel => exact ⟨m - 1 + vn, i + (j + 2), by first | rfl | (congr; omega), by first | rfl | (congr; omega), by omega, by omega, (by show Below _ _ _; have := hbr.out; (repeat' (first | with_reducible exact Below.refl _ _ | with_reducible assumption | with_reducible refine below_alloc ?_ ?_ _ | with_reducible refine Below.setCell ?_ ?_ _ | with_reducible refine Below.drew ?_ | with_reducible refine below_drewN ?_ _ | with_reducible refine below_step (by assumption) ?_ ?_ | (with_reducible refine Below.trans ?_ (Below.mono (by assumption) ?_)) | exact Nat.le_refl _ | (simp; done) | (simp; omega) | omega))), by first | exact HN | (show ScanAt _ _ _; have := HN.out; simpa [Nat.add_assoc] using this)⟩
                    case measure => simp [intOf]; omega
              · have H := Lib.hid (scanAt_fail hsc'.out hi (st84_bad HH.out.1 HH.out.2.1 HH.out.2.2 ha))
                clear hsc' ha
                go_wp2_with fail
                go_ret3
                exact ⟨by rw [H.out]; rfl, by have := hbr.out; (repeat' (first | with_reducible exact Below.refl _ _ | with_reducible assumption | with_reducible refine below_alloc ?_ ?_ _ | with_reducible refine Below.setCell ?_ ?_ _ | with_reducible refine Below.drew ?_ | with_reducible refine below_drewN ?_ _ | with_reducible refine below_step (by assumption) ?_ ?_ | (with_reducible refine Below.trans ?_ (Below.mono (by assumption) ?_)) | exact Nat.le_refl _ | (simp; done) | (simp; omega) | omega))⟩
          · have hix : Lib.indexByte (s.drop i) 58 = -1 := by
              rw [List.drop_eq_getElem_cons hi, idx_cons (by rw [h84]; decide), if_neg he]
            have HIX := Lib.hid hix
            have H := Lib.hid (scanAt_fail hsc'.out hi (st84_no h84 he))
            clear hsc'
            clear hix he h84
            go_wp2_with fail
            refine (Tryz.strings_Index_one (bs (s.drop i)) 58 _).mono ?_
            rintro en w1 ⟨rfl, rfl⟩
            rw [bs_data, HIX.out]
            go_wp2_with fail
            go_ret3
            exact ⟨by rw [H.out]; rfl, by have := hbr.out; (repeat' (first | with_reducible exact Below.refl _ _ | with_reducible assumption | with_reducible refine below_alloc ?_ ?_ _ | with_reducible refine Below.setCell ?_ ?_ _ | with_reducible refine Below.drew ?_ | with_reducible refine below_drewN ?_ _ | with_reducible refine below_step (by assumption) ?_ ?_ | (with_reducible refine Below.trans ?_ (Below.mono (by assumption) ?_)) | exact Nat.le_refl _ | (simp; done) | (simp; omega) | omega))⟩
        have c84 : (((s[i].toNat : Nat) : Int) == 84) = false := by
          have : s[i].toNat ≠ 84 := fun h => h84 (UInt8.toNat_inj.1 h)
          simp; omega
        by_cases h80 : s[i] = 80
        · have c80 : (((s[i].toNat : Nat) : Int) == 80) = true := by rw [h80]; rfl
          have HN := Lib.hid (scanAt_step hsc'.out hi (st_one (by simp [h80])))
          clear hsc'
          go_wp2
          go_roundw
          case rel => exact ⟨m - 1 + 1, i + 1, by first | rfl | (congr; omega), by first | rfl | (congr; omega), by omega, by omega, (by show Below _ _ _; have := hbr.out; (repeat' (first | with_reducible exact Below.refl _ _ | with_reducible assumption | with_reducible refine below_alloc ?_ ?_ _ | with_reducible refine Below.setCell ?_ ?_ _ | with_reducible refine Below.drew ?_ | with_reducible refine below_drewN ?_ _ | with_reducible refine below_step (by assumption) ?_ ?_ | (with_reducible refine Below.trans ?_ (Below.mono (by assumption) ?_)) | exact Nat.le_refl _ | (simp; done) | (simp; omega) | omega))), by first | exact HN | (show ScanAt _ _ _; have := HN.out; simpa [Nat.add_assoc] using this)⟩
          case measure => simp [intOf]; omega
        have c80 : (((s[i].toNat : Nat) : Int) == 80) = false := by
          have : s[i].toNat ≠ 80 := fun h => h80 (UInt8.toNat_inj.1 h)
          simp; omega
        by_cases h72 : s[i] = 72
        · have c72 : (((s[i].toNat : Nat) : Int) == 72) = true := by rw [h72]; rfl
          have HN := Lib.hid (scanAt_step hsc'.out hi (st_one (by simp [h72])))
          clear hsc'
          go_wp2
          go_roundw
          case rel => exact ⟨m - 1 + 1, i + 1, by first | rfl | (congr; omega), by first | rfl | (congr; omega), by omega, by omega, (by show Below _ _ _; have := hbr.out; (repeat' (first | with_reducible exact Below.refl _ _ | with_reducible assumption | with_reducible refine below_alloc ?_ ?_ _ | with_reducible refine Below.setCell ?_ ?_ _ | with_reducible refine Below.drew ?_ | with_reducible refine below_drewN ?_ _ | with_reducible refine below_step (by assumption) ?_ ?_ | (with_reducible refine Below.trans ?_ (Below.mono (by assumption) ?_)) | exact Nat.le_refl _ | (simp; done) | (simp; omega) | omega))), by first | exact HN | (show ScanAt _ _ _; have := HN.out; simpa [Nat.add_assoc] using this)⟩
          case measure => simp [intOf]; omega
        have c72 : (((s[i].toNat : Nat) : Int) == 72) = false := by
          have : s[i].toNat ≠ 72 := fun h => h72 (UInt8.toNat_inj.1 h)
          simp; omega
        have HN := Lib.hid (scanAt_step hsc'.out hi (st_two (by simp [h110, h116, h84]) (by simp [h80, h72])))
        clear hsc'
        go_wp2
        go_roundw
        case rel => exact ⟨m - 1 + 2, i + 1, by first | rfl | (congr; omega), by first | rfl | (congr; omega), by omega, by omega, (by show Below _ _ _; have := hbr.out; (repeat' (first | with_reducible exact Below.refl _ _ | with_reducible assumption | with_reducible refine below_alloc ?_ ?_ _ | with_reducible refine Below.setCell ?_ ?_ _ | with_reducible refine Below.drew ?_ | with_reducible refine below_drewN ?_ _ | with_reducible refine below_step (by assumption) ?_ ?_ | (with_reducible refine Below.trans ?_ (Below.mono (by assumption) ?_)) | exact Nat.le_refl _ | (simp; done) | (simp; omega) | omega))), by first | exact HN | (show ScanAt _ _ _; have := HN.out; simpa [Nat.add_assoc] using this)⟩
        case measure => simp [intOf]; omega
      · have H := Lib.hid (scanAt_more hsc'.out (by omega))
        have b1 : decide ((i : Int) < s.length) = false := by simp; omega
        clear hsc'
        go_wp2
        go_ret3
        exact ⟨by rw [H.out]; rfl, by have := hbr.out; (repeat' (first | with_reducible exact Below.refl _ _ | with_reducible assumption | with_reducible refine below_alloc ?_ ?_ _ | with_reducible refine Below.setCell ?_ ?_ _ | with_reducible refine Below.drew ?_ | with_reducible refine below_drewN ?_ _ | with_reducible refine below_step (by assumption) ?_ ?_ | (with_reducible refine Below.trans ?_ (Below.mono (by assumption) ?_)) | exact Nat.le_refl _ | (simp; done) | (simp; omega) | omega))⟩
end Go.Proofs.YtfmckibiblhakaaGreatDoor
