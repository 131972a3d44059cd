/- The program's locks: number, cut. -/
import Derived.Test.YtfmckibiblhakaaGreatDoorLockY
set_option linter.unusedSimpArgs false
set_option linter.unusedVariables false
namespace Go.Proofs.YtfmckibiblhakaaGreatDoor
open Go.RowKit

set_option maxRecDepth 100000 in
set_option maxHeartbeats 4000000 in
theorem lkNumber (e : UInt8) (s : List UInt8) (hs : s.length ≤ 200000000000000) (w : World) (hG : GOk w) :
    Calls Tryz.prog 82 #[.string (bs s), .string (bs [e])] w fun en w' => en = .returned (numV e s) ∧ Below w.heap.size w w' := by
  have HG := Lib.hid hG
  clear hG
  have hcut := lkCut e s (by omega)
  unfold cutV at hcut
  by_cases he : e ∈ s
  · rw [if_pos he] at hcut
    have hP : numP e s = if goodNum (s.takeWhile (· != e)) then some (decV (s.takeWhile (· != e)), s.drop ((s.takeWhile (· != e)).length + 1)) else none := by unfold numP; rw [if_pos he]
    have hdl := tw_lt he
    generalize s.drop ((s.takeWhile (· != e)).length + 1) = rs at *
    generalize s.takeWhile (· != e) = ds at *
    have HC := Lib.hid hcut
    clear hcut he
    match ds, hP, HC, hdl with
    | [], hP, HC, _ =>
      have H : Hid (numV e s = .tuple #[.int .i64 0, .string (bs []), .bool false]) := numV_none (by rw [hP]; rfl)
      clear hP
      go_enter Tryz.func82, Tryz.ntmps82
      go_wp2_with fail
      refine (HC.out _).mono ?_
      rintro en w1 ⟨rfl, hb1⟩
      go_wp2_with fail
      go_ret3
      exact ⟨by rw [H.out]; rfl, hb1⟩
    | c0 :: dr, hP, HC, hdl =>
      have hlen : (c0 :: dr).length = dr.length + 1 := rfl
      have a0 : (((dr.length : Int) + 1) == 0) = false := by simp; omega
      by_cases h10 : 10 < dr.length + 1
      · have b1 : decide (10 < (dr.length : Int) + 1) = true := by simp; omega
        have H : Hid (numV e s = .tuple #[.int .i64 0, .string (bs []), .bool false]) := numV_none (by rw [hP, if_neg (by simp [goodNum]; omega)])
        clear hP
        go_enter Tryz.func82, Tryz.ntmps82
        go_wp2_with fail
        refine (HC.out _).mono ?_
        rintro en w1 ⟨rfl, hb1⟩
        go_wp2_with fail
        go_ret3
        exact ⟨by rw [H.out]; rfl, by (repeat' (first | with_reducible exact Below.refl _ _ | with_reducible assumption | with_reducible refine below_alloc ?_ ?_ _ | with_reducible refine Below.setCell ?_ ?_ _ | with_reducible refine Below.drew ?_ | with_reducible refine below_drewN ?_ _ | with_reducible refine below_step (by assumption) ?_ ?_ | (with_reducible refine Below.trans ?_ (Below.mono (by assumption) ?_)) | exact Nat.le_refl _ | (simp; done) | (simp; omega) | omega))⟩
      · have b1 : decide (10 < (dr.length : Int) + 1) = false := by simp; omega
        by_cases h1 : 1 < dr.length + 1
        · have b2 : decide (1 < (dr.length : Int) + 1) = true := by simp; omega
          by_cases h48 : c0 = 48
          · subst h48
            have hne : dr ≠ [] := fun h => by subst h; simp at h1
            have H : Hid (numV e s = .tuple #[.int .i64 0, .string (bs []), .bool false]) := numV_none (by rw [hP, if_neg (by simp [goodNum, head, hne])])
            clear hne
            clear hP
            go_enter Tryz.func82, Tryz.ntmps82
            go_wp2_with fail
            refine (HC.out _).mono ?_
            rintro en w1 ⟨rfl, hb1⟩
            go_wp2_with fail
            go_ret3
            exact ⟨by rw [H.out]; rfl, by (repeat' (first | with_reducible exact Below.refl _ _ | with_reducible assumption | with_reducible refine below_alloc ?_ ?_ _ | with_reducible refine Below.setCell ?_ ?_ _ | with_reducible refine Below.drew ?_ | with_reducible refine below_drewN ?_ _ | with_reducible refine below_step (by assumption) ?_ ?_ | (with_reducible refine Below.trans ?_ (Below.mono (by assumption) ?_)) | exact Nat.le_refl _ | (simp; done) | (simp; omega) | omega))⟩
          · have b3 : (((c0.toNat : Nat) : Int) == 48) = false := by
              have : c0.toNat ≠ 48 := fun h => h48 (UInt8.toNat_inj.1 h)
              simp; omega
            cases hall : (c0 :: dr).all isDg with
            | false =>
              have HA : Hid ((!((c0 :: dr).all isDg)) = true) := by show (!_) = true; rw [hall]; rfl
              have H : Hid (numV e s = .tuple #[.int .i64 0, .string (bs []), .bool false]) := numV_none (by rw [hP, if_neg (by simp only [goodNum, hall]; simp)])
              clear hP hall
              go_enter Tryz.func82, Tryz.ntmps82
              go_wp2_with fail
              refine (HC.out _).mono ?_
              rintro en w1 ⟨rfl, hb1⟩
              go_wp2_with fail
              refine (lkDigits _ _).mono ?_
              rintro en w2 ⟨rfl, hb2⟩
              rw [HA.out]
              go_wp2_with fail
              go_ret3
              exact ⟨by rw [H.out]; rfl, by (repeat' (first | with_reducible exact Below.refl _ _ | with_reducible assumption | with_reducible refine below_alloc ?_ ?_ _ | with_reducible refine Below.setCell ?_ ?_ _ | with_reducible refine Below.drew ?_ | with_reducible refine below_drewN ?_ _ | with_reducible refine below_step (by assumption) ?_ ?_ | (with_reducible refine Below.trans ?_ (Below.mono (by assumption) ?_)) | exact Nat.le_refl _ | (simp; done) | (simp; omega) | omega))⟩
            | true =>
              have HA : Hid ((!((c0 :: dr).all isDg)) = false) := by show (!_) = false; rw [hall]; rfl
              have HV := Lib.hid (atoi_dec (by simp) hall (by first | (simp; done) | (simp; omega)))
              have H : Hid (numV e s = .tuple #[.int .i64 (decV (c0 :: dr) : Nat), .string (bs rs), .bool true]) := numV_some (by rw [hP, if_pos (by simp only [goodNum, hall]; simp [head, h48]; omega)])
              clear hP hall
              go_enter Tryz.func82, Tryz.ntmps82
              go_wp2_with fail
              refine (HC.out _).mono ?_
              rintro en w1 ⟨rfl, hb1⟩
              go_wp2_with fail
              refine (lkDigits _ _).mono ?_
              rintro en w2 ⟨rfl, hb2⟩
              rw [HA.out]
              go_wp2_with fail
              refine (tAtoi _ (by first | (simp; done) | (simp; omega)) _ (gok_below (gok_below HG.out hb1) hb2).err).mono ?_
              rintro en w3 ⟨hb3, v, er, rfl, hv⟩
              obtain rfl : v = (decV (c0 :: dr) : Int) := by
                rcases hv with ⟨h1, _⟩ | ⟨h1, _⟩
                · rw [HV.out] at h1; cases h1; rfl
                · exact absurd HV.out (h1 _)
              clear hv
              go_wp2_with fail
              go_ret3
              exact ⟨by rw [H.out]; rfl, by (repeat' (first | with_reducible exact Below.refl _ _ | with_reducible assumption | with_reducible refine below_alloc ?_ ?_ _ | with_reducible refine Below.setCell ?_ ?_ _ | with_reducible refine Below.drew ?_ | with_reducible refine below_drewN ?_ _ | with_reducible refine below_step (by assumption) ?_ ?_ | (with_reducible refine Below.trans ?_ (Below.mono (by assumption) ?_)) | exact Nat.le_refl _ | (simp; done) | (simp; omega) | omega))⟩
        · have b2 : decide (1 < (dr.length : Int) + 1) = false := by simp; omega
          obtain rfl : dr = [] := List.eq_nil_of_length_eq_zero (by omega)
          cases hall : [c0].all isDg with
          | false =>
            have HA : Hid ((!([c0].all isDg)) = true) := by show (!_) = true; rw [hall]; rfl
            have H : Hid (numV e s = .tuple #[.int .i64 0, .string (bs []), .bool false]) := numV_none (by rw [hP, if_neg (by simp only [goodNum, hall]; simp)])
            clear hP hall
            go_enter Tryz.func82, Tryz.ntmps82
            go_wp2_with fail
            refine (HC.out _).mono ?_
            rintro en w1 ⟨rfl, hb1⟩
            go_wp2_with fail
            refine (lkDigits _ _).mono ?_
            rintro en w2 ⟨rfl, hb2⟩
            rw [HA.out]
            go_wp2_with fail
            go_ret3
            exact ⟨by rw [H.out]; rfl, by (repeat' (first | with_reducible exact Below.refl _ _ | with_reducible assumption | with_reducible refine below_alloc ?_ ?_ _ | with_reducible refine Below.setCell ?_ ?_ _ | with_reducible refine Below.drew ?_ | with_reducible refine below_drewN ?_ _ | with_reducible refine below_step (by assumption) ?_ ?_ | (with_reducible refine Below.trans ?_ (Below.mono (by assumption) ?_)) | exact Nat.le_refl _ | (simp; done) | (simp; omega) | omega))⟩
          | true =>
            have HA : Hid ((!([c0].all isDg)) = false) := by show (!_) = false; rw [hall]; rfl
            have HV := Lib.hid (atoi_dec (by simp) hall (by first | (simp; done) | (simp; omega)))
            have H : Hid (numV e s = .tuple #[.int .i64 (decV [c0] : Nat), .string (bs rs), .bool true]) := numV_some (by rw [hP, if_pos (by simp only [goodNum, hall]; simp [head])])
            clear hP hall
            go_enter Tryz.func82, Tryz.ntmps82
            go_wp2_with fail
            refine (HC.out _).mono ?_
            rintro en w1 ⟨rfl, hb1⟩
            go_wp2_with fail
            refine (lkDigits _ _).mono ?_
            rintro en w2 ⟨rfl, hb2⟩
            rw [HA.out]
            go_wp2_with fail
            refine (tAtoi _ (by first | (simp; done) | (simp; omega)) _ (gok_below (gok_below HG.out hb1) hb2).err).mono ?_
            rintro en w3 ⟨hb3, v, er, rfl, hv⟩
            obtain rfl : v = (decV [c0] : Int) := by
              rcases hv with ⟨h1, _⟩ | ⟨h1, _⟩
              · rw [HV.out] at h1; cases h1; rfl
              · exact absurd HV.out (h1 _)
            clear hv
            go_wp2_with fail
            go_ret3
            exact ⟨by rw [H.out]; rfl, by (repeat' (first | with_reducible exact Below.refl _ _ | with_reducible assumption | with_reducible refine below_alloc ?_ ?_ _ | with_reducible refine Below.setCell ?_ ?_ _ | with_reducible refine Below.drew ?_ | with_reducible refine below_drewN ?_ _ | with_reducible refine below_step (by assumption) ?_ ?_ | (with_reducible refine Below.trans ?_ (Below.mono (by assumption) ?_)) | exact Nat.le_refl _ | (simp; done) | (simp; omega) | omega))⟩
  · rw [if_neg he] at hcut
    have H : Hid (numV e s = .tuple #[.int .i64 0, .string (bs []), .bool false]) := numV_none (by unfold numP; rw [if_neg he])
    have HC := Lib.hid hcut
    clear hcut he
    go_enter Tryz.func82, Tryz.ntmps82
    go_wp2_with fail
    refine (HC.out _).mono ?_
    rintro en w1 ⟨rfl, hb1⟩
    go_wp2_with fail
    go_ret3
    exact ⟨by rw [H.out]; rfl, hb1⟩

def cutTV (s : List UInt8) : Value := match cutP s with | some (t, r) => .tuple #[.string (bs t), .string (bs r), .bool true] | none => .tuple #[.string (bs []), .string (bs []), .bool false]
theorem scan_nil (m : Nat) (h : 0 < m) : scan m [] = none := by
  obtain ⟨k, rfl⟩ : ∃ k, m = k + 1 := ⟨m - 1, by omega⟩
  rfl
theorem scan_fail {m : Nat} {c : UInt8} {r : List UInt8} (h : stepT m c r = none) : scan (m + 1) (c :: r) = none := by
  unfold scan
  rw [List.length_cons, scanT, h]
theorem scan_long {m : Nat} {c : UInt8} {r : List UInt8} {k m' : Nat} (h : stepT m c r = some (k, m')) (hk : r.length + 1 < k) : scan (m + 1) (c :: r) = none := by
  unfold scan
  rw [List.length_cons, scanT, h]
  simp only
  rw [if_pos hk]
/-- Where the scan stands. -/
def ScanAt (s : List UInt8) (need i : Nat) : Prop := (if i ≤ s.length then (scan need (s.drop i)).map (· + i) else none) = scan 1 s
theorem scanAt_step {s : List UInt8} {m i k m' : Nat} (h : ScanAt s (m + 1) i) (hi : i < s.length) (hs : stepT m s[i] (s.drop (i + 1)) = some (k, m')) : ScanAt s m' (i + k) := by
  unfold ScanAt at h ⊢
  rw [if_pos (by omega), List.drop_eq_getElem_cons hi] at h
  have hl : (s.drop (i + 1)).length + 1 = s.length - i := by simp; omega
  by_cases hk : i + k ≤ s.length
  · rw [if_pos hk, ← h, scan_step hs (by omega)]
    have e : (s[i] :: s.drop (i + 1)).drop k = s.drop (i + k) := by
      rw [← List.drop_eq_getElem_cons hi, List.drop_drop]
    rw [e, Option.map_map]
    congr 1
    funext x
    simp; omega
  · rw [if_neg hk, ← h, scan_long hs (by omega)]
    rfl
theorem scanAt_fail {s : List UInt8} {m i : Nat} (h : ScanAt s (m + 1) i) (hi : i < s.length) (hs : stepT m s[i] (s.drop (i + 1)) = none) : cutTV s = .tuple #[.string (bs []), .string (bs []), .bool false] := by
  unfold ScanAt at h
  rw [if_pos (by omega), List.drop_eq_getElem_cons hi, scan_fail hs] at h
  unfold cutTV cutP
  rw [← h]
  rfl
theorem scanAt_end {s : List UInt8} {i : Nat} (h : ScanAt s 0 i) (hi : i ≤ s.length) : cutTV s = .tuple #[.string (bs (s.take i)), .string (bs (s.drop i)), .bool true] := by
  unfold ScanAt at h
  rw [if_pos hi, scan_zero] at h
  unfold cutTV cutP
  rw [← h]
  simp
theorem scanAt_out {s : List UInt8} {m i : Nat} (h : ScanAt s m i) (hi : s.length < i) : cutTV s = .tuple #[.string (bs []), .string (bs []), .bool false] := by
  unfold ScanAt at h
  rw [if_neg (by omega)] at h
  unfold cutTV cutP
  rw [← h]
  rfl
theorem scanAt_more {s : List UInt8} {m i : Nat} (h : ScanAt s (m + 1) i) (hi : s.length ≤ i) : cutTV s = .tuple #[.string (bs []), .string (bs []), .bool false] := by
  unfold ScanAt at h
  unfold cutTV cutP
  rw [← h]
  by_cases hl : i ≤ s.length
  · rw [if_pos hl, List.drop_of_length_le (by omega), scan_nil _ (by omega)]
    rfl
  · rw [if_neg hl]
    rfl
/-- A number's place. -/
theorem idx_cons {c e : UInt8} {r : List UInt8} (h : c ≠ e) : Lib.indexByte (c :: r) e = if e ∈ r then (((r.takeWhile (· != e)).length + 1 : Nat) : Int) else -1 := by
  rw [Lib.indexByte, idx_tw e r]
  have h2 : (c == e) = false := by simpa using h
  rw [h2]
  by_cases hm : e ∈ r
  · rw [if_pos hm, if_pos hm]
    have : (((r.takeWhile (· != e)).length : Int) == -1) = false := by first | (simp; done) | (simp; omega)
    simp [this]
  · rw [if_neg hm, if_neg hm]
    simp

end Go.Proofs.YtfmckibiblhakaaGreatDoor
