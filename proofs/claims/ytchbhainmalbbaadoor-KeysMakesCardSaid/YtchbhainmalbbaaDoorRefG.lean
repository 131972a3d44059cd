/- The reference reads a term: no such op; all ways together. -/
import Derived.Test.YtchbhainmalbbaaDoorRefF
namespace Go.Proofs.YtchbhainmalbbaaDoor
open Go.RowKit

set_option maxRecDepth 100000 in
set_option maxHeartbeats 2000000 in
theorem refReadNoOp (l : List UInt8) (i : Nat) (hi : i < l.length) (hl : l.length ≤ 9000000000000000000) (hc0 : l[i].toNat ≠ 110) (hc1 : l[i].toNat ≠ 116)
    (h84 : l[i].toNat ≠ 84) (ha : arity l[i] = none) (D : Int) (hD1 : 1 ≤ D ∧ D ≤ 65) (w : World) :
    Calls Tryd.prog 87 #[.string (bs l), .int .i64 i, .int .i64 D] w (RdPost i w none) := by
  have hD0 : (D == 0) = false := by simp; omega
  have HA : Hid (arV (arity l[i]) = -1) := by show arV (arity l[i]) = -1; rw [ha]; rfl
  clear ha
  go_enter Tryd.func87, Tryd.ntmps87
  go_wp2_with (first | (go_at_call 112; refine (refParts _ _).mono ?_; rintro e w1 ⟨rfl, rfl⟩; rw [HA.out]) | (go_at_call 110; refine (refNone _).mono ?_; rintro e w1 ⟨rfl, hb⟩; (obtain ⟨hcw, hfw⟩ := bcell hb; have hz := hb.size; try simp at hz)))
  exact bodyPost_ret (v := .agg #[.int .i64 (-1), .int .i64 0, .int .u64 0, .int .i64 0, .slice none 0 0]) (by simp [results, Tryd.results87, go_sem, hcw, hz]) rfl (rdPost_none (by (repeat' (first | with_reducible exact Below.refl _ _ | with_reducible assumption | with_reducible refine below_alloc ?_ ?_ _ | with_reducible refine Below.setCell ?_ ?_ _ | with_reducible refine Below.drew ?_ | with_reducible refine below_drewN ?_ _ | with_reducible refine below_step (by assumption) ?_ ?_ | (with_reducible refine Below.trans ?_ (Below.mono (by assumption) ?_)) | exact Nat.le_refl _ | (simp; done) | (simp; omega) | omega))))

set_option maxRecDepth 100000 in
set_option maxHeartbeats 2000000 in
theorem refReadNoTuple (l : List UInt8) (i : Nat) (hi : i < l.length) (hl : l.length ≤ 9000000000000000000) (h84 : l[i].toNat = 84)
    (hn : num 58 (l.drop (i + 1)) = none ∨ ∃ n k, num 58 (l.drop (i + 1)) = some (n, k) ∧ 32 < n) (D : Int) (hD1 : 1 ≤ D ∧ D ≤ 65) (w : World) :
    Calls Tryd.prog 87 #[.string (bs l), .int .i64 i, .int .i64 D] w (RdPost i w none) := by
  have hD0 : (D == 0) = false := by simp; omega
  have HA : Hid (arV (arity l[i]) = -1) := by
    show arV (arity l[i]) = -1
    have : arity l[i] = none := by
      simp only [arity, ← UInt8.toNat_inj, UInt8.reduceToNat]
      rw [if_neg (by omega), if_neg (by omega)]
    rw [this]; rfl
  have et : ((i : Int) + 1).toNat = i + 1 := by omega
  have Ht := Lib.hid et
  clear et
  have hb84 : (((l[i].toNat : Nat) : Int) == 84) = true := by simp [h84]
  have hb110 : (((l[i].toNat : Nat) : Int) == 110) = false := by simp [h84]
  have hb116 : (((l[i].toNat : Nat) : Int) == 116) = false := by simp [h84]
  clear h84
  rcases hn with hn | ⟨n, k, hn, h32⟩
  · have Hn := Lib.hid hn
    clear hn
    go_enter Tryd.func87, Tryd.ntmps87
    go_wp2_with (first | (go_at_call 112; refine (refParts _ _).mono ?_; rintro e w1 ⟨rfl, rfl⟩; rw [HA.out]) | (go_at_call 111; refine (refNumberI _ _ _ 58 (by omega) (by omega) rfl hl _).mono ?_; rintro e w1 ⟨rfl, rfl⟩; rw [Ht.out, Hn.out]; simp only [numV]) | (go_at_call 110; refine (refNone _).mono ?_; rintro e w1 ⟨rfl, hb⟩; (obtain ⟨hcw, hfw⟩ := bcell hb; have hz := hb.size; try simp at hz)))
    exact bodyPost_ret (v := .agg #[.int .i64 (-1), .int .i64 0, .int .u64 0, .int .i64 0, .slice none 0 0]) (by simp [results, Tryd.results87, go_sem, hcw, hz]) rfl (rdPost_none (by (repeat' (first | with_reducible exact Below.refl _ _ | with_reducible assumption | with_reducible refine below_alloc ?_ ?_ _ | with_reducible refine Below.setCell ?_ ?_ _ | with_reducible refine Below.drew ?_ | with_reducible refine below_drewN ?_ _ | with_reducible refine below_step (by assumption) ?_ ?_ | (with_reducible refine Below.trans ?_ (Below.mono (by assumption) ?_)) | exact Nat.le_refl _ | (simp; done) | (simp; omega) | omega))))
  · obtain ⟨hk2, hkl, hnb⟩ := num_bound hn
    rw [List.length_drop] at hkl
    have hkl' : (i : Int) + 1 + k ≤ l.length := by omega
    have Hn := Lib.hid hn
    clear hn hkl
    go_enter Tryd.func87, Tryd.ntmps87
    go_wp2_with (first | (go_at_call 112; refine (refParts _ _).mono ?_; rintro e w1 ⟨rfl, rfl⟩; rw [HA.out]) | (go_at_call 111; refine (refNumberI _ _ _ 58 (by omega) (by omega) rfl hl _).mono ?_; rintro e w1 ⟨rfl, rfl⟩; rw [Ht.out, Hn.out]; simp only [numV]) | (go_at_call 110; refine (refNone _).mono ?_; rintro e w1 ⟨rfl, hb⟩; (obtain ⟨hcw, hfw⟩ := bcell hb; have hz := hb.size; try simp at hz)))
    exact bodyPost_ret (v := .agg #[.int .i64 (-1), .int .i64 0, .int .u64 0, .int .i64 0, .slice none 0 0]) (by simp [results, Tryd.results87, go_sem, hcw, hz]) rfl (rdPost_none (by (repeat' (first | with_reducible exact Below.refl _ _ | with_reducible assumption | with_reducible refine below_alloc ?_ ?_ _ | with_reducible refine Below.setCell ?_ ?_ _ | with_reducible refine Below.drew ?_ | with_reducible refine below_drewN ?_ _ | with_reducible refine below_step (by assumption) ?_ ?_ | (with_reducible refine Below.trans ?_ (Below.mono (by assumption) ?_)) | exact Nat.le_refl _ | (simp; done) | (simp; omega) | omega))))

theorem refReadAll (l : List UInt8) (hl : l.length ≤ 9000000000000000000) (d : Nat) : d ≤ 64 → RefIH d l := by
  induction d with
  | zero =>
    intro _ a D w h0 h1 hD
    have := refRead0 l a D h0 h1 hl (.inl (by omega)) w
    simpa only [rd] using this
  | succ d ih =>
    intro hd a D w h0 h1 hD
    obtain ⟨i, rfl⟩ := Int.eq_ofNat_of_zero_le h0
    rw [Int.toNat_natCast]
    by_cases hi : i < l.length
    · by_cases hc0 : l[i].toNat = 110
      · exact refReadName l i d hi hl hc0 D (by omega) w
      · by_cases hc1 : l[i].toNat = 116
        · exact refReadText l i d hi hl hc1 D (by omega) w
        · cases hcnt : cnt l[i] (l.drop (i + 1)) with
          | some x =>
            obtain ⟨m, k⟩ := x
            by_cases h84 : l[i].toNat = 84
            · exact refReadKidsB l i d m k hi hl hc0 hc1 h84 (by omega) (ih (by omega)) hcnt D (by omega) w
            · exact refReadKidsA l i d m k hi hl hc0 hc1 h84 (by omega) (ih (by omega)) hcnt D (by omega) w
          | none =>
            rw [rd_at hi, if_neg hc0, if_neg hc1, hcnt]
            simp only [cnt, ← UInt8.toNat_inj, UInt8.reduceToNat] at hcnt
            by_cases h84 : l[i].toNat = 84
            · rw [if_pos h84] at hcnt
              refine refReadNoTuple l i hi hl h84 ?_ D (by omega) w
              cases hn : num 58 (l.drop (i + 1)) with
              | none => exact .inl rfl
              | some y =>
                obtain ⟨n, k⟩ := y
                simp only [hn] at hcnt
                split at hcnt
                · exact .inr ⟨n, k, rfl, ‹_›⟩
                · simp at hcnt
            · rw [if_neg h84] at hcnt
              refine refReadNoOp l i hi hl hc0 hc1 h84 ?_ D (by omega) w
              cases ha : arity l[i] with
              | none => rfl
              | some v => simp [ha] at hcnt
    · have hl1 : l.length = i := by omega
      have := refRead0 l i D (by omega) h1 hl (.inr (by omega)) w
      rw [List.drop_of_length_le (by omega)]
      simpa only [rd, Int.toNat_natCast] using this

end Go.Proofs.YtchbhainmalbbaaDoor
