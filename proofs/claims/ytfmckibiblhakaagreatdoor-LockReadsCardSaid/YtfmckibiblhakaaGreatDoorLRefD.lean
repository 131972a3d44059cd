/- The reference's locks: a number, a term's end. -/
import Derived.Test.YtfmckibiblhakaaGreatDoorMRef
import Derived.Test.YtfmckibiblhakaaGreatDoorLRefP
set_option linter.unusedSimpArgs false
set_option linter.unusedVariables false
namespace Go.Proofs.YtfmckibiblhakaaGreatDoor
open Go.RowKit

theorem nlR_at {s : List UInt8} {i : Nat} (h : i < s.length) (e : UInt8) (f j n : Nat) : nlR e (f + 1) j n (s.drop i) =
    if s[i].toNat = e.toNat ∧ 0 < j then some (n, j + 1)
    else if s[i].toNat < 48 ∨ 57 < s[i].toNat ∨ (n = 0 ∧ 0 < j) then none
    else nlR e f (j + 1) (n * 10 + (s[i].toNat - 48)) (s.drop (i + 1)) := by
  rw [List.drop_eq_getElem_cons h, nlR]
  have h1 : (s[i] = e ∧ 0 < j) = (s[i].toNat = e.toNat ∧ 0 < j) := by rw [UInt8.toNat_inj]
  have h2 : (isDg s[i] = false ∨ (n = 0 ∧ 0 < j)) = (s[i].toNat < 48 ∨ 57 < s[i].toNat ∨ (n = 0 ∧ 0 < j)) := by
    rw [← or_assoc]
    congr 1
    simp only [isDg, Bool.and_eq_false_iff, decide_eq_false_iff_not, eq_iff_iff]
    omega
  simp only [h1, h2]
theorem nlR_end {s : List UInt8} {i : Nat} (h : s.length ≤ i) (e : UInt8) (f j n : Nat) : nlR e f j n (s.drop i) = none := by
  rw [List.drop_of_length_le h]
  cases f <;> rw [nlR]
theorem numRV_ok {a n k : Nat} {x y : Int} (hx : x = n) (hy : y = (a + k : Nat)) : Ending.returned (.tuple #[.int .i64 x, .int .i64 y]) = Ending.returned (numRV (some (n, k)) a) := by
  subst hx hy; simp [numRV]
theorem numRV_no (a : Nat) : Ending.returned (.tuple #[.int .i64 0, .int .i64 (-1)]) = Ending.returned (numRV none a) := rfl

set_option maxRecDepth 100000 in
set_option maxHeartbeats 2000000 in
theorem rlNumber0 (e : UInt8) (s : List UInt8) (a : Nat) (ha : a ≤ s.length) (hs : s.length ≤ 1000000000000) (w : World) :
    Calls Tryz.prog 114 #[.string (bs s), .int .i64 a, .int .u8 e.toNat] w fun en w' => en = .returned (numRV (nlR e 11 0 0 (s.drop a)) a) ∧ w = w' := by
  have HX : Hid (nlR e 11 0 0 (s.drop a) = nlR e (11 - 0) 0 0 (s.drop (a + 0))) := rfl
  go_enter Tryz.func114, Tryz.ntmps114
  go_wp2
  go_loop [8, 9] (fun n i => ∃ (k m : Nat), a + k ≤ s.length ∧ k ≤ 11 ∧ m < 10 ^ k ∧ i = .int .i64 (a + k : Nat) ∧ n = .int .i64 m ∧ (nlR e 11 0 0 (s.drop a) = nlR e (11 - k) k m (s.drop (a + k)))) (fun _ i => s.length - (intOf i).toNat)
  case atStart => exact ⟨0, 0, by omega, by omega, by simp, rfl, rfl, HX⟩
  case round =>
    obtain ⟨k, m, hk, hk11, hm, rfl, rfl, hnum⟩ := hrel
    have hmb : m ≤ 100000000000 := by
      have : 10 ^ k ≤ 10 ^ 11 := Nat.pow_le_pow_right (by omega) hk11
      omega
    have hpw : 10 ^ (k + 1) = 10 * 10 ^ k := by rw [Nat.pow_succ, Nat.mul_comm]
    have HM := Lib.hid hm
    have HPW := Lib.hid hpw
    clear hm hpw
    by_cases hlt : a + k < s.length
    · by_cases hlt2 : k < 11
      · obtain ⟨f, hf⟩ : ∃ f, 11 - k = f + 1 := ⟨10 - k, by omega⟩
        have hf2 : 11 - (k + 1) = f := by omega
        rw [hf, nlR_at hlt] at hnum
        have hc : s[a + k].toNat < 256 := s[a + k].toNat_lt
        have HN := Lib.hid hnum
        have HF2 := Lib.hid hf2
        clear hnum HX hf hf2
        go_wp2
        all_goals first
          | (go_ret2
             refine ⟨?_, rfl⟩
             rw [HN.out]
             repeat' split
             all_goals first
               | (refine numRV_ok ?_ ?_ <;> omega)
               | exact numRV_no _
               | (exfalso; omega))
          | (go_round
             case rel =>
               have h := HN.out
               rw [if_neg (by omega), if_neg (by omega)] at h
               refine ⟨k + 1, m * 10 + (s[a + k].toNat - 48), by omega, by omega, by (have h1 := HPW.out; have h2 := HM.out; omega), by go_num, ?_, by rw [HF2.out, h, Nat.add_assoc]⟩
               congr 1; omega
             case measure => simp [intOf]; omega)
      · obtain rfl : k = 11 := by omega
        rw [show 11 - 11 = 0 by rfl, nlR] at hnum
        have HN := Lib.hid hnum
        clear hnum HX
        go_wp2
        go_ret2
        exact ⟨by rw [HN.out]; rfl, rfl⟩
    · rw [nlR_end (i := a + k) (by omega)] at hnum
      have HN := Lib.hid hnum
      clear hnum HX
      go_wp2
      go_ret2
      exact ⟨by rw [HN.out]; rfl, rfl⟩
theorem rlNumber (e : UInt8) (s : List UInt8) (a x : Int) (h0 : 0 ≤ a) (ha : a ≤ s.length) (hx : x = e.toNat) (hs : s.length ≤ 1000000000000) (w : World) :
    Calls Tryz.prog 114 #[.string (bs s), .int .i64 a, .int .u8 x] w fun en w' => en = .returned (numRV (nlR e 11 0 0 (s.drop a.toNat)) a.toNat) ∧ w = w' := by
  obtain ⟨i, rfl⟩ := Int.eq_ofNat_of_zero_le h0
  subst hx
  simpa using rlNumber0 e s i (by omega) hs w

set_option maxHeartbeats 400000 in
theorem rlEnds (c : UInt8) (w : World) :
    Calls Tryz.prog 148 #[.int .u8 c.toNat] w fun en w' => en = .returned (.bool (endsC c)) ∧ w = w' := by
  have H : Hid (endsC c = (c.toNat == 115 || c.toNat == 112 || c.toNat == 97 || c.toNat == 111 || c.toNat == 38 || c.toNat == 124)) := by
    show endsC c = _
    unfold endsC
    have : ∀ d : UInt8, (c == d) = (c.toNat == d.toNat) := fun d => by
      rw [Bool.eq_iff_iff]; simp [UInt8.toNat_inj]
    simp only [this, UInt8.reduceToNat]
  have hc : c.toNat < 256 := c.toNat_lt
  go_enter Tryz.func148, Tryz.ntmps148
  go_wp2
  all_goals
    go_ret
    refine ⟨?_, rfl⟩
    rw [H.out]
    (refine congrArg (fun b : Bool => Ending.returned (.bool b)) ?_; rw [Bool.eq_iff_iff]; simp only [beq_iff_eq, beq_eq_false_iff_ne, bne_iff_ne, bne_eq_false_iff_eq, ne_eq, Bool.or_eq_true, Bool.and_eq_true, Bool.not_eq_true', decide_eq_true_eq, decide_eq_false_iff_not, Bool.or_eq_false_iff, Bool.and_eq_false_iff, eq_self, true_iff, iff_true, Bool.false_eq_true, Bool.true_eq_false, false_iff, iff_false] at *; omega)

end Go.Proofs.YtfmckibiblhakaaGreatDoor
