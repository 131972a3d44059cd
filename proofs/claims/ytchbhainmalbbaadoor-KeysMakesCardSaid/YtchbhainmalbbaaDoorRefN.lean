/- The reference's reader of numbers. -/
import Derived.Test.YtchbhainmalbbaaDoorSpecB
namespace Go.Proofs.YtchbhainmalbbaaDoor
open Go.RowKit

def numV (at_ : Nat) : Option (Nat × Nat) → Value
  | some (n, k) => .tuple #[.int .u64 n, .int .i64 (at_ + k : Nat)]
  | none => .tuple #[.int .u64 0, .int .i64 (-1)]

theorem numGo_at {l : List UInt8} {i : Nat} (h : i < l.length) (e : UInt8) (m k : Nat) : numGo e (l.drop i) m k =
    if l[i].toNat = e.toNat ∧ 0 < k then some (m, k + 1)
    else if l[i].toNat < 48 ∨ 57 < l[i].toNat ∨ (m = 0 ∧ 0 < k) then none
    else if (9223372036854775807 - (l[i].toNat - 48)) / 10 < m then none
    else numGo e (l.drop (i + 1)) (m * 10 + (l[i].toNat - 48)) (k + 1) := by
  rw [List.drop_eq_getElem_cons h, numGo]
theorem numGo_end {l : List UInt8} {i : Nat} (h : l.length ≤ i) (e : UInt8) (m k : Nat) : numGo e (l.drop i) m k = none := by
  rw [List.drop_of_length_le h, numGo]
theorem numV_ok {at_ n k : Nat} {a b : Int} (ha : a = n) (hb : b = (at_ + k : Nat)) : Ending.returned (.tuple #[.int .u64 a, .int .i64 b]) = Ending.returned (numV at_ (some (n, k))) := by
  subst ha hb; rfl
theorem numV_no (at_ : Nat) : Ending.returned (.tuple #[.int .u64 0, .int .i64 (-1)]) = Ending.returned (numV at_ none) := rfl

set_option maxHeartbeats 1000000 in
theorem refNumber (l : List UInt8) (at_ : Nat) (e : UInt8) (hat : at_ ≤ l.length) (hl : l.length ≤ 9000000000000000000) (w : World) :
    Calls Tryd.prog 111 #[.string (bs l), .int .i64 at_, .int .u8 e.toNat] w fun en w' => en = .returned (numV at_ (num e (l.drop at_))) ∧ w = w' := by
  have HX : Hid (num e (l.drop at_) = numGo e (l.drop (at_ + 0)) 0 0) := rfl
  go_enter Tryd.func111, Tryd.ntmps111
  go_wp2
  go_loop [8, 9] (fun n i => ∃ (k m : Nat), at_ + k ≤ l.length ∧ m ≤ 9223372036854775807 ∧ i = .int .i64 (at_ + k : Nat) ∧ n = .int .u64 m ∧ (num e (l.drop at_) = numGo e (l.drop (at_ + k)) m k)) (fun _ i => l.length - (intOf i).toNat)
  case atStart => exact ⟨0, 0, by omega, by omega, rfl, rfl, HX⟩
  case round =>
    obtain ⟨k, m, hk, hm, rfl, rfl, hnum⟩ := hrel
    by_cases hlt : at_ + k < l.length
    · rw [numGo_at hlt] at hnum
      have hc : l[at_ + k].toNat < 256 := l[at_ + k].toNat_lt
      have HN := Lib.hid hnum
      clear hnum HX
      go_wp2
      all_goals first
        | (go_ret2
           refine ⟨?_, rfl⟩
           rw [HN.out]
           repeat' split
           all_goals first
             | (refine numV_ok ?_ ?_ <;> omega)
             | exact numV_no _
             | (exfalso; omega))
        | (go_round
           case rel =>
             have h := HN.out
             rw [if_neg (by omega), if_neg (by omega), if_neg (by omega)] at h
             refine ⟨k + 1, m * 10 + (l[at_ + k].toNat - 48), by omega, by omega, by go_num, ?_, by rw [h, Nat.add_assoc]⟩
             congr 1; omega
           case measure => simp [intOf]; omega)
    · rw [numGo_end (by omega)] at hnum
      have HN := Lib.hid hnum
      clear hnum HX
      go_wp2
      go_ret2
      exact ⟨by rw [HN.out]; rfl, rfl⟩
theorem refNumberI (l : List UInt8) (a x : Int) (e : UInt8) (h0 : 0 ≤ a) (hat : a ≤ l.length) (hx : x = e.toNat) (hl : l.length ≤ 9000000000000000000) (w : World) :
    Calls Tryd.prog 111 #[.string (bs l), .int .i64 a, .int .u8 x] w fun en w' => en = .returned (numV a.toNat (num e (l.drop a.toNat))) ∧ w = w' := by
  obtain ⟨i, rfl⟩ := Int.eq_ofNat_of_zero_le h0
  subst hx
  simpa using refNumber l i e (by omega) hl w

end Go.Proofs.YtchbhainmalbbaaDoor
