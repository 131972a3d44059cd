/- A number as the program reads it (up to a byte, by the library's ParseInt) is a number as the reference reads it. -/
import Derived.Test.YtchbhainmalbbaaDoorSpecC
import Derived.Lib.ParseIntB
import Derived.Lib.Bytealg
namespace Go.Proofs.YtchbhainmalbbaaDoor
open Go.Lib (parseUintM parseUintB parseIntB indexByte NumEnd)

theorem idx_ge : ∀ (l : List UInt8) (e : UInt8), -1 ≤ indexByte l e
  | [], _ => by simp [indexByte]
  | b :: l, e => by
    have := idx_ge l e
    simp only [indexByte]
    split
    · omega
    · split <;> omega
theorem idx_none : ∀ (l : List UInt8) (e : UInt8), indexByte l e = -1 → ∀ x ∈ l, x ≠ e
  | [], _, _ => by simp
  | b :: l, e, h => by
    simp only [indexByte] at h
    split at h
    · omega
    · rename_i hb
      split at h
      · rename_i h1
        intro x hx
        rcases List.mem_cons.1 hx with rfl | hx
        · simpa using hb
        · exact idx_none l e (by simpa using h1) x hx
      · rename_i h1
        have := idx_ge l e
        simp at h1
        omega
theorem idx_some : ∀ (l : List UInt8) (e : UInt8) (k : Nat), indexByte l e = k → ∃ p q, l = p ++ e :: q ∧ p.length = k ∧ ∀ x ∈ p, x ≠ e
  | [], _, _, h => by simp only [indexByte] at h; omega
  | b :: l, e, k, h => by
    simp only [indexByte] at h
    split at h
    · rename_i hb
      have hb' : b = e := by simpa using hb
      subst hb'
      exact ⟨[], l, rfl, by simp only [List.length_nil]; omega, by simp⟩
    · rename_i hb
      split at h
      · omega
      · rename_i h1
        have h2 := idx_ge l e
        simp at h1
        obtain ⟨p, q, h3, h4, h5⟩ := idx_some l e (k - 1) (by omega)
        refine ⟨b :: p, q, by rw [h3]; rfl, by simp; omega, ?_⟩
        intro x hx
        rcases List.mem_cons.1 hx with rfl | hx
        · simpa using hb
        · exact h5 x hx
theorem idx_range (l : List UInt8) (e : UInt8) : -1 ≤ indexByte l e := idx_ge l e

theorem pum_le (M : Nat) : ∀ (p : List UInt8) (acc u : Nat), parseUintM M acc p = .ok u → acc * 10 ^ p.length ≤ u
  | [], acc, u, h => by simp only [parseUintM, NumEnd.ok.injEq] at h; simp [h]
  | c :: r, acc, u, h => by
    simp only [parseUintM] at h
    split at h
    · split at h
      · simp at h
      · split at h
        · simp at h
        · have := pum_le M r _ u h
          rw [List.length_cons, Nat.pow_succ]
          have h2 : acc * (10 ^ r.length * 10) = (acc * 10) * 10 ^ r.length := by rw [Nat.mul_comm (10 ^ r.length) 10, Nat.mul_assoc]
          rw [h2]
          exact Nat.le_trans (Nat.mul_le_mul_right _ (by omega)) this
    · simp at h

def okN (k : Nat) : NumEnd Nat → Option (Nat × Nat)
  | .ok u => if u ≤ 9223372036854775807 then some (u, k) else none
  | _ => none

theorem numGo_big (e : UInt8) (he : e.toNat = 58 ∨ e.toNat = 59) (q : List UInt8) : ∀ (p : List UInt8) (m j : Nat), (∀ x ∈ p, x ≠ e) → 0 < m → m ≤ 9223372036854775807 → 0 < j →
    numGo e (p ++ e :: q) m j = okN (j + p.length + 1) (parseUintM (2 ^ 64 - 1) m p)
  | [], m, j, _, hm, hm2, hj => by
    simp only [List.nil_append, numGo, parseUintM, okN]
    rw [if_pos (by simp [hj]), if_pos hm2]; rfl
  | c :: r, m, j, hp, hm, hm2, hj => by
    have hc : c.toNat ≠ e.toNat := fun h => hp c (by simp) (UInt8.toNat_inj.1 h)
    simp only [List.cons_append, numGo, parseUintM]
    rw [if_neg (by omega)]
    by_cases hd : 48 ≤ c.toNat ∧ c.toNat ≤ 57
    · rw [if_neg (by omega), if_pos hd]
      by_cases hb : (9223372036854775807 - (c.toNat - 48)) / 10 < m
      · rw [if_pos hb]
        split
        · rfl
        · split
          · rfl
          · cases hr : parseUintM (2 ^ 64 - 1) (m * 10 + (c.toNat - 48)) r
            case ok u =>
              have h1 := pum_le _ _ _ _ hr
              have h2 : 1 ≤ 10 ^ r.length := Nat.pow_pos (by omega)
              have h3 : (m * 10 + (c.toNat - 48)) * 1 ≤ (m * 10 + (c.toNat - 48)) * 10 ^ r.length := Nat.mul_le_mul_left _ h2
              simp only [okN]
              rw [if_neg (by omega)]
            all_goals rfl
      · rw [if_neg hb, if_neg (by omega), if_neg (by omega)]
        rw [numGo_big e he q r _ _ (fun x hx => hp x (by simp [hx])) (by omega) (by omega) (by omega)]
        simp only [List.length_cons]
        rw [show j + 1 + r.length + 1 = j + (r.length + 1) + 1 by omega]
    · rw [if_pos (by omega), if_neg hd]; rfl

/-- What ParseInt reads. -/
def parsed (p : List UInt8) : Option Nat := match parseIntB 64 p with | .ok v => some v.toNat | _ => none

/-- What the program does with the text up to the byte. -/
def progNum (p : List UInt8) : Option Nat :=
  if p.length < 1 ∨ 19 < p.length ∨ (head p).toNat = 48 ∧ 1 < p.length ∨ (head p).toNat < 48 ∨ 57 < (head p).toNat then none
  else match parseIntB 64 p with
    | .ok v => some v.toNat
    | _ => none

theorem num_prog (e : UInt8) (he : e.toNat = 58 ∨ e.toNat = 59) (p q : List UInt8) (hp : ∀ x ∈ p, x ≠ e) : num e (p ++ e :: q) = (progNum p).map fun n => (n, p.length + 1) := by
  unfold num
  cases p with
  | nil =>
    simp only [List.nil_append, numGo, progNum]
    rw [if_neg (by omega), if_pos (by omega)]
    simp
  | cons c r =>
    have hc : c.toNat ≠ e.toNat := fun h => hp c (by simp) (UInt8.toNat_inj.1 h)
    have hhd : head (c :: r) = c := rfl
    simp only [List.cons_append, numGo]
    rw [if_neg (by omega)]
    by_cases hd : 48 ≤ c.toNat ∧ c.toNat ≤ 57
    · rw [if_neg (by omega), if_neg (by omega)]
      have hpi : parseIntB 64 (c :: r) = match parseUintM (2 ^ 64 - 1) (c.toNat - 48) r with
          | .ok u => if 2 ^ 63 ≤ u then .range else .ok (u : Int)
          | .range => .range
          | _ => parseIntB 64 [] := by
        simp only [parseIntB]
        rw [if_neg (by omega)]
        simp only [parseUintB, parseUintM]
        rw [if_neg (by simp), if_pos hd, if_neg (by omega), if_neg (by omega)]
        simp only [Nat.zero_mul, Nat.zero_add]
        have h45 : ¬ c.toNat = 45 := by omega
        cases parseUintM (2 ^ 64 - 1) (c.toNat - 48) r
        case ok u => simp only [h45, not_false_eq_true, true_and, false_and, if_false]
        all_goals rfl
      by_cases h48 : c.toNat = 48
      · cases r with
        | nil =>
          simp only [List.nil_append, numGo]
          rw [if_pos (by simp)]
          have : progNum [c] = some 0 := by
            unfold progNum
            rw [hhd, if_neg (by simp; omega), hpi]
            simp [parseUintM, h48]
          rw [this, h48]; rfl
        | cons c2 r2 =>
          have hc2 : c2.toNat ≠ e.toNat := fun h => hp c2 (by simp) (UInt8.toNat_inj.1 h)
          have : progNum (c :: c2 :: r2) = none := by
            unfold progNum
            rw [hhd, if_pos (by simp; omega)]
          rw [this]
          simp only [List.cons_append, numGo]
          rw [if_neg (by omega), if_pos (by omega)]; rfl
      · rw [Nat.zero_mul, Nat.zero_add, numGo_big e he q r _ _ (fun x hx => hp x (by simp [hx])) (by omega) (by omega) (by omega)]
        by_cases hlen : 19 < (c :: r).length
        · have : progNum (c :: r) = none := by
            unfold progNum
            rw [if_pos (by omega)]
          rw [this]
          cases hr : parseUintM (2 ^ 64 - 1) (c.toNat - 48) r
          case ok u =>
            have h1 := pum_le _ _ _ _ hr
            have h2 : 10 ^ 19 ≤ 10 ^ r.length := Nat.pow_le_pow_right (by omega) (by simp at hlen; omega)
            have h3 : 1 * 10 ^ 19 ≤ (c.toNat - 48) * 10 ^ r.length := Nat.mul_le_mul (by omega) h2
            simp only [okN]
            rw [if_neg (by omega)]; rfl
          all_goals rfl
        · have : progNum (c :: r) = match parseIntB 64 (c :: r) with
              | .ok v => some v.toNat
              | _ => none := by
            unfold progNum
            rw [hhd, if_neg (by simp at hlen ⊢; omega)]
          rw [this, hpi]
          cases hr : parseUintM (2 ^ 64 - 1) (c.toNat - 48) r
          case ok u =>
            simp only [okN]
            by_cases hu : u ≤ 9223372036854775807
            · rw [if_pos hu, if_neg (by omega)]
              simp only [Option.map_some, Int.toNat_natCast, List.length_cons]
              rw [show 0 + 1 + r.length + 1 = r.length + 1 + 1 by omega]
            · rw [if_neg hu, if_pos (by omega)]; rfl
          all_goals rfl
    · rw [if_pos (by omega)]
      have : progNum (c :: r) = none := by
        unfold progNum
        rw [hhd, if_pos (by omega)]
      rw [this]; rfl

theorem num_absent (e : UInt8) : ∀ (l : List UInt8) (m j : Nat), (∀ x ∈ l, x ≠ e) → numGo e l m j = none
  | [], _, _, _ => rfl
  | c :: r, m, j, h => by
    have hc : c.toNat ≠ e.toNat := fun h' => h c (by simp) (UInt8.toNat_inj.1 h')
    simp only [numGo]
    rw [if_neg (by omega)]
    split
    · rfl
    · split
      · rfl
      · exact num_absent e r _ _ (fun x hx => h x (by simp [hx]))

end Go.Proofs.YtchbhainmalbbaaDoor
