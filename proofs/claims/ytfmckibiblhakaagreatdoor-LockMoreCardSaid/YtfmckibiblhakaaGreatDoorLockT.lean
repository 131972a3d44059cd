/- Locks, plain: the program reads as the document does. -/
import Derived.Test.YtfmckibiblhakaaGreatDoorLockS
set_option linter.unusedSimpArgs false
set_option linter.unusedVariables false
namespace Go.Proofs.YtfmckibiblhakaaGreatDoor
open Go.RowKit

def limP (n : Nat) : Option Nat := some (min n 9)
def limR (n : Nat) : Option Nat := if n ≤ 8 then some n else none
/-- May a lock's next part begin here? -/
def endsB (s : List UInt8) : Bool := match s with | [] => true | c :: _ => c == 115 || c == 112 || c == 97 || c == 111 || c == 38 || c == 124
def termRF (s : List UInt8) : Nat → Nat → Option Nat
  | 0, _ => none
  | f + 1, i => if endsB (s.drop i) && right (s.take i) then some i else termRF s f (i + 1)
/-- The right term that a text begins with, ahead of a part or the end. -/
def termR (s : List UInt8) : Option (List UInt8 × List UInt8) := (termRF s (min s.length 16384) 1).map fun i => (s.take i, s.drop i)
theorem termR_back (s t r : List UInt8) (h : termR s = some (t, r)) : s = t ++ r := by
  unfold termR at h
  cases hq : termRF s (min s.length 16384) 1 with
  | none => rw [hq] at h; cases h
  | some k =>
    rw [hq] at h
    simp only [Option.map_some, Option.some.injEq, Prod.mk.injEq] at h
    rw [← h.1, ← h.2, List.take_append_drop]
theorem termRF_hit (s : List UInt8) (k : Nat) (hk : endsB (s.drop k) = true ∧ right (s.take k) = true) (hu : ∀ i, i < k → right (s.take i) = false) : ∀ (f i : Nat), i ≤ k → k < i + f → termRF s f i = some k
  | 0, i, h1, h2 => by omega
  | f + 1, i, h1, h2 => by
    rw [termRF]
    by_cases h : i = k
    · subst h; rw [if_pos (by rw [hk.1, hk.2]; rfl)]
    · rw [if_neg (by rw [hu i (by omega)]; simp), termRF_hit s k hk hu f (i + 1) (by omega) (by omega)]
theorem termR_ok (t r : List UInt8) (he : endsB r = true) (h : pubB t = true ∨ hashB t = true) : termR (t ++ r) = some (t, r) := by
  have hr : right t = true := by
    rcases h with h | h
    · unfold pubB at h; rw [Bool.and_eq_true] at h; exact h.1
    · unfold hashB at h; rw [Bool.and_eq_true] at h; exact h.1
  have hl := right_len hr
  have e1 : (t ++ r).take t.length = t := by simp
  have e2 : (t ++ r).drop t.length = r := by simp
  unfold termR
  rw [termRF_hit (t ++ r) t.length ⟨by rw [e2]; exact he, by rw [e1]; exact hr⟩ (fun i hi => by
    cases hq : right ((t ++ r).take i) with
    | false => rfl
    | true =>
      have := (right_same hq hr (b := (t ++ r).drop i) (v := r) (by rw [List.take_append_drop])).1
      have h2 := congrArg List.length this
      simp at h2
      omega) (min (t ++ r).length 16384) 1 hl.1 (by simp; omega)]
  simp [e1, e2]
theorem ends_lock (x : LT) (r : List UInt8) (_ : rightsL x = true) : endsB (lockT x ++ r) = true := by
  obtain ⟨k, t, n, kids⟩ := x
  rw [lockT]
  simp only [List.cons_append, endsB, kindChar]
  repeat' split
  all_goals decide
/-- Just what is written of a right lock is read, as that lock. -/
theorem readP_iff (s : List UInt8) (x : LT) : readP cutP limP s = some x ↔ (rightL x = true ∧ lockT x = s) := by
  constructor
  · exact readP_back (fun n m h hm => by unfold limP at h; simp at h; omega) cutP_back
  · rintro ⟨h, rfl⟩
    exact readP_text (E := fun _ => True) (fun _ _ _ => trivial) trivial (fun n hn => by unfold limP; congr 1; omega) (fun t r _ ht => cutP_ok t r ht) x h
theorem readR_iff (s : List UInt8) (x : LT) : readP termR limR s = some x ↔ (rightL x = true ∧ lockT x = s) := by
  constructor
  · exact readP_back (fun n m h hm => by unfold limR at h; split at h <;> simp at h; omega) termR_back
  · rintro ⟨h, rfl⟩
    exact readP_text (E := fun r => endsB r = true) ends_lock rfl (fun n hn => by unfold limR; rw [if_pos hn]) termR_ok x h
theorem read_same (s : List UInt8) : readP termR limR s = readP cutP limP s := by
  cases h : readP cutP limP s with
  | some x => exact (readR_iff s x).2 ((readP_iff s x).1 h)
  | none =>
    cases h2 : readP termR limR s with
    | none => rfl
    | some x => rw [(readP_iff s x).2 ((readR_iff s x).1 h2)] at h; cases h
/-- Two right locks are written alike just if they are the same. -/
theorem lockT_inj {x y : LT} (hx : rightL x = true) (hy : rightL y = true) : (lockT x = lockT y) ↔ x = y := by
  constructor
  · intro h
    have h1 := (readP_iff (lockT x) x).2 ⟨hx, rfl⟩
    have h2 := (readP_iff (lockT x) y).2 ⟨hy, h.symm⟩
    rw [h1] at h2
    exact Option.some.inj h2
  · intro h; rw [h]
end Go.Proofs.YtfmckibiblhakaaGreatDoor
