/- What somebody can make, plain: what the laws on it ask. -/
import Derived.Test.YtdmfoablpdhnbaaGreatDoorDedK
import Derived.Test.YtdmfoablpdhnbaaGreatDoorDedS
import Derived.Test.YtdmfoablpdhnbaaGreatDoorDedW
set_option linter.unusedSimpArgs false
set_option linter.unusedVariables false
namespace Go.Proofs.YtdmfoablpdhnbaaGreatDoor
open Go.RowKit

/-- What is heard of a list. -/
def heardP (l : List (List UInt8)) (t : List UInt8) : Bool := right t && decide (t ∈ l)
theorem heardP_nil : heardP [] = fun _ => false := by funext t; simp [heardP]
theorem heardP_right (l : List (List UInt8)) : ∀ t, heardP l t = true → right t = true := fun t h => by
  unfold heardP at h
  rw [Bool.and_eq_true] at h
  exact h.1
theorem heardP_add (l : List (List UInt8)) (x : List UInt8) (n : Nat) (hn : n < 1024) : learnH (heardP l) n x = heardP (l ++ [x]) := by
  unfold learnH
  funext t
  by_cases hr : right x = true
  · by_cases hl : x ∈ l
    · have h1 : heardP l x = true := by simp [heardP, hr, hl]
      rw [if_neg (by rw [h1]; simp)]
      unfold heardP
      by_cases e : t = x
      · subst e; simp [hl]
      · simp [e]
    · have h1 : heardP l x = false := by simp [heardP, hl]
      rw [if_pos ⟨hr, h1, hn⟩]
      unfold ins heardP
      by_cases e : t = x
      · subst e; simp [hr]
      · simp [e]
  · rw [if_neg (fun h => hr h.1)]
    unfold heardP
    by_cases e : t = x
    · subst e; simp [hr]
    · simp [e]
theorem learnC_few (H : List UInt8 → Bool) (n : Nat) (t : List UInt8) (hn : n < 1024) : learnC H n t = if right t = true then 0 else 10 := by
  unfold learnC
  by_cases hr : right t = true
  · rw [if_neg (by rw [hr]; simp), if_pos hr, if_neg (by omega : ¬ 1024 ≤ n)]; split <;> rfl
  · rw [if_pos (by simpa using hr), if_neg hr]
theorem learnN_le (H : List UInt8 → Bool) (n : Nat) (t : List UInt8) : n ≤ learnN H n t ∧ learnN H n t ≤ n + 1 ∧ (n ≤ 1024 → learnN H n t ≤ 1024) := by
  unfold learnN
  split
  · rename_i h; exact ⟨by omega, by omega, fun _ => by omega⟩
  · exact ⟨by omega, by omega, fun h => h⟩
theorem learnH_has {H : List UInt8 → Bool} {n : Nat} {t : List UInt8} (hr : right t = true) (hn : n < 1024) : learnH H n t t = true := by
  unfold learnH
  split
  · exact ins_new
  · rename_i h
    cases hq : H t with
    | true => rfl
    | false => exact absurd ⟨hr, hq, hn⟩ h
theorem learnH_old {H : List UInt8 → Bool} {n : Nat} {t s : List UInt8} (h : H s = true) : learnH H n t s = true := by
  unfold learnH
  split
  · exact ins_old h
  · exact h
theorem learnH_inv {H : List UInt8 → Bool} {n : Nat} {t s : List UInt8} (h : learnH H n t s = true) : H s = true ∨ s = t := by
  unfold learnH at h
  split at h
  · unfold ins at h; simpa using h
  · exact .inl h

/-! names -/
theorem nameL_len {n : Nat} (h : n ≤ 9223372036854775807) : (nameL n).length ≤ 25 := (q_name n h).2
theorem nameL_right {n : Nat} (h : n ≤ 9223372036854775807) : right (nameL n) = true ∧ head (nameL n) = 110 := by
  refine ⟨?_, rfl⟩
  refine rtD_right (d := 1) (by omega) (rtD_name n 0 h) ?_
  have := nameL_len h
  omega
theorem nameL_key {n : Nat} (h : n ≤ 9223372036854775807) : pubT (nameL n) = (80 :: nameL n, 0) ∧ right (80 :: nameL n) = true := by
  have hr := (nameL_right h).1
  have hk : keyT (nameL n) = 80 :: nameL n := keyT_plain (show (110 : UInt8).toNat ≠ 86 by decide) (show (110 : UInt8).toNat ≠ 75 by decide)
  have hr2 : right (80 :: nameL n) = true := by
    refine rtD_right (d := 2) (by omega) (rtD_one 1 80 _ rfl (by simp [fitsB, nameL, head]) (rtD_name n 0 h)) ?_
    have := nameL_len h
    simp only [List.length_cons]
    omega
  refine ⟨?_, hr2⟩
  unfold pubT made
  rw [if_pos hr, hk, if_pos hr2]
theorem nameL_hash {n : Nat} (h : n ≤ 9223372036854775807) : oneT 72 (nameL n) = (72 :: nameL n, 0) ∧ right (72 :: nameL n) = true := by
  have hr := (nameL_right h).1
  have hr2 : right (72 :: nameL n) = true := by
    refine rtD_right (d := 2) (by omega) (rtD_one 1 72 _ rfl (by simp [fitsB]) (rtD_name n 0 h)) ?_
    have := nameL_len h
    simp only [List.length_cons]
    omega
  refine ⟨?_, hr2⟩
  unfold oneT made
  rw [if_pos hr, if_pos hr2]
theorem nameL_box {n m : Nat} (h : n ≤ 9223372036854775807) (h' : m ≤ 9223372036854775807) : twoT 66 (nameL n) (nameL m) = (66 :: (nameL n ++ nameL m), 0) ∧ right (66 :: (nameL n ++ nameL m)) = true := by
  have hr := (nameL_right h).1
  have hr' := (nameL_right h').1
  have hr2 : right (66 :: (nameL n ++ nameL m)) = true := by
    refine rtD_right (d := 2) (by omega) (rtD_two 1 66 _ _ rfl (by simp [fitsB]) (rtD_name n 0 h) (rtD_name m 0 h')) ?_
    have := nameL_len h
    have := nameL_len h'
    simp only [List.length_cons, List.length_append]
    omega
  refine ⟨?_, hr2⟩
  unfold twoT made
  rw [if_pos ⟨hr, hr'⟩, if_pos hr2]
theorem stands_self {t : List UInt8} (h : right t = true) : stands t t = true := by
  obtain ⟨x, hx⟩ := right_some h
  rw [stands_eq t hx]; simp
theorem one_kid {c : UInt8} {a : List UInt8} {x : Sh} (hc : arity c = some 1) (h : rt (c :: a) = some x) : x.op = c ∧ x.kids = [a] := by
  have ho : x.op = c := head_op h
  obtain ⟨u, e2, ru, _⟩ := rt_one_kid h (by rw [ho]; exact hc)
  have ht := rt_text h (n := 1) (by rw [ho]; exact hc)
  rw [e2] at ht
  simp only [cat, List.flatten_cons, List.flatten_nil, List.append_nil, List.cons.injEq] at ht
  exact ⟨ho, by rw [e2, ht.2]⟩
/-- A name that stands in nothing that was heard is not known, nor its public key. -/
theorem fresh_not {H S : List UInt8 → Bool} (hL : Least H S) {n : Nat} (hn : n ≤ 9223372036854775807) (hr : ∀ t, H t = true → right t = true) (hf : ∀ t, H t = true → stands (nameL n) t = false) : kn S (nameL n) = false ∧ kn S (80 :: nameL n) = false := by
  obtain ⟨r1, hd⟩ := nameL_right hn
  have r2 := (nameL_key hn).2
  have key := kn_fresh hL hd hr hf
  constructor
  · cases hq : kn S (nameL n) with
    | false => rfl
    | true => have := key _ r1 hq; rw [stands_self r1] at this; cases this
  · cases hq : kn S (80 :: nameL n) with
    | false => rfl
    | true =>
      have := key _ r2 hq
      obtain ⟨x, hx⟩ := right_some r2
      obtain ⟨e1, e2⟩ := one_kid rfl hx
      rw [stands_kids hd hx (by rw [e1]; decide), e2] at this
      simp [stands_self r1] at this
/-- What DeduceHides asks: a box under a fresh key, both public keys and the digest heard besides. -/
theorem hides_plain {H S H4 S4 : List UInt8 → Bool} (hL : Least H S) (hL4 : Least H4 S4) {k m : Nat} (hk : k ≤ 9223372036854775807) (hm : m ≤ 9223372036854775807) (hr : ∀ t, H t = true → right t = true)
    (hfk : ∀ t, H t = true → stands (nameL k) t = false) (hfm : ∀ t, H t = true → stands (nameL m) t = false)
    (h4 : ∀ t, H4 t = true → H t = true ∨ t = 66 :: (nameL k ++ nameL m) ∨ t = 80 :: nameL k ∨ t = 80 :: nameL m ∨ t = 72 :: nameL m) : kn S4 (nameL k) = false ∧ kn S4 (nameL m) = false := by
  obtain ⟨rk, dk⟩ := nameL_right hk
  obtain ⟨rm, dm⟩ := nameL_right hm
  have rb := (nameL_box hk hm).2
  have r1 := (nameL_key hk).2
  have r2 := (nameL_key hm).2
  have r3 := (nameL_hash hm).2
  have hc := kn_hides (F := fun t => t == 66 :: (nameL k ++ nameL m) || t == 80 :: nameL k || t == 80 :: nameL m || t == 72 :: nameL m) hL dk dm hr hfk hfm rk rm ?_ ?_ ?_
  · obtain ⟨c1, c2, c3⟩ := hc
    have hsub := hL4.2.2 _ (fun t ht => by
      rcases h4 t ht with h | h
      · simp only [Bool.or_eq_true]; exact .inl (hL.1 t h)
      · simp only [Bool.or_eq_true, beq_iff_eq]
        right
        rcases h with h | h | h | h <;> simp [h]) c1
    constructor
    · cases hq : kn S4 (nameL k) with
      | false => rfl
      | true => rw [kn_mono hsub hq] at c2; cases c2
    · cases hq : kn S4 (nameL m) with
      | false => rfl
      | true => rw [kn_mono hsub hq] at c3; cases c3
  · intro t ht
    simp only [Bool.or_eq_true, beq_iff_eq] at ht
    rcases ht with ((rfl | rfl) | rfl) | rfl
    · obtain ⟨x, hx⟩ := right_some rb
      obtain ⟨e1, e2⟩ := rt_two_is hx rfl rk
      left
      rw [stands_kids dk hx (by rw [e1]; decide), e2]
      simp [stands_self rk]
    · obtain ⟨x, hx⟩ := right_some r1
      obtain ⟨e1, e2⟩ := one_kid rfl hx
      left
      rw [stands_kids dk hx (by rw [e1]; decide), e2]
      simp [stands_self rk]
    · obtain ⟨x, hx⟩ := right_some r2
      obtain ⟨e1, e2⟩ := one_kid rfl hx
      right
      rw [stands_kids dm hx (by rw [e1]; decide), e2]
      simp [stands_self rm]
    · obtain ⟨x, hx⟩ := right_some r3
      obtain ⟨e1, e2⟩ := one_kid rfl hx
      right
      rw [stands_kids dm hx (by rw [e1]; decide), e2]
      simp [stands_self rm]
  · intro t x ht hx
    simp only [Bool.or_eq_true, beq_iff_eq] at ht
    rcases ht with ((rfl | rfl) | rfl) | rfl
    · obtain ⟨e1, e2⟩ := rt_two_is hx rfl rk
      exact ⟨by rw [e1]; decide, fun _ => by rw [e2]; rfl⟩
    · obtain ⟨e1, e2⟩ := one_kid rfl hx
      exact ⟨by rw [e1]; decide, fun h => by rw [e1] at h; exact absurd h (by decide)⟩
    · obtain ⟨e1, e2⟩ := one_kid rfl hx
      exact ⟨by rw [e1]; decide, fun h => by rw [e1] at h; exact absurd h (by decide)⟩
    · obtain ⟨e1, e2⟩ := one_kid rfl hx
      exact ⟨by rw [e1]; decide, fun h => by rw [e1] at h; exact absurd h (by decide)⟩
  · intro t ht
    simp only [Bool.or_eq_true, beq_iff_eq] at ht
    rcases ht with ((rfl | rfl) | rfl) | rfl
    · exact ⟨rb, by rw [head_cons]; decide⟩
    · exact ⟨r1, by rw [head_cons]; decide⟩
    · exact ⟨r2, by rw [head_cons]; decide⟩
    · exact ⟨r3, by rw [head_cons]; decide⟩
/-- With the key, what lies in the box is known. -/
theorem opens_plain {H S : List UInt8 → Bool} (hL : Least H S) {k m : Nat} (hk : k ≤ 9223372036854775807) (hm : m ≤ 9223372036854775807) (hb : H (66 :: (nameL k ++ nameL m)) = true) (hkk : H (nameL k) = true) : kn S (nameL m) = true ∧ kn S (nameL k) = true := by
  obtain ⟨rk, dk⟩ := nameL_right hk
  have rb := (nameL_box hk hm).2
  have h1 := kn_held rk (hL.1 _ hkk)
  obtain ⟨x, hx⟩ := right_some rb
  obtain ⟨e1, e2⟩ := rt_two_is hx rfl rk
  have h2 := kn_box hL.2.1 hx (by rw [e1]; rfl) (kn_held rb (hL.1 _ hb)) (by rw [e2]; exact h1)
  rw [e2] at h2
  exact ⟨h2, h1⟩
end Go.Proofs.YtdmfoablpdhnbaaGreatDoor
