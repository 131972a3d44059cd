/- Locks, plain: what more opens; what a lock needs. -/
import Derived.Test.YtfmckibiblhakaaGreatDoorLockR
import Derived.Test.YtfmckibiblhakaaGreatDoorMSpec
set_option linter.unusedSimpArgs false
set_option linter.unusedVariables false
namespace Go.Proofs.YtfmckibiblhakaaGreatDoor
open Go.RowKit

def sgP (sigs : List (List UInt8)) (msg t : List UInt8) : Bool := sigs.any (verifyT t msg)
def prP (pres : List (List UInt8)) (t : List UInt8) : Bool := pres.any fun p => (oneT 72 p).2 == 0 && (oneT 72 p).1 == t
/-- Does a lock open? -/
def opensP (sigs pres : List (List UInt8)) (msg : List UInt8) (after age : Int) (x : LT) : Bool :=
  rightL x && decide (sigs.length ≤ 16) && decide (pres.length ≤ 16) && opensL (sgP sigs msg) (prP pres) after age x
theorem opensP_more {sigs pres : List (List UInt8)} {msg more : List UInt8} {after age later : Int} {x : LT} (hl : 0 ≤ later) (hs : sigs.length + 1 ≤ 16) (hp : pres.length + 1 ≤ 16) (h : opensP sigs pres msg after age x = true) :
    opensP (sigs ++ [more]) (pres ++ [more]) msg (after + later) (age + later) x = true := by
  unfold opensP at h ⊢
  simp only [Bool.and_eq_true, decide_eq_true_eq] at h ⊢
  refine ⟨⟨⟨h.1.1.1, by simp; omega⟩, by simp; omega⟩, opens_more ?_ ?_ (by omega) (by omega) x h.2⟩
  · intro t ht; unfold sgP at ht ⊢; rw [List.any_append, ht, Bool.true_or]
  · intro t ht; unfold prP at ht ⊢; rw [List.any_append, ht, Bool.true_or]
def bothL (k : Int) (a b : LT) : LT := .mk k [] 0 [a, b]
theorem both_rights (k : Int) (hk : k = 5 ∨ k = 6) (a b : LT) : rightsL (bothL k a b) = (rightsL a && rightsL b) := by
  unfold bothL
  rw [rightsL, rightsRow_cons, rightsRow_cons, show rightsRow [] = true by rw [rightsRow]]
  rcases hk with rfl | rfl <;> simp [bareR]
theorem both_count (k : Int) (a b : LT) : countL (bothL k a b) = 1 + countL a + countL b := by
  unfold bothL
  rw [countL, countRow_cons, countRow_cons, countRow_nil]; omega
theorem both_right (k : Int) (hk : k = 5 ∨ k = 6) (a b : LT) : rightL (bothL k a b) = (decide (1 + countL a + countL b ≤ 64) && (rightsL a && rightsL b)) := by
  unfold rightL
  rw [both_rights k hk, both_count]
theorem both_same (a b : LT) : rightL (bothL 5 a b) = rightL (bothL 6 a b) := by rw [both_right 5 (.inl rfl), both_right 6 (.inr rfl)]
theorem both_parts {k : Int} (hk : k = 5 ∨ k = 6) {a b : LT} (h : rightL (bothL k a b) = true) : rightL a = true ∧ rightL b = true := by
  rw [both_right k hk] at h
  simp only [Bool.and_eq_true, decide_eq_true_eq] at h
  have p1 := count_pos a
  have p2 := count_pos b
  unfold rightL
  simp only [Bool.and_eq_true, decide_eq_true_eq]
  exact ⟨⟨by omega, h.2.1⟩, ⟨by omega, h.2.2⟩⟩
theorem both_opens {sigs pres : List (List UInt8)} {msg : List UInt8} {after age : Int} {a b : LT} (h : rightL (bothL 5 a b) = true) :
    opensP sigs pres msg after age (bothL 5 a b) = (opensP sigs pres msg after age a && opensP sigs pres msg after age b) ∧
    opensP sigs pres msg after age (bothL 6 a b) = (opensP sigs pres msg after age a || opensP sigs pres msg after age b) := by
  obtain ⟨ha, hb⟩ := both_parts (.inl rfl) h
  have h6 := h
  rw [both_same] at h6
  unfold opensP
  rw [h, h6, ha, hb]
  unfold bothL
  simp only [opensL, allL, anyL]
  cases decide (sigs.length ≤ 16) <;> cases decide (pres.length ≤ 16) <;> simp

/-- A signature that verifies under a plain key is that key's secret's, of that message. -/
theorem verify_plain {k m s : List UInt8} (h : verifyT (80 :: k) m s = true) : s = 83 :: (k ++ m) := by
  unfold verifyT at h
  split at h
  · cases h
  · rename_i x hx
    simp only [Bool.and_eq_true, beq_iff_eq] at h
    obtain ⟨⟨h1, h2⟩, h3⟩ := h
    have hop : x.op = 83 := UInt8.toNat_inj.1 h1
    have ha : arity x.op = some 2 := by rw [hop]; rfl
    obtain ⟨a, b, hk, _⟩ := rt_two_kids hx ha
    rw [hk] at h2 h3
    simp only [List.getD_cons_zero, List.getD_cons_succ] at h2 h3
    have := rt_text hx ha
    rw [this, hop, hk, key_plain h3, h2]
    simp [cat]
theorem hash_plain {k p : List UInt8} (h : ((oneT 72 p).2 == 0 && (oneT 72 p).1 == 72 :: k) = true) : p = k := by
  unfold oneT made at h
  split at h
  · split at h <;> simp at h
    exact h
  · simp at h
def four (k : Nat) : List UInt8 := [110, 49 + UInt8.ofNat k, 59]
def msgM : List UInt8 := [116, 49, 58, 109]
theorem four_verify : ∀ k : Fin 4, verifyT (80 :: four k.val) msgM (83 :: (four k.val ++ msgM)) = true ∧ ((oneT 72 (four k.val)).2 == 0 && (oneT 72 (four k.val)).1 == 72 :: four k.val) = true ∧ pubB (80 :: four k.val) = true ∧ hashB (72 :: four k.val) = true := by decide +kernel
def needL (k p : Nat) (n : Int) : LT := .mk 5 [] 0 [.mk 1 (80 :: four k) 0 [], .mk 2 (72 :: four p) 0 [], .mk 3 [] n [], .mk 4 [] (n / 2) []]
theorem needs_plain (k p : Fin 4) (n : Int) (hn : 0 ≤ n) (hn2 : n < 1073741824) (sigs pres : List (List UInt8)) (after age : Int) :
    opensP sigs pres msgM after age (needL k.val p.val n) = (decide (sigs.length ≤ 16) && decide (pres.length ≤ 16) && sigs.any (· == 83 :: (four k.val ++ msgM)) && pres.any (· == four p.val) && decide (n ≤ after) && decide (n / 2 ≤ age)) := by
  obtain ⟨v1, _, v3, _⟩ := four_verify k
  obtain ⟨_, u2, _, u4⟩ := four_verify p
  have hr : rightL (needL k.val p.val n) = true := by
    unfold rightL needL
    simp only [countL, countRow, rightsL, rightsRow, bareR, v3, u4]
    simp [hn, hn2]
    omega
  have e1 : sgP sigs msgM (80 :: four k.val) = sigs.any (· == 83 :: (four k.val ++ msgM)) := by
    unfold sgP
    congr 1
    funext s
    cases hq : verifyT (80 :: four k.val) msgM s with
    | true => rw [verify_plain hq]; simp
    | false =>
      cases hq2 : s == 83 :: (four k.val ++ msgM) with
      | false => rfl
      | true =>
        have : s = 83 :: (four k.val ++ msgM) := by simpa using hq2
        rw [this, v1] at hq
        cases hq
  have e2 : prP pres (72 :: four p.val) = pres.any (· == four p.val) := by
    unfold prP
    congr 1
    funext s
    cases hq : ((oneT 72 s).2 == 0 && (oneT 72 s).1 == 72 :: four p.val) with
    | true => rw [hash_plain hq]; simp
    | false =>
      cases hq2 : s == four p.val with
      | false => rfl
      | true =>
        have : s = four p.val := by simpa using hq2
        rw [this, u2] at hq
        cases hq
  unfold opensP
  rw [hr]
  unfold needL
  simp only [opensL, allL, e1, e2]
  simp [Bool.and_assoc]
end Go.Proofs.YtfmckibiblhakaaGreatDoor
