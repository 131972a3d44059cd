/- What somebody can make, plain: a name that stands in nothing that was heard stands in nothing that is known. -/
import Derived.Test.YtdmfoablpdhnbaaGreatDoorDedQ
import Derived.Test.YtdmfoablpdhnbaaGreatDoorMSpec
set_option linter.unusedSimpArgs false
set_option linter.unusedVariables false
namespace Go.Proofs.YtdmfoablpdhnbaaGreatDoor
open Go.RowKit

theorem rt_two_is {c : UInt8} {a b : List UInt8} {x : Sh} (h : rt (c :: (a ++ b)) = some x) (hc : arity c = some 2) (ha : right a = true) : x.op = c ∧ x.kids = [a, b] := by
  have hop : x.op = c := head_op h
  rw [← hop] at hc
  obtain ⟨u, v, e, ru, _⟩ := rt_two_kids h hc
  have ht := rt_text h hc
  rw [e] at ht
  simp only [cat, List.flatten_cons, List.flatten_nil, List.append_nil, List.cons.injEq] at ht
  obtain ⟨e1, e2⟩ := right_same ha ru ht.2
  exact ⟨hop, by rw [e, e1, e2]⟩

def stF (nm : List UInt8) : Nat → List UInt8 → Bool
  | 0, _ => false
  | n + 1, t => t == nm || (match rt t with | none => false | some x => x.kids.any (stF nm n))
/-- Does a name stand in a term? -/
def stands (nm t : List UInt8) : Bool := stF nm t.length t
theorem stF_fuel (nm : List UInt8) : ∀ (n m : Nat) (t : List UInt8), t.length ≤ n → t.length ≤ m → 1 ≤ t.length → stF nm n t = stF nm m t
  | 0, _, t, h, _, h1 => by omega
  | _ + 1, 0, t, _, h, h1 => by omega
  | n + 1, m + 1, t, hn, hm, h1 => by
    rw [stF, stF]
    cases hx : rt t with
    | none => rfl
    | some x =>
      have hk := rt_kids hx
      simp only
      congr 1
      generalize x.kids = ks at hk
      induction ks with
      | nil => rfl
      | cons a r ih =>
        rw [List.any_cons, List.any_cons, stF_fuel nm n m a (by have := (hk a (by simp)).2; omega) (by have := (hk a (by simp)).2; omega) (right_len (hk a (by simp)).1).1, ih (fun y hy => hk y (by simp [hy]))]
theorem stands_eq (nm : List UInt8) {t : List UInt8} {x : Sh} (h : rt t = some x) : stands nm t = (t == nm || x.kids.any (stands nm)) := by
  have hl := (right_len (rt_right h)).1
  unfold stands
  rw [stF_fuel nm t.length (t.length + 1) t (Nat.le_refl _) (by omega) hl, stF, h]
  simp only
  congr 1
  have hk := rt_kids h
  generalize x.kids = ks at hk
  induction ks with
  | nil => rfl
  | cons a r ih =>
    rw [List.any_cons, List.any_cons, stF_fuel nm t.length a.length a (by have := (hk a (by simp)).2; omega) (Nat.le_refl _) (right_len (hk a (by simp)).1).1, ih (fun y hy => hk y (by simp [hy]))]
theorem stands_kids {nm t : List UInt8} {x : Sh} (hn : head nm = 110) (h : rt t = some x) (ho : x.op.toNat ≠ 110) : stands nm t = x.kids.any (stands nm) := by
  rw [stands_eq nm h]
  have : (t == nm) = false := by
    cases hq : t == nm with
    | false => rfl
    | true =>
      have e : t = nm := by simpa using hq
      have := head_op h
      rw [e, hn] at this
      rw [this] at ho
      exact absurd rfl ho
  rw [this, Bool.false_or]
/-- A name stands in a public key just if it stands in its secret. -/
theorem stands_sec {nm : List UInt8} (hn : head nm = 110) : ∀ (n : Nat) (t s : List UInt8), secF n t = some s → stands nm s = stands nm t
  | 0, t, s, h => by simp [secF] at h
  | n + 1, t, s, h => by
    rw [secF] at h
    cases hx : rt t with
    | none => rw [hx] at h; cases h
    | some x =>
      rw [hx] at h
      simp only at h
      by_cases h80 : x.op.toNat = 80
      · rw [if_pos h80] at h
        obtain ⟨a, hk, _, _⟩ := rt_one_kid hx (by rw [show x.op = 80 from UInt8.toNat_inj.1 h80]; rfl)
        rw [stands_kids hn hx (by omega), hk]
        rw [hk] at h
        simp only [List.getD_cons_zero, Option.some.injEq] at h
        rw [← h]
        simp
      rw [if_neg h80] at h
      have f0 : ∀ a : List UInt8, right ((secF n a).getD []) = true → ∃ u, secF n a = some u := by
        intro a ha
        cases h1 : secF n a with
        | none => rw [h1] at ha; simp [right, rt, rd] at ha
        | some u => exact ⟨u, rfl⟩
      by_cases h87 : x.op.toNat = 87
      · rw [if_pos h87] at h
        obtain ⟨a, b, hk, ra, rb, _, _⟩ := rt_two_kids hx (by rw [show x.op = 87 from UInt8.toNat_inj.1 h87]; rfl)
        rw [stands_kids hn hx (by omega), hk]
        rw [hk] at h
        simp only [List.getD_cons_zero, List.getD_cons_succ] at h
        split at h
        · rename_i h0
          obtain ⟨g1, g2, g3, g4⟩ := two_right h0
          obtain ⟨u, hu⟩ := f0 a g3
          obtain ⟨v, hv⟩ := f0 b g4
          simp only [hu, hv, Option.getD_some, Option.some.injEq] at h g1 g2 g3
          rw [h] at g1 g2
          obtain ⟨y, hy⟩ : ∃ y, rt s = some y := by
            unfold right at g1
            exact Option.isSome_iff_exists.1 g1
          have hy2 := hy
          rw [g2] at hy2
          obtain ⟨e1, e2⟩ := rt_two_is hy2 rfl g3
          rw [stands_kids hn hy (by rw [e1]; decide), e2]
          simp only [List.any_cons, List.any_nil, Bool.or_false]
          rw [stands_sec hn n a u hu, stands_sec hn n b v hv]
        · cases h
      rw [if_neg h87] at h
      by_cases h76 : x.op.toNat = 76
      · rw [if_pos h76] at h
        obtain ⟨a, b, hk, ra, rb, _, _⟩ := rt_two_kids hx (by rw [show x.op = 76 from UInt8.toNat_inj.1 h76]; rfl)
        rw [stands_kids hn hx (by omega), hk]
        rw [hk] at h
        simp only [List.getD_cons_zero, List.getD_cons_succ] at h
        split at h
        · rename_i h0
          obtain ⟨g1, g2, g3, g4⟩ := two_right h0
          obtain ⟨u, hu⟩ := f0 a g3
          simp only [hu, Option.getD_some, Option.some.injEq] at h g1 g2 g3
          rw [h] at g1 g2
          obtain ⟨y, hy⟩ : ∃ y, rt s = some y := by
            unfold right at g1
            exact Option.isSome_iff_exists.1 g1
          have hy2 := hy
          rw [g2] at hy2
          obtain ⟨e1, e2⟩ := rt_two_is hy2 rfl g3
          rw [stands_kids hn hy (by rw [e1]; decide), e2]
          simp only [List.any_cons, List.any_nil, Bool.or_false]
          rw [stands_sec hn n a u hu]
        · cases h
      rw [if_neg h76] at h
      cases h
/-- A fresh name stands in nothing that is known. -/
theorem kn_fresh {H S : List UInt8 → Bool} (hL : Least H S) {nm : List UInt8} (hn : head nm = 110) (hr : ∀ t, H t = true → right t = true) (hf : ∀ t, H t = true → stands nm t = false) :
    ∀ t, right t = true → kn S t = true → stands nm t = false := by
  have hall : ∀ ks : List (List UInt8), ks.all (fun t => !stands nm t) = true → ks.any (stands nm) = false := by
    intro ks h
    rw [List.all_eq_true] at h
    rw [List.any_eq_false]
    intro k hk
    have := h k hk
    simpa using this
  have hkid : ∀ ks : List (List UInt8), ks.any (stands nm) = false → ∀ k ∈ ks, (!stands nm k) = true := by
    intro ks h k hk
    rw [List.any_eq_false] at h
    simpa using h k hk
  intro t ht hk
  have := kn_ind hL (fun t => !stands nm t) (fun t h => ⟨hr t h, by simp [hf t h]⟩) ?_ ?_ ?_ t ht hk
  · simpa using this
  · intro t htr hm
    unfold makesB at hm
    cases hx : rt t with
    | none => unfold right at htr; rw [hx] at htr; cases htr
    | some x =>
      rw [hx] at hm
      simp only at hm
      by_cases h1 : x.op.toNat = 110
      · rw [if_pos h1] at hm; cases hm
      rw [if_neg h1] at hm
      show (!stands nm t) = true
      rw [stands_kids hn hx h1]
      by_cases h2 : x.op.toNat = 88
      · rw [if_pos h2] at hm
        obtain ⟨a, b, e, ra, rb, _, _⟩ := rt_two_kids hx (by rw [show x.op = 88 from UInt8.toNat_inj.1 h2]; rfl)
        rw [e] at hm ⊢
        have hag : ∀ k j, agrB (fun t => !stands nm t) k j = true → stands nm k = false ∧ stands nm j = false := by
          intro k j hh
          unfold agrB at hh
          simp only [Bool.and_eq_true, Bool.not_eq_true'] at hh
          obtain ⟨⟨⟨p1, p2⟩, p3⟩, p4⟩ := hh
          obtain ⟨q1, q2, q3⟩ := pub_plain (by rw [p1, p2]; rfl)
          refine ⟨p3, ?_⟩
          rw [q1] at p4
          obtain ⟨y, hy⟩ : ∃ y, rt (80 :: j) = some y := by unfold right at q2; exact Option.isSome_iff_exists.1 q2
          have ho : y.op = 80 := head_op hy
          obtain ⟨w, ew, _⟩ := rt_one_kid hy (by rw [ho]; rfl)
          have := rt_text hy (n := 1) (by rw [ho]; rfl)
          rw [ew] at this
          simp [cat] at this
          rw [stands_kids hn hy (by rw [ho]; decide), ew, ← this.2] at p4
          simpa using p4
        simp only [List.getD_cons_zero, List.getD_cons_succ, Bool.or_eq_true] at hm
        rcases hm with hm | hm
        · obtain ⟨z1, z2⟩ := hag _ _ hm; simp [z1, z2]
        · obtain ⟨z1, z2⟩ := hag _ _ hm; simp [z1, z2]
      rw [if_neg h2] at hm
      by_cases h3 : x.op.toNat = 80 ∨ x.op.toNat = 87 ∨ x.op.toNat = 76
      · rw [if_pos h3, Bool.or_eq_true] at hm
        rcases hm with hm | hm
        · cases hs : secT t with
          | none => rw [hs] at hm; cases hm
          | some s =>
            rw [hs] at hm
            simp only at hm
            rw [stands_sec hn _ _ _ hs, stands_kids hn hx h1] at hm
            exact hm
        · rw [Bool.and_eq_true] at hm
          rw [hall _ hm.2]; rfl
      · rw [if_neg h3] at hm
        rw [hall _ hm]; rfl
  · intro t x h hx ho
    have h' : stands nm t = false := by simpa using h
    rw [stands_kids hn hx (by omega)] at h'
    exact hkid _ h'
  · intro t x h hx ho _
    have h' : stands nm t = false := by simpa using h
    rw [stands_kids hn hx (by omega)] at h'
    obtain ⟨a, b, e, _⟩ := rt_two_kids hx (by rw [show x.op = 66 from UInt8.toNat_inj.1 ho]; rfl)
    rw [e] at h' ⊢
    exact hkid _ h' b (by simp)
end Go.Proofs.YtdmfoablpdhnbaaGreatDoor
