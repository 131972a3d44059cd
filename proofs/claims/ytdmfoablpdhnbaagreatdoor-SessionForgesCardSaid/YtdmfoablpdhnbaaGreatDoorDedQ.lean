/- What somebody can make, plain: what is known is closed under the rules, and the least that is. -/
import Derived.Test.YtdmfoablpdhnbaaGreatDoorDedP
set_option linter.unusedSimpArgs false
set_option linter.unusedVariables false
namespace Go.Proofs.YtdmfoablpdhnbaaGreatDoor
open Go.RowKit

theorem kn_held {S : List UInt8 → Bool} {t : List UInt8} (hr : right t = true) (h : S t = true) : kn S t = true := by rw [kn_eq S t hr, h, Bool.true_or]
theorem kn_makes {S : List UInt8 → Bool} {t : List UInt8} (hr : right t = true) (h : makesB (kn S) t = true) : kn S t = true := by rw [kn_eq S t hr, h, Bool.or_true]
theorem makes_kids {K : List UInt8 → Bool} {t : List UInt8} {x : Sh} (hx : rt t = some x) (h1 : x.op.toNat ≠ 110) (h2 : x.op.toNat ≠ 88) (h3 : ¬ (x.op.toNat = 80 ∨ x.op.toNat = 87 ∨ x.op.toNat = 76)) : makesB K t = x.kids.all K := by
  unfold makesB
  rw [hx]
  simp only
  rw [if_neg h1, if_neg h2, if_neg h3]
theorem rt_right {t : List UInt8} {x : Sh} (h : rt t = some x) : right t = true := by unfold right; rw [h]; rfl
/-- Parts of a known row are known. -/
theorem kn_tuple {S : List UInt8 → Bool} (hA : Apart S) {t : List UInt8} {x : Sh} (hx : rt t = some x) (ho : x.op.toNat = 84) (h : kn S t = true) : ∀ k ∈ x.kids, kn S k = true := by
  intro k hk
  rw [kn_eq S t (rt_right hx), Bool.or_eq_true] at h
  rcases h with h | h
  · exact kn_held (rt_kids hx k hk).1 ((hA t x h hx).1 ho k hk)
  · rw [makes_kids hx (by omega) (by omega) (by omega), List.all_eq_true] at h
    exact h k hk
/-- What lies in a known box of which the key is known is known. -/
theorem kn_box {S : List UInt8 → Bool} (hA : Apart S) {t : List UInt8} {x : Sh} (hx : rt t = some x) (ho : x.op.toNat = 66) (h : kn S t = true) (hk : kn S (x.kids.getD 0 []) = true) : kn S (x.kids.getD 1 []) = true := by
  obtain ⟨a, b, e, ra, rb, _⟩ := rt_two_kids hx (by rw [show x.op = 66 from UInt8.toNat_inj.1 ho]; rfl)
  rw [kn_eq S t (rt_right hx), Bool.or_eq_true] at h
  rcases h with h | h
  · have := (hA t x h hx).2 ho hk
    rw [e] at this ⊢
    exact kn_held rb this
  · rw [makes_kids hx (by omega) (by omega) (by omega), List.all_eq_true] at h
    rw [e] at h ⊢
    exact h b (by simp)
/-- What holds of all that was heard, and goes on by the rules, holds of all that is known. -/
theorem kn_ind {H S : List UInt8 → Bool} (hL : Least H S) (P : List UInt8 → Bool) (hH : ∀ t, H t = true → right t = true ∧ P t = true) (hm : ∀ t, right t = true → makesB P t = true → P t = true)
    (ht : ∀ t x, P t = true → rt t = some x → x.op.toNat = 84 → ∀ k ∈ x.kids, P k = true) (hb : ∀ t x, P t = true → rt t = some x → x.op.toNat = 66 → P (x.kids.getD 0 []) = true → P (x.kids.getD 1 []) = true) :
    ∀ t, right t = true → kn S t = true → P t = true := by
  have hP : ∀ (n : Nat) (t : List UInt8), t.length ≤ n → right t = true → kn (fun t => right t && P t) t = true → P t = true := by
    intro n
    induction n with
    | zero => intro t hn hr; have := (right_len hr).1; omega
    | succ n ih =>
      intro t hn hr h
      rw [kn_eq _ t hr, Bool.or_eq_true] at h
      rcases h with h | h
      · rw [Bool.and_eq_true] at h; exact h.2
      · refine hm t hr ?_
        rw [makes_congr (K' := fun s => decide (s.length < t.length) && right s && kn (fun t => right t && P t) s) (fun s hs hl => by rw [hs]; simp [hl])] at h
        refine makes_mono (fun s hs => ?_) h
        simp only [Bool.and_eq_true, decide_eq_true_eq] at hs
        exact ih s (by omega) hs.1.2 hs.2
  have hAp : Apart (fun t => right t && P t) := by
    intro t x h hx
    rw [Bool.and_eq_true] at h
    refine ⟨fun ho k hk => ?_, fun ho hk => ?_⟩
    · rw [Bool.and_eq_true]
      exact ⟨(rt_kids hx k hk).1, ht t x h.2 hx ho k hk⟩
    · obtain ⟨a, b, e, ra, rb, _⟩ := rt_two_kids hx (by rw [show x.op = 66 from UInt8.toNat_inj.1 ho]; rfl)
      have h0 := hb t x h.2 hx ho
      rw [e] at hk h0 ⊢
      simp only [List.getD_cons_zero, List.getD_cons_succ] at hk h0 ⊢
      rw [Bool.and_eq_true]
      exact ⟨rb, h0 (hP a.length a (Nat.le_refl _) ra hk)⟩
  intro t hr h
  exact hP t.length t (Nat.le_refl _) hr (kn_mono (hL.2.2 _ (fun s hs => by rw [Bool.and_eq_true]; exact hH s hs) hAp) h)
/-- Who hears more knows no less; what is known, heard again, adds nothing. -/
theorem least_mono {H H' S S' : List UInt8 → Bool} (h : Least H S) (h' : Least H' S') (hh : ∀ t, H t = true → H' t = true) : ∀ t, S t = true → S' t = true :=
  h.2.2 S' (fun t ht => h'.1 t (hh t ht)) h'.2.1
theorem least_again {H H' S S' : List UInt8 → Bool} (hHr : ∀ t, H' t = true → right t = true) (h : Least H S) (h' : Least H' S') (hh : ∀ t, H t = true → H' t = true) (hk : ∀ t, H' t = true → kn S t = true) : ∀ t, right t = true → kn S' t = kn S t := by
  intro t hr
  cases h1 : kn S' t with
  | true =>
    exact (kn_ind h' (kn S) (fun s hs => ⟨hHr s hs, hk s hs⟩) (fun s hs hm => kn_makes hs hm) (fun s x hs hx ho => kn_tuple h.2.1 hx ho hs) (fun s x hs hx ho hk => kn_box h.2.1 hx ho hs hk) t hr h1).symm
  | false =>
    cases h2 : kn S t with
    | false => rfl
    | true => rw [kn_mono (least_mono h h' hh) h2] at h1; cases h1
end Go.Proofs.YtdmfoablpdhnbaaGreatDoor
