/- What somebody can make, plain: what is known is closed under the rules, and the least that is. -/
import Derived.Test.YtaaiaahkakkleaaGreatDoorDedP
set_option linter.unusedSimpArgs false
set_option linter.unusedVariables false
namespace Go.Proofs.YtaaiaahkakkleaaGreatDoor
open Go.RowKit
theorem rt_right {t : List UInt8} {x : Sh} (h : rt t = some x) : right t = true := by unfold right; rw [h]; rfl
theorem kn_ind {H S : List UInt8 → Bool} (hL : Least H S) (P : List UInt8 → Bool) (hH : ∀ t, H t = true → right t = true ∧ P t = true) (hm : ∀ t, right t = true → makesB P t = true → P t = true)
  (ht : ∀ t x, P t = true → rt t = some x → x.op.toNat = 84 → ∀ k ∈ x.kids, P k = true) (hb : ∀ t x, P t = true → rt t = some x → x.op.toNat = 66 → P (x.kids.getD 0 []) = true → P (x.kids.getD 1 []) = true) :
  ∀ t, right t = true → kn S t = true → P t = true := by
 have hP : ∀ (n : Nat) (t : List UInt8), t.length ≤ n → right t = true → kn (fun t => right t && P t) t = true → P t = true := by
  intro n
  induction n with
  | zero => intro t hn hr; have := (right_len hr).1; omega
  | succ n ih =>
    intro t hn hr h
    rw [kn_eq _ t hr, Bool.or_eq_true] at h
    rcases h with h | h
    · rw [Bool.and_eq_true] at h; exact h.2
    · refine hm t hr ?_
      rw [makes_congr (K' := fun s => decide (s.length < t.length) && right s && kn (fun t => right t && P t) s) (fun s hs hl => by rw [hs]; simp [hl])] at h
      refine makes_mono (fun s hs => ?_) h
      simp only [Bool.and_eq_true, decide_eq_true_eq] at hs
      exact ih s om_ hs.1.2 hs.2
 have hAp : Apart (fun t => right t && P t) := by
  intro t x h hx
  rw [Bool.and_eq_true] at h
  refine ⟨fun ho k hk => ?_, fun ho hk => ?_⟩
  · rw [Bool.and_eq_true]
    exact ⟨(rt_kids hx k hk).1, ht t x h.2 hx ho k hk⟩
  · obtain ⟨a, b, e, ra, rb, _⟩ := rt_two_kids hx (by rw [show x.op = 66 from UInt8.toNat_inj.1 ho]; rfl)
    have h0 := hb t x h.2 hx ho
    rw [e] at hk h0 ⊢
    simp only [List.getD_cons_zero, List.getD_cons_succ] at hk h0 ⊢
    rw [Bool.and_eq_true]
    exact ⟨rb, h0 (hP a.length a (Nat.le_refl _) ra hk)⟩
 intro t hr h
 exact hP t.length t (Nat.le_refl _) hr (kn_mono (hL.2.2 _ (fun s hs => by rw [Bool.and_eq_true]; exact hH s hs) hAp) h)
end Go.Proofs.YtaaiaahkakkleaaGreatDoor
