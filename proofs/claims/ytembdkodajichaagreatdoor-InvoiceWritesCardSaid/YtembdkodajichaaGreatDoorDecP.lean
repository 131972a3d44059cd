/- Decimal digits, plain (the same texts stand in LockQ: use one of them). -/
import Derived.Test.YtembdkodajichaaGreatDoorMSpec
set_option linter.unusedSimpArgs false
set_option linter.unusedVariables false
namespace Go.Proofs.YtembdkodajichaaGreatDoor
open Go.RowKit
def isDg (c : UInt8) : Bool := decide (48 ≤ c.toNat) && decide (c.toNat ≤ 57)
def decV (l : List UInt8) : Nat := l.foldl (fun n c => n * 10 + (c.toNat - 48)) 0
theorem decV_snoc (l : List UInt8) (c : UInt8) : decV (l ++ [c]) = decV l * 10 + (c.toNat - 48) := by simp [decV]
theorem dec_dg : ∀ n : Nat, (Lib.decDigits n).all isDg = true ∧ decV (Lib.decDigits n) = n ∧ Lib.decDigits n ≠ [] ∧ (10 ≤ n → head (Lib.decDigits n) ≠ 48) ∧ (0 < n → head (Lib.decDigits n) ≠ 48) := by
 intro n
 induction n using Nat.strongRecOn with
 | ind n ih =>
   by_cases h : n < 10
   · rw [Lib.decDigits_one h]
     have e := dg_toNat n h
     refine ⟨by simp only [List.all_cons, List.all_nil, Bool.and_true, isDg, e, Bool.and_eq_true, decide_eq_true_eq]; omega, by simp only [decV, List.foldl, e]; omega, by simp, by omega, ?_⟩
     intro h0 hh
     simp only [head, List.headD_cons] at hh
     have := congrArg UInt8.toNat hh
     rw [e] at this
     simp at this
     omega
   · have e := dg_toNat (n % 10) (Nat.mod_lt _ om_)
     obtain ⟨h1, h2, h3, _, h5⟩ := ih (n / 10) om_
     have e0 : Lib.decDigits n = Lib.decDigits (n / 10) ++ [UInt8.ofNat (48 + n % 10)] := by rw [Lib.decDigits, dif_neg h]
     have hh : head (Lib.decDigits n) = head (Lib.decDigits (n / 10)) := by
      rw [e0]
      cases hq : Lib.decDigits (n / 10) with
      | nil => exact absurd hq h3
      | cons a b => rfl
     rw [hh, e0]
     refine ⟨?_, ?_, by simp, fun _ => h5 om_, fun _ => h5 om_⟩
     · rw [List.all_append, h1, Bool.true_and]
       simp [isDg, e]; omega
     · rw [decV_snoc, h2, e]; omega
theorem dec_back (l : List UInt8) : ∀ (m : Nat), l.length = m → l ≠ [] → l.all isDg = true → (l.length ≤ 1 ∨ head l ≠ 48) → Lib.decDigits (decV l) = l ∧ (2 ≤ l.length → 10 ≤ decV l) ∧ (head l ≠ 48 → 1 ≤ decV l) := by
 intro m
 induction m generalizing l with
 | zero => intro hm hne; exact absurd (List.eq_nil_of_length_eq_zero hm) hne
 | succ m ih =>
   intro hm hne hall hz
   obtain ⟨l', c, rfl⟩ : ∃ l' c, l = l' ++ [c] := ⟨l.dropLast, l.getLast hne, (List.dropLast_concat_getLast hne).symm⟩
   rw [List.all_append, Bool.and_eq_true] at hall
   have hc : 48 ≤ c.toNat ∧ c.toNat ≤ 57 := by simpa [isDg] using hall.2
   have ec : UInt8.ofNat (48 + (c.toNat - 48)) = c := by
    rw [show 48 + (c.toNat - 48) = c.toNat by omega]
    exact UInt8.ofNat_toNat
   rw [decV_snoc]
   by_cases hl : l' = []
   · subst hl
     have e0 : decV [] * 10 + (c.toNat - 48) = c.toNat - 48 := by simp [decV]
     rw [e0, Lib.decDigits_one om_, ec]
     refine ⟨rfl, by simp, fun h => ?_⟩
     have : c.toNat ≠ 48 := fun hh => h (by
      simp only [List.nil_append, head, List.headD_cons]
      exact UInt8.toNat_inj.1 hh)
     omega
   · have hh : head (l' ++ [c]) = head l' := by
      cases l' with
      | nil => exact absurd rfl hl
      | cons a b => rfl
     have hlen : l' ≠ [] → 1 ≤ l'.length := fun _ => by cases l' with | nil => exact absurd rfl hl | cons a b => simp
     have h48 : head l' ≠ 48 := by
      rcases hz with hz | hz
      · simp at hz; exact absurd hz hl
      · rwa [hh] at hz
     obtain ⟨g1, g2, g3⟩ := ih l' (by simpa using hm) hl hall.1 (.inr h48)
     have hv := g3 h48
     have d1 : (decV l' * 10 + (c.toNat - 48)) / 10 = decV l' := by omega
     have d2 : (decV l' * 10 + (c.toNat - 48)) % 10 = c.toNat - 48 := by omega
     refine ⟨?_, fun _ => by omega, fun _ => by omega⟩
     rw [Lib.decDigits, dif_neg om_, d1, d2, g1, ec]
end Go.Proofs.YtembdkodajichaaGreatDoor
