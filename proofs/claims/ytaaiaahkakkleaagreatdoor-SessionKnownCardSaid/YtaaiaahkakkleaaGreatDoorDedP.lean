/- What somebody can make, plain: a public key's secret, the rules, what is known of what is held, what is held of what was heard. -/
import Derived.Test.YtaaiaahkakkleaaGreatDoorMSpec
set_option linter.unusedSimpArgs false
set_option linter.unusedVariables false
namespace Go.Proofs.YtaaiaahkakkleaaGreatDoor
open Go.RowKit
def secF : Nat → List UInt8 → Option (List UInt8)
 | 0, _ => none
 | n + 1, t => match rt t with
   | none => none
   | some x =>
     if x.op.toNat = 80 then some (x.kids.getD 0 [])
     else if x.op.toNat = 87 then
      (if (twoT 86 ((secF n (x.kids.getD 0 [])).getD []) ((secF n (x.kids.getD 1 [])).getD [])).2 = 0 then some (twoT 86 ((secF n (x.kids.getD 0 [])).getD []) ((secF n (x.kids.getD 1 [])).getD [])).1 else none)
     else if x.op.toNat = 76 then
      (if (twoT 75 ((secF n (x.kids.getD 0 [])).getD []) (x.kids.getD 1 [])).2 = 0 then some (twoT 75 ((secF n (x.kids.getD 0 [])).getD []) (x.kids.getD 1 [])).1 else none)
     else none
def secT (t : List UInt8) : Option (List UInt8) := secF t.length t
theorem two_right {c : UInt8} {a b : List UInt8} (h : (twoT c a b).2 = 0) : right (twoT c a b).1 = true ∧ (twoT c a b).1 = c :: (a ++ b) ∧ right a = true ∧ right b = true := by
 unfold twoT at h ⊢
 split at h
 · rename_i hab
   rw [if_pos hab]
   unfold made at h ⊢
   split at h
   · rename_i hr
     rw [if_pos hr]
     exact ⟨hr, rfl, hab.1, hab.2⟩
   · simp at h
 · simp at h
theorem secF_ok : ∀ (n : Nat) (t s : List UInt8), secF n t = some s → right s = true ∧ s.length < t.length
 | 0, t, s, h => by simp [secF] at h
 | n + 1, t, s, h => by
   rw [secF] at h
   cases hx : rt t with
   | none => rw [hx] at h; cases h
   | some x =>
     rw [hx] at h
     simp only at h
     split at h
     · rename_i ho
       obtain ⟨a, hk, hr, hl⟩ := rt_one_kid hx (by rw [show x.op = 80 from UInt8.toNat_inj.1 ho]; rfl)
       rw [hk] at h
       simp only [List.getD_cons_zero, Option.some.injEq] at h
       subst h
       exact ⟨hr, hl⟩
     · split at h
       · rename_i ho
         have ha : arity x.op = some 2 := by rw [show x.op = 87 from UInt8.toNat_inj.1 ho]; rfl
         obtain ⟨a, b, hk, ra, rb, la, lb⟩ := rt_two_kids hx ha
         have htx := rt_text hx ha
         rw [hk] at h htx
         simp only [List.getD_cons_zero, List.getD_cons_succ] at h
         split at h
         · rename_i h0
           obtain ⟨g1, g2, g3, g4⟩ := two_right h0
           simp only [Option.some.injEq] at h
           subst h
           refine ⟨g1, ?_⟩
           rw [g2, htx]
           have f : ∀ (u v : List UInt8), right ((secF n u).getD []) = true → secF n u = some v → v.length < u.length := fun u v _ hv => (secF_ok n u v hv).2
           cases h1 : secF n a with
           | none => rw [h1] at g3; simp [right, rt, rd] at g3
           | some u =>
             cases h2 : secF n b with
             | none => rw [h2] at g4; simp [right, rt, rd] at g4
             | some v =>
               have l1 := (secF_ok n a u h1).2
               have l2 := (secF_ok n b v h2).2
               simp [cat]
               omega
         · cases h
       · split at h
         · rename_i ho
           have ha : arity x.op = some 2 := by rw [show x.op = 76 from UInt8.toNat_inj.1 ho]; rfl
           obtain ⟨a, b, hk, ra, rb, la, lb⟩ := rt_two_kids hx ha
           have htx := rt_text hx ha
           rw [hk] at h htx
           simp only [List.getD_cons_zero, List.getD_cons_succ] at h
           split at h
           · rename_i h0
             obtain ⟨g1, g2, g3, g4⟩ := two_right h0
             simp only [Option.some.injEq] at h
             subst h
             refine ⟨g1, ?_⟩
             rw [g2, htx]
             cases h1 : secF n a with
             | none => rw [h1] at g3; simp [right, rt, rd] at g3
             | some u =>
               have l1 := (secF_ok n a u h1).2
               simp [cat]
               omega
           · cases h
         · cases h
def agrB (K : List UInt8 → Bool) (k j : List UInt8) : Bool := (pubT j).2 == 0 && head (pubT j).1 == 80 && K k && K (pubT j).1
def makesB (K : List UInt8 → Bool) (t : List UInt8) : Bool :=
 match rt t with
 | none => true
 | some x =>
   if x.op.toNat = 110 then false
   else if x.op.toNat = 88 then agrB K (x.kids.getD 0 []) (x.kids.getD 1 []) || agrB K (x.kids.getD 1 []) (x.kids.getD 0 [])
   else if x.op.toNat = 80 ∨ x.op.toNat = 87 ∨ x.op.toNat = 76 then (match secT t with | some s => K s | none => false) || (x.op.toNat != 80 && x.kids.all K)
   else x.kids.all K
theorem pub_plain {j : List UInt8} (h : ((pubT j).2 == 0 && head (pubT j).1 == 80) = true) : (pubT j).1 = 80 :: j ∧ right (80 :: j) = true ∧ right j = true := by
 unfold pubT at h ⊢
 split at h
 · rename_i hr
   rw [if_pos hr]
   unfold made at h ⊢
   split at h
   · rename_i hr2
     rw [if_pos hr2]
     simp only [Bool.and_eq_true, beq_iff_eq] at h
     have hk : keyT j = 80 :: j := by
      rw [keyT_eq] at h ⊢
      split
      · rfl
      · rename_i s hs
        rw [hs] at h
        simp only at h
        split
        · rename_i h1; rw [if_pos h1] at h; simp [head] at h
        · rename_i h1
          rw [if_neg h1] at h
          split
          · rename_i h2; rw [if_pos h2] at h; simp [head] at h
          · rfl
     rw [hk] at hr2
     exact ⟨hk, hr2, hr⟩
   · simp at h
 · simp at h
theorem agr_congr {K K' : List UInt8 → Bool} {n : Nat} (hK : ∀ s, right s = true → s.length < n → K s = K' s) {k j : List UInt8} (hk : right k = true) (hl : k.length + j.length < n) (hp : 1 ≤ k.length) : agrB K k j = agrB K' k j := by
 unfold agrB
 cases h : ((pubT j).2 == 0 && head (pubT j).1 == 80) with
 | false => simp
 | true =>
   obtain ⟨e1, e2, e3⟩ := pub_plain h
   rw [e1, hK k hk om_, hK (80 :: j) e2 so_]
theorem makes_congr {K K' : List UInt8 → Bool} {t : List UInt8} (hK : ∀ s, right s = true → s.length < t.length → K s = K' s) : makesB K t = makesB K' t := by
 unfold makesB
 cases hx : rt t with
 | none => rfl
 | some x =>
   simp only
   have hall : x.kids.all K = x.kids.all K' := by
    have hk := rt_kids hx
    generalize x.kids = ks at hk
    induction ks with
    | nil => rfl
    | cons a r ih =>
      rw [List.all_cons, List.all_cons, hK a (hk a si_).1 (hk a si_).2, ih (fun y hy => hk y (by simp [hy]))]
   by_cases h1 : x.op.toNat = 110
   · rw [if_pos h1, if_pos h1]
   rw [if_neg h1, if_neg h1]
   by_cases h2 : x.op.toNat = 88
   · rw [if_pos h2, if_pos h2]
     have ha : arity x.op = some 2 := by rw [show x.op = 88 from UInt8.toNat_inj.1 h2]; rfl
     obtain ⟨a, b, hk, ra, rb, la, lb⟩ := rt_two_kids hx ha
     have htx := rt_text hx ha
     have hlen : t.length = 1 + a.length + b.length := by rw [htx, hk]; simp [cat]; omega
     have pa := (right_len ra).1
     have pb := (right_len rb).1
     rw [hk]
     simp only [List.getD_cons_zero, List.getD_cons_succ]
     rw [agr_congr hK ra om_ pa, agr_congr hK rb om_ pb]
   rw [if_neg h2, if_neg h2]
   split
   · rw [hall]
     cases hs : secT t with
     | none => rfl
     | some s =>
       obtain ⟨g1, g2⟩ := secF_ok _ _ _ hs
       simp only
       rw [hK s g1 g2]
   · exact hall
theorem makes_mono {K K' : List UInt8 → Bool} (hK : ∀ s, K s = true → K' s = true) {t : List UInt8} (h : makesB K t = true) : makesB K' t = true := by
 unfold makesB at h ⊢
 cases hx : rt t with
 | none => rfl
 | some x =>
   rw [hx] at h
   simp only at h ⊢
   have hall : x.kids.all K = true → x.kids.all K' = true := by
    intro ha
    rw [List.all_eq_true] at ha ⊢
    exact fun y hy => hK y (ha y hy)
   have hagr : ∀ k j, agrB K k j = true → agrB K' k j = true := by
    intro k j ha
    unfold agrB at ha ⊢
    simp only [Bool.and_eq_true] at ha ⊢
    exact ⟨⟨ha.1.1, hK _ ha.1.2⟩, hK _ ha.2⟩
   by_cases h1 : x.op.toNat = 110
   · rw [if_pos h1] at h; cases h
   rw [if_neg h1] at h ⊢
   by_cases h2 : x.op.toNat = 88
   · rw [if_pos h2, Bool.or_eq_true] at h ⊢
     exact h.imp (hagr _ _) (hagr _ _)
   rw [if_neg h2] at h ⊢
   by_cases h3 : x.op.toNat = 80 ∨ x.op.toNat = 87 ∨ x.op.toNat = 76
   · rw [if_pos h3, Bool.or_eq_true] at h ⊢
     rcases h with h | h
     · left
       cases hs : secT t with
       | none => rw [hs] at h; cases h
       | some s => rw [hs] at h; exact hK _ h
     · right
       rw [Bool.and_eq_true] at h ⊢
       exact ⟨h.1, hall h.2⟩
   · rw [if_neg h3] at h ⊢
     exact hall h
def knF (held : List UInt8 → Bool) : Nat → List UInt8 → Bool
 | 0, _ => false
 | n + 1, t => held t || makesB (knF held n) t
def kn (held : List UInt8 → Bool) (t : List UInt8) : Bool := knF held t.length t
theorem knF_fuel (held : List UInt8 → Bool) : ∀ (n m : Nat) (t : List UInt8), t.length ≤ n → t.length ≤ m → 1 ≤ t.length → knF held n t = knF held m t
 | 0, _, t, h, _, h1 => by omega
 | _ + 1, 0, t, _, h, h1 => by omega
 | n + 1, m + 1, t, hn, hm, h1 => by
   rw [knF, knF, makes_congr (K := knF held n) (K' := knF held m) (fun s hs hl => knF_fuel held n m s om_ om_ (right_len hs).1)]
theorem kn_eq (held : List UInt8 → Bool) (t : List UInt8) (h : right t = true) : kn held t = (held t || makesB (kn held) t) := by
 have hl := (right_len h).1
 unfold kn
 rw [knF_fuel held t.length (t.length + 1) t (Nat.le_refl _) om_ hl, knF, makes_congr (K := knF held t.length) (K' := fun t => knF held t.length t) (fun s hs hl2 => knF_fuel held _ _ s om_ (Nat.le_refl _) (right_len hs).1)]
theorem knF_mono {held held' : List UInt8 → Bool} (hh : ∀ s, held s = true → held' s = true) : ∀ (n : Nat) (t : List UInt8), knF held n t = true → knF held' n t = true
 | 0, t, h => by simp [knF] at h
 | n + 1, t, h => by
   rw [knF, Bool.or_eq_true] at h ⊢
   exact h.imp (hh t) (makes_mono (knF_mono hh n))
theorem kn_mono {held held' : List UInt8 → Bool} (hh : ∀ s, held s = true → held' s = true) {t : List UInt8} (h : kn held t = true) : kn held' t = true := knF_mono hh _ _ h
def Apart (S : List UInt8 → Bool) : Prop := ∀ t x, S t = true → rt t = some x → (x.op.toNat = 84 → ∀ k ∈ x.kids, S k = true) ∧ (x.op.toNat = 66 → kn S (x.kids.getD 0 []) = true → S (x.kids.getD 1 []) = true)
def Least (H S : List UInt8 → Bool) : Prop := (∀ t, H t = true → S t = true) ∧ Apart S ∧ ∀ S', (∀ t, H t = true → S' t = true) → Apart S' → ∀ t, S t = true → S' t = true
end Go.Proofs.YtaaiaahkakkleaaGreatDoor
