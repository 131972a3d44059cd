/- What somebody can make, plain: how what is held grows until it is taken apart; what is told of several. -/
import Derived.Test.YtaaiaahkakkleaaGreatDoorDedU
import Derived.Test.YtaaiaahkakkleaaGreatDoorDedM
set_option linter.unusedSimpArgs false
set_option linter.unusedVariables false
namespace Go.Proofs.YtaaiaahkakkleaaGreatDoor
open Go.RowKit
def ins (S : List UInt8 → Bool) (k t : List UInt8) : Bool := S t || t == k
def setF (S : List UInt8 → Bool) (t : List UInt8) : Option Bool := if S t = true then some true else none
theorem setF_some (S : List UInt8 → Bool) (t : List UInt8) : (setF S t).isSome = S t := by unfold setF; cases S t <;> rfl
theorem setF_getD (S : List UInt8 → Bool) (t : List UInt8) : (setF S t).getD false = S t := by unfold setF; cases S t <;> rfl
theorem setF_ins (S : List UInt8 → Bool) (k : List UInt8) : putB (setF S) k true = setF (ins S k) := by
 funext t
 unfold putB setF ins
 by_cases h : t = k
 · subst h; simp
 · rw [if_neg h]
   simp [h]
theorem setF_none : (fun _ : List UInt8 => (none : Option Bool)) = setF (fun _ => false) := rfl
theorem ins_mono {S S2 : List UInt8 → Bool} {k : List UInt8} (h : ∀ t, S t = true → S2 t = true) (hk : S2 k = true) : ∀ t, ins S k t = true → S2 t = true := by
 intro t ht
 unfold ins at ht
 simp only [Bool.or_eq_true, beq_iff_eq] at ht
 rcases ht with h1 | rfl
 · exact h t h1
 · exact hk
theorem ins_old {S : List UInt8 → Bool} {k t : List UInt8} (h : S t = true) : ins S k t = true := by unfold ins; rw [h]; rfl
theorem ins_new {S : List UInt8 → Bool} {k : List UInt8} : ins S k k = true := by unfold ins; simp
def Grow (S S1 : List UInt8 → Bool) : Prop := (∀ t, S t = true → S1 t = true) ∧ ∀ S2, Apart S2 → (∀ t, S t = true → S2 t = true) → ∀ t, S1 t = true → S2 t = true
theorem grow_refl (S : List UInt8 → Bool) : Grow S S := ⟨fun _ h => h, fun _ _ h => h⟩
theorem grow_tuple {S S1 : List UInt8 → Bool} {t k : List UInt8} {x : Sh} (h : Grow S S1) (ht : S1 t = true) (hx : rt t = some x) (ho : x.op.toNat = 84) (hk : k ∈ x.kids) : Grow S (ins S1 k) :=
 ⟨fun s hs => ins_old (h.1 s hs), fun S2 hA h2 => ins_mono (h.2 S2 hA h2) ((hA t x (h.2 S2 hA h2 t ht) hx).1 ho k hk)⟩
theorem grow_box {S S1 : List UInt8 → Bool} {t : List UInt8} {x : Sh} (h : Grow S S1) (ht : S1 t = true) (hx : rt t = some x) (ho : x.op.toNat = 66) (hk : kn S1 (x.kids.getD 0 []) = true) : Grow S (ins S1 (x.kids.getD 1 [])) :=
 ⟨fun s hs => ins_old (h.1 s hs), fun S2 hA h2 => ins_mono (h.2 S2 hA h2) ((hA t x (h.2 S2 hA h2 t ht) hx).2 ho (kn_mono (h.2 S2 hA h2) hk))⟩
def Made (H S : List UInt8 → Bool) : Prop := (∀ t, H t = true → S t = true) ∧ ∀ S2, (∀ t, H t = true → S2 t = true) → Apart S2 → ∀ t, S t = true → S2 t = true
theorem made_grow {H S S1 : List UInt8 → Bool} (h : Made H S) (hg : Grow S S1) : Made H S1 := ⟨fun t ht => hg.1 t (h.1 t ht), fun S2 h2 hA => hg.2 S2 hA (h.2 S2 h2 hA)⟩
theorem made_least {H S : List UInt8 → Bool} (h : Made H S) (hA : Apart S) : Least H S := ⟨h.1, hA, h.2⟩
theorem made_ins {H S : List UInt8 → Bool} (h : Least H S) (t : List UInt8) : Made (ins H t) (ins S t) :=
 ⟨fun s hs => ins_mono (S2 := ins S t) (fun u hu => ins_old (h.1 u hu)) ins_new s hs, fun S2 h2 hA => ins_mono (h.2.2 S2 (fun u hu => h2 u (ins_old hu)) hA) (h2 t ins_new)⟩
theorem least_none : Least (fun _ => false) (fun _ => false) := ⟨fun _ h => h, fun _ _ h => (Bool.false_ne_true h).elim, fun _ _ _ t h => (Bool.false_ne_true h).elim⟩
theorem made_in {H S : List UInt8 → Bool} {L : List (List UInt8)} (h : Made H S) (hL : ∀ t, H t = true → t ∈ L) (hr : ∀ t ∈ L, right t = true) : ∀ t, S t = true → t ∈ L.flatMap subs := by
 intro t ht
 have := h.2 (fun t => decide (t ∈ L.flatMap subs)) (fun u hu => by
  rw [decide_eq_true_eq, List.mem_flatMap]
  exact ⟨u, hL u hu, subs_self (hr u (hL u hu))⟩) (fun u x hu hx => by
   rw [decide_eq_true_eq, List.mem_flatMap] at hu
   obtain ⟨v, hv, hu⟩ := hu
   have hk : ∀ k ∈ x.kids, decide (k ∈ L.flatMap subs) = true := fun k hk => by
    rw [decide_eq_true_eq, List.mem_flatMap]
    exact ⟨v, hv, subs_kid v.length v (Nat.le_refl _) (hr v hv) u x hu hx k hk⟩
   refine ⟨fun _ => hk, fun ho _ => ?_⟩
   obtain ⟨a, b, e, _⟩ := rt_two_kids hx (by rw [show x.op = 66 from UInt8.toNat_inj.1 ho]; rfl)
   exact hk _ (by rw [e]; simp)) t ht
 simpa using this
theorem flat_right {L : List (List UInt8)} (hr : ∀ t ∈ L, right t = true) {t : List UInt8} (h : t ∈ L.flatMap subs) : right t = true := by
 obtain ⟨v, hv, h⟩ := List.mem_flatMap.1 h
 exact (subs_right v.length v (Nat.le_refl _) (hr v hv) t h).1
theorem flatS_len : ∀ {L : List (List UInt8)}, (∀ t ∈ L, right t = true) → (L.flatMap subs).length ≤ L.length * 16384
 | [], _ => by simp
 | a :: r, h => by
   have h1 := subs_len (h a si_)
   have h2 := (right_len (h a si_)).2
   have h3 := flatS_len (L := r) (fun t ht => h t (by simp [ht]))
   rw [List.flatMap_cons, List.length_append, List.length_cons]
   omega
def Done (S S1 : List UInt8 → Bool) (t : List UInt8) : Prop := ∀ x, rt t = some x → (x.op.toNat = 84 → ∀ k ∈ x.kids, S1 k = true) ∧ (x.op.toNat = 66 → S1 (x.kids.getD 1 []) = true ∨ kn S (x.kids.getD 0 []) = false)
theorem done_mono {S S1 S2 : List UInt8 → Bool} {t : List UInt8} (h : Done S S1 t) (h2 : ∀ s, S1 s = true → S2 s = true) : Done S S2 t := fun x hx => ⟨fun ho k hk => h2 k ((h x hx).1 ho k hk), fun ho => ((h x hx).2 ho).imp (h2 _) id⟩
theorem done_apart {S : List UInt8 → Bool} (h : ∀ t, S t = true → Done S S t) : Apart S := fun t x ht hx => ⟨(h t ht x hx).1, fun ho hk => by
 rcases (h t ht x hx).2 ho with h1 | h1
 · exact h1
 · rw [hk] at h1; cases h1⟩
end Go.Proofs.YtaaiaahkakkleaaGreatDoor
