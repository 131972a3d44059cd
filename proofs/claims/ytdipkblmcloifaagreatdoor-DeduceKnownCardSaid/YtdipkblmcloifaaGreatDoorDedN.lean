/- What somebody can make, plain: the document's list of all that matters. -/
import Derived.Test.YtdipkblmcloifaaGreatDoorDedY
set_option linter.unusedSimpArgs false
set_option linter.unusedVariables false
namespace Go.Proofs.YtdipkblmcloifaaGreatDoor
open Go.RowKit

/-- A public key, if it is one, is added with what is within. -/
def pubW (f : List (List UInt8) → List UInt8 → List (List UInt8)) (l : List (List UInt8)) (k : List UInt8) : List (List UInt8) := if (oneT 80 k).2 = 0 then f l (oneT 80 k).1 else l
def secW (f : List (List UInt8) → List UInt8 → List (List UInt8)) (l : List (List UInt8)) (t : List UInt8) : List (List UInt8) := match secT t with | some s => f l s | none => l
def wiF : Nat → List (List UInt8) → List UInt8 → List (List UInt8)
  | 0, l, _ => l
  | n + 1, l, t => if l.contains t = true then l else match rt t with
    | none => l ++ [t]
    | some x =>
      if x.op.toNat = 88 then pubW (wiF n) (pubW (wiF n) (secW (wiF n) (x.kids.foldl (wiF n) (l ++ [t])) t) (x.kids.getD 0 [])) (x.kids.getD 1 [])
      else secW (wiF n) (x.kids.foldl (wiF n) (l ++ [t])) t
/-- What is asked for a term's sake, at once. -/
def succT (u v : List UInt8) : Prop := ∃ x, rt u = some x ∧ (v ∈ x.kids ∨ secT u = some v ∨ (x.op.toNat = 88 ∧ ∃ k ∈ x.kids, right (80 :: k) = true ∧ v = 80 :: k))
/-- What has come has all that is asked for its sake. -/
structure Came (U l l' : List (List UInt8)) : Prop where
  old : ∀ u ∈ l, u ∈ l'
  new : ∀ u ∈ l', u ∉ l → u ∈ U ∧ ∀ v, succT u v → v ∈ l'
  apart : l.Pairwise (fun a b => a ≠ b) → l'.Pairwise (fun a b => a ≠ b)
theorem came_refl (U l : List (List UInt8)) : Came U l l := ⟨fun _ h => h, fun u h hn => absurd h hn, fun h => h⟩
theorem came_trans {U a b c : List (List UInt8)} (h : Came U a b) (h' : Came U b c) : Came U a c :=
  ⟨fun u hu => h'.old u (h.old u hu), fun u hu hn => by
    by_cases hb : u ∈ b
    · obtain ⟨h1, h2⟩ := h.new u hb hn
      exact ⟨h1, fun v hv => h'.old v (h2 v hv)⟩
    · exact h'.new u hu hb, fun hd => h'.apart (h.apart hd)⟩
theorem one_pub {k : List UInt8} (h : (oneT 80 k).2 = 0) : (oneT 80 k).1 = 80 :: k ∧ right (80 :: k) = true := by
  unfold oneT made at h ⊢
  split at h
  · rename_i h1
    rw [if_pos h1]
    split at h
    · rename_i h2; rw [if_pos h2]; exact ⟨rfl, h2⟩
    · simp at h
  · simp at h
theorem one_pub_of {k : List UInt8} (hk : right k = true) (h : right (80 :: k) = true) : (oneT 80 k).2 = 0 := by
  unfold oneT made
  rw [if_pos hk, if_pos h]
theorem came_fold {U : List (List UInt8)} {f : List (List UInt8) → List UInt8 → List (List UInt8)} : ∀ (ks l : List (List UInt8)), (∀ l, ∀ k ∈ ks, Came U l (f l k) ∧ k ∈ f l k) → Came U l (ks.foldl f l) ∧ ∀ k ∈ ks, k ∈ ks.foldl f l
  | [], l, _ => ⟨came_refl U l, by simp⟩
  | k :: r, l, h => by
    obtain ⟨h1, h2⟩ := h l k (by simp)
    obtain ⟨h3, h4⟩ := came_fold r (f l k) (fun l x hx => h l x (by simp [hx]))
    rw [List.foldl_cons]
    refine ⟨came_trans h1 h3, fun x hx => ?_⟩
    rcases List.mem_cons.1 hx with rfl | hx
    · exact h3.old _ h2
    · exact h4 x hx
/-- The list with all that stands within a term, and is asked for its sake. -/
theorem wiF_came {U : List (List UInt8)} (hU : Shut U) : ∀ (n : Nat) (l : List (List UInt8)) (t : List UInt8), t.length ≤ n → right t = true → t ∈ U → Came U l (wiF n l t) ∧ t ∈ wiF n l t := by
  intro n
  induction n with
  | zero => intro l t hl hr; have := (right_len hr).1; omega
  | succ n ih =>
    intro l t hl hr ht
    obtain ⟨x, hx⟩ := right_some hr
    have hks := rt_kids hx
    rw [wiF]
    by_cases hc : l.contains t = true
    · rw [if_pos hc]; exact ⟨came_refl U l, by simpa using hc⟩
    rw [if_neg hc, hx]
    simp only
    have hnl : t ∉ l := by simpa using hc
    obtain ⟨k1, k2⟩ := came_fold (U := U) (f := wiF n) x.kids (l ++ [t]) (fun l k hk => ih l k (by have := (hks k hk).2; omega) (hks k hk).1 (hU.kid t x ht hx k hk))
    generalize x.kids.foldl (wiF n) (l ++ [t]) = l1 at *
    have hs : Came U l1 (secW (wiF n) l1 t) ∧ ∀ v, secT t = some v → v ∈ secW (wiF n) l1 t := by
      unfold secW
      cases hq : secT t with
      | none => exact ⟨came_refl U l1, fun v h => by cases h⟩
      | some s =>
        obtain ⟨g1, g2⟩ := secF_ok _ _ _ hq
        obtain ⟨i1, i2⟩ := ih l1 s (by omega) g1 (hU.sec t s ht hq)
        exact ⟨i1, fun v h => by injection h with h; rw [← h]; exact i2⟩
    obtain ⟨s1, s2⟩ := hs
    generalize secW (wiF n) l1 t = l2 at *
    -- the end: what has come besides t has all, and t has
    have fin : ∀ l3, Came U l2 l3 → (∀ v, succT t v → v ∈ l3) → Came U l l3 ∧ t ∈ l3 := by
      intro l3 h3 hv
      have h12 := came_trans (came_trans k1 s1) h3
      refine ⟨⟨fun u hu => h12.old u (by simp [hu]), fun u hu hn => ?_, fun hd => h12.apart ?_⟩, h12.old t (by simp)⟩
      · by_cases e : u = t
        · subst e; exact ⟨ht, hv⟩
        · exact h12.new u hu (by simp [hn, e])
      · rw [List.pairwise_append]
        exact ⟨hd, by simp, fun a ha b hb e => by rw [List.mem_singleton.1 hb] at e; exact hnl (e ▸ ha)⟩
    by_cases ho : x.op.toNat = 88
    · rw [if_pos ho]
      obtain ⟨a, b, e, ra, rb, la, lb⟩ := rt_two_kids hx (by rw [show x.op = 88 from UInt8.toNat_inj.1 ho]; rfl)
      have hsum := rt_sum hx
      rw [e] at hsum
      simp only [sumL] at hsum
      have n1 := name_long ra
      have n2 := name_long rb
      have hp : ∀ (m : List (List UInt8)) (k : List UInt8), k ∈ x.kids → Came U m (pubW (wiF n) m k) ∧ (right (80 :: k) = true → 80 :: k ∈ pubW (wiF n) m k) := by
        intro m k hk
        unfold pubW
        split
        · rename_i h0
          obtain ⟨o1, o2⟩ := one_pub h0
          rw [o1]
          have hkl : k.length + 2 ≤ n := by
            rw [e] at hk
            rcases List.mem_cons.1 hk with rfl | hk
            · omega
            · rw [List.mem_singleton.1 hk]; omega
          obtain ⟨i1, i2⟩ := ih m (80 :: k) (by simp; omega) o2 (hU.pub t x ht hx ho k hk o2)
          exact ⟨i1, fun _ => i2⟩
        · rename_i h0
          exact ⟨came_refl U m, fun h => absurd (one_pub_of (hks k hk).1 h) h0⟩
      rw [e]
      simp only [List.getD_cons_zero, List.getD_cons_succ]
      obtain ⟨p1, p2⟩ := hp l2 a (by rw [e]; simp)
      obtain ⟨q1, q2⟩ := hp (pubW (wiF n) l2 a) b (by rw [e]; simp)
      refine fin _ (came_trans p1 q1) ?_
      rintro v ⟨y, hy, hv⟩
      rw [hx] at hy
      injection hy with hy
      subst hy
      rcases hv with hv | hv | ⟨_, k, hk, hr2, rfl⟩
      · exact q1.old v (p1.old v (s1.old v (k2 v hv)))
      · exact q1.old v (p1.old v (s2 v hv))
      · rw [e] at hk
        rcases List.mem_cons.1 hk with rfl | hk
        · exact q1.old _ (p2 hr2)
        · rw [List.mem_singleton.1 hk] at hr2 ⊢; exact q2 hr2
    · rw [if_neg ho]
      refine fin l2 (came_refl U l2) ?_
      rintro v ⟨y, hy, hv⟩
      rw [hx] at hy
      injection hy with hy
      subst hy
      rcases hv with hv | hv | ⟨h88, _⟩
      · exact s1.old v (k2 v hv)
      · exact s2 v hv
      · exact absurd h88 ho
/-- A list from nothing on is closed. -/
theorem came_shut {U l : List (List UInt8)} (h : Came U [] l) : Shut l := by
  refine ⟨fun s x hs hx k hk => (h.new s hs (by simp)).2 k ⟨x, hx, .inl hk⟩, fun s u hs hu => ?_, fun s x hs hx ho k hk hr => (h.new s hs (by simp)).2 _ ⟨x, hx, .inr (.inr ⟨ho, k, hk, hr, rfl⟩)⟩⟩
  obtain ⟨x, hx⟩ := secT_some hu
  exact (h.new s hs (by simp)).2 u ⟨x, hx, .inr (.inl hu)⟩
/-- Several closed lists are one. -/
theorem shut_flat {L : List (List UInt8)} (h : ∀ t ∈ L, right t = true) : Shut (L.flatMap univ) := by
  refine ⟨fun s x hs hx k hk => ?_, fun s u hs hu => ?_, fun s x hs hx ho k hk hr => ?_⟩
  all_goals
    obtain ⟨t, ht, hs⟩ := List.mem_flatMap.1 hs
    have hU := univ_shut (h t ht)
    rw [List.mem_flatMap]
  · exact ⟨t, ht, hU.kid s x hs hx k hk⟩
  · exact ⟨t, ht, hU.sec s u hs hu⟩
  · exact ⟨t, ht, hU.pub s x hs hx ho k hk hr⟩
end Go.Proofs.YtdipkblmcloifaaGreatDoor
