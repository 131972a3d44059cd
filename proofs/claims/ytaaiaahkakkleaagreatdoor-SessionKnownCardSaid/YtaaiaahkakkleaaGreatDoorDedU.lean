/- What somebody can make, plain: what stands within a term, and the closed list of all that is asked for its sake. -/
import Derived.Test.YtaaiaahkakkleaaGreatDoorDedR
set_option linter.unusedSimpArgs false
set_option linter.unusedVariables false
namespace Go.Proofs.YtaaiaahkakkleaaGreatDoor
open Go.RowKit
theorem right_some {t : List UInt8} (h : right t = true) : ∃ x, rt t = some x := by unfold right at h; exact Option.isSome_iff_exists.1 h
theorem rt_sum {l : List UInt8} {x : Sh} (h : rt l = some x) : sumL x.kids + 1 ≤ l.length := by
 obtain ⟨h1, h2, h3⟩ := rt_rd h
 obtain ⟨p1, p2, p3⟩ := rd_parts h1
 have hl := (right_len (rt_right h)).1
 by_cases a1 : x.op.toNat = 110
 · rw [(p1 a1).2.1]; simp [sumL]; omega
 by_cases a2 : x.op.toNat = 116
 · rw [(p2 a2).1]; simp [sumL]; omega
 have := (p3 a1 a2).2.2.1
 omega
theorem name_long {t : List UInt8} (h : right t = true) : 2 ≤ t.length := by
 obtain ⟨x, hx⟩ : ∃ x, rt t = some x := by unfold right at h; exact Option.isSome_iff_exists.1 h
 have h1 := rt_sum hx
 by_cases hk : x.kids = []
 · -- a name, a text, or an empty row: each has more than its letter
   obtain ⟨r1, r2, _⟩ := rt_rd hx
   match t, r1 with
   | [], r1 => simp [rd] at r1
   | [c], r1 =>
     exfalso
     simp only [rd] at r1
     by_cases c1 : c = 110
     · rw [if_pos c1] at r1; simp [num, numGo] at r1
     rw [if_neg c1] at r1
     by_cases c2 : c = 116
     · rw [if_pos c2] at r1; simp [num, numGo] at r1
     rw [if_neg c2] at r1
     cases hc : cnt c [] with
     | none => rw [hc] at r1; cases r1
     | some y =>
       obtain ⟨n, k⟩ := y
       rw [hc] at r1
       simp only at r1
       unfold cnt at hc
       split at hc
       · simp [num, numGo] at hc
       · rename_i c3
         cases ha : arity c with
         | none => rw [ha] at hc; simp at hc
         | some m =>
           rw [ha] at hc
           simp only [Option.map_some, Option.some.injEq, Prod.mk.injEq] at hc
           obtain ⟨rfl, rfl⟩ := hc
           have hm : m = 1 ∨ m = 2 := by
            unfold arity at ha
            split at ha
            · left; simpa using ha.symm
            · split at ha
              · right; simpa using ha.symm
              · cases ha
           rcases hm with rfl | rfl <;> simp [kidsBy, rd] at r1
   | _ :: _ :: _, _ => simp
 · match hq : x.kids with
   | [] => exact absurd hq hk
   | a :: r =>
     have := (right_len (rt_kids hx a (by rw [hq]; simp)).1).1
     rw [hq] at h1
     simp only [sumL] at h1
     omega
def subF : Nat → List UInt8 → List (List UInt8)
 | 0, _ => []
 | n + 1, t => t :: (match rt t with | none => [] | some x => x.kids.flatMap (subF n))
def subs (t : List UInt8) : List (List UInt8) := subF t.length t
theorem subF_len : ∀ (n : Nat) (t : List UInt8), 1 ≤ t.length → (subF n t).length ≤ t.length
 | 0, t, h => by simp [subF]
 | n + 1, t, h => by
   rw [subF]
   cases hx : rt t with
   | none => simp; omega
   | some x =>
     have hs := rt_sum hx
     have hk := rt_kids hx
     simp only [List.length_cons]
     have : ∀ ks : List (List UInt8), (∀ k ∈ ks, right k = true ∧ k.length < t.length) → (ks.flatMap (subF n)).length ≤ sumL ks := by
      intro ks hks
      induction ks with
      | nil => simp
      | cons k r ih =>
        have h1 := subF_len n k (right_len (hks k si_).1).1
        have h2 := ih (fun y hy => hks y (by simp [hy]))
        rw [List.flatMap_cons, List.length_append]
        simp only [sumL]
        omega
     have := this x.kids hk
     omega
theorem subs_len {t : List UInt8} (h : right t = true) : (subs t).length ≤ t.length := subF_len _ _ (right_len h).1
theorem subF_fuel : ∀ (n m : Nat) (t : List UInt8), t.length ≤ n → t.length ≤ m → 1 ≤ t.length → subF n t = subF m t
 | 0, _, t, h, _, h1 => by omega
 | _ + 1, 0, t, _, h, h1 => by omega
 | n + 1, m + 1, t, hn, hm, h1 => by
   rw [subF, subF]
   cases hx : rt t with
   | none => rfl
   | some x =>
     simp only
     have hk := rt_kids hx
     congr 1
     generalize x.kids = ks at hk
     induction ks with
     | nil => rfl
     | cons a r ih =>
       rw [List.flatMap_cons, List.flatMap_cons, subF_fuel n m a (by have := (hk a si_).2; omega) (by have := (hk a si_).2; omega) (right_len (hk a si_).1).1, ih (fun y hy => hk y (by simp [hy]))]
theorem subs_eq {t : List UInt8} {x : Sh} (h : rt t = some x) : subs t = t :: x.kids.flatMap subs := by
 have hl := (right_len (rt_right h)).1
 have hk := rt_kids h
 unfold subs
 rw [subF_fuel t.length (t.length + 1) t (Nat.le_refl _) om_ hl, subF, h]
 simp only
 congr 1
 generalize x.kids = ks at hk
 induction ks with
 | nil => rfl
 | cons a r ih =>
   rw [List.flatMap_cons, List.flatMap_cons, subF_fuel t.length a.length a (by have := (hk a si_).2; omega) (Nat.le_refl _) (right_len (hk a si_).1).1, ih (fun y hy => hk y (by simp [hy]))]
theorem subs_self {t : List UInt8} (h : right t = true) : t ∈ subs t := by
 obtain ⟨x, hx⟩ : ∃ x, rt t = some x := by unfold right at h; exact Option.isSome_iff_exists.1 h
 rw [subs_eq hx]; simp
theorem subs_right : ∀ (n : Nat) (t : List UInt8), t.length ≤ n → right t = true → ∀ s ∈ subs t, right s = true ∧ s.length ≤ t.length := by
 intro n
 induction n with
 | zero => intro t hl hr; have := (right_len hr).1; omega
 | succ n ih =>
   intro t hl hr s hs
   obtain ⟨x, hx⟩ : ∃ x, rt t = some x := by unfold right at hr; exact Option.isSome_iff_exists.1 hr
   rw [subs_eq hx, List.mem_cons, List.mem_flatMap] at hs
   rcases hs with rfl | ⟨k, hk, hs⟩
   · exact ⟨hr, Nat.le_refl _⟩
   · have h1 := rt_kids hx k hk
     have h2 := ih k om_ h1.1 s hs
     exact ⟨h2.1, by omega⟩
theorem subs_kid : ∀ (n : Nat) (t : List UInt8), t.length ≤ n → right t = true → ∀ s x, s ∈ subs t → rt s = some x → ∀ k ∈ x.kids, k ∈ subs t := by
 intro n
 induction n with
 | zero => intro t hl hr; have := (right_len hr).1; omega
 | succ n ih =>
   intro t hl hr s x hs hx k hk
   obtain ⟨y, hy⟩ : ∃ x, rt t = some x := by unfold right at hr; exact Option.isSome_iff_exists.1 hr
   rw [subs_eq hy, List.mem_cons, List.mem_flatMap] at hs ⊢
   rcases hs with rfl | ⟨u, hu, hs⟩
   · rw [hx] at hy
     injection hy with hy
     subst hy
     exact .inr ⟨k, hk, subs_self (rt_kids hx k hk).1⟩
   · have h1 := rt_kids hy u hu
     exact .inr ⟨u, hu, ih u om_ h1.1 s x hs hx k hk⟩
structure Shut (U : List (List UInt8)) : Prop where
 kid : ∀ s x, s ∈ U → rt s = some x → ∀ k ∈ x.kids, k ∈ U
 sec : ∀ s u, s ∈ U → secT s = some u → u ∈ U
 pub : ∀ s x, s ∈ U → rt s = some x → x.op.toNat = 88 → ∀ k ∈ x.kids, right (80 :: k) = true → 80 :: k ∈ U
theorem secF_fuel : ∀ (n m : Nat) (t : List UInt8), t.length ≤ n → t.length ≤ m → 1 ≤ t.length → secF n t = secF m t
 | 0, _, t, h, _, h1 => by omega
 | _ + 1, 0, t, _, h, h1 => by omega
 | n + 1, m + 1, t, hn, hm, h1 => by
   rw [secF, secF]
   cases hx : rt t with
   | none => rfl
   | some x =>
     simp only
     have hk := rt_kids hx
     have f : ∀ i, i < x.kids.length → secF n (x.kids.getD i []) = secF m (x.kids.getD i []) := by
      intro i hi
      have hm : x.kids.getD i [] ∈ x.kids := by rw [List.getD_eq_getElem?_getD, List.getElem?_eq_getElem hi]; simp
      exact secF_fuel n m _ (by have := (hk _ hm).2; omega) (by have := (hk _ hm).2; omega) (right_len (hk _ hm).1).1
     by_cases h80 : x.op.toNat = 80
     · rw [if_pos h80, if_pos h80]
     rw [if_neg h80, if_neg h80]
     by_cases h87 : x.op.toNat = 87
     · obtain ⟨a, b, e, _⟩ := rt_two_kids hx (by rw [show x.op = 87 from UInt8.toNat_inj.1 h87]; rfl)
       rw [if_pos h87, if_pos h87, f 0 (by rw [e]; simp), f 1 (by rw [e]; simp)]
     rw [if_neg h87, if_neg h87]
     by_cases h76 : x.op.toNat = 76
     · obtain ⟨a, b, e, _⟩ := rt_two_kids hx (by rw [show x.op = 76 from UInt8.toNat_inj.1 h76]; rfl)
       rw [if_pos h76, if_pos h76, f 0 (by rw [e]; simp)]
     rw [if_neg h76, if_neg h76]
theorem secT_eq {t : List UInt8} {x : Sh} (hx : rt t = some x) : secT t =
  if x.op.toNat = 80 then some (x.kids.getD 0 [])
  else if x.op.toNat = 87 then
   (if (twoT 86 ((secT (x.kids.getD 0 [])).getD []) ((secT (x.kids.getD 1 [])).getD [])).2 = 0 then some (twoT 86 ((secT (x.kids.getD 0 [])).getD []) ((secT (x.kids.getD 1 [])).getD [])).1 else none)
  else if x.op.toNat = 76 then
   (if (twoT 75 ((secT (x.kids.getD 0 [])).getD []) (x.kids.getD 1 [])).2 = 0 then some (twoT 75 ((secT (x.kids.getD 0 [])).getD []) (x.kids.getD 1 [])).1 else none)
  else none := by
 have hl := (right_len (rt_right hx)).1
 have hk := rt_kids hx
 conv => lhs; unfold secT; rw [secF_fuel t.length (t.length + 1) t (Nat.le_refl _) om_ hl, secF, hx]
 simp only
 have f : ∀ i, i < x.kids.length → secF t.length (x.kids.getD i []) = secT (x.kids.getD i []) := by
  intro i hi
  have hm : x.kids.getD i [] ∈ x.kids := by rw [List.getD_eq_getElem?_getD, List.getElem?_eq_getElem hi]; simp
  exact secF_fuel _ _ _ (by have := (hk _ hm).2; omega) (Nat.le_refl _) (right_len (hk _ hm).1).1
 by_cases h80 : x.op.toNat = 80
 · rw [if_pos h80, if_pos h80]
 rw [if_neg h80, if_neg h80]
 by_cases h87 : x.op.toNat = 87
 · obtain ⟨a, b, e, _⟩ := rt_two_kids hx (by rw [show x.op = 87 from UInt8.toNat_inj.1 h87]; rfl)
   rw [if_pos h87, if_pos h87, f 0 (by rw [e]; simp), f 1 (by rw [e]; simp)]
 rw [if_neg h87, if_neg h87]
 by_cases h76 : x.op.toNat = 76
 · obtain ⟨a, b, e, _⟩ := rt_two_kids hx (by rw [show x.op = 76 from UInt8.toNat_inj.1 h76]; rfl)
   rw [if_pos h76, if_pos h76, f 0 (by rw [e]; simp)]
 rw [if_neg h76, if_neg h76]
theorem secT_none {t : List UInt8} (h : rt t = none) : secT t = none := by
 unfold secT
 cases t.length with
 | zero => rfl
 | succ n => rw [secF, h]
theorem secT_some {t s : List UInt8} (h : secT t = some s) : ∃ x, rt t = some x := by
 cases hx : rt t with
 | none => rw [secT_none hx] at h; cases h
 | some x => exact ⟨x, rfl⟩
def univ (t : List UInt8) : List (List UInt8) := subs t ++ ((subs t).filterMap secT ++ (subs t).map (fun u => 80 :: u))
theorem univ_len {t : List UInt8} (h : right t = true) : (univ t).length ≤ 3 * t.length := by
 have h1 := subs_len h
 have h2 := List.length_filterMap_le secT (subs t)
 unfold univ
 simp only [List.length_append, List.length_map]
 omega
theorem univ_self {t : List UInt8} (h : right t = true) : t ∈ univ t := by
 unfold univ
 simp [subs_self h]
theorem secT_join {c : UInt8} {a b s : List UInt8} (hc : arity c = some 2) (h0 : (twoT c a b).2 = 0) (hs : (twoT c a b).1 = s) : ∃ y, rt s = some y ∧ y.op = c ∧ y.kids = [a, b] := by
 obtain ⟨g1, g2, g3, g4⟩ := two_right h0
 rw [hs] at g1 g2
 obtain ⟨y, hy⟩ : ∃ y, rt s = some y := by unfold right at g1; exact Option.isSome_iff_exists.1 g1
 have hy2 := hy
 rw [g2] at hy2
 obtain ⟨e1, e2⟩ := rt_two_is hy2 hc g3
 exact ⟨y, hy, e1, e2⟩
theorem getD_sec {a : List UInt8} (h : right ((secT a).getD []) = true) : ∃ u, secT a = some u := by
 cases h1 : secT a with
 | none => rw [h1] at h; simp [right, rt, rd] at h
 | some u => exact ⟨u, rfl⟩
theorem univ_shut {t : List UInt8} (h : right t = true) : Shut (univ t) := by
 have hsub := subs_kid t.length t (Nat.le_refl _) h
 have hright := subs_right t.length t (Nat.le_refl _) h
 have inS : ∀ u, u ∈ subs t → u ∈ univ t := fun u hu => by unfold univ; simp [hu]
 have inQ : ∀ u s, u ∈ subs t → secT u = some s → s ∈ univ t := fun u s hu hs => by
  unfold univ
  rw [List.mem_append, List.mem_append, List.mem_filterMap]
  exact .inr (.inl ⟨u, hu, hs⟩)
 have inP : ∀ u, u ∈ subs t → 80 :: u ∈ univ t := fun u hu => by
  unfold univ
  rw [List.mem_append, List.mem_append, List.mem_map]
  exact .inr (.inr ⟨u, hu, rfl⟩)
 -- what a secret's parts are
 have secK : ∀ u s x, u ∈ subs t → secT u = some s → rt s = some x → (s ∈ subs t) ∨ ((x.op.toNat = 86 ∨ x.op.toNat = 75) ∧ ∀ k ∈ x.kids, k ∈ univ t) := by
  intro u s x hu hs hx
  obtain ⟨y, hy⟩ := secT_some hs
  have hs0 := hs
  rw [secT_eq hy] at hs
  by_cases h80 : y.op.toNat = 80
  · rw [if_pos h80] at hs
    obtain ⟨a, e, _⟩ := rt_one_kid hy (by rw [show y.op = 80 from UInt8.toNat_inj.1 h80]; rfl)
    rw [e] at hs
    simp only [List.getD_cons_zero, Option.some.injEq] at hs
    subst hs
    exact .inl (hsub u y hu hy a (by rw [e]; simp))
  rw [if_neg h80] at hs
  by_cases h87 : y.op.toNat = 87
  · rw [if_pos h87] at hs
    obtain ⟨a, b, e, _⟩ := rt_two_kids hy (by rw [show y.op = 87 from UInt8.toNat_inj.1 h87]; rfl)
    rw [e] at hs
    simp only [List.getD_cons_zero, List.getD_cons_succ] at hs
    split at hs
    · rename_i h0
      injection hs with hs
      obtain ⟨_, _, g3, g4⟩ := two_right h0
      obtain ⟨ua, hua⟩ := getD_sec g3
      obtain ⟨ub, hub⟩ := getD_sec g4
      obtain ⟨z, hz, e1, e2⟩ := secT_join rfl h0 hs
      rw [hx] at hz
      injection hz with hz
      subst hz
      refine .inr ⟨.inl (by rw [e1]; rfl), fun k hk => ?_⟩
      rw [e2, hua, hub] at hk
      simp only [Option.getD_some, List.mem_cons, List.not_mem_nil, or_false] at hk
      rcases hk with rfl | rfl
      · exact inQ a k (hsub u y hu hy a (by rw [e]; simp)) hua
      · exact inQ b k (hsub u y hu hy b (by rw [e]; simp)) hub
    · cases hs
  rw [if_neg h87] at hs
  by_cases h76 : y.op.toNat = 76
  · rw [if_pos h76] at hs
    obtain ⟨a, b, e, _⟩ := rt_two_kids hy (by rw [show y.op = 76 from UInt8.toNat_inj.1 h76]; rfl)
    rw [e] at hs
    simp only [List.getD_cons_zero, List.getD_cons_succ] at hs
    split at hs
    · rename_i h0
      injection hs with hs
      obtain ⟨_, _, g3, g4⟩ := two_right h0
      obtain ⟨ua, hua⟩ := getD_sec g3
      obtain ⟨z, hz, e1, e2⟩ := secT_join rfl h0 hs
      rw [hx] at hz
      injection hz with hz
      subst hz
      refine .inr ⟨.inr (by rw [e1]; rfl), fun k hk => ?_⟩
      rw [e2, hua] at hk
      simp only [Option.getD_some, List.mem_cons, List.not_mem_nil, or_false] at hk
      rcases hk with rfl | rfl
      · exact inQ a k (hsub u y hu hy a (by rw [e]; simp)) hua
      · exact inS _ (hsub u y hu hy _ (by rw [e]; simp))
    · cases hs
  rw [if_neg h76] at hs
  cases hs
 have pubK : ∀ u x, u ∈ subs t → rt (80 :: u) = some x → x.op.toNat = 80 ∧ x.kids = [u] := by
  intro u x hu hx
  have ho : x.op = 80 := head_op hx
  obtain ⟨a, e, _⟩ := rt_one_kid hx (by rw [ho]; rfl)
  have := rt_text hx (n := 1) (by rw [ho]; rfl)
  rw [e] at this
  simp [cat] at this
  exact ⟨by rw [ho]; rfl, by rw [e, this.2]⟩
 have cases3 : ∀ s, s ∈ univ t → s ∈ subs t ∨ (∃ u, u ∈ subs t ∧ secT u = some s) ∨ ∃ u, u ∈ subs t ∧ s = 80 :: u := by
  intro s hs
  unfold univ at hs
  rw [List.mem_append, List.mem_append, List.mem_filterMap, List.mem_map] at hs
  rcases hs with hs | ⟨u, hu, hs⟩ | ⟨u, hu, rfl⟩
  · exact .inl hs
  · exact .inr (.inl ⟨u, hu, hs⟩)
  · exact .inr (.inr ⟨u, hu, rfl⟩)
 refine ⟨?_, ?_, ?_⟩
 · intro s x hs hx k hk
   rcases cases3 s hs with h1 | ⟨u, hu, h1⟩ | ⟨u, hu, rfl⟩
   · exact inS k (hsub s x h1 hx k hk)
   · rcases secK u s x hu h1 hx with h2 | ⟨_, h2⟩
     · exact inS k (hsub s x h2 hx k hk)
     · exact h2 k hk
   · obtain ⟨_, e⟩ := pubK u x hu hx
     rw [e] at hk
     simp only [List.mem_cons, List.not_mem_nil, or_false] at hk
     subst hk
     exact inS _ hu
 · intro s v hs hv
   rcases cases3 s hs with h1 | ⟨u, hu, h1⟩ | ⟨u, hu, rfl⟩
   · exact inQ s v h1 hv
   · obtain ⟨x, hx⟩ := secT_some hv
     rcases secK u s x hu h1 hx with h2 | ⟨h2, _⟩
     · exact inQ s v h2 hv
     · rw [secT_eq hx] at hv
       rcases h2 with h2 | h2 <;> simp [h2] at hv
   · obtain ⟨x, hx⟩ := secT_some hv
     obtain ⟨e1, e⟩ := pubK u x hu hx
     rw [secT_eq hx, if_pos e1, e] at hv
     simp only [List.getD_cons_zero, Option.some.injEq] at hv
     subst hv
     exact inS _ hu
 · intro s x hs hx ho k hk hr
   rcases cases3 s hs with h1 | ⟨u, hu, h1⟩ | ⟨u, hu, rfl⟩
   · exact inP k (hsub s x h1 hx k hk)
   · rcases secK u s x hu h1 hx with h2 | ⟨h2, _⟩
     · exact inP k (hsub s x h2 hx k hk)
     · rcases h2 with h2 | h2 <;> omega
   · obtain ⟨e1, _⟩ := pubK u x hu hx
     omega
/-! What has been told of what is known. -/
def Tld (U : List (List UInt8)) (S : List UInt8 → Bool) (n : Nat) (f : List UInt8 → Option Bool) : Prop := ∀ s x, f s = some x → s ∈ U ∧ (s.length ≤ n → x = kn S s)
def Ext (U : List (List UInt8)) (S : List UInt8 → Bool) (n : Nat) (f f' : List UInt8 → Option Bool) : Prop := ∀ s x, f' s = some x → f s = some x ∨ (s ∈ U ∧ s.length ≤ n ∧ x = kn S s)
theorem ext_refl (U : List (List UInt8)) (S : List UInt8 → Bool) (n : Nat) (f : List UInt8 → Option Bool) : Ext U S n f f := fun _ _ h => .inl h
theorem ext_trans {U : List (List UInt8)} {S : List UInt8 → Bool} {n : Nat} {f f' f'' : List UInt8 → Option Bool} (h : Ext U S n f f') (h' : Ext U S n f' f'') : Ext U S n f f'' := fun s x hs => by
 rcases h' s x hs with h1 | h1
 · exact h s x h1
 · exact .inr h1
theorem ext_le {U : List (List UInt8)} {S : List UInt8 → Bool} {n m : Nat} {f f' : List UInt8 → Option Bool} (h : Ext U S n f f') (hn : n ≤ m) : Ext U S m f f' := fun s x hs => (h s x hs).imp id (fun ⟨a, b, c⟩ => ⟨a, by omega, c⟩)
theorem tld_ext {U : List (List UInt8)} {S : List UInt8 → Bool} {n m : Nat} {f f' : List UInt8 → Option Bool} (h : Tld U S n f) (h' : Ext U S m f f') : Tld U S n f' := fun s x hs => by
 rcases h' s x hs with h1 | ⟨h1, h2, h3⟩
 · exact h s x h1
 · exact ⟨h1, fun _ => h3⟩
theorem tld_le {U : List (List UInt8)} {S : List UInt8 → Bool} {n m : Nat} {f : List UInt8 → Option Bool} (h : Tld U S n f) (hm : m ≤ n) : Tld U S m f := fun s x hs => ⟨(h s x hs).1, fun hl => (h s x hs).2 om_⟩
end Go.Proofs.YtaaiaahkakkleaaGreatDoor
