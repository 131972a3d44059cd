/- What somebody can make, plain: the document's answer, by marking what can be made of all that matters. -/
import Derived.Test.YtdipkblmcloifaaGreatDoorDedW
set_option linter.unusedSimpArgs false
set_option linter.unusedVariables false
namespace Go.Proofs.YtdipkblmcloifaaGreatDoor
open Go.RowKit

/-- What a term that can be made gives. -/
def partsR (M : List (List UInt8)) (t : List UInt8) : List (List UInt8) := match rt t with
  | none => []
  | some x => if x.op.toNat = 84 then x.kids else if x.op.toNat = 66 ∧ M.contains (x.kids.getD 0 []) = true then x.kids.drop 1 else []
def openedR (M : List (List UInt8)) (t : List UInt8) : Nat := ((partsR M t).filter (fun k => !M.contains k)).length
def addR (m : List (List UInt8)) (k : List UInt8) : List (List UInt8) := if m.contains k = true then m else m ++ [k]
def openR (M : List (List UInt8)) (t : List UInt8) : List (List UInt8) := (partsR M t).foldl addR M
/-- One term of all is looked at. -/
def stepM (s : List (List UInt8) × Bool) (u : List UInt8) : List (List UInt8) × Bool :=
  if s.1.contains u = true then (if 0 < openedR s.1 u then (openR s.1 u, true) else s) else if makesB s.1.contains u = true then (s.1 ++ [u], true) else s
theorem addR_sub (m : List (List UInt8)) (k : List UInt8) : (∀ u ∈ m, u ∈ addR m k) ∧ k ∈ addR m k ∧ m.length ≤ (addR m k).length := by
  unfold addR
  split
  · rename_i h; exact ⟨fun _ h => h, by simpa using h, Nat.le_refl _⟩
  · exact ⟨fun u hu => by simp [hu], by simp, by simp⟩
theorem fold_sub : ∀ (ks m : List (List UInt8)), (∀ u ∈ m, u ∈ ks.foldl addR m) ∧ (∀ k ∈ ks, k ∈ ks.foldl addR m) ∧ m.length ≤ (ks.foldl addR m).length
  | [], m => ⟨fun _ h => h, by simp, Nat.le_refl _⟩
  | k :: r, m => by
    obtain ⟨a1, a2, a3⟩ := addR_sub m k
    obtain ⟨b1, b2, b3⟩ := fold_sub r (addR m k)
    rw [List.foldl_cons]
    refine ⟨fun u hu => b1 u (a1 u hu), fun x hx => ?_, by omega⟩
    rcases List.mem_cons.1 hx with rfl | hx
    · exact b1 _ a2
    · exact b2 x hx
theorem fold_new : ∀ (ks m : List (List UInt8)), 0 < (ks.filter (fun k => !m.contains k)).length → m.length < (ks.foldl addR m).length
  | [], m, h => by simp at h
  | k :: r, m, h => by
    rw [List.foldl_cons]
    by_cases hk : m.contains k = true
    · rw [show addR m k = m by unfold addR; rw [if_pos hk]]
      refine fold_new r m ?_
      rw [List.filter_cons, if_neg (by simp only [hk]; simp)] at h
      exact h
    · have h1 := (fold_sub r (addR m k)).2.2
      rw [show addR m k = m ++ [k] by unfold addR; rw [if_neg hk]] at h1 ⊢
      simp only [List.length_append, List.length_cons, List.length_nil] at h1
      omega
/-- What has been marked: what was heard, and more of what matters; all of it is known. -/
structure Mark (S : List UInt8 → Bool) (all heard M : List (List UInt8)) : Prop where
  sound : ∀ u ∈ M, kn S u = true
  tail : ∃ N, M = heard ++ N ∧ N.Pairwise (fun a b => a ≠ b) ∧ ∀ u ∈ N, u ∈ all ∧ u ∉ heard
theorem mark_in {S : List UInt8 → Bool} {all heard M : List (List UInt8)} (h : Mark S all heard M) (hh : ∀ u ∈ heard, u ∈ all) : ∀ u ∈ M, u ∈ all := by
  obtain ⟨N, rfl, _, hN⟩ := h.tail
  intro u hu
  rcases List.mem_append.1 hu with hu | hu
  · exact hh u hu
  · exact (hN u hu).1
theorem mark_len {S : List UInt8 → Bool} {all heard M : List (List UInt8)} (h : Mark S all heard M) : M.length ≤ heard.length + all.length := by
  obtain ⟨N, rfl, hd, hN⟩ := h.tail
  have := nd_le N all hd (fun x hx => (hN x hx).1)
  rw [List.length_append]
  omega
theorem mark_add {S : List UInt8 → Bool} {all heard M : List (List UInt8)} {k : List UInt8} (h : Mark S all heard M) (hk : k ∈ all) (hs : kn S k = true) : Mark S all heard (addR M k) := by
  unfold addR
  split
  · exact h
  · rename_i hc
    have hn : k ∉ M := by simpa using hc
    obtain ⟨N, rfl, hd, hN⟩ := h.tail
    refine ⟨fun u hu => ?_, N ++ [k], by rw [List.append_assoc], ?_, fun u hu => ?_⟩
    · rcases List.mem_append.1 hu with hu | hu
      · exact h.sound u hu
      · rw [List.mem_singleton.1 hu]; exact hs
    · rw [List.pairwise_append]
      refine ⟨hd, by simp, fun a ha b hb => ?_⟩
      rw [List.mem_singleton.1 hb]
      rintro rfl
      exact hn (by simp [ha])
    · rcases List.mem_append.1 hu with hu | hu
      · exact hN u hu
      · rw [List.mem_singleton.1 hu]; exact ⟨hk, fun hm => hn (by simp [hm])⟩
theorem mark_fold {S : List UInt8 → Bool} {all heard : List (List UInt8)} : ∀ (ks M : List (List UInt8)), Mark S all heard M → (∀ k ∈ ks, k ∈ all ∧ kn S k = true) → Mark S all heard (ks.foldl addR M)
  | [], M, h, _ => h
  | k :: r, M, h, hk => mark_fold r (addR M k) (mark_add h (hk k (by simp)).1 (hk k (by simp)).2) (fun x hx => hk x (by simp [hx]))
theorem mark_parts {H S : List UInt8 → Bool} {all heard M : List (List UInt8)} (hL : Least H S) (hU : Shut all) (h : Mark S all heard M) {u : List UInt8} (hu : u ∈ all) (hm : u ∈ M) : ∀ k ∈ partsR M u, k ∈ all ∧ kn S k = true := by
  intro k hk
  unfold partsR at hk
  cases hx : rt u with
  | none => rw [hx] at hk; simp at hk
  | some x =>
    rw [hx] at hk
    simp only at hk
    split at hk
    · rename_i ho
      exact ⟨hU.kid u x hu hx k hk, kn_tuple hL.2.1 hx ho (h.sound u hm) k hk⟩
    · split at hk
      · rename_i ho
        obtain ⟨a, b, e, _⟩ := rt_two_kids hx (by rw [show x.op = 66 from UInt8.toNat_inj.1 ho.1]; rfl)
        have hb := kn_box hL.2.1 hx ho.1 (h.sound u hm) (h.sound _ (by simpa using ho.2))
        rw [e] at hk hb
        simp only [List.drop_succ_cons, List.drop_zero, List.mem_singleton] at hk
        subst hk
        exact ⟨hU.kid u x hu hx _ (by rw [e]; simp), hb⟩
      · simp at hk
theorem contains_mem {l : List (List UInt8)} {t : List UInt8} : l.contains t = true ↔ t ∈ l := by simp
theorem step_mark {H S : List UInt8 → Bool} {all heard M : List (List UInt8)} {b : Bool} (hL : Least H S) (hU : Shut all) (hr : ∀ u ∈ all, right u = true) (h : Mark S all heard M) {u : List UInt8} (hu : u ∈ all) :
    Mark S all heard (stepM (M, b) u).1 ∧ M.length ≤ (stepM (M, b) u).1.length ∧ (b = false → (stepM (M, b) u).2 = true → M.length < (stepM (M, b) u).1.length) ∧ ((stepM (M, b) u).2 = false → stepM (M, b) u = (M, b)) := by
  unfold stepM
  simp only
  split
  · rename_i hc
    split
    · rename_i ho
      refine ⟨mark_fold _ _ h (mark_parts hL hU h hu (contains_mem.1 hc)), (fold_sub _ _).2.2, fun _ _ => fold_new _ _ ho, fun h => by simp at h⟩
    · exact ⟨h, Nat.le_refl _, fun (h1 : b = false) (h2 : b = true) => (by rw [h1] at h2; cases h2), fun _ => rfl⟩
  · rename_i hc
    split
    · rename_i hm
      have hk : kn S u = true := kn_makes (hr u hu) (makes_mono (fun s hs => h.sound s (contains_mem.1 hs)) hm)
      have := mark_add h hu hk
      rw [show addR M u = M ++ [u] by unfold addR; rw [if_neg hc]] at this
      exact ⟨this, by simp, fun _ _ => by simp, fun h => by simp at h⟩
    · exact ⟨h, Nat.le_refl _, fun (h1 : b = false) (h2 : b = true) => (by rw [h1] at h2; cases h2), fun _ => rfl⟩
/-- Nothing more is marked. -/
def Still (all M : List (List UInt8)) : Prop := ∀ u ∈ all, stepM (M, false) u = (M, false)
/-- What is marked, when nothing more is, is what is known of all that matters. -/
theorem still_kn {H S : List UInt8 → Bool} {all heard M : List (List UInt8)} (hL : Least H S) (hU : Shut all) (hr : ∀ u ∈ all, right u = true) (hh : ∀ u ∈ heard, u ∈ all) (hH : ∀ t, H t = true ↔ t ∈ heard) (h : Mark S all heard M) (hs : Still all M) :
    ∀ u ∈ all, M.contains u = kn S u := by
  have hin := mark_in h hh
  have hno : ∀ u ∈ all, M.contains u = false → makesB M.contains u = false := by
    intro u hu hc
    have := hs u hu
    unfold stepM at this
    simp only [hc, Bool.false_eq_true, if_false] at this
    split at this
    · simp at this
    · rename_i h1; simpa using h1
  have hkn : ∀ (n : Nat) (u : List UInt8), u.length ≤ n → u ∈ all → kn M.contains u = true → M.contains u = true := by
    intro n
    induction n with
    | zero => intro u hl hu; have := (right_len (hr u hu)).1; omega
    | succ n ih =>
      intro u hl hu hk
      rw [kn_eq _ u (hr u hu), Bool.or_eq_true] at hk
      rcases hk with hk | hk
      · exact hk
      · cases hc : M.contains u with
        | true => rfl
        | false =>
          have h0 := hno u hu hc
          -- parts of u are in all, and shorter
          have hz : makesB (fun s => decide (s ∈ all) && kn M.contains s) u = true := by
            obtain ⟨x, hx⟩ := right_some (hr u hu)
            unfold makesB at hk ⊢
            rw [hx] at hk ⊢
            simp only at hk ⊢
            have hall : x.kids.all (kn M.contains) = true → x.kids.all (fun s => decide (s ∈ all) && kn M.contains s) = true := by
              intro ha
              rw [List.all_eq_true] at ha ⊢
              intro k hk
              rw [ha k hk, Bool.and_true, decide_eq_true_eq]
              exact hU.kid u x hu hx k hk
            by_cases h1 : x.op.toNat = 110
            · rw [if_pos h1] at hk; cases hk
            rw [if_neg h1] at hk ⊢
            by_cases h2 : x.op.toNat = 88
            · rw [if_pos h2] at hk ⊢
              obtain ⟨a, b, e, ra, rb, _⟩ := rt_two_kids hx (by rw [show x.op = 88 from UInt8.toNat_inj.1 h2]; rfl)
              have hag : ∀ k j, k ∈ x.kids → j ∈ x.kids → agrB (kn M.contains) k j = true → agrB (fun s => decide (s ∈ all) && kn M.contains s) k j = true := by
                intro k j hkk hjj hh
                unfold agrB at hh ⊢
                simp only [Bool.and_eq_true] at hh ⊢
                obtain ⟨⟨⟨p1, p2⟩, p3⟩, p4⟩ := hh
                obtain ⟨q1, q2, q3⟩ := pub_plain (by rw [p1, p2]; rfl)
                refine ⟨⟨⟨p1, p2⟩, by simpa using hU.kid u x hu hx k hkk, p3⟩, ?_, p4⟩
                rw [q1, decide_eq_true_eq]
                exact hU.pub u x hu hx h2 j hjj q2
              rw [e] at hk hag ⊢
              simp only [List.getD_cons_zero, List.getD_cons_succ, Bool.or_eq_true] at hk ⊢
              exact hk.imp (hag a b (by simp) (by simp)) (hag b a (by simp) (by simp))
            rw [if_neg h2] at hk ⊢
            by_cases h3 : x.op.toNat = 80 ∨ x.op.toNat = 87 ∨ x.op.toNat = 76
            · rw [if_pos h3, Bool.or_eq_true] at hk ⊢
              rcases hk with hk | hk
              · left
                cases hsx : secT u with
                | none => rw [hsx] at hk; cases hk
                | some s =>
                  rw [hsx] at hk
                  simp only at hk ⊢
                  rw [hk, Bool.and_true, decide_eq_true_eq]
                  exact hU.sec u s hu hsx
              · right
                rw [Bool.and_eq_true] at hk ⊢
                exact ⟨hk.1, hall hk.2⟩
            · rw [if_neg h3] at hk ⊢
              exact hall hk
          rw [makes_congr (K' := M.contains) (fun s hs hls => ?_)] at hz
          · rw [h0] at hz; cases hz
          · by_cases hsa : s ∈ all
            · simp only [hsa, decide_true, Bool.true_and]
              cases hq : M.contains s with
              | true => exact kn_held hs hq
              | false =>
                cases hq2 : kn M.contains s with
                | false => rfl
                | true => rw [ih s (by omega) hsa hq2] at hq; cases hq
            · simp only [hsa, decide_false, Bool.false_and]
              cases hq : M.contains s with
              | true => exact absurd (hin s (contains_mem.1 hq)) hsa
              | false => rfl
  have hA : Apart M.contains := by
    intro t x ht hx
    have hta := hin t (contains_mem.1 ht)
    have hop : openedR M t = 0 := by
      have := hs t hta
      unfold stepM at this
      simp only [ht, if_true] at this
      split at this
      · simp at this
      · omega
    have hp : ∀ k ∈ partsR M t, M.contains k = true := by
      intro k hk
      unfold openedR at hop
      have h0 := List.eq_nil_of_length_eq_zero hop
      cases hc : M.contains k with
      | true => rfl
      | false =>
        have : k ∈ (partsR M t).filter (fun k => !M.contains k) := List.mem_filter.2 ⟨hk, by simp only [hc]; rfl⟩
        rw [h0] at this
        simp at this
    unfold partsR at hp
    rw [hx] at hp
    simp only at hp
    refine ⟨fun ho k hk => hp k (by rw [if_pos ho]; exact hk), fun ho hk => ?_⟩
    obtain ⟨a, b, e, ra, rb, _⟩ := rt_two_kids hx (by rw [show x.op = 66 from UInt8.toNat_inj.1 ho]; rfl)
    have ha : a ∈ all := hU.kid t x hta hx a (by rw [e]; simp)
    rw [e] at hk hp ⊢
    simp only [List.getD_cons_zero, List.getD_cons_succ] at hk hp ⊢
    have hc := hkn a.length a (Nat.le_refl _) ha hk
    exact hp b (by rw [if_neg (by omega), if_pos ⟨ho, hc⟩]; simp)
  have hSM := hL.2.2 M.contains (fun t ht => by
    obtain ⟨N, hN, _⟩ := h.tail
    rw [contains_mem, hN]
    simp [(hH t).1 ht]) hA
  intro u hu
  cases hk : kn S u with
  | true => exact hkn u.length u (Nat.le_refl _) hu (kn_mono hSM hk)
  | false =>
    cases hc : M.contains u with
    | false => rfl
    | true => rw [h.sound u (contains_mem.1 hc)] at hk; cases hk
/-- A round over all that matters is under way. -/
structure PassI (S : List UInt8 → Bool) (all heard M : List (List UInt8)) (i : Nat) (M' : List (List UInt8)) (b : Bool) : Prop where
  mark : Mark S all heard M'
  len : M.length ≤ M'.length
  more : b = true → M.length < M'.length
  same : b = false → M' = M ∧ ∀ j u, j < i → all[j]? = some u → stepM (M, false) u = (M, false)
theorem pass_start {S : List UInt8 → Bool} {all heard M : List (List UInt8)} (h : Mark S all heard M) : PassI S all heard M 0 M false :=
  ⟨h, Nat.le_refl _, fun h => (Bool.false_ne_true h).elim, fun _ => ⟨rfl, fun j u hj => absurd hj (Nat.not_lt_zero j)⟩⟩
theorem pass_step {H S : List UInt8 → Bool} {all heard M M' : List (List UInt8)} {i : Nat} {b : Bool} {u : List UInt8} (hL : Least H S) (hU : Shut all) (hr : ∀ u ∈ all, right u = true) (h : PassI S all heard M i M' b) (hu : all[i]? = some u) :
    PassI S all heard M (i + 1) (stepM (M', b) u).1 (stepM (M', b) u).2 := by
  obtain ⟨s1, s2, s3, s4⟩ := step_mark (b := b) hL hU hr h.mark (List.mem_of_getElem? hu)
  have hl := h.len
  refine ⟨s1, by omega, fun hb => ?_, fun hb => ?_⟩
  · cases b with
    | true => have := h.more rfl; omega
    | false => have := s3 rfl hb; omega
  · have e := s4 hb
    have hb0 : b = false := by rw [e] at hb; exact hb
    subst hb0
    obtain ⟨e1, e2⟩ := h.same rfl
    subst e1
    refine ⟨by rw [e], fun j v hj hv => ?_⟩
    by_cases hji : j = i
    · subst hji
      rw [hu] at hv
      injection hv with hv
      rw [← hv]
      exact e
    · exact e2 j v (by omega) hv
theorem pass_still {S : List UInt8 → Bool} {all heard M M' : List (List UInt8)} (h : PassI S all heard M all.length M' false) : M' = M ∧ Still all M := by
  obtain ⟨e1, e2⟩ := h.same rfl
  refine ⟨e1, fun u hu => ?_⟩
  obtain ⟨j, hj⟩ := List.getElem?_of_mem hu
  have hl := (List.getElem?_eq_some_iff.1 hj).1
  exact e2 j u hl hj
end Go.Proofs.YtdipkblmcloifaaGreatDoor
