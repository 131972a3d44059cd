/- What somebody can make, plain: what can be taken apart, in order. -/
import Derived.Test.YtdipkblmcloifaaGreatDoorDedT
set_option linter.unusedSimpArgs false
set_option linter.unusedVariables false
namespace Go.Proofs.YtdipkblmcloifaaGreatDoor
open Go.RowKit

theorem less_is : ∀ (x y : List UInt8), Op.bytesLess x y = decide (x < y)
  | [], [] => by simp [Op.bytesLess]
  | _ :: _, [] => by simp [Op.bytesLess]
  | [], _ :: _ => by simp [Op.bytesLess]
  | a :: x, b :: y => by
    rw [Op.bytesLess, less_is x y]
    simp only [List.cons_lt_cons_iff]
    by_cases h1 : a < b <;> by_cases h2 : a = b <;> by_cases h3 : x < y <;> simp [h1, h2, h3]
/-- A term is laid into its place. -/
def insR (out : List (List UInt8)) (x : List UInt8) : List (List UInt8) := out.takeWhile (fun y => Op.bytesLess y x) ++ x :: out.dropWhile (fun y => Op.bytesLess y x)
abbrev leS : List UInt8 → List UInt8 → Bool := fun x y => decide (x ≤ y)
theorem insR_perm (out : List (List UInt8)) (x : List UInt8) : (insR out x).Perm (x :: out) := by
  unfold insR
  refine List.perm_middle.trans ?_
  rw [List.takeWhile_append_dropWhile]
theorem insR_sorted {out : List (List UInt8)} {x : List UInt8} (h : out.Pairwise (fun a b => leS a b = true)) : (insR out x).Pairwise (fun a b => leS a b = true) := by
  induction out with
  | nil => simp [insR]
  | cons a r ih =>
    obtain ⟨h1, h2⟩ := List.pairwise_cons.1 h
    unfold insR
    by_cases ha : Op.bytesLess a x = true
    · rw [List.takeWhile_cons, if_pos ha, List.dropWhile_cons, if_pos ha, List.cons_append]
      refine List.pairwise_cons.2 ⟨fun b hb => ?_, ih h2⟩
      have hb2 := (insR_perm r x).mem_iff.1 hb
      rcases List.mem_cons.1 hb2 with rfl | hb2
      · rw [less_is, decide_eq_true_eq] at ha
        simp only [leS, decide_eq_true_eq]
        exact List.le_of_lt ha
      · exact h1 b hb2
    · rw [List.takeWhile_cons, if_neg ha, List.dropWhile_cons, if_neg ha, List.nil_append]
      have hxa : leS x a = true := by
        rw [less_is, decide_eq_true_eq] at ha
        simp only [leS, decide_eq_true_eq]
        exact List.not_lt.1 ha
      refine List.pairwise_cons.2 ⟨fun b hb => ?_, h⟩
      rcases List.mem_cons.1 hb with rfl | hb
      · exact hxa
      · have := h1 b hb
        simp only [leS, decide_eq_true_eq] at hxa this ⊢
        exact List.le_trans hxa this
theorem sort_perm {out ss : List (List UInt8)} (h : out.Pairwise (fun a b => leS a b = true)) (hp : out.Perm ss) : ss.mergeSort leS = out := by
  have tr : ∀ a b c : List UInt8, leS a b = true → leS b c = true → leS a c = true := fun a b c h1 h2 => by simp only [leS, decide_eq_true_eq] at *; exact List.le_trans h1 h2
  have ttl : ∀ a b : List UInt8, (leS a b || leS b a) = true := fun a b => by simp only [leS, Bool.or_eq_true, decide_eq_true_eq]; exact List.le_total a b
  refine List.Perm.eq_of_pairwise (le := fun a b => leS a b = true) (fun a b _ _ h1 h2 => ?_) (List.pairwise_mergeSort tr ttl ss) h ((List.mergeSort_perm ss leS).trans hp.symm)
  simp only [leS, decide_eq_true_eq] at h1 h2
  exact List.le_antisymm h1 h2
theorem fold_ins_perm : ∀ (l out : List (List UInt8)), (l.foldl insR out).Perm (l ++ out)
  | [], out => .refl _
  | x :: r, out => by
    rw [List.foldl_cons, List.cons_append]
    exact (fold_ins_perm r (insR out x)).trans ((List.Perm.append_left r (insR_perm out x)).trans List.perm_middle)
theorem fold_ins_sorted : ∀ (l out : List (List UInt8)), out.Pairwise (fun a b => leS a b = true) → (l.foldl insR out).Pairwise (fun a b => leS a b = true)
  | [], out, h => h
  | x :: r, out, h => fold_ins_sorted r (insR out x) (insR_sorted h)
/-- What has been taken apart so far. -/
structure HeldL (S : List UInt8 → Bool) (l : List (List UInt8)) : Prop where
  apart : l.Pairwise (fun a b => a ≠ b)
  sound : ∀ u ∈ l, S u = true
theorem heldL_nil (S : List UInt8 → Bool) : HeldL S [] := ⟨List.Pairwise.nil, by simp⟩
theorem heldL_add {S : List UInt8 → Bool} {l : List (List UInt8)} {k : List UInt8} (h : HeldL S l) (hk : S k = true) : HeldL S (addR l k) := by
  unfold addR
  split
  · exact h
  · rename_i hc
    have hn : k ∉ l := by simpa using hc
    refine ⟨?_, fun u hu => ?_⟩
    · rw [List.pairwise_append]
      refine ⟨h.apart, by simp, fun a ha b hb => ?_⟩
      rw [List.mem_singleton.1 hb]
      rintro rfl
      exact hn ha
    · rcases List.mem_append.1 hu with hu | hu
      · exact h.sound u hu
      · rw [List.mem_singleton.1 hu]; exact hk
theorem heldL_parts {H S : List UInt8 → Bool} {all M l : List (List UInt8)} (hL : Least H S) (hM : ∀ u ∈ all, M.contains u = kn S u) (hin : ∀ u, S u = true → u ∈ all) (hU : Shut all) (h : HeldL S l) {u : List UInt8} (hu : u ∈ l) : ∀ k ∈ partsR M u, S k = true := by
  intro k hk
  have hs := h.sound u hu
  unfold partsR at hk
  cases hx : rt u with
  | none => rw [hx] at hk; simp at hk
  | some x =>
    rw [hx] at hk
    simp only at hk
    split at hk
    · rename_i ho; exact (hL.2.1 u x hs hx).1 ho k hk
    · split at hk
      · rename_i ho
        obtain ⟨a, b, e, _⟩ := rt_two_kids hx (by rw [show x.op = 66 from UInt8.toNat_inj.1 ho.1]; rfl)
        have ha : a ∈ all := hU.kid u x (hin u hs) hx a (by rw [e]; simp)
        have hkn := ho.2
        rw [e] at hk hkn
        simp only [List.getD_cons_zero] at hkn
        rw [hM a ha] at hkn
        have := (hL.2.1 u x hs hx).2 ho.1 (by rw [e]; exact hkn)
        rw [e] at this
        simp only [List.drop_succ_cons, List.drop_zero, List.mem_singleton] at hk
        rw [hk]
        exact this
      · simp at hk
theorem heldL_fold {S : List UInt8 → Bool} : ∀ (ks l : List (List UInt8)), HeldL S l → (∀ k ∈ ks, S k = true) → HeldL S (ks.foldl addR l)
  | [], _, h, _ => h
  | k :: r, l, h, hk => heldL_fold r (addR l k) (heldL_add h (hk k (by simp))) (fun x hx => hk x (by simp [hx]))
/-- What is taken apart whole is what is held. -/
theorem heldL_all {H S : List UInt8 → Bool} {all heard M l : List (List UInt8)} (hL : Least H S) (hM : ∀ u ∈ all, M.contains u = kn S u) (hin : ∀ u, S u = true → u ∈ all) (hU : Shut all) (hH : ∀ t, H t = true ↔ t ∈ heard) (h : HeldL S l) (hh : ∀ u ∈ heard, u ∈ l)
    (hp : ∀ u ∈ l, ∀ k ∈ partsR M u, k ∈ l) : ∀ t, t ∈ l ↔ S t = true := by
  intro t
  refine ⟨h.sound t, fun ht => ?_⟩
  have := hL.2.2 (fun u => decide (u ∈ l)) (fun u hu => by rw [decide_eq_true_eq]; exact hh u ((hH u).1 hu)) (fun u x hu hx => ?_) t ht
  · simpa using this
  · rw [decide_eq_true_eq] at hu
    have hp1 := hp u hu
    unfold partsR at hp1
    rw [hx] at hp1
    simp only at hp1
    refine ⟨fun ho k hk => by rw [decide_eq_true_eq]; exact hp1 k (by rw [if_pos ho]; exact hk), fun ho hk => ?_⟩
    obtain ⟨a, b, e, ra, rb, _⟩ := rt_two_kids hx (by rw [show x.op = 66 from UInt8.toNat_inj.1 ho]; rfl)
    have ha : a ∈ all := hU.kid u x (hin u (h.sound u hu)) hx a (by rw [e]; simp)
    rw [e] at hk hp1 ⊢
    simp only [List.getD_cons_zero, List.getD_cons_succ] at hk hp1 ⊢
    have hk2 : kn S a = true := kn_mono (fun s hs => h.sound s (by simpa using hs)) hk
    rw [decide_eq_true_eq]
    exact hp1 b (by rw [if_neg (by omega), if_pos ⟨ho, by rw [hM a ha]; exact hk2⟩]; simp)
/-- Two lists without repeats that hold the same are one another's order. -/
theorem perm_of_mem {l l' : List (List UInt8)} (h : l.Pairwise (fun a b => a ≠ b)) (h' : l'.Pairwise (fun a b => a ≠ b)) (hm : ∀ x, x ∈ l ↔ x ∈ l') : l.Perm l' :=
  (List.perm_ext_iff_of_nodup h h').2 hm
end Go.Proofs.YtdipkblmcloifaaGreatDoor
