/- What somebody can make, plain: what is made of what is known is known. -/
import Derived.Test.YtdmfoablpdhnbaaGreatDoorDedV
set_option linter.unusedSimpArgs false
set_option linter.unusedVariables false
namespace Go.Proofs.YtdmfoablpdhnbaaGreatDoor
open Go.RowKit

theorem rtD_same {d d' : Nat} {a u b v : List UInt8} (ha : RtD d a) (hu : RtD d' u) (h : a ++ b = u ++ v) : a = u ∧ b = v := by
  obtain ⟨x, hx, hl⟩ := rtD_mono (Nat.le_max_left d d') ha
  obtain ⟨y, hy, hm⟩ := rtD_mono (Nat.le_max_right d d') hu
  have h1 := rd_ext _ a x b hx
  have h2 := rd_ext _ u y v hy
  rw [h, h2] at h1
  obtain rfl := Option.some.inj h1
  exact List.append_inj h (by omega)
theorem head_cons (c : UInt8) (l : List UInt8) : head (c :: l) = c := rfl
/-- A public key can be read, however long. -/
theorem key_rtD : ∀ (n : Nat) (x : List UInt8), x.length ≤ n → right x = true → (∃ d, RtD d (keyT x)) ∧ pubC (head (keyT x)) = true := by
  intro n
  induction n with
  | zero => intro x hl hr; have := (right_len hr).1; omega
  | succ n ih =>
    intro x hl hr
    obtain ⟨s, hs⟩ := right_some hr
    have hop := head_op hs
    rw [keyT_eq, hs]
    simp only
    by_cases h1 : s.op.toNat = 86
    · rw [if_pos h1]
      obtain ⟨a, b, e, ra, rb, la, lb⟩ := rt_two_kids hs (by rw [show s.op = 86 from UInt8.toNat_inj.1 h1]; rfl)
      rw [e]
      obtain ⟨⟨d1, k1⟩, p1⟩ := ih a (by omega) ra
      obtain ⟨⟨d2, k2⟩, p2⟩ := ih b (by omega) rb
      refine ⟨⟨max d1 d2 + 1, rtD_two _ 87 _ _ rfl ?_ (rtD_mono (Nat.le_max_left _ _) k1) (rtD_mono (Nat.le_max_right _ _) k2)⟩, rfl⟩
      simp [fitsB, p1, p2]
    rw [if_neg h1]
    by_cases h2 : s.op.toNat = 75
    · rw [if_pos h2]
      obtain ⟨a, b, e, ra, rb, la, lb⟩ := rt_two_kids hs (by rw [show s.op = 75 from UInt8.toNat_inj.1 h2]; rfl)
      rw [e]
      obtain ⟨⟨d1, k1⟩, p1⟩ := ih a (by omega) ra
      have k2 := (right_rtD rb).1
      refine ⟨⟨max d1 64 + 1, rtD_two _ 76 _ _ rfl ?_ (rtD_mono (Nat.le_max_left _ _) k1) (rtD_mono (Nat.le_max_right _ _) k2)⟩, rfl⟩
      simp [fitsB, p1]
    rw [if_neg h2]
    refine ⟨⟨65, rtD_one 64 80 x rfl ?_ (right_rtD hr).1⟩, rfl⟩
    have e1 : head x ≠ 86 := by rw [← hop]; exact fun e => h1 (by rw [e]; rfl)
    have e2 : head x ≠ 75 := by rw [← hop]; exact fun e => h2 (by rw [e]; rfl)
    simp [fitsB, e1, e2]
/-- A right public key's secret is what it was made of. -/
theorem secT_key : ∀ (n : Nat) (x : List UInt8), x.length ≤ n → right x = true → right (keyT x) = true → secT (keyT x) = some x := by
  intro n
  induction n with
  | zero => intro x hl hr; have := (right_len hr).1; omega
  | succ n ih =>
    intro x hl hr hk
    obtain ⟨s, hs⟩ := right_some hr
    obtain ⟨y, hy⟩ := right_some hk
    have hyo := head_op hy
    have hke := keyT_eq x
    rw [hs] at hke
    simp only at hke
    rw [secT_eq hy]
    by_cases h1 : s.op.toNat = 86
    · rw [if_pos h1] at hke
      have hso : s.op = 86 := UInt8.toNat_inj.1 h1
      obtain ⟨a, b, e, ra, rb, la, lb⟩ := rt_two_kids hs (by rw [hso]; rfl)
      rw [e] at hke
      simp only [List.getD_cons_zero, List.getD_cons_succ] at hke
      have hyo2 : y.op = 87 := by rw [hyo, hke]; rfl
      obtain ⟨u, v, e2, ru, rv, _⟩ := rt_two_kids hy (by rw [hyo2]; rfl)
      have ht := rt_text hy (n := 2) (by rw [hyo2]; rfl)
      rw [e2, hke] at ht
      simp only [cat, List.flatten_cons, List.flatten_nil, List.append_nil, List.cons.injEq] at ht
      obtain ⟨⟨d1, k1⟩, _⟩ := key_rtD a.length a (Nat.le_refl _) ra
      obtain ⟨rfl, rfl⟩ := rtD_same k1 (right_rtD ru).1 ht.2
      have i1 := ih a (by omega) ra ru
      have i2 := ih b (by omega) rb rv
      rw [hyo2, e2]
      simp only [List.getD_cons_zero, List.getD_cons_succ]
      rw [i1, i2]
      have hx := rt_text hs (n := 2) (by rw [hso]; rfl)
      rw [e, hso] at hx
      simp only [cat, List.flatten_cons, List.flatten_nil, List.append_nil] at hx
      have h2 : twoT 86 a b = (x, 0) := by
        unfold twoT made
        rw [if_pos ⟨ra, rb⟩, ← hx, if_pos hr]
      simp [h2]
    rw [if_neg h1] at hke
    by_cases h2 : s.op.toNat = 75
    · rw [if_pos h2] at hke
      have hso : s.op = 75 := UInt8.toNat_inj.1 h2
      obtain ⟨a, b, e, ra, rb, la, lb⟩ := rt_two_kids hs (by rw [hso]; rfl)
      rw [e] at hke
      simp only [List.getD_cons_zero, List.getD_cons_succ] at hke
      have hyo2 : y.op = 76 := by rw [hyo, hke]; rfl
      obtain ⟨u, v, e2, ru, rv, _⟩ := rt_two_kids hy (by rw [hyo2]; rfl)
      have ht := rt_text hy (n := 2) (by rw [hyo2]; rfl)
      rw [e2, hke] at ht
      simp only [cat, List.flatten_cons, List.flatten_nil, List.append_nil, List.cons.injEq] at ht
      obtain ⟨⟨d1, k1⟩, _⟩ := key_rtD a.length a (Nat.le_refl _) ra
      obtain ⟨rfl, rfl⟩ := rtD_same k1 (right_rtD ru).1 ht.2
      have i1 := ih a (by omega) ra ru
      rw [hyo2, e2]
      simp only [List.getD_cons_zero, List.getD_cons_succ]
      rw [i1]
      have hx := rt_text hs (n := 2) (by rw [hso]; rfl)
      rw [e, hso] at hx
      simp only [cat, List.flatten_cons, List.flatten_nil, List.append_nil] at hx
      have h2 : twoT 75 a b = (x, 0) := by
        unfold twoT made
        rw [if_pos ⟨ra, rb⟩, ← hx, if_pos hr]
      simp [h2]
    rw [if_neg h2] at hke
    have hyo2 : y.op = 80 := by rw [hyo, hke]; rfl
    obtain ⟨u, e2, ru, _⟩ := rt_one_kid hy (by rw [hyo2]; rfl)
    have ht := rt_text hy (n := 1) (by rw [hyo2]; rfl)
    rw [e2, hke] at ht
    simp only [cat, List.flatten_cons, List.flatten_nil, List.append_nil, List.cons.injEq] at ht
    rw [hyo2, if_pos (show (80 : UInt8).toNat = 80 from rfl), e2, ← ht.2]
    rfl
theorem kn_two {S : List UInt8 → Bool} {c : UInt8} {a b : List UInt8} (hc : arity c = some 2) (h88 : c ≠ 88) (h0 : (twoT c a b).2 = 0) (ha : kn S a = true) (hb : kn S b = true) : right (twoT c a b).1 = true ∧ kn S (twoT c a b).1 = true := by
  obtain ⟨g1, g2, g3, g4⟩ := two_right h0
  refine ⟨g1, kn_makes g1 ?_⟩
  obtain ⟨y, hy⟩ := right_some g1
  have hy2 := hy
  rw [g2] at hy2
  obtain ⟨e1, e2⟩ := rt_two_is hy2 hc g3
  have hall : y.kids.all (kn S) = true := by rw [e2]; simp [ha, hb]
  have n1 : y.op.toNat ≠ 110 := by rw [e1]; intro h; rw [show c = 110 from UInt8.toNat_inj.1 h] at hc; cases hc
  have n2 : y.op.toNat ≠ 88 := by rw [e1]; exact fun h => h88 (UInt8.toNat_inj.1 h)
  have n3 : y.op.toNat ≠ 80 := by rw [e1]; intro h; rw [show c = 80 from UInt8.toNat_inj.1 h] at hc; cases hc
  unfold makesB
  rw [hy]
  simp only
  rw [if_neg n1, if_neg n2]
  split
  · rw [Bool.or_eq_true]
    right
    rw [hall]
    simp [n3]
  · exact hall
theorem kn_hash {S : List UInt8 → Bool} {a : List UInt8} (h0 : (oneT 72 a).2 = 0) (ha : kn S a = true) : right (oneT 72 a).1 = true ∧ kn S (oneT 72 a).1 = true := by
  have hr : right (72 :: a) = true ∧ (oneT 72 a).1 = 72 :: a := by
    unfold oneT made at h0 ⊢
    split at h0
    · rename_i h1
      split at h0
      · rename_i h2; rw [if_pos h1, if_pos h2]; exact ⟨h2, rfl⟩
      · simp at h0
    · simp at h0
  rw [hr.2]
  refine ⟨hr.1, kn_makes hr.1 ?_⟩
  obtain ⟨y, hy⟩ := right_some hr.1
  have ho : y.op = 72 := head_op hy
  obtain ⟨u, e2, ru, _⟩ := rt_one_kid hy (by rw [ho]; rfl)
  have ht := rt_text hy (n := 1) (by rw [ho]; rfl)
  rw [e2] at ht
  simp only [cat, List.flatten_cons, List.flatten_nil, List.append_nil, List.cons.injEq] at ht
  rw [makes_kids hy (by rw [ho]; decide) (by rw [ho]; decide) (by rw [ho]; decide), e2, ← ht.2]
  simp [ha]
theorem kn_pub {S : List UInt8 → Bool} {a : List UInt8} (h0 : (pubT a).2 = 0) (ha : kn S a = true) : right (pubT a).1 = true ∧ kn S (pubT a).1 = true := by
  have hr : right a = true ∧ right (keyT a) = true ∧ (pubT a).1 = keyT a := by
    unfold pubT made at h0 ⊢
    split at h0
    · rename_i h1
      split at h0
      · rename_i h2; rw [if_pos h1, if_pos h2]; exact ⟨h1, h2, rfl⟩
      · simp at h0
    · simp at h0
  obtain ⟨r1, r2, r3⟩ := hr
  rw [r3]
  refine ⟨r2, kn_makes r2 ?_⟩
  obtain ⟨y, hy⟩ := right_some r2
  have ho := head_op hy
  have hp := (key_rtD a.length a (Nat.le_refl _) r1).2
  rw [← ho] at hp
  have hs := secT_key a.length a (Nat.le_refl _) r1 r2
  unfold pubC at hp
  simp only [Bool.or_eq_true, beq_iff_eq] at hp
  unfold makesB
  rw [hy]
  simp only
  have n1 : y.op.toNat ≠ 110 := by rcases hp with (h | h) | h <;> rw [h] <;> decide
  have n2 : y.op.toNat ≠ 88 := by rcases hp with (h | h) | h <;> rw [h] <;> decide
  rw [if_neg n1, if_neg n2, if_pos (by rcases hp with (h | h) | h <;> rw [h] <;> decide), hs]
  simp [ha]
/-- The key of what stands in a right public key is that key. -/
theorem key_self {j : List UInt8} (h : right (80 :: j) = true) : keyT j = 80 :: j := by
  obtain ⟨s, hx⟩ := right_some h
  have hso : s.op = 80 := head_op hx
  obtain ⟨j', e, rj, _⟩ := rt_one_kid hx (by rw [hso]; rfl)
  have ht := rt_text hx (n := 1) (by rw [hso]; rfl)
  rw [e, hso] at ht
  simp only [cat, List.flatten_cons, List.flatten_nil, List.append_nil, List.cons.injEq, true_and] at ht
  subst ht
  have hf : fitsB 80 [j] = true := by
    have h1 := (rt_rd hx).1
    rw [rd] at h1
    simp only [show (80 : UInt8) ≠ 110 by decide, show (80 : UInt8) ≠ 116 by decide, if_false] at h1
    have hc : cnt 80 j = some (1, 0) := rfl
    rw [hc] at h1
    simp only at h1
    cases hkb : kidsBy (rd 63) 1 (j.drop 0) with
    | none => rw [hkb] at h1; cases h1
    | some y =>
      obtain ⟨ks, dp, len⟩ := y
      rw [hkb] at h1
      simp only at h1
      split at h1
      · rename_i hf
        simp only [Option.some.injEq] at h1
        rw [← h1] at e
        simp only at e
        rwa [e] at hf
      · cases h1
  unfold fitsB at hf
  simp only [if_true, List.getD_cons_zero, Bool.and_eq_true, bne_iff_ne, ne_eq] at hf
  exact keyT_plain (fun h => hf.1 (UInt8.toNat_inj.1 h)) (fun h => hf.2 (UInt8.toNat_inj.1 h))
theorem kn_agree {S : List UInt8 → Bool} {k l : List UInt8} (h0 : (agreeT k l).2 = 0) (hk : kn S k = true) (hl : kn S l = true) : right (agreeT k l).1 = true ∧ kn S (agreeT k l).1 = true := by
  unfold agreeT at h0 ⊢
  cases hx : rt l with
  | none => rw [hx] at h0; simp at h0
  | some s =>
    rw [hx] at h0
    simp only at h0 ⊢
    by_cases ho : s.op.toNat = 80
    · rw [if_pos ho] at h0 ⊢
      have hso : s.op = 80 := UInt8.toNat_inj.1 ho
      obtain ⟨j, e, rj, _⟩ := rt_one_kid hx (by rw [hso]; rfl)
      have ht := rt_text hx (n := 1) (by rw [hso]; rfl)
      rw [e, hso] at ht
      simp only [cat, List.flatten_cons, List.flatten_nil, List.append_nil] at ht
      have hrl := rt_right hx
      rw [e] at h0 ⊢
      simp only [List.getD_cons_zero] at h0 ⊢
      have hkj : keyT j = 80 :: j := key_self (by rw [← ht]; exact hrl)
      have hpj : pubT j = (l, 0) := by unfold pubT made; rw [if_pos rj, hkj, ← ht, if_pos hrl]
      have hag : agrB (kn S) k j = true := by
        unfold agrB
        rw [hpj, ht]
        rw [ht] at hl
        simp [head, hk, hl]
      have main : ∀ a b, (twoT 88 a b).2 = 0 → (agrB (kn S) a b || agrB (kn S) b a) = true → right (twoT 88 a b).1 = true ∧ kn S (twoT 88 a b).1 = true := by
        intro a b h0 h
        obtain ⟨g1, g2, g3, g4⟩ := two_right h0
        refine ⟨g1, kn_makes g1 ?_⟩
        obtain ⟨y, hy⟩ := right_some g1
        have hy2 := hy
        rw [g2] at hy2
        obtain ⟨e1, e2⟩ := rt_two_is hy2 rfl g3
        unfold makesB
        rw [hy]
        simp only
        rw [if_neg (by rw [e1]; decide), if_pos (by rw [e1]; rfl), e2]
        exact h
      split at h0
      · rename_i hc
        rw [if_pos hc]
        exact main j k h0 (by rw [hag, Bool.or_true])
      · rename_i hc
        rw [if_neg hc]
        exact main k j h0 (by rw [hag, Bool.true_or])
    · rw [if_neg ho] at h0; simp at h0
theorem rt_tuple_is {ls : List (List UInt8)} (hn : ls.length ≤ 32) (h : ∀ a ∈ ls, right a = true) {y : Sh} (hy : rt (tupL ls) = some y) : y.op = 84 ∧ y.kids = ls := by
  obtain ⟨dp, h1⟩ := rdx_tuple 64 ls hn (fun a ha => (right_rtD (h a ha)).1)
  have h2 := rd_mono 64 65 _ _ (by omega) (rt_rd hy).1
  rw [show tupL ls = 84 :: (Lib.decDigits ls.length ++ 58 :: cat ls) from rfl, h1] at h2
  injection h2 with h2
  subst h2
  exact ⟨rfl, rfl⟩
theorem kn_pair {S : List UInt8 → Bool} {ls : List (List UInt8)} (h0 : (tupleT ls).2 = 0) (ha : ls.all (kn S) = true) : right (tupleT ls).1 = true ∧ kn S (tupleT ls).1 = true := by
  have hr : ls.length ≤ 32 ∧ ls.all right = true ∧ right (tupL ls) = true ∧ (tupleT ls).1 = tupL ls := by
    unfold tupleT made at h0 ⊢
    split at h0
    · simp at h0
    · rename_i h1
      split at h0
      · rename_i h2
        split at h0
        · rename_i h3
          rw [if_neg h1, if_pos h2, if_pos h3]
          exact ⟨by omega, h2, h3, rfl⟩
        · simp at h0
      · simp at h0
  obtain ⟨r1, r2, r3, r4⟩ := hr
  rw [r4]
  refine ⟨r3, kn_makes r3 ?_⟩
  obtain ⟨y, hy⟩ := right_some r3
  obtain ⟨e1, e2⟩ := rt_tuple_is r1 (fun a ha => List.all_eq_true.1 r2 a ha) hy
  rw [makes_kids hy (by rw [e1]; decide) (by rw [e1]; decide) (by rw [e1]; decide), e2]
  exact ha
theorem kn_joint {S : List UInt8 → Bool} {a b : List UInt8} (h0 : (jointT a b).2 = 0) (ha : kn S a = true) (hb : kn S b = true) : right (jointT a b).1 = true ∧ kn S (jointT a b).1 = true := by
  unfold jointT at h0 ⊢
  split at h0
  · rename_i h; rw [if_pos h]; exact kn_two rfl (by decide) h0 ha hb
  · simp at h0
theorem kn_bound {S : List UInt8 → Bool} {a b : List UInt8} (h0 : (boundT a b).2 = 0) (ha : kn S a = true) (hb : kn S b = true) : right (boundT a b).1 = true ∧ kn S (boundT a b).1 = true := by
  unfold boundT at h0 ⊢
  split at h0
  · rename_i h; rw [if_pos h]; exact kn_two rfl (by decide) h0 ha hb
  · simp at h0
theorem kn_unbox {S : List UInt8 → Bool} (hA : Apart S) {k c : List UInt8} (h0 : (unboxT k c).2 = true) (hk : kn S k = true) (hc : kn S c = true) : right (unboxT k c).1 = true ∧ kn S (unboxT k c).1 = true := by
  unfold unboxT at h0 ⊢
  cases hx : rt c with
  | none => rw [hx] at h0; simp at h0
  | some s =>
    rw [hx] at h0
    simp only at h0 ⊢
    split at h0
    · rename_i h
      rw [if_pos h]
      obtain ⟨a, b, e, ra, rb, _⟩ := rt_two_kids hx (by rw [show s.op = 66 from UInt8.toNat_inj.1 h.1]; rfl)
      have h3 := kn_box hA hx h.1 hc (by rw [h.2]; exact hk)
      refine ⟨?_, h3⟩
      rw [e]
      exact rb
    · simp at h0
end Go.Proofs.YtdmfoablpdhnbaaGreatDoor
