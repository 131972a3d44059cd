/- One in the middle: with a secret of its own it opens no box of the others. -/
import Derived.Test.YtaaiaahkakkleaaGreatDoorMSes
set_option linter.unusedSimpArgs false
set_option linter.unusedVariables false
namespace Go.Proofs.YtaaiaahkakkleaaGreatDoor
def k1E (e s : Nat) : List UInt8 := hashL (agreeL (nameL e) (nameL s)) (80 :: nameL s)
def k2E (e s f : Nat) : List UInt8 := hashL (k1E e s) (agreeL (nameL e) (nameL f))
def k3E (i e s f : Nat) : List UInt8 := hashL (k2E e s f) (agreeL (nameL i) (nameL f))
def a3E (i e s f : Nat) : List UInt8 := actL (80 :: nameL i) (k3E i e s f)
theorem hskC (i e s f : Nat) (hi : i ≤ 9223372036854775807) (he : e ≤ 9223372036854775807) (hs : s ≤ 9223372036854775807) (hf : f ≤ 9223372036854775807) :
  Hsk i e s f (k1E e s) (k2E e s f) (actL (80 :: nameL e) (k1E e s)) (actL (80 :: nameL f) (k2E e s f)) (66 :: (k2E e s f ++ a3E i e s f)) (68 :: (k3E i e s f ++ textL lDial)) (68 :: (k3E i e s f ++ textL lListen)) ∧
  Q 10 300 (k2E e s f) ∧ Q 10 300 (a3E i e s f) := by
 have si := secret_name i hi
 have se := secret_name e he
 have ss := secret_name s hs
 have sf := secret_name f hf
 have qi := q_pname i hi
 have qe := q_pname e he
 have qs := q_pname s hs
 have qf := q_pname f hf
 have plp : ∀ n, n ≤ 9223372036854775807 → plainB (80 :: nameL n) = true := fun n hn => plain_at (q_name n hn) (by rw [head_name]; decide) (by rw [head_name]; decide) om_ om_
 obtain ⟨x1e, x1q⟩ := agree_name e s he hs
 obtain ⟨x1e', _⟩ := agree_name s e hs he
 rw [agreeL_comm (nameL s) (nameL e)] at x1e'
 obtain ⟨x2e, x2q⟩ := agree_name e f he hf
 obtain ⟨x2e', _⟩ := agree_name f e hf he
 rw [agreeL_comm (nameL f) (nameL e)] at x2e'
 obtain ⟨x3e, x3q⟩ := agree_name i f hi hf
 obtain ⟨x3e', _⟩ := agree_name f i hf hi
 rw [agreeL_comm (nameL f) (nameL i)] at x3e'
 obtain ⟨h1, q1⟩ := hashM_at x1q qs om_ om_
 change hashM 0 _ _ = (k1E e s, 0) at h1
 change Q _ _ (k1E e s) at q1
 obtain ⟨h2, q2⟩ := hashM_at q1 (q_mono x2q (show 2 ≤ 4 by omega) (Nat.le_refl _)) om_ om_
 change hashM 0 _ _ = (k2E e s f, 0) at h2
 change Q _ _ (k2E e s f) at q2
 obtain ⟨h3, q3⟩ := hashM_at q2 (q_mono x3q (show 2 ≤ 6 by omega) (Nat.le_refl _)) om_ om_
 change hashM 0 _ _ = (k3E i e s f, 0) at h3
 change Q _ _ (k3E i e s f) at q3
 obtain ⟨c1, w1⟩ := actM_at (q_mono qe (show 2 ≤ 4 + 1 by omega) (Nat.le_refl _)) q1 om_ om_ om_
 obtain ⟨c2, w2⟩ := actM_at (q_mono qf (show 2 ≤ 6 + 1 by omega) (Nat.le_refl _)) q2 om_ om_ om_
 obtain ⟨c3, w3⟩ := actM_at (q_mono qi (show 2 ≤ 8 + 1 by omega) (Nat.le_refl _)) q3 om_ om_ om_
 change actM 0 _ _ = (a3E i e s f, 0) at c3
 change Q _ _ (a3E i e s f) at w3
 have f1 := first_act (q_mono qe (show 2 ≤ 4 + 1 by omega) (Nat.le_refl _)) q1 om_ om_ om_ (plp e he)
 have f2 := first_act (q_mono qf (show 2 ≤ 6 + 1 by omega) (Nat.le_refl _)) q2 om_ om_ om_ (plp f hf)
 have f3 := first_act (q_mono qi (show 2 ≤ 8 + 1 by omega) (Nat.le_refl _)) q3 om_ om_ om_ (plp i hi)
 change firstB (a3E i e s f) = _ at f3
 obtain ⟨m1, u1⟩ := childM_at (lb := lDial) q3 de_ om_ om_ om_
 obtain ⟨m2, u2⟩ := childM_at (lb := lListen) q3 de_ om_ om_ om_
 have e1 : actL (80 :: nameL e) (k1E e s) = actL (80 :: nameL e) (hashL (agreeL (nameL e) (nameL s)) (80 :: nameL s)) := rfl
 generalize k3E i e s f = k3 at *
 generalize a3E i e s f = a3 at *
 generalize k2E e s f = k2 at *
 have hbox := twoT_at (c := 66) de_ (by rfl) (q_mono q2 (show 6 ≤ 10 by omega) (Nat.le_refl _)) w3 om_ om_
 have qbox := q_two (c := 66) de_ (by rfl) (q_mono q2 (show 6 ≤ 10 by omega) (Nat.le_refl _)) w3
 have hun := unbox_at (q_mono q2 (show 6 ≤ 10 by omega) (Nat.le_refl _)) w3 om_ om_
 have hop : opensM 0 k3 = ((68 :: (k3 ++ textL lDial), 68 :: (k3 ++ textL lListen)), 0) := by
  unfold opensM
  rw [m1]
  simp only [m2]
 refine ⟨⟨?_, ss, sf, ?_, ?_, ?_, q_mono u1 om_ de_, q_mono u2 om_ de_, ?_, ?_, ?_, ?_, ?_, e1⟩, q_mono q2 om_ om_, q_mono w3 om_ om_⟩
 · unfold dialM
   rw [si, se, plp s hs, if_neg si_]
   simp only [x1e, h1, c1]
   rfl
 · unfold oneM
   rw [f1, if_neg si_]
   simp only [ss, sf, x1e', h1, x2e', h2, c1, c2]
   rw [if_neg si_]
 · unfold twoM
   rw [f2, if_neg si_]
   simp only [si, x2e, h2, x3e, h3, c2, c3, hbox, mkE, if_true, hop]
   rw [if_neg si_, if_neg si_]
 · unfold threeM
   rw [hun]
   simp only [f3, x3e', h3, c3, hop]
   rw [if_neg si_, if_neg si_, if_neg si_]
 · have := q1.2; omega
 · have := q2.2; omega
 · have := w1.2; omega
 · have := w2.2; omega
 · have := qbox.2; omega
theorem name_pre {a b : Nat} {r r' : List UInt8} (ha : a ≤ 9223372036854775807) (hb : b ≤ 9223372036854775807) (h : nameL a ++ r = nameL b ++ r') : a = b ∧ r = r' := by
 have h1 := num_dec 59 de_ a r ha
 have h2 := num_dec 59 de_ b r' hb
 have e : Lib.decDigits a ++ 59 :: r = Lib.decDigits b ++ 59 :: r' := by
  have := List.cons.inj (show 110 :: (Lib.decDigits a ++ 59 :: r) = 110 :: (Lib.decDigits b ++ 59 :: r') by simpa [nameL] using h)
  exact this.2
 rw [e, h2] at h1
 obtain rfl : b = a := by
  have := Option.some.inj h1
  exact (Prod.mk.inj this).1
 exact ⟨rfl, by simpa using e⟩
theorem name_inj {a b : Nat} (ha : a ≤ 9223372036854775807) (hb : b ≤ 9223372036854775807) (h : nameL a = nameL b) : a = b := by
 have : nameL a ++ [] = nameL b ++ [] := by rw [h]
 exact (name_pre ha hb this).1
theorem agree_inj {e f x : Nat} (he : e ≤ 9223372036854775807) (hf : f ≤ 9223372036854775807) (hx : x ≤ 9223372036854775807) (hef : e ≠ f) (hex : e ≠ x) (h : agreeL (nameL e) (nameL f) = agreeL (nameL e) (nameL x)) : f = x := by
 unfold agreeL at h
 split at h
 · split at h
   · exact (name_pre hf hx (List.cons.inj h).2).1
   · exact absurd (name_pre hf he (List.cons.inj h).2).1 (Ne.symm hef)
 · split at h
   · exact absurd (name_pre he hx (List.cons.inj h).2).1 hex
   · exact name_inj hf hx (name_pre he he (List.cons.inj h).2).2
theorem hash_inj {k a b : List UInt8} (h : hashL k a = hashL k b) : a = b := by
 simp only [hashL, tupL, cat, List.length_cons, List.length_nil, List.flatten_cons, List.flatten_nil, List.append_nil, List.cons.injEq, true_and] at h
 have h2 := List.append_cancel_left h
 exact List.append_cancel_left (List.cons.inj h2).2
theorem three_not (i e s f x : Nat) (hi : i ≤ 9223372036854775807) (he : e ≤ 9223372036854775807) (hs : s ≤ 9223372036854775807) (hf : f ≤ 9223372036854775807) (hx : x ≤ 9223372036854775807) (hef : e ≠ f) (hex : e ≠ x) (hfx : f ≠ x) (d : List UInt8) :
  threeM d (k2E e s x) (66 :: (k2E e s f ++ a3E i e s f)) = (0, (([], []), [])) := by
 obtain ⟨_, q2, q3⟩ := hskC i e s f hi he hs hf
 have hne : k2E e s f ≠ k2E e s x := fun h => hfx (agree_inj he hf hx hef hex (hash_inj h))
 obtain ⟨sh, hsh, ho, hk⟩ := rt_two_at (c := 66) de_ (by rfl) q2 q3 om_ om_
 have hu : unboxT (k2E e s x) (66 :: (k2E e s f ++ a3E i e s f)) = ([], false) := by
  unfold unboxT
  rw [hsh]
  simp only [ho, hk, List.getD_cons_zero]
  rw [if_neg]
  rintro ⟨_, h⟩
  exact hne h
 unfold threeM
 rw [hu]
 simp [firstB, rt, rd]
end Go.Proofs.YtaaiaahkakkleaaGreatDoor
