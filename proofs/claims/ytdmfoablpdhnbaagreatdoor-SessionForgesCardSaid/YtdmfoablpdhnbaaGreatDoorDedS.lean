/- What somebody can make, plain: a box under a fresh key hides what is in it. -/
import Derived.Test.YtdmfoablpdhnbaaGreatDoorDedR
set_option linter.unusedSimpArgs false
set_option linter.unusedVariables false
namespace Go.Proofs.YtdmfoablpdhnbaaGreatDoor
open Go.RowKit

theorem least_right {H S : List UInt8 → Bool} (hL : Least H S) (hr : ∀ t, H t = true → right t = true) : ∀ t, S t = true → right t = true := by
  intro t ht
  have := hL.2.2 (fun t => right t && S t) (fun t h => by rw [Bool.and_eq_true]; exact ⟨hr t h, hL.1 t h⟩) (fun t x h hx => by
    rw [Bool.and_eq_true] at h
    refine ⟨fun ho k hk => ?_, fun ho hk => ?_⟩
    · rw [Bool.and_eq_true]; exact ⟨(rt_kids hx k hk).1, (hL.2.1 t x h.2 hx).1 ho k hk⟩
    · obtain ⟨a, b, e, ra, rb, _⟩ := rt_two_kids hx (by rw [show x.op = 66 from UInt8.toNat_inj.1 ho]; rfl)
      have h0 := (hL.2.1 t x h.2 hx).2 ho (kn_mono (fun s hs => by rw [Bool.and_eq_true] at hs; exact hs.2) hk)
      rw [e] at h0 ⊢
      rw [Bool.and_eq_true]; exact ⟨rb, h0⟩) t ht
  rw [Bool.and_eq_true] at this
  exact this.1
/-- What is held besides, all with a name in it, makes no term known that lacks the name. -/
theorem kn_apart {S F : List UInt8 → Bool} {nm : List UInt8} (hn : head nm = 110) (hF : ∀ t, F t = true → stands nm t = true) :
    ∀ (n : Nat) (t : List UInt8), t.length ≤ n → right t = true → stands nm t = false → kn (fun t => S t || F t) t = true → kn S t = true := by
  intro n
  induction n with
  | zero => intro t hl hr; have := (right_len hr).1; omega
  | succ n ih =>
    intro t hl hr hs h
    rw [kn_eq _ t hr, Bool.or_eq_true] at h
    rcases h with h | h
    · rw [Bool.or_eq_true] at h
      rcases h with h | h
      · exact kn_held hr h
      · rw [hF t h] at hs; cases hs
    · refine kn_makes hr ?_
      obtain ⟨x, hx⟩ : ∃ x, rt t = some x := by unfold right at hr; exact Option.isSome_iff_exists.1 hr
      unfold makesB at h ⊢
      rw [hx] at h ⊢
      simp only at h ⊢
      by_cases h1 : x.op.toNat = 110
      · rw [if_pos h1] at h; cases h
      rw [if_neg h1] at h ⊢
      rw [stands_kids hn hx h1, List.any_eq_false] at hs
      have hall : x.kids.all (kn (fun t => S t || F t)) = true → x.kids.all (kn S) = true := by
        intro ha
        rw [List.all_eq_true] at ha ⊢
        intro k hk
        have hk2 := rt_kids hx k hk
        exact ih k (by omega) hk2.1 (by simpa using hs k hk) (ha k hk)
      by_cases h2 : x.op.toNat = 88
      · rw [if_pos h2] at h ⊢
        have ha : arity x.op = some 2 := by rw [show x.op = 88 from UInt8.toNat_inj.1 h2]; rfl
        obtain ⟨a, b, e, ra, rb, la, lb⟩ := rt_two_kids hx ha
        have htx := rt_text hx ha
        have hlen : t.length = 1 + a.length + b.length := by rw [htx, e]; simp [cat]; omega
        have sa : stands nm a = false := by simpa using hs a (by rw [e]; simp)
        have sb : stands nm b = false := by simpa using hs b (by rw [e]; simp)
        have pa := (right_len ra).1
        have pb := (right_len rb).1
        rw [e] at h ⊢
        have hag : ∀ k j, right k = true → k.length + j.length < n + 1 → 1 ≤ k.length → stands nm k = false → stands nm j = false → agrB (kn (fun t => S t || F t)) k j = true → agrB (kn S) k j = true := by
          intro k j rk hlk pk sk sj hh
          unfold agrB at hh ⊢
          simp only [Bool.and_eq_true] at hh ⊢
          obtain ⟨⟨⟨p1, p2⟩, p3⟩, p4⟩ := hh
          obtain ⟨q1, q2, q3⟩ := pub_plain (by rw [p1, p2]; rfl)
          refine ⟨⟨⟨p1, p2⟩, ih k (by omega) rk sk p3⟩, ?_⟩
          rw [q1] at p4 ⊢
          refine ih (80 :: j) (by simp; omega) q2 ?_ p4
          obtain ⟨y, hy⟩ : ∃ y, rt (80 :: j) = some y := by unfold right at q2; exact Option.isSome_iff_exists.1 q2
          have ho : y.op = 80 := head_op hy
          obtain ⟨w, ew, _⟩ := rt_one_kid hy (by rw [ho]; rfl)
          have := rt_text hy (n := 1) (by rw [ho]; rfl)
          rw [ew] at this
          simp [cat] at this
          rw [stands_kids hn hy (by rw [ho]; decide), ew, ← this.2]
          simp [sj]
        simp only [List.getD_cons_zero, List.getD_cons_succ, Bool.or_eq_true] at h ⊢
        exact h.imp (hag a b ra (by omega) pa sa sb) (hag b a rb (by omega) pb sb sa)
      rw [if_neg h2] at h ⊢
      by_cases h3 : x.op.toNat = 80 ∨ x.op.toNat = 87 ∨ x.op.toNat = 76
      · rw [if_pos h3, Bool.or_eq_true] at h ⊢
        rcases h with h | h
        · left
          cases hsx : secT t with
          | none => rw [hsx] at h; cases h
          | some u =>
            rw [hsx] at h
            obtain ⟨g1, g2⟩ := secF_ok _ _ _ hsx
            refine ih u (by omega) g1 ?_ h
            rw [stands_sec hn _ _ _ hsx, stands_kids hn hx h1, List.any_eq_false]
            exact hs
        · right
          rw [Bool.and_eq_true] at h ⊢
          exact ⟨h.1, hall h.2⟩
      · rw [if_neg h3] at h ⊢
        exact hall h
/-- A box under a fresh key, its message fresh; both public keys; the message's digest: all that is held stays apart, and neither the key nor the message is known. -/
theorem kn_hides {H S F : List UInt8 → Bool} {k m : List UInt8} (hL : Least H S) (hk : head k = 110) (hm : head m = 110) (hr : ∀ t, H t = true → right t = true)
    (hfk : ∀ t, H t = true → stands k t = false) (hfm : ∀ t, H t = true → stands m t = false) (rk : right k = true) (rm : right m = true)
    (hF : ∀ t, F t = true → stands k t = true ∨ stands m t = true) (hFo : ∀ t x, F t = true → rt t = some x → x.op.toNat ≠ 84 ∧ (x.op.toNat = 66 → x.kids.getD 0 [] = k)) (hFr : ∀ t, F t = true → right t = true ∧ head t ≠ 110) :
    Apart (fun t => S t || F t) ∧ kn (fun t => S t || F t) k = false ∧ kn (fun t => S t || F t) m = false := by
  have hSr := least_right hL hr
  have name_not : ∀ nm : List UInt8, head nm = 110 → right nm = true → (∀ t, H t = true → stands nm t = false) → kn (fun t => S t || F t) nm = false := by
    intro nm hn rn hf
    rw [kn_eq _ nm rn]
    have h1 : S nm = false := by
      cases hq : S nm with
      | false => rfl
      | true =>
        have := kn_fresh hL hn hr hf nm rn (kn_held rn hq)
        obtain ⟨x, hx⟩ : ∃ x, rt nm = some x := by unfold right at rn; exact Option.isSome_iff_exists.1 rn
        rw [stands_eq nm hx] at this
        simp at this
    have h2 : F nm = false := by
      cases hq : F nm with
      | false => rfl
      | true => exact absurd hn (hFr nm hq).2
    have h3 : makesB (kn fun t => S t || F t) nm = false := by
      obtain ⟨x, hx⟩ : ∃ x, rt nm = some x := by unfold right at rn; exact Option.isSome_iff_exists.1 rn
      unfold makesB
      rw [hx]
      simp only
      rw [if_pos (by rw [head_op hx, hn]; decide)]
    rw [h1, h2, h3]; rfl
  have hk0 := name_not k hk rk hfk
  refine ⟨?_, hk0, name_not m hm rm hfm⟩
  intro t x h hx
  simp only [Bool.or_eq_true] at h
  rcases h with h | h
  · refine ⟨fun ho y hy => by show (S y || F y) = true; rw [(hL.2.1 t x h hx).1 ho y hy]; rfl, fun ho hkn => ?_⟩
    obtain ⟨a, b, e, ra, rb, _⟩ := rt_two_kids hx (by rw [show x.op = 66 from UInt8.toNat_inj.1 ho]; rfl)
    have rt' := hSr t h
    have s1 := kn_fresh hL hk hr hfk t rt' (kn_held rt' h)
    have s2 := kn_fresh hL hm hr hfm t rt' (kn_held rt' h)
    rw [stands_kids hk hx (by omega), e] at s1
    rw [stands_kids hm hx (by omega), e] at s2
    simp only [List.any_cons, List.any_nil, Bool.or_false, Bool.or_eq_false_iff] at s1 s2
    have h0 := (hL.2.1 t x h hx).2 ho
    rw [e] at h0 hkn ⊢
    simp only [List.getD_cons_zero, List.getD_cons_succ] at h0 hkn ⊢
    -- what is held besides is parted by the name that stands in it
    have hkn2 : kn (fun t => (S t || (F t && stands k t)) || (F t && stands m t)) a = true := by
      refine kn_mono (fun u hu => ?_) hkn
      simp only [Bool.or_eq_true, Bool.and_eq_true] at hu ⊢
      rcases hu with hu | hu
      · exact .inl (.inl hu)
      · rcases hF u hu with h5 | h5
        · exact .inl (.inr ⟨hu, h5⟩)
        · exact .inr ⟨hu, h5⟩
    have hkn3 := kn_apart (S := fun t => S t || (F t && stands k t)) (F := fun t => F t && stands m t) hm (fun u hu => by rw [Bool.and_eq_true] at hu; exact hu.2) a.length a (Nat.le_refl _) ra s2.1 hkn2
    have hkn4 := kn_apart (S := S) (F := fun t => F t && stands k t) hk (fun u hu => by rw [Bool.and_eq_true] at hu; exact hu.2) a.length a (Nat.le_refl _) ra s1.1 hkn3
    show (S b || F b) = true
    rw [h0 hkn4]; rfl
  · obtain ⟨h1, h2⟩ := hFo t x h hx
    refine ⟨fun ho => absurd ho h1, fun ho hkn => ?_⟩
    rw [h2 ho, hk0] at hkn
    cases hkn
end Go.Proofs.YtdmfoablpdhnbaaGreatDoor
