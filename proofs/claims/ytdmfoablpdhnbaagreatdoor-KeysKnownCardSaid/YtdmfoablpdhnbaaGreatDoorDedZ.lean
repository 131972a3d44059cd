/- What somebody can make, plain: of a channel's secrets. -/
import Derived.Test.YtdmfoablpdhnbaaGreatDoorDedL
set_option linter.unusedSimpArgs false
set_option linter.unusedVariables false
namespace Go.Proofs.YtdmfoablpdhnbaaGreatDoor
open Go.RowKit

/-- So many steps below a name. -/
def Spn (n j : Nat) (t : List UInt8) : Prop := ∃ r, t = List.replicate j 68 ++ (nameL n ++ r)
theorem spn_name (n : Nat) : Spn n 0 (nameL n) := ⟨[], by simp⟩
theorem spn_up {n j : Nat} {t : List UInt8} (h : Spn n j t) (l : List UInt8) : Spn n (j + 1) (68 :: (t ++ l)) := by
  obtain ⟨r, rfl⟩ := h
  exact ⟨r ++ l, by rw [List.replicate_succ]; simp⟩
theorem name_cons (n : Nat) (r : List UInt8) : ∃ q, nameL n ++ r = 110 :: q := ⟨Lib.decDigits n ++ [59] ++ r, by simp [nameL]⟩
theorem spn_pre_one : ∀ (j k : Nat) {n m : Nat} {r q : List UInt8}, n ≤ 9223372036854775807 → m ≤ 9223372036854775807 → List.replicate j (68 : UInt8) ++ (nameL n ++ r) = List.replicate k 68 ++ (nameL m ++ q) → n = m ∧ j = k ∧ r = q
  | 0, 0, n, m, r, q, hn, hm, h => by
    have h1 := num_dec 59 (by decide) n r hn
    have h2 := num_dec 59 (by decide) m q hm
    have e : Lib.decDigits n ++ 59 :: r = Lib.decDigits m ++ 59 :: q := by
      have := List.cons.inj (show 110 :: (Lib.decDigits n ++ 59 :: r) = 110 :: (Lib.decDigits m ++ 59 :: q) by simpa [nameL] using h)
      exact this.2
    rw [e, h2] at h1
    obtain rfl : m = n := by
      have := Option.some.inj h1
      exact (Prod.mk.inj this).1
    exact ⟨rfl, rfl, by simpa using e⟩
  | 0, k + 1, n, m, r, q, _, _, h => by
    obtain ⟨u, hu⟩ := name_cons n r
    rw [hu, List.replicate_succ] at h
    simp at h
  | j + 1, 0, n, m, r, q, _, _, h => by
    obtain ⟨u, hu⟩ := name_cons m q
    rw [hu, List.replicate_succ] at h
    simp at h
  | j + 1, k + 1, n, m, r, q, hn, hm, h => by
    rw [List.replicate_succ, List.replicate_succ] at h
    simp only [List.cons_append, List.cons.injEq, true_and] at h
    obtain ⟨h1, h2, h3⟩ := spn_pre_one j k hn hm h
    exact ⟨h1, by omega, h3⟩
theorem spn_one {n m j k : Nat} {t : List UInt8} (hn : n ≤ 9223372036854775807) (hm : m ≤ 9223372036854775807) (h : Spn n j t) (h' : Spn m k t) : n = m ∧ j = k := by
  obtain ⟨r, rfl⟩ := h
  obtain ⟨q, hq⟩ := h'
  obtain ⟨h1, h2, _⟩ := spn_pre_one j k hn hm hq
  exact ⟨h1, h2⟩
theorem spn_head {n j : Nat} {t : List UInt8} (h : Spn n j t) : head t = if j = 0 then 110 else 68 := by
  obtain ⟨r, rfl⟩ := h
  cases j with
  | zero => obtain ⟨u, hu⟩ := name_cons n r; simp [hu, head]
  | succ j => simp [List.replicate_succ, head]
theorem spn_pre {n : Nat} (hn : n ≤ 9223372036854775807) : ∀ (j : Nat) (a b r : List UInt8), right a = true → a ++ b = List.replicate j 68 ++ (nameL n ++ r) → Spn n j a
  | 0, a, b, r, ha, h => by
    have h2 : a ++ b = nameL n ++ r := by simpa using h
    have := (right_same ha (nameL_right hn).1 h2).1
    exact ⟨[], by rw [this]; simp⟩
  | j + 1, a, b, r, ha, h => by
    obtain ⟨x, hx⟩ := right_some ha
    have hl := (right_len ha).1
    have hh : head a = 68 := by
      cases a with
      | nil => simp at hl
      | cons c q => rw [List.replicate_succ] at h; simp at h; rw [h.1]; rfl
    have ho : x.op = 68 := by rw [head_op hx, hh]
    obtain ⟨u, v, e, ru, rv, _⟩ := rt_two_kids hx (by rw [ho]; rfl)
    have ht := rt_text hx (n := 2) (by rw [ho]; rfl)
    rw [e, ho] at ht
    simp only [cat, List.flatten_cons, List.flatten_nil, List.append_nil] at ht
    rw [ht, List.replicate_succ] at h
    simp only [List.cons_append, List.cons.injEq, true_and, List.append_assoc] at h
    rw [ht]
    exact spn_up (spn_pre hn j u (v ++ b) r ru h) v
theorem two_kids_at {c : UInt8} {a b t : List UInt8} (hc : arity c = some 2) (h0 : twoT c a b = (t, 0)) : ∃ y, rt t = some y ∧ y.op = c ∧ y.kids = [a, b] := secT_join hc (by rw [h0]) (by rw [h0])
theorem kn_two_not {S : List UInt8 → Bool} {c : UInt8} {a b t : List UInt8} (hc : c = 68 ∨ c = 86 ∨ c = 75) (h0 : twoT c a b = (t, 0)) (hS : S t = false) (h : kn S a = false ∨ kn S b = false) : kn S t = false := by
  obtain ⟨y, hy, ho, hk⟩ := two_kids_at (by rcases hc with rfl | rfl | rfl <;> rfl) h0
  rw [kn_eq S t (rt_right hy), hS, Bool.false_or, makes_kids hy (by rw [ho]; rcases hc with rfl | rfl | rfl <;> decide) (by rw [ho]; rcases hc with rfl | rfl | rfl <;> decide) (by rw [ho]; rcases hc with rfl | rfl | rfl <;> decide), hk]
  rcases h with h | h <;> simp [h]
theorem kn_two_yes {S : List UInt8 → Bool} {c : UInt8} {a b t : List UInt8} (hc : c = 68 ∨ c = 86 ∨ c = 75) (h0 : twoT c a b = (t, 0)) (ha : kn S a = true) (hb : kn S b = true) : kn S t = true := by
  obtain ⟨y, hy, ho, hk⟩ := two_kids_at (by rcases hc with rfl | rfl | rfl <;> rfl) h0
  rw [kn_eq S t (rt_right hy), makes_kids hy (by rw [ho]; rcases hc with rfl | rfl | rfl <;> decide) (by rw [ho]; rcases hc with rfl | rfl | rfl <;> decide) (by rw [ho]; rcases hc with rfl | rfl | rfl <;> decide), hk]
  simp [ha, hb]
theorem kn_name_not {S : List UInt8 → Bool} {t : List UInt8} (hr : right t = true) (hd : head t = 110) (hS : S t = false) : kn S t = false := by
  obtain ⟨x, hx⟩ := right_some hr
  have ho : x.op.toNat = 110 := by rw [head_op hx, hd]; rfl
  rw [kn_eq S t hr, hS, Bool.false_or]
  unfold makesB
  rw [hx]
  simp only
  rw [if_pos ho]
/-- Nothing below a name is known to who holds nothing below it. -/
theorem spn_unknown {S : List UInt8 → Bool} {n : Nat} (hn : n ≤ 9223372036854775807) (hS : ∀ t j, S t = true → ¬ Spn n j t) : ∀ (j : Nat) (t : List UInt8), right t = true → Spn n j t → kn S t = false := by
  intro j
  induction j with
  | zero =>
    intro t hr h
    refine kn_name_not hr (by rw [spn_head h]; rfl) ?_
    cases hq : S t with
    | false => rfl
    | true => exact absurd h (hS t 0 hq)
  | succ j ih =>
    intro t hr h
    obtain ⟨x, hx⟩ := right_some hr
    have ho : x.op = 68 := by rw [head_op hx, spn_head h]; rfl
    obtain ⟨u, v, e, ru, rv, _⟩ := rt_two_kids hx (by rw [ho]; rfl)
    have ht := rt_text hx (n := 2) (by rw [ho]; rfl)
    rw [e, ho] at ht
    simp only [cat, List.flatten_cons, List.flatten_nil, List.append_nil] at ht
    have h2 := h
    obtain ⟨r, hr2⟩ := h
    rw [ht, List.replicate_succ] at hr2
    simp only [List.cons_append, List.cons.injEq, true_and] at hr2
    have hu := ih u ru (spn_pre hn j u v r ru hr2)
    rw [kn_eq S t hr, makes_kids hx (by rw [ho]; decide) (by rw [ho]; decide) (by rw [ho]; decide), e]
    cases hq : S t with
    | false => simp [hu]
    | true => exact absurd h2 (hS t _ hq)
/-- What was heard is held as it is, where nothing of it can be taken apart. -/
theorem heard_least {L : List (List UInt8)} (h : ∀ t ∈ L, head t ≠ 84 ∧ head t ≠ 66) : Least (heardP L) (heardP L) := by
  refine ⟨fun t h => h, fun t x ht hx => ?_, fun S' h _ t ht => h t ht⟩
  have hm : t ∈ L := by unfold heardP at ht; rw [Bool.and_eq_true, decide_eq_true_eq] at ht; exact ht.2
  obtain ⟨h1, h2⟩ := h t hm
  have ho := head_op hx
  exact ⟨fun e => absurd (by rw [← ho]; exact UInt8.toNat_inj.1 e) h1, fun e => absurd (by rw [← ho]; exact UInt8.toNat_inj.1 e) h2⟩
theorem heard_in {L : List (List UInt8)} {t : List UInt8} (h : heardP L t = true) : t ∈ L := by
  unfold heardP at h; rw [Bool.and_eq_true, decide_eq_true_eq] at h; exact h.2
theorem heard_of {L : List (List UInt8)} {t : List UInt8} (hr : right t = true) (h : t ∈ L) : heardP L t = true := by
  unfold heardP; rw [Bool.and_eq_true, decide_eq_true_eq]; exact ⟨hr, h⟩
theorem chS_spn (n k : Nat) (w : List UInt8) : Spn n 2 (chS (nameL n) k w) := spn_up (spn_up (spn_name n) _) _
theorem onT_spn {n : Nat} (i : Nat) : ∀ (k j : Nat) (t : List UInt8), Spn n j t → (onT i k t).2 = 0 → ∃ j', j ≤ j' ∧ Spn n j' (onT i k t).1 ∧ (j' = j → (onT i k t).1 = t)
  | 0, j, t, h, _ => ⟨j, Nat.le_refl _, h, fun _ => rfl⟩
  | k + 1, j, t, h, h0 => by
    unfold onT at h0 ⊢
    split
    · rename_i hb
      rw [if_pos hb] at h0
      exact onT_spn i k j t h h0
    · rename_i hb
      rw [if_neg hb] at h0
      split
      · rename_i h2
        rw [if_pos h2] at h0
        obtain ⟨g1, g2, g3, g4⟩ := two_right h2
        obtain ⟨j', h3, h4, h5⟩ := onT_spn i k (j + 1) _ (by rw [g2]; exact spn_up h _) h0
        exact ⟨j', by omega, h4, fun e => by omega⟩
      · rename_i h2
        rw [if_neg h2] at h0
        exact absurd h0 h2

/-- What may be heard of a channel: keys, or something below a name. -/
def KeyHd (t : List UInt8) : Prop := head t = 80 ∨ head t = 87 ∨ head t = 76
theorem keyHd_spn {n j : Nat} {t : List UInt8} (h : KeyHd t) : ¬ Spn n j t := fun hs => by
  have := spn_head hs
  unfold KeyHd at h
  by_cases hj : j = 0
  · rw [if_pos hj] at this; rw [this] at h; revert h; decide
  · rw [if_neg hj] at this; rw [this] at h; revert h; decide
theorem heads_ok {L : List (List UInt8)} (h : ∀ t ∈ L, KeyHd t ∨ head t = 68) : ∀ t ∈ L, (head t ≠ 84 ∧ head t ≠ 66) ∧ head t ≠ 75 ∧ head t ≠ 86 := fun t ht => by
  unfold KeyHd at h
  rcases h t ht with (h | h | h) | h <;> rw [h] <;> decide
theorem ks_same {L : List (List UInt8)} {S : List UInt8 → Bool} (hS : Least (heardP L) S) (h : ∀ t ∈ L, KeyHd t ∨ head t = 68) : S = heardP L :=
  least_one hS (heard_least (fun t ht => (heads_ok h t ht).1))
theorem ks_no {L : List (List UInt8)} {S : List UInt8 → Bool} (hS : Least (heardP L) S) (h : ∀ t ∈ L, KeyHd t ∨ head t = 68) {t : List UInt8} (ht : t ∉ L) : S t = false := by
  rw [ks_same hS h]
  cases hq : heardP L t with
  | false => rfl
  | true => exact absurd (heard_in hq) ht
/-- Nothing below a name, where nothing below it was heard. -/
theorem ks_not {n : Nat} (hn : n ≤ 9223372036854775807) {L : List (List UInt8)} {S : List UInt8 → Bool} (hS : Least (heardP L) S) (h : ∀ t ∈ L, KeyHd t ∨ head t = 68) (hno : ∀ t ∈ L, ∀ j, ¬ Spn n j t) {j : Nat} {t : List UInt8} (hr : right t = true) (ht : Spn n j t) : kn S t = false :=
  spn_unknown hn (fun u k hu => by rw [ks_same hS h] at hu; exact hno u (heard_in hu) k) j t hr ht
theorem ks_two_not {c : UInt8} {a b t : List UInt8} {L : List (List UInt8)} {S : List UInt8 → Bool} (hc : c = 86 ∨ c = 75) (h0 : twoT c a b = (t, 0)) (hS : Least (heardP L) S) (h : ∀ t ∈ L, KeyHd t ∨ head t = 68) (hab : kn S a = false ∨ kn S b = false) : kn S t = false := by
  refine kn_two_not (by rcases hc with rfl | rfl <;> simp) h0 (ks_no hS h (fun hm => ?_)) hab
  have g := (two_right (c := c) (a := a) (b := b) (by rw [h0])).2.1
  rw [h0] at g
  have g : t = c :: (a ++ b) := g
  have := heads_ok h t hm
  rw [g] at this
  rcases hc with rfl | rfl
  · exact this.2.2 rfl
  · exact this.2.1 rfl
theorem ks_two_yes {c : UInt8} {a b t : List UInt8} {L : List (List UInt8)} {S : List UInt8 → Bool} (hc : c = 86 ∨ c = 75) (h0 : twoT c a b = (t, 0)) (hS : Least (heardP L) S) (ha : a ∈ L) (hb : b ∈ L) : kn S t = true := by
  obtain ⟨_, _, ra, rb⟩ := two_right (c := c) (a := a) (b := b) (by rw [h0])
  exact kn_two_yes (by rcases hc with rfl | rfl <;> simp) h0 (kn_held ra (hS.1 a (heard_of ra ha))) (kn_held rb (hS.1 b (heard_of rb hb)))
theorem reveal_spn {A : Nat} {N : Int} {t : List UInt8} (h : revealT (chS (nameL A) 1 [115, 101, 101, 100]) N = (t, 0)) : ∃ j, 2 ≤ j ∧ Spn A j t ∧ (j = 2 → t = chS (nameL A) 1 [115, 101, 101, 100]) := by
  unfold revealT at h
  split at h
  · cases h
  unfold secretT at h
  split at h
  · cases h
  split at h
  · have h0 : (onT (1048575 - N).toNat 20 (chS (nameL A) 1 [115, 101, 101, 100])).2 = 0 := by rw [h]
    obtain ⟨j, h1, h2, h3⟩ := onT_spn _ 20 2 _ (chS_spn A 1 _) h0
    rw [h] at h2 h3
    exact ⟨j, h1, h2, h3⟩
  · cases h
/-- A child's own term is not known, where neither it nor what is above it was heard, and the name neither. -/
theorem ks_child_not {A : Nat} (hA : A ≤ 9223372036854775807) {w : List UInt8} (hw : w.length ≤ 100) {L : List (List UInt8)} {S : List UInt8 → Bool} (hS : Least (heardP L) S) (h : ∀ t ∈ L, KeyHd t ∨ head t = 68)
    (h0 : ∀ t ∈ L, ¬ Spn A 0 t) (h1 : ∀ t ∈ L, ¬ Spn A 1 t) (h2 : chS (nameL A) 1 w ∉ L) : kn S (chS (nameL A) 1 w) = false := by
  have q1 := q_mono (q_name A hA) (show 1 ≤ 2 by omega) (Nat.le_refl 25)
  have q2 := q_label [99, 104, 97, 110, 110, 101, 108] 1 (by decide) (by omega)
  have t1 := twoT_at (c := 68) (by decide) rfl q1 q2 (by omega) (by omega)
  have q3 := q_two (c := 68) (by decide) rfl q1 q2
  have q4 := q_mono (q_label w 0 hw (by omega)) (show 2 ≤ 3 by omega) (Nat.le_refl 200)
  have t2 := twoT_at (c := 68) (by decide) rfl q3 q4 (by omega) (by omega)
  have k0 : kn S (nameL A) = false := kn_name_not (nameL_right hA).1 (nameL_right hA).2 (ks_no hS h (fun hm => h0 _ hm (spn_name A)))
  have k1 := kn_two_not (S := S) (.inl rfl) t1 (ks_no hS h (fun hm => h1 _ hm (spn_up (spn_name A) _))) (.inl k0)
  exact kn_two_not (.inl rfl) t2 (ks_no hS h h2) (.inl k1)
/-- What KeysSecret asks of who has heard the keys alone (L), one side's secrets besides, the other's, and the commitment's secret. -/
theorem ks_plain {A B : Nat} (hA : A ≤ 9223372036854775807) (hB : B ≤ 9223372036854775807) (hAB : A ≠ B) {N : Int} {sec sR sP sL sH oR oP oH rev mine theirs : List UInt8}
    (hsec : revealT (chS (nameL A) 1 [115, 101, 101, 100]) N = (sec, 0)) (rsec : right sec = true)
    (eL : sL = chS (nameL A) 1 [108, 97, 116, 101, 114]) (eH : sH = chS (nameL A) 1 [104, 116, 108, 99]) (eoR : oR = chS (nameL B) 2 [114, 101, 118]) (eoP : oP = chS (nameL B) 2 [112, 97, 121]) (eoH : oH = chS (nameL B) 2 [104, 116, 108, 99])
    (hrev : twoT 86 oR sec = (rev, 0)) (hmine : twoT 75 sH (80 :: sec) = (mine, 0)) (htheirs : twoT 75 oH (80 :: sec) = (theirs, 0)) {L : List (List UInt8)} (hL : ∀ t ∈ L, KeyHd t) (hp : 80 :: sec ∈ L) :
    (∀ S, Least (heardP L) S → kn S rev = false ∧ kn S mine = false ∧ kn S theirs = false)
    ∧ (∀ L1 S, (∀ t ∈ L1, Spn A 2 t) → sH ∈ L1 → Least (heardP (L ++ L1)) S → kn S rev = false ∧ kn S theirs = false ∧ kn S mine = true ∧ kn S oP = false)
    ∧ (∀ L2 S, (∀ t ∈ L2, Spn B 2 t) → oH ∈ L2 → Least (heardP (L ++ L2)) S → kn S rev = false ∧ kn S mine = false ∧ kn S theirs = true ∧ kn S sL = false)
    ∧ (∀ L2 S, (∀ t ∈ L2, Spn B 2 t) → oR ∈ L2 → Least (heardP (L ++ L2 ++ [sec])) S → kn S rev = true ∧ kn S mine = false) := by
  subst eL eH eoR eoP eoH
  obtain ⟨j, hj, hsp, hjs⟩ := reveal_spn hsec
  have rch : ∀ (n k : Nat) (w : List UInt8), n ≤ 9223372036854775807 → k ≤ 9223372036854775807 → w.length ≤ 100 → right (chS (nameL n) k w) = true := fun n k w h1 h2 h3 => q_right (q_chS _ w k (q_name n h1) h3 h2) (by omega) (by omega)
  have hk : ∀ t ∈ L, KeyHd t ∨ head t = 68 := fun t ht => .inl (hL t ht)
  have h68 : ∀ {n : Nat} {t : List UInt8}, Spn n 2 t → head t = 68 := fun h => by rw [spn_head h]; rfl
  have hk1 : ∀ L1, (∀ t ∈ L1, Spn A 2 t) → ∀ t ∈ L ++ L1, KeyHd t ∨ head t = 68 := fun L1 h t ht => by
    rcases List.mem_append.1 ht with ht | ht
    · exact hk t ht
    · exact .inr (h68 (h t ht))
  have hk2 : ∀ L1, (∀ t ∈ L1, Spn B 2 t) → ∀ t ∈ L ++ L1, KeyHd t ∨ head t = 68 := fun L1 h t ht => by
    rcases List.mem_append.1 ht with ht | ht
    · exact hk t ht
    · exact .inr (h68 (h t ht))
  have nB : ∀ L1, (∀ t ∈ L1, Spn A 2 t) → ∀ t ∈ L ++ L1, ∀ j, ¬ Spn B j t := fun L1 h t ht j hs => by
    rcases List.mem_append.1 ht with ht | ht
    · exact keyHd_spn (hL t ht) hs
    · exact hAB (spn_one hA hB (h t ht) hs).1
  have nA : ∀ L1, (∀ t ∈ L1, Spn B 2 t) → ∀ t ∈ L ++ L1, ∀ j, ¬ Spn A j t := fun L1 h t ht j hs => by
    rcases List.mem_append.1 ht with ht | ht
    · exact keyHd_spn (hL t ht) hs
    · exact hAB (spn_one hB hA (h t ht) hs).1.symm
  refine ⟨fun S hS => ?_, fun L1 S h1 hm hS => ?_, fun L2 S h2 hm hS => ?_, fun L2 S h2 hm hS => ?_⟩
  · have u1 : ∀ t ∈ L, ∀ j, ¬ Spn A j t := fun t ht j => keyHd_spn (hL t ht)
    have u2 : ∀ t ∈ L, ∀ j, ¬ Spn B j t := fun t ht j => keyHd_spn (hL t ht)
    exact ⟨ks_two_not (.inl rfl) hrev hS hk (.inl (ks_not hB hS hk u2 (rch B 2 _ hB (by omega) (by decide)) (chS_spn B 2 _))),
      ks_two_not (.inr rfl) hmine hS hk (.inl (ks_not hA hS hk u1 (rch A 1 _ hA (by omega) (by decide)) (chS_spn A 1 _))),
      ks_two_not (.inr rfl) htheirs hS hk (.inl (ks_not hB hS hk u2 (rch B 2 _ hB (by omega) (by decide)) (chS_spn B 2 _)))⟩
  · have hb := fun w (hw : w.length ≤ 100) => ks_not hB hS (hk1 L1 h1) (nB L1 h1) (rch B 2 w hB (by omega) hw) (chS_spn B 2 w)
    exact ⟨ks_two_not (.inl rfl) hrev hS (hk1 L1 h1) (.inl (hb _ (by decide))), ks_two_not (.inr rfl) htheirs hS (hk1 L1 h1) (.inl (hb _ (by decide))),
      ks_two_yes (.inr rfl) hmine hS (List.mem_append_right _ hm) (List.mem_append_left _ hp), hb _ (by decide)⟩
  · have hb := fun w (hw : w.length ≤ 100) => ks_not hA hS (hk2 L2 h2) (nA L2 h2) (rch A 1 w hA (by omega) hw) (chS_spn A 1 w)
    exact ⟨ks_two_not (.inl rfl) hrev hS (hk2 L2 h2) (.inr (ks_not hA hS (hk2 L2 h2) (nA L2 h2) rsec hsp)), ks_two_not (.inr rfl) hmine hS (hk2 L2 h2) (.inl (hb _ (by decide))),
      ks_two_yes (.inr rfl) htheirs hS (List.mem_append_right _ hm) (List.mem_append_left _ hp), hb _ (by decide)⟩
  · have hk3 : ∀ t ∈ L ++ L2 ++ [sec], KeyHd t ∨ head t = 68 := fun t ht => by
      rcases List.mem_append.1 ht with ht | ht
      · exact hk2 L2 h2 t ht
      · rw [List.mem_singleton.1 ht]
        exact .inr (by rw [spn_head hsp, if_neg (by omega)])
    have low : ∀ t ∈ L ++ L2 ++ [sec], ∀ i, i < 2 → ¬ Spn A i t := fun t ht i hi hs => by
      rcases List.mem_append.1 ht with ht | ht
      · exact nA L2 h2 t ht i hs
      · rw [List.mem_singleton.1 ht] at hs
        have := (spn_one hA hA hs hsp).2
        omega
    have hnot : chS (nameL A) 1 [104, 116, 108, 99] ∉ L ++ L2 ++ [sec] := fun ht => by
      rcases List.mem_append.1 ht with ht | ht
      · exact nA L2 h2 _ ht 2 (chS_spn A 1 _)
      · have e := List.mem_singleton.1 ht
        have h3 := chS_spn A 1 [104, 116, 108, 99]
        rw [e] at h3
        have := (spn_one hA hA h3 hsp).2
        have e2 := hjs this.symm
        rw [e2] at e
        unfold chS at e
        simp only [List.cons.injEq, true_and] at e
        have := List.append_cancel_left e
        exact absurd this (by decide +kernel)
    exact ⟨ks_two_yes (.inl rfl) hrev hS (by simp [hm]) (by simp),
      ks_two_not (.inr rfl) hmine hS hk3 (.inl (ks_child_not hA (by decide) hS hk3 (fun t ht => low t ht 0 (by omega)) (fun t ht => low t ht 1 (by omega)) hnot))⟩
end Go.Proofs.YtdmfoablpdhnbaaGreatDoor
