/- Locks, plain: how a lock is read; written and read again. -/
import Derived.Test.YtfmckibiblhakaaGreatDoorLockP
set_option linter.unusedSimpArgs false
set_option linter.unusedVariables false
namespace Go.Proofs.YtfmckibiblhakaaGreatDoor
open Go.RowKit

def isDg (c : UInt8) : Bool := decide (48 ≤ c.toNat) && decide (c.toNat ≤ 57)
def decV (l : List UInt8) : Nat := l.foldl (fun n c => n * 10 + (c.toNat - 48)) 0
def goodNum (ds : List UInt8) : Bool := decide (ds ≠ []) && decide (ds.length ≤ 10) && (decide (ds.length ≤ 1) || decide (head ds ≠ 48)) && ds.all isDg
/-- A number ahead of a byte, and what stands behind it. -/
def numP (e : UInt8) (s : List UInt8) : Option (Nat × List UInt8) :=
  if e ∈ s then (if goodNum (s.takeWhile (· != e)) then some (decV (s.takeWhile (· != e)), s.drop ((s.takeWhile (· != e)).length + 1)) else none) else none

theorem decV_snoc (l : List UInt8) (c : UInt8) : decV (l ++ [c]) = decV l * 10 + (c.toNat - 48) := by simp [decV]
theorem dec_dg : ∀ n : Nat, (Lib.decDigits n).all isDg = true ∧ decV (Lib.decDigits n) = n ∧ Lib.decDigits n ≠ [] ∧ (10 ≤ n → head (Lib.decDigits n) ≠ 48) ∧ (0 < n → head (Lib.decDigits n) ≠ 48) := by
  intro n
  induction n using Nat.strongRecOn with
  | ind n ih =>
    by_cases h : n < 10
    · rw [Lib.decDigits_one h]
      have e := dg_toNat n h
      refine ⟨by simp only [List.all_cons, List.all_nil, Bool.and_true, isDg, e, Bool.and_eq_true, decide_eq_true_eq]; omega, by simp only [decV, List.foldl, e]; omega, by simp, by omega, ?_⟩
      intro h0 hh
      simp only [head, List.headD_cons] at hh
      have := congrArg UInt8.toNat hh
      rw [e] at this
      simp at this
      omega
    · have e := dg_toNat (n % 10) (Nat.mod_lt _ (by omega))
      obtain ⟨h1, h2, h3, _, h5⟩ := ih (n / 10) (by omega)
      have e0 : Lib.decDigits n = Lib.decDigits (n / 10) ++ [UInt8.ofNat (48 + n % 10)] := by rw [Lib.decDigits, dif_neg h]
      have hh : head (Lib.decDigits n) = head (Lib.decDigits (n / 10)) := by
        rw [e0]
        cases hq : Lib.decDigits (n / 10) with
        | nil => exact absurd hq h3
        | cons a b => rfl
      rw [hh, e0]
      refine ⟨?_, ?_, by simp, fun _ => h5 (by omega), fun _ => h5 (by omega)⟩
      · rw [List.all_append, h1, Bool.true_and]
        simp [isDg, e]; omega
      · rw [decV_snoc, h2, e]; omega
theorem dec_back (l : List UInt8) : ∀ (m : Nat), l.length = m → l ≠ [] → l.all isDg = true → (l.length ≤ 1 ∨ head l ≠ 48) → Lib.decDigits (decV l) = l ∧ (2 ≤ l.length → 10 ≤ decV l) ∧ (head l ≠ 48 → 1 ≤ decV l) := by
  intro m
  induction m generalizing l with
  | zero => intro hm hne; exact absurd (List.eq_nil_of_length_eq_zero hm) hne
  | succ m ih =>
    intro hm hne hall hz
    obtain ⟨l', c, rfl⟩ : ∃ l' c, l = l' ++ [c] := ⟨l.dropLast, l.getLast hne, (List.dropLast_concat_getLast hne).symm⟩
    rw [List.all_append, Bool.and_eq_true] at hall
    have hc : 48 ≤ c.toNat ∧ c.toNat ≤ 57 := by simpa [isDg] using hall.2
    have ec : UInt8.ofNat (48 + (c.toNat - 48)) = c := by
      rw [show 48 + (c.toNat - 48) = c.toNat by omega]
      exact UInt8.ofNat_toNat
    rw [decV_snoc]
    by_cases hl : l' = []
    · subst hl
      have e0 : decV [] * 10 + (c.toNat - 48) = c.toNat - 48 := by simp [decV]
      rw [e0, Lib.decDigits_one (by omega), ec]
      refine ⟨rfl, by simp, fun h => ?_⟩
      have : c.toNat ≠ 48 := fun hh => h (by
        simp only [List.nil_append, head, List.headD_cons]
        exact UInt8.toNat_inj.1 hh)
      omega
    · have hh : head (l' ++ [c]) = head l' := by
        cases l' with
        | nil => exact absurd rfl hl
        | cons a b => rfl
      have hlen : l' ≠ [] → 1 ≤ l'.length := fun _ => by cases l' with | nil => exact absurd rfl hl | cons a b => simp
      have h48 : head l' ≠ 48 := by
        rcases hz with hz | hz
        · simp at hz; exact absurd hz hl
        · rwa [hh] at hz
      obtain ⟨g1, g2, g3⟩ := ih l' (by simpa using hm) hl hall.1 (.inr h48)
      have hv := g3 h48
      have d1 : (decV l' * 10 + (c.toNat - 48)) / 10 = decV l' := by omega
      have d2 : (decV l' * 10 + (c.toNat - 48)) % 10 = c.toNat - 48 := by omega
      refine ⟨?_, fun _ => by omega, fun _ => by omega⟩
      rw [Lib.decDigits, dif_neg (by omega), d1, d2, g1, ec]
theorem takeWhile_dec (e : UInt8) (he : isDg e = false) (ds r : List UInt8) (h : ds.all isDg = true) : (ds ++ e :: r).takeWhile (· != e) = ds := by
  induction ds with
  | nil => simp
  | cons a b ih =>
    rw [List.all_cons, Bool.and_eq_true] at h
    have : (a != e) = true := by
      cases hq : (a != e) with
      | true => rfl
      | false =>
        have : a = e := by simpa using hq
        rw [this, he] at h
        simp at h
    rw [List.cons_append, List.takeWhile_cons, this]
    simp [ih h.2]
theorem numP_dec (e : UInt8) (he : isDg e = false) (n : Nat) (hn : n < 10000000000) (r : List UInt8) : numP e (Lib.decDigits n ++ e :: r) = some (n, r) := by
  obtain ⟨h1, h2, h3, h4, h5⟩ := dec_dg n
  have hl := dec_len 9 n (by omega)
  unfold numP
  rw [if_pos (by simp), takeWhile_dec e he _ _ h1, if_pos, h2]
  · simp
  · unfold goodNum
    rw [h1]
    simp only [h3, hl, Bool.and_true, Bool.and_eq_true, Bool.or_eq_true, decide_eq_true_eq, ne_eq, not_false_eq_true, true_and]
    by_cases hz : n < 10
    · left; rw [Lib.decDigits_one hz]; simp
    · right; exact h4 (by omega)
theorem take_split (e : UInt8) : ∀ s : List UInt8, e ∈ s → s = s.takeWhile (· != e) ++ e :: s.drop ((s.takeWhile (· != e)).length + 1)
  | [], hm => by simp at hm
  | a :: b, hm => by
    by_cases ha : a = e
    · subst ha; simp
    · have hb : e ∈ b := by
        rcases List.mem_cons.1 hm with h | h
        · exact absurd h.symm ha
        · exact h
      have h1 : (a != e) = true := by simpa using ha
      rw [List.takeWhile_cons, h1]
      simp only [if_true, List.cons_append, List.length_cons, List.drop_succ_cons]
      exact congrArg _ (take_split e b hb)
theorem numP_back {e : UInt8} {s r : List UInt8} {n : Nat} (h : numP e s = some (n, r)) : s = Lib.decDigits n ++ e :: r ∧ n < 10000000000 := by
  unfold numP at h
  split at h
  · rename_i hm
    split at h
    · rename_i hg
      simp only [Option.some.injEq, Prod.mk.injEq] at h
      obtain ⟨hn, hr⟩ := h
      unfold goodNum at hg
      simp only [Bool.and_eq_true, Bool.or_eq_true, decide_eq_true_eq] at hg
      obtain ⟨⟨⟨g1, g2⟩, g3⟩, g4⟩ := hg
      obtain ⟨d1, _, _⟩ := dec_back _ _ rfl g1 g4 g3
      rw [hn] at d1
      have hs := take_split e s hm
      refine ⟨by rw [d1, ← hr]; exact hs, ?_⟩
      have hb : ∀ l : List UInt8, l.all isDg = true → decV l < 10 ^ l.length := by
        intro l
        induction hk : l.length generalizing l with
        | zero => intro _; rw [List.eq_nil_of_length_eq_zero hk]; simp [decV]
        | succ k ih =>
          intro ha
          have hne : l ≠ [] := fun h => by rw [h] at hk; simp at hk
          obtain ⟨l', c, rfl⟩ : ∃ l' c, l = l' ++ [c] := ⟨l.dropLast, l.getLast hne, (List.dropLast_concat_getLast hne).symm⟩
          rw [List.all_append, Bool.and_eq_true] at ha
          have hc : 48 ≤ c.toNat ∧ c.toNat ≤ 57 := by simpa [isDg] using ha.2
          have := ih l' (by simpa using hk) ha.1
          rw [decV_snoc, Nat.pow_succ]
          omega
      have h1 := hb _ g4
      have h2 : 10 ^ (s.takeWhile (· != e)).length ≤ 10 ^ 10 := Nat.pow_le_pow_right (by omega) g2
      rw [hn] at h1
      omega
    · cases h
  · cases h

/-- So many locks one behind the other. -/
def readRow (f : Nat → List UInt8 → Option (LT × List UInt8 × Nat)) : Nat → Nat → List UInt8 → Option (List LT × List UInt8 × Nat)
  | 0, room, s => some ([], s, room)
  | n + 1, room, s => match f room s with
    | none => none
    | some (x, s', room') => match readRow f n room' s' with
      | none => none
      | some (l, s'', room'') => some (x :: l, s'', room'')
/-- A lock that a text begins with. -/
def readL (cut : List UInt8 → Option (List UInt8 × List UInt8)) (lim : Nat → Option Nat) : Nat → Nat → List UInt8 → Option (LT × List UInt8 × Nat)
  | 0, _, _ => none
  | _ + 1, _, [] => none
  | _ + 1, 0, _ :: _ => none
  | f + 1, room + 1, c :: r =>
    if c = 115 ∨ c = 112 then (match cut r with | none => none | some (t, s) => some (.mk (if c = 115 then 1 else 2) t 0 [], s, room))
    else if c = 97 ∨ c = 111 then (match numP 59 r with | none => none | some (n, s) => some (.mk (if c = 97 then 3 else 4) [] n [], s, room))
    else if c = 38 ∨ c = 124 then (match numP 58 r with | none => none | some (n, s) => (match lim n with | none => none | some n => (match readRow (readL cut lim f) n room s with | none => none | some (l, s', room') => some (.mk (if c = 38 then 5 else 6) [] 0 l, s', room'))))
    else none
def readP (cut : List UInt8 → Option (List UInt8 × List UInt8)) (lim : Nat → Option Nat) (s : List UInt8) : Option LT :=
  match readL cut lim 65 64 s with
  | some (x, [], _) => if rightL x then some x else none
  | _ => none

theorem lockRow_cons (x : LT) (l : List LT) : lockRow (x :: l) = lockT x ++ lockRow l := by rw [lockRow]
theorem countRow_cons (x : LT) (l : List LT) : countRow (x :: l) = countL x + countRow l := by rw [countRow]
theorem rightsRow_cons (x : LT) (l : List LT) : rightsRow (x :: l) = (rightsL x && rightsRow l) := by rw [rightsRow]
theorem lockRow_nil : lockRow [] = [] := by rw [lockRow]
theorem countRow_nil : countRow [] = 0 := by rw [countRow]
theorem readRow_cat {E : List UInt8 → Prop} (hE : ∀ x r, rightsL x = true → E (lockT x ++ r)) (f : Nat → List UInt8 → Option (LT × List UInt8 × Nat)) : ∀ (l : List LT) (room : Nat) (r : List UInt8), (countRow l ≤ room) → rightsRow l = true → E r → (∀ x ∈ l, ∀ (rm : Nat) (r : List UInt8), E r → rm ≤ room → countL x ≤ rm → f rm (lockT x ++ r) = some (x, r, rm - (countL x).toNat)) →
    readRow f l.length room (lockRow l ++ r) = some (l, r, room - (countRow l).toNat)
  | [], room, r, _, _, _, _ => by rw [lockRow_nil, countRow_nil]; simp [readRow]
  | x :: l, room, r, hc, hr, he, h => by
    rw [rightsRow_cons, Bool.and_eq_true] at hr
    have hel : E (lockRow l ++ r) := by
      cases l with
      | nil => rw [lockRow_nil]; exact he
      | cons y l =>
        have h2 := hr.2
        rw [rightsRow_cons, Bool.and_eq_true] at h2
        rw [lockRow_cons, List.append_assoc]
        exact hE y _ h2.1
    rw [countRow_cons] at hc ⊢
    have p1 := count_pos x
    have p2 := count_pos_row l
    rw [List.length_cons, readRow, lockRow_cons, List.append_assoc, h x (by simp) room _ hel (Nat.le_refl _) (by omega)]
    simp only
    rw [readRow_cat hE f l _ r (by omega) hr.2 he (fun y hy rm r her hr hcy => h y (by simp [hy]) rm r her (by omega) hcy)]
    simp only [Option.some.injEq, Prod.mk.injEq, true_and]
    omega
mutual
theorem countL_mem : ∀ (l : List LT) (x : LT), x ∈ l → countL x ≤ countRow l
  | [], x, h => by simp at h
  | y :: l, x, h => by
    rw [countRow_cons]
    have p1 := count_pos y
    have p2 := count_pos_row l
    rcases List.mem_cons.1 h with rfl | h
    · omega
    · have := countL_mem l x h; omega
end
theorem rights_mem : ∀ (l : List LT) (x : LT), rightsRow l = true → x ∈ l → rightsL x = true
  | [], x, _, h => by simp at h
  | y :: l, x, hr, h => by
    rw [rightsRow_cons, Bool.and_eq_true] at hr
    rcases List.mem_cons.1 h with rfl | h
    · exact hr.1
    · exact rights_mem l x hr.2 h
/-- What is written is read again. -/
theorem read_text {cut : List UInt8 → Option (List UInt8 × List UInt8)} {lim : Nat → Option Nat} {E : List UInt8 → Prop} (hE : ∀ x r, rightsL x = true → E (lockT x ++ r)) (hlim : ∀ n, n ≤ 8 → lim n = some n) (hcut : ∀ t r, E r → (pubB t = true ∨ hashB t = true) → cut (t ++ r) = some (t, r)) :
    ∀ (f room : Nat) (x : LT) (r : List UInt8), E r → room < f → rightsL x = true → countL x ≤ room → readL cut lim f room (lockT x ++ r) = some (x, r, room - (countL x).toNat)
  | 0, _, _, _, _, h, _, _ => by omega
  | f + 1, room, .mk k t n kids, r, he, hf, hr, hc => by
    rw [rightsL, Bool.and_eq_true] at hr
    rw [countL] at hc ⊢
    have p2 := count_pos_row kids
    obtain ⟨rm, rfl⟩ : ∃ rm, room = rm + 1 := ⟨room - 1, by omega⟩
    obtain ⟨hb, hk⟩ := hr
    rw [lockT]
    unfold bareR at hb
    by_cases h1 : k = 1
    · subst h1
      simp only [if_true, Bool.and_eq_true, decide_eq_true_eq] at hb
      obtain ⟨⟨rfl, hm⟩, hp⟩ := hb
      obtain rfl := List.eq_nil_of_length_eq_zero hm
      simp [kindChar, readL, hcut t r he (.inl hp), countRow_nil]
    rw [if_neg h1] at hb
    by_cases h2 : k = 2
    · subst h2
      simp only [if_true, Bool.and_eq_true, decide_eq_true_eq] at hb
      obtain ⟨⟨rfl, hm⟩, hp⟩ := hb
      obtain rfl := List.eq_nil_of_length_eq_zero hm
      simp [kindChar, readL, hcut t r he (.inr hp), countRow_nil]
    rw [if_neg h2] at hb
    by_cases h34 : k = 3 ∨ k = 4
    · rw [if_pos h34] at hb
      simp only [Bool.and_eq_true, decide_eq_true_eq] at hb
      obtain ⟨⟨⟨rfl, hm⟩, hn0⟩, hn1⟩ := hb
      obtain rfl := List.eq_nil_of_length_eq_zero hm
      have hd := numP_dec 59 (by decide) n.toNat (by omega) r
      have en : ((n.toNat : Nat) : Int) = n := by omega
      rcases h34 with rfl | rfl <;> simp [kindChar, readL, hd, countRow_nil, en]
    rw [if_neg h34] at hb
    by_cases h56 : k = 5 ∨ k = 6
    · rw [if_pos h56] at hb
      simp only [Bool.and_eq_true, decide_eq_true_eq] at hb
      obtain ⟨⟨⟨rfl, rfl⟩, hm0⟩, hm1⟩ := hb
      have hd := numP_dec 58 (by decide) kids.length (by omega) (lockRow kids ++ r)
      have hrow := readRow_cat hE (readL cut lim f) kids rm r (by omega) hk he (fun x hx m r her hm hcx => read_text hE hlim hcut f m x r her (by omega) (rights_mem kids x hk hx) hcx)
      have em := hlim kids.length (by omega)
      rcases h56 with rfl | rfl <;> simp [kindChar, readL, hd, em, hrow] <;> omega
    rw [if_neg h56] at hb
    cases hb
/-- Read and right: it was written so. -/
theorem text_row {f : Nat → List UInt8 → Option (LT × List UInt8 × Nat)} (hf : ∀ room s x r m, f room s = some (x, r, m) → rightsL x = true → s = lockT x ++ r) : ∀ (n room : Nat) (s : List UInt8) (l : List LT) (r : List UInt8) (m : Nat), readRow f n room s = some (l, r, m) → rightsRow l = true → s = lockRow l ++ r ∧ l.length = n
  | 0, room, s, l, r, m, h, _ => by
    simp only [readRow, Option.some.injEq, Prod.mk.injEq] at h
    obtain ⟨rfl, rfl, _⟩ := h
    rw [lockRow_nil]
    exact ⟨rfl, rfl⟩
  | n + 1, room, s, l, r, m, h, hr => by
    rw [readRow] at h
    split at h
    · cases h
    · rename_i x s' room' hx
      split at h
      · cases h
      · rename_i l' s'' room'' hl
        simp only [Option.some.injEq, Prod.mk.injEq] at h
        obtain ⟨rfl, rfl, _⟩ := h
        rw [rightsRow_cons, Bool.and_eq_true] at hr
        obtain ⟨e1, e2⟩ := text_row hf n room' s' l' s'' _ hl hr.2
        rw [lockRow_cons, List.append_assoc, ← e1]
        exact ⟨hf _ _ _ _ _ hx hr.1, by simp [e2]⟩
theorem text_read {cut : List UInt8 → Option (List UInt8 × List UInt8)} {lim : Nat → Option Nat} (hlim : ∀ n m, lim n = some m → m ≤ 8 → n = m) (hcut : ∀ s t r, cut s = some (t, r) → s = t ++ r) :
    ∀ (f room : Nat) (s : List UInt8) (x : LT) (r : List UInt8) (m : Nat), readL cut lim f room s = some (x, r, m) → rightsL x = true → s = lockT x ++ r
  | 0, _, _, _, _, _, h, _ => by cases h
  | _ + 1, _, [], _, _, _, h, _ => by simp [readL] at h
  | _ + 1, 0, _ :: _, _, _, _, h, _ => by simp [readL] at h
  | f + 1, room + 1, c :: s, x, r, m, h, hr => by
    rw [readL] at h
    split at h
    · rename_i hc
      split at h
      · cases h
      · rename_i t s' ht
        simp only [Option.some.injEq, Prod.mk.injEq] at h
        obtain ⟨rfl, rfl, _⟩ := h
        rw [lockT, hcut _ _ _ ht]
        rcases hc with rfl | rfl <;> simp [kindChar]
    · split at h
      · rename_i hc
        split at h
        · cases h
        · rename_i n s' hn
          simp only [Option.some.injEq, Prod.mk.injEq] at h
          obtain ⟨rfl, rfl, _⟩ := h
          rw [lockT, (numP_back hn).1]
          rcases hc with rfl | rfl <;> simp [kindChar]
      · split at h
        · rename_i hc
          split at h
          · cases h
          · rename_i n s' hn
            split at h
            · cases h
            · rename_i n' hn'
              split at h
              · cases h
              rename_i l s'' room' hl
              simp only [Option.some.injEq, Prod.mk.injEq] at h
              obtain ⟨rfl, rfl, _⟩ := h
              rw [rightsL, Bool.and_eq_true] at hr
              obtain ⟨e1, e2⟩ := text_row (fun room s x r m => text_read hlim hcut f room s x r m) _ _ _ _ _ _ hl hr.2
              have hb := hr.1
              have hm : l.length ≤ 8 := by
                unfold bareR at hb
                rcases hc with rfl | rfl <;> simp at hb <;> omega
              have en : n = l.length := by rw [e2]; exact hlim n n' hn' (by omega)
              rw [lockT, (numP_back hn).1, e1, en]
              rcases hc with rfl | rfl <;> simp [kindChar]
        · cases h
theorem readP_text {cut : List UInt8 → Option (List UInt8 × List UInt8)} {lim : Nat → Option Nat} {E : List UInt8 → Prop} (hE : ∀ x r, rightsL x = true → E (lockT x ++ r)) (hE0 : E []) (hlim : ∀ n, n ≤ 8 → lim n = some n) (hcut : ∀ t r, E r → (pubB t = true ∨ hashB t = true) → cut (t ++ r) = some (t, r)) (x : LT) (h : rightL x = true) : readP cut lim (lockT x) = some x := by
  have h2 := h
  unfold rightL at h2
  rw [Bool.and_eq_true, decide_eq_true_eq] at h2
  have := read_text hE hlim hcut 65 64 x [] hE0 (by omega) h2.2 h2.1
  rw [List.append_nil] at this
  unfold readP
  rw [this]
  simp [h]
theorem readP_back {cut : List UInt8 → Option (List UInt8 × List UInt8)} {lim : Nat → Option Nat} (hlim : ∀ n m, lim n = some m → m ≤ 8 → n = m) (hcut : ∀ s t r, cut s = some (t, r) → s = t ++ r) {s : List UInt8} {x : LT} (h : readP cut lim s = some x) : rightL x = true ∧ lockT x = s := by
  unfold readP at h
  split at h
  · rename_i y m hy
    split at h
    · rename_i hr
      obtain rfl := Option.some.inj h
      refine ⟨hr, ?_⟩
      unfold rightL at hr
      rw [Bool.and_eq_true] at hr
      have := text_read hlim hcut _ _ _ _ _ _ hy hr.2
      simpa using this.symm
    · cases h
  · cases h
end Go.Proofs.YtfmckibiblhakaaGreatDoor
