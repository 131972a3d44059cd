/- The reference's reader of locks, plain: a number by steps. -/
import Derived.Test.YtfmckibiblhakaaGreatDoorLockT
set_option linter.unusedSimpArgs false
set_option linter.unusedVariables false
namespace Go.Proofs.YtfmckibiblhakaaGreatDoor
open Go.RowKit

/-- A number by steps: j digits are read, n is what they say. -/
def nlR (e : UInt8) : Nat → Nat → Nat → List UInt8 → Option (Nat × Nat)
  | 0, _, _, _ => none
  | _ + 1, _, _, [] => none
  | f + 1, j, n, c :: r => if c = e ∧ 0 < j then some (n, j + 1) else if isDg c = false ∨ (n = 0 ∧ 0 < j) then none else nlR e f (j + 1) (n * 10 + (c.toNat - 48)) r
theorem tw_all {e : UInt8} (he : isDg e = false) (r : List UInt8) : ∀ p : List UInt8, p.all isDg = true → (p ++ r).takeWhile (· != e) = p ++ r.takeWhile (· != e)
  | [], _ => rfl
  | a :: b, h => by
    rw [List.all_cons, Bool.and_eq_true] at h
    have : (a != e) = true := by
      cases hq : (a != e) with
      | true => rfl
      | false =>
        have : a = e := by simpa using hq
        rw [this, he] at h
        simp at h
    rw [List.cons_append, List.takeWhile_cons, this, if_pos rfl, tw_all he r b h.2, List.cons_append]
theorem numP_bad {e : UInt8} {s : List UInt8} (h : goodNum (s.takeWhile (· != e)) = false) : numP e s = none := by
  unfold numP
  split
  · rw [if_neg (by rw [h]; simp)]
  · rfl
theorem nlR_is (e : UInt8) (he : isDg e = false) : ∀ (r p : List UInt8) (f : Nat), p.all isDg = true → f + p.length = 11 → (p.length ≤ 1 ∨ head p ≠ 48) →
    nlR e f p.length (decV p) r = (numP e (p ++ r)).map fun z => (z.1, (p ++ r).length - z.2.length)
  | r, p, 0, hp, hf, _ => by
    have hb : goodNum ((p ++ r).takeWhile (· != e)) = false := by
      rw [tw_all he r p hp]
      unfold goodNum
      have : decide ((p ++ r.takeWhile (· != e)).length ≤ 10) = false := by simp; omega
      rw [this]; simp
    rw [numP_bad hb]
    rfl
  | [], p, f + 1, hp, hf, _ => by
    have hn : e ∉ p ++ [] := by
      rw [List.append_nil]
      intro h
      have := List.all_eq_true.1 hp e h
      rw [he] at this
      cases this
    unfold numP
    rw [if_neg hn]
    rfl
  | c :: r, p, f + 1, hp, hf, hz => by
    rw [nlR]
    by_cases hc : c = e
    · subst hc
      by_cases hj : 0 < p.length
      · rw [if_pos ⟨rfl, hj⟩]
        have htw := tw_all he (c :: r) p hp
        rw [List.takeWhile_cons] at htw
        simp only [bne_self_eq_false, Bool.false_eq_true, if_false, List.append_nil] at htw
        unfold numP
        rw [if_pos (by simp), htw, if_pos]
        · simp; omega
        · unfold goodNum
          have hne : p ≠ [] := by intro h; subst h; simp at hj
          rw [hp]
          simp [hne]
          exact ⟨by omega, hz⟩
      · have hpn : p = [] := List.eq_nil_of_length_eq_zero (by omega)
        subst hpn
        rw [if_neg (by simp), if_pos (.inl he)]
        rw [numP_bad (by simp [goodNum])]
        rfl
    · rw [if_neg (by simp [hc])]
      have hce : (c != e) = true := by simpa using hc
      have htw := tw_all he (c :: r) p hp
      rw [List.takeWhile_cons, hce, if_pos rfl] at htw
      by_cases hd : isDg c = true
      · by_cases h0 : decV p = 0 ∧ 0 < p.length
        · rw [if_pos (.inr h0)]
          have hne : p ≠ [] := by intro h; subst h; simp at h0
          have hh : head p = 48 := by
            by_cases hh : head p = 48
            · exact hh
            · have := (dec_back p _ rfl hne hp (.inr hh)).2.2 hh
              omega
          rw [numP_bad]
          · rfl
          · rw [htw]
            unfold goodNum
            have h1 : decide ((p ++ c :: r.takeWhile (· != e)).length ≤ 1) = false := by simp; omega
            have h2 : head (p ++ c :: r.takeWhile (· != e)) = 48 := by
              cases p with
              | nil => exact absurd rfl hne
              | cons a b => exact hh
            rw [h1, h2]
            simp
        · rw [if_neg (by rw [hd]; simpa using h0)]
          have hall : (p ++ [c]).all isDg = true := by rw [List.all_append, hp]; simp [hd]
          have hlen : (p ++ [c]).length = p.length + 1 := by simp
          have h := nlR_is e he r (p ++ [c]) f hall (by rw [hlen]; omega) (by
            rw [hlen]
            by_cases h1 : p.length = 0
            · left; omega
            · right
              have hh : head (p ++ [c]) = head p := by
                cases p with
                | nil => simp at h1
                | cons a b => rfl
              rw [hh]
              rcases hz with hz | hz
              · intro h48
                apply h0
                match p, hz, h1, h48 with
                | [a], _, _, h48 =>
                  have : a = 48 := h48
                  subst this
                  exact ⟨by decide, by simp⟩
              · exact hz)
          rw [hlen, decV_snoc] at h
          rw [h]
          simp
      · rw [if_pos (.inl (by simpa using hd)), numP_bad]
        · rfl
        · rw [htw]
          unfold goodNum
          have : (p ++ c :: r.takeWhile (· != e)).all isDg = false := by
            rw [List.all_append, List.all_cons]
            have : isDg c = false := by simpa using hd
            rw [this]; simp
          rw [this]; simp
theorem nlR_num (e : UInt8) (he : isDg e = false) (s : List UInt8) : nlR e 11 0 0 s = (numP e s).map fun z => (z.1, s.length - z.2.length) := by
  have := nlR_is e he s [] 11 rfl rfl (.inl (by simp))
  simpa [decV] using this
theorem numP_len {e : UInt8} {s r : List UInt8} {n : Nat} (h : numP e s = some (n, r)) : r.length < s.length := by
  have := congrArg List.length (numP_back h).1
  simp at this
  omega
/-- What the reference answers: a number, and where it ends. -/
def numRV (o : Option (Nat × Nat)) (a : Nat) : Value := match o with
  | some z => .tuple #[.int .i64 z.1, .int .i64 ((a : Int) + z.2)]
  | none => .tuple #[.int .i64 0, .int .i64 (-1)]
/-- Where a right term ends. -/
def termRV (o : Option Nat) (a : Nat) : Value := match o with
  | some k => .int .i64 ((a : Int) + k)
  | none => .int .i64 (-1)
def endsC (c : UInt8) : Bool := c == 115 || c == 112 || c == 97 || c == 111 || c == 38 || c == 124
theorem termRF_le (s : List UInt8) : ∀ (f i k : Nat), termRF s f i = some k → i ≤ k ∧ k < i + f
  | 0, _, _, h => by rw [termRF] at h; cases h
  | f + 1, i, k, h => by
    rw [termRF] at h
    split at h
    · cases h; omega
    · have := termRF_le s f (i + 1) k h; omega
theorem numRV_none (e : UInt8) (he : isDg e = false) {s : List UInt8} {a : Nat} (h : numP e (s.drop a) = none) : numRV (nlR e 11 0 0 (s.drop a)) a = .tuple #[.int .i64 0, .int .i64 (-1)] := by
  rw [nlR_num e he, h]; rfl
theorem numRV_some (e : UInt8) (he : isDg e = false) {s r : List UInt8} {a n : Nat} (ha : a ≤ s.length) (h : numP e (s.drop a) = some (n, r)) : numRV (nlR e 11 0 0 (s.drop a)) a = .tuple #[.int .i64 n, .int .i64 ((s.length - r.length : Nat) : Int)] := by
  have hl := numP_len h
  rw [List.length_drop] at hl
  rw [nlR_num e he, h]
  have h2 : ((a : Int) + ((s.length - a - r.length : Nat) : Int)) = ((s.length - r.length : Nat) : Int) := by omega
  simp only [Option.map_some, numRV, List.length_drop]
  rw [h2]
theorem termRV_none {s : List UInt8} {a : Nat} (h : termR (s.drop a) = none) : termRV (termRF (s.drop a) (min (s.length - a) 16384) 1) a = .int .i64 (-1) := by
  unfold termR at h
  rw [List.length_drop] at h
  cases hq : termRF (s.drop a) (min (s.length - a) 16384) 1 with
  | none => rfl
  | some k => rw [hq] at h; cases h
theorem termRV_some {s t r : List UInt8} {a : Nat} (h : termR (s.drop a) = some (t, r)) :
    termRV (termRF (s.drop a) (min (s.length - a) 16384) 1) a = .int .i64 ((a + t.length : Nat) : Int) ∧ t = (s.drop a).take t.length ∧ r.length = s.length - (a + t.length) ∧ 1 ≤ t.length ∧ t.length ≤ 16384 ∧ a + t.length ≤ s.length := by
  unfold termR at h
  rw [List.length_drop] at h
  cases hq : termRF (s.drop a) (min (s.length - a) 16384) 1 with
  | none => rw [hq] at h; cases h
  | some k =>
    rw [hq] at h
    simp only [Option.map_some, Option.some.injEq, Prod.mk.injEq] at h
    obtain ⟨h1, h2⟩ := h
    have hk := termRF_le _ _ _ _ hq
    have hl : t.length = k := by rw [← h1, List.length_take, List.length_drop]; omega
    have hl2 := congrArg List.length h2
    rw [List.length_drop, List.length_drop] at hl2
    refine ⟨?_, ?_, by omega, by omega, by omega, by omega⟩
    · show Value.int .i64 ((a : Int) + k) = _
      rw [hl]
      congr 1
    · rw [hl, h1]
theorem readR_suf : ∀ (f room : Nat) (s : List UInt8) (x : LT) (s' : List UInt8) (r : Nat), readL termR limR f room s = some (x, s', r) → (∃ p, s = p ++ s') ∧ r < room
  | 0, _, _, _, _, _, h => by cases h
  | f + 1, room, [], _, _, _, h => by cases room <;> cases h
  | f + 1, 0, c :: q, _, _, _, h => by cases h
  | f + 1, room + 1, c :: q, x, s', r, h => by
    rw [readL] at h
    split at h
    · split at h
      · cases h
      · rename_i t s2 hc
        simp only [Option.some.injEq, Prod.mk.injEq] at h
        obtain ⟨_, rfl, rfl⟩ := h
        refine ⟨⟨c :: t, ?_⟩, by omega⟩
        rw [termR_back _ _ _ hc, List.cons_append]
    · split at h
      · split at h
        · cases h
        · rename_i n s2 hc
          simp only [Option.some.injEq, Prod.mk.injEq] at h
          obtain ⟨_, rfl, rfl⟩ := h
          refine ⟨⟨c :: (Lib.decDigits n ++ [59]), ?_⟩, by omega⟩
          rw [(numP_back hc).1]; simp
      · split at h
        · split at h
          · cases h
          · rename_i n s2 hc
            split at h
            · cases h
            · rename_i n2 _
              split at h
              · cases h
              · rename_i l s3 r3 hr
                simp only [Option.some.injEq, Prod.mk.injEq] at h
                obtain ⟨_, rfl, rfl⟩ := h
                obtain ⟨⟨p, hp⟩, h2⟩ := readRow_suf f n2 room s2 l _ _ hr
                refine ⟨⟨c :: (Lib.decDigits n ++ 58 :: p), ?_⟩, by omega⟩
                rw [(numP_back hc).1, hp]; simp
        · cases h
where
  readRow_suf (f : Nat) : ∀ (n room : Nat) (s : List UInt8) (l : List LT) (s' : List UInt8) (r : Nat), readRow (readL termR limR f) n room s = some (l, s', r) → (∃ p, s = p ++ s') ∧ r ≤ room
  | 0, room, s, l, s', r, h => by
    simp only [readRow, Option.some.injEq, Prod.mk.injEq] at h
    obtain ⟨_, rfl, rfl⟩ := h
    exact ⟨⟨[], rfl⟩, Nat.le_refl _⟩
  | n + 1, room, s, l, s', r, h => by
    rw [readRow] at h
    split at h
    · cases h
    · rename_i x s2 r2 hx
      split at h
      · cases h
      · rename_i l2 s3 r3 hl
        simp only [Option.some.injEq, Prod.mk.injEq] at h
        obtain ⟨_, rfl, rfl⟩ := h
        obtain ⟨⟨p, hp⟩, h1⟩ := readR_suf f room s x s2 r2 hx
        obtain ⟨⟨p2, hp2⟩, h2⟩ := readRow_suf f n r2 s2 l2 _ _ hl
        exact ⟨⟨p ++ p2, by rw [hp, hp2, List.append_assoc]⟩, by omega⟩
theorem drop_suf {s p s' : List UInt8} {a : Nat} (h : s.drop a = p ++ s') : s.drop (s.length - s'.length) = s' ∧ s'.length ≤ s.length := by
  have h2 : s = (s.take a ++ p) ++ s' := by rw [List.append_assoc, ← h, List.take_append_drop]
  have h3 := congrArg List.length h2
  rw [List.length_append] at h3
  refine ⟨?_, by omega⟩
  have h4 : s.length - s'.length = (s.take a ++ p).length := by omega
  rw [h4]
  exact (congrArg (List.drop _) h2).trans List.drop_left
end Go.Proofs.YtfmckibiblhakaaGreatDoor
