/- Locks, plain: the scanner of a term ahead of a text. -/
import Derived.Test.YtfmckibiblhakaaGreatDoorLockQ
import Derived.Test.YtfmckibiblhakaaGreatDoorMSpec
import Derived.Lib.AtoiAll
set_option linter.unusedSimpArgs false
set_option linter.unusedVariables false
namespace Go.Proofs.YtfmckibiblhakaaGreatDoor
open Go.RowKit

/-- One step of the scanner: how many bytes, how many terms have to end yet. -/
def stepT (m : Nat) (c : UInt8) (r : List UInt8) : Option (Nat × Nat) :=
  if c = 110 ∨ c = 116 ∨ c = 84 then
    (if (if c = 110 then (59 : UInt8) else 58) ∈ r then
      (if (r.takeWhile (· != (if c = 110 then (59 : UInt8) else 58))).length < 1 ∨ 19 < (r.takeWhile (· != (if c = 110 then (59 : UInt8) else 58))).length then none
       else if c = 110 then some ((r.takeWhile (· != (if c = 110 then (59 : UInt8) else 58))).length + 2, m)
       else match Lib.atoiAll (r.takeWhile (· != (if c = 110 then (59 : UInt8) else 58))) with
        | .ok n => if n < 0 ∨ 4096 < n then none else if c = 116 then some ((r.takeWhile (· != (if c = 110 then (59 : UInt8) else 58))).length + 2 + n.toNat, m) else some ((r.takeWhile (· != (if c = 110 then (59 : UInt8) else 58))).length + 2, m + n.toNat)
        | _ => none)
     else none)
  else if c = 80 ∨ c = 72 then some (1, m + 1) else some (1, m + 2)
def scanT : Nat → Nat → List UInt8 → Option Nat
  | _, 0, _ => some 0
  | 0, _ + 1, _ => none
  | _ + 1, _ + 1, [] => none
  | f + 1, m + 1, c :: r => match stepT m c r with
    | none => none
    | some (k, m') => if r.length + 1 < k then none else (scanT f m' ((c :: r).drop k)).map (· + k)
def scan (m : Nat) (l : List UInt8) : Option Nat := scanT l.length m l
def cutP (s : List UInt8) : Option (List UInt8 × List UInt8) := (scan 1 s).map fun k => (s.take k, s.drop k)
theorem cutP_back (s t r : List UInt8) (h : cutP s = some (t, r)) : s = t ++ r := by
  unfold cutP at h
  cases hq : scan 1 s with
  | none => rw [hq] at h; cases h
  | some k =>
    rw [hq] at h
    simp only [Option.map_some, Option.some.injEq, Prod.mk.injEq] at h
    rw [← h.1, ← h.2, List.take_append_drop]
theorem step_pos {m : Nat} {c : UInt8} {r : List UInt8} {k m' : Nat} (h : stepT m c r = some (k, m')) : 1 ≤ k := by
  unfold stepT at h
  repeat' split at h
  all_goals first | (cases h; done) | (simp only [Option.some.injEq, Prod.mk.injEq] at h; omega)
theorem scanT_fuel : ∀ (f f' m : Nat) (l : List UInt8), l.length ≤ f → l.length ≤ f' → scanT f m l = scanT f' m l
  | f, f', 0, l, _, _ => by
    cases f <;> cases f' <;> simp [scanT]
  | 0, f', m + 1, l, h, _ => by
    obtain rfl := List.eq_nil_of_length_eq_zero (by omega : l.length = 0)
    cases f' <;> simp [scanT]
  | f + 1, 0, m + 1, l, _, h => by
    obtain rfl := List.eq_nil_of_length_eq_zero (by omega : l.length = 0)
    simp [scanT]
  | f + 1, f' + 1, m + 1, [], _, _ => by simp [scanT]
  | f + 1, f' + 1, m + 1, c :: r, h, h' => by
    simp only [scanT]
    cases hs : stepT m c r with
    | none => rfl
    | some y =>
      obtain ⟨k, m'⟩ := y
      have := step_pos hs
      simp only [List.length_cons] at h h'
      simp only
      rw [scanT_fuel f f' m' _ (by simp; omega) (by simp; omega)]
theorem scan_step {m : Nat} {c : UInt8} {r : List UInt8} {k m' : Nat} (hs : stepT m c r = some (k, m')) (hk : k ≤ r.length + 1) : scan (m + 1) (c :: r) = (scan m' ((c :: r).drop k)).map (· + k) := by
  have := step_pos hs
  unfold scan
  rw [List.length_cons, scanT, hs]
  simp only
  rw [if_neg (by omega), scanT_fuel r.length ((c :: r).drop k).length m' _ (by simp; omega) (Nat.le_refl _)]
theorem scan_zero (l : List UInt8) : scan 0 l = some 0 := by unfold scan; cases l.length <;> simp [scanT]

theorem numGo_scan (e : UInt8) (he : isDg e = false) : ∀ (l : List UInt8) (m j n c : Nat), numGo e l m j = some (n, c) →
    ∃ p q, l = p ++ e :: q ∧ p.all isDg = true ∧ c = j + p.length + 1 ∧ p.foldl (fun n c => n * 10 + (c.toNat - 48)) m = n ∧ (m = 0 ∧ 0 < j → p = [])
  | [], m, j, n, c, h => by simp [numGo] at h
  | a :: r, m, j, n, c, h => by
    simp only [numGo] at h
    split at h
    · rename_i hh
      simp only [Option.some.injEq, Prod.mk.injEq] at h
      refine ⟨[], r, ?_, rfl, by simp; omega, by simpa using h.1, fun _ => rfl⟩
      rw [List.nil_append, UInt8.toNat_inj.1 hh.1]
    · split at h
      · cases h
      · rename_i h2
        split at h
        · cases h
        · obtain ⟨p, q, e1, e2, e3, e4, e5⟩ := numGo_scan e he r _ _ n c h
          refine ⟨a :: p, q, by rw [e1]; rfl, ?_, by simp; omega, by simpa using e4, fun hz => ?_⟩
          · rw [List.all_cons, e2, Bool.and_true]
            simp [isDg]; omega
          · omega
theorem fold_le : ∀ (p : List UInt8) (m : Nat), m ≤ p.foldl (fun n c => n * 10 + (c.toNat - 48)) m
  | [], m => by simp
  | a :: p, m => by
    have := fold_le p (m * 10 + (a.toNat - 48))
    simp only [List.foldl_cons]
    omega
theorem parse_fold : ∀ (p : List UInt8) (m : Nat), p.all isDg = true → p.foldl (fun n c => n * 10 + (c.toNat - 48)) m ≤ 9223372036854775807 → Lib.parseUint10 m p = .ok (p.foldl (fun n c => n * 10 + (c.toNat - 48)) m)
  | [], m, _, _ => rfl
  | a :: p, m, ha, hb => by
    rw [List.all_cons, Bool.and_eq_true] at ha
    have hd : 48 ≤ a.toNat ∧ a.toNat ≤ 57 := by simpa [isDg] using ha.1
    have h1 := fold_le p (m * 10 + (a.toNat - 48))
    simp only [List.foldl_cons] at hb ⊢
    rw [Lib.parseUint10, if_pos hd, if_neg (by omega), if_neg (by omega)]
    exact parse_fold p _ ha.2 hb
theorem num_scan {e : UInt8} (he : isDg e = false) {l : List UInt8} {n c : Nat} (h : num e l = some (n, c)) :
    e ∈ l ∧ l.takeWhile (· != e) = l.take (c - 1) ∧ (l.takeWhile (· != e)).length = c - 1 ∧ 1 ≤ c - 1 ∧ c - 1 ≤ 19 ∧ Lib.atoiAll (l.takeWhile (· != e)) = .ok (n : Int) := by
  have hb := num_bound h
  obtain ⟨p, q, rfl, h2, h3, h4, _⟩ := numGo_scan e he l 0 0 n c h
  rw [takeWhile_dec e he p q h2]
  have hv : decV p = n := h4
  have hz : p.length ≤ 1 ∨ head p ≠ 48 := by
    cases p with
    | nil => exact .inl (by simp)
    | cons a p =>
      by_cases ha : a = 48
      · left
        subst ha
        unfold num at h
        rw [List.cons_append] at h
        simp only [numGo] at h
        split at h
        · omega
        · split at h
          · cases h
          · split at h
            · cases h
            · obtain ⟨p', q', g1, g2, g3, _, g5⟩ := numGo_scan e he _ _ _ n c h
              have h0 := g5 ⟨by decide, by omega⟩
              subst h0
              have hle := congrArg List.length g1
              simp only [List.length_nil, List.length_cons, List.length_append, List.nil_append] at g3 h3 hle ⊢
              omega
      · right; exact ha
  have hne : p ≠ [] := fun h => by subst h; simp at h3; omega
  obtain ⟨d1, _, _⟩ := dec_back p _ rfl hne h2 hz
  have hl : p.length ≤ 19 := by
    have := dec_len 18 n (by omega)
    rw [← hv, d1] at this
    exact this
  have hu : Lib.parseUint10 0 p = .ok n := by
    have h5 := parse_fold p 0 h2 (by rw [h4]; omega)
    rw [h5, h4]
  refine ⟨by simp, by rw [h3]; simp, by omega, by omega, by omega, ?_⟩
  cases p with
  | nil => exact absurd rfl hne
  | cons a p =>
    rw [List.all_cons, Bool.and_eq_true] at h2
    have hd : 48 ≤ a.toNat ∧ a.toNat ≤ 57 := by simpa [isDg] using h2.1
    unfold Lib.atoiAll
    simp only
    rw [if_neg (by omega)]
    unfold Lib.parseMag
    rw [if_neg (by simp), hu]
    simp only
    rw [if_neg (by omega), if_neg (by omega), if_neg (by omega)]
theorem scan_kids {f : List UInt8 → Option Sh} (hf : ∀ (l : List UInt8) (x : Sh) (m : Nat), f l = some x → scan (m + 1) l = (scan m (l.drop x.len)).map (· + x.len)) :
    ∀ (k : Nat) (l : List UInt8) (ks : List (List UInt8)) (dp len m : Nat), kidsBy f k l = some (ks, dp, len) → scan (m + k) l = (scan m (l.drop len)).map (· + len)
  | 0, l, ks, dp, len, m, h => by
    simp only [kidsBy, Option.some.injEq, Prod.mk.injEq] at h
    obtain ⟨_, _, rfl⟩ := h
    simp
  | k + 1, l, ks, dp, len, m, h => by
    rw [kidsBy] at h
    cases hx : f l with
    | none => rw [hx] at h; cases h
    | some x =>
      rw [hx] at h
      simp only at h
      cases hk : kidsBy f k (l.drop x.len) with
      | none => rw [hk] at h; cases h
      | some y =>
        obtain ⟨ks', dp', len'⟩ := y
        rw [hk] at h
        simp only [Option.some.injEq, Prod.mk.injEq] at h
        obtain ⟨_, _, rfl⟩ := h
        rw [← Nat.add_assoc, hf l x (m + k) hx, scan_kids hf k _ ks' dp' len' m hk, List.drop_drop]
        cases scan m (List.drop (x.len + len') l) with
        | none => rfl
        | some z => simp; omega
/-- The scanner goes past a term that can be read. -/
theorem scan_rd : ∀ (d : Nat) (l : List UInt8) (x : Sh) (m : Nat), rd d l = some x → scan (m + 1) l = (scan m (l.drop x.len)).map (· + x.len)
  | 0, l, x, m, h => by simp [rd] at h
  | d + 1, [], x, m, h => by simp [rd] at h
  | d + 1, c :: r, x, m, h => by
    have hok := rd_ok _ _ _ h
    have hlen : x.len ≤ r.length + 1 := by have := hok.2.1; simpa using this
    rw [rd] at h
    by_cases h1 : c = 110
    · rw [if_pos h1] at h
      cases hn : num 59 r with
      | none => rw [hn] at h; cases h
      | some y =>
        obtain ⟨n, k⟩ := y
        rw [hn] at h
        simp only [Option.map_some, Option.some.injEq] at h
        subst h
        obtain ⟨g1, g2, g3, g4, g5, g6⟩ := num_scan (by decide) hn
        have hs : stepT m c r = some (1 + k, m) := by
          unfold stepT
          rw [if_pos (.inl h1)]
          simp only [h1, if_true]
          rw [if_pos g1, if_neg (by omega), g3]
          simp only [Option.some.injEq, Prod.mk.injEq, and_true]
          omega
        exact scan_step hs (by simpa using hlen)
    rw [if_neg h1] at h
    by_cases h2 : c = 116
    · rw [if_pos h2] at h
      cases hn : num 58 r with
      | none => rw [hn] at h; cases h
      | some y =>
        obtain ⟨n, k⟩ := y
        rw [hn] at h
        simp only at h
        split at h
        · cases h
        · rename_i hle
          simp only [Option.some.injEq] at h
          subst h
          obtain ⟨g1, g2, g3, g4, g5, g6⟩ := num_scan (by decide) hn
          have hs : stepT m c r = some (1 + k + n, m) := by
            unfold stepT
            rw [if_pos (.inr (.inl h2))]
            simp only [h1, if_false]
            rw [if_pos g1, if_neg (by omega), g6]
            simp only
            rw [if_neg (by omega), if_pos h2, g3]
            simp only [Option.some.injEq, Prod.mk.injEq, and_true]
            omega
          exact scan_step hs (by simpa using hlen)
    rw [if_neg h2] at h
    cases hc : cnt c r with
    | none => rw [hc] at h; cases h
    | some y =>
      obtain ⟨n, k⟩ := y
      rw [hc] at h
      simp only at h
      cases hk : kidsBy (rd d) n (r.drop k) with
      | none => rw [hk] at h; cases h
      | some y =>
        obtain ⟨ks, dp, len⟩ := y
        rw [hk] at h
        simp only at h
        split at h
        · simp only [Option.some.injEq] at h
          subst h
          simp only at hlen
          have hs : stepT m c r = some (1 + k, m + n) := by
            unfold cnt at hc
            by_cases h3 : c = 84
            · rw [if_pos h3] at hc
              cases hn : num 58 r with
              | none => rw [hn] at hc; cases hc
              | some y =>
                obtain ⟨n', k'⟩ := y
                rw [hn] at hc
                simp only at hc
                split at hc
                · cases hc
                · simp only [Option.some.injEq, Prod.mk.injEq] at hc
                  obtain ⟨rfl, rfl⟩ := hc
                  obtain ⟨g1, g2, g3, g4, g5, g6⟩ := num_scan (by decide) hn
                  unfold stepT
                  rw [if_pos (.inr (.inr h3))]
                  simp only [h1, if_false]
                  rw [if_pos g1, if_neg (by omega), g6]
                  simp only
                  rw [if_neg (by omega), if_neg h2, g3]
                  simp only [Option.some.injEq, Prod.mk.injEq]
                  omega
            · rw [if_neg h3] at hc
              cases ha : arity c with
              | none => rw [ha] at hc; cases hc
              | some v =>
                rw [ha] at hc
                simp only [Option.map_some, Option.some.injEq, Prod.mk.injEq] at hc
                obtain ⟨rfl, rfl⟩ := hc
                unfold stepT
                rw [if_neg (by simp [h1, h2, h3])]
                unfold arity at ha
                split at ha
                · rename_i h4
                  obtain rfl := Option.some.inj ha
                  rw [if_pos h4]
                · rename_i h4
                  split at ha
                  · obtain rfl := Option.some.inj ha
                    rw [if_neg h4]
                  · cases ha
          rw [scan_step hs (by omega), show (c :: r).drop (1 + k) = r.drop k by rw [Nat.add_comm]; rfl, scan_kids (fun l x m => scan_rd d l x m) n (r.drop k) ks dp len m hk, List.drop_drop,
            show (c :: r).drop (1 + k + len) = r.drop (k + len) by rw [show 1 + k + len = (k + len) + 1 by omega]; rfl]
          cases scan m (List.drop (k + len) r) with
          | none => rfl
          | some z => simp; omega
        · cases h
theorem cutP_ok (t r : List UInt8) (h : pubB t = true ∨ hashB t = true) : cutP (t ++ r) = some (t, r) := by
  have hr : right t = true := by
    rcases h with h | h
    · unfold pubB at h; rw [Bool.and_eq_true] at h; exact h.1
    · unfold hashB at h; rw [Bool.and_eq_true] at h; exact h.1
  obtain ⟨⟨x, hx, hl⟩, _⟩ := right_rtD hr
  have h1 := rd_ext 64 t x r hx
  have h2 := scan_rd 64 (t ++ r) x 0 h1
  rw [scan_zero, hl] at h2
  simp only [Option.map_some, Nat.zero_add] at h2
  unfold cutP
  rw [show scan 1 (t ++ r) = some t.length from h2]
  simp
end Go.Proofs.YtfmckibiblhakaaGreatDoor
