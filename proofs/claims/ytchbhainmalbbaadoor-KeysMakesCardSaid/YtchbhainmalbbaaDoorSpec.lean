/- The plain functions that the layer 'term' computes, on lists of bytes. No program stands in this text. -/
import Derived.Test.YtchbhainmalbbaaDoorBase
import Derived.Lib.ItoaNum
namespace Go.Proofs.YtchbhainmalbbaaDoor

/-- A number up to a byte: its value, and how many bytes it takes with that byte. -/
def numGo (e : UInt8) : List UInt8 → Nat → Nat → Option (Nat × Nat)
  | [], _, _ => none
  | c :: r, n, k =>
    if c.toNat = e.toNat ∧ 0 < k then some (n, k + 1)
    else if c.toNat < 48 ∨ 57 < c.toNat ∨ (n = 0 ∧ 0 < k) then none
    else if (9223372036854775807 - (c.toNat - 48)) / 10 < n then none
    else numGo e r (n * 10 + (c.toNat - 48)) (k + 1)

def num (e : UInt8) (l : List UInt8) : Option (Nat × Nat) := numGo e l 0 0

/-- What is read of a term: its op, how many bytes it takes, how deep it is, a name's number or a text's length, a text's bytes, the parts. -/
structure Sh where
  op : UInt8
  len : Nat
  deep : Nat
  n : Nat
  text : List UInt8
  kids : List (List UInt8)

def arity (c : UInt8) : Option Nat :=
  if c = 80 ∨ c = 72 then some 1
  else if c = 83 ∨ c = 66 ∨ c = 88 ∨ c = 68 ∨ c = 86 ∨ c = 87 ∨ c = 75 ∨ c = 76 then some 2 else none

def pubC (c : UInt8) : Bool := c == 80 || c == 87 || c == 76

def leB (a b : List UInt8) : Bool := Op.bytesLess a b || a == b

def head (l : List UInt8) : UInt8 := l.headD 0

def fitsB (c : UInt8) (ks : List (List UInt8)) : Bool :=
  if c = 80 then head (ks.getD 0 []) != 86 && head (ks.getD 0 []) != 75
  else if c = 88 then leB (ks.getD 0 []) (ks.getD 1 [])
  else if c = 87 then pubC (head (ks.getD 0 [])) && pubC (head (ks.getD 1 []))
  else if c = 76 then pubC (head (ks.getD 0 []))
  else true

/-- So many terms one behind the other: the parts, the greatest depth, the bytes. -/
def kidsBy (f : List UInt8 → Option Sh) : Nat → List UInt8 → Option (List (List UInt8) × Nat × Nat)
  | 0, _ => some ([], 0, 0)
  | m + 1, l =>
    match f l with
    | none => none
    | some x =>
      match kidsBy f m (l.drop x.len) with
      | none => none
      | some (ks, dp, len) => some (l.take x.len :: ks, max x.deep dp, x.len + len)

/-- How many parts, and how many bytes say so. -/
def cnt (c : UInt8) (r : List UInt8) : Option (Nat × Nat) :=
  if c = 84 then (match num 58 r with | none => none | some (n, k) => if 32 < n then none else some (n, k))
  else (arity c).map fun n => (n, 0)

def rd : Nat → List UInt8 → Option Sh
  | 0, _ => none
  | _ + 1, [] => none
  | d + 1, c :: r =>
    if c = 110 then (num 59 r).map fun (n, k) => ⟨c, 1 + k, 1, n, [], []⟩
    else if c = 116 then
      match num 58 r with
      | none => none
      | some (n, k) => if 4096 < n ∨ r.length - k < n then none else some ⟨c, 1 + k + n, 1, n, (r.drop k).take n, []⟩
    else
      match cnt c r with
      | none => none
      | some (m, k) =>
        match kidsBy (rd d) m (r.drop k) with
        | none => none
        | some (ks, dp, len) => if fitsB c ks then some ⟨c, 1 + k + len, dp + 1, 0, [], ks⟩ else none

theorem numGo_bound (e : UInt8) : ∀ (l : List UInt8) (m k n c : Nat), m ≤ 9223372036854775807 → numGo e l m k = some (n, c) → k + 1 ≤ c ∧ c ≤ k + l.length ∧ n ≤ 9223372036854775807
  | [], m, k, n, c, _, h => by simp [numGo] at h
  | x :: r, m, k, n, c, hm, h => by
    have hx := x.toNat_lt
    simp only [numGo] at h
    split at h
    · simp only [Option.some.injEq, Prod.mk.injEq] at h
      obtain ⟨rfl, rfl⟩ := h
      simp; omega
    · split at h
      · simp at h
      · split at h
        · simp at h
        · have := numGo_bound e r _ _ n c (by omega) h
          simp; omega
theorem num_bound {e : UInt8} {l : List UInt8} {n c : Nat} (h : num e l = some (n, c)) : 2 ≤ c ∧ c ≤ l.length ∧ n ≤ 9223372036854775807 := by
  have h1 := numGo_bound e l 0 0 n c (by omega) h
  refine ⟨?_, by omega, h1.2.2⟩
  cases l with
  | nil => simp [num, numGo] at h
  | cons x r =>
    simp only [num, numGo] at h
    split at h
    · omega
    · split at h
      · simp at h
      · split at h
        · simp at h
        · have := numGo_bound e r _ _ n c (by have := x.toNat_lt; omega) h
          omega

theorem dec_len (k : Nat) : ∀ n : Nat, n < 10 ^ (k + 1) → (Lib.decDigits n).length ≤ k + 1 := by
  induction k with
  | zero => intro n h; rw [Lib.decDigits_length, Lib.nDigits_small (by simpa using h)]; omega
  | succ k ih =>
    intro n h
    by_cases h1 : n < 10
    · rw [Lib.decDigits_length, Lib.nDigits_small h1]; omega
    · have := ih (n / 10) (by rw [Nat.pow_succ] at h; omega)
      rw [Lib.decDigits_length] at *
      rw [Lib.nDigits_big h1]; omega
theorem dec_len20 (n : Nat) (h : n ≤ 18446744073709551615) : (Lib.decDigits n).length ≤ 20 := dec_len 19 n (by
  have : (10 : Nat) ^ (19 + 1) = 100000000000000000000 := by decide
  omega)
theorem dec_pos (n : Nat) : 1 ≤ (Lib.decDigits n).length := by rw [Lib.decDigits_length]; exact Lib.nDigits_pos n

/-! What was read lies within the text. -/
def sumL : List (List UInt8) → Nat
  | [] => 0
  | k :: ks => k.length + sumL ks

def ShOk (d : Nat) (l : List UInt8) (x : Sh) : Prop := 1 ≤ x.len ∧ x.len ≤ l.length ∧ 1 ≤ x.deep ∧ x.deep ≤ d ∧ x.op = head l

theorem kidsBy_ok {f : List UInt8 → Option Sh} {d : Nat} (hf : ∀ l x, f l = some x → ShOk d l x) : ∀ (m : Nat) (l : List UInt8) (ks : List (List UInt8)) (dp len : Nat),
    kidsBy f m l = some (ks, dp, len) → ks.length = m ∧ len = sumL ks ∧ len ≤ l.length ∧ dp ≤ d ∧ (∀ k ∈ ks, k ≠ [])
  | 0, l, ks, dp, len, h => by
    simp only [kidsBy, Option.some.injEq, Prod.mk.injEq] at h
    obtain ⟨rfl, rfl, rfl⟩ := h
    simp [sumL]
  | m + 1, l, ks, dp, len, h => by
    simp only [kidsBy] at h
    split at h
    · simp at h
    · rename_i x hx
      have h1 := hf _ _ hx
      unfold ShOk at h1
      split at h
      · simp at h
      · rename_i ks' dp' len' hk
        have h2 := kidsBy_ok hf m _ _ _ _ hk
        simp only [Option.some.injEq, Prod.mk.injEq] at h
        obtain ⟨rfl, rfl, rfl⟩ := h
        rw [List.length_drop] at h2
        refine ⟨by simp [h2.1], ?_, by omega, Nat.max_le.2 ⟨by omega, by omega⟩, ?_⟩
        · simp only [sumL, List.length_take]; omega
        · intro k hk
          rcases List.mem_cons.1 hk with rfl | hk
          · intro e; have h3 := congrArg List.length e; rw [List.length_take, List.length_nil] at h3; omega
          · exact h2.2.2.2.2 k hk

theorem cnt_bound {c : UInt8} {r : List UInt8} {m k : Nat} (h : cnt c r = some (m, k)) : m ≤ 32 ∧ k ≤ r.length := by
  simp only [cnt] at h
  split at h
  · split at h
    · simp at h
    · rename_i hn
      have := num_bound hn
      split at h
      · simp at h
      · simp at h; omega
  · simp only [arity] at h
    split at h
    · simp at h; omega
    · split at h
      · simp at h; omega
      · simp at h

theorem rd_ok : ∀ (d : Nat) (l : List UInt8) (x : Sh), rd d l = some x → ShOk d l x
  | 0, _, _, h => by simp [rd] at h
  | _ + 1, [], _, h => by simp [rd] at h
  | d + 1, c :: r, x, h => by
    unfold ShOk
    simp only [rd] at h
    split at h
    · cases hn : num 59 r with
      | none => simp [hn] at h
      | some y =>
        have := num_bound hn
        simp only [hn, Option.map_some, Option.some.injEq] at h
        subst h
        simp [head]; omega
    · split at h
      · split at h
        · simp at h
        · rename_i hn
          have := num_bound hn
          split at h
          · simp at h
          · simp only [Option.some.injEq] at h
            subst h
            simp [head]; omega
      · split at h
        · simp at h
        · rename_i m k hc
          have hcb := cnt_bound hc
          split at h
          · simp at h
          · rename_i ks dp len hk
            have h2 := kidsBy_ok (rd_ok d) m _ _ _ _ hk
            rw [List.length_drop] at h2
            split at h
            · simp only [Option.some.injEq] at h
              subst h
              simp [head]; omega
            · simp at h

end Go.Proofs.YtchbhainmalbbaaDoor
