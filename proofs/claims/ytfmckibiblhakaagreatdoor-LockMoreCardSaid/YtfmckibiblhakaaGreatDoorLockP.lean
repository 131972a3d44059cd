/- Locks, plain: what a lock is, how it lies in memory, when it is right, how it is written, when it opens, its keys. -/
import Derived.Test.YtfmckibiblhakaaGreatDoorMSpec
set_option linter.unusedSimpArgs false
set_option linter.unusedVariables false
namespace Go.Proofs.YtfmckibiblhakaaGreatDoor
open Go.RowKit

/-- A lock. -/
inductive LT where
  | mk (k : Int) (t : List UInt8) (n : Int) (kids : List LT)

namespace LT
def k : LT → Int | mk k _ _ _ => k
def t : LT → List UInt8 | mk _ t _ _ => t
def n : LT → Int | mk _ _ n _ => n
def kids : LT → List LT | mk _ _ _ l => l
end LT

mutual
/-- A lock's value in a world; every block that it stands on is one of p. -/
def LockIn (p : Nat → Prop) (w : World) : LT → Value → Prop
  | .mk k t n kids, v => (0 ≤ k ∧ k ≤ 255) ∧ (-9223372036854775808 ≤ n ∧ n ≤ 9223372036854775807) ∧ t.length ≤ 9000000000000000000 ∧ kids.length ≤ 9000000000000000000 ∧
      ∃ ks, v = .agg #[.int .u8 k, .string (bs t), .int .i64 n, ks] ∧
        ((∃ (ad : Option Addr) (c : Nat), ks = .slice ad 0 c ∧ kids = []) ∨ ∃ (b o c : Nat), ks = .slice (some ⟨b, o, none⟩) kids.length c ∧ b < w.heap.size ∧ p b ∧ RowIn p w kids b o)
/-- Locks one behind the other in a block's cells. -/
def RowIn (p : Nat → Prop) (w : World) : List LT → Nat → Nat → Prop
  | [], _, _ => True
  | x :: r, b, o => (∃ c0 c1 c2 c3 : Value, LockIn p w x (.agg #[c0, c1, c2, c3]) ∧ w.cell? ⟨b, o, none⟩ = some c0 ∧ w.cell? ⟨b, o + 1, none⟩ = some c1 ∧ w.cell? ⟨b, o + 2, none⟩ = some c2 ∧ w.cell? ⟨b, o + 3, none⟩ = some c3) ∧ RowIn p w r b (o + 4)
end

/-- The blocks of p stay. -/
def Stay (p : Nat → Prop) (w w' : World) : Prop := w.heap.size ≤ w'.heap.size ∧ ∀ b, b < w.heap.size → p b → w'.heap[b]? = w.heap[b]?
mutual
theorem lockIn_stay {p q : Nat → Prop} {w w' : World} (hg : Stay p w w') (hq : ∀ b, b < w.heap.size → p b → q b) : ∀ (x : LT) (v : Value), LockIn p w x v → LockIn q w' x v
  | .mk k t n kids, v, h => by
    unfold LockIn at h ⊢
    obtain ⟨h1, h2, h3, h4, ks, h5, h6⟩ := h
    refine ⟨h1, h2, h3, h4, ks, h5, ?_⟩
    rcases h6 with h | ⟨b, o, c, e, hb, hp, hr⟩
    · exact .inl h
    · exact .inr ⟨b, o, c, e, Nat.lt_of_lt_of_le hb hg.1, hq b hb hp, rowIn_stay hg hq kids b o hb hp hr⟩
theorem rowIn_stay {p q : Nat → Prop} {w w' : World} (hg : Stay p w w') (hq : ∀ b, b < w.heap.size → p b → q b) : ∀ (l : List LT) (b o : Nat), b < w.heap.size → p b → RowIn p w l b o → RowIn q w' l b o
  | [], _, _, _, _, _ => by unfold RowIn; trivial
  | x :: r, b, o, hb, hp, h => by
    unfold RowIn at h ⊢
    obtain ⟨⟨c0, c1, c2, c3, hx, g0, g1, g2, g3⟩, hr⟩ := h
    have hc : ∀ j, w'.cell? ⟨b, j, none⟩ = w.cell? ⟨b, j, none⟩ := fun j => by simp only [World.cell?, hg.2 b hb hp]
    exact ⟨⟨c0, c1, c2, c3, lockIn_stay hg hq x _ hx, by rw [hc]; exact g0, by rw [hc]; exact g1, by rw [hc]; exact g2, by rw [hc]; exact g3⟩, rowIn_stay hg hq r b (o + 4) hb hp hr⟩
end
mutual
theorem lockIn_mono {p q : Nat → Prop} {w : World} (hq : ∀ b, b < w.heap.size → p b → q b) : ∀ (x : LT) (v : Value), LockIn p w x v → LockIn q w x v
  | .mk k t n kids, v, h => by
    unfold LockIn at h ⊢
    obtain ⟨h1, h2, h3, h4, ks, h5, h6⟩ := h
    refine ⟨h1, h2, h3, h4, ks, h5, ?_⟩
    rcases h6 with h | ⟨b, o, c, e, hb, hp, hr⟩
    · exact .inl h
    · exact .inr ⟨b, o, c, e, hb, hq b hb hp, rowIn_mono hq kids b o hr⟩
theorem rowIn_mono {p q : Nat → Prop} {w : World} (hq : ∀ b, b < w.heap.size → p b → q b) : ∀ (l : List LT) (b o : Nat), RowIn p w l b o → RowIn q w l b o
  | [], _, _, _ => by unfold RowIn; trivial
  | x :: r, b, o, h => by
    unfold RowIn at h ⊢
    obtain ⟨⟨c0, c1, c2, c3, hx, g⟩, hr⟩ := h
    exact ⟨⟨c0, c1, c2, c3, lockIn_mono hq x _ hx, g⟩, rowIn_mono hq r b (o + 4) hr⟩
end
theorem lockIn_gl {p : Nat → Prop} {w w' : World} (hg : GL [] w w') (x : LT) (v : Value) (h : LockIn p w x v) : LockIn p w' x v :=
  lockIn_stay ⟨hg.size, fun b hb _ => hg.block b hb (by simp)⟩ (fun _ _ h => h) x v h
theorem rowIn_gl {p : Nat → Prop} {w w' : World} (hg : GL [] w w') (l : List LT) (b o : Nat) (hb : b < w.heap.size) (hp : p b) (h : RowIn p w l b o) : RowIn p w' l b o :=
  rowIn_stay ⟨hg.size, fun b hb _ => hg.block b hb (by simp)⟩ (fun _ _ h => h) l b o hb hp h
/-- The i-th lock of a row. -/
theorem rowIn_get {p : Nat → Prop} {w : World} : ∀ (l : List LT) (b o i : Nat) (x : LT), RowIn p w l b o → l[i]? = some x →
    ∃ c0 c1 c2 c3 : Value, LockIn p w x (.agg #[c0, c1, c2, c3]) ∧ w.cell? ⟨b, o + i * 4, none⟩ = some c0 ∧ w.cell? ⟨b, o + i * 4 + 1, none⟩ = some c1 ∧ w.cell? ⟨b, o + i * 4 + 2, none⟩ = some c2 ∧ w.cell? ⟨b, o + i * 4 + 3, none⟩ = some c3
  | [], _, _, i, _, _, h => by simp at h
  | y :: r, b, o, 0, x, hr, h => by
    unfold RowIn at hr
    simp at h
    subst h
    simpa using hr.1
  | y :: r, b, o, i + 1, x, hr, h => by
    unfold RowIn at hr
    have := rowIn_get r b (o + 4) i x hr.2 (by simpa using h)
    simpa [show o + 4 + i * 4 = o + (i + 1) * 4 by omega] using this
/-- The cells of locks one behind the other. -/
def RowV (p : Nat → Prop) (w : World) : List LT → List Value → Prop
  | [], cs => cs = []
  | x :: r, cs => ∃ c0 c1 c2 c3 cs', cs = c0 :: c1 :: c2 :: c3 :: cs' ∧ LockIn p w x (.agg #[c0, c1, c2, c3]) ∧ RowV p w r cs'
theorem rowV_stay {p q : Nat → Prop} {w w' : World} (hg : Stay p w w') (hq : ∀ b, b < w.heap.size → p b → q b) : ∀ (l : List LT) (cs : List Value), RowV p w l cs → RowV q w' l cs
  | [], cs, h => h
  | x :: r, cs, h => by
    obtain ⟨c0, c1, c2, c3, cs', rfl, h1, h2⟩ := h
    exact ⟨c0, c1, c2, c3, cs', rfl, lockIn_stay hg hq x _ h1, rowV_stay hg hq r cs' h2⟩
theorem rowV_snoc {p : Nat → Prop} {w : World} {x : LT} {c0 c1 c2 c3 : Value} (hx : LockIn p w x (.agg #[c0, c1, c2, c3])) : ∀ (l : List LT) (cs : List Value), RowV p w l cs → RowV p w (l ++ [x]) (cs ++ [c0, c1, c2, c3])
  | [], cs, h => by
    have : cs = [] := h
    subst this
    exact ⟨c0, c1, c2, c3, [], rfl, hx, rfl⟩
  | y :: r, cs, h => by
    obtain ⟨d0, d1, d2, d3, cs', rfl, h1, h2⟩ := h
    exact ⟨d0, d1, d2, d3, cs' ++ [c0, c1, c2, c3], rfl, h1, rowV_snoc hx r cs' h2⟩
theorem rowV_len {p : Nat → Prop} {w : World} : ∀ (l : List LT) (cs : List Value), RowV p w l cs → cs.length = l.length * 4
  | [], cs, h => by
    have : cs = [] := h
    subst this; rfl
  | x :: r, cs, h => by
    obtain ⟨c0, c1, c2, c3, cs', rfl, h1, h2⟩ := h
    have := rowV_len r cs' h2
    simp [this]; omega
theorem rowV_in {p : Nat → Prop} {w : World} {b : Nat} : ∀ (l : List LT) (cs : List Value) (o : Nat), RowV p w l cs → (∀ j v, cs[j]? = some v → w.cell? ⟨b, o + j, none⟩ = some v) → RowIn p w l b o
  | [], cs, o, _, _ => by unfold RowIn; trivial
  | x :: r, cs, o, h, hc => by
    obtain ⟨c0, c1, c2, c3, cs', rfl, h1, h2⟩ := h
    unfold RowIn
    refine ⟨⟨c0, c1, c2, c3, h1, by simpa using hc 0 c0 rfl, hc 1 c1 rfl, hc 2 c2 rfl, hc 3 c3 rfl⟩, rowV_in r cs' (o + 4) h2 fun j v hj => ?_⟩
    have := hc (j + 4) v (by simpa using hj)
    rwa [show o + (j + 4) = o + 4 + j by omega] at this
theorem rowIn_v {p : Nat → Prop} {w : World} {b : Nat} : ∀ (l : List LT) (o : Nat), RowIn p w l b o → ∃ cs, RowV p w l cs ∧ ∀ j v, cs[j]? = some v → w.cell? ⟨b, o + j, none⟩ = some v
  | [], o, _ => ⟨[], rfl, by simp⟩
  | x :: r, o, h => by
    unfold RowIn at h
    obtain ⟨⟨c0, c1, c2, c3, hx, g0, g1, g2, g3⟩, hr⟩ := h
    obtain ⟨cs, h1, h2⟩ := rowIn_v r (o + 4) hr
    refine ⟨c0 :: c1 :: c2 :: c3 :: cs, ⟨c0, c1, c2, c3, cs, rfl, hx, h1⟩, fun j v hj => ?_⟩
    match j with
    | 0 => simp at hj; subst hj; simpa using g0
    | 1 => simp at hj; subst hj; exact g1
    | 2 => simp at hj; subst hj; exact g2
    | 3 => simp at hj; subst hj; exact g3
    | j + 4 =>
      have := h2 j v (by simpa using hj)
      rwa [show o + 4 + j = o + (j + 4) by omega] at this
/-- A lock's parts, as cells hold them. -/
theorem lockIn_open {p : Nat → Prop} {w : World} {k n : Int} {t : List UInt8} {kids : List LT} {v : Value} (h : LockIn p w (.mk k t n kids) v) :
    ∃ (ad : Option Addr) (c : Nat), v = .agg #[.int .u8 k, .string (bs t), .int .i64 n, .slice ad kids.length c] ∧ (0 ≤ k ∧ k ≤ 255) ∧ (-9223372036854775808 ≤ n ∧ n ≤ 9223372036854775807) ∧ t.length ≤ 9000000000000000000 ∧ kids.length ≤ 9000000000000000000 ∧
      (kids = [] ∨ ∃ b o, ad = some ⟨b, o, none⟩ ∧ b < w.heap.size ∧ p b ∧ RowIn p w kids b o) := by
  unfold LockIn at h
  obtain ⟨h1, h2, h3, h4, ks, rfl, h6⟩ := h
  rcases h6 with ⟨ad, c, rfl, rfl⟩ | ⟨b, o, c, rfl, hb, hp, hr⟩
  · exact ⟨ad, c, rfl, h1, h2, h3, h4, .inl rfl⟩
  · exact ⟨_, c, rfl, h1, h2, h3, h4, .inr ⟨b, o, rfl, hb, hp, hr⟩⟩

/-- A lock's cells have their shapes. -/
theorem lockIn_cells {p : Nat → Prop} {w : World} {x : LT} {u0 u1 u2 u3 : Value} (h : LockIn p w x (.agg #[u0, u1, u2, u3])) :
    ∃ (k n : Int) (t : List UInt8) (ad : Option Addr) (m c : Nat), u0 = .int .u8 k ∧ u1 = .string (bs t) ∧ u2 = .int .i64 n ∧ u3 = .slice ad m c := by
  obtain ⟨k, t, n, kids⟩ := x
  obtain ⟨ad, c, e, _⟩ := lockIn_open h
  injection e with e
  have e := congrArg Array.toList e
  simp only [List.cons.injEq, and_true] at e
  exact ⟨k, n, t, ad, _, c, e.1, e.2.1, e.2.2.1, e.2.2.2⟩

/-- What stands in one lock, its kids aside: may it? -/
def bareR (k : Int) (t : List UInt8) (n : Int) (m : Nat) (pub hsh : Bool) : Bool :=
  if k = 1 then decide (n = 0) && decide (m = 0) && pub
  else if k = 2 then decide (n = 0) && decide (m = 0) && hsh
  else if k = 3 ∨ k = 4 then decide (t = []) && decide (m = 0) && decide (0 ≤ n) && decide (n < 1073741824)
  else if k = 5 ∨ k = 6 then decide (t = []) && decide (n = 0) && decide (0 < m) && decide (m ≤ 8)
  else false
/-- A term is right, and its first letter is one of a public key's. -/
def pubB (t : List UInt8) : Bool := right t && (match t with | c :: _ => c == 80 || c == 87 || c == 76 | [] => false)
def hashB (t : List UInt8) : Bool := right t && (match t with | c :: _ => c == 72 | [] => false)

mutual
/-- The program's count: how many parts may be left behind a lock; below 0: none. -/
def partsL : LT → Int → Int
  | .mk k t n kids, room => if room - 1 < 0 then -1 else if bareR k t n kids.length (pubB t) (hashB t) then partsRow kids (room - 1) else -1
def partsRow : List LT → Int → Int
  | [], room => room
  | x :: r, room => if partsL x room < 0 then -1 else partsRow r (partsL x room)
end
mutual
def countL : LT → Int
  | .mk _ _ _ kids => 1 + countRow kids
def countRow : List LT → Int
  | [] => 0
  | x :: r => countL x + countRow r
end
mutual
def rightsL : LT → Bool
  | .mk k t n kids => bareR k t n kids.length (pubB t) (hashB t) && rightsRow kids
def rightsRow : List LT → Bool
  | [] => true
  | x :: r => rightsL x && rightsRow r
end
def rightL (x : LT) : Bool := decide (countL x ≤ 64) && rightsL x

mutual
theorem count_pos : ∀ x : LT, 1 ≤ countL x
  | .mk _ _ _ kids => by unfold countL; have := count_pos_row kids; omega
theorem count_pos_row : ∀ l : List LT, 0 ≤ countRow l
  | [] => by unfold countRow; omega
  | x :: r => by unfold countRow; have := count_pos x; have := count_pos_row r; omega
end
mutual
/-- What the program counts is what the document asks. -/
theorem parts_is : ∀ (x : LT) (room : Int), partsL x room = if countL x ≤ room ∧ rightsL x = true then room - countL x else -1
  | .mk k t n kids, room => by
    unfold partsL countL rightsL
    have hp := count_pos_row kids
    by_cases h : room - 1 < 0
    · rw [if_pos h, if_neg (by omega)]
    · rw [if_neg h]
      by_cases hb : bareR k t n kids.length (pubB t) (hashB t) = true
      · rw [if_pos hb, parts_is_row kids (room - 1) (by omega), hb, Bool.true_and]
        by_cases hr : rightsRow kids = true
        · by_cases hc : countRow kids ≤ room - 1
          · rw [if_pos ⟨hc, hr⟩, if_pos ⟨by omega, hr⟩]; omega
          · rw [if_neg (by omega), if_neg (by omega)]
        · rw [if_neg (fun h => hr h.2), if_neg (fun h => hr h.2)]
      · rw [if_neg hb, if_neg]
        simp [hb]
theorem parts_is_row : ∀ (l : List LT) (room : Int), 0 ≤ room → partsRow l room = if countRow l ≤ room ∧ rightsRow l = true then room - countRow l else -1
  | [], room, h0 => by
    unfold partsRow countRow rightsRow
    rw [if_pos ⟨h0, rfl⟩]; omega
  | x :: r, room, h0 => by
    unfold partsRow countRow rightsRow
    have hp := count_pos x
    have hq := count_pos_row r
    rw [parts_is x room]
    by_cases h : countL x ≤ room ∧ rightsL x = true
    · rw [if_pos h, if_neg (by omega), parts_is_row r (room - countL x) (by omega), h.2, Bool.true_and]
      by_cases hr : rightsRow r = true
      · by_cases hc : countRow r ≤ room - countL x
        · rw [if_pos ⟨hc, hr⟩, if_pos ⟨by omega, hr⟩]; omega
        · rw [if_neg (by omega), if_neg (by omega)]
      · rw [if_neg (fun h => hr h.2), if_neg (fun h => hr h.2)]
    · rw [if_neg h, if_pos (by omega), if_neg]
      intro hh
      have h2 := hh.2
      simp only [Bool.and_eq_true] at h2
      exact h ⟨by omega, h2.1⟩
end
theorem right_parts (x : LT) : decide (0 ≤ partsL x 64) = rightL x := by
  rw [parts_is]
  unfold rightL
  by_cases h : countL x ≤ 64 ∧ rightsL x = true
  · rw [if_pos h, h.2]
    simp [h.1]; 
  · rw [if_neg h]
    by_cases h1 : countL x ≤ 64
    · have : rightsL x = false := by
        cases hq : rightsL x with
        | false => rfl
        | true => exact absurd ⟨h1, hq⟩ h
      simp [this]
    · simp [h1]

/-- A number's digits. -/
def kindChar (k : Int) : UInt8 := if k = 1 then 115 else if k = 2 then 112 else if k = 3 then 97 else if k = 4 then 111 else if k = 5 then 38 else 124
mutual
/-- A lock, written. -/
def lockT : LT → List UInt8
  | .mk k t n kids => kindChar k :: (if k = 1 ∨ k = 2 then t else if k = 3 ∨ k = 4 then Lib.decDigits n.toNat ++ [59] else Lib.decDigits kids.length ++ 58 :: lockRow kids)
def lockRow : List LT → List UInt8
  | [] => []
  | x :: r => lockT x ++ lockRow r
end
mutual
/-- A lock's keys. -/
def keysL : LT → List (List UInt8)
  | .mk k t _ kids => (if k = 1 then [t] else []) ++ keysRow kids
def keysRow : List LT → List (List UInt8)
  | [] => []
  | x :: r => keysL x ++ keysRow r
end
mutual
/-- Does a right lock open? sg: does a signature fit a key; pr: is a digest's preimage shown? -/
def opensL (sg pr : List UInt8 → Bool) (after age : Int) : LT → Bool
  | .mk k t n kids => if k = 1 then sg t else if k = 2 then pr t else if k = 3 then decide (n ≤ after) else if k = 4 then decide (n ≤ age)
      else if k = 5 then allL sg pr after age kids else anyL sg pr after age kids
def allL (sg pr : List UInt8 → Bool) (after age : Int) : List LT → Bool
  | [] => true
  | x :: r => opensL sg pr after age x && allL sg pr after age r
def anyL (sg pr : List UInt8 → Bool) (after age : Int) : List LT → Bool
  | [] => false
  | x :: r => opensL sg pr after age x || anyL sg pr after age r
end
mutual
/-- What opens a lock opens it with more, later. -/
theorem opens_more {sg pr sg' pr' : List UInt8 → Bool} {a b a' b' : Int} (hs : ∀ t, sg t = true → sg' t = true) (hp : ∀ t, pr t = true → pr' t = true) (ha : a ≤ a') (hb : b ≤ b') :
    ∀ x : LT, opensL sg pr a b x = true → opensL sg' pr' a' b' x = true
  | .mk k t n kids, h => by
    unfold opensL at h ⊢
    by_cases h1 : k = 1
    · rw [if_pos h1] at h ⊢; exact hs _ h
    rw [if_neg h1] at h ⊢
    by_cases h2 : k = 2
    · rw [if_pos h2] at h ⊢; exact hp _ h
    rw [if_neg h2] at h ⊢
    by_cases h3 : k = 3
    · rw [if_pos h3] at h ⊢; simp only [decide_eq_true_eq] at h ⊢; omega
    rw [if_neg h3] at h ⊢
    by_cases h4 : k = 4
    · rw [if_pos h4] at h ⊢; simp only [decide_eq_true_eq] at h ⊢; omega
    rw [if_neg h4] at h ⊢
    by_cases h5 : k = 5
    · rw [if_pos h5] at h ⊢; exact all_more hs hp ha hb kids h
    rw [if_neg h5] at h ⊢
    exact any_more hs hp ha hb kids h
theorem all_more {sg pr sg' pr' : List UInt8 → Bool} {a b a' b' : Int} (hs : ∀ t, sg t = true → sg' t = true) (hp : ∀ t, pr t = true → pr' t = true) (ha : a ≤ a') (hb : b ≤ b') :
    ∀ l : List LT, allL sg pr a b l = true → allL sg' pr' a' b' l = true
  | [], _ => by unfold allL; rfl
  | x :: r, h => by
    unfold allL at h ⊢
    rw [Bool.and_eq_true] at h ⊢
    exact ⟨opens_more hs hp ha hb x h.1, all_more hs hp ha hb r h.2⟩
theorem any_more {sg pr sg' pr' : List UInt8 → Bool} {a b a' b' : Int} (hs : ∀ t, sg t = true → sg' t = true) (hp : ∀ t, pr t = true → pr' t = true) (ha : a ≤ a') (hb : b ≤ b') :
    ∀ l : List LT, anyL sg pr a b l = true → anyL sg' pr' a' b' l = true
  | [], h => by unfold anyL at h; cases h
  | x :: r, h => by
    unfold anyL at h ⊢
    rw [Bool.or_eq_true] at h ⊢
    rcases h with h | h
    · exact .inl (opens_more hs hp ha hb x h)
    · exact .inr (any_more hs hp ha hb r h)
end
mutual
/-- Are two locks the same? -/
def sameL : LT → LT → Bool
  | .mk k t n kids, .mk k' t' n' kids' => decide (k = k') && decide (t = t') && decide (n = n') && decide (kids.length = kids'.length) && sameRow kids kids'
def sameRow : List LT → List LT → Bool
  | [], _ => true
  | _ :: _, [] => false
  | x :: r, y :: s => sameL x y && sameRow r s
end
mutual
theorem sameL_eq : ∀ x y : LT, sameL x y = true → x = y
  | .mk k t n kids, .mk k' t' n' kids', h => by
    unfold sameL at h
    simp only [Bool.and_eq_true, decide_eq_true_eq] at h
    obtain ⟨⟨⟨⟨h1, h2⟩, h3⟩, h4⟩, h5⟩ := h
    rw [h1, h2, h3, sameRow_eq kids kids' h4 h5]
theorem sameRow_eq : ∀ l m : List LT, l.length = m.length → sameRow l m = true → l = m
  | [], [], _, _ => rfl
  | [], _ :: _, h, _ => by simp at h
  | _ :: _, [], h, _ => by simp at h
  | x :: r, y :: s, hl, h => by
    unfold sameRow at h
    rw [Bool.and_eq_true] at h
    rw [sameL_eq x y h.1, sameRow_eq r s (by simpa using hl) h.2]
end
mutual
theorem sameL_self : ∀ x : LT, sameL x x = true
  | .mk k t n kids => by unfold sameL; simp [sameRow_self kids]
theorem sameRow_self : ∀ l : List LT, sameRow l l = true
  | [] => by unfold sameRow; rfl
  | x :: r => by unfold sameRow; simp [sameL_self x, sameRow_self r]
end
end Go.Proofs.YtfmckibiblhakaaGreatDoor
