/- Invoices, plain: words, text, read again. -/
import Derived.Test.YtembdkodajichaaGreatDoorAmtP
import Derived.Test.YtembdkodajichaaGreatDoorBitsP
import Derived.Test.YtembdkodajichaaGreatDoorDigP
set_option linter.unusedSimpArgs false
set_option linter.unusedVariables false
namespace Go.Proofs.YtembdkodajichaaGreatDoor
open Go.RowKit
structure Inv where
 am : Int
 st : Int
 hash : List UInt8
 payee : List UInt8
 memo : List UInt8
 ex : Int
 de : Int
 sig : List UInt8
def Inv.zero : Inv := ⟨0, 0, [], [], [], 0, 0, []⟩
def invV (x : Inv) : Value := .agg #[.int .i64 x.am, .int .i64 x.st, .string (bs x.hash), .string (bs x.payee), .string (bs x.memo), .int .i64 x.ex, .int .i64 x.de, .string (bs x.sig)]
def isHashT (t : List UInt8) : Bool := right t && head t == 72
def isPubT (t : List UInt8) : Bool := right t && pubC (head t)
def mayI (x : Inv) : Bool := isHashT x.hash && isPubT x.payee && decide (x.hash.length ≤ 639) && decide (x.payee.length ≤ 639) && decide (x.memo.length ≤ 639) &&
 decide (0 ≤ x.st) && decide (x.st < 34359738368) && decide (0 ≤ x.ex) && decide (x.ex < 34359738368) && decide (0 ≤ x.de) && decide (x.de < 2147483648)
def numW (n : Nat) : List UInt8 := if h : n = 0 then [] else numW (n / 32) ++ [UInt8.ofNat (n % 32)]
termination_by n
decreasing_by omega
def fieldW (tag : UInt8) (w : List UInt8) : List UInt8 := tag :: UInt8.ofNat (w.length / 32) :: UInt8.ofNat (w.length % 32) :: w
def wordsI (x : Inv) : List UInt8 := digB 32 7 x.st.toNat ++ fieldW 1 (textW x.hash) ++ fieldW 19 (textW x.payee) ++ fieldW 13 (textW x.memo) ++ fieldW 6 (numW x.ex.toNat) ++ fieldW 24 (numW x.de.toNat)
def lnsw : List UInt8 := [108, 110, 115, 119]
def hrpI (x : Inv) : List UInt8 := lnsw ++ amountT x.am
def bodyE (x : Inv) : Int := if amountE x.am ≠ 0 then 40 else if mayI x = false then 70 else 0
def bodyT (x : Inv) : List UInt8 := textL0 (hexT (hrpI x ++ wordsI x))
where textL0 (s : List UInt8) : List UInt8 := 116 :: (Lib.decDigits s.length ++ 58 :: s)
def encIE (x : Inv) : Int := if bodyE x ≠ 0 then bodyE x else if 639 < x.sig.length ∨ verifyT x.payee (bodyT x) x.sig = false then 71 else 0
def allW (x : Inv) : List UInt8 := wordsI x ++ fieldW 16 (textW x.sig)
def encIT (x : Inv) : List UInt8 := encT (hrpI x) (allW x)
/-! read -/
def takeW (n : Nat) (l : List UInt8) : Option (List UInt8 × List UInt8) := if n ≤ l.length then some (l.take n, l.drop n) else none
def fieldR (tag : UInt8) (l : List UInt8) : Option (List UInt8 × List UInt8) :=
 (takeW 3 l).bind fun (h, r) => if h.getD 0 0 = tag then takeW ((h.getD 1 0).toNat * 32 + (h.getD 2 0).toNat) r else none
def digitsR (tag : UInt8) (l : List UInt8) : Option (Nat × List UInt8) :=
 (fieldR tag l).bind fun (w, r) => if w.head? = some 0 ∨ 7 < w.length then none else some (valB 32 w, r)
def txtR (tag : UInt8) (l : List UInt8) : Option (List UInt8 × List UInt8) :=
 (fieldR tag l).bind fun (w, r) => (bitsP 5 8 false w).bind fun b => some (b, r)
def invR (l : List UInt8) : Option Inv :=
 (takeW 7 l).bind fun (s, l0) => (txtR 1 l0).bind fun (h, l1) => (txtR 19 l1).bind fun (p, l2) => (txtR 13 l2).bind fun (m, l3) =>
 (digitsR 6 l3).bind fun (x, l4) => (digitsR 24 l4).bind fun (d, l5) => (txtR 16 l5).bind fun (g, l6) =>
 if l6 = [] ∧ mayI ⟨0, valB 32 s, h, p, m, x, d, g⟩ = true then some ⟨0, valB 32 s, h, p, m, x, d, g⟩ else none
def decI (s : List UInt8) : Inv × Int :=
 if decE s ≠ 0 then (Inv.zero, decE s)
 else if lnsw.isPrefixOf (decH s) = false then (Inv.zero, 70)
 else if (readV ((decH s).drop 4)).2 ≠ 0 then (Inv.zero, (readV ((decH s).drop 4)).2)
 else match invR (decW s) with
  | none => (Inv.zero, 70)
  | some x => if verifyT x.payee (bodyT { x with am := (readV ((decH s).drop 4)).1 }) x.sig = true then ({ x with am := (readV ((decH s).drop 4)).1 }, 0) else (Inv.zero, 71)
/-! there and back -/
theorem takeW_app (a r : List UInt8) : takeW a.length (a ++ r) = some (a, r) := by
 unfold takeW
 rw [if_pos si_]
 simp
theorem takeW_some {n : Nat} {l a r : List UInt8} (h : takeW n l = some (a, r)) : l = a ++ r ∧ a.length = n := by
 unfold takeW at h
 split at h
 · injection h with h
   obtain ⟨rfl, rfl⟩ := Prod.mk.inj h
   exact ⟨(List.take_append_drop n l).symm, by simp; omega⟩
 · cases h
theorem fieldR_app (tag : UInt8) (w r : List UInt8) (hw : w.length < 1024) : fieldR tag (fieldW tag w ++ r) = some (w, r) := by
 unfold fieldR fieldW
 have := takeW_app [tag, UInt8.ofNat (w.length / 32), UInt8.ofNat (w.length % 32)] (w ++ r)
 simp only [List.length_cons, List.length_nil, List.cons_append, List.nil_append] at this ⊢
 rw [this]
 simp only [Option.bind_some, List.getD_cons_zero, List.getD_cons_succ, if_true]
 rw [UInt8.toNat_ofNat', UInt8.toNat_ofNat', show w.length / 32 % 2 ^ 8 * 32 + w.length % 32 % 2 ^ 8 = w.length by omega]
 exact takeW_app w r
theorem fieldR_some {tag : UInt8} {l w r : List UInt8} (h : fieldR tag l = some (w, r)) (hl : ∀ x ∈ l, x.toNat < 32) : l = fieldW tag w ++ r ∧ w.length < 1024 := by
 unfold fieldR at h
 cases ht : takeW 3 l with
 | none => rw [ht] at h; cases h
 | some hr =>
   obtain ⟨a, q⟩ := hr
   rw [ht] at h
   obtain ⟨rfl, ha⟩ := takeW_some ht
   match a, ha with
   | [t, u, v], _ =>
     simp only [Option.bind_some, List.getD_cons_zero, List.getD_cons_succ] at h
     split at h
     · rename_i hte
       subst hte
       obtain ⟨rfl, hw⟩ := takeW_some h
       have hu := hl u si_
       have hv := hl v si_
       refine ⟨?_, by omega⟩
       unfold fieldW
       simp only [List.cons_append, List.nil_append, List.cons.injEq, true_and, and_true, ← UInt8.toNat_inj, UInt8.toNat_ofNat']
       omega
     · cases h
theorem numW_ok : ∀ (n : Nat), valB 32 (numW n) = n ∧ (∀ x ∈ numW n, x.toNat < 32) ∧ (numW n).head? ≠ some 0 ∧ (0 < n → numW n ≠ []) := by
 intro n
 induction n using Nat.strongRecOn with
 | ind n ih =>
   rw [numW]
   by_cases h : n = 0
   · rw [dif_pos h]
     subst h
     exact ⟨rfl, by simp, by simp, by omega⟩
   · rw [dif_neg h]
     obtain ⟨h1, h2, h3, h4⟩ := ih (n / 32) om_
     have e := ofNat32 n
     refine ⟨by rw [valB_snoc, h1, e]; omega, ?_, ?_, by simp⟩
     · intro x hx
       rcases List.mem_append.1 hx with hx | hx
       · exact h2 x hx
       · simp at hx; subst hx; rw [e]; omega
     · by_cases h0 : n / 32 = 0
       · rw [h0, numW, dif_pos rfl]
         simp only [List.nil_append, List.head?_cons, ne_eq, Option.some.injEq]
         intro hc
         have := congrArg UInt8.toNat hc
         rw [e] at this
         simp at this
         omega
       · have := h4 om_
         cases hq : numW (n / 32) with
         | nil => exact absurd hq this
         | cons a b => rw [hq] at h3; simpa using h3
theorem numW_len (k : Nat) : ∀ n, n < 32 ^ k → (numW n).length ≤ k := by
 induction k with
 | zero => intro n hn; simp at hn; subst hn; rw [numW, dif_pos rfl]; simp
 | succ k ih =>
   intro n hn
   rw [numW]
   split
   · simp
   · have := ih (n / 32) (by rw [Nat.pow_succ] at hn; omega)
     simp
     exact this
theorem numW_valB (w : List UInt8) (hw : ∀ x ∈ w, x.toNat < 32) (h0 : w.head? ≠ some 0) : numW (valB 32 w) = w := by
 induction w using snoc_ind with
 | h0 => rw [valB_nil, numW, dif_pos rfl]
 | h1 l x ih =>
   have hx := hw x si_
   rw [valB_snoc]
   have hl : l = [] ∨ numW (valB 32 l) = l := by
    cases l with
    | nil => exact .inl rfl
    | cons a b => exact .inr (ih (fun y hy => hw y (by simp at hy ⊢; rcases hy with hy | hy <;> simp [hy])) (by simpa using h0))
   have hpos : valB 32 l * 32 + x.toNat ≠ 0 := by
    intro hz
    rcases hl with rfl | hl
    · apply h0
      simp only [List.nil_append, List.head?_cons, Option.some.injEq]
      exact UInt8.toNat_inj.1 so_
    · rw [show valB 32 l = 0 by omega, numW, dif_pos rfl] at hl
      subst hl
      apply h0
      simp only [List.nil_append, List.head?_cons, Option.some.injEq]
      exact UInt8.toNat_inj.1 so_
   rw [numW, dif_neg hpos, show (valB 32 l * 32 + x.toNat) / 32 = valB 32 l by omega, show (valB 32 l * 32 + x.toNat) % 32 = x.toNat by omega]
   rcases hl with rfl | hl
   · rw [valB_nil, numW, dif_pos rfl]; simp
   · rw [hl]; simp
theorem digitsR_app (tag : UInt8) (n : Nat) (r : List UInt8) (hn : n < 32 ^ 7) : digitsR tag (fieldW tag (numW n) ++ r) = some (n, r) := by
 have hl := numW_len 7 n hn
 have ho := numW_ok n
 unfold digitsR
 rw [fieldR_app tag _ _ om_]
 simp only [Option.bind_some]
 rw [if_neg (by simp only [not_or]; exact ⟨ho.2.2.1, by omega⟩), ho.1]
theorem digitsR_some {tag : UInt8} {l r : List UInt8} {n : Nat} (h : digitsR tag l = some (n, r)) (hl : ∀ x ∈ l, x.toNat < 32) : l = fieldW tag (numW n) ++ r ∧ n < 32 ^ 7 := by
 unfold digitsR at h
 cases ht : fieldR tag l with
 | none => rw [ht] at h; cases h
 | some wr =>
   obtain ⟨w, q⟩ := wr
   rw [ht] at h
   obtain ⟨e, hlen⟩ := fieldR_some ht hl
   simp only [Option.bind_some] at h
   split at h
   · cases h
   · rename_i hc
     rw [not_or] at hc
     injection h with h
     obtain ⟨rfl, rfl⟩ := Prod.mk.inj h
     have hw : ∀ x ∈ w, x.toNat < 32 := fun x hx => hl x (by rw [e]; unfold fieldW; simp [hx])
     rw [numW_valB w hw hc.1]
     refine ⟨e, Nat.lt_of_lt_of_le (valB_lt w hw) (Nat.pow_le_pow_right om_ om_)⟩
theorem txtR_app (tag : UInt8) (t r : List UInt8) (ht : t.length ≤ 639) : txtR tag (fieldW tag (textW t) ++ r) = some (t, r) := by
 have hb := textW_back t
 unfold txtR
 rw [fieldR_app tag _ _ om_]
 simp only [Option.bind_some]
 rw [hb.1]
 rfl
theorem txtR_some {tag : UInt8} {l t r : List UInt8} (h : txtR tag l = some (t, r)) (hl : ∀ x ∈ l, x.toNat < 32) : l = fieldW tag (textW t) ++ r ∧ t.length ≤ 639 := by
 unfold txtR at h
 cases ht : fieldR tag l with
 | none => rw [ht] at h; cases h
 | some wr =>
   obtain ⟨w, q⟩ := wr
   rw [ht] at h
   obtain ⟨e, hlen⟩ := fieldR_some ht hl
   simp only [Option.bind_some] at h
   cases hb : bitsP 5 8 false w with
   | none => rw [hb] at h; cases h
   | some b =>
     rw [hb] at h
     simp only [Option.bind_some, Option.some.injEq, Prod.mk.injEq] at h
     obtain ⟨rfl, rfl⟩ := h
     obtain ⟨h1, h2⟩ := bits58_back hb
     rw [h1]
     exact ⟨e, by omega⟩
theorem may_facts {x : Inv} (h : mayI x = true) : x.hash.length ≤ 639 ∧ x.payee.length ≤ 639 ∧ x.memo.length ≤ 639 ∧ 0 ≤ x.st ∧ x.st < 34359738368 ∧ 0 ≤ x.ex ∧ x.ex < 34359738368 ∧ 0 ≤ x.de ∧ x.de < 2147483648 := by
 unfold mayI at h
 simp only [Bool.and_eq_true, decide_eq_true_eq] at h
 obtain ⟨⟨⟨⟨⟨⟨⟨⟨⟨⟨_, _⟩, h1⟩, h2⟩, h3⟩, h4⟩, h5⟩, h6⟩, h7⟩, h8⟩, h9⟩ := h
 exact ⟨h1, h2, h3, h4, h5, h6, h7, h8, h9⟩
theorem may_am (x : Inv) (a : Int) (s : List UInt8) : mayI { x with am := a, sig := s } = mayI x := rfl
theorem inv_back (x : Inv) (h : mayI x = true) (hs : x.sig.length ≤ 639) : invR (allW x) = some { x with am := 0 } := by
 obtain ⟨h1, h2, h3, h4, h5, h6, h7, h8, h9⟩ := may_facts h
 have hst : valB 32 (digB 32 7 x.st.toNat) = x.st.toNat := valB_digB de_ de_ _ _ om_
 have e : allW x = digB 32 7 x.st.toNat ++ (fieldW 1 (textW x.hash) ++ (fieldW 19 (textW x.payee) ++ (fieldW 13 (textW x.memo) ++ (fieldW 6 (numW x.ex.toNat) ++ (fieldW 24 (numW x.de.toNat) ++ (fieldW 16 (textW x.sig) ++ [])))))) := by
  unfold allW wordsI
  simp only [List.append_assoc, List.append_nil]
 have h7' := takeW_app (digB 32 7 x.st.toNat) (fieldW 1 (textW x.hash) ++ (fieldW 19 (textW x.payee) ++ (fieldW 13 (textW x.memo) ++ (fieldW 6 (numW x.ex.toNat) ++ (fieldW 24 (numW x.de.toNat) ++ (fieldW 16 (textW x.sig) ++ []))))))
 rw [digB_len] at h7'
 unfold invR
 rw [e, h7']
 simp only [Option.bind_some]
 rw [txtR_app 1 _ _ h1]
 simp only [Option.bind_some]
 rw [txtR_app 19 _ _ h2]
 simp only [Option.bind_some]
 rw [txtR_app 13 _ _ h3]
 simp only [Option.bind_some]
 rw [digitsR_app 6 _ _ om_]
 simp only [Option.bind_some]
 rw [digitsR_app 24 _ _ om_]
 simp only [Option.bind_some]
 rw [txtR_app 16 _ _ hs]
 simp only [Option.bind_some]
 rw [hst]
 have e1 : ((x.st.toNat : Nat) : Int) = x.st := by omega
 have e2 : ((x.ex.toNat : Nat) : Int) = x.ex := by omega
 have e3 : ((x.de.toNat : Nat) : Int) = x.de := by omega
 rw [e1, e2, e3, if_pos ⟨trivial, h⟩]
theorem inv_some {l : List UInt8} {x : Inv} (h : invR l = some x) (hl : ∀ y ∈ l, y.toNat < 32) : allW x = l ∧ mayI x = true ∧ x.sig.length ≤ 639 ∧ x.am = 0 := by
 unfold invR at h
 obtain ⟨⟨s, l0⟩, h0, h⟩ := Option.bind_eq_some_iff.1 h
 obtain ⟨⟨ha, l1⟩, h1, h⟩ := Option.bind_eq_some_iff.1 h
 obtain ⟨⟨p, l2⟩, h2, h⟩ := Option.bind_eq_some_iff.1 h
 obtain ⟨⟨m, l3⟩, h3, h⟩ := Option.bind_eq_some_iff.1 h
 obtain ⟨⟨ex, l4⟩, h4, h⟩ := Option.bind_eq_some_iff.1 h
 obtain ⟨⟨de, l5⟩, h5, h⟩ := Option.bind_eq_some_iff.1 h
 obtain ⟨⟨g, l6⟩, h6, h⟩ := Option.bind_eq_some_iff.1 h
 simp only at h0 h1 h2 h3 h4 h5 h6 h
 split at h
 · rename_i hc
   obtain ⟨rfl, hm⟩ := hc
   injection h with h
   subst h
   obtain ⟨e0, hs7⟩ := takeW_some h0
   subst e0
   have hs32 : ∀ y ∈ s, y.toNat < 32 := fun y hy => hl y (by simp [hy])
   have q0 : ∀ y ∈ l0, y.toNat < 32 := fun y hy => hl y (by simp [hy])
   obtain ⟨e1, g1⟩ := txtR_some h1 q0
   have q1 : ∀ y ∈ l1, y.toNat < 32 := fun y hy => q0 y (by rw [e1]; simp [hy])
   obtain ⟨e2, g2⟩ := txtR_some h2 q1
   have q2 : ∀ y ∈ l2, y.toNat < 32 := fun y hy => q1 y (by rw [e2]; simp [hy])
   obtain ⟨e3, g3⟩ := txtR_some h3 q2
   have q3 : ∀ y ∈ l3, y.toNat < 32 := fun y hy => q2 y (by rw [e3]; simp [hy])
   obtain ⟨e4, g4⟩ := digitsR_some h4 q3
   have q4 : ∀ y ∈ l4, y.toNat < 32 := fun y hy => q3 y (by rw [e4]; simp [hy])
   obtain ⟨e5, g5⟩ := digitsR_some h5 q4
   have q5 : ∀ y ∈ l5, y.toNat < 32 := fun y hy => q4 y (by rw [e5]; simp [hy])
   obtain ⟨e6, g6⟩ := txtR_some h6 q5
   refine ⟨?_, hm, g6, rfl⟩
   unfold allW wordsI
   simp only [Int.toNat_natCast]
   have hd := digB_valB (by decide : 0 < 32) s hs32
   rw [hs7] at hd
   rw [hd, e1, e2, e3, e4, e5, e6]
   simp only [List.append_assoc, List.append_nil]
 · cases h
theorem fieldW_lt (tag : UInt8) (w : List UInt8) (ht : tag.toNat < 32) (hl : w.length < 1024) (hw : ∀ x ∈ w, x.toNat < 32) : ∀ x ∈ fieldW tag w, x.toNat < 32 := by
 intro x hx
 unfold fieldW at hx
 simp only [List.mem_cons] at hx
 rcases hx with rfl | rfl | rfl | hx
 · exact ht
 · rw [UInt8.toNat_ofNat']; omega
 · rw [UInt8.toNat_ofNat']; omega
 · exact hw x hx
theorem wordsI_lt (x : Inv) (h : mayI x = true) : (∀ y ∈ wordsI x, y.toNat < 32) ∧ (wordsI x).length ≤ 3200 := by
 obtain ⟨h1, h2, h3, h4, h5, h6, h7, h8, h9⟩ := may_facts h
 have b1 := textW_back x.hash
 have b2 := textW_back x.payee
 have b3 := textW_back x.memo
 have n1 := numW_ok x.ex.toNat
 have n2 := numW_ok x.de.toNat
 have l1 := numW_len 7 x.ex.toNat om_
 have l2 := numW_len 7 x.de.toNat om_
 constructor
 · intro y hy
   unfold wordsI at hy
   simp only [List.mem_append] at hy
   rcases hy with ((((hy | hy) | hy) | hy) | hy) | hy
   · exact digB_lt de_ de_ _ _ y hy
   · exact fieldW_lt 1 _ de_ om_ b1.2.2 y hy
   · exact fieldW_lt 19 _ de_ om_ b2.2.2 y hy
   · exact fieldW_lt 13 _ de_ om_ b3.2.2 y hy
   · exact fieldW_lt 6 _ de_ om_ n1.2.1 y hy
   · exact fieldW_lt 24 _ de_ om_ n2.2.1 y hy
 · unfold wordsI fieldW
   simp only [List.length_append, List.length_cons, digB_len]
   omega
theorem allW_lt (x : Inv) (h : mayI x = true) (hs : x.sig.length ≤ 639) : (∀ y ∈ allW x, y.toNat < 32) ∧ (allW x).length ≤ 4300 := by
 have h1 := wordsI_lt x h
 have b1 := textW_back x.sig
 constructor
 · intro y hy
   unfold allW at hy
   rcases List.mem_append.1 hy with hy | hy
   · exact h1.1 y hy
   · exact fieldW_lt 16 _ de_ om_ b1.2.2 y hy
 · unfold allW fieldW
   simp only [List.length_append, List.length_cons]
   omega
theorem dg_hrp {c : UInt8} (h : isDg c = true) : hrpC c = true := by
 unfold isDg at h
 simp only [Bool.and_eq_true, decide_eq_true_eq] at h
 unfold hrpC isUp
 simp
 omega
theorem dec_len22 (n : Nat) (h : n ≤ maxMoney) : (Lib.decDigits n).length ≤ 20 := dec_len20 n (by unfold maxMoney at h; omega)
theorem hrp_ok (x : Inv) : hrpOk (hrpI x) = true := by
 have hlen : ∀ n : Nat, n ≤ maxMoney → (Lib.decDigits n).length ≤ 20 ∧ ∀ c ∈ Lib.decDigits n, hrpC c = true := fun n hn => ⟨dec_len22 n hn, fun c hc => dg_hrp (List.all_eq_true.1 (dec_dg n).1 c hc)⟩
 have hgo : ∀ m : Nat, m ≤ maxMoney → (amtGo m unitL).length ≤ 22 ∧ ∀ c ∈ amtGo m unitL, hrpC c = true := by
  intro m hm
  have hdiv : ∀ k, m / k ≤ maxMoney := fun k => Nat.le_trans (Nat.div_le_self m k) hm
  unfold unitL
  simp only [amtGo]
  repeat' split
  · have := hlen _ (hdiv 100000000000); simp; exact ⟨by omega, this.2⟩
  · have := hlen _ (hdiv 100000000); refine ⟨by simp; omega, fun c hc => ?_⟩
    rcases List.mem_append.1 hc with hc | hc
    · exact this.2 c hc
    · simp at hc; subst hc; decide
  · have := hlen _ (hdiv 100000); refine ⟨by simp; omega, fun c hc => ?_⟩
    rcases List.mem_append.1 hc with hc | hc
    · exact this.2 c hc
    · simp at hc; subst hc; decide
  · have := hlen _ (hdiv 100); refine ⟨by simp; omega, fun c hc => ?_⟩
    rcases List.mem_append.1 hc with hc | hc
    · exact this.2 c hc
    · simp at hc; subst hc; decide
  · have := hlen _ hm; refine ⟨by simp; omega, fun c hc => ?_⟩
    rcases List.mem_append.1 hc with hc | hc
    · exact this.2 c hc
    · simp at hc; rcases hc with rfl | rfl <;> decide
 have ha : (amountT x.am).length ≤ 22 ∧ ∀ c ∈ amountT x.am, hrpC c = true := by
  unfold amountT
  split
  · simp
  · exact hgo _ om_
 unfold hrpOk hrpI
 simp only [Bool.and_eq_true, decide_eq_true_eq, List.all_eq_true, List.length_append]
 have : lnsw.length = 4 := rfl
 refine ⟨⟨by omega, by omega⟩, fun c hc => ?_⟩
 rcases List.mem_append.1 hc with hc | hc
 · have : ∀ c ∈ lnsw, hrpC c = true := by decide
   exact this c hc
 · exact ha.2 c hc
theorem enc_zero (x : Inv) (h : encIE x = 0) : amountE x.am = 0 ∧ mayI x = true ∧ x.sig.length ≤ 639 ∧ verifyT x.payee (bodyT x) x.sig = true := by
 unfold encIE at h
 split at h
 · rename_i h1; exact absurd h h1
 rename_i h1
 split at h
 · cases h
 rename_i h2
 simp only [Classical.not_not] at h1
 unfold bodyE at h1
 split at h1
 · cases h1
 rename_i h3
 split at h1
 · cases h1
 rename_i h4
 rw [not_or] at h2
 exact ⟨by simpa using h3, by simpa using h4, by omega, by simpa using h2.2⟩
theorem zero_enc (x : Inv) (h1 : amountE x.am = 0) (h2 : mayI x = true) (h3 : x.sig.length ≤ 639) (h4 : verifyT x.payee (bodyT x) x.sig = true) : encIE x = 0 := by
 have hb : bodyE x = 0 := by unfold bodyE; rw [if_neg (by simp [h1]), if_neg (by simp [h2])]
 unfold encIE
 rw [if_neg (by simp [hb]), if_neg (by simp [h4]; omega)]
theorem enc_bech (x : Inv) (h : mayI x = true) (hs : x.sig.length ≤ 639) : encE (hrpI x) (allW x) = 0 := by
 have hw := allW_lt x h hs
 have hh := hrp_ok x
 unfold encE
 rw [if_neg (by simp [hh]), if_neg, if_neg]
 · unfold hrpOk at hh
   simp only [Bool.and_eq_true, decide_eq_true_eq] at hh
   omega
 · simp only [List.any_eq_true, decide_eq_true_eq, not_exists, not_and]
   intro y hy
   have := hw.1 y hy
   omega
theorem dec_encI (x : Inv) (h : encIE x = 0) : decI (encIT x) = (x, 0) := by
 obtain ⟨h1, h2, h3, h4⟩ := enc_zero x h
 obtain ⟨d1, d2, d3, _⟩ := dec_enc (hrpI x) (allW x) (enc_bech x h2 h3)
 have hr := read_amount x.am h1
 unfold decI encIT
 rw [d1, d2, d3]
 rw [if_neg si_, if_neg (by simp [hrpI, lnsw])]
 have hd : (hrpI x).drop 4 = amountT x.am := by simp [hrpI, lnsw]
 rw [hd, hr, if_neg si_, inv_back x h2 h3]
 simp only
 rw [if_pos h4]
theorem tailW_lt (s : List UInt8) (h : decE s = 0) : ∀ x ∈ decW s, x.toNat < 32 := by
 unfold decE at h
 split at h
 · cases h
 split at h
 · cases h
 split at h
 · cases h
 rename_i h2
 intro x hx
 simp only [List.any_eq_true, decide_eq_true_eq, not_exists, not_and] at h2
 have := h2 x (List.mem_of_mem_take hx)
 omega
theorem enc_decI (s : List UInt8) (x : Inv) (h : decI s = (x, 0)) : encIE x = 0 ∧ encIT x = s.map lowB := by
 unfold decI at h
 split at h
 · rename_i h0; exact absurd (Prod.mk.inj h).2 h0
 rename_i h0
 simp only [Classical.not_not] at h0
 split at h
 · have := (Prod.mk.inj h).2; cases this
 rename_i h1
 split at h
 · rename_i h2; exact absurd (Prod.mk.inj h).2 h2
 rename_i h2
 simp only [Classical.not_not] at h2
 split at h
 · have := (Prod.mk.inj h).2; cases this
 rename_i y hy
 split at h
 · rename_i hv
   have hx := (Prod.mk.inj h).1
   obtain ⟨a1, a2⟩ := amount_read ((decH s).drop 4) (readV ((decH s).drop 4)).1 (by rw [← h2])
   obtain ⟨w1, w2, w3, w4⟩ := inv_some hy (tailW_lt s h0)
   obtain ⟨e1, e2⟩ := enc_dec s h0
   generalize (readV ((decH s).drop 4)).1 = n at *
   subst hx
   have hp : decH s = lnsw ++ (decH s).drop 4 := by
    have h3 : lnsw.isPrefixOf (decH s) = true := by simpa using h1
    obtain ⟨t, ht⟩ := List.isPrefixOf_iff_prefix.1 h3
    rw [← ht]
    simp [lnsw]
   refine ⟨zero_enc _ a1 w2 w3 hv, ?_⟩
   unfold encIT
   have hh : hrpI { y with am := n } = decH s := by unfold hrpI; rw [a2, ← hp]
   rw [hh, show allW { y with am := n } = allW y from rfl, w1, e2]
 · have := (Prod.mk.inj h).2; cases this
end Go.Proofs.YtembdkodajichaaGreatDoor
