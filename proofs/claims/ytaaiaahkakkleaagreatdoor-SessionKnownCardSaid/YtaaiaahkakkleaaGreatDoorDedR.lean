/- What somebody can make, plain: a name that stands in nothing that was heard stands in nothing that is known. -/
import Derived.Test.YtaaiaahkakkleaaGreatDoorDedQ
import Derived.Test.YtaaiaahkakkleaaGreatDoorMSpec
set_option linter.unusedSimpArgs false
set_option linter.unusedVariables false
namespace Go.Proofs.YtaaiaahkakkleaaGreatDoor
open Go.RowKit
theorem rt_two_is {c : UInt8} {a b : List UInt8} {x : Sh} (h : rt (c :: (a ++ b)) = some x) (hc : arity c = some 2) (ha : right a = true) : x.op = c ∧ x.kids = [a, b] := by
 have hop : x.op = c := head_op h
 rw [← hop] at hc
 obtain ⟨u, v, e, ru, _⟩ := rt_two_kids h hc
 have ht := rt_text h hc
 rw [e] at ht
 simp only [cat, List.flatten_cons, List.flatten_nil, List.append_nil, List.cons.injEq] at ht
 obtain ⟨e1, e2⟩ := right_same ha ru ht.2
 exact ⟨hop, by rw [e, e1, e2]⟩
def stF (nm : List UInt8) : Nat → List UInt8 → Bool
 | 0, _ => false
 | n + 1, t => t == nm || (match rt t with | none => false | some x => x.kids.any (stF nm n))
def stands (nm t : List UInt8) : Bool := stF nm t.length t
theorem stF_fuel (nm : List UInt8) : ∀ (n m : Nat) (t : List UInt8), t.length ≤ n → t.length ≤ m → 1 ≤ t.length → stF nm n t = stF nm m t
 | 0, _, t, h, _, h1 => by omega
 | _ + 1, 0, t, _, h, h1 => by omega
 | n + 1, m + 1, t, hn, hm, h1 => by
   rw [stF, stF]
   cases hx : rt t with
   | none => rfl
   | some x =>
     have hk := rt_kids hx
     simp only
     congr 1
     generalize x.kids = ks at hk
     induction ks with
     | nil => rfl
     | cons a r ih =>
       rw [List.any_cons, List.any_cons, stF_fuel nm n m a (by have := (hk a si_).2; omega) (by have := (hk a si_).2; omega) (right_len (hk a si_).1).1, ih (fun y hy => hk y (by simp [hy]))]
theorem stands_eq (nm : List UInt8) {t : List UInt8} {x : Sh} (h : rt t = some x) : stands nm t = (t == nm || x.kids.any (stands nm)) := by
 have hl := (right_len (rt_right h)).1
 unfold stands
 rw [stF_fuel nm t.length (t.length + 1) t (Nat.le_refl _) om_ hl, stF, h]
 simp only
 congr 1
 have hk := rt_kids h
 generalize x.kids = ks at hk
 induction ks with
 | nil => rfl
 | cons a r ih =>
   rw [List.any_cons, List.any_cons, stF_fuel nm t.length a.length a (by have := (hk a si_).2; omega) (Nat.le_refl _) (right_len (hk a si_).1).1, ih (fun y hy => hk y (by simp [hy]))]
theorem stands_kids {nm t : List UInt8} {x : Sh} (hn : head nm = 110) (h : rt t = some x) (ho : x.op.toNat ≠ 110) : stands nm t = x.kids.any (stands nm) := by
 rw [stands_eq nm h]
 have : (t == nm) = false := by
  cases hq : t == nm with
  | false => rfl
  | true =>
    have e : t = nm := by simpa using hq
    have := head_op h
    rw [e, hn] at this
    rw [this] at ho
    exact absurd rfl ho
 rw [this, Bool.false_or]
end Go.Proofs.YtaaiaahkakkleaaGreatDoor
