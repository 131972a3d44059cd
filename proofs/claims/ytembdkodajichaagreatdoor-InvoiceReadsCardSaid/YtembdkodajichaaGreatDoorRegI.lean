/- A region that draws its order: what holds of the world all along, what each operation gives. -/
import Derived.Test.YtembdkodajichaaGreatDoorDigP
import Derived.Test.YtembdkodajichaaGreatDoorMSpec
import Derived.BigRegion
import Derived.BigQuiet
import Derived.Orders
set_option linter.unusedSimpArgs false
set_option linter.unusedVariables false
namespace Go.Proofs.YtembdkodajichaaGreatDoor
open Go.RowKit
structure Inv where
 am : Int
 st : Int
 hash : List UInt8
 payee : List UInt8
 memo : List UInt8
 ex : Int
 de : Int
 sig : List UInt8
def Inv.zero : Inv := ⟨0, 0, [], [], [], 0, 0, []⟩
def invV (x : Inv) : Value := .agg #[.int .i64 x.am, .int .i64 x.st, .string (bs x.hash), .string (bs x.payee), .string (bs x.memo), .int .i64 x.ex, .int .i64 x.de, .string (bs x.sig)]
def zfd_ (t : List UInt8) : Bool := right t && head t == 72
def zfe_ (t : List UInt8) : Bool := right t && pubC (head t)
def w3_ (x : Inv) : Bool := zfd_ x.hash && zfe_ x.payee && decide (x.hash.length ≤ 639) && decide (x.payee.length ≤ 639) && decide (x.memo.length ≤ 639) &&
 decide (0 ≤ x.st) && decide (x.st < 34359738368) && decide (0 ≤ x.ex) && decide (x.ex < 34359738368) && decide (0 ≤ x.de) && decide (x.de < 2147483648)
def w0_ (n : Nat) : List UInt8 := if h : n = 0 then [] else w0_ (n / 32) ++ [UInt8.ofNat (n % 32)]
termination_by n
decreasing_by omega
def y5_ (tag : UInt8) (w : List UInt8) : List UInt8 := tag :: UInt8.ofNat (w.length / 32) :: UInt8.ofNat (w.length % 32) :: w
def j1_ (x : Inv) : List UInt8 := z1_ 32 7 x.st.toNat ++ y5_ 1 (x4_ x.hash) ++ y5_ 19 (x4_ x.payee) ++ y5_ 13 (x4_ x.memo) ++ y5_ 6 (w0_ x.ex.toNat) ++ y5_ 24 (w0_ x.de.toNat)
def lnsw : List UInt8 := [108, 110, 115, 119]
def hrpI (x : Inv) : List UInt8 := lnsw ++ k3_ x.am
def zao_ (x : Inv) : Int := if zah_ x.am ≠ 0 then 40 else if w3_ x = false then 70 else 0
def bodyT (x : Inv) : List UInt8 := textL0 (hexT (hrpI x ++ j1_ x))
where textL0 (s : List UInt8) : List UInt8 := 116 :: (Lib.decDigits s.length ++ 58 :: s)
def zbe_ (x : Inv) : Int := if zao_ x ≠ 0 then zao_ x else if 639 < x.sig.length ∨ q1_ x.payee (bodyT x) x.sig = false then 71 else 0
def allW (x : Inv) : List UInt8 := j1_ x ++ y5_ 16 (x4_ x.sig)
def zby_ (x : Inv) : List UInt8 := encT (hrpI x) (allW x)
/-! read -/
def q8_ (n : Nat) (l : List UInt8) : Option (List UInt8 × List UInt8) := if n ≤ l.length then some (l.take n, l.drop n) else none
def zaH_ (tag : UInt8) (l : List UInt8) : Option (List UInt8 × List UInt8) :=
 (q8_ 3 l).bind fun (h, r) => if h.getD 0 0 = tag then q8_ ((h.getD 1 0).toNat * 32 + (h.getD 2 0).toNat) r else none
def k5_ (tag : UInt8) (l : List UInt8) : Option (Nat × List UInt8) :=
 (zaH_ tag l).bind fun (w, r) => if w.head? = some 0 ∨ 7 < w.length then none else some (y3_ 32 w, r)
def v2_ (tag : UInt8) (l : List UInt8) : Option (List UInt8 × List UInt8) :=
 (zaH_ tag l).bind fun (w, r) => (w7_ 5 8 false w).bind fun b => some (b, r)
def invR (l : List UInt8) : Option Inv :=
 (q8_ 7 l).bind fun (s, l0) => (v2_ 1 l0).bind fun (h, l1) => (v2_ 19 l1).bind fun (p, l2) => (v2_ 13 l2).bind fun (m, l3) =>
 (k5_ 6 l3).bind fun (x, l4) => (k5_ 24 l4).bind fun (d, l5) => (v2_ 16 l5).bind fun (g, l6) =>
 if l6 = [] ∧ w3_ ⟨0, y3_ 32 s, h, p, m, x, d, g⟩ = true then some ⟨0, y3_ 32 s, h, p, m, x, d, g⟩ else none
def decI (s : List UInt8) : Inv × Int :=
 if v9_ s ≠ 0 then (Inv.zero, v9_ s)
 else if lnsw.isPrefixOf (x5_ s) = false then (Inv.zero, 70)
 else if (z5_ ((x5_ s).drop 4)).2 ≠ 0 then (Inv.zero, (z5_ ((x5_ s).drop 4)).2)
 else match invR (k4_ s) with
  | none => (Inv.zero, 70)
  | some x => if q1_ x.payee (bodyT { x with am := (z5_ ((x5_ s).drop 4)).1 }) x.sig = true then ({ x with am := (z5_ ((x5_ s).drop 4)).1 }, 0) else (Inv.zero, 71)
/-! there and back -/
theorem zgr_ (a r : List UInt8) : q8_ a.length (a ++ r) = some (a, r) := by
 unfold q8_
 rw [if_pos si_]
 simp
theorem zff_ {n : Nat} {l a r : List UInt8} (h : q8_ n l = some (a, r)) : l = a ++ r ∧ a.length = n := by
 unfold q8_ at h
 split at h
 · injection h with h
   obtain ⟨rfl, rfl⟩ := Prod.mk.inj h
   exact ⟨(List.take_append_drop n l).symm, by simp; omega⟩
 · cases h
theorem zii_ (tag : UInt8) (w r : List UInt8) (hw : w.length < 1024) : zaH_ tag (y5_ tag w ++ r) = some (w, r) := by
 unfold zaH_ y5_
 have := zgr_ [tag, UInt8.ofNat (w.length / 32), UInt8.ofNat (w.length % 32)] (w ++ r)
 simp only [List.length_cons, List.length_nil, List.cons_append, List.nil_append] at this ⊢
 rw [this]
 simp only [Option.bind_some, List.getD_cons_zero, List.getD_cons_succ, if_true]
 rw [UInt8.toNat_ofNat', UInt8.toNat_ofNat', show w.length / 32 % 2 ^ 8 * 32 + w.length % 32 % 2 ^ 8 = w.length by omega]
 exact zgr_ w r
theorem zgs_ {tag : UInt8} {l w r : List UInt8} (h : zaH_ tag l = some (w, r)) (hl : ∀ x ∈ l, x.toNat < 32) : l = y5_ tag w ++ r ∧ w.length < 1024 := by
 unfold zaH_ at h
 cases ht : q8_ 3 l with
 | none => rw [ht] at h; cases h
 | some hr =>
   obtain ⟨a, q⟩ := hr
   rw [ht] at h
   obtain ⟨rfl, ha⟩ := zff_ ht
   match a, ha with
   | [t, u, v], _ =>
     simp only [Option.bind_some, List.getD_cons_zero, List.getD_cons_succ] at h
     split at h
     · rename_i hte
       subst hte
       obtain ⟨rfl, hw⟩ := zff_ h
       have hu := hl u si_
       have hv := hl v si_
       refine ⟨?_, by omega⟩
       unfold y5_
       simp only [List.cons_append, List.nil_append, List.cons.injEq, true_and, and_true, ← UInt8.toNat_inj, UInt8.toNat_ofNat']
       omega
     · cases h
theorem zgt_ : ∀ (n : Nat), y3_ 32 (w0_ n) = n ∧ (∀ x ∈ w0_ n, x.toNat < 32) ∧ (w0_ n).head? ≠ some 0 ∧ (0 < n → w0_ n ≠ []) := by
 intro n
 induction n using Nat.strongRecOn with
 | ind n ih =>
   rw [w0_]
   by_cases h : n = 0
   · rw [dif_pos h]
     subst h
     exact ⟨rfl, by simp, by simp, by omega⟩
   · rw [dif_neg h]
     obtain ⟨h1, h2, h3, h4⟩ := ih (n / 32) om_
     have e := ze6_ n
     refine ⟨by rw [zcy_, h1, e]; omega, ?_, ?_, by simp⟩
     · intro x hx
       rcases List.mem_append.1 hx with hx | hx
       · exact h2 x hx
       · simp at hx; subst hx; rw [e]; omega
     · by_cases h0 : n / 32 = 0
       · rw [h0, w0_, dif_pos rfl]
         simp only [List.nil_append, List.head?_cons, ne_eq, Option.some.injEq]
         intro hc
         have := congrArg UInt8.toNat hc
         rw [e] at this
         simp at this
         omega
       · have := h4 om_
         cases hq : w0_ (n / 32) with
         | nil => exact absurd hq this
         | cons a b => rw [hq] at h3; simpa using h3
theorem zde_ (k : Nat) : ∀ n, n < 32 ^ k → (w0_ n).length ≤ k := by
 induction k with
 | zero => intro n hn; simp at hn; subst hn; rw [w0_, dif_pos rfl]; simp
 | succ k ih =>
   intro n hn
   rw [w0_]
   split
   · simp
   · have := ih (n / 32) (by rw [Nat.pow_succ] at hn; omega)
     simp
     exact this
theorem zma_ (w : List UInt8) (hw : ∀ x ∈ w, x.toNat < 32) (h0 : w.head? ≠ some 0) : w0_ (y3_ 32 w) = w := by
 induction w using zgo_ with
 | h0 => rw [ze9_, w0_, dif_pos rfl]
 | h1 l x ih =>
   have hx := hw x si_
   rw [zcy_]
   have hl : l = [] ∨ w0_ (y3_ 32 l) = l := by
    cases l with
    | nil => exact .inl rfl
    | cons a b => exact .inr (ih (fun y hy => hw y (by simp at hy ⊢; rcases hy with hy | hy <;> simp [hy])) (by simpa using h0))
   have hpos : y3_ 32 l * 32 + x.toNat ≠ 0 := by
    intro hz
    rcases hl with rfl | hl
    · apply h0
      simp only [List.nil_append, List.head?_cons, Option.some.injEq]
      exact UInt8.toNat_inj.1 so_
    · rw [show y3_ 32 l = 0 by omega, w0_, dif_pos rfl] at hl
      subst hl
      apply h0
      simp only [List.nil_append, List.head?_cons, Option.some.injEq]
      exact UInt8.toNat_inj.1 so_
   rw [w0_, dif_neg hpos, show (y3_ 32 l * 32 + x.toNat) / 32 = y3_ 32 l by omega, show (y3_ 32 l * 32 + x.toNat) % 32 = x.toNat by omega]
   rcases hl with rfl | hl
   · rw [ze9_, w0_, dif_pos rfl]; simp
   · rw [hl]; simp
theorem zij_ (tag : UInt8) (n : Nat) (r : List UInt8) (hn : n < 32 ^ 7) : k5_ tag (y5_ tag (w0_ n) ++ r) = some (n, r) := by
 have hl := zde_ 7 n hn
 have ho := zgt_ n
 unfold k5_
 rw [zii_ tag _ _ om_]
 simp only [Option.bind_some]
 rw [if_neg (by simp only [not_or]; exact ⟨ho.2.2.1, by omega⟩), ho.1]
theorem zgu_ {tag : UInt8} {l r : List UInt8} {n : Nat} (h : k5_ tag l = some (n, r)) (hl : ∀ x ∈ l, x.toNat < 32) : l = y5_ tag (w0_ n) ++ r ∧ n < 32 ^ 7 := by
 unfold k5_ at h
 cases ht : zaH_ tag l with
 | none => rw [ht] at h; cases h
 | some wr =>
   obtain ⟨w, q⟩ := wr
   rw [ht] at h
   obtain ⟨e, hlen⟩ := zgs_ ht hl
   simp only [Option.bind_some] at h
   split at h
   · cases h
   · rename_i hc
     rw [not_or] at hc
     injection h with h
     obtain ⟨rfl, rfl⟩ := Prod.mk.inj h
     have hw : ∀ x ∈ w, x.toNat < 32 := fun x hx => hl x (by rw [e]; unfold y5_; simp [hx])
     rw [zma_ w hw hc.1]
     refine ⟨e, Nat.lt_of_lt_of_le (zcR_ w hw) (Nat.pow_le_pow_right om_ om_)⟩
theorem zfg_ (tag : UInt8) (t r : List UInt8) (ht : t.length ≤ 639) : v2_ tag (y5_ tag (x4_ t) ++ r) = some (t, r) := by
 have hb := zca_ t
 unfold v2_
 rw [zii_ tag _ _ om_]
 simp only [Option.bind_some]
 rw [hb.1]
 rfl
theorem zeq_ {tag : UInt8} {l t r : List UInt8} (h : v2_ tag l = some (t, r)) (hl : ∀ x ∈ l, x.toNat < 32) : l = y5_ tag (x4_ t) ++ r ∧ t.length ≤ 639 := by
 unfold v2_ at h
 cases ht : zaH_ tag l with
 | none => rw [ht] at h; cases h
 | some wr =>
   obtain ⟨w, q⟩ := wr
   rw [ht] at h
   obtain ⟨e, hlen⟩ := zgs_ ht hl
   simp only [Option.bind_some] at h
   cases hb : w7_ 5 8 false w with
   | none => rw [hb] at h; cases h
   | some b =>
     rw [hb] at h
     simp only [Option.bind_some, Option.some.injEq, Prod.mk.injEq] at h
     obtain ⟨rfl, rfl⟩ := h
     obtain ⟨h1, h2⟩ := zl6_ hb
     rw [h1]
     exact ⟨e, by omega⟩
theorem zer_ {x : Inv} (h : w3_ x = true) : x.hash.length ≤ 639 ∧ x.payee.length ≤ 639 ∧ x.memo.length ≤ 639 ∧ 0 ≤ x.st ∧ x.st < 34359738368 ∧ 0 ≤ x.ex ∧ x.ex < 34359738368 ∧ 0 ≤ x.de ∧ x.de < 2147483648 := by
 unfold w3_ at h
 simp only [Bool.and_eq_true, decide_eq_true_eq] at h
 obtain ⟨⟨⟨⟨⟨⟨⟨⟨⟨⟨_, _⟩, h1⟩, h2⟩, h3⟩, h4⟩, h5⟩, h6⟩, h7⟩, h8⟩, h9⟩ := h
 exact ⟨h1, h2, h3, h4, h5, h6, h7, h8, h9⟩
theorem zmb_ (x : Inv) (h : w3_ x = true) (hs : x.sig.length ≤ 639) : invR (allW x) = some { x with am := 0 } := by
 obtain ⟨h1, h2, h3, h4, h5, h6, h7, h8, h9⟩ := zer_ h
 have hst : y3_ 32 (z1_ 32 7 x.st.toNat) = x.st.toNat := zfb_ de_ de_ _ _ om_
 have e : allW x = z1_ 32 7 x.st.toNat ++ (y5_ 1 (x4_ x.hash) ++ (y5_ 19 (x4_ x.payee) ++ (y5_ 13 (x4_ x.memo) ++ (y5_ 6 (w0_ x.ex.toNat) ++ (y5_ 24 (w0_ x.de.toNat) ++ (y5_ 16 (x4_ x.sig) ++ [])))))) := by
  unfold allW j1_
  simp only [List.append_assoc, List.append_nil]
 have h7' := zgr_ (z1_ 32 7 x.st.toNat) (y5_ 1 (x4_ x.hash) ++ (y5_ 19 (x4_ x.payee) ++ (y5_ 13 (x4_ x.memo) ++ (y5_ 6 (w0_ x.ex.toNat) ++ (y5_ 24 (w0_ x.de.toNat) ++ (y5_ 16 (x4_ x.sig) ++ []))))))
 rw [y9_] at h7'
 unfold invR
 rw [e, h7']
 simp only [Option.bind_some]
 rw [zfg_ 1 _ _ h1]
 simp only [Option.bind_some]
 rw [zfg_ 19 _ _ h2]
 simp only [Option.bind_some]
 rw [zfg_ 13 _ _ h3]
 simp only [Option.bind_some]
 rw [zij_ 6 _ _ om_]
 simp only [Option.bind_some]
 rw [zij_ 24 _ _ om_]
 simp only [Option.bind_some]
 rw [zfg_ 16 _ _ hs]
 simp only [Option.bind_some]
 rw [hst]
 have e1 : ((x.st.toNat : Nat) : Int) = x.st := by omega
 have e2 : ((x.ex.toNat : Nat) : Int) = x.ex := by omega
 have e3 : ((x.de.toNat : Nat) : Int) = x.de := by omega
 rw [e1, e2, e3, if_pos ⟨trivial, h⟩]
theorem zmc_ {l : List UInt8} {x : Inv} (h : invR l = some x) (hl : ∀ y ∈ l, y.toNat < 32) : allW x = l ∧ w3_ x = true ∧ x.sig.length ≤ 639 ∧ x.am = 0 := by
 unfold invR at h
 obtain ⟨⟨s, l0⟩, h0, h⟩ := Option.bind_eq_some_iff.1 h
 obtain ⟨⟨ha, l1⟩, h1, h⟩ := Option.bind_eq_some_iff.1 h
 obtain ⟨⟨p, l2⟩, h2, h⟩ := Option.bind_eq_some_iff.1 h
 obtain ⟨⟨m, l3⟩, h3, h⟩ := Option.bind_eq_some_iff.1 h
 obtain ⟨⟨ex, l4⟩, h4, h⟩ := Option.bind_eq_some_iff.1 h
 obtain ⟨⟨de, l5⟩, h5, h⟩ := Option.bind_eq_some_iff.1 h
 obtain ⟨⟨g, l6⟩, h6, h⟩ := Option.bind_eq_some_iff.1 h
 simp only at h0 h1 h2 h3 h4 h5 h6 h
 split at h
 · rename_i hc
   obtain ⟨rfl, hm⟩ := hc
   injection h with h
   subst h
   obtain ⟨e0, hs7⟩ := zff_ h0
   subst e0
   have hs32 : ∀ y ∈ s, y.toNat < 32 := fun y hy => hl y (by simp [hy])
   have q0 : ∀ y ∈ l0, y.toNat < 32 := fun y hy => hl y (by simp [hy])
   obtain ⟨e1, g1⟩ := zeq_ h1 q0
   have q1 : ∀ y ∈ l1, y.toNat < 32 := fun y hy => q0 y (by rw [e1]; simp [hy])
   obtain ⟨e2, g2⟩ := zeq_ h2 q1
   have q2 : ∀ y ∈ l2, y.toNat < 32 := fun y hy => q1 y (by rw [e2]; simp [hy])
   obtain ⟨e3, g3⟩ := zeq_ h3 q2
   have q3 : ∀ y ∈ l3, y.toNat < 32 := fun y hy => q2 y (by rw [e3]; simp [hy])
   obtain ⟨e4, g4⟩ := zgu_ h4 q3
   have q4 : ∀ y ∈ l4, y.toNat < 32 := fun y hy => q3 y (by rw [e4]; simp [hy])
   obtain ⟨e5, g5⟩ := zgu_ h5 q4
   have q5 : ∀ y ∈ l5, y.toNat < 32 := fun y hy => q4 y (by rw [e5]; simp [hy])
   obtain ⟨e6, g6⟩ := zeq_ h6 q5
   refine ⟨?_, hm, g6, rfl⟩
   unfold allW j1_
   simp only [Int.toNat_natCast]
   have hd := zgp_ (by decide : 0 < 32) s hs32
   rw [hs7] at hd
   rw [hd, e1, e2, e3, e4, e5, e6]
   simp only [List.append_assoc, List.append_nil]
 · cases h
theorem zdR_ (tag : UInt8) (w : List UInt8) (ht : tag.toNat < 32) (hl : w.length < 1024) (hw : ∀ x ∈ w, x.toNat < 32) : ∀ x ∈ y5_ tag w, x.toNat < 32 := by
 intro x hx
 unfold y5_ at hx
 simp only [List.mem_cons] at hx
 rcases hx with rfl | rfl | rfl | hx
 · exact ht
 · rw [UInt8.toNat_ofNat']; omega
 · rw [UInt8.toNat_ofNat']; omega
 · exact hw x hx
theorem zfh_ (x : Inv) (h : w3_ x = true) : (∀ y ∈ j1_ x, y.toNat < 32) ∧ (j1_ x).length ≤ 3200 := by
 obtain ⟨h1, h2, h3, h4, h5, h6, h7, h8, h9⟩ := zer_ h
 have b1 := zca_ x.hash
 have b2 := zca_ x.payee
 have b3 := zca_ x.memo
 have n1 := zgt_ x.ex.toNat
 have n2 := zgt_ x.de.toNat
 have l1 := zde_ 7 x.ex.toNat om_
 have l2 := zde_ 7 x.de.toNat om_
 constructor
 · intro y hy
   unfold j1_ at hy
   simp only [List.mem_append] at hy
   rcases hy with ((((hy | hy) | hy) | hy) | hy) | hy
   · exact zfa_ de_ de_ _ _ y hy
   · exact zdR_ 1 _ de_ om_ b1.2.2 y hy
   · exact zdR_ 19 _ de_ om_ b2.2.2 y hy
   · exact zdR_ 13 _ de_ om_ b3.2.2 y hy
   · exact zdR_ 6 _ de_ om_ n1.2.1 y hy
   · exact zdR_ 24 _ de_ om_ n2.2.1 y hy
 · unfold j1_ y5_
   simp only [List.length_append, List.length_cons, y9_]
   omega
theorem zgv_ (x : Inv) (h : w3_ x = true) (hs : x.sig.length ≤ 639) : (∀ y ∈ allW x, y.toNat < 32) ∧ (allW x).length ≤ 4300 := by
 have h1 := zfh_ x h
 have b1 := zca_ x.sig
 constructor
 · intro y hy
   unfold allW at hy
   rcases List.mem_append.1 hy with hy | hy
   · exact h1.1 y hy
   · exact zdR_ 16 _ de_ om_ b1.2.2 y hy
 · unfold allW y5_
   simp only [List.length_append, List.length_cons]
   omega
theorem zmd_ {c : UInt8} (h : x7_ c = true) : hrpC c = true := by
 unfold x7_ at h
 simp only [Bool.and_eq_true, decide_eq_true_eq] at h
 unfold hrpC v8_
 simp
 omega
theorem zme_ (n : Nat) (h : n ≤ k6_) : (Lib.decDigits n).length ≤ 20 := zba_ n (by unfold k6_ at h; omega)
theorem zik_ (x : Inv) : zbI_ (hrpI x) = true := by
 have hlen : ∀ n : Nat, n ≤ k6_ → (Lib.decDigits n).length ≤ 20 ∧ ∀ c ∈ Lib.decDigits n, hrpC c = true := fun n hn => ⟨zme_ n hn, fun c hc => zmd_ (List.all_eq_true.1 (zdN_ n).1 c hc)⟩
 have hgo : ∀ m : Nat, m ≤ k6_ → (k8_ m unitL).length ≤ 22 ∧ ∀ c ∈ k8_ m unitL, hrpC c = true := by
  intro m hm
  have hdiv : ∀ k, m / k ≤ k6_ := fun k => Nat.le_trans (Nat.div_le_self m k) hm
  unfold unitL
  simp only [k8_]
  repeat' split
  · have := hlen _ (hdiv 100000000000); simp; exact ⟨by omega, this.2⟩
  · have := hlen _ (hdiv 100000000); refine ⟨by simp; omega, fun c hc => ?_⟩
    rcases List.mem_append.1 hc with hc | hc
    · exact this.2 c hc
    · simp at hc; subst hc; decide
  · have := hlen _ (hdiv 100000); refine ⟨by simp; omega, fun c hc => ?_⟩
    rcases List.mem_append.1 hc with hc | hc
    · exact this.2 c hc
    · simp at hc; subst hc; decide
  · have := hlen _ (hdiv 100); refine ⟨by simp; omega, fun c hc => ?_⟩
    rcases List.mem_append.1 hc with hc | hc
    · exact this.2 c hc
    · simp at hc; subst hc; decide
  · have := hlen _ hm; refine ⟨by simp; omega, fun c hc => ?_⟩
    rcases List.mem_append.1 hc with hc | hc
    · exact this.2 c hc
    · simp at hc; rcases hc with rfl | rfl <;> decide
 have ha : (k3_ x.am).length ≤ 22 ∧ ∀ c ∈ k3_ x.am, hrpC c = true := by
  unfold k3_
  split
  · simp
  · exact hgo _ om_
 unfold zbI_ hrpI
 simp only [Bool.and_eq_true, decide_eq_true_eq, List.all_eq_true, List.length_append]
 have : lnsw.length = 4 := rfl
 refine ⟨⟨by omega, by omega⟩, fun c hc => ?_⟩
 rcases List.mem_append.1 hc with hc | hc
 · have : ∀ c ∈ lnsw, hrpC c = true := by decide
   exact this c hc
 · exact ha.2 c hc
theorem zgw_ (x : Inv) (h : zbe_ x = 0) : zah_ x.am = 0 ∧ w3_ x = true ∧ x.sig.length ≤ 639 ∧ q1_ x.payee (bodyT x) x.sig = true := by
 unfold zbe_ at h
 split at h
 · rename_i h1; exact absurd h h1
 rename_i h1
 split at h
 · cases h
 rename_i h2
 simp only [Classical.not_not] at h1
 unfold zao_ at h1
 split at h1
 · cases h1
 rename_i h3
 split at h1
 · cases h1
 rename_i h4
 rw [not_or] at h2
 exact ⟨by simpa using h3, by simpa using h4, by omega, by simpa using h2.2⟩
theorem zmf_ (x : Inv) (h1 : zah_ x.am = 0) (h2 : w3_ x = true) (h3 : x.sig.length ≤ 639) (h4 : q1_ x.payee (bodyT x) x.sig = true) : zbe_ x = 0 := by
 have hb : zao_ x = 0 := by unfold zao_; rw [if_neg (by simp [h1]), if_neg (by simp [h2])]
 unfold zbe_
 rw [if_neg (by simp [hb]), if_neg (by simp [h4]; omega)]
theorem zil_ (x : Inv) (h : w3_ x = true) (hs : x.sig.length ≤ 639) : encE (hrpI x) (allW x) = 0 := by
 have hw := zgv_ x h hs
 have hh := zik_ x
 unfold encE
 rw [if_neg (by simp [hh]), if_neg, if_neg]
 · unfold zbI_ at hh
   simp only [Bool.and_eq_true, decide_eq_true_eq] at hh
   omega
 · simp only [List.any_eq_true, decide_eq_true_eq, not_exists, not_and]
   intro y hy
   have := hw.1 y hy
   omega
theorem zmg_ (x : Inv) (h : zbe_ x = 0) : decI (zby_ x) = (x, 0) := by
 obtain ⟨h1, h2, h3, h4⟩ := zgw_ x h
 obtain ⟨d1, d2, d3, _⟩ := zl3_ (hrpI x) (allW x) (zil_ x h2 h3)
 have hr := zlN_ x.am h1
 unfold decI zby_
 rw [d1, d2, d3]
 rw [if_neg si_, if_neg (by simp [hrpI, lnsw])]
 have hd : (hrpI x).drop 4 = k3_ x.am := by simp [hrpI, lnsw]
 rw [hd, hr, if_neg si_, zmb_ x h2 h3]
 simp only
 rw [if_pos h4]
theorem zim_ (s : List UInt8) (h : v9_ s = 0) : ∀ x ∈ k4_ s, x.toNat < 32 := by
 unfold v9_ at h
 split at h
 · cases h
 split at h
 · cases h
 split at h
 · cases h
 rename_i h2
 intro x hx
 simp only [List.any_eq_true, decide_eq_true_eq, not_exists, not_and] at h2
 have := h2 x (List.mem_of_mem_take hx)
 omega
theorem zes_ (x : Inv) : Q 1 86 (bodyT x) := by
 have h := zls_ (hexT (hrpI x ++ j1_ x)) (by rw [zep_]; omega)
 rw [zep_] at h
 exact h
theorem zmh_ (k : Nat) (hk : k ≤ 9223372036854775807) : w4_ (zcm_ k) = 80 :: zcm_ k := by
 have hq := zgh_ k hk
 have h := zlA_ hq (by simp [zcm_, head]) (by simp [zcm_, head]) om_ om_
 have hr := zdM_ hq om_ om_
 unfold pubT at h
 rw [if_pos hr] at h
 unfold made at h
 split at h
 · exact (Prod.mk.inj h).1
 · cases h
theorem zmi_ (k : Nat) (hk : k ≤ 9223372036854775807) (b : List UInt8) (hb : Q 1 86 b) : twoT 83 (zcm_ k) b = (83 :: (zcm_ k ++ b), 0) :=
 zlx_ de_ (by simp [v1_]) (zgh_ k hk) hb om_ om_
theorem zmj_ (k : Nat) (hk : k ≤ 9223372036854775807) (b : List UInt8) (hb : Q 1 86 b) : q1_ (80 :: zcm_ k) b (83 :: (zcm_ k ++ b)) = true := by
 obtain ⟨s, h1, h2, h3⟩ := zlw_ (c := 83) de_ (by simp [v1_]) (zgh_ k hk) hb om_ om_
 unfold q1_
 rw [h1]
 simp [h2, h3, zmh_ k hk]
def zbr_ : Inv := ⟨250000000, 1700000000, [72, 110, 55, 59], [80, 110, 53, 59], [116, 101, 97], 3600, 40, []⟩
def sampleI : Inv := { zbr_ with sig := 83 :: ([110, 53, 59] ++ bodyT zbr_) }
theorem zin_ : zcm_ 5 = [110, 53, 59] := by decide +kernel
theorem zio_ : w3_ zbr_ = true := by decide +kernel
theorem zmk_ : twoT 83 [110, 53, 59] (bodyT zbr_) = (sampleI.sig, 0) := by
 have := zmi_ 5 om_ (bodyT zbr_) (zes_ _)
 rw [zin_] at this
 exact this
theorem zfi_ : zbe_ sampleI = 0 := by
 have hq := (zes_ zbr_).2
 refine zmf_ sampleI de_ zio_ (by show (83 :: ([110, 53, 59] ++ bodyT zbr_)).length ≤ 639; simp; omega) ?_
 have := zmj_ 5 om_ (bodyT zbr_) (zes_ _)
 rw [zin_] at this
 exact this
theorem zip_ : hrpI sampleI = [108, 110, 115, 119, 50, 53, 48, 48, 117] := by decide +kernel
theorem zml_ : ∃ r, zby_ sampleI = [108, 110, 115, 119, 50, 53, 48, 48, 117] ++ 49 :: r := ⟨_, by unfold zby_ encT; rw [zip_]⟩
theorem zmm_ : 10 ≤ (zby_ sampleI).length ∧ (zby_ sampleI).length ≤ 32768 ∧ (zby_ sampleI).take 9 = [108, 110, 115, 119, 50, 53, 48, 48, 117] := by
 obtain ⟨r, h⟩ := zml_
 obtain ⟨h1, h2, h3, h4⟩ := zgw_ _ zfi_
 have h5 := (zgv_ sampleI h2 h3).2
 refine ⟨by rw [h]; simp, ?_, by rw [h]; rfl⟩
 unfold zby_ encT
 rw [zip_]
 simp [sixW]
 omega
def s8V (s : S8) : Value := .agg #[.int .u32 s.a, .int .u32 s.b, .int .u32 s.c, .int .u32 s.d, .int .u32 s.e, .int .u32 s.f, .int .u32 s.g, .int .u32 s.h]
def s8C (s : S8) : Array Value := #[.int .u32 s.a, .int .u32 s.b, .int .u32 s.c, .int .u32 s.d, .int .u32 s.e, .int .u32 s.f, .int .u32 s.g, .int .u32 s.h]
theorem zmn_ (x : Int) (w : World) : Calls Tryz.prog 178 #[.int .u32 x, .int .i64 (-7)] w fun e w' => e = .returned (.int .u32 (rotr 7 x)) ∧ w' = w := by
 have h1 : bits .and .u64 (IntKind.u64.wrap (-7)) 31 = 25 := by decide
 go_enter Tryz.func178, Tryz.ntmps178
 go_wp2
 go_ret
 exact ⟨rfl, rfl⟩
theorem zmo_ (x : Int) (w : World) : Calls Tryz.prog 178 #[.int .u32 x, .int .i64 (-18)] w fun e w' => e = .returned (.int .u32 (rotr 18 x)) ∧ w' = w := by
 have h1 : bits .and .u64 (IntKind.u64.wrap (-18)) 31 = 14 := by decide
 go_enter Tryz.func178, Tryz.ntmps178
 go_wp2
 go_ret
 exact ⟨rfl, rfl⟩
theorem zmp_ (x : Int) (w : World) : Calls Tryz.prog 178 #[.int .u32 x, .int .i64 (-17)] w fun e w' => e = .returned (.int .u32 (rotr 17 x)) ∧ w' = w := by
 have h1 : bits .and .u64 (IntKind.u64.wrap (-17)) 31 = 15 := by decide
 go_enter Tryz.func178, Tryz.ntmps178
 go_wp2
 go_ret
 exact ⟨rfl, rfl⟩
theorem zmq_ (x : Int) (w : World) : Calls Tryz.prog 178 #[.int .u32 x, .int .i64 (-19)] w fun e w' => e = .returned (.int .u32 (rotr 19 x)) ∧ w' = w := by
 have h1 : bits .and .u64 (IntKind.u64.wrap (-19)) 31 = 13 := by decide
 go_enter Tryz.func178, Tryz.ntmps178
 go_wp2
 go_ret
 exact ⟨rfl, rfl⟩
theorem zmr_ (x : Int) (w : World) : Calls Tryz.prog 178 #[.int .u32 x, .int .i64 (-6)] w fun e w' => e = .returned (.int .u32 (rotr 6 x)) ∧ w' = w := by
 have h1 : bits .and .u64 (IntKind.u64.wrap (-6)) 31 = 26 := by decide
 go_enter Tryz.func178, Tryz.ntmps178
 go_wp2
 go_ret
 exact ⟨rfl, rfl⟩
theorem zms_ (x : Int) (w : World) : Calls Tryz.prog 178 #[.int .u32 x, .int .i64 (-11)] w fun e w' => e = .returned (.int .u32 (rotr 11 x)) ∧ w' = w := by
 have h1 : bits .and .u64 (IntKind.u64.wrap (-11)) 31 = 21 := by decide
 go_enter Tryz.func178, Tryz.ntmps178
 go_wp2
 go_ret
 exact ⟨rfl, rfl⟩
theorem zmt_ (x : Int) (w : World) : Calls Tryz.prog 178 #[.int .u32 x, .int .i64 (-25)] w fun e w' => e = .returned (.int .u32 (rotr 25 x)) ∧ w' = w := by
 have h1 : bits .and .u64 (IntKind.u64.wrap (-25)) 31 = 7 := by decide
 go_enter Tryz.func178, Tryz.ntmps178
 go_wp2
 go_ret
 exact ⟨rfl, rfl⟩
theorem ziq_ (x : Int) (w : World) : Calls Tryz.prog 178 #[.int .u32 x, .int .i64 (-2)] w fun e w' => e = .returned (.int .u32 (rotr 2 x)) ∧ w' = w := by
 have h1 : bits .and .u64 (IntKind.u64.wrap (-2)) 31 = 30 := by decide
 go_enter Tryz.func178, Tryz.ntmps178
 go_wp2
 go_ret
 exact ⟨rfl, rfl⟩
theorem zir_ (x : Int) (w : World) : Calls Tryz.prog 178 #[.int .u32 x, .int .i64 (-13)] w fun e w' => e = .returned (.int .u32 (rotr 13 x)) ∧ w' = w := by
 have h1 : bits .and .u64 (IntKind.u64.wrap (-13)) 31 = 19 := by decide
 go_enter Tryz.func178, Tryz.ntmps178
 go_wp2
 go_ret
 exact ⟨rfl, rfl⟩
theorem zis_ (x : Int) (w : World) : Calls Tryz.prog 178 #[.int .u32 x, .int .i64 (-22)] w fun e w' => e = .returned (.int .u32 (rotr 22 x)) ∧ w' = w := by
 have h1 : bits .and .u64 (IntKind.u64.wrap (-22)) 31 = 10 := by decide
 go_enter Tryz.func178, Tryz.ntmps178
 go_wp2
 go_ret
 exact ⟨rfl, rfl⟩
theorem zmu_ (w : World) : Calls Tryz.prog 155 #[] w fun e w' => e = .returned (s8V zbd_) ∧ Below w.heap.size w w' := by
 go_enter Tryz.func155, Tryz.ntmps155
 go_wp2
 exact bodyPost_ret (v := s8V zbd_) (by simp [results, Tryz.results155, go_sem, s8V, zbd_]) rfl ⟨rfl, bl_⟩
def q0_ (t : Array Value) : List (Option Nat) → List Value → Array Value
 | some d :: ds, v :: vs => q0_ (t.setIfInBounds d v) ds vs
 | none :: ds, _ :: vs => q0_ t ds vs
 | _, _ => t
theorem zfj_ : ∀ (ds : List (Option Nat)) (vs : List Value) (t : Array Value) (k : Nat), some k ∉ ds → (q0_ t ds vs)[k]? = t[k]?
 | [], vs, t, k, _ => by cases vs <;> rfl
 | some d :: ds, [], t, k, _ => rfl
 | none :: ds, [], t, k, _ => rfl
 | some d :: ds, v :: vs, t, k, h => by
   have h1 : d ≠ k := fun e => h (by rw [e]; simp)
   rw [q0_, zfj_ ds vs _ k (fun e => h (by simp [e])), Array.getElem?_setIfInBounds_ne h1]
 | none :: ds, v :: vs, t, k, h => by rw [q0_, zfj_ ds vs _ k (fun e => h (by simp [e]))]
def Distinct : List (Option Nat) → Prop
 | [] => True
 | some d :: ds => some d ∉ ds ∧ Distinct ds
 | none :: ds => Distinct ds
def zfk_ : List (Option Nat) → Bool
 | [] => true
 | some d :: ds => !ds.contains (some d) && zfk_ ds
 | none :: ds => zfk_ ds
theorem zdf_ : ∀ ds, zfk_ ds = true → Distinct ds
 | [], _ => trivial
 | some d :: ds, h => by
   simp only [zfk_, Bool.and_eq_true, Bool.not_eq_true'] at h
   refine ⟨fun hm => ?_, zdf_ ds h.2⟩
   have h1 := List.contains_iff_mem.2 hm
   rw [h.1] at h1
   cases h1
 | none :: ds, h => zdf_ ds h
theorem zfl_ : ∀ (ds : List (Option Nat)) (vs : List Value) (t : Array Value) (i d : Nat) (v : Value), Distinct ds → ds[i]? = some (some d) → vs[i]? = some v → d < t.size → (q0_ t ds vs)[d]? = some v
 | [], _, _, _, _, _, _, h, _, _ => by simp at h
 | some e :: ds, [], _, _, _, _, _, _, h, _ => by simp at h
 | none :: ds, [], _, _, _, _, _, _, h, _ => by simp at h
 | some e :: ds, u :: vs, t, 0, d, v, hD, h, hv, hl => by
   simp only [List.getElem?_cons_zero, Option.some.injEq] at h hv
   subst h hv
   rw [q0_, zfj_ ds vs _ e hD.1, Array.getElem?_setIfInBounds_self_of_lt hl]
 | none :: ds, u :: vs, t, 0, d, v, hD, h, hv, hl => by simp at h
 | some e :: ds, u :: vs, t, i + 1, d, v, hD, h, hv, hl => by
   simp only [List.getElem?_cons_succ] at h hv
   rw [q0_]
   exact zfl_ ds vs _ i d v hD.2 h hv (by simpa using hl)
 | none :: ds, u :: vs, t, i + 1, d, v, hD, h, hv, hl => by
   simp only [List.getElem?_cons_succ] at h hv
   rw [q0_]
   exact zfl_ ds vs _ i d v hD h hv hl
theorem zgx_ : ∀ (ds : List (Option Nat)) (vs : List Value) (t : Array Value) (i d : Nat) (v : Value), Distinct ds → ds[i]? = some (some d) → i < vs.length → (q0_ t ds vs).setIfInBounds d v = q0_ t ds (vs.set i v)
 | [], _, _, _, _, _, _, h, _ => by simp at h
 | some e :: ds, [], _, _, _, _, _, _, h => by simp at h
 | none :: ds, [], _, _, _, _, _, _, h => by simp at h
 | some e :: ds, u :: vs, t, 0, d, v, hD, h, _ => by
   simp only [List.getElem?_cons_zero, Option.some.injEq] at h
   subst h
   rw [List.set_cons_zero, q0_, q0_]
   have : ∀ (ds : List (Option Nat)) (vs : List Value) (t : Array Value), some e ∉ ds → (q0_ t ds vs).setIfInBounds e v = q0_ (t.setIfInBounds e v) ds vs := by
    intro ds
    induction ds with
    | nil => intro vs t _; cases vs <;> rfl
    | cons x ds ih =>
      intro vs t hx
      cases vs with
      | nil => cases x <;> rfl
      | cons y vs =>
        cases x with
        | none => rw [q0_, q0_, ih vs t (fun h => hx (by simp [h]))]
        | some z =>
          have hz : z ≠ e := fun h => hx (by simp [h])
          rw [q0_, q0_, ih vs _ (fun h => hx (by simp [h])), Array.setIfInBounds_comm _ _ hz]
   rw [this ds vs _ hD.1, Array.setIfInBounds_setIfInBounds]
 | none :: ds, u :: vs, t, 0, d, v, hD, h, _ => by simp at h
 | some e :: ds, u :: vs, t, i + 1, d, v, hD, h, hi => by
   simp only [List.getElem?_cons_succ] at h
   rw [List.set_cons_succ, q0_, q0_]
   exact zgx_ ds vs _ i d v hD.2 h (by simpa using hi)
 | none :: ds, u :: vs, t, i + 1, d, v, hD, h, hi => by
   simp only [List.getElem?_cons_succ] at h
   rw [List.set_cons_succ, q0_, q0_]
   exact zgx_ ds vs _ i d v hD h (by simpa using hi)
theorem zgy_ : ∀ (ds : List (Option Nat)) (vs : List Value) (t : Array Value) (i : Nat) (v : Value), ds[i]? = some none → q0_ t ds (vs.set i v) = q0_ t ds vs
 | [], _, _, _, _, h => by simp at h
 | some e :: ds, [], _, _, _, h => rfl
 | none :: ds, [], _, _, _, h => rfl
 | some e :: ds, u :: vs, t, 0, v, h => by simp at h
 | none :: ds, u :: vs, t, 0, v, h => rfl
 | some e :: ds, u :: vs, t, i + 1, v, h => by
   simp only [List.getElem?_cons_succ] at h
   rw [List.set_cons_succ, q0_, q0_]
   exact zgy_ ds vs _ i v h
 | none :: ds, u :: vs, t, i + 1, v, h => by
   simp only [List.getElem?_cons_succ] at h
   rw [List.set_cons_succ, q0_, q0_]
   exact zgy_ ds vs _ i v h
def zet_ (t : Array Value) (ds : List (Option Nat)) : List Value := ds.map fun d => match d with | some d => t.getD d undef | none => undef
theorem zgz_ : ∀ (ds : List (Option Nat)) (t : Array Value), q0_ t ds (zet_ t ds) = t
 | [], t => rfl
 | some d :: ds, t => by
   have e : t.setIfInBounds d (t.getD d undef) = t := by
    apply Array.ext
    · simp
    · intro i h1 h2
      rw [Array.getElem_setIfInBounds h2]
      split
      · rename_i hd
        subst hd
        simp [Array.getD, h2]
      · rfl
   show q0_ (t.setIfInBounds d (t.getD d undef)) ds (zet_ t ds) = t
   rw [e]
   exact zgz_ ds t
 | none :: ds, t => zgz_ ds t
def unl : List Bool → Nat
 | [] => 0
 | b :: r => (if b then 0 else 1) + unl r
theorem zgA_ : ∀ (l : List Bool) (i : Nat), l[i]? = some false → unl (l.set i true) + 1 = unl l
 | [], i, h => by simp at h
 | b :: r, 0, h => by
   simp only [List.getElem?_cons_zero, Option.some.injEq] at h
   subst h
   simp [unl]; omega
 | b :: r, i + 1, h => by
   simp only [List.getElem?_cons_succ] at h
   have := zgA_ r i h
   simp only [List.set_cons_succ, unl]
   omega
theorem zgB_ : ∀ (l : List Bool), unl l = 0 → ∀ (i : Nat) (b : Bool), l[i]? = some b → b = true
 | [], _, i, b, h => by simp at h
 | c :: r, h0, 0, b, h => by
   simp only [List.getElem?_cons_zero, Option.some.injEq] at h
   subst h
   cases c with
   | true => rfl
   | false => simp [unl] at h0
 | c :: r, h0, i + 1, b, h => by
   simp only [List.getElem?_cons_succ] at h
   exact zgB_ r (by simp only [unl] at h0; omega) i b h
theorem zit_ : ∀ n, unl (List.replicate n false) = n
 | 0 => rfl
 | n + 1 => by rw [List.replicate_succ, unl, zit_ n]; simp; omega
section
variable {P : Program} {ops : Array Oper} {Q : Exit → Act → World → Prop} {a0 : Act} {w0 : World} {ds : List (Option Nat)}
def GLT (_ _ : World) : Prop := True
theorem ziu_ {listed : Array Bool} (hls : listed.size = ops.size) (hdep : ∀ (i : Nat) (o : Oper), ops[i]? = some o → ∀ e ∈ o.after.toList, e.on < i) (h : Region.ready .any ops listed = []) : ∀ i, i < ops.size → listed[i]? = some true := by
 intro i
 induction i using Nat.strongRecOn with
 | _ i ih =>
   intro hi
   cases hb : listed[i]'om_ with
   | true => rw [Array.getElem?_eq_getElem om_, hb]
   | false =>
     have : i ∈ Region.ready .any ops listed := by
      unfold Region.ready
      rw [List.mem_filter]
      refine ⟨List.mem_range.2 hi, ?_⟩
      have e1 : listed.getD i true = false := by simp [Array.getD, hls, hi, hb]
      rw [e1, Array.getElem?_eq_getElem hi]
      simp only [Bool.not_false, Bool.true_and, Option.map_some, Option.getD_some]
      rw [Array.all_eq_true]
      intro k hk
      have hlt := hdep i ops[i] (Array.getElem?_eq_getElem hi) (ops[i].after[k]) si_
      have := ih _ hlt om_
      have e2 : listed.getD ops[i].after[k].on false = true := by
       rw [Array.getD_eq_getD_getElem?, this]; rfl
      rw [e2, Bool.or_true]
     rw [h] at this
     cases this
def depB : Nat → List Oper → Bool
 | _, [] => true
 | i, o :: r => o.after.toList.all (fun e => decide (e.on < i)) && depB (i + 1) r
theorem ziv_ : ∀ (l : List Oper) (k j : Nat) (o : Oper), depB k l = true → l[j]? = some o → ∀ e ∈ o.after.toList, e.on < k + j
 | [], _, _, _, _, h => by simp at h
 | x :: r, k, 0, o, hs, h => by
   simp only [List.getElem?_cons_zero, Option.some.injEq] at h
   subst h
   simp only [depB, Bool.and_eq_true, List.all_eq_true, decide_eq_true_eq] at hs
   exact hs.1
 | x :: r, k, j + 1, o, hs, h => by
   simp only [List.getElem?_cons_succ] at h
   simp only [depB, Bool.and_eq_true] at hs
   have := ziv_ r (k + 1) j o hs.2 h
   rwa [show k + 1 + j = k + (j + 1) by omega] at this
theorem ziw_ {l : List Oper} (hs : depB 0 l = true) (i : Nat) (o : Oper) (h : l.toArray[i]? = some o) : ∀ e ∈ o.after.toList, e.on < i := by
 have := ziv_ l 0 i o hs (by simpa using h)
 rwa [Nat.zero_add] at this
def ltB (n : Nat) : List (Option Nat) → Bool
 | [] => true
 | some d :: r => decide (d < n) && ltB n r
 | none :: r => ltB n r
theorem zdg_ {n : Nat} : ∀ (l : List (Option Nat)), ltB n l = true → ∀ d, some d ∈ l → d < n
 | [], _, d, h => by simp at h
 | some e :: r, hs, d, h => by
   simp only [ltB, Bool.and_eq_true, decide_eq_true_eq] at hs
   rcases List.mem_cons.1 h with h | h
   · injection h with h; omega
   · exact zdg_ r hs.2 d h
 | none :: r, hs, d, h => by
   rcases List.mem_cons.1 h with h | h
   · cases h
   · exact zdg_ r hs d h
theorem z6_ {α : Type} {n : Nat} {l : List α} (h : l.length = n + 1) : ∃ a r, l = a :: r ∧ r.length = n := by
 cases l with
 | nil => simp at h
 | cons a r => exact ⟨a, r, rfl, by simpa using h⟩
def zdh_ (ops : Array Oper) : Nat → Nat → Nat → Bool
 | 0, _, _ => false
 | f + 1, i, k => match ops[i]? with
   | none => false
   | some o => o.after.toList.any fun e => Region.binds .any e && (e.on == k || zdh_ ops f e.on k)
def Closed (ops : Array Oper) (listed : Array Bool) : Prop := ∀ (i : Nat) (o : Oper), listed[i]? = some true → ops[i]? = some o → ∀ e ∈ o.after.toList, Region.binds .any e = true → listed[e.on]? = some true
theorem zgC_ {listed : Array Bool} (hc : Closed ops listed) : ∀ (f i k : Nat) (o : Oper), ops[i]? = some o → (∀ e ∈ o.after.toList, Region.binds .any e = true → listed[e.on]? = some true) → zdh_ ops f i k = true → listed[k]? = some true
 | 0, _, _, _, _, _, h => by simp [zdh_] at h
 | f + 1, i, k, o, ho, hd, h => by
   rw [zdh_, ho] at h
   simp only [List.any_eq_true, Bool.and_eq_true, Bool.or_eq_true, beq_iff_eq] at h
   obtain ⟨e, he, hb, h⟩ := h
   have hl := hd e he hb
   rcases h with h | h
   · rw [← h]; exact hl
   · cases ho2 : ops[e.on]? with
     | none =>
       cases f with
       | zero => simp [zdh_] at h
       | succ f => rw [zdh_, ho2] at h; cases h
     | some o2 => exact zgC_ hc f e.on k o2 ho2 (fun e2 he2 hb2 => hc _ _ hl ho2 e2 he2 hb2) h
def zdS_ (ops : Array Oper) (n1 f : Nat) : Bool := (List.range ops.size).all fun i => decide (i < n1) || (List.range i).all fun k => zdh_ ops f i k
theorem zix_ {n1 f : Nat} (h : zdS_ ops n1 f = true) {i k : Nat} (h1 : n1 ≤ i) (h2 : i < ops.size) (h3 : k < i) : zdh_ ops f i k = true := by
 unfold zdS_ at h
 rw [List.all_eq_true] at h
 have := h i (List.mem_range.2 h2)
 rw [Bool.or_eq_true, decide_eq_true_eq] at this
 rcases this with h | h
 · omega
 · rw [List.all_eq_true] at h
   exact h k (List.mem_range.2 h3)
theorem zmv_ {listed : Array Bool} {i : Nat} (h : listed.getD i false = true) : listed[i]? = some true := by
 rw [Array.getD_eq_getD_getElem?] at h
 cases hq : listed[i]? with
 | none => rw [hq] at h; cases h
 | some b => rw [hq] at h; simp at h; rw [h]
theorem ziy_ {listed : Array Bool} {i : Nat} (h : i ∈ Region.ready .any ops listed) : ∃ o, ops[i]? = some o ∧ i < ops.size ∧ (listed.size = ops.size → listed[i]? = some false) ∧ ∀ e ∈ o.after.toList, Region.binds .any e = true → listed[e.on]? = some true := by
 unfold Region.ready at h
 rw [List.mem_filter, List.mem_range] at h
 obtain ⟨hlt, hr⟩ := h
 rw [Array.getElem?_eq_getElem hlt] at hr
 simp only [Option.map_some, Option.getD_some, Bool.and_eq_true, Bool.not_eq_true'] at hr
 obtain ⟨hr1, hr2⟩ := hr
 refine ⟨ops[i], Array.getElem?_eq_getElem hlt, hlt, fun hs => ?_, fun e he hb => ?_⟩
 · rw [Array.getD_eq_getD_getElem?] at hr1
   cases hq : listed[i]? with
   | none => rw [hq] at hr1; cases hr1
   | some b => rw [hq] at hr1; simp at hr1; rw [hr1]
 · rw [Array.all_eq_true] at hr2
   obtain ⟨k, hk, rfl⟩ := Array.mem_iff_getElem.1 (Array.mem_toList_iff.1 he)
   have := hr2 k hk
   rw [hb] at this
   simp only [Bool.not_true, Bool.false_or] at this
   exact zmv_ this
theorem ziz_ {n1 f : Nat} (hdep : ∀ (i : Nat) (o : Oper), ops[i]? = some o → ∀ e ∈ o.after.toList, e.on < i) (ht : zdS_ ops n1 f = true) : ∀ (fuel m : Nat) (listed : Array Bool) (a : Act) (w : World), n1 ≤ m → m ≤ ops.size → listed.size = ops.size → (∀ i, i < m → listed[i]? = some true) → (∀ i, m ≤ i → i < ops.size → listed[i]? = some false) →
  unl listed.toList = fuel → wpOps P ops Q (List.range' m (ops.size - m)) a w → wpAny P .any ops Q fuel listed a w := by
 intro fuel
 induction fuel with
 | zero =>
   intro m listed a w h1 h2 hs hl hr hu hw
   have hm : m = ops.size := by
    by_cases h : m = ops.size
    · exact h
    · have := zgB_ _ hu m false (by rw [Array.getElem?_toList]; exact hr m (Nat.le_refl _) om_)
      cases this
   subst hm
   rw [Nat.sub_self] at hw
   refine ⟨?_, hw⟩
   unfold Region.ready
   rw [List.filter_eq_nil_iff]
   intro i hi
   rw [List.mem_range] at hi
   have e1 : listed.getD i true = true := by rw [Array.getD_eq_getD_getElem?, hl i hi]; rfl
   rw [e1]; simp
 | succ fuel ih =>
   intro m listed a w h1 h2 hs hl hr hu hw
   have hm : m < ops.size := by
    by_cases h : m = ops.size
    · exfalso
      have hz : ∀ (l : List Bool), (∀ (i : Nat), i < l.length → l[i]? = some true) → unl l = 0 := by
       intro l
       induction l with
       | nil => intro _; rfl
       | cons b r ihl =>
         intro hb
         have := hb 0 si_
         simp at this
         subst this
         rw [unl, ihl (fun i hi => by have := hb (i + 1) (by simpa using hi); simpa using this)]; rfl
      have := hz listed.toList (fun i hi => by rw [Array.getElem?_toList]; exact hl i (by rw [Array.length_toList] at hi; omega))
      omega
    · omega
   have hclosed : Closed ops listed := by
    intro i o hi ho e he _
    have hlt := hdep i o ho e he
    have : i < m := by
     by_cases h : i < m
     · exact h
     · have hio : i < ops.size := (Array.getElem?_eq_some_iff.1 ho).1
       rw [hr i om_ hio] at hi
       cases hi
    exact hl _ om_
   refine ⟨fun hn => ?_, fun i hi => ?_⟩
   · have := ziu_ hs hdep hn m hm
     rw [hr m (Nat.le_refl _) hm] at this
     cases this
   · obtain ⟨o, ho, hlt, hli, hd⟩ := ziy_ hi
     have hli := hli hs
     have him : i = m := by
      by_cases h : i < m
      · rw [hl i h] at hli; cases hli
      · by_cases h5 : i = m
        · exact h5
        · have := zgC_ hclosed f i m o ho hd (zix_ ht om_ hlt om_)
          rw [hr m (Nat.le_refl _) hm] at this
          cases this
     subst him
     rw [show ops.size - i = (ops.size - (i + 1)) + 1 by omega, List.range'_succ, wpOps_cons] at hw
     refine wpOp_mono (fun a' w' h => ?_) hw
     refine ih (i + 1) _ a' w' om_ om_ (by simpa using hs) (fun j hj => ?_) (fun j hj hj2 => ?_) ?_ h
     · by_cases hji : j = i
       · subst hji
         rw [Array.getElem?_setIfInBounds_self_of_lt om_]
       · rw [Array.getElem?_setIfInBounds_ne (fun e => hji e.symm)]
         exact hl j om_
     · rw [Array.getElem?_setIfInBounds_ne om_]
       exact hr j om_ hj2
     · have := zgA_ listed.toList i (by rw [Array.getElem?_toList]; exact hli)
       rw [Array.toList_setIfInBounds]
       omega
theorem zmw_ {i : Nat} {rest : List Nat} {o : Oper} {a : Act} {w : World} (ho : ops[i]? = some o) (hg : o.guard = none) (h : ∀ K, (∀ a w, wpOps P ops Q rest a w → K a w) → o.wp P a w K Q) : wpOps P ops Q (i :: rest) a w := by
 rw [wpOps, ho]
 simp only
 rw [if_pos (by simp [Region.wanted, hg])]
 exact .inl (h _ (fun _ _ h => h))
def updV (m : Nat → Option Value) (i : Nat) (v : Value) : Nat → Option Value := fun j => if j = i then some v else m j
def mOf (listed : Array Bool) (vs : List Value) : Nat → Option Value := fun i => if listed[i]? = some true then vs[i]? else none
theorem zmx_ {listed : Array Bool} {vs : List Value} {i : Nat} {v : Value} (h1 : i < listed.size) (h2 : i < vs.length) : mOf (listed.setIfInBounds i true) (vs.set i v) = updV (mOf listed vs) i v := by
 funext j
 unfold mOf updV
 by_cases h : j = i
 · subst h
   rw [if_pos rfl, Array.getElem?_setIfInBounds_self_of_lt h1, if_pos rfl, List.getElem?_set_self h2]
 · rw [if_neg h, Array.getElem?_setIfInBounds_ne (fun e => h e.symm), List.getElem?_set_ne (fun e => h e.symm)]
def zmy_ (P : Program) (ops : Array Oper) (Q : Exit → Act → World → Prop) (a0 : Act) (w0 : World) (ds : List (Option Nat)) (J : (Nat → Option Value) → World → Prop) (i : Nat) (o : Oper) : Prop :=
 ∀ (a : Act) (w : World) (m : Nat → Option Value), GLT w0 w → (∀ t, some t ∉ ds → a.tmps[t]? = a0.tmps[t]?) → J m w → m i = none →
  (∀ e ∈ o.after.toList, Region.binds .any e = true → ∃ v, m e.on = some v) → (∀ j v d, m j = some v → ds[j]? = some (some d) → a.tmps[d]? = some v) →
    ∀ K : Act → World → Prop, (∀ v w', J (updV m i v) w' → GLT w w' → K (a.put o.dst v) w') →
     if Region.wanted o (yielded ops a.tmps) = true then o.wp P a w K Q else K (a.put o.dst undef) w
theorem ziA_ {J : (Nat → Option Value) → World → Prop} {id : Nat} (n1 f : Nat) (hn1 : n1 ≤ ops.size) (hm : P.follows .mixedOrders = true) (hds : ds = (ops.toList.take n1).map (·.dst)) (hD : Distinct ds) (hsz : ∀ d, some d ∈ ds → d < a0.tmps.size)
  (hdep : ∀ (i : Nat) (o : Oper), ops[i]? = some o → ∀ e ∈ o.after.toList, e.on < i) (ht : zdS_ ops n1 f = true)
  (hJ0 : J (fun _ => none) w0.drew)
  (hsteps : ∀ i o, i < n1 → ops[i]? = some o → zmy_ P ops Q a0 w0.drew ds J i o)
  (hend : ∀ vs w', vs.length = ds.length → J (fun i => vs[i]?) w' → GLT w0.drew w' → wpOps P ops Q (List.range' n1 (ops.size - n1)) { a0 with tmps := q0_ a0.tmps ds vs } w') :
  (Code.region id ops true).wp P Q a0 w0 := by
 refine wp_region_any hm ?_
 have hlen : ds.length = n1 := by rw [hds]; simp; omega
 have main : ∀ (fuel : Nat) (listed : Array Bool) (vs : List Value) (w : World), vs.length = ds.length → GLT w0.drew w → listed.size = ops.size → J (mOf listed vs) w → (∀ i, n1 ≤ i → i < ops.size → listed[i]? = some false) → Closed ops listed →
   unl listed.toList = fuel → wpAny P .any ops Q fuel listed { a0 with tmps := q0_ a0.tmps ds vs } w := by
  intro fuel
  induction fuel with
  | zero =>
    intro listed vs w h1 h2 h3 h4 h5 hc hu
    have hall : ∀ i, i < n1 → listed[i]? = some true := by
     intro i hi
     have h := zgB_ _ hu i (listed[i]'om_) (by rw [Array.getElem?_toList]; exact Array.getElem?_eq_getElem _)
     rw [Array.getElem?_eq_getElem om_, h]
    exact ziz_ hdep ht 0 n1 listed _ w (Nat.le_refl _) hn1 h3 hall h5 hu (hend vs w h1 (by
     have e : mOf listed vs = fun i => vs[i]? := by
      funext i
      unfold mOf
      by_cases hi : i < n1
      · rw [if_pos (hall i hi)]
      · by_cases hq : listed[i]? = some true
        · rw [if_pos hq]
        · rw [if_neg hq, List.getElem?_eq_none om_]
     rw [← e]; exact h4) h2)
  | succ fuel ih =>
    intro listed vs w h1 h2 h3 h4 h5 hc hu
    by_cases hall : ∀ i, i < n1 → listed[i]? = some true
    · exact ziz_ hdep ht (fuel + 1) n1 listed _ w (Nat.le_refl _) hn1 h3 hall h5 hu (hend vs w h1 (by
      have e : mOf listed vs = fun i => vs[i]? := by
       funext i
       unfold mOf
       by_cases hi : i < n1
       · rw [if_pos (hall i hi)]
       · by_cases hq : listed[i]? = some true
         · rw [if_pos hq]
         · rw [if_neg hq, List.getElem?_eq_none om_]
      rw [← e]; exact h4) h2)
    · refine ⟨fun hr => absurd (fun i hi => ziu_ h3 hdep hr i om_) hall, fun i hi => ?_⟩
      obtain ⟨o, ho, hlt, hli, hd⟩ := ziy_ hi
      have hli := hli h3
      have hin : i < n1 := by
       by_cases h : i < n1
       · exact h
       · exact absurd (fun k hk => zgC_ hc f i k o ho hd (zix_ ht om_ hlt om_)) hall
      have hdi : ds[i]? = some o.dst := by
       rw [hds, List.getElem?_map, List.getElem?_take_of_lt hin, Array.getElem?_toList, ho]; rfl
      have hmi : mOf listed vs i = none := by unfold mOf; rw [hli]; simp
      have hst := hsteps i o hin ho { a0 with tmps := q0_ a0.tmps ds vs } w (mOf listed vs) h2 (fun t ht => zfj_ _ _ _ _ ht) h4 hmi (fun e he hb => by
       have hl := hd e he hb
       have hlt2 := hdep i o ho e he
       unfold mOf
       rw [if_pos hl]
       exact ⟨vs[e.on]'om_, List.getElem?_eq_getElem _⟩) (fun j v d hj hdj => by
       unfold mOf at hj
       split at hj
       · exact zfl_ _ _ _ _ _ _ hD hdj hj (hsz d (List.mem_of_getElem? hdj))
       · cases hj)
      have hnext : ∀ v w', J (updV (mOf listed vs) i v) w' → GLT w w' → wpAny P .any ops Q fuel (listed.setIfInBounds i true) (({ a0 with tmps := q0_ a0.tmps ds vs } : Act).put o.dst v) w' := by
       intro v w' hG hg
       have e1 : (({ a0 with tmps := q0_ a0.tmps ds vs } : Act).put o.dst v) = { a0 with tmps := q0_ a0.tmps ds (vs.set i v) } := by
        cases hd : o.dst with
        | none => rw [hd] at hdi; rw [zgy_ _ _ _ _ _ hdi]; rfl
        | some d =>
          rw [hd] at hdi
          rw [← zgx_ _ _ _ i d v hD hdi om_]; rfl
       rw [e1]
       refine ih _ _ _ (by simpa using h1) (trivial) (by simpa using h3) (by rw [zmx_ om_ om_]; exact hG) (fun j hj1 hj2 => ?_) (fun j oj hj hoj e he hb => ?_) ?_
       · rw [Array.getElem?_setIfInBounds_ne om_]
         exact h5 j hj1 hj2
       · have : listed[e.on]? = some true := by
          by_cases hji : j = i
          · subst hji
            rw [ho] at hoj
            cases hoj
            exact hd e he hb
          · rw [Array.getElem?_setIfInBounds_ne (fun e => hji e.symm)] at hj
            exact hc j oj hj hoj e he hb
         by_cases hei : e.on = i
         · rw [hei, Array.getElem?_setIfInBounds_self_of_lt om_]
         · rw [Array.getElem?_setIfInBounds_ne (fun h => hei h.symm)]
           exact this
       · have := zgA_ listed.toList i (by rw [Array.getElem?_toList]; exact hli)
         rw [Array.toList_setIfInBounds]
         omega
      unfold wpOp
      rw [ho]
      have hst2 := hst _ hnext
      simp only
      split
      · rename_i hw
        rw [if_pos hw] at hst2
        exact .inl hst2
      · rename_i hw
        rw [if_neg hw] at hst2
        exact hst2
 have h0 := main (unl (Array.replicate ops.size false).toList) (Array.replicate ops.size false) (zet_ a0.tmps ds) w0.drew (by simp [zet_]) trivial si_ (by
  have e : mOf (Array.replicate ops.size false) (zet_ a0.tmps ds) = fun _ => none := by
   funext i
   unfold mOf
   rw [if_neg]
   rw [Array.getElem?_replicate]
   split <;> simp
  rw [e]; exact hJ0) (fun i _ hi => by rw [Array.getElem?_replicate, if_pos hi]) (fun i o h => by
  rw [Array.getElem?_replicate] at h
  split at h <;> simp at h) rfl
 rw [zgz_, Array.toList_replicate, zit_] at h0
 exact h0
end
section
variable {P : Program} {ops : Array Oper} {Q : Exit → Act → World → Prop} {a0 : Act} {w0 : World} {ds : List (Option Nat)}
def y4_ (P : Program) (ops : Array Oper) (Q : Exit → Act → World → Prop) (a0 : Act) (ds : List (Option Nat)) (I : World → Prop) (G : Nat → Value → Prop) (i : Nat) (o : Oper) : Prop :=
 ∀ (a : Act) (w : World), (∀ t, some t ∉ ds → a.tmps[t]? = a0.tmps[t]?) → I w →
  (∀ e ∈ o.after.toList, Region.binds .any e = true → ∃ v, G e.on v ∧ ∀ d, ds[e.on]? = some (some d) → a.tmps[d]? = some v) →
  ∀ K : Act → World → Prop, (∀ v w', G i v → I w' → K (a.put o.dst v) w') →
   if Region.wanted o (yielded ops a.tmps) = true then o.wp P a w K Q else K (a.put o.dst undef) w
def zgD_ (P : Program) (ops : Array Oper) (Q : Exit → Act → World → Prop) (a0 : Act) (ds : List (Option Nat)) (I : World → Prop) (G : Nat → Value → Prop) : Nat → List Oper → Prop
 | _, [] => True
 | i, o :: r => y4_ P ops Q a0 ds I G i o ∧ zgD_ P ops Q a0 ds I G (i + 1) r
theorem ziB_ {I : World → Prop} {G : Nat → Value → Prop} : ∀ (l : List Oper) (k j : Nat) (o : Oper), zgD_ P ops Q a0 ds I G k l → l[j]? = some o → y4_ P ops Q a0 ds I G (k + j) o
 | [], _, _, _, _, h => by simp at h
 | x :: r, k, 0, o, hs, h => by
   simp only [List.getElem?_cons_zero, Option.some.injEq] at h
   subst h
   exact hs.1
 | x :: r, k, j + 1, o, hs, h => by
   have := ziB_ r (k + 1) j o hs.2 (by simpa using h)
   rwa [Nat.add_assoc, Nat.add_comm 1 j] at this
theorem zfm_ {I : World → Prop} {G : Nat → Value → Prop} {id : Nat} {l : List Oper} (hm : P.follows .mixedOrders = true) (hds : ds = l.map (·.dst)) (hD : Distinct ds) (hsz : ∀ d, some d ∈ ds → d < a0.tmps.size) (hdep : depB 0 l = true)
  (h0 : I w0.drew) (hsteps : zgD_ P l.toArray Q a0 ds I G 0 l)
  (hend : ∀ vs w', vs.length = ds.length → (∀ i v, vs[i]? = some v → G i v) → I w' → Q .normal { a0 with tmps := q0_ a0.tmps ds vs } w') : (Code.region id l.toArray true).wp P Q a0 w0 := by
 refine ziA_ (J := fun m W => I W ∧ ∀ j v, m j = some v → G j v) (ds := ds) l.toArray.size 0 (Nat.le_refl _) hm ?_ hD hsz (fun i o h => ziw_ hdep i o h) ?_ ⟨h0, fun j v h => by cases h⟩ ?_ ?_
 · rw [hds]; simp
 · unfold zdS_
   rw [List.all_eq_true]
   intro i hi
   rw [List.mem_range] at hi
   rw [decide_eq_true hi]
   rfl
 · intro i o hi ho a w m _ hout hJ hmi hdp hval K hK
   have hs := ziB_ l 0 i o hsteps (by simpa using ho)
   rw [Nat.zero_add] at hs
   refine hs a w hout hJ.1 (fun e he hb => ?_) K (fun v w' hG hI => hK v w' ⟨hI, fun j u hj => ?_⟩ trivial)
   · obtain ⟨v, hv⟩ := hdp e he hb
     exact ⟨v, hJ.2 _ _ hv, fun d hd => hval _ _ _ hv hd⟩
   · unfold updV at hj
     split at hj
     · rename_i e; injection hj with hj; rw [e, ← hj]; exact hG
     · exact hJ.2 _ _ hj
 · intro vs w' hl hJ _
   rw [Nat.sub_self]
   exact hend vs w' hl hJ.2 hJ.1
end
end Go.Proofs.YtembdkodajichaaGreatDoor
