/- Plain: a text of digits, byte by byte and rune by rune. -/
import Derived.Test.YtiplnofaejpeoaaGreatDoorMSpec
import Derived.WalkKit
import Derived.WalkSpells
import Derived.WalkLawsBesides
import Derived.Test.YtiplnofaejpeoaaGreatDoorMTerm
import Derived.Lib.AtoiAll
import Derived.Lib.DecodeN
set_option linter.unusedSimpArgs false
set_option linter.unusedVariables false
set_option maxRecDepth 100000
set_option maxHeartbeats 4000000
namespace Go.Proofs.YtiplnofaejpeoaaGreatDoor
open Go.RowKit
inductive LT where
 | mk (k : Int) (t : List UInt8) (n : Int) (kids : List LT)
namespace LT
def k : LT → Int | mk k _ _ _ => k
def t : LT → List UInt8 | mk _ t _ _ => t
def n : LT → Int | mk _ _ n _ => n
def kids : LT → List LT | mk _ _ _ l => l
end LT
mutual
def y2_ (p : Nat → Prop) (w : World) : LT → Value → Prop
 | .mk k t n kids, v => (0 ≤ k ∧ k ≤ 255) ∧ (-9223372036854775808 ≤ n ∧ n ≤ 9223372036854775807) ∧ t.length ≤ 9000000000000000000 ∧ kids.length ≤ 9000000000000000000 ∧
  ∃ ks, v = .agg #[.int .u8 k, .string (bs t), .int .i64 n, ks] ∧
   ((∃ (ad : Option Addr) (c : Nat), ks = .slice ad 0 c ∧ kids = []) ∨ ∃ (b o c : Nat), ks = .slice (some ⟨b, o, none⟩) kids.length c ∧ b < w.heap.size ∧ p b ∧ x2_ p w kids b o)
def x2_ (p : Nat → Prop) (w : World) : List LT → Nat → Nat → Prop
 | [], _, _ => True
 | x :: r, b, o => (∃ c0 c1 c2 c3 : Value, y2_ p w x (.agg #[c0, c1, c2, c3]) ∧ w.cell? ⟨b, o, none⟩ = some c0 ∧ w.cell? ⟨b, o + 1, none⟩ = some c1 ∧ w.cell? ⟨b, o + 2, none⟩ = some c2 ∧ w.cell? ⟨b, o + 3, none⟩ = some c3) ∧ x2_ p w r b (o + 4)
end
def Stay (p : Nat → Prop) (w w' : World) : Prop := w.heap.size ≤ w'.heap.size ∧ ∀ b, b < w.heap.size → p b → w'.heap[b]? = w.heap[b]?
mutual
theorem za5_ {p q : Nat → Prop} {w w' : World} (hg : Stay p w w') (hq : ∀ b, b < w.heap.size → p b → q b) : ∀ (x : LT) (v : Value), y2_ p w x v → y2_ q w' x v
 | .mk k t n kids, v, h => by
   unfold y2_ at h ⊢
   obtain ⟨h1, h2, h3, h4, ks, h5, h6⟩ := h
   refine ⟨h1, h2, h3, h4, ks, h5, ?_⟩
   rcases h6 with h | ⟨b, o, c, e, hb, hp, hr⟩
   · exact .inl h
   · exact .inr ⟨b, o, c, e, Nat.lt_of_lt_of_le hb hg.1, hq b hb hp, zbE_ hg hq kids b o hb hp hr⟩
theorem zbE_ {p q : Nat → Prop} {w w' : World} (hg : Stay p w w') (hq : ∀ b, b < w.heap.size → p b → q b) : ∀ (l : List LT) (b o : Nat), b < w.heap.size → p b → x2_ p w l b o → x2_ q w' l b o
 | [], _, _, _, _, _ => by unfold x2_; trivial
 | x :: r, b, o, hb, hp, h => by
   unfold x2_ at h ⊢
   obtain ⟨⟨c0, c1, c2, c3, hx, g0, g1, g2, g3⟩, hr⟩ := h
   have hc : ∀ j, w'.cell? ⟨b, j, none⟩ = w.cell? ⟨b, j, none⟩ := fun j => by simp only [World.cell?, hg.2 b hb hp]
   exact ⟨⟨c0, c1, c2, c3, za5_ hg hq x _ hx, by rw [hc]; exact g0, by rw [hc]; exact g1, by rw [hc]; exact g2, by rw [hc]; exact g3⟩, zbE_ hg hq r b (o + 4) hb hp hr⟩
end
mutual
theorem q9_ {p q : Nat → Prop} {w : World} (hq : ∀ b, b < w.heap.size → p b → q b) : ∀ (x : LT) (v : Value), y2_ p w x v → y2_ q w x v
 | .mk k t n kids, v, h => by
   unfold y2_ at h ⊢
   obtain ⟨h1, h2, h3, h4, ks, h5, h6⟩ := h
   refine ⟨h1, h2, h3, h4, ks, h5, ?_⟩
   rcases h6 with h | ⟨b, o, c, e, hb, hp, hr⟩
   · exact .inl h
   · exact .inr ⟨b, o, c, e, hb, hq b hb hp, zbs_ hq kids b o hr⟩
theorem zbs_ {p q : Nat → Prop} {w : World} (hq : ∀ b, b < w.heap.size → p b → q b) : ∀ (l : List LT) (b o : Nat), x2_ p w l b o → x2_ q w l b o
 | [], _, _, _ => by unfold x2_; trivial
 | x :: r, b, o, h => by
   unfold x2_ at h ⊢
   obtain ⟨⟨c0, c1, c2, c3, hx, g⟩, hr⟩ := h
   exact ⟨⟨c0, c1, c2, c3, q9_ hq x _ hx, g⟩, zbs_ hq r b (o + 4) hr⟩
end
theorem z7_ {p : Nat → Prop} {w w' : World} (hg : GL [] w w') (x : LT) (v : Value) (h : y2_ p w x v) : y2_ p w' x v :=
 za5_ ⟨hg.size, fun b hb _ => hg.block b hb si_⟩ (fun _ _ h => h) x v h
theorem zaM_ {p : Nat → Prop} {w w' : World} (hg : GL [] w w') (l : List LT) (b o : Nat) (hb : b < w.heap.size) (hp : p b) (h : x2_ p w l b o) : x2_ p w' l b o :=
 zbE_ ⟨hg.size, fun b hb _ => hg.block b hb si_⟩ (fun _ _ h => h) l b o hb hp h
theorem zao_ {p : Nat → Prop} {w : World} : ∀ (l : List LT) (b o i : Nat) (x : LT), x2_ p w l b o → l[i]? = some x →
  ∃ c0 c1 c2 c3 : Value, y2_ p w x (.agg #[c0, c1, c2, c3]) ∧ w.cell? ⟨b, o + i * 4, none⟩ = some c0 ∧ w.cell? ⟨b, o + i * 4 + 1, none⟩ = some c1 ∧ w.cell? ⟨b, o + i * 4 + 2, none⟩ = some c2 ∧ w.cell? ⟨b, o + i * 4 + 3, none⟩ = some c3
 | [], _, _, i, _, _, h => by simp at h
 | y :: r, b, o, 0, x, hr, h => by
   unfold x2_ at hr
   simp at h
   subst h
   simpa using hr.1
 | y :: r, b, o, i + 1, x, hr, h => by
   unfold x2_ at hr
   have := zao_ r b (o + 4) i x hr.2 (by simpa using h)
   simpa [show o + 4 + i * 4 = o + (i + 1) * 4 by omega] using this
def RowV (p : Nat → Prop) (w : World) : List LT → List Value → Prop
 | [], cs => cs = []
 | x :: r, cs => ∃ c0 c1 c2 c3 cs', cs = c0 :: c1 :: c2 :: c3 :: cs' ∧ y2_ p w x (.agg #[c0, c1, c2, c3]) ∧ RowV p w r cs'
theorem zc0_ {p q : Nat → Prop} {w w' : World} (hg : Stay p w w') (hq : ∀ b, b < w.heap.size → p b → q b) : ∀ (l : List LT) (cs : List Value), RowV p w l cs → RowV q w' l cs
 | [], cs, h => h
 | x :: r, cs, h => by
   obtain ⟨c0, c1, c2, c3, cs', rfl, h1, h2⟩ := h
   exact ⟨c0, c1, c2, c3, cs', rfl, za5_ hg hq x _ h1, zc0_ hg hq r cs' h2⟩
theorem zdZ_ {p : Nat → Prop} {w : World} {x : LT} {c0 c1 c2 c3 : Value} (hx : y2_ p w x (.agg #[c0, c1, c2, c3])) : ∀ (l : List LT) (cs : List Value), RowV p w l cs → RowV p w (l ++ [x]) (cs ++ [c0, c1, c2, c3])
 | [], cs, h => by
   have : cs = [] := h
   subst this
   exact ⟨c0, c1, c2, c3, [], rfl, hx, rfl⟩
 | y :: r, cs, h => by
   obtain ⟨d0, d1, d2, d3, cs', rfl, h1, h2⟩ := h
   exact ⟨d0, d1, d2, d3, cs' ++ [c0, c1, c2, c3], rfl, h1, zdZ_ hx r cs' h2⟩
theorem zd0_ {p : Nat → Prop} {w : World} : ∀ (l : List LT) (cs : List Value), RowV p w l cs → cs.length = l.length * 4
 | [], cs, h => by
   have : cs = [] := h
   subst this; rfl
 | x :: r, cs, h => by
   obtain ⟨c0, c1, c2, c3, cs', rfl, h1, h2⟩ := h
   have := zd0_ r cs' h2
   simp [this]; omega
theorem zd1_ {p : Nat → Prop} {w : World} {b : Nat} : ∀ (l : List LT) (cs : List Value) (o : Nat), RowV p w l cs → (∀ j v, cs[j]? = some v → w.cell? ⟨b, o + j, none⟩ = some v) → x2_ p w l b o
 | [], cs, o, _, _ => by unfold x2_; trivial
 | x :: r, cs, o, h, hc => by
   obtain ⟨c0, c1, c2, c3, cs', rfl, h1, h2⟩ := h
   unfold x2_
   refine ⟨⟨c0, c1, c2, c3, h1, by simpa using hc 0 c0 rfl, hc 1 c1 rfl, hc 2 c2 rfl, hc 3 c3 rfl⟩, zd1_ r cs' (o + 4) h2 fun j v hj => ?_⟩
   have := hc (j + 4) v (by simpa using hj)
   rwa [show o + (j + 4) = o + 4 + j by omega] at this
theorem zd2_ {p : Nat → Prop} {w : World} {b : Nat} : ∀ (l : List LT) (o : Nat), x2_ p w l b o → ∃ cs, RowV p w l cs ∧ ∀ j v, cs[j]? = some v → w.cell? ⟨b, o + j, none⟩ = some v
 | [], o, _ => ⟨[], rfl, by simp⟩
 | x :: r, o, h => by
   unfold x2_ at h
   obtain ⟨⟨c0, c1, c2, c3, hx, g0, g1, g2, g3⟩, hr⟩ := h
   obtain ⟨cs, h1, h2⟩ := zd2_ r (o + 4) hr
   refine ⟨c0 :: c1 :: c2 :: c3 :: cs, ⟨c0, c1, c2, c3, cs, rfl, hx, h1⟩, fun j v hj => ?_⟩
   match j with
   | 0 => simp at hj; subst hj; simpa using g0
   | 1 => simp at hj; subst hj; exact g1
   | 2 => simp at hj; subst hj; exact g2
   | 3 => simp at hj; subst hj; exact g3
   | j + 4 =>
     have := h2 j v (by simpa using hj)
     rwa [show o + 4 + j = o + (j + 4) by omega] at this
theorem y3_ {p : Nat → Prop} {w : World} {k n : Int} {t : List UInt8} {kids : List LT} {v : Value} (h : y2_ p w (.mk k t n kids) v) :
  ∃ (ad : Option Addr) (c : Nat), v = .agg #[.int .u8 k, .string (bs t), .int .i64 n, .slice ad kids.length c] ∧ (0 ≤ k ∧ k ≤ 255) ∧ (-9223372036854775808 ≤ n ∧ n ≤ 9223372036854775807) ∧ t.length ≤ 9000000000000000000 ∧ kids.length ≤ 9000000000000000000 ∧
   (kids = [] ∨ ∃ b o, ad = some ⟨b, o, none⟩ ∧ b < w.heap.size ∧ p b ∧ x2_ p w kids b o) := by
 unfold y2_ at h
 obtain ⟨h1, h2, h3, h4, ks, rfl, h6⟩ := h
 rcases h6 with ⟨ad, c, rfl, rfl⟩ | ⟨b, o, c, rfl, hb, hp, hr⟩
 · exact ⟨ad, c, rfl, h1, h2, h3, h4, .inl rfl⟩
 · exact ⟨_, c, rfl, h1, h2, h3, h4, .inr ⟨b, o, rfl, hb, hp, hr⟩⟩
theorem zaA_ {p : Nat → Prop} {w : World} {x : LT} {u0 u1 u2 u3 : Value} (h : y2_ p w x (.agg #[u0, u1, u2, u3])) :
  ∃ (k n : Int) (t : List UInt8) (ad : Option Addr) (m c : Nat), u0 = .int .u8 k ∧ u1 = .string (bs t) ∧ u2 = .int .i64 n ∧ u3 = .slice ad m c := by
 obtain ⟨k, t, n, kids⟩ := x
 obtain ⟨ad, c, e, _⟩ := y3_ h
 injection e with e
 have e := congrArg Array.toList e
 simp only [List.cons.injEq, and_true] at e
 exact ⟨k, n, t, ad, _, c, e.1, e.2.1, e.2.2.1, e.2.2.2⟩
def y9_ (k : Int) (t : List UInt8) (n : Int) (m : Nat) (pub hsh : Bool) : Bool :=
 if k = 1 then decide (n = 0) && decide (m = 0) && pub
 else if k = 2 then decide (n = 0) && decide (m = 0) && hsh
 else if k = 3 ∨ k = 4 then decide (t = []) && decide (m = 0) && decide (0 ≤ n) && decide (n < 1073741824)
 else if k = 5 ∨ k = 6 then decide (t = []) && decide (n = 0) && decide (0 < m) && decide (m ≤ 8)
 else false
def x8_ (t : List UInt8) : Bool := right t && (match t with | c :: _ => c == 80 || c == 87 || c == 76 | [] => false)
def w4_ (t : List UInt8) : Bool := right t && (match t with | c :: _ => c == 72 | [] => false)
mutual
def zbb_ : LT → Int → Int
 | .mk k t n kids, room => if room - 1 < 0 then -1 else if y9_ k t n kids.length (x8_ t) (w4_ t) then zaB_ kids (room - 1) else -1
def zaB_ : List LT → Int → Int
 | [], room => room
 | x :: r, room => if zbb_ x room < 0 then -1 else zaB_ r (zbb_ x room)
end
mutual
def x3_ : LT → Int
 | .mk _ _ _ kids => 1 + w1_ kids
def w1_ : List LT → Int
 | [] => 0
 | x :: r => x3_ x + w1_ r
end
mutual
def q1_ : LT → Bool
 | .mk k t n kids => y9_ k t n kids.length (x8_ t) (w4_ t) && w6_ kids
def w6_ : List LT → Bool
 | [] => true
 | x :: r => q1_ x && w6_ r
end
def w7_ (x : LT) : Bool := decide (x3_ x ≤ 64) && q1_ x
mutual
theorem j5_ : ∀ x : LT, 1 ≤ x3_ x
 | .mk _ _ _ kids => by unfold x3_; have := zbt_ kids; omega
theorem zbt_ : ∀ l : List LT, 0 ≤ w1_ l
 | [] => by unfold w1_; omega
 | x :: r => by unfold w1_; have := j5_ x; have := zbt_ r; omega
end
mutual
theorem zeV_ : ∀ (x : LT) (room : Int), zbb_ x room = if x3_ x ≤ room ∧ q1_ x = true then room - x3_ x else -1
 | .mk k t n kids, room => by
   unfold zbb_ x3_ q1_
   have hp := zbt_ kids
   by_cases h : room - 1 < 0
   · rw [if_pos h, if_neg om_]
   · rw [if_neg h]
     by_cases hb : y9_ k t n kids.length (x8_ t) (w4_ t) = true
     · rw [if_pos hb, zgv_ kids (room - 1) om_, hb, Bool.true_and]
       by_cases hr : w6_ kids = true
       · by_cases hc : w1_ kids ≤ room - 1
         · rw [if_pos ⟨hc, hr⟩, if_pos ⟨by omega, hr⟩]; omega
         · rw [if_neg om_, if_neg om_]
       · rw [if_neg (fun h => hr h.2), if_neg (fun h => hr h.2)]
     · rw [if_neg hb, if_neg]
       simp [hb]
theorem zgv_ : ∀ (l : List LT) (room : Int), 0 ≤ room → zaB_ l room = if w1_ l ≤ room ∧ w6_ l = true then room - w1_ l else -1
 | [], room, h0 => by
   unfold zaB_ w1_ w6_
   rw [if_pos ⟨h0, rfl⟩]; omega
 | x :: r, room, h0 => by
   unfold zaB_ w1_ w6_
   have hp := j5_ x
   have hq := zbt_ r
   rw [zeV_ x room]
   by_cases h : x3_ x ≤ room ∧ q1_ x = true
   · rw [if_pos h, if_neg om_, zgv_ r (room - x3_ x) om_, h.2, Bool.true_and]
     by_cases hr : w6_ r = true
     · by_cases hc : w1_ r ≤ room - x3_ x
       · rw [if_pos ⟨hc, hr⟩, if_pos ⟨by omega, hr⟩]; omega
       · rw [if_neg om_, if_neg om_]
     · rw [if_neg (fun h => hr h.2), if_neg (fun h => hr h.2)]
   · rw [if_neg h, if_pos om_, if_neg]
     intro hh
     have h2 := hh.2
     simp only [Bool.and_eq_true] at h2
     exact h ⟨by omega, h2.1⟩
end
theorem zjq_ (x : LT) : decide (0 ≤ zbb_ x 64) = w7_ x := by
 rw [zeV_]
 unfold w7_
 by_cases h : x3_ x ≤ 64 ∧ q1_ x = true
 · rw [if_pos h, h.2]
   simp [h.1];
 · rw [if_neg h]
   by_cases h1 : x3_ x ≤ 64
   · have : q1_ x = false := by
      cases hq : q1_ x with
      | false => rfl
      | true => exact absurd ⟨h1, hq⟩ h
     simp [this]
   · simp [h1]
def zat_ (k : Int) : UInt8 := if k = 1 then 115 else if k = 2 then 112 else if k = 3 then 97 else if k = 4 then 111 else if k = 5 then 38 else 124
mutual
def w5_ : LT → List UInt8
 | .mk k t n kids => zat_ k :: (if k = 1 ∨ k = 2 then t else if k = 3 ∨ k = 4 then Lib.decDigits n.toNat ++ [59] else Lib.decDigits kids.length ++ 58 :: q5_ kids)
def q5_ : List LT → List UInt8
 | [] => []
 | x :: r => w5_ x ++ q5_ r
end
mutual
def zaZ_ : LT → List (List UInt8)
 | .mk k t _ kids => (if k = 1 then [t] else []) ++ zaE_ kids
def zaE_ : List LT → List (List UInt8)
 | [] => []
 | x :: r => zaZ_ x ++ zaE_ r
end
mutual
def j9_ (sg pr : List UInt8 → Bool) (after age : Int) : LT → Bool
 | .mk k t n kids => if k = 1 then sg t else if k = 2 then pr t else if k = 3 then decide (n ≤ after) else if k = 4 then decide (n ≤ age)
  else if k = 5 then allL sg pr after age kids else anyL sg pr after age kids
def allL (sg pr : List UInt8 → Bool) (after age : Int) : List LT → Bool
 | [] => true
 | x :: r => j9_ sg pr after age x && allL sg pr after age r
def anyL (sg pr : List UInt8 → Bool) (after age : Int) : List LT → Bool
 | [] => false
 | x :: r => j9_ sg pr after age x || anyL sg pr after age r
end
mutual
theorem zeW_ {sg pr sg' pr' : List UInt8 → Bool} {a b a' b' : Int} (hs : ∀ t, sg t = true → sg' t = true) (hp : ∀ t, pr t = true → pr' t = true) (ha : a ≤ a') (hb : b ≤ b') :
  ∀ x : LT, j9_ sg pr a b x = true → j9_ sg' pr' a' b' x = true
 | .mk k t n kids, h => by
   unfold j9_ at h ⊢
   by_cases h1 : k = 1
   · rw [if_pos h1] at h ⊢; exact hs _ h
   rw [if_neg h1] at h ⊢
   by_cases h2 : k = 2
   · rw [if_pos h2] at h ⊢; exact hp _ h
   rw [if_neg h2] at h ⊢
   by_cases h3 : k = 3
   · rw [if_pos h3] at h ⊢; simp only [decide_eq_true_eq] at h ⊢; omega
   rw [if_neg h3] at h ⊢
   by_cases h4 : k = 4
   · rw [if_pos h4] at h ⊢; simp only [decide_eq_true_eq] at h ⊢; omega
   rw [if_neg h4] at h ⊢
   by_cases h5 : k = 5
   · rw [if_pos h5] at h ⊢; exact zgw_ hs hp ha hb kids h
   rw [if_neg h5] at h ⊢
   exact zgx_ hs hp ha hb kids h
theorem zgw_ {sg pr sg' pr' : List UInt8 → Bool} {a b a' b' : Int} (hs : ∀ t, sg t = true → sg' t = true) (hp : ∀ t, pr t = true → pr' t = true) (ha : a ≤ a') (hb : b ≤ b') :
  ∀ l : List LT, allL sg pr a b l = true → allL sg' pr' a' b' l = true
 | [], _ => by unfold allL; rfl
 | x :: r, h => by
   unfold allL at h ⊢
   rw [Bool.and_eq_true] at h ⊢
   exact ⟨zeW_ hs hp ha hb x h.1, zgw_ hs hp ha hb r h.2⟩
theorem zgx_ {sg pr sg' pr' : List UInt8 → Bool} {a b a' b' : Int} (hs : ∀ t, sg t = true → sg' t = true) (hp : ∀ t, pr t = true → pr' t = true) (ha : a ≤ a') (hb : b ≤ b') :
  ∀ l : List LT, anyL sg pr a b l = true → anyL sg' pr' a' b' l = true
 | [], h => by unfold anyL at h; cases h
 | x :: r, h => by
   unfold anyL at h ⊢
   rw [Bool.or_eq_true] at h ⊢
   rcases h with h | h
   · exact .inl (zeW_ hs hp ha hb x h)
   · exact .inr (zgx_ hs hp ha hb r h)
end
mutual
def zbS_ : LT → LT → Bool
 | .mk k t n kids, .mk k' t' n' kids' => decide (k = k') && decide (t = t') && decide (n = n') && decide (kids.length = kids'.length) && zaj_ kids kids'
def zaj_ : List LT → List LT → Bool
 | [], _ => true
 | _ :: _, [] => false
 | x :: r, y :: s => zbS_ x y && zaj_ r s
end
mutual
theorem zgy_ : ∀ x y : LT, zbS_ x y = true → x = y
 | .mk k t n kids, .mk k' t' n' kids', h => by
   unfold zbS_ at h
   simp only [Bool.and_eq_true, decide_eq_true_eq] at h
   obtain ⟨⟨⟨⟨h1, h2⟩, h3⟩, h4⟩, h5⟩ := h
   rw [h1, h2, h3, zgz_ kids kids' h4 h5]
theorem zgz_ : ∀ l m : List LT, l.length = m.length → zaj_ l m = true → l = m
 | [], [], _, _ => rfl
 | [], _ :: _, h, _ => by simp at h
 | _ :: _, [], h, _ => by simp at h
 | x :: r, y :: s, hl, h => by
   unfold zaj_ at h
   rw [Bool.and_eq_true] at h
   rw [zgy_ x y h.1, zgz_ r s (by simpa using hl) h.2]
end
mutual
theorem zbd_ : ∀ x : LT, zbS_ x x = true
 | .mk k t n kids => by unfold zbS_; simp [zgA_ kids]
theorem zgA_ : ∀ l : List LT, zaj_ l l = true
 | [] => by unfold zaj_; rfl
 | x :: r => by unfold zaj_; simp [zbd_ x, zgA_ r]
end
def x5_ (v : Value) (ts : List (List UInt8)) (w : World) : Prop :=
 (∃ (ad : Option Addr) (c : Nat), v = .slice ad 0 c ∧ ts = []) ∨ ∃ (b o c : Nat), v = .slice (some ⟨b, o, none⟩) ts.length c ∧ b < w.heap.size ∧ ∀ (k : Nat) (t : List UInt8), ts[k]? = some t → w.cell? ⟨b, o + k, none⟩ = some (.string (bs t))
theorem y4_ {v : Value} {ts : List (List UInt8)} {w w' : World} (h : x5_ v ts w) (hg : GL [] w w') : x5_ v ts w' := by
 rcases h with h | ⟨b, o, c, h1, h2, h3⟩
 · exact .inl h
 · refine .inr ⟨b, o, c, h1, Nat.lt_of_lt_of_le h2 hg.size, fun k t hk => ?_⟩
   simp only [World.cell?, hg.block b h2 si_]
   exact h3 k t hk
theorem za6_ {v : Value} {ts : List (List UInt8)} {w : World} (h : x5_ v ts w) : ∃ (ad : Option Addr) (c : Nat), v = .slice ad ts.length c ∧ (ts = [] ∨ ∃ b o, ad = some ⟨b, o, none⟩ ∧ b < w.heap.size ∧ ∀ (k : Nat) (t : List UInt8), ts[k]? = some t → w.cell? ⟨b, o + k, none⟩ = some (.string (bs t))) := by
 rcases h with ⟨ad, c, rfl, rfl⟩ | ⟨b, o, c, rfl, h⟩
 · exact ⟨ad, c, rfl, .inl rfl⟩
 · exact ⟨_, c, rfl, .inr ⟨b, o, rfl, h⟩⟩
def idxT (p : List UInt8 → Bool) : List (List UInt8) → Nat → Int
 | [], _ => -1
 | t :: r, k => if p t then k else idxT p r (k + 1)
theorem zgB_ (p : List UInt8 → Bool) : ∀ (l : List (List UInt8)) (k : Nat), decide (0 ≤ idxT p l k) = l.any p
 | [], k => by simp [idxT]
 | t :: r, k => by
   unfold idxT
   cases h : p t with
   | true => simp [h]
   | false => simp [h, zgB_ p r (k + 1)]
def idxL (p : LT → Bool) : List LT → Nat → Int
 | [], _ => -1
 | t :: r, k => if p t then k else idxL p r (k + 1)
theorem zgC_ (p : LT → Bool) : ∀ (l : List LT) (k : Nat), decide (0 ≤ idxL p l k) = l.any p
 | [], k => by simp [idxL]
 | t :: r, k => by
   unfold idxL
   cases h : p t with
   | true => simp [h]
   | false => simp [h, zgC_ p r (k + 1)]
theorem zjr_ (g : Nat) (cap : Array Value) (eg : ∀ args w, (callFunc g args).run Tryz.prog w = .ok (.enter g args) w) (p : List UInt8 → Bool) (ts : List (List UInt8)) (hn : ts.length ≤ 9000000000000000000) (v : Value) (w : World) (hv : x5_ v ts w)
  (hp : ∀ (W : World) (t : List UInt8), t ∈ ts → GL [] w W → Calls Tryz.prog g (#[.string (bs t)] ++ cap) W fun e W' => e = .returned (.bool (p t)) ∧ Below W.heap.size W W') :
  Calls Tryz.prog 91 #[v, .func (.func g) #[] cap] w fun e w' => e = .returned (.int .i64 (idxT p ts 0)) ∧ Below w.heap.size w w' := by
 obtain ⟨ad, c, rfl, hd⟩ := za6_ hv
 have HP := Lib.hid hp
 have HD := Lib.hid hd
 clear hp hd hv
 go_enter Tryz.func91, Tryz.ntmps91
 go_wp2
 go_loopw [5, 8] (fun _ iv wr => ∃ k : Nat, k ≤ ts.length ∧ iv = .int .i64 k ∧ Hid (GL [] w wr) ∧ Hid (idxT p (ts.drop k) k = idxT p ts 0)) (fun _ iv _ => ts.length - (intOf iv).toNat)
 case atStart => exact ⟨0, by omega, rfl, z1_ _ _, rfl⟩
 case round =>
  obtain ⟨k, hk, rfl, hgr, hix⟩ := hrel
  by_cases hlt : k < ts.length
  · have i1 : (k : Int) < ts.length := by omega
    rcases HD.out with h0 | ⟨b, o, rfl, hb, hc⟩
    · subst h0; simp at hlt
    · have hx : ts[k]? = some ts[k] := List.getElem?_eq_getElem hlt
      have hc0 := hc k _ hx
      have c0 : wr.cell? ⟨b, o + k, none⟩ = some (.string (bs ts[k])) := by
       simp only [World.cell?, hgr.out.block b hb si_] at hc0 ⊢
       exact hc0
      have hcall := HP.out wr ts[k] (List.getElem_mem hlt) hgr.out
      have hd0 : ts.drop k = ts[k] :: ts.drop (k + 1) := List.drop_eq_getElem_cons hlt
      have hix2 := hix.out
      rw [hd0, show idxT p (ts[k] :: ts.drop (k + 1)) k = if p ts[k] = true then (k : Int) else idxT p (ts.drop (k + 1)) (k + 1) from rfl] at hix2
      generalize ts[k] = t at *
      clear hx hc hc0 hd0
      cases hq : p t with
      | true =>
        rw [hq] at hcall hix2
        have HI := Lib.hid hix2
        clear hix2 hix hq
        have HCL := Lib.hid hcall
        clear hcall
        go_wp2_with fail
        refine (HCL.out).mono ?_
        rintro e w1 ⟨rfl, hb1⟩
        go_wp2_with fail
        go_ret
        exact ⟨by rw [← HI.out]; simp, x0_ (z4_ hb1 hgr.out)⟩
      | false =>
        rw [hq] at hcall hix2
        have HI := Lib.hid hix2
        clear hix2 hix hq
        have HCL := Lib.hid hcall
        clear hcall
        go_wp2_with fail
        refine (HCL.out).mono ?_
        rintro e w1 ⟨rfl, hb1⟩
        go_wp2_with fail
        go_roundw
        case rel => exact ⟨k + 1, by omega, by go_num, Lib.hid (z4_ hb1 hgr.out), Lib.hid (by simpa using HI.out)⟩
        case measure => simp [intOf]; omega
  · obtain rfl : k = ts.length := by omega
    have hz := hix.out
    rw [List.drop_length] at hz
    have HI := Lib.hid hz
    clear hz hix
    go_wp2
    go_ret
    exact ⟨by rw [← HI.out]; rfl, x0_ hgr.out⟩
theorem zgD_ (g : Nat) (cap : Array Value) (eg : ∀ args w, (callFunc g args).run Tryz.prog w = .ok (.enter g args) w) (p : List UInt8 → Bool) (ts : List (List UInt8)) (hn : ts.length ≤ 9000000000000000000) (v : Value) (w : World) (hv : x5_ v ts w)
  (hp : ∀ (W : World) (t : List UInt8), t ∈ ts → GL [] w W → Calls Tryz.prog g (#[.string (bs t)] ++ cap) W fun e W' => e = .returned (.bool (p t)) ∧ Below W.heap.size W W') :
  Calls Tryz.prog 70 #[v, .func (.func g) #[] cap] w fun e w' => e = .returned (.bool (ts.any p)) ∧ Below w.heap.size w w' := by
 have hc := zjr_ g cap eg p ts hn v w hv hp
 have H := Lib.hid (zgB_ p ts 0)
 clear hp
 go_enter Tryz.func70, Tryz.ntmps70
 go_wp2_with fail
 refine hc.mono ?_
 rintro e w1 ⟨rfl, hb1⟩
 go_wp2_with fail
 go_ret
 exact ⟨by rw [← H.out]; rfl, hb1⟩
theorem zjs_ (g : Nat) (cap : Array Value) (eg : ∀ args w, (callFunc g args).run Tryz.prog w = .ok (.enter g args) w) (p : LT → Bool) (ls : List LT) (hn : ls.length ≤ 9000000000000000000) (q : Nat → Prop) (ad : Option Addr) (c : Nat) (w : World) (hd : ls = [] ∨ ∃ b o, ad = some ⟨b, o, none⟩ ∧ b < w.heap.size ∧ q b ∧ x2_ q w ls b o)
  (hp : ∀ (W : World) (x : LT) (u : Value), x ∈ ls → GL [] w W → y2_ q W x u → Calls Tryz.prog g (#[u] ++ cap) W fun e W' => e = .returned (.bool (p x)) ∧ Below W.heap.size W W') :
  Calls Tryz.prog 94 #[.slice ad ls.length c, .func (.func g) #[] cap] w fun e w' => e = .returned (.int .i64 (idxL p ls 0)) ∧ Below w.heap.size w w' := by
 have HP := Lib.hid hp
 have HD := Lib.hid hd
 clear hp hd
 go_enter Tryz.func94, Tryz.ntmps94
 go_wp2
 go_loopw [5, 8] (fun _ iv wr => ∃ k : Nat, k ≤ ls.length ∧ iv = .int .i64 k ∧ Hid (GL [] w wr) ∧ Hid (idxL p (ls.drop k) k = idxL p ls 0)) (fun _ iv _ => ls.length - (intOf iv).toNat)
 case atStart => exact ⟨0, by omega, rfl, z1_ _ _, rfl⟩
 case round =>
  obtain ⟨k, hk, rfl, hgr, hix⟩ := hrel
  by_cases hlt : k < ls.length
  · have i1 : (k : Int) < ls.length := by omega
    rcases HD.out with h0 | ⟨b, o, rfl, hb, hqb, hrow⟩
    · subst h0; simp at hlt
    · have hx : ls[k]? = some ls[k] := List.getElem?_eq_getElem hlt
      obtain ⟨u0, u1, u2, u3, hl, c0, c1, c2, c3⟩ := zao_ ls b o k ls[k] (zaM_ hgr.out ls b o hb hqb hrow) hx
      have hcall := HP.out wr ls[k] _ (List.getElem_mem hlt) hgr.out hl
      have hd0 : ls.drop k = ls[k] :: ls.drop (k + 1) := List.drop_eq_getElem_cons hlt
      have hix2 := hix.out
      rw [hd0, show idxL p (ls[k] :: ls.drop (k + 1)) k = if p ls[k] = true then (k : Int) else idxL p (ls.drop (k + 1)) (k + 1) from rfl] at hix2
      generalize ls[k] = t at *
      clear hx hd0 hrow hl
      cases hq : p t with
      | true =>
        rw [hq] at hcall hix2
        have HI := Lib.hid hix2
        clear hix2 hix hq
        have HCL := Lib.hid hcall
        clear hcall
        go_wp2_with fail
        refine (HCL.out).mono ?_
        rintro e w1 ⟨rfl, hb1⟩
        go_wp2_with fail
        go_ret
        exact ⟨by rw [← HI.out]; simp, x0_ (z4_ hb1 hgr.out)⟩
      | false =>
        rw [hq] at hcall hix2
        have HI := Lib.hid hix2
        clear hix2 hix hq
        have HCL := Lib.hid hcall
        clear hcall
        go_wp2_with fail
        refine (HCL.out).mono ?_
        rintro e w1 ⟨rfl, hb1⟩
        go_wp2_with fail
        go_roundw
        case rel => exact ⟨k + 1, by omega, by go_num, Lib.hid (z4_ hb1 hgr.out), Lib.hid (by simpa using HI.out)⟩
        case measure => simp [intOf]; omega
  · obtain rfl : k = ls.length := by omega
    have hz := hix.out
    rw [List.drop_length] at hz
    have HI := Lib.hid hz
    clear hz hix
    go_wp2
    go_ret
    exact ⟨by rw [← HI.out]; rfl, x0_ hgr.out⟩
theorem zgE_ (g : Nat) (cap : Array Value) (eg : ∀ args w, (callFunc g args).run Tryz.prog w = .ok (.enter g args) w) (p : LT → Bool) (ls : List LT) (hn : ls.length ≤ 9000000000000000000) (q : Nat → Prop) (ad : Option Addr) (c : Nat) (w : World) (hd : ls = [] ∨ ∃ b o, ad = some ⟨b, o, none⟩ ∧ b < w.heap.size ∧ q b ∧ x2_ q w ls b o)
  (hp : ∀ (W : World) (x : LT) (u : Value), x ∈ ls → GL [] w W → y2_ q W x u → Calls Tryz.prog g (#[u] ++ cap) W fun e W' => e = .returned (.bool (p x)) ∧ Below W.heap.size W W') :
  Calls Tryz.prog 75 #[.slice ad ls.length c, .func (.func g) #[] cap] w fun e w' => e = .returned (.bool (ls.any p)) ∧ Below w.heap.size w w' := by
 have hc := zjs_ g cap eg p ls hn q ad c w hd hp
 have H := Lib.hid (zgC_ p ls 0)
 clear hp hd
 go_enter Tryz.func75, Tryz.ntmps75
 go_wp2_with fail
 refine hc.mono ?_
 rintro e w1 ⟨rfl, hb1⟩
 go_wp2_with fail
 go_ret
 exact ⟨by rw [← H.out]; rfl, hb1⟩
theorem zbY_ {w : World} {a : Addr} {v : Value} (h : w.cell? a = some v) (o : Obj) : (w.alloc o).cell? a = some v := by
 rw [World.cell?_alloc_some _ _ _ (by rw [h]; rfl)]; exact h
theorem zgF_ {t : List UInt8} {s : Sh} (h : rt t = some s) : ∃ r, t = s.op :: r ∧ right t = true := by
 have h1 := (zdP_ h).1
 cases t with
 | nil => simp [rd] at h1
 | cons c r =>
   have hop : s.op = c := (zay_ _ _ _ h1).2.2.2.2
   exact ⟨r, by rw [hop], by unfold right; rw [h]; rfl⟩
theorem zjt_ {t : List UInt8} {s : Sh} (h : rt t = some s) : x8_ t = (s.op.toNat == 80 || s.op.toNat == 87 || s.op.toNat == 76) := by
 obtain ⟨r, e, hr⟩ := zgF_ h
 unfold x8_
 rw [hr, e, Bool.eq_iff_iff]
 simp [← UInt8.toNat_inj]
theorem zju_ {t : List UInt8} {s : Sh} (h : rt t = some s) : w4_ t = (s.op.toNat == 72) := by
 obtain ⟨r, e, hr⟩ := zgF_ h
 unfold w4_
 rw [hr, e, Bool.eq_iff_iff]
 simp [← UInt8.toNat_inj]
theorem zjv_ {t : List UInt8} (h : rt t = none) : x8_ t = false := by
 unfold x8_ right; rw [h]; rfl
theorem zjw_ {t : List UInt8} (h : rt t = none) : w4_ t = false := by
 unfold w4_ right; rw [h]; rfl
theorem zeX_ (t : List UInt8) (ht : t.length ≤ 9000000000000000000) (w : World) (hG : GOk w) :
  Calls Tryz.prog 60 #[.string (bs t)] w fun e w' => e = .returned (.bool (x8_ t)) ∧ Below w.heap.size w w' := by
 have HG := Lib.hid hG
 clear hG
 cases hr : rt t with
 | none =>
   have H : Hid (x8_ t = false) := zjv_ hr
   have HR := Lib.hid hr
   clear hr
   go_enter Tryz.func60, Tryz.ntmps60
   go_wp2_with fail
   refine (zba_ t ht _ HG.out).mono ?_
   rintro e w1 hp
   rw [HR.out] at hp
   obtain ⟨rfl, hb1⟩ := hp
   go_wp2_with fail
   go_ret
   exact ⟨by first | (rw [H.out]; done) | (rw [H.out]; rfl), bl_⟩
 | some s =>
   have H := Lib.hid (zjt_ hr)
   have HR := Lib.hid hr
   clear hr
   by_cases h80 : s.op.toNat = 80
   · have b80 : (((s.op.toNat : Nat) : Int) == 80) = true := by simp [h80]
     have HH : Hid (x8_ t = true) := by show x8_ t = true; rw [H.out]; simp [h80]
     clear H h80
     go_enter Tryz.func60, Tryz.ntmps60
     go_wp2_with fail
     refine (zba_ t ht _ HG.out).mono ?_
     rintro e w1 hp
     rw [HR.out] at hp
     obtain ⟨ad, kn, kc, rfl, hown, hb1⟩ := hp
     clear hown
     go_wp2_with fail
     go_ret
     exact ⟨by first | (rw [HH.out]; done) | (rw [HH.out]; rfl), bl_⟩
   · have b80 : (((s.op.toNat : Nat) : Int) == 80) = false := by simp; omega
     by_cases h87 : s.op.toNat = 87
     · have b87 : (((s.op.toNat : Nat) : Int) == 87) = true := by simp [h87]
       have HH : Hid (x8_ t = true) := by show x8_ t = true; rw [H.out]; simp [h80, h87]
       clear H h87
       go_enter Tryz.func60, Tryz.ntmps60
       go_wp2_with fail
       refine (zba_ t ht _ HG.out).mono ?_
       rintro e w1 hp
       rw [HR.out] at hp
       obtain ⟨ad, kn, kc, rfl, hown, hb1⟩ := hp
       clear hown
       go_wp2_with fail
       go_ret
       exact ⟨by first | (rw [HH.out]; done) | (rw [HH.out]; rfl), bl_⟩
     · have b87 : (((s.op.toNat : Nat) : Int) == 87) = false := by simp; omega
       by_cases h76 : s.op.toNat = 76
       · have b76 : (((s.op.toNat : Nat) : Int) == 76) = true := by simp [h76]
         have HH : Hid (x8_ t = true) := by show x8_ t = true; rw [H.out]; simp [h80, h87, h76]
         clear H h76
         go_enter Tryz.func60, Tryz.ntmps60
         go_wp2_with fail
         refine (zba_ t ht _ HG.out).mono ?_
         rintro e w1 hp
         rw [HR.out] at hp
         obtain ⟨ad, kn, kc, rfl, hown, hb1⟩ := hp
         clear hown
         go_wp2_with fail
         go_ret
         exact ⟨by first | (rw [HH.out]; done) | (rw [HH.out]; rfl), bl_⟩
       · have b76 : (((s.op.toNat : Nat) : Int) == 76) = false := by simp; omega
         have HH : Hid (x8_ t = false) := by show x8_ t = false; rw [H.out]; simp [h80, h87, h76]
         clear H
         go_enter Tryz.func60, Tryz.ntmps60
         go_wp2_with fail
         refine (zba_ t ht _ HG.out).mono ?_
         rintro e w1 hp
         rw [HR.out] at hp
         obtain ⟨ad, kn, kc, rfl, hown, hb1⟩ := hp
         clear hown
         go_wp2_with fail
         go_ret
         exact ⟨by first | (rw [HH.out]; done) | (rw [HH.out]; rfl), bl_⟩
theorem zeY_ (t : List UInt8) (ht : t.length ≤ 9000000000000000000) (w : World) (hG : GOk w) :
  Calls Tryz.prog 61 #[.string (bs t)] w fun e w' => e = .returned (.bool (w4_ t)) ∧ Below w.heap.size w w' := by
 have HG := Lib.hid hG
 clear hG
 cases hr : rt t with
 | none =>
   have H : Hid (w4_ t = false) := zjw_ hr
   have HR := Lib.hid hr
   clear hr
   go_enter Tryz.func61, Tryz.ntmps61
   go_wp2_with fail
   refine (zba_ t ht _ HG.out).mono ?_
   rintro e w1 hp
   rw [HR.out] at hp
   obtain ⟨rfl, hb1⟩ := hp
   go_wp2_with fail
   go_ret
   exact ⟨by first | (rw [H.out]; done) | (rw [H.out]; rfl), bl_⟩
 | some s =>
   have H := Lib.hid (zju_ hr)
   have HR := Lib.hid hr
   clear hr
   by_cases h72 : s.op.toNat = 72
   · have b72 : (((s.op.toNat : Nat) : Int) == 72) = true := by simp [h72]
     have HH : Hid (w4_ t = true) := by show w4_ t = true; rw [H.out]; simp [h72]
     clear H h72
     go_enter Tryz.func61, Tryz.ntmps61
     go_wp2_with fail
     refine (zba_ t ht _ HG.out).mono ?_
     rintro e w1 hp
     rw [HR.out] at hp
     obtain ⟨ad, kn, kc, rfl, hown, hb1⟩ := hp
     clear hown
     go_wp2_with fail
     go_ret
     exact ⟨by first | (rw [HH.out]; done) | (rw [HH.out]; rfl), bl_⟩
   · have b72 : (((s.op.toNat : Nat) : Int) == 72) = false := by simp; omega
     have HH : Hid (w4_ t = false) := by show w4_ t = false; rw [H.out]; simp [h72]
     clear H
     go_enter Tryz.func61, Tryz.ntmps61
     go_wp2_with fail
     refine (zba_ t ht _ HG.out).mono ?_
     rintro e w1 hp
     rw [HR.out] at hp
     obtain ⟨ad, kn, kc, rfl, hown, hb1⟩ := hp
     clear hown
     go_wp2_with fail
     go_ret
     exact ⟨by first | (rw [HH.out]; done) | (rw [HH.out]; rfl), bl_⟩
theorem zjx_ (p m s : List UInt8) (hs : s.length ≤ 9000000000000000000) (w : World) (hG : GOk w) :
  Calls Tryz.prog 72 #[.string (bs p), .string (bs m), .string (bs s)] w fun e w' => e = .returned (.bool (k3_ p m s)) ∧ Below w.heap.size w w' := by
 have HG := Lib.hid hG
 clear hG
 cases hr : rt s with
 | none =>
   have H : Hid (k3_ p m s = false) := by show k3_ p m s = false; unfold k3_; rw [hr]
   have HR := Lib.hid hr
   clear hr
   go_enter Tryz.func72, Tryz.ntmps72
   go_wp2_with fail
   refine (zba_ s hs _ HG.out).mono ?_
   rintro e w1 hp
   rw [HR.out] at hp
   obtain ⟨rfl, hb1⟩ := hp
   go_wp2_with fail
   go_ret
   exact ⟨by first | (rw [H.out]; done) | (rw [H.out]; rfl), bl_⟩
 | some x =>
   by_cases ho : x.op.toNat = 83
   · obtain ⟨a, b, hk, ha, hb, _⟩ := zeL_ hr (by simp [arity, ← UInt8.toNat_inj, ho])
     have HV : Hid (k3_ p m s = (b == m && w8_ a == p)) := by
      show k3_ p m s = _
      unfold k3_
      rw [hr]
      simp [ho, hk]
     have HKS := Lib.hid hk
     have HR := Lib.hid hr
     have b1 : (((x.op.toNat : Nat) : Int) == 83) = true := by simp [ho]
     clear hr ho hk hb
     cases hbm : (b == m) with
     | false =>
       have H : Hid (k3_ p m s = false) := by show k3_ p m s = false; rw [HV.out, hbm]; rfl
       clear HV
       go_enter Tryz.func72, Tryz.ntmps72
       go_wp2_with fail
       refine (zba_ s hs _ HG.out).mono ?_
       rintro e w1 hp
       rw [HR.out] at hp
       obtain ⟨ad, kn, kc, rfl, hown, hb1⟩ := hp
       rw [HKS.out] at hown
       obtain ⟨g, cap, hv, hgb, hgw, hcap, hcap2, hcell⟩ := zaT_ hown si_
       injection hv with hv1 hv2 hv3
       subst hv1 hv2 hv3
       have c0 := zbY_ (hcell 0 (.string (bs a)) rfl) (.cells #[.int .u8 x.op.toNat, .int .i64 (q4_ x), .string (bs x.text), .slice (some ⟨g, 0, none⟩) 2 kc] 94)
       have c1 := zbY_ (hcell 1 (.string (bs b)) rfl) (.cells #[.int .u8 x.op.toNat, .int .i64 (q4_ x), .string (bs x.text), .slice (some ⟨g, 0, none⟩) 2 kc] 94)
       have HG1 := Lib.hid (y5_ (y6_ HG.out hb1) (.cells #[.int .u8 x.op.toNat, .int .i64 (q4_ x), .string (bs x.text), .slice (some ⟨g, 0, none⟩) 2 kc] 94))
       have hb2 : Below w.heap.size w (w1.alloc (.cells #[.int .u8 x.op.toNat, .int .i64 (q4_ x), .string (bs x.text), .slice (some ⟨g, 0, none⟩) 2 kc] 94)) := bl_
       clear hcell hown
       go_wp2_with fail
       go_ret
       exact ⟨by first | (rw [H.out]; done) | (rw [H.out]; rfl), bl_⟩
     | true =>
       obtain rfl : b = m := by simpa using hbm
       clear hbm
       have H : Hid (k3_ p b s = (w8_ a == p)) := by show k3_ p b s = _; rw [HV.out]; simp
       clear HV
       go_enter Tryz.func72, Tryz.ntmps72
       go_wp2_with fail
       refine (zba_ s hs _ HG.out).mono ?_
       rintro e w1 hp
       rw [HR.out] at hp
       obtain ⟨ad, kn, kc, rfl, hown, hb1⟩ := hp
       rw [HKS.out] at hown
       obtain ⟨g, cap, hv, hgb, hgw, hcap, hcap2, hcell⟩ := zaT_ hown si_
       injection hv with hv1 hv2 hv3
       subst hv1 hv2 hv3
       have c0 := zbY_ (hcell 0 (.string (bs a)) rfl) (.cells #[.int .u8 x.op.toNat, .int .i64 (q4_ x), .string (bs x.text), .slice (some ⟨g, 0, none⟩) 2 kc] 94)
       have c1 := zbY_ (hcell 1 (.string (bs b)) rfl) (.cells #[.int .u8 x.op.toNat, .int .i64 (q4_ x), .string (bs x.text), .slice (some ⟨g, 0, none⟩) 2 kc] 94)
       have HG1 := Lib.hid (y5_ (y6_ HG.out hb1) (.cells #[.int .u8 x.op.toNat, .int .i64 (q4_ x), .string (bs x.text), .slice (some ⟨g, 0, none⟩) 2 kc] 94))
       have hb2 : Below w.heap.size w (w1.alloc (.cells #[.int .u8 x.op.toNat, .int .i64 (q4_ x), .string (bs x.text), .slice (some ⟨g, 0, none⟩) 2 kc] 94)) := bl_
       clear hcell hown
       go_wp2_with fail
       refine (tKey a ha _ HG1.out).mono ?_
       rintro e w2 ⟨rfl, hb3⟩
       go_wp2_with fail
       go_ret
       exact ⟨by rw [H.out]; first | rfl | (congr 3; rw [Bool.eq_iff_iff]; simp), bl_⟩
   · have H : Hid (k3_ p m s = false) := by show k3_ p m s = false; unfold k3_; rw [hr]; simp [ho]
     have HR := Lib.hid hr
     have b1 : (((x.op.toNat : Nat) : Int) == 83) = false := by simp; omega
     clear hr ho
     go_enter Tryz.func72, Tryz.ntmps72
     go_wp2_with fail
     refine (zba_ s hs _ HG.out).mono ?_
     rintro e w1 hp
     rw [HR.out] at hp
     obtain ⟨ad, kn, kc, rfl, hown, hb1⟩ := hp
     clear hown
     go_wp2_with fail
     go_ret
     exact ⟨by first | (rw [H.out]; done) | (rw [H.out]; rfl), bl_⟩
theorem zjy_ (k n : Int) (t : List UInt8) (ht : t.length ≤ 9000000000000000000) (ad : Option Addr) (m c : Nat) (room : Int) (hr0 : -1000 ≤ room) (hr1 : room ≤ 1000) (h : decide (room - 1 < 0) = true) (w : World) (hG : GOk w) :
  Calls Tryz.prog 44 #[.agg #[.int .u8 k, .string (bs t), .int .i64 n, .slice ad m c], .int .i64 room] w fun e w' => e = .returned (.int .i64 (-1)) ∧ Below w.heap.size w w' := by
 have HG := Lib.hid hG
 clear hG
 go_enter Tryz.func44, Tryz.ntmps44
 go_wp2
 go_ret
 exact ⟨by first | rfl | (congr; omega), bl_⟩
theorem zjz_ (n : Int) (t : List UInt8) (ht : t.length ≤ 9000000000000000000) (ad : Option Addr) (m c : Nat) (room : Int) (hr0 : -1000 ≤ room) (hr1 : room ≤ 1000) (h : decide (room - 1 < 0) = false) (ht0 : (t == []) = false) (h1 : (n == 0) = false) (w : World) (hG : GOk w) :
  Calls Tryz.prog 44 #[.agg #[.int .u8 1, .string (bs t), .int .i64 n, .slice ad m c], .int .i64 room] w fun e w' => e = .returned (.int .i64 (-1)) ∧ Below w.heap.size w w' := by
 have HG := Lib.hid hG
 clear hG
 go_enter Tryz.func44, Tryz.ntmps44
 go_wp2
 go_ret
 exact ⟨by first | rfl | (congr; omega), bl_⟩
theorem zjA_  (t : List UInt8) (ht : t.length ≤ 9000000000000000000) (ad : Option Addr) (m c : Nat) (room : Int) (hr0 : -1000 ≤ room) (hr1 : room ≤ 1000) (h : decide (room - 1 < 0) = false) (ht0 : (t == []) = false) (h1 : ((m : Int) == 0) = false) (w : World) (hG : GOk w) :
  Calls Tryz.prog 44 #[.agg #[.int .u8 1, .string (bs t), .int .i64 0, .slice ad m c], .int .i64 room] w fun e w' => e = .returned (.int .i64 (-1)) ∧ Below w.heap.size w w' := by
 have HG := Lib.hid hG
 clear hG
 go_enter Tryz.func44, Tryz.ntmps44
 go_wp2
 go_ret
 exact ⟨by first | rfl | (congr; omega), bl_⟩
theorem zjB_  (t : List UInt8) (ht : t.length ≤ 9000000000000000000) (ad : Option Addr) (m c : Nat) (room : Int) (hr0 : -1000 ≤ room) (hr1 : room ≤ 1000) (h : decide (room - 1 < 0) = false) (ht0 : (t == []) = false) (hp : x8_ t = false) (w : World) (hG : GOk w) :
  Calls Tryz.prog 44 #[.agg #[.int .u8 1, .string (bs t), .int .i64 0, .slice ad 0 c], .int .i64 room] w fun e w' => e = .returned (.int .i64 (-1)) ∧ Below w.heap.size w w' := by
 have HG := Lib.hid hG
 clear hG
 go_enter Tryz.func44, Tryz.ntmps44
 go_wp2_with (go_at_call 60; refine (zeX_ t (by first | exact ht | simp) _ (y5_ HG.out _)).mono ?_; rintro e w1 ⟨rfl, hb1⟩; rw [hp])
 go_ret
 exact ⟨by first | rfl | (congr; omega), bl_⟩
theorem zjC_ (n : Int) (t : List UInt8) (ht : t.length ≤ 9000000000000000000) (ad : Option Addr) (m c : Nat) (room : Int) (hr0 : -1000 ≤ room) (hr1 : room ≤ 1000) (h : decide (room - 1 < 0) = false) (h1 : (n == 0) = false) (w : World) (hG : GOk w) :
  Calls Tryz.prog 44 #[.agg #[.int .u8 1, .string (bs []), .int .i64 n, .slice ad m c], .int .i64 room] w fun e w' => e = .returned (.int .i64 (-1)) ∧ Below w.heap.size w w' := by
 have HG := Lib.hid hG
 clear hG
 go_enter Tryz.func44, Tryz.ntmps44
 go_wp2
 go_ret
 exact ⟨by first | rfl | (congr; omega), bl_⟩
theorem zjD_  (t : List UInt8) (ht : t.length ≤ 9000000000000000000) (ad : Option Addr) (m c : Nat) (room : Int) (hr0 : -1000 ≤ room) (hr1 : room ≤ 1000) (h : decide (room - 1 < 0) = false) (h1 : ((m : Int) == 0) = false) (w : World) (hG : GOk w) :
  Calls Tryz.prog 44 #[.agg #[.int .u8 1, .string (bs []), .int .i64 0, .slice ad m c], .int .i64 room] w fun e w' => e = .returned (.int .i64 (-1)) ∧ Below w.heap.size w w' := by
 have HG := Lib.hid hG
 clear hG
 go_enter Tryz.func44, Tryz.ntmps44
 go_wp2
 go_ret
 exact ⟨by first | rfl | (congr; omega), bl_⟩
theorem zjE_  (t : List UInt8) (ht : t.length ≤ 9000000000000000000) (ad : Option Addr) (m c : Nat) (room : Int) (hr0 : -1000 ≤ room) (hr1 : room ≤ 1000) (h : decide (room - 1 < 0) = false) (hp : x8_ [] = false) (w : World) (hG : GOk w) :
  Calls Tryz.prog 44 #[.agg #[.int .u8 1, .string (bs []), .int .i64 0, .slice ad 0 c], .int .i64 room] w fun e w' => e = .returned (.int .i64 (-1)) ∧ Below w.heap.size w w' := by
 have HG := Lib.hid hG
 clear hG
 go_enter Tryz.func44, Tryz.ntmps44
 go_wp2_with (go_at_call 60; refine (zeX_ [] (by first | exact ht | simp) _ (y5_ HG.out _)).mono ?_; rintro e w1 ⟨rfl, hb1⟩; rw [hp])
 go_ret
 exact ⟨by first | rfl | (congr; omega), bl_⟩
theorem zjF_  (t : List UInt8) (ht : t.length ≤ 9000000000000000000) (ad : Option Addr) (m c : Nat) (room : Int) (hr0 : -1000 ≤ room) (hr1 : room ≤ 1000) (h : decide (room - 1 < 0) = false) (ht0 : (t == []) = false) (hp : x8_ t = true) (w : World) (hG : GOk w) :
  Calls Tryz.prog 44 #[.agg #[.int .u8 1, .string (bs t), .int .i64 0, .slice ad 0 c], .int .i64 room] w fun e w' => e = .returned (.int .i64 (room - 1)) ∧ Below w.heap.size w w' := by
 have HG := Lib.hid hG
 clear hG
 go_enter Tryz.func44, Tryz.ntmps44
 go_wp2_with (go_at_call 60; refine (zeX_ t ht _ (y5_ HG.out _)).mono ?_; rintro e w1 ⟨rfl, hb1⟩; rw [hp]; have hq := z9_ (z3_ w _) hb1 si_; have f0 := z2_ hq; have f1 := z5_ hq; clear hq)
 go_loopw [1, 8, 98] (fun rv _ iv wr => rv = .int .i64 (room - 1) ∧ iv = .int .i64 0 ∧ Hid (Below w.heap.size w wr)) (fun _ _ _ _ => 0)
 case atStart => exact ⟨by first | rfl | (congr; omega), rfl, by show Below _ _ _; exact bl_⟩
 case round =>
  obtain ⟨rfl, rfl, hbr⟩ := hrel
  go_wp2
  go_ret
  exact ⟨rfl, hbr.out⟩
theorem zjG_ (n : Int) (t : List UInt8) (ht : t.length ≤ 9000000000000000000) (ad : Option Addr) (m c : Nat) (room : Int) (hr0 : -1000 ≤ room) (hr1 : room ≤ 1000) (h : decide (room - 1 < 0) = false) (ht0 : (t == []) = false) (h1 : (n == 0) = false) (w : World) (hG : GOk w) :
  Calls Tryz.prog 44 #[.agg #[.int .u8 2, .string (bs t), .int .i64 n, .slice ad m c], .int .i64 room] w fun e w' => e = .returned (.int .i64 (-1)) ∧ Below w.heap.size w w' := by
 have HG := Lib.hid hG
 clear hG
 go_enter Tryz.func44, Tryz.ntmps44
 go_wp2
 go_ret
 exact ⟨by first | rfl | (congr; omega), bl_⟩
theorem zjH_  (t : List UInt8) (ht : t.length ≤ 9000000000000000000) (ad : Option Addr) (m c : Nat) (room : Int) (hr0 : -1000 ≤ room) (hr1 : room ≤ 1000) (h : decide (room - 1 < 0) = false) (ht0 : (t == []) = false) (h1 : ((m : Int) == 0) = false) (w : World) (hG : GOk w) :
  Calls Tryz.prog 44 #[.agg #[.int .u8 2, .string (bs t), .int .i64 0, .slice ad m c], .int .i64 room] w fun e w' => e = .returned (.int .i64 (-1)) ∧ Below w.heap.size w w' := by
 have HG := Lib.hid hG
 clear hG
 go_enter Tryz.func44, Tryz.ntmps44
 go_wp2
 go_ret
 exact ⟨by first | rfl | (congr; omega), bl_⟩
theorem zjI_  (t : List UInt8) (ht : t.length ≤ 9000000000000000000) (ad : Option Addr) (m c : Nat) (room : Int) (hr0 : -1000 ≤ room) (hr1 : room ≤ 1000) (h : decide (room - 1 < 0) = false) (ht0 : (t == []) = false) (hp : w4_ t = false) (w : World) (hG : GOk w) :
  Calls Tryz.prog 44 #[.agg #[.int .u8 2, .string (bs t), .int .i64 0, .slice ad 0 c], .int .i64 room] w fun e w' => e = .returned (.int .i64 (-1)) ∧ Below w.heap.size w w' := by
 have HG := Lib.hid hG
 clear hG
 go_enter Tryz.func44, Tryz.ntmps44
 go_wp2_with (go_at_call 61; refine (zeY_ t (by first | exact ht | simp) _ (y5_ HG.out _)).mono ?_; rintro e w1 ⟨rfl, hb1⟩; rw [hp])
 go_ret
 exact ⟨by first | rfl | (congr; omega), bl_⟩
theorem zjJ_ (n : Int) (t : List UInt8) (ht : t.length ≤ 9000000000000000000) (ad : Option Addr) (m c : Nat) (room : Int) (hr0 : -1000 ≤ room) (hr1 : room ≤ 1000) (h : decide (room - 1 < 0) = false) (h1 : (n == 0) = false) (w : World) (hG : GOk w) :
  Calls Tryz.prog 44 #[.agg #[.int .u8 2, .string (bs []), .int .i64 n, .slice ad m c], .int .i64 room] w fun e w' => e = .returned (.int .i64 (-1)) ∧ Below w.heap.size w w' := by
 have HG := Lib.hid hG
 clear hG
 go_enter Tryz.func44, Tryz.ntmps44
 go_wp2
 go_ret
 exact ⟨by first | rfl | (congr; omega), bl_⟩
theorem zjK_  (t : List UInt8) (ht : t.length ≤ 9000000000000000000) (ad : Option Addr) (m c : Nat) (room : Int) (hr0 : -1000 ≤ room) (hr1 : room ≤ 1000) (h : decide (room - 1 < 0) = false) (h1 : ((m : Int) == 0) = false) (w : World) (hG : GOk w) :
  Calls Tryz.prog 44 #[.agg #[.int .u8 2, .string (bs []), .int .i64 0, .slice ad m c], .int .i64 room] w fun e w' => e = .returned (.int .i64 (-1)) ∧ Below w.heap.size w w' := by
 have HG := Lib.hid hG
 clear hG
 go_enter Tryz.func44, Tryz.ntmps44
 go_wp2
 go_ret
 exact ⟨by first | rfl | (congr; omega), bl_⟩
theorem zjL_  (t : List UInt8) (ht : t.length ≤ 9000000000000000000) (ad : Option Addr) (m c : Nat) (room : Int) (hr0 : -1000 ≤ room) (hr1 : room ≤ 1000) (h : decide (room - 1 < 0) = false) (hp : w4_ [] = false) (w : World) (hG : GOk w) :
  Calls Tryz.prog 44 #[.agg #[.int .u8 2, .string (bs []), .int .i64 0, .slice ad 0 c], .int .i64 room] w fun e w' => e = .returned (.int .i64 (-1)) ∧ Below w.heap.size w w' := by
 have HG := Lib.hid hG
 clear hG
 go_enter Tryz.func44, Tryz.ntmps44
 go_wp2_with (go_at_call 61; refine (zeY_ [] (by first | exact ht | simp) _ (y5_ HG.out _)).mono ?_; rintro e w1 ⟨rfl, hb1⟩; rw [hp])
 go_ret
 exact ⟨by first | rfl | (congr; omega), bl_⟩
theorem zjM_  (t : List UInt8) (ht : t.length ≤ 9000000000000000000) (ad : Option Addr) (m c : Nat) (room : Int) (hr0 : -1000 ≤ room) (hr1 : room ≤ 1000) (h : decide (room - 1 < 0) = false) (ht0 : (t == []) = false) (hp : w4_ t = true) (w : World) (hG : GOk w) :
  Calls Tryz.prog 44 #[.agg #[.int .u8 2, .string (bs t), .int .i64 0, .slice ad 0 c], .int .i64 room] w fun e w' => e = .returned (.int .i64 (room - 1)) ∧ Below w.heap.size w w' := by
 have HG := Lib.hid hG
 clear hG
 go_enter Tryz.func44, Tryz.ntmps44
 go_wp2_with (go_at_call 61; refine (zeY_ t ht _ (y5_ HG.out _)).mono ?_; rintro e w1 ⟨rfl, hb1⟩; rw [hp]; have hq := z9_ (z3_ w _) hb1 si_; have f0 := z2_ hq; have f1 := z5_ hq; clear hq)
 go_loopw [1, 8, 98] (fun rv _ iv wr => rv = .int .i64 (room - 1) ∧ iv = .int .i64 0 ∧ Hid (Below w.heap.size w wr)) (fun _ _ _ _ => 0)
 case atStart => exact ⟨by first | rfl | (congr; omega), rfl, by show Below _ _ _; exact bl_⟩
 case round =>
  obtain ⟨rfl, rfl, hbr⟩ := hrel
  go_wp2
  go_ret
  exact ⟨rfl, hbr.out⟩
theorem zjN_ (n : Int) (t : List UInt8) (ht : t.length ≤ 9000000000000000000) (ad : Option Addr) (m c : Nat) (room : Int) (hr0 : -1000 ≤ room) (hr1 : room ≤ 1000) (h : decide (room - 1 < 0) = false) (h1 : (t == []) = false) (w : World) (hG : GOk w) :
  Calls Tryz.prog 44 #[.agg #[.int .u8 3, .string (bs t), .int .i64 n, .slice ad m c], .int .i64 room] w fun e w' => e = .returned (.int .i64 (-1)) ∧ Below w.heap.size w w' := by
 have HG := Lib.hid hG
 clear hG
 go_enter Tryz.func44, Tryz.ntmps44
 go_wp2
 go_ret
 exact ⟨by first | rfl | (congr; omega), bl_⟩
theorem zjO_ (n : Int) (t : List UInt8) (ht : t.length ≤ 9000000000000000000) (ad : Option Addr) (m c : Nat) (room : Int) (hr0 : -1000 ≤ room) (hr1 : room ≤ 1000) (h : decide (room - 1 < 0) = false) (h1 : ((m : Int) == 0) = false) (w : World) (hG : GOk w) :
  Calls Tryz.prog 44 #[.agg #[.int .u8 3, .string (bs []), .int .i64 n, .slice ad m c], .int .i64 room] w fun e w' => e = .returned (.int .i64 (-1)) ∧ Below w.heap.size w w' := by
 have HG := Lib.hid hG
 clear hG
 go_enter Tryz.func44, Tryz.ntmps44
 go_wp2
 go_ret
 exact ⟨by first | rfl | (congr; omega), bl_⟩
theorem zjP_ (n : Int) (t : List UInt8) (ht : t.length ≤ 9000000000000000000) (ad : Option Addr) (m c : Nat) (room : Int) (hr0 : -1000 ≤ room) (hr1 : room ≤ 1000) (h : decide (room - 1 < 0) = false) (h1 : decide (0 ≤ n) = false) (w : World) (hG : GOk w) :
  Calls Tryz.prog 44 #[.agg #[.int .u8 3, .string (bs []), .int .i64 n, .slice ad 0 c], .int .i64 room] w fun e w' => e = .returned (.int .i64 (-1)) ∧ Below w.heap.size w w' := by
 have HG := Lib.hid hG
 clear hG
 go_enter Tryz.func44, Tryz.ntmps44
 go_wp2
 go_ret
 exact ⟨by first | rfl | (congr; omega), bl_⟩
theorem zjQ_ (n : Int) (t : List UInt8) (ht : t.length ≤ 9000000000000000000) (ad : Option Addr) (m c : Nat) (room : Int) (hr0 : -1000 ≤ room) (hr1 : room ≤ 1000) (h : decide (room - 1 < 0) = false) (h1 : 0 ≤ n) (h2 : decide (n < 1073741824) = false) (w : World) (hG : GOk w) :
  Calls Tryz.prog 44 #[.agg #[.int .u8 3, .string (bs []), .int .i64 n, .slice ad 0 c], .int .i64 room] w fun e w' => e = .returned (.int .i64 (-1)) ∧ Below w.heap.size w w' := by
 have HG := Lib.hid hG
 clear hG
 go_enter Tryz.func44, Tryz.ntmps44
 go_wp2
 go_ret
 exact ⟨by first | rfl | (congr; omega), bl_⟩
theorem zjR_ (n : Int) (t : List UInt8) (ht : t.length ≤ 9000000000000000000) (ad : Option Addr) (m c : Nat) (room : Int) (hr0 : -1000 ≤ room) (hr1 : room ≤ 1000) (h : decide (room - 1 < 0) = false) (h1 : 0 ≤ n) (h2 : n < 1073741824) (w : World) (hG : GOk w) :
  Calls Tryz.prog 44 #[.agg #[.int .u8 3, .string (bs []), .int .i64 n, .slice ad 0 c], .int .i64 room] w fun e w' => e = .returned (.int .i64 (room - 1)) ∧ Below w.heap.size w w' := by
 have HG := Lib.hid hG
 clear hG
 go_enter Tryz.func44, Tryz.ntmps44
 go_wp2
 go_loopw [1, 8, 98] (fun rv _ iv wr => rv = .int .i64 (room - 1) ∧ iv = .int .i64 0 ∧ Hid (Below w.heap.size w wr)) (fun _ _ _ _ => 0)
 case atStart => exact ⟨by first | rfl | (congr; omega), rfl, by show Below _ _ _; exact bl_⟩
 case round =>
  obtain ⟨rfl, rfl, hbr⟩ := hrel
  go_wp2
  go_ret
  exact ⟨rfl, hbr.out⟩
theorem zjS_ (n : Int) (t : List UInt8) (ht : t.length ≤ 9000000000000000000) (ad : Option Addr) (m c : Nat) (room : Int) (hr0 : -1000 ≤ room) (hr1 : room ≤ 1000) (h : decide (room - 1 < 0) = false) (h1 : (t == []) = false) (w : World) (hG : GOk w) :
  Calls Tryz.prog 44 #[.agg #[.int .u8 4, .string (bs t), .int .i64 n, .slice ad m c], .int .i64 room] w fun e w' => e = .returned (.int .i64 (-1)) ∧ Below w.heap.size w w' := by
 have HG := Lib.hid hG
 clear hG
 go_enter Tryz.func44, Tryz.ntmps44
 go_wp2
 go_ret
 exact ⟨by first | rfl | (congr; omega), bl_⟩
theorem zjT_ (n : Int) (t : List UInt8) (ht : t.length ≤ 9000000000000000000) (ad : Option Addr) (m c : Nat) (room : Int) (hr0 : -1000 ≤ room) (hr1 : room ≤ 1000) (h : decide (room - 1 < 0) = false) (h1 : ((m : Int) == 0) = false) (w : World) (hG : GOk w) :
  Calls Tryz.prog 44 #[.agg #[.int .u8 4, .string (bs []), .int .i64 n, .slice ad m c], .int .i64 room] w fun e w' => e = .returned (.int .i64 (-1)) ∧ Below w.heap.size w w' := by
 have HG := Lib.hid hG
 clear hG
 go_enter Tryz.func44, Tryz.ntmps44
 go_wp2
 go_ret
 exact ⟨by first | rfl | (congr; omega), bl_⟩
theorem zjU_ (n : Int) (t : List UInt8) (ht : t.length ≤ 9000000000000000000) (ad : Option Addr) (m c : Nat) (room : Int) (hr0 : -1000 ≤ room) (hr1 : room ≤ 1000) (h : decide (room - 1 < 0) = false) (h1 : decide (0 ≤ n) = false) (w : World) (hG : GOk w) :
  Calls Tryz.prog 44 #[.agg #[.int .u8 4, .string (bs []), .int .i64 n, .slice ad 0 c], .int .i64 room] w fun e w' => e = .returned (.int .i64 (-1)) ∧ Below w.heap.size w w' := by
 have HG := Lib.hid hG
 clear hG
 go_enter Tryz.func44, Tryz.ntmps44
 go_wp2
 go_ret
 exact ⟨by first | rfl | (congr; omega), bl_⟩
theorem zjV_ (n : Int) (t : List UInt8) (ht : t.length ≤ 9000000000000000000) (ad : Option Addr) (m c : Nat) (room : Int) (hr0 : -1000 ≤ room) (hr1 : room ≤ 1000) (h : decide (room - 1 < 0) = false) (h1 : 0 ≤ n) (h2 : decide (n < 1073741824) = false) (w : World) (hG : GOk w) :
  Calls Tryz.prog 44 #[.agg #[.int .u8 4, .string (bs []), .int .i64 n, .slice ad 0 c], .int .i64 room] w fun e w' => e = .returned (.int .i64 (-1)) ∧ Below w.heap.size w w' := by
 have HG := Lib.hid hG
 clear hG
 go_enter Tryz.func44, Tryz.ntmps44
 go_wp2
 go_ret
 exact ⟨by first | rfl | (congr; omega), bl_⟩
theorem zjW_ (n : Int) (t : List UInt8) (ht : t.length ≤ 9000000000000000000) (ad : Option Addr) (m c : Nat) (room : Int) (hr0 : -1000 ≤ room) (hr1 : room ≤ 1000) (h : decide (room - 1 < 0) = false) (h1 : 0 ≤ n) (h2 : n < 1073741824) (w : World) (hG : GOk w) :
  Calls Tryz.prog 44 #[.agg #[.int .u8 4, .string (bs []), .int .i64 n, .slice ad 0 c], .int .i64 room] w fun e w' => e = .returned (.int .i64 (room - 1)) ∧ Below w.heap.size w w' := by
 have HG := Lib.hid hG
 clear hG
 go_enter Tryz.func44, Tryz.ntmps44
 go_wp2
 go_loopw [1, 8, 98] (fun rv _ iv wr => rv = .int .i64 (room - 1) ∧ iv = .int .i64 0 ∧ Hid (Below w.heap.size w wr)) (fun _ _ _ _ => 0)
 case atStart => exact ⟨by first | rfl | (congr; omega), rfl, by show Below _ _ _; exact bl_⟩
 case round =>
  obtain ⟨rfl, rfl, hbr⟩ := hrel
  go_wp2
  go_ret
  exact ⟨rfl, hbr.out⟩
theorem zjX_ (n : Int) (t : List UInt8) (ht : t.length ≤ 9000000000000000000) (ad : Option Addr) (m c : Nat) (room : Int) (hr0 : -1000 ≤ room) (hr1 : room ≤ 1000) (h : decide (room - 1 < 0) = false) (h1 : (t == []) = false) (w : World) (hG : GOk w) :
  Calls Tryz.prog 44 #[.agg #[.int .u8 5, .string (bs t), .int .i64 n, .slice ad m c], .int .i64 room] w fun e w' => e = .returned (.int .i64 (-1)) ∧ Below w.heap.size w w' := by
 have HG := Lib.hid hG
 clear hG
 go_enter Tryz.func44, Tryz.ntmps44
 go_wp2
 go_ret
 exact ⟨by first | rfl | (congr; omega), bl_⟩
theorem zjY_ (n : Int) (t : List UInt8) (ht : t.length ≤ 9000000000000000000) (ad : Option Addr) (m c : Nat) (room : Int) (hr0 : -1000 ≤ room) (hr1 : room ≤ 1000) (h : decide (room - 1 < 0) = false) (h1 : (n == 0) = false) (w : World) (hG : GOk w) :
  Calls Tryz.prog 44 #[.agg #[.int .u8 5, .string (bs []), .int .i64 n, .slice ad m c], .int .i64 room] w fun e w' => e = .returned (.int .i64 (-1)) ∧ Below w.heap.size w w' := by
 have HG := Lib.hid hG
 clear hG
 go_enter Tryz.func44, Tryz.ntmps44
 go_wp2
 go_ret
 exact ⟨by first | rfl | (congr; omega), bl_⟩
theorem zjZ_  (t : List UInt8) (ht : t.length ≤ 9000000000000000000) (ad : Option Addr) (m c : Nat) (room : Int) (hr0 : -1000 ≤ room) (hr1 : room ≤ 1000) (h : decide (room - 1 < 0) = false) (w : World) (hG : GOk w) :
  Calls Tryz.prog 44 #[.agg #[.int .u8 5, .string (bs []), .int .i64 0, .slice ad 0 c], .int .i64 room] w fun e w' => e = .returned (.int .i64 (-1)) ∧ Below w.heap.size w w' := by
 have HG := Lib.hid hG
 clear hG
 go_enter Tryz.func44, Tryz.ntmps44
 go_wp2
 go_ret
 exact ⟨by first | rfl | (congr; omega), bl_⟩
theorem zj0_  (t : List UInt8) (ht : t.length ≤ 9000000000000000000) (ad : Option Addr) (m c : Nat) (room : Int) (hr0 : -1000 ≤ room) (hr1 : room ≤ 1000) (h : decide (room - 1 < 0) = false) (h1 : (0 : Int) < m) (h2 : decide ((m : Int) ≤ 8) = false) (w : World) (hG : GOk w) :
  Calls Tryz.prog 44 #[.agg #[.int .u8 5, .string (bs []), .int .i64 0, .slice ad m c], .int .i64 room] w fun e w' => e = .returned (.int .i64 (-1)) ∧ Below w.heap.size w w' := by
 have HG := Lib.hid hG
 clear hG
 go_enter Tryz.func44, Tryz.ntmps44
 go_wp2
 go_ret
 exact ⟨by first | rfl | (congr; omega), bl_⟩
theorem zj1_ (n : Int) (t : List UInt8) (ht : t.length ≤ 9000000000000000000) (ad : Option Addr) (m c : Nat) (room : Int) (hr0 : -1000 ≤ room) (hr1 : room ≤ 1000) (h : decide (room - 1 < 0) = false) (h1 : (t == []) = false) (w : World) (hG : GOk w) :
  Calls Tryz.prog 44 #[.agg #[.int .u8 6, .string (bs t), .int .i64 n, .slice ad m c], .int .i64 room] w fun e w' => e = .returned (.int .i64 (-1)) ∧ Below w.heap.size w w' := by
 have HG := Lib.hid hG
 clear hG
 go_enter Tryz.func44, Tryz.ntmps44
 go_wp2
 go_ret
 exact ⟨by first | rfl | (congr; omega), bl_⟩
theorem zj2_ (n : Int) (t : List UInt8) (ht : t.length ≤ 9000000000000000000) (ad : Option Addr) (m c : Nat) (room : Int) (hr0 : -1000 ≤ room) (hr1 : room ≤ 1000) (h : decide (room - 1 < 0) = false) (h1 : (n == 0) = false) (w : World) (hG : GOk w) :
  Calls Tryz.prog 44 #[.agg #[.int .u8 6, .string (bs []), .int .i64 n, .slice ad m c], .int .i64 room] w fun e w' => e = .returned (.int .i64 (-1)) ∧ Below w.heap.size w w' := by
 have HG := Lib.hid hG
 clear hG
 go_enter Tryz.func44, Tryz.ntmps44
 go_wp2
 go_ret
 exact ⟨by first | rfl | (congr; omega), bl_⟩
theorem zj3_  (t : List UInt8) (ht : t.length ≤ 9000000000000000000) (ad : Option Addr) (m c : Nat) (room : Int) (hr0 : -1000 ≤ room) (hr1 : room ≤ 1000) (h : decide (room - 1 < 0) = false) (w : World) (hG : GOk w) :
  Calls Tryz.prog 44 #[.agg #[.int .u8 6, .string (bs []), .int .i64 0, .slice ad 0 c], .int .i64 room] w fun e w' => e = .returned (.int .i64 (-1)) ∧ Below w.heap.size w w' := by
 have HG := Lib.hid hG
 clear hG
 go_enter Tryz.func44, Tryz.ntmps44
 go_wp2
 go_ret
 exact ⟨by first | rfl | (congr; omega), bl_⟩
theorem zj4_  (t : List UInt8) (ht : t.length ≤ 9000000000000000000) (ad : Option Addr) (m c : Nat) (room : Int) (hr0 : -1000 ≤ room) (hr1 : room ≤ 1000) (h : decide (room - 1 < 0) = false) (h1 : (0 : Int) < m) (h2 : decide ((m : Int) ≤ 8) = false) (w : World) (hG : GOk w) :
  Calls Tryz.prog 44 #[.agg #[.int .u8 6, .string (bs []), .int .i64 0, .slice ad m c], .int .i64 room] w fun e w' => e = .returned (.int .i64 (-1)) ∧ Below w.heap.size w w' := by
 have HG := Lib.hid hG
 clear hG
 go_enter Tryz.func44, Tryz.ntmps44
 go_wp2
 go_ret
 exact ⟨by first | rfl | (congr; omega), bl_⟩
theorem zj5_ (k n : Int) (t : List UInt8) (ht : t.length ≤ 9000000000000000000) (ad : Option Addr) (m c : Nat) (room : Int) (hr0 : -1000 ≤ room) (hr1 : room ≤ 1000) (h : decide (room - 1 < 0) = false) (ht0 : (t == []) = false) (b1 : (k == 1) = false) (b2 : (k == 2) = false) (b3 : (k == 3) = false) (b4 : (k == 4) = false) (b5 : (k == 5) = false) (b6 : (k == 6) = false) (w : World) (hG : GOk w) :
  Calls Tryz.prog 44 #[.agg #[.int .u8 k, .string (bs t), .int .i64 n, .slice ad m c], .int .i64 room] w fun e w' => e = .returned (.int .i64 (-1)) ∧ Below w.heap.size w w' := by
 have HG := Lib.hid hG
 clear hG
 go_enter Tryz.func44, Tryz.ntmps44
 go_wp2
 go_ret
 exact ⟨by first | rfl | (congr; omega), bl_⟩
theorem zj6_ (k n : Int) (t : List UInt8) (ht : t.length ≤ 9000000000000000000) (ad : Option Addr) (m c : Nat) (room : Int) (hr0 : -1000 ≤ room) (hr1 : room ≤ 1000) (h : decide (room - 1 < 0) = false) (b1 : (k == 1) = false) (b2 : (k == 2) = false) (b3 : (k == 3) = false) (b4 : (k == 4) = false) (b5 : (k == 5) = false) (b6 : (k == 6) = false) (w : World) (hG : GOk w) :
  Calls Tryz.prog 44 #[.agg #[.int .u8 k, .string (bs []), .int .i64 n, .slice ad m c], .int .i64 room] w fun e w' => e = .returned (.int .i64 (-1)) ∧ Below w.heap.size w w' := by
 have HG := Lib.hid hG
 clear hG
 go_enter Tryz.func44, Tryz.ntmps44
 go_wp2
 go_ret
 exact ⟨by first | rfl | (congr; omega), bl_⟩
def v3_ (c : UInt8) : Bool := decide (48 ≤ c.toNat) && decide (c.toNat ≤ 57)
def j6_ (l : List UInt8) : Nat := l.foldl (fun n c => n * 10 + (c.toNat - 48)) 0
def zaU_ (ds : List UInt8) : Bool := decide (ds ≠ []) && decide (ds.length ≤ 10) && (decide (ds.length ≤ 1) || decide (head ds ≠ 48)) && ds.all v3_
def v7_ (e : UInt8) (s : List UInt8) : Option (Nat × List UInt8) :=
 if e ∈ s then (if zaU_ (s.takeWhile (· != e)) then some (j6_ (s.takeWhile (· != e)), s.drop ((s.takeWhile (· != e)).length + 1)) else none) else none
theorem zdv_ (l : List UInt8) (c : UInt8) : j6_ (l ++ [c]) = j6_ l * 10 + (c.toNat - 48) := by simp [j6_]
theorem zj7_ : ∀ n : Nat, (Lib.decDigits n).all v3_ = true ∧ j6_ (Lib.decDigits n) = n ∧ Lib.decDigits n ≠ [] ∧ (10 ≤ n → head (Lib.decDigits n) ≠ 48) ∧ (0 < n → head (Lib.decDigits n) ≠ 48) := by
 intro n
 induction n using Nat.strongRecOn with
 | ind n ih =>
   by_cases h : n < 10
   · rw [Lib.decDigits_one h]
     have e := zf9_ n h
     refine ⟨by simp only [List.all_cons, List.all_nil, Bool.and_true, v3_, e, Bool.and_eq_true, decide_eq_true_eq]; omega, by simp only [j6_, List.foldl, e]; omega, by simp, by omega, ?_⟩
     intro h0 hh
     simp only [head, List.headD_cons] at hh
     have := congrArg UInt8.toNat hh
     rw [e] at this
     simp at this
     omega
   · have e := zf9_ (n % 10) (Nat.mod_lt _ om_)
     obtain ⟨h1, h2, h3, _, h5⟩ := ih (n / 10) om_
     have e0 : Lib.decDigits n = Lib.decDigits (n / 10) ++ [UInt8.ofNat (48 + n % 10)] := by rw [Lib.decDigits, dif_neg h]
     have hh : head (Lib.decDigits n) = head (Lib.decDigits (n / 10)) := by
      rw [e0]
      cases hq : Lib.decDigits (n / 10) with
      | nil => exact absurd hq h3
      | cons a b => rfl
     rw [hh, e0]
     refine ⟨?_, ?_, by simp, fun _ => h5 om_, fun _ => h5 om_⟩
     · rw [List.all_append, h1, Bool.true_and]
       simp [v3_, e]; omega
     · rw [zdv_, h2, e]; omega
theorem zeZ_ (l : List UInt8) : ∀ (m : Nat), l.length = m → l ≠ [] → l.all v3_ = true → (l.length ≤ 1 ∨ head l ≠ 48) → Lib.decDigits (j6_ l) = l ∧ (2 ≤ l.length → 10 ≤ j6_ l) ∧ (head l ≠ 48 → 1 ≤ j6_ l) := by
 intro m
 induction m generalizing l with
 | zero => intro hm hne; exact absurd (List.eq_nil_of_length_eq_zero hm) hne
 | succ m ih =>
   intro hm hne hall hz
   obtain ⟨l', c, rfl⟩ : ∃ l' c, l = l' ++ [c] := ⟨l.dropLast, l.getLast hne, (List.dropLast_concat_getLast hne).symm⟩
   rw [List.all_append, Bool.and_eq_true] at hall
   have hc : 48 ≤ c.toNat ∧ c.toNat ≤ 57 := by simpa [v3_] using hall.2
   have ec : UInt8.ofNat (48 + (c.toNat - 48)) = c := by
    rw [show 48 + (c.toNat - 48) = c.toNat by omega]
    exact UInt8.ofNat_toNat
   rw [zdv_]
   by_cases hl : l' = []
   · subst hl
     have e0 : j6_ [] * 10 + (c.toNat - 48) = c.toNat - 48 := by simp [j6_]
     rw [e0, Lib.decDigits_one om_, ec]
     refine ⟨rfl, by simp, fun h => ?_⟩
     have : c.toNat ≠ 48 := fun hh => h (by
      simp only [List.nil_append, head, List.headD_cons]
      exact UInt8.toNat_inj.1 hh)
     omega
   · have hh : head (l' ++ [c]) = head l' := by
      cases l' with
      | nil => exact absurd rfl hl
      | cons a b => rfl
     have hlen : l' ≠ [] → 1 ≤ l'.length := fun _ => by cases l' with | nil => exact absurd rfl hl | cons a b => simp
     have h48 : head l' ≠ 48 := by
      rcases hz with hz | hz
      · simp at hz; exact absurd hz hl
      · rwa [hh] at hz
     obtain ⟨g1, g2, g3⟩ := ih l' (by simpa using hm) hl hall.1 (.inr h48)
     have hv := g3 h48
     have d1 : (j6_ l' * 10 + (c.toNat - 48)) / 10 = j6_ l' := by omega
     have d2 : (j6_ l' * 10 + (c.toNat - 48)) % 10 = c.toNat - 48 := by omega
     refine ⟨?_, fun _ => by omega, fun _ => by omega⟩
     rw [Lib.decDigits, dif_neg om_, d1, d2, g1, ec]
theorem zgG_ (e : UInt8) (he : v3_ e = false) (ds r : List UInt8) (h : ds.all v3_ = true) : (ds ++ e :: r).takeWhile (· != e) = ds := by
 induction ds with
 | nil => simp
 | cons a b ih =>
   rw [List.all_cons, Bool.and_eq_true] at h
   have : (a != e) = true := by
    cases hq : (a != e) with
    | true => rfl
    | false =>
      have : a = e := by simpa using hq
      rw [this, he] at h
      simp at h
   rw [List.cons_append, List.takeWhile_cons, this]
   simp [ih h.2]
theorem zgH_ (e : UInt8) (he : v3_ e = false) (n : Nat) (hn : n < 10000000000) (r : List UInt8) : v7_ e (Lib.decDigits n ++ e :: r) = some (n, r) := by
 obtain ⟨h1, h2, h3, h4, h5⟩ := zj7_ n
 have hl := zeD_ 9 n om_
 unfold v7_
 rw [if_pos si_, zgG_ e he _ _ h1, if_pos, h2]
 · simp
 · unfold zaU_
   rw [h1]
   simp only [h3, hl, Bool.and_true, Bool.and_eq_true, Bool.or_eq_true, decide_eq_true_eq, ne_eq, not_false_eq_true, true_and]
   by_cases hz : n < 10
   · left; rw [Lib.decDigits_one hz]; simp
   · right; exact h4 om_
theorem ze0_ (e : UInt8) : ∀ s : List UInt8, e ∈ s → s = s.takeWhile (· != e) ++ e :: s.drop ((s.takeWhile (· != e)).length + 1)
 | [], hm => by simp at hm
 | a :: b, hm => by
   by_cases ha : a = e
   · subst ha; simp
   · have hb : e ∈ b := by
      rcases List.mem_cons.1 hm with h | h
      · exact absurd h.symm ha
      · exact h
     have h1 : (a != e) = true := by simpa using ha
     rw [List.takeWhile_cons, h1]
     simp only [if_true, List.cons_append, List.length_cons, List.drop_succ_cons]
     exact congrArg _ (ze0_ e b hb)
theorem zaF_ {e : UInt8} {s r : List UInt8} {n : Nat} (h : v7_ e s = some (n, r)) : s = Lib.decDigits n ++ e :: r ∧ n < 10000000000 := by
 unfold v7_ at h
 split at h
 · rename_i hm
   split at h
   · rename_i hg
     simp only [Option.some.injEq, Prod.mk.injEq] at h
     obtain ⟨hn, hr⟩ := h
     unfold zaU_ at hg
     simp only [Bool.and_eq_true, Bool.or_eq_true, decide_eq_true_eq] at hg
     obtain ⟨⟨⟨g1, g2⟩, g3⟩, g4⟩ := hg
     obtain ⟨d1, _, _⟩ := zeZ_ _ _ rfl g1 g4 g3
     rw [hn] at d1
     have hs := ze0_ e s hm
     refine ⟨by rw [d1, ← hr]; exact hs, ?_⟩
     have hb : ∀ l : List UInt8, l.all v3_ = true → j6_ l < 10 ^ l.length := by
      intro l
      induction hk : l.length generalizing l with
      | zero => intro _; rw [List.eq_nil_of_length_eq_zero hk]; simp [j6_]
      | succ k ih =>
        intro ha
        have hne : l ≠ [] := fun h => by rw [h] at hk; simp at hk
        obtain ⟨l', c, rfl⟩ : ∃ l' c, l = l' ++ [c] := ⟨l.dropLast, l.getLast hne, (List.dropLast_concat_getLast hne).symm⟩
        rw [List.all_append, Bool.and_eq_true] at ha
        have hc : 48 ≤ c.toNat ∧ c.toNat ≤ 57 := by simpa [v3_] using ha.2
        have := ih l' (by simpa using hk) ha.1
        rw [zdv_, Nat.pow_succ]
        omega
     have h1 := hb _ g4
     have h2 : 10 ^ (s.takeWhile (· != e)).length ≤ 10 ^ 10 := Nat.pow_le_pow_right om_ g2
     rw [hn] at h1
     omega
   · cases h
 · cases h
def v8_ (f : Nat → List UInt8 → Option (LT × List UInt8 × Nat)) : Nat → Nat → List UInt8 → Option (List LT × List UInt8 × Nat)
 | 0, room, s => some ([], s, room)
 | n + 1, room, s => match f room s with
   | none => none
   | some (x, s', room') => match v8_ f n room' s' with
     | none => none
     | some (l, s'', room'') => some (x :: l, s'', room'')
def w2_ (cut : List UInt8 → Option (List UInt8 × List UInt8)) (lim : Nat → Option Nat) : Nat → Nat → List UInt8 → Option (LT × List UInt8 × Nat)
 | 0, _, _ => none
 | _ + 1, _, [] => none
 | _ + 1, 0, _ :: _ => none
 | f + 1, room + 1, c :: r =>
   if c = 115 ∨ c = 112 then (match cut r with | none => none | some (t, s) => some (.mk (if c = 115 then 1 else 2) t 0 [], s, room))
   else if c = 97 ∨ c = 111 then (match v7_ 59 r with | none => none | some (n, s) => some (.mk (if c = 97 then 3 else 4) [] n [], s, room))
   else if c = 38 ∨ c = 124 then (match v7_ 58 r with | none => none | some (n, s) => (match lim n with | none => none | some n => (match v8_ (w2_ cut lim f) n room s with | none => none | some (l, s', room') => some (.mk (if c = 38 then 5 else 6) [] 0 l, s', room'))))
   else none
def k8_ (cut : List UInt8 → Option (List UInt8 × List UInt8)) (lim : Nat → Option Nat) (s : List UInt8) : Option LT :=
 match w2_ cut lim 65 64 s with
 | some (x, [], _) => if w7_ x then some x else none
 | _ => none
theorem zcR_ (x : LT) (l : List LT) : q5_ (x :: l) = w5_ x ++ q5_ l := by rw [q5_]
theorem zbe_ (x : LT) (l : List LT) : w1_ (x :: l) = x3_ x + w1_ l := by rw [w1_]
theorem zcm_ (x : LT) (l : List LT) : w6_ (x :: l) = (q1_ x && w6_ l) := by rw [w6_]
theorem zbZ_ : q5_ [] = [] := by rw [q5_]
theorem zbF_ : w1_ [] = 0 := by rw [w1_]
theorem zgI_ {E : List UInt8 → Prop} (hE : ∀ x r, q1_ x = true → E (w5_ x ++ r)) (f : Nat → List UInt8 → Option (LT × List UInt8 × Nat)) : ∀ (l : List LT) (room : Nat) (r : List UInt8), (w1_ l ≤ room) → w6_ l = true → E r → (∀ x ∈ l, ∀ (rm : Nat) (r : List UInt8), E r → rm ≤ room → x3_ x ≤ rm → f rm (w5_ x ++ r) = some (x, r, rm - (x3_ x).toNat)) →
  v8_ f l.length room (q5_ l ++ r) = some (l, r, room - (w1_ l).toNat)
 | [], room, r, _, _, _, _ => by rw [zbZ_, zbF_]; simp [v8_]
 | x :: l, room, r, hc, hr, he, h => by
   rw [zcm_, Bool.and_eq_true] at hr
   have hel : E (q5_ l ++ r) := by
    cases l with
    | nil => rw [zbZ_]; exact he
    | cons y l =>
      have h2 := hr.2
      rw [zcm_, Bool.and_eq_true] at h2
      rw [zcR_, List.append_assoc]
      exact hE y _ h2.1
   rw [zbe_] at hc ⊢
   have p1 := j5_ x
   have p2 := zbt_ l
   rw [List.length_cons, v8_, zcR_, List.append_assoc, h x si_ room _ hel (Nat.le_refl _) om_]
   simp only
   rw [zgI_ hE f l _ r om_ hr.2 he (fun y hy rm r her hr hcy => h y (by simp [hy]) rm r her om_ hcy)]
   simp only [Option.some.injEq, Prod.mk.injEq, true_and]
   omega
mutual
theorem zaN_ : ∀ (l : List LT) (x : LT), x ∈ l → x3_ x ≤ w1_ l
 | [], x, h => by simp at h
 | y :: l, x, h => by
   rw [zbe_]
   have p1 := j5_ y
   have p2 := zbt_ l
   rcases List.mem_cons.1 h with rfl | h
   · omega
   · have := zaN_ l x h; omega
end
theorem zb0_ : ∀ (l : List LT) (x : LT), w6_ l = true → x ∈ l → q1_ x = true
 | [], x, _, h => by simp at h
 | y :: l, x, hr, h => by
   rw [zcm_, Bool.and_eq_true] at hr
   rcases List.mem_cons.1 h with rfl | h
   · exact hr.1
   · exact zb0_ l x hr.2 h
theorem zgJ_ {cut : List UInt8 → Option (List UInt8 × List UInt8)} {lim : Nat → Option Nat} {E : List UInt8 → Prop} (hE : ∀ x r, q1_ x = true → E (w5_ x ++ r)) (hlim : ∀ n, n ≤ 8 → lim n = some n) (hcut : ∀ t r, E r → (x8_ t = true ∨ w4_ t = true) → cut (t ++ r) = some (t, r)) :
  ∀ (f room : Nat) (x : LT) (r : List UInt8), E r → room < f → q1_ x = true → x3_ x ≤ room → w2_ cut lim f room (w5_ x ++ r) = some (x, r, room - (x3_ x).toNat)
 | 0, _, _, _, _, h, _, _ => by omega
 | f + 1, room, .mk k t n kids, r, he, hf, hr, hc => by
   rw [q1_, Bool.and_eq_true] at hr
   rw [x3_] at hc ⊢
   have p2 := zbt_ kids
   obtain ⟨rm, rfl⟩ : ∃ rm, room = rm + 1 := ⟨room - 1, by omega⟩
   obtain ⟨hb, hk⟩ := hr
   rw [w5_]
   unfold y9_ at hb
   by_cases h1 : k = 1
   · subst h1
     simp only [if_true, Bool.and_eq_true, decide_eq_true_eq] at hb
     obtain ⟨⟨rfl, hm⟩, hp⟩ := hb
     obtain rfl := List.eq_nil_of_length_eq_zero hm
     simp [zat_, w2_, hcut t r he (.inl hp), zbF_]
   rw [if_neg h1] at hb
   by_cases h2 : k = 2
   · subst h2
     simp only [if_true, Bool.and_eq_true, decide_eq_true_eq] at hb
     obtain ⟨⟨rfl, hm⟩, hp⟩ := hb
     obtain rfl := List.eq_nil_of_length_eq_zero hm
     simp [zat_, w2_, hcut t r he (.inr hp), zbF_]
   rw [if_neg h2] at hb
   by_cases h34 : k = 3 ∨ k = 4
   · rw [if_pos h34] at hb
     simp only [Bool.and_eq_true, decide_eq_true_eq] at hb
     obtain ⟨⟨⟨rfl, hm⟩, hn0⟩, hn1⟩ := hb
     obtain rfl := List.eq_nil_of_length_eq_zero hm
     have hd := zgH_ 59 de_ n.toNat om_ r
     have en : ((n.toNat : Nat) : Int) = n := by omega
     rcases h34 with rfl | rfl <;> simp [zat_, w2_, hd, zbF_, en]
   rw [if_neg h34] at hb
   by_cases h56 : k = 5 ∨ k = 6
   · rw [if_pos h56] at hb
     simp only [Bool.and_eq_true, decide_eq_true_eq] at hb
     obtain ⟨⟨⟨rfl, rfl⟩, hm0⟩, hm1⟩ := hb
     have hd := zgH_ 58 de_ kids.length om_ (q5_ kids ++ r)
     have hrow := zgI_ hE (w2_ cut lim f) kids rm r om_ hk he (fun x hx m r her hm hcx => zgJ_ hE hlim hcut f m x r her om_ (zb0_ kids x hk hx) hcx)
     have em := hlim kids.length om_
     rcases h56 with rfl | rfl <;> simp [zat_, w2_, hd, em, hrow] <;> omega
   rw [if_neg h56] at hb
   cases hb
theorem zgK_ {f : Nat → List UInt8 → Option (LT × List UInt8 × Nat)} (hf : ∀ room s x r m, f room s = some (x, r, m) → q1_ x = true → s = w5_ x ++ r) : ∀ (n room : Nat) (s : List UInt8) (l : List LT) (r : List UInt8) (m : Nat), v8_ f n room s = some (l, r, m) → w6_ l = true → s = q5_ l ++ r ∧ l.length = n
 | 0, room, s, l, r, m, h, _ => by
   simp only [v8_, Option.some.injEq, Prod.mk.injEq] at h
   obtain ⟨rfl, rfl, _⟩ := h
   rw [zbZ_]
   exact ⟨rfl, rfl⟩
 | n + 1, room, s, l, r, m, h, hr => by
   rw [v8_] at h
   split at h
   · cases h
   · rename_i x s' room' hx
     split at h
     · cases h
     · rename_i l' s'' room'' hl
       simp only [Option.some.injEq, Prod.mk.injEq] at h
       obtain ⟨rfl, rfl, _⟩ := h
       rw [zcm_, Bool.and_eq_true] at hr
       obtain ⟨e1, e2⟩ := zgK_ hf n room' s' l' s'' _ hl hr.2
       rw [zcR_, List.append_assoc, ← e1]
       exact ⟨hf _ _ _ _ _ hx hr.1, by simp [e2]⟩
theorem zgL_ {cut : List UInt8 → Option (List UInt8 × List UInt8)} {lim : Nat → Option Nat} (hlim : ∀ n m, lim n = some m → m ≤ 8 → n = m) (hcut : ∀ s t r, cut s = some (t, r) → s = t ++ r) :
  ∀ (f room : Nat) (s : List UInt8) (x : LT) (r : List UInt8) (m : Nat), w2_ cut lim f room s = some (x, r, m) → q1_ x = true → s = w5_ x ++ r
 | 0, _, _, _, _, _, h, _ => by cases h
 | _ + 1, _, [], _, _, _, h, _ => by simp [w2_] at h
 | _ + 1, 0, _ :: _, _, _, _, h, _ => by simp [w2_] at h
 | f + 1, room + 1, c :: s, x, r, m, h, hr => by
   rw [w2_] at h
   split at h
   · rename_i hc
     split at h
     · cases h
     · rename_i t s' ht
       simp only [Option.some.injEq, Prod.mk.injEq] at h
       obtain ⟨rfl, rfl, _⟩ := h
       rw [w5_, hcut _ _ _ ht]
       rcases hc with rfl | rfl <;> simp [zat_]
   · split at h
     · rename_i hc
       split at h
       · cases h
       · rename_i n s' hn
         simp only [Option.some.injEq, Prod.mk.injEq] at h
         obtain ⟨rfl, rfl, _⟩ := h
         rw [w5_, (zaF_ hn).1]
         rcases hc with rfl | rfl <;> simp [zat_]
     · split at h
       · rename_i hc
         split at h
         · cases h
         · rename_i n s' hn
           split at h
           · cases h
           · rename_i n' hn'
             split at h
             · cases h
             rename_i l s'' room' hl
             simp only [Option.some.injEq, Prod.mk.injEq] at h
             obtain ⟨rfl, rfl, _⟩ := h
             rw [q1_, Bool.and_eq_true] at hr
             obtain ⟨e1, e2⟩ := zgK_ (fun room s x r m => zgL_ hlim hcut f room s x r m) _ _ _ _ _ _ hl hr.2
             have hb := hr.1
             have hm : l.length ≤ 8 := by
              unfold y9_ at hb
              rcases hc with rfl | rfl <;> simp at hb <;> omega
             have en : n = l.length := by rw [e2]; exact hlim n n' hn' om_
             rw [w5_, (zaF_ hn).1, e1, en]
             rcases hc with rfl | rfl <;> simp [zat_]
       · cases h
theorem zgM_ {cut : List UInt8 → Option (List UInt8 × List UInt8)} {lim : Nat → Option Nat} {E : List UInt8 → Prop} (hE : ∀ x r, q1_ x = true → E (w5_ x ++ r)) (hE0 : E []) (hlim : ∀ n, n ≤ 8 → lim n = some n) (hcut : ∀ t r, E r → (x8_ t = true ∨ w4_ t = true) → cut (t ++ r) = some (t, r)) (x : LT) (h : w7_ x = true) : k8_ cut lim (w5_ x) = some x := by
 have h2 := h
 unfold w7_ at h2
 rw [Bool.and_eq_true, decide_eq_true_eq] at h2
 have := zgJ_ hE hlim hcut 65 64 x [] hE0 om_ h2.2 h2.1
 rw [List.append_nil] at this
 unfold k8_
 rw [this]
 simp [h]
theorem zgN_ {cut : List UInt8 → Option (List UInt8 × List UInt8)} {lim : Nat → Option Nat} (hlim : ∀ n m, lim n = some m → m ≤ 8 → n = m) (hcut : ∀ s t r, cut s = some (t, r) → s = t ++ r) {s : List UInt8} {x : LT} (h : k8_ cut lim s = some x) : w7_ x = true ∧ w5_ x = s := by
 unfold k8_ at h
 split at h
 · rename_i y m hy
   split at h
   · rename_i hr
     obtain rfl := Option.some.inj h
     refine ⟨hr, ?_⟩
     unfold w7_ at hr
     rw [Bool.and_eq_true] at hr
     have := zgL_ hlim hcut _ _ _ _ _ _ hy hr.2
     simpa using this.symm
   · cases h
 · cases h
def v9_ (m : Nat) (c : UInt8) (r : List UInt8) : Option (Nat × Nat) :=
 if c = 110 ∨ c = 116 ∨ c = 84 then
  (if (if c = 110 then (59 : UInt8) else 58) ∈ r then
    (if (r.takeWhile (· != (if c = 110 then (59 : UInt8) else 58))).length < 1 ∨ 19 < (r.takeWhile (· != (if c = 110 then (59 : UInt8) else 58))).length then none
     else if c = 110 then some ((r.takeWhile (· != (if c = 110 then (59 : UInt8) else 58))).length + 2, m)
     else match Lib.atoiAll (r.takeWhile (· != (if c = 110 then (59 : UInt8) else 58))) with
      | .ok n => if n < 0 ∨ 4096 < n then none else if c = 116 then some ((r.takeWhile (· != (if c = 110 then (59 : UInt8) else 58))).length + 2 + n.toNat, m) else some ((r.takeWhile (· != (if c = 110 then (59 : UInt8) else 58))).length + 2, m + n.toNat)
      | _ => none)
   else none)
 else if c = 80 ∨ c = 72 then some (1, m + 1) else some (1, m + 2)
def zbu_ : Nat → Nat → List UInt8 → Option Nat
 | _, 0, _ => some 0
 | 0, _ + 1, _ => none
 | _ + 1, _ + 1, [] => none
 | f + 1, m + 1, c :: r => match v9_ m c r with
   | none => none
   | some (k, m') => if r.length + 1 < k then none else (zbu_ f m' ((c :: r).drop k)).map (· + k)
def scan (m : Nat) (l : List UInt8) : Option Nat := zbu_ l.length m l
def v4_ (s : List UInt8) : Option (List UInt8 × List UInt8) := (scan 1 s).map fun k => (s.take k, s.drop k)
theorem zd3_ (s t r : List UInt8) (h : v4_ s = some (t, r)) : s = t ++ r := by
 unfold v4_ at h
 cases hq : scan 1 s with
 | none => rw [hq] at h; cases h
 | some k =>
   rw [hq] at h
   simp only [Option.map_some, Option.some.injEq, Prod.mk.injEq] at h
   rw [← h.1, ← h.2, List.take_append_drop]
theorem zgO_ {m : Nat} {c : UInt8} {r : List UInt8} {k m' : Nat} (h : v9_ m c r = some (k, m')) : 1 ≤ k := by
 unfold v9_ at h
 repeat' split at h
 all_goals first | (cases h; done) | (simp only [Option.some.injEq, Prod.mk.injEq] at h; omega)
theorem zgP_ : ∀ (f f' m : Nat) (l : List UInt8), l.length ≤ f → l.length ≤ f' → zbu_ f m l = zbu_ f' m l
 | f, f', 0, l, _, _ => by
   cases f <;> cases f' <;> simp [zbu_]
 | 0, f', m + 1, l, h, _ => by
   obtain rfl := List.eq_nil_of_length_eq_zero (by omega : l.length = 0)
   cases f' <;> simp [zbu_]
 | f + 1, 0, m + 1, l, _, h => by
   obtain rfl := List.eq_nil_of_length_eq_zero (by omega : l.length = 0)
   simp [zbu_]
 | f + 1, f' + 1, m + 1, [], _, _ => by simp [zbu_]
 | f + 1, f' + 1, m + 1, c :: r, h, h' => by
   simp only [zbu_]
   cases hs : v9_ m c r with
   | none => rfl
   | some y =>
     obtain ⟨k, m'⟩ := y
     have := zgO_ hs
     simp only [List.length_cons] at h h'
     simp only
     rw [zgP_ f f' m' _ so_ so_]
theorem zd4_ {m : Nat} {c : UInt8} {r : List UInt8} {k m' : Nat} (hs : v9_ m c r = some (k, m')) (hk : k ≤ r.length + 1) : scan (m + 1) (c :: r) = (scan m' ((c :: r).drop k)).map (· + k) := by
 have := zgO_ hs
 unfold scan
 rw [List.length_cons, zbu_, hs]
 simp only
 rw [if_neg om_, zgP_ r.length ((c :: r).drop k).length m' _ so_ (Nat.le_refl _)]
theorem zgQ_ (l : List UInt8) : scan 0 l = some 0 := by unfold scan; cases l.length <;> simp [zbu_]
theorem ze1_ (e : UInt8) (he : v3_ e = false) : ∀ (l : List UInt8) (m j n c : Nat), q8_ e l m j = some (n, c) →
  ∃ p q, l = p ++ e :: q ∧ p.all v3_ = true ∧ c = j + p.length + 1 ∧ p.foldl (fun n c => n * 10 + (c.toNat - 48)) m = n ∧ (m = 0 ∧ 0 < j → p = [])
 | [], m, j, n, c, h => by simp [q8_] at h
 | a :: r, m, j, n, c, h => by
   simp only [q8_] at h
   split at h
   · rename_i hh
     simp only [Option.some.injEq, Prod.mk.injEq] at h
     refine ⟨[], r, ?_, rfl, by simp; omega, by simpa using h.1, fun _ => rfl⟩
     rw [List.nil_append, UInt8.toNat_inj.1 hh.1]
   · split at h
     · cases h
     · rename_i h2
       split at h
       · cases h
       · obtain ⟨p, q, e1, e2, e3, e4, e5⟩ := ze1_ e he r _ _ n c h
         refine ⟨a :: p, q, by rw [e1]; rfl, ?_, by simp; omega, by simpa using e4, fun hz => ?_⟩
         · rw [List.all_cons, e2, Bool.and_true]
           simp [v3_]; omega
         · omega
theorem zgR_ : ∀ (p : List UInt8) (m : Nat), m ≤ p.foldl (fun n c => n * 10 + (c.toNat - 48)) m
 | [], m => by simp
 | a :: p, m => by
   have := zgR_ p (m * 10 + (a.toNat - 48))
   simp only [List.foldl_cons]
   omega
theorem ze2_ : ∀ (p : List UInt8) (m : Nat), p.all v3_ = true → p.foldl (fun n c => n * 10 + (c.toNat - 48)) m ≤ 9223372036854775807 → Lib.parseUint10 m p = .ok (p.foldl (fun n c => n * 10 + (c.toNat - 48)) m)
 | [], m, _, _ => rfl
 | a :: p, m, ha, hb => by
   rw [List.all_cons, Bool.and_eq_true] at ha
   have hd : 48 ≤ a.toNat ∧ a.toNat ≤ 57 := by simpa [v3_] using ha.1
   have h1 := zgR_ p (m * 10 + (a.toNat - 48))
   simp only [List.foldl_cons] at hb ⊢
   rw [Lib.parseUint10, if_pos hd, if_neg om_, if_neg om_]
   exact ze2_ p _ ha.2 hb
theorem ze3_ {e : UInt8} (he : v3_ e = false) {l : List UInt8} {n c : Nat} (h : num e l = some (n, c)) :
  e ∈ l ∧ l.takeWhile (· != e) = l.take (c - 1) ∧ (l.takeWhile (· != e)).length = c - 1 ∧ 1 ≤ c - 1 ∧ c - 1 ≤ 19 ∧ Lib.atoiAll (l.takeWhile (· != e)) = .ok (n : Int) := by
 have hb := zbD_ h
 obtain ⟨p, q, rfl, h2, h3, h4, _⟩ := ze1_ e he l 0 0 n c h
 rw [zgG_ e he p q h2]
 have hv : j6_ p = n := h4
 have hz : p.length ≤ 1 ∨ head p ≠ 48 := by
  cases p with
  | nil => exact .inl si_
  | cons a p =>
    by_cases ha : a = 48
    · left
      subst ha
      unfold num at h
      rw [List.cons_append] at h
      simp only [q8_] at h
      split at h
      · omega
      · split at h
        · cases h
        · split at h
          · cases h
          · obtain ⟨p', q', g1, g2, g3, _, g5⟩ := ze1_ e he _ _ _ n c h
            have h0 := g5 ⟨by decide, by omega⟩
            subst h0
            have hle := congrArg List.length g1
            simp only [List.length_nil, List.length_cons, List.length_append, List.nil_append] at g3 h3 hle ⊢
            omega
    · right; exact ha
 have hne : p ≠ [] := fun h => by subst h; simp at h3; omega
 obtain ⟨d1, _, _⟩ := zeZ_ p _ rfl hne h2 hz
 have hl : p.length ≤ 19 := by
  have := zeD_ 18 n om_
  rw [← hv, d1] at this
  exact this
 have hu : Lib.parseUint10 0 p = .ok n := by
  have h5 := ze2_ p 0 h2 (by rw [h4]; omega)
  rw [h5, h4]
 refine ⟨by simp, by rw [h3]; simp, by omega, by omega, by omega, ?_⟩
 cases p with
 | nil => exact absurd rfl hne
 | cons a p =>
   rw [List.all_cons, Bool.and_eq_true] at h2
   have hd : 48 ≤ a.toNat ∧ a.toNat ≤ 57 := by simpa [v3_] using h2.1
   unfold Lib.atoiAll
   simp only
   rw [if_neg om_]
   unfold Lib.parseMag
   rw [if_neg si_, hu]
   simp only
   rw [if_neg om_, if_neg om_, if_neg om_]
theorem zgS_ {f : List UInt8 → Option Sh} (hf : ∀ (l : List UInt8) (x : Sh) (m : Nat), f l = some x → scan (m + 1) l = (scan m (l.drop x.len)).map (· + x.len)) :
  ∀ (k : Nat) (l : List UInt8) (ks : List (List UInt8)) (dp len m : Nat), w0_ f k l = some (ks, dp, len) → scan (m + k) l = (scan m (l.drop len)).map (· + len)
 | 0, l, ks, dp, len, m, h => by
   simp only [w0_, Option.some.injEq, Prod.mk.injEq] at h
   obtain ⟨_, _, rfl⟩ := h
   simp
 | k + 1, l, ks, dp, len, m, h => by
   rw [w0_] at h
   cases hx : f l with
   | none => rw [hx] at h; cases h
   | some x =>
     rw [hx] at h
     simp only at h
     cases hk : w0_ f k (l.drop x.len) with
     | none => rw [hk] at h; cases h
     | some y =>
       obtain ⟨ks', dp', len'⟩ := y
       rw [hk] at h
       simp only [Option.some.injEq, Prod.mk.injEq] at h
       obtain ⟨_, _, rfl⟩ := h
       rw [← Nat.add_assoc, hf l x (m + k) hx, zgS_ hf k _ ks' dp' len' m hk, List.drop_drop]
       cases scan m (List.drop (x.len + len') l) with
       | none => rfl
       | some z => simp; omega
theorem zgT_ : ∀ (d : Nat) (l : List UInt8) (x : Sh) (m : Nat), rd d l = some x → scan (m + 1) l = (scan m (l.drop x.len)).map (· + x.len)
 | 0, l, x, m, h => by simp [rd] at h
 | d + 1, [], x, m, h => by simp [rd] at h
 | d + 1, c :: r, x, m, h => by
   have hok := zay_ _ _ _ h
   have hlen : x.len ≤ r.length + 1 := by have := hok.2.1; simpa using this
   rw [rd] at h
   by_cases h1 : c = 110
   · rw [if_pos h1] at h
     cases hn : num 59 r with
     | none => rw [hn] at h; cases h
     | some y =>
       obtain ⟨n, k⟩ := y
       rw [hn] at h
       simp only [Option.map_some, Option.some.injEq] at h
       subst h
       obtain ⟨g1, g2, g3, g4, g5, g6⟩ := ze3_ de_ hn
       have hs : v9_ m c r = some (1 + k, m) := by
        unfold v9_
        rw [if_pos (.inl h1)]
        simp only [h1, if_true]
        rw [if_pos g1, if_neg om_, g3]
        simp only [Option.some.injEq, Prod.mk.injEq, and_true]
        omega
       exact zd4_ hs (by simpa using hlen)
   rw [if_neg h1] at h
   by_cases h2 : c = 116
   · rw [if_pos h2] at h
     cases hn : num 58 r with
     | none => rw [hn] at h; cases h
     | some y =>
       obtain ⟨n, k⟩ := y
       rw [hn] at h
       simp only at h
       split at h
       · cases h
       · rename_i hle
         simp only [Option.some.injEq] at h
         subst h
         obtain ⟨g1, g2, g3, g4, g5, g6⟩ := ze3_ de_ hn
         have hs : v9_ m c r = some (1 + k + n, m) := by
          unfold v9_
          rw [if_pos (.inr (.inl h2))]
          simp only [h1, if_false]
          rw [if_pos g1, if_neg om_, g6]
          simp only
          rw [if_neg om_, if_pos h2, g3]
          simp only [Option.some.injEq, Prod.mk.injEq, and_true]
          omega
         exact zd4_ hs (by simpa using hlen)
   rw [if_neg h2] at h
   cases hc : cnt c r with
   | none => rw [hc] at h; cases h
   | some y =>
     obtain ⟨n, k⟩ := y
     rw [hc] at h
     simp only at h
     cases hk : w0_ (rd d) n (r.drop k) with
     | none => rw [hk] at h; cases h
     | some y =>
       obtain ⟨ks, dp, len⟩ := y
       rw [hk] at h
       simp only at h
       split at h
       · simp only [Option.some.injEq] at h
         subst h
         simp only at hlen
         have hs : v9_ m c r = some (1 + k, m + n) := by
          unfold cnt at hc
          by_cases h3 : c = 84
          · rw [if_pos h3] at hc
            cases hn : num 58 r with
            | none => rw [hn] at hc; cases hc
            | some y =>
              obtain ⟨n', k'⟩ := y
              rw [hn] at hc
              simp only at hc
              split at hc
              · cases hc
              · simp only [Option.some.injEq, Prod.mk.injEq] at hc
                obtain ⟨rfl, rfl⟩ := hc
                obtain ⟨g1, g2, g3, g4, g5, g6⟩ := ze3_ de_ hn
                unfold v9_
                rw [if_pos (.inr (.inr h3))]
                simp only [h1, if_false]
                rw [if_pos g1, if_neg om_, g6]
                simp only
                rw [if_neg om_, if_neg h2, g3]
                simp only [Option.some.injEq, Prod.mk.injEq]
                omega
          · rw [if_neg h3] at hc
            cases ha : arity c with
            | none => rw [ha] at hc; cases hc
            | some v =>
              rw [ha] at hc
              simp only [Option.map_some, Option.some.injEq, Prod.mk.injEq] at hc
              obtain ⟨rfl, rfl⟩ := hc
              unfold v9_
              rw [if_neg (by simp [h1, h2, h3])]
              unfold arity at ha
              split at ha
              · rename_i h4
                obtain rfl := Option.some.inj ha
                rw [if_pos h4]
              · rename_i h4
                split at ha
                · obtain rfl := Option.some.inj ha
                  rw [if_neg h4]
                · cases ha
         rw [zd4_ hs om_, show (c :: r).drop (1 + k) = r.drop k by rw [Nat.add_comm]; rfl, zgS_ (fun l x m => zgT_ d l x m) n (r.drop k) ks dp len m hk, List.drop_drop,
          show (c :: r).drop (1 + k + len) = r.drop (k + len) by rw [show 1 + k + len = (k + len) + 1 by omega]; rfl]
         cases scan m (List.drop (k + len) r) with
         | none => rfl
         | some z => simp; omega
       · cases h
theorem zj8_ (t r : List UInt8) (h : x8_ t = true ∨ w4_ t = true) : v4_ (t ++ r) = some (t, r) := by
 have hr : right t = true := by
  rcases h with h | h
  · unfold x8_ at h; rw [Bool.and_eq_true] at h; exact h.1
  · unfold w4_ at h; rw [Bool.and_eq_true] at h; exact h.1
 obtain ⟨⟨x, hx, hl⟩, _⟩ := zeJ_ hr
 have h1 := zdO_ 64 t x r hx
 have h2 := zgT_ 64 (t ++ r) x 0 h1
 rw [zgQ_, hl] at h2
 simp only [Option.map_some, Nat.zero_add] at h2
 unfold v4_
 rw [show scan 1 (t ++ r) = some t.length from h2]
 simp
def sgP (sigs : List (List UInt8)) (msg t : List UInt8) : Bool := sigs.any (k3_ t msg)
def prP (pres : List (List UInt8)) (t : List UInt8) : Bool := pres.any fun p => (j8_ 72 p).2 == 0 && (j8_ 72 p).1 == t
def k4_ (sigs pres : List (List UInt8)) (msg : List UInt8) (after age : Int) (x : LT) : Bool :=
 w7_ x && decide (sigs.length ≤ 16) && decide (pres.length ≤ 16) && j9_ (sgP sigs msg) (prP pres) after age x
theorem zj9_ {sigs pres : List (List UInt8)} {msg more : List UInt8} {after age later : Int} {x : LT} (hl : 0 ≤ later) (hs : sigs.length + 1 ≤ 16) (hp : pres.length + 1 ≤ 16) (h : k4_ sigs pres msg after age x = true) :
  k4_ (sigs ++ [more]) (pres ++ [more]) msg (after + later) (age + later) x = true := by
 unfold k4_ at h ⊢
 simp only [Bool.and_eq_true, decide_eq_true_eq] at h ⊢
 refine ⟨⟨⟨h.1.1.1, by simp; omega⟩, by simp; omega⟩, zeW_ ?_ ?_ om_ om_ x h.2⟩
 · intro t ht; unfold sgP at ht ⊢; rw [List.any_append, ht, Bool.true_or]
 · intro t ht; unfold prP at ht ⊢; rw [List.any_append, ht, Bool.true_or]
def zaC_ (k : Int) (a b : LT) : LT := .mk k [] 0 [a, b]
theorem zka_ (k : Int) (hk : k = 5 ∨ k = 6) (a b : LT) : q1_ (zaC_ k a b) = (q1_ a && q1_ b) := by
 unfold zaC_
 rw [q1_, zcm_, zcm_, show w6_ [] = true by rw [w6_]]
 rcases hk with rfl | rfl <;> simp [y9_]
theorem zkb_ (k : Int) (a b : LT) : x3_ (zaC_ k a b) = 1 + x3_ a + x3_ b := by
 unfold zaC_
 rw [x3_, zbe_, zbe_, zbF_]; omega
theorem ze4_ (k : Int) (hk : k = 5 ∨ k = 6) (a b : LT) : w7_ (zaC_ k a b) = (decide (1 + x3_ a + x3_ b ≤ 64) && (q1_ a && q1_ b)) := by
 unfold w7_
 rw [zka_ k hk, zkb_]
theorem zgU_ (a b : LT) : w7_ (zaC_ 5 a b) = w7_ (zaC_ 6 a b) := by rw [ze4_ 5 (.inl rfl), ze4_ 6 (.inr rfl)]
theorem zgV_ {k : Int} (hk : k = 5 ∨ k = 6) {a b : LT} (h : w7_ (zaC_ k a b) = true) : w7_ a = true ∧ w7_ b = true := by
 rw [ze4_ k hk] at h
 simp only [Bool.and_eq_true, decide_eq_true_eq] at h
 have p1 := j5_ a
 have p2 := j5_ b
 unfold w7_
 simp only [Bool.and_eq_true, decide_eq_true_eq]
 exact ⟨⟨by omega, h.2.1⟩, ⟨by omega, h.2.2⟩⟩
theorem zkc_ {sigs pres : List (List UInt8)} {msg : List UInt8} {after age : Int} {a b : LT} (h : w7_ (zaC_ 5 a b) = true) :
  k4_ sigs pres msg after age (zaC_ 5 a b) = (k4_ sigs pres msg after age a && k4_ sigs pres msg after age b) ∧
  k4_ sigs pres msg after age (zaC_ 6 a b) = (k4_ sigs pres msg after age a || k4_ sigs pres msg after age b) := by
 obtain ⟨ha, hb⟩ := zgV_ (.inl rfl) h
 have h6 := h
 rw [zgU_] at h6
 unfold k4_
 rw [h, h6, ha, hb]
 unfold zaC_
 simp only [j9_, allL, anyL]
 cases decide (sigs.length ≤ 16) <;> cases decide (pres.length ≤ 16) <;> simp
theorem zkd_ {k m s : List UInt8} (h : k3_ (80 :: k) m s = true) : s = 83 :: (k ++ m) := by
 unfold k3_ at h
 split at h
 · cases h
 · rename_i x hx
   simp only [Bool.and_eq_true, beq_iff_eq] at h
   obtain ⟨⟨h1, h2⟩, h3⟩ := h
   have hop : x.op = 83 := UInt8.toNat_inj.1 h1
   have ha : arity x.op = some 2 := by rw [hop]; rfl
   obtain ⟨a, b, hk, _⟩ := zeL_ hx ha
   rw [hk] at h2 h3
   simp only [List.getD_cons_zero, List.getD_cons_succ] at h2 h3
   have := ziV_ hx ha
   rw [this, hop, hk, ziW_ h3, h2]
   simp [cat]
theorem zke_ {k p : List UInt8} (h : ((j8_ 72 p).2 == 0 && (j8_ 72 p).1 == 72 :: k) = true) : p = k := by
 unfold j8_ made at h
 split at h
 · split at h <;> simp at h
   exact h
 · simp at h
def four (k : Nat) : List UInt8 := [110, 49 + UInt8.ofNat k, 59]
def msgM : List UInt8 := [116, 49, 58, 109]
theorem zgW_ : ∀ k : Fin 4, k3_ (80 :: four k.val) msgM (83 :: (four k.val ++ msgM)) = true ∧ ((j8_ 72 (four k.val)).2 == 0 && (j8_ 72 (four k.val)).1 == 72 :: four k.val) = true ∧ x8_ (80 :: four k.val) = true ∧ w4_ (72 :: four k.val) = true := by decide +kernel
def zdw_ (k p : Nat) (n : Int) : LT := .mk 5 [] 0 [.mk 1 (80 :: four k) 0 [], .mk 2 (72 :: four p) 0 [], .mk 3 [] n [], .mk 4 [] (n / 2) []]
theorem zkf_ (k p : Fin 4) (n : Int) (hn : 0 ≤ n) (hn2 : n < 1073741824) (sigs pres : List (List UInt8)) (after age : Int) :
  k4_ sigs pres msgM after age (zdw_ k.val p.val n) = (decide (sigs.length ≤ 16) && decide (pres.length ≤ 16) && sigs.any (· == 83 :: (four k.val ++ msgM)) && pres.any (· == four p.val) && decide (n ≤ after) && decide (n / 2 ≤ age)) := by
 obtain ⟨v1, _, v3, _⟩ := zgW_ k
 obtain ⟨_, u2, _, u4⟩ := zgW_ p
 have hr : w7_ (zdw_ k.val p.val n) = true := by
  unfold w7_ zdw_
  simp only [x3_, w1_, q1_, w6_, y9_, v3, u4]
  simp [hn, hn2]
  omega
 have e1 : sgP sigs msgM (80 :: four k.val) = sigs.any (· == 83 :: (four k.val ++ msgM)) := by
  unfold sgP
  congr 1
  funext s
  cases hq : k3_ (80 :: four k.val) msgM s with
  | true => rw [zkd_ hq]; simp
  | false =>
    cases hq2 : s == 83 :: (four k.val ++ msgM) with
    | false => rfl
    | true =>
      have : s = 83 :: (four k.val ++ msgM) := by simpa using hq2
      rw [this, v1] at hq
      cases hq
 have e2 : prP pres (72 :: four p.val) = pres.any (· == four p.val) := by
  unfold prP
  congr 1
  funext s
  cases hq : ((j8_ 72 s).2 == 0 && (j8_ 72 s).1 == 72 :: four p.val) with
  | true => rw [zke_ hq]; simp
  | false =>
    cases hq2 : s == four p.val with
    | false => rfl
    | true =>
      have : s = four p.val := by simpa using hq2
      rw [this, u2] at hq
      cases hq
 unfold k4_
 rw [hr]
 unfold zdw_
 simp only [j9_, allL, e1, e2]
 simp [Bool.and_assoc]
theorem zgX_ (x : LT) (l : List LT) (r : Int) : zaB_ (x :: l) r = if zbb_ x r < 0 then -1 else zaB_ l (zbb_ x r) := by rw [zaB_]
theorem zgY_ (r : Int) : zaB_ [] r = r := by rw [zaB_]
theorem zgZ_ (x : LT) (r : Int) (h : 0 ≤ r) : -1 ≤ zbb_ x r ∧ zbb_ x r ≤ r := by
 rw [zeV_]
 have := j5_ x
 split <;> omega
def ze5_ (N : Nat) : Prop := ∀ (x : LT) (q : Nat → Prop) (v : Value) (room : Int) (w : World), x3_ x ≤ N → -1000 ≤ room → room ≤ 1000 → y2_ q w x v → GOk w →
 Calls Tryz.prog 44 #[v, .int .i64 room] w fun e w' => e = .returned (.int .i64 (zbb_ x room)) ∧ Below w.heap.size w w'
theorem zkg_ (N : Nat) (ih : ze5_ N) (kids : List LT) (ad : Option Addr) (c : Nat) (room : Int) (hr0 : 0 ≤ room - 1) (hr1 : room ≤ 1000) (hm0 : 0 < kids.length) (hm1 : kids.length ≤ 8) (hcN : w1_ kids ≤ N) (q : Nat → Prop) (w : World)
  (hd : kids = [] ∨ ∃ b o, ad = some ⟨b, o, none⟩ ∧ b < w.heap.size ∧ q b ∧ x2_ q w kids b o) (hG : GOk w) :
  Calls Tryz.prog 44 #[.agg #[.int .u8 5, .string (bs []), .int .i64 0, .slice ad kids.length c], .int .i64 room] w fun e w' => e = .returned (.int .i64 (zaB_ kids (room - 1))) ∧ Below w.heap.size w w' := by
 have HG := Lib.hid hG
 have HD := Lib.hid hd
 have IH := Lib.hid ih
 clear hG hd ih
 have hR : decide (room - 1 < 0) = false := by simp; omega
 have i1 : (0 : Int) < kids.length := by omega
 have i2 : (kids.length : Int) ≤ 8 := by omega
 go_enter Tryz.func44, Tryz.ntmps44
 go_wp2
 go_loopw [1, 8, 98] (fun rv _ iv wr => ∃ (j : Nat) (r : Int), j ≤ kids.length ∧ iv = .int .i64 j ∧ rv = .int .i64 r ∧ 0 ≤ r ∧ r ≤ 1000 ∧ Hid (GL [] w wr) ∧ Hid (zaB_ (kids.drop j) r = zaB_ kids (room - 1))) (fun _ _ iv _ => kids.length - (intOf iv).toNat)
 case atStart => exact ⟨0, room - 1, by omega, rfl, by first | rfl | (congr; omega), hr0, by omega, (by show GL _ _ _; exact gl_), rfl⟩
 case round =>
  obtain ⟨j, r, hj, rfl, rfl, hq0, hq1, hgr, hpr⟩ := hrel
  by_cases hlt : j < kids.length
  · have i3 : (j : Int) < kids.length := by omega
    rcases HD.out with h0 | ⟨b, o, rfl, hb, hqb, hrow⟩
    · subst h0; simp at hlt
    · obtain ⟨u0, u1, u2, u3, hl, c0, c1, c2, c3⟩ := zao_ kids b o j kids[j] (zaM_ hgr.out kids b o hb hqb hrow) (List.getElem?_eq_getElem hlt)
      obtain ⟨ku, nu, tu, au, mu, cu, rfl, rfl, rfl, rfl⟩ := zaA_ hl
      have hd0 : kids.drop j = kids[j] :: kids.drop (j + 1) := List.drop_eq_getElem_cons hlt
      have hcx : x3_ kids[j] ≤ N := by have := zaN_ kids kids[j] (List.getElem_mem hlt); omega
      have hcall := fun (W : World) (hg : GL [] wr W) (hG : GOk W) => IH.out kids[j] q _ r W hcx om_ hq1 (z7_ hg _ _ hl) hG
      have hp2 := hpr.out
      rw [hd0, zgX_] at hp2
      have hle := zgZ_ kids[j] r hq0
      generalize zbb_ kids[j] r = z at *
      have HC := Lib.hid hcall
      clear hcall hl hrow hd0 hcx hpr
      by_cases hz : z < 0
      · rw [if_pos hz] at hp2
        have HP := Lib.hid hp2
        have b1 : decide (z < 0) = true := by simpa using hz
        clear hp2
        go_wp2_with fail
        refine (HC.out _ (z6_ (z1_ _ _) _) (y5_ (x4_ HG.out hgr.out si_) _)).mono ?_
        rintro e w1 ⟨rfl, hb1⟩
        go_wp2_with fail
        go_ret
        exact ⟨by first | (rw [← HP.out]; done) | (rw [← HP.out]; rfl), x0_ (z4_ hb1 (z6_ hgr.out _))⟩
      · rw [if_neg hz] at hp2
        have HP := Lib.hid hp2
        have b1 : decide (z < 0) = false := by simpa using hz
        clear hp2
        go_wp2_with fail
        refine (HC.out _ (z6_ (z1_ _ _) _) (y5_ (x4_ HG.out hgr.out si_) _)).mono ?_
        rintro e w1 ⟨rfl, hb1⟩
        go_wp2_with fail
        go_roundw
        case rel => exact ⟨j + 1, z, by omega, by go_num, rfl, by omega, by omega, Lib.hid (z4_ hb1 (z6_ hgr.out _)), HP⟩
        case measure => simp [intOf]; omega
  · obtain rfl : j = kids.length := by omega
    have hz := hpr.out
    rw [List.drop_length, zgY_] at hz
    have HI := Lib.hid hz
    clear hz hpr
    go_wp2
    go_ret
    exact ⟨by first | (rw [HI.out]; done) | (rw [HI.out]; rfl), x0_ hgr.out⟩
theorem zkh_ (N : Nat) (ih : ze5_ N) (kids : List LT) (ad : Option Addr) (c : Nat) (room : Int) (hr0 : 0 ≤ room - 1) (hr1 : room ≤ 1000) (hm0 : 0 < kids.length) (hm1 : kids.length ≤ 8) (hcN : w1_ kids ≤ N) (q : Nat → Prop) (w : World)
  (hd : kids = [] ∨ ∃ b o, ad = some ⟨b, o, none⟩ ∧ b < w.heap.size ∧ q b ∧ x2_ q w kids b o) (hG : GOk w) :
  Calls Tryz.prog 44 #[.agg #[.int .u8 6, .string (bs []), .int .i64 0, .slice ad kids.length c], .int .i64 room] w fun e w' => e = .returned (.int .i64 (zaB_ kids (room - 1))) ∧ Below w.heap.size w w' := by
 have HG := Lib.hid hG
 have HD := Lib.hid hd
 have IH := Lib.hid ih
 clear hG hd ih
 have hR : decide (room - 1 < 0) = false := by simp; omega
 have i1 : (0 : Int) < kids.length := by omega
 have i2 : (kids.length : Int) ≤ 8 := by omega
 go_enter Tryz.func44, Tryz.ntmps44
 go_wp2
 go_loopw [1, 8, 98] (fun rv _ iv wr => ∃ (j : Nat) (r : Int), j ≤ kids.length ∧ iv = .int .i64 j ∧ rv = .int .i64 r ∧ 0 ≤ r ∧ r ≤ 1000 ∧ Hid (GL [] w wr) ∧ Hid (zaB_ (kids.drop j) r = zaB_ kids (room - 1))) (fun _ _ iv _ => kids.length - (intOf iv).toNat)
 case atStart => exact ⟨0, room - 1, by omega, rfl, by first | rfl | (congr; omega), hr0, by omega, (by show GL _ _ _; exact gl_), rfl⟩
 case round =>
  obtain ⟨j, r, hj, rfl, rfl, hq0, hq1, hgr, hpr⟩ := hrel
  by_cases hlt : j < kids.length
  · have i3 : (j : Int) < kids.length := by omega
    rcases HD.out with h0 | ⟨b, o, rfl, hb, hqb, hrow⟩
    · subst h0; simp at hlt
    · obtain ⟨u0, u1, u2, u3, hl, c0, c1, c2, c3⟩ := zao_ kids b o j kids[j] (zaM_ hgr.out kids b o hb hqb hrow) (List.getElem?_eq_getElem hlt)
      obtain ⟨ku, nu, tu, au, mu, cu, rfl, rfl, rfl, rfl⟩ := zaA_ hl
      have hd0 : kids.drop j = kids[j] :: kids.drop (j + 1) := List.drop_eq_getElem_cons hlt
      have hcx : x3_ kids[j] ≤ N := by have := zaN_ kids kids[j] (List.getElem_mem hlt); omega
      have hcall := fun (W : World) (hg : GL [] wr W) (hG : GOk W) => IH.out kids[j] q _ r W hcx om_ hq1 (z7_ hg _ _ hl) hG
      have hp2 := hpr.out
      rw [hd0, zgX_] at hp2
      have hle := zgZ_ kids[j] r hq0
      generalize zbb_ kids[j] r = z at *
      have HC := Lib.hid hcall
      clear hcall hl hrow hd0 hcx hpr
      by_cases hz : z < 0
      · rw [if_pos hz] at hp2
        have HP := Lib.hid hp2
        have b1 : decide (z < 0) = true := by simpa using hz
        clear hp2
        go_wp2_with fail
        refine (HC.out _ (z6_ (z1_ _ _) _) (y5_ (x4_ HG.out hgr.out si_) _)).mono ?_
        rintro e w1 ⟨rfl, hb1⟩
        go_wp2_with fail
        go_ret
        exact ⟨by first | (rw [← HP.out]; done) | (rw [← HP.out]; rfl), x0_ (z4_ hb1 (z6_ hgr.out _))⟩
      · rw [if_neg hz] at hp2
        have HP := Lib.hid hp2
        have b1 : decide (z < 0) = false := by simpa using hz
        clear hp2
        go_wp2_with fail
        refine (HC.out _ (z6_ (z1_ _ _) _) (y5_ (x4_ HG.out hgr.out si_) _)).mono ?_
        rintro e w1 ⟨rfl, hb1⟩
        go_wp2_with fail
        go_roundw
        case rel => exact ⟨j + 1, z, by omega, by go_num, rfl, by omega, by omega, Lib.hid (z4_ hb1 (z6_ hgr.out _)), HP⟩
        case measure => simp [intOf]; omega
  · obtain rfl : j = kids.length := by omega
    have hz := hpr.out
    rw [List.drop_length, zgY_] at hz
    have HI := Lib.hid hz
    clear hz hpr
    go_wp2
    go_ret
    exact ⟨by first | (rw [HI.out]; done) | (rw [HI.out]; rfl), x0_ hgr.out⟩
theorem zbG_ {kids : List LT} (h : kids.length = 0) : kids = [] := List.eq_nil_of_length_eq_zero h
theorem k5_ {a b : Int} (h : ¬ a = b) : (a == b) = false := by simpa using h
theorem ze6_ : ∀ N, ze5_ N
 | 0 => fun x q v room w hN _ _ _ _ => by have := j5_ x; omega
 | N + 1 => fun x q v room w hN hr0 hr1 hL hG => by
   obtain ⟨k, t, n, kids⟩ := x
   obtain ⟨ad, c, rfl, ⟨hk0, hk1⟩, hn, ht, hkl, hd⟩ := y3_ hL
   rw [zbb_]
   rw [x3_] at hN
   by_cases h : room - 1 < 0
   · rw [if_pos h]; exact zjy_ k n t ht ad _ c room hr0 hr1 (by simpa using h) w hG
   rw [if_neg h]
   have hR : decide (room - 1 < 0) = false := by simpa using h
   by_cases h1 : k = 1
   · subst h1
     by_cases hn0 : n = 0
     · subst hn0
       by_cases hm : kids.length = 0
       · obtain rfl := zbG_ hm
         cases hp : x8_ t with
         | true =>
           have ht0 : (t == []) = false := by
            cases t with
            | nil => exact absurd hp de_
            | cons a b => rfl
           rw [if_pos (by simp [y9_, hp]), zaB_]
           exact zjF_ t ht ad 0 c room hr0 hr1 hR ht0 hp w hG
         | false =>
           rw [if_neg (by simp [y9_, hp])]
           cases t with
           | nil => exact zjE_ [] ht ad 0 c room hr0 hr1 hR hp w hG
           | cons a b => exact zjB_ (a :: b) ht ad 0 c room hr0 hr1 hR rfl hp w hG
       · rw [if_neg (by simp [y9_]; intro hh; subst hh; simp at hm)]
         cases t with
         | nil => exact zjD_ [] ht ad _ c room hr0 hr1 hR (k5_ om_) w hG
         | cons a b => exact zjA_ (a :: b) ht ad _ c room hr0 hr1 hR rfl (k5_ om_) w hG
     · rw [if_neg (by simp [y9_, hn0])]
       cases t with
       | nil => exact zjC_ n [] ht ad _ c room hr0 hr1 hR (k5_ hn0) w hG
       | cons a b => exact zjz_ n (a :: b) ht ad _ c room hr0 hr1 hR rfl (k5_ hn0) w hG
   by_cases h2 : k = 2
   · subst h2
     by_cases hn0 : n = 0
     · subst hn0
       by_cases hm : kids.length = 0
       · obtain rfl := zbG_ hm
         cases hp : w4_ t with
         | true =>
           have ht0 : (t == []) = false := by
            cases t with
            | nil => exact absurd hp de_
            | cons a b => rfl
           rw [if_pos (by simp [y9_, hp]), zaB_]
           exact zjM_ t ht ad 0 c room hr0 hr1 hR ht0 hp w hG
         | false =>
           rw [if_neg (by simp [y9_, hp])]
           cases t with
           | nil => exact zjL_ [] ht ad 0 c room hr0 hr1 hR hp w hG
           | cons a b => exact zjI_ (a :: b) ht ad 0 c room hr0 hr1 hR rfl hp w hG
       · rw [if_neg (by simp [y9_]; intro hh; subst hh; simp at hm)]
         cases t with
         | nil => exact zjK_ [] ht ad _ c room hr0 hr1 hR (k5_ om_) w hG
         | cons a b => exact zjH_ (a :: b) ht ad _ c room hr0 hr1 hR rfl (k5_ om_) w hG
     · rw [if_neg (by simp [y9_, hn0])]
       cases t with
       | nil => exact zjJ_ n [] ht ad _ c room hr0 hr1 hR (k5_ hn0) w hG
       | cons a b => exact zjG_ n (a :: b) ht ad _ c room hr0 hr1 hR rfl (k5_ hn0) w hG
   by_cases h3 : k = 3
   · subst h3
     by_cases ht0 : t = []
     · subst ht0
       by_cases hm : kids.length = 0
       · obtain rfl := zbG_ hm
         by_cases hl : 0 ≤ n
         · by_cases hh : n < 1073741824
           · rw [if_pos (by simp [y9_, hl, hh]), zaB_]
             exact zjR_ n [] ht ad 0 c room hr0 hr1 hR hl hh w hG
           · rw [if_neg (by simp [y9_, hl, hh])]
             exact zjQ_ n [] ht ad 0 c room hr0 hr1 hR hl (by simpa using hh) w hG
         · rw [if_neg (by simp [y9_, hl])]
           exact zjP_ n [] ht ad 0 c room hr0 hr1 hR (by simpa using hl) w hG
       · rw [if_neg (by simp [y9_]; intro hh; subst hh; simp at hm)]
         exact zjO_ n [] ht ad _ c room hr0 hr1 hR (k5_ om_) w hG
     · rw [if_neg (by simp [y9_, ht0])]
       exact zjN_ n t ht ad _ c room hr0 hr1 hR (by simpa using ht0) w hG
   by_cases h4 : k = 4
   · subst h4
     by_cases ht0 : t = []
     · subst ht0
       by_cases hm : kids.length = 0
       · obtain rfl := zbG_ hm
         by_cases hl : 0 ≤ n
         · by_cases hh : n < 1073741824
           · rw [if_pos (by simp [y9_, hl, hh]), zaB_]
             exact zjW_ n [] ht ad 0 c room hr0 hr1 hR hl hh w hG
           · rw [if_neg (by simp [y9_, hl, hh])]
             exact zjV_ n [] ht ad 0 c room hr0 hr1 hR hl (by simpa using hh) w hG
         · rw [if_neg (by simp [y9_, hl])]
           exact zjU_ n [] ht ad 0 c room hr0 hr1 hR (by simpa using hl) w hG
       · rw [if_neg (by simp [y9_]; intro hh; subst hh; simp at hm)]
         exact zjT_ n [] ht ad _ c room hr0 hr1 hR (k5_ om_) w hG
     · rw [if_neg (by simp [y9_, ht0])]
       exact zjS_ n t ht ad _ c room hr0 hr1 hR (by simpa using ht0) w hG
   by_cases h5 : k = 5
   · subst h5
     by_cases ht0 : t = []
     · subst ht0
       by_cases hn0 : n = 0
       · subst hn0
         by_cases hm : kids.length = 0
         · obtain rfl := zbG_ hm
           rw [if_neg (by simp [y9_])]
           exact zjZ_ [] ht ad 0 c room hr0 hr1 hR w hG
         · by_cases hm8 : kids.length ≤ 8
           · rw [if_pos (by simp [y9_, hm8]; omega)]
             exact zkg_ N (ze6_ N) kids ad c room om_ hr1 om_ hm8 om_ q w hd hG
           · rw [if_neg (by simp [y9_]; omega)]
             exact zj0_ [] ht ad _ c room hr0 hr1 hR om_ so_ w hG
       · rw [if_neg (by simp [y9_, hn0])]
         exact zjY_ n [] ht ad _ c room hr0 hr1 hR (k5_ hn0) w hG
     · rw [if_neg (by simp [y9_, ht0])]
       exact zjX_ n t ht ad _ c room hr0 hr1 hR (by simpa using ht0) w hG
   by_cases h6 : k = 6
   · subst h6
     by_cases ht0 : t = []
     · subst ht0
       by_cases hn0 : n = 0
       · subst hn0
         by_cases hm : kids.length = 0
         · obtain rfl := zbG_ hm
           rw [if_neg (by simp [y9_])]
           exact zj3_ [] ht ad 0 c room hr0 hr1 hR w hG
         · by_cases hm8 : kids.length ≤ 8
           · rw [if_pos (by simp [y9_, hm8]; omega)]
             exact zkh_ N (ze6_ N) kids ad c room om_ hr1 om_ hm8 om_ q w hd hG
           · rw [if_neg (by simp [y9_]; omega)]
             exact zj4_ [] ht ad _ c room hr0 hr1 hR om_ so_ w hG
       · rw [if_neg (by simp [y9_, hn0])]
         exact zj2_ n [] ht ad _ c room hr0 hr1 hR (k5_ hn0) w hG
     · rw [if_neg (by simp [y9_, ht0])]
       exact zj1_ n t ht ad _ c room hr0 hr1 hR (by simpa using ht0) w hG
   rw [if_neg (by simp [y9_, h1, h2, h3, h4, h5, h6])]
   cases t with
   | nil => exact zj6_ k n [] ht ad _ c room hr0 hr1 hR (k5_ h1) (k5_ h2) (k5_ h3) (k5_ h4) (k5_ h5) (k5_ h6) w hG
   | cons a b => exact zj5_ k n (a :: b) ht ad _ c room hr0 hr1 hR rfl (k5_ h1) (k5_ h2) (k5_ h3) (k5_ h4) (k5_ h5) (k5_ h6) w hG
theorem zki_ (x : LT) (q : Nat → Prop) (v : Value) (room : Int) (w : World) (hr0 : -1000 ≤ room) (hr1 : room ≤ 1000) (hL : y2_ q w x v) (hG : GOk w) :
  Calls Tryz.prog 44 #[v, .int .i64 room] w fun e w' => e = .returned (.int .i64 (zbb_ x room)) ∧ Below w.heap.size w w' :=
 ze6_ (x3_ x).toNat x q v room w (by have := j5_ x; omega) hr0 hr1 hL hG
theorem zbf_ (x : LT) (q : Nat → Prop) (v : Value) (w : World) (hL : y2_ q w x v) (hG : GOk w) :
  Calls Tryz.prog 23 #[v] w fun e w' => e = .returned (.bool (w7_ x)) ∧ Below w.heap.size w w' := by
 have H := Lib.hid (zjq_ x)
 have HL := Lib.hid hL
 have HG := Lib.hid hG
 obtain ⟨k, t, n, kids⟩ := x
 obtain ⟨ad, c, rfl, _⟩ := y3_ hL
 clear hL hG
 go_enter Tryz.func23, Tryz.ntmps23
 go_wp2_with fail
 refine (zki_ _ q _ 64 _ om_ om_ (z7_ (z6_ (z1_ _ _) _) _ _ HL.out) (y5_ HG.out _)).mono ?_
 rintro e w1 ⟨rfl, hb1⟩
 go_wp2_with fail
 go_ret
 exact ⟨by first | (rw [← H.out]; done) | (rw [← H.out]; rfl), bl_⟩
theorem zbv_ (t : List UInt8) (w : World) : Calls Tryz.prog 6 #[.string (bs t)] w fun e w' => e = .returned (.agg #[.int .u8 1, .string (bs t), .int .i64 0, .slice none 0 0]) ∧ Below w.heap.size w w' := by
 go_enter Tryz.func6, Tryz.ntmps6
 go_wp2
 refine bodyPost_ret (v := .agg #[.int .u8 1, .string (bs t), .int .i64 0, .slice none 0 0]) (by simp [results, Tryz.results6, go_sem]) rfl ⟨rfl, ?_⟩
 exact bl_
theorem zaO_ (t : List UInt8) (ht : t.length ≤ 9000000000000000000) (q : Nat → Prop) (w : World) : y2_ q w (.mk 1 t 0 []) (.agg #[.int .u8 1, .string (bs t), .int .i64 0, .slice none 0 0]) := by
 unfold y2_
 exact ⟨by omega, by omega, ht, by simp, _, rfl, .inl ⟨none, 0, rfl, rfl⟩⟩
theorem zcn_ (t : List UInt8) (w : World) : Calls Tryz.prog 7 #[.string (bs t)] w fun e w' => e = .returned (.agg #[.int .u8 2, .string (bs t), .int .i64 0, .slice none 0 0]) ∧ Below w.heap.size w w' := by
 go_enter Tryz.func7, Tryz.ntmps7
 go_wp2
 refine bodyPost_ret (v := .agg #[.int .u8 2, .string (bs t), .int .i64 0, .slice none 0 0]) (by simp [results, Tryz.results7, go_sem]) rfl ⟨rfl, ?_⟩
 exact bl_
theorem zbH_ (t : List UInt8) (ht : t.length ≤ 9000000000000000000) (q : Nat → Prop) (w : World) : y2_ q w (.mk 2 t 0 []) (.agg #[.int .u8 2, .string (bs t), .int .i64 0, .slice none 0 0]) := by
 unfold y2_
 exact ⟨by omega, by omega, ht, by simp, _, rfl, .inl ⟨none, 0, rfl, rfl⟩⟩
theorem zco_ (n : Int) (w : World) : Calls Tryz.prog 4 #[.int .i64 n] w fun e w' => e = .returned (.agg #[.int .u8 3, .string (bs []), .int .i64 n, .slice none 0 0]) ∧ Below w.heap.size w w' := by
 go_enter Tryz.func4, Tryz.ntmps4
 go_wp2
 refine bodyPost_ret (v := .agg #[.int .u8 3, .string (bs []), .int .i64 n, .slice none 0 0]) (by simp [results, Tryz.results4, go_sem]) rfl ⟨rfl, ?_⟩
 exact bl_
theorem zaG_ (n : Int) (h0 : -9223372036854775808 ≤ n) (h1 : n ≤ 9223372036854775807) (q : Nat → Prop) (w : World) : y2_ q w (.mk 3 [] n []) (.agg #[.int .u8 3, .string (bs []), .int .i64 n, .slice none 0 0]) := by
 unfold y2_
 exact ⟨by omega, by omega, by simp, by simp, _, rfl, .inl ⟨none, 0, rfl, rfl⟩⟩
theorem zcp_ (n : Int) (w : World) : Calls Tryz.prog 8 #[.int .i64 n] w fun e w' => e = .returned (.agg #[.int .u8 4, .string (bs []), .int .i64 n, .slice none 0 0]) ∧ Below w.heap.size w w' := by
 go_enter Tryz.func8, Tryz.ntmps8
 go_wp2
 refine bodyPost_ret (v := .agg #[.int .u8 4, .string (bs []), .int .i64 n, .slice none 0 0]) (by simp [results, Tryz.results8, go_sem]) rfl ⟨rfl, ?_⟩
 exact bl_
theorem zbI_ (n : Int) (h0 : -9223372036854775808 ≤ n) (h1 : n ≤ 9223372036854775807) (q : Nat → Prop) (w : World) : y2_ q w (.mk 4 [] n []) (.agg #[.int .u8 4, .string (bs []), .int .i64 n, .slice none 0 0]) := by
 unfold y2_
 exact ⟨by omega, by omega, by simp, by simp, _, rfl, .inl ⟨none, 0, rfl, rfl⟩⟩
theorem Tryz.infoLock : (Tryz.prog.info? 25).map (fun i => (i.zero, i.size, i.bytes)) = some (some (.agg #[.int .u8 0, .string ByteArray.empty, .int .i64 0, .slice none 0 0]), 4, 56) := by kernel_rfl
theorem zd5_ {p : Nat → Prop} {w : World} : ∀ (l : List LT) (cs : List Value), RowV p w l cs → ∀ u ∈ cs, u.oneCell' = true
 | [], cs, h, u, hu => by
   have : cs = [] := h
   subst this; simp at hu
 | x :: r, cs, h, u, hu => by
   obtain ⟨c0, c1, c2, c3, cs', rfl, h1, h2⟩ := h
   obtain ⟨k, n, t, ad, m, c, rfl, rfl, rfl, rfl⟩ := zaA_ h1
   simp only [List.mem_cons] at hu
   rcases hu with rfl | rfl | rfl | rfl | hu
   · rfl
   · rfl
   · rfl
   · rfl
   · exact zd5_ r cs' h2 u hu
theorem zkj_ {w : World} {base e n : Nat} {v : Value} {xs : List Value} (h : w.ownsRow base e 4 v n xs) (hn : 0 < n) :
  ∃ g cap, v = .slice (some ⟨g, 0, none⟩) n cap ∧ base ≤ g ∧ g < w.heap.size ∧ ∀ (j : Nat) (x : Value), xs[j]? = some x → w.cell? ⟨g, j, none⟩ = some x := by
 obtain ⟨h0, h⟩ := h
 rcases h with ⟨_, h⟩ | ⟨g, cap, cur, rfl, hb, hg, hc, hc2, hs, ht⟩
 · omega
 · refine ⟨g, cap, rfl, hb, z0_ hg, fun j x hj => ?_⟩
   rw [z2_ hg]
   rw [← ht] at hj
   have hlt := (List.getElem?_eq_some_iff.1 hj).1
   rw [List.getElem?_take_of_lt (by simp at hlt; omega)] at hj
   simpa using hj
theorem zc1_ {p : Nat → Prop} {w : World} {base e n : Nat} {v : Value} {xs : List Value} {l : List LT} (h : w.ownsRow base e 4 v n xs) (hn : 0 < n) (hl : l.length = n) (hr : RowV p w l xs) :
  ∃ g cap, v = .slice (some ⟨g, 0, none⟩) n cap ∧ base ≤ g ∧ g < w.heap.size ∧ x2_ p w l g 0 := by
 obtain ⟨g, cap, rfl, hb, hg, hc⟩ := zkj_ h hn
 exact ⟨g, cap, rfl, hb, hg, zd1_ l xs 0 hr (fun j v hj => by rw [Nat.zero_add]; exact hc j v hj)⟩
theorem ze7_ {q : Nat → Prop} {w w' : World} (h : Below w.heap.size w w') : Stay q w w' := ⟨h.size, fun b hb _ => h.block b hb⟩
theorem zg0_ (kids : List LT) (b o c : Nat) (q : Nat → Prop) (hm : 0 < kids.length) (hk : kids.length ≤ 1000) (w : World) (hb : b < w.heap.size) (hq : q b) (hr : x2_ q w kids b o) :
  Calls Tryz.prog 20 #[.slice (some ⟨b, o, none⟩) kids.length c] w fun e w' => Below w.heap.size w w' ∧ ∃ g cap, e = .returned (.slice (some ⟨g, 0, none⟩) kids.length cap) ∧ w.heap.size ≤ g ∧ g < w'.heap.size ∧ x2_ q w' kids g 0 := by
 obtain ⟨cs, hv, hcs⟩ := zd2_ kids o hr
 have hlen := zd0_ kids cs hv
 have hone := zd5_ kids cs hv
 obtain ⟨i0, hi0, hi1, hi2, hi3⟩ := info_parts Tryz.infoLock
 have HV := Lib.hid hv
 have HC := Lib.hid hcs
 have HO := Lib.hid hone
 clear hr hv hcs hone
 have hsn : ∀ (b o n c : Nat) (w : World), (binOp .eql 23 (.slice (some ⟨b, o, none⟩) n c) (.slice none 0 0)).run Tryz.prog w = .ok (.bool false) w := fun _ _ _ _ _ => by kernel_rfl
 go_enter Tryz.func20, Tryz.ntmps20
 go_wp2_with (at_builtin; go_must (refine wpList_append_own _ rfl _ _ 23 rfl w.heap.size 25 i0 (.agg #[.int .u8 0, .string ByteArray.empty, .int .i64 0, .slice none 0 0]) 4 56 Tryz.underlying23 hi0 hi1 hi2 hi3 rfl de_ _ 0 [] rfl ?own ⟨b, o, none⟩ kids.length c cs rfl hlen ?c1 HO.out ?c3 ?c4 ?c5 ?_; (case own => (refine ⟨rfl, .inr ⟨w.heap.size, 0, #[], rfl, Nat.le_refl _, ?_, Nat.le_refl _, by decide, rfl, rfl⟩⟩; exact z3_ _ _)); (case c1 => (intro j u hj; rw [Addr.add_lit]; have := HC.out j u hj; exact zbY_ this _)); (case c3 => (unfold maxLen; omega)); (case c4 => omega); (case c5 => (simp)); (intro v' w4 hown4 hgr4 _); (obtain ⟨ad4, n4, cp4, hv4⟩ := zai_ hown4); (subst hv4)))
 go_wp2
 go_ret
 have hgl : GL [] w w4 := zaL_ hgr4 (z6_ (z1_ _ _) _) (fun r hr => by
  have hr2 : (Value.slice (some ⟨w.heap.size, 0, none⟩) 0 0).ownBlock = some r := hr
  right; simp [Value.ownBlock] at hr2; omega)
 have hbl := x0_ hgl
 refine ⟨hbl, ?_⟩
 rw [List.nil_append, Nat.zero_add] at hown4
 obtain ⟨g, cap, e, h1, h2, h3⟩ := zc1_ hown4 hm rfl (zc0_ (ze7_ hbl) (fun _ _ h => h) kids cs HV.out)
 exact ⟨g, cap, by rw [← e]; rfl, h1, h2, h3⟩
theorem zg1_ (kids : List LT) (b o c : Nat) (q : Nat → Prop) (hm : 0 < kids.length) (hk : kids.length ≤ 1000) (w : World) (hb : b < w.heap.size) (hq : q b) (hr : x2_ q w kids b o) :
  Calls Tryz.prog 5 #[.slice (some ⟨b, o, none⟩) kids.length c] w fun e w' => Below w.heap.size w w' ∧ ∃ v, e = .returned v ∧ y2_ (fun b => q b ∨ w.heap.size ≤ b) w' (.mk 5 [] 0 kids) v := by
 have hc := fun (W : World) (hgw : GL [] w W) => zg0_ kids b o c (fun b => q b ∧ b < w.heap.size) hm hk W (Nat.lt_of_lt_of_le hb hgw.size) ⟨hq, hb⟩ (zaM_ hgw kids b o hb ⟨hq, hb⟩ (zbs_ (fun b hb h => ⟨h, hb⟩) kids b o hr))
 have HC := Lib.hid hc
 clear hc hr
 go_enter Tryz.func5, Tryz.ntmps5
 go_wp2_with fail
 refine (HC.out _ gl_).mono ?_
 rintro e w1 ⟨hb1, g, cap, rfl, h1, h2, h3⟩
 have g1 := z9_ (z3_ w zl_) hb1 si_
 have f1 := z2_ g1
 have e1 := z5_ g1
 have l1 := z0_ g1
 clear g1
 have H3 := Lib.hid h3
 clear h3
 simp at h1
 go_wp2_with fail
 refine bodyPost_ret (v := .agg #[.int .u8 5, .string (bs []), .int .i64 0, .slice (some ⟨g, 0, none⟩) kids.length cap]) (by simp [results, Tryz.results5, go_sem, f1, e1]) rfl ⟨?_, _, rfl, ?_⟩
 · exact bl_
 · unfold y2_
   refine ⟨by omega, by omega, by simp, by omega, _, rfl, .inr ⟨g, 0, cap, rfl, by simp; omega, .inr om_, ?_⟩⟩
   refine zbE_ (p := fun b => b ≠ w.heap.size ∧ (q b ∨ w.heap.size ≤ b)) (w := w1) ⟨by simp, fun b hb hp => ?_⟩ (fun b _ h => h.2) kids g 0 h2 ⟨by omega, .inr om_⟩ (zbs_ (fun b hb h => ⟨by omega, .inl h.1⟩) kids g 0 H3.out)
   repeat (rw [Below.heap_setCell _ _ _ _ (by simpa using hp.1)])
theorem zkk_ (kids : List LT) (b o c : Nat) (q : Nat → Prop) (hm : 0 < kids.length) (hk : kids.length ≤ 1000) (w : World) (hb : b < w.heap.size) (hq : q b) (hr : x2_ q w kids b o) :
  Calls Tryz.prog 9 #[.slice (some ⟨b, o, none⟩) kids.length c] w fun e w' => Below w.heap.size w w' ∧ ∃ v, e = .returned v ∧ y2_ (fun b => q b ∨ w.heap.size ≤ b) w' (.mk 6 [] 0 kids) v := by
 have hc := fun (W : World) (hgw : GL [] w W) => zg0_ kids b o c (fun b => q b ∧ b < w.heap.size) hm hk W (Nat.lt_of_lt_of_le hb hgw.size) ⟨hq, hb⟩ (zaM_ hgw kids b o hb ⟨hq, hb⟩ (zbs_ (fun b hb h => ⟨h, hb⟩) kids b o hr))
 have HC := Lib.hid hc
 clear hc hr
 go_enter Tryz.func9, Tryz.ntmps9
 go_wp2_with fail
 refine (HC.out _ gl_).mono ?_
 rintro e w1 ⟨hb1, g, cap, rfl, h1, h2, h3⟩
 have g1 := z9_ (z3_ w zl_) hb1 si_
 have f1 := z2_ g1
 have e1 := z5_ g1
 have l1 := z0_ g1
 clear g1
 have H3 := Lib.hid h3
 clear h3
 simp at h1
 go_wp2_with fail
 refine bodyPost_ret (v := .agg #[.int .u8 6, .string (bs []), .int .i64 0, .slice (some ⟨g, 0, none⟩) kids.length cap]) (by simp [results, Tryz.results9, go_sem, f1, e1]) rfl ⟨?_, _, rfl, ?_⟩
 · exact bl_
 · unfold y2_
   refine ⟨by omega, by omega, by simp, by omega, _, rfl, .inr ⟨g, 0, cap, rfl, by simp; omega, .inr om_, ?_⟩⟩
   refine zbE_ (p := fun b => b ≠ w.heap.size ∧ (q b ∨ w.heap.size ≤ b)) (w := w1) ⟨by simp, fun b hb hp => ?_⟩ (fun b _ h => h.2) kids g 0 h2 ⟨by omega, .inr om_⟩ (zbs_ (fun b hb h => ⟨by omega, .inl h.1⟩) kids g 0 H3.out)
   repeat (rw [Below.heap_setCell _ _ _ _ (by simpa using hp.1)])
def noDg (r : Nat) : Bool := decide (r < 48) || decide (57 < r)
theorem zkl_ (s : ByteArray) (i : Nat) (h : (s.get! i).toNat < 128) : Utf8.decode s i = ((s.get! i).toNat, 1) := by
 rw [Lib.decode_at]
 unfold Lib.decodeN
 rw [if_pos h]
theorem zkm_ (s : ByteArray) (i : Nat) (h : ¬ (s.get! i).toNat < 128) : 128 ≤ (Utf8.decode s i).1 := by
 rw [Lib.decode_at]
 unfold Lib.decodeN
 rw [if_neg h]
 repeat' split
 all_goals first | omega | (simp only; omega)
theorem zkn_ (l : List UInt8) (i : Nat) (h : i < l.length) : (bs l).get! i = l[i] := by
 show l.toArray[i]! = l[i]
 simp [h]
theorem zko_ (l : List UInt8) (i : Nat) (h : i < l.length) : noDg (Utf8.decode (bs l) i).1 = !(v3_ l[i]) ∧ (v3_ l[i] = true → (Utf8.decode (bs l) i).2 = 1) := by
 have e := zkn_ l i h
 by_cases hb : l[i].toNat < 128
 · have hd := zkl_ (bs l) i (by rw [e]; exact hb)
   rw [hd, e]
   refine ⟨?_, fun _ => rfl⟩
   unfold noDg v3_
   rw [Bool.eq_iff_iff]
   simp only [Bool.or_eq_true, decide_eq_true_eq, Bool.not_eq_true', Bool.and_eq_false_iff, decide_eq_false_iff_not]
   omega
 · have hd := zkm_ (bs l) i (by rw [e]; exact hb)
   have h1 : v3_ l[i] = false := by
    unfold v3_
    rw [Bool.and_eq_false_iff]
    right
    simp
    omega
   rw [h1]
   refine ⟨?_, by simp⟩
   unfold noDg
   simp
   right
   omega
end Go.Proofs.YtiplnofaejpeoaaGreatDoor
