/- Byte texts as lists: 'bs l' is the Go string whose bytes are l; how the walk's operations read on such texts. The plain functions that the layer 'term' computes, on lists of bytes. No program stands in this text. Parts that lie one behind the other in a text; a row of parts read so far. Public keys of terms; parts of right terms are right. Terms that are written are right: digits, names, texts, terms side by side. No program stands in this text. The plain functions of the layers 'seed' and 'keys'. No program stands in this text. A number as the program reads it (up to a byte, by the library's ParseInt) is a number as the reference reads it. What the program's and the reference's layer term share. The document's answers about keys: public keys, a commitment's secret, its point, its set; rows of answers, each made only while none was refused. Whatever names two sides have: their secrets, public keys, a commitment's secret, its point, its set are made, and each side's secrets fit. No program stands in this text. The plain functions of the layer term that are left: two agree, a signature is one, a box is opened; how many parts a right term has. No program stands in this text. -/
import Derived.Test.YtiplnofaejpeoaaGreatDoorRows
import Derived.WalkKit
import Derived.WalkSpells
import Derived.WalkLawsBesides
import Derived.Outline
import Derived.Lib.Hide
import Derived.Lib.ItoaNum
import Derived.Lib.ParseIntB
import Derived.Lib.Bytealg
import Derived.Deep.QuietTactic
import Derived.BigQuiet
import Derived.Deep.RegionLaw
import Derived.StillTailTactics
import Derived.Deep.AppendLies
import Derived.Deep.RegionHeld3
import Derived.Deep.DeepCutAuto
set_option linter.unusedSimpArgs false
set_option linter.unusedVariables false
-- Base
namespace Go.Proofs.YtiplnofaejpeoaaGreatDoor
open Go.RowKit
theorem om_ {p : Prop} (h : p := by omega) : p := h
theorem si_ {p : Prop} (h : p := by simp) : p := h
theorem as_ {p : Prop} (h : p := by assumption) : p := h
theorem de_ {p : Prop} (h : p := by decide) : p := h
theorem rs_ {p : Prop} (h : p := by first | rfl | (simp; done)) : p := h
theorem so_ {p : Prop} (h : p := by simp; omega) : p := h
theorem sx_ {p : Prop} (h : p := by first | (simp; done) | (simp; omega)) : p := h
def bs (l : List UInt8) : ByteArray := ⟨l.toArray⟩
abbrev zl_ : Obj := .cells #[.int .u8 0, .string (bs []), .int .i64 0, .slice none 0 0] 25
theorem zeB_ (l : List UInt8) : (⟨l.toArray⟩ : ByteArray) = bs l := rfl
theorem zix_ : (ByteArray.empty) = bs [] := rfl
theorem zaJ_ (l : List UInt8) : (bs l).size = l.length := by simp [bs, ByteArray.size]
theorem ziy_ (l : List UInt8) : (bs l).toList = l := by
 rw [ByteArray.toList_eq]; simp [bs]
theorem zaq_ (l : List UInt8) : (bs l).data.toList = l := by simp [bs]
theorem ziz_ (a b : List UInt8) : bs a ++ bs b = bs (a ++ b) := by
 apply ByteArray.ext; simp [bs, ByteArray.data_append]
theorem zcv_ (l : List UInt8) (a b : Nat) : (bs l).extract a b = bs ((l.drop a).take (b - a)) := ByteArray.extract_mk l a b
theorem ziA_ (l : List UInt8) (i : Nat) (h : i < (bs l).size) : (bs l)[i] = l[i]'(by rw [zaJ_] at h; exact h) := rfl
theorem ziB_ (a b : List UInt8) : (bs a = bs b) = (a = b) := by
 apply propext; constructor
 · intro h; have := congrArg (fun x => x.data.toList) h; simpa [bs] using this
 · rintro rfl; rfl
attribute [simp, go_sem] zeB_ zix_ zaJ_ ziy_ zaq_ ziz_ zcv_ ziA_ ziB_
theorem bcell {W w1 : World} (hb : Below W.heap.size W w1) : (∀ b o, b < W.heap.size → w1.cell? ⟨b, o, none⟩ = W.cell? ⟨b, o, none⟩) ∧ (∀ b o, b < W.heap.size → w1.frozen? ⟨b, o, none⟩ = W.frozen? ⟨b, o, none⟩) :=
 ⟨fun b o h => hb.cell (p := ⟨b, o, none⟩) h, fun b o h => hb.frozen (p := ⟨b, o, none⟩) h⟩
theorem ziC_ {B : Nat} {w w1 w2 : World} (h2 : Below w1.heap.size w1 w2) (h1 : Below B w w1) (hB : B ≤ w.heap.size) : Below B w w2 :=
 h1.trans (h2.mono (Nat.le_trans hB h1.size))
theorem ziD_ {B : Nat} {w w1 : World} (h : Below B w w1) (hB : B ≤ w.heap.size) (o : Obj) : Below B w (w1.alloc o) := h.alloc (Nat.le_trans hB h.size) o
/-! A block known whole. -/
theorem z2_ {w : World} {B T : Nat} {cs : Array Value} {fz : Nat × Nat} (h : w.heap[B]? = some (.cells cs T fz)) (j : Nat) : w.cell? ⟨B, j, none⟩ = cs[j]? := by simp [World.cell?, h]
theorem z5_ {w : World} {B T : Nat} {cs : Array Value} (h : w.heap[B]? = some (.cells cs T (0, 0))) (j : Nat) : w.frozen? ⟨B, j, none⟩ = false := by simp [World.frozen?, h]
theorem z0_ {w : World} {B : Nat} {o : Obj} (h : w.heap[B]? = some o) : B < w.heap.size := (Array.getElem?_eq_some_iff.1 h).1
theorem z8_ {w : World} {B : Nat} {x : Obj} (h : w.heap[B]? = some x) (o : Obj) : (w.alloc o).heap[B]? = some x := by
 rw [Below.heap_alloc w o B (z0_ h)]; exact h
theorem z3_ (w : World) (o : Obj) : (w.alloc o).heap[w.heap.size]? = some o := by
 show (w.heap.push o)[w.heap.size]? = _
 simp
theorem x7_ {w : World} {B T : Nat} {cs : Array Value} {fz : Nat × Nat} (h : w.heap[B]? = some (.cells cs T fz)) (j : Nat) (v : Value) : (w.setCell ⟨B, j, none⟩ v).heap[B]? = some (.cells (cs.setIfInBounds j v) T fz) := by
 simp [World.setCell, Array.getElem?_modify, h]
theorem y8_ {w : World} {B : Nat} {x : Obj} (h : w.heap[B]? = some x) {p : Addr} (hp : B ≠ p.block) (v : Value) : (w.setCell p v).heap[B]? = some x := by
 rw [Below.heap_setCell w p v B hp]; exact h
theorem zdo_ {w : World} {b j : Nat} {p : Addr} {v u : Value} (h : w.cell? ⟨b, j, none⟩ = some u) (hp : b ≠ p.block) : (w.setCell p v).cell? ⟨b, j, none⟩ = some u := by
 have e : (w.setCell p v).heap[b]? = w.heap[b]? := Below.heap_setCell w p v b hp
 simp only [World.cell?, e]; exact h
theorem zaf_ {w : World} {B : Nat} {x : Obj} (h : w.heap[B]? = some x) (n : Nat) : (w.drewN n).heap[B]? = some x := h
theorem zac_ {w : World} {B : Nat} {x : Obj} (h : w.heap[B]? = some x) : w.drew.heap[B]? = some x := h
theorem z9_ {N : Nat} {w w1 : World} {B : Nat} {x : Obj} (h : w.heap[B]? = some x) (hb : Below N w w1) (hN : B < N) : w1.heap[B]? = some x := by
 rw [hb.block B hN]; exact h
theorem j1_ {w w1 : World} {row : Option Nat} {B : Nat} {x : Obj} (h : w.heap[B]? = some x) (hg : w.grownBy w1 row) (hr : some B ≠ row) : w1.heap[B]? = some x := by
 rw [hg.block B (z0_ h) hr]; exact h
theorem zcw_ {W : World} {v : Value} {e n : Nat} (h : n = W.heap.size) : ∀ (j : Nat) (u : Value), [v][j]? = some u → (W.alloc (.cells #[v] e)).cell? ((⟨n, 0, none⟩ : Addr).add j) = some u := by
 subst h; exact cell_one_new _ _ _
theorem one1 {v : Value} (h : v.oneCell' = true) : ∀ u ∈ [v], u.oneCell' = true := by
 intro u hu; rw [List.mem_singleton] at hu; subst hu; exact h
theorem zai_ {w : World} {base e size n : Nat} {v : Value} {xs : List Value} (h : w.ownsRow base e size v n xs) : ∃ ad m c, v = .slice ad m c := by
 rcases h.2 with ⟨h, _⟩ | ⟨g, cap, _, h, _⟩ <;> exact ⟨_, _, _, h⟩
theorem zbm_ {w : World} {base e size n m c : Nat} {a : Option Addr} {xs : List Value} (h : w.ownsRow base e size (.slice a m c) n xs) : m = n := by
 rcases h.2 with ⟨h, h2⟩ | ⟨g, cap, _, h, _⟩
 · injection h with h3 h4 h5; omega
 · injection h
theorem j4_ {w : World} {base e size n : Nat} {v : Value} {xs : List Value} (h : w.ownsRow base e size v n xs) {B T : Nat} {cs : Array Value} {fz : Nat × Nat} (hB : w.heap[B]? = some (.cells cs T fz)) (hT : T ≠ e) : some B ≠ v.ownBlock := by
 obtain ⟨_, h⟩ := h
 rcases h with ⟨rfl, _⟩ | ⟨g, cap, cur, rfl, _, hg, _⟩
 · simp [Value.ownBlock]
 · simp only [Value.ownBlock]
   intro e
   simp only [Option.some.injEq] at e
   subst e
   rw [hB] at hg
   simp at hg
   exact hT hg.2.1
theorem zfW_ {w1 w4 : World} {B T j : Nat} {cs : Array Value} {fz : Nat × Nat} {v : Value} {X Y : Obj} {row : Option Nat} (h : w1.heap[B]? = some (.cells cs T fz))
  (hg : (((w1.setCell ⟨B, j, none⟩ v).alloc X).alloc Y).grownBy w4 row) (hr : some B ≠ row) : w4.heap[B]? = some (.cells (cs.setIfInBounds j v) T fz) :=
 j1_ (z8_ (z8_ (x7_ h j v) X) Y) hg hr
theorem zal_ {w : World} {base e size n : Nat} {v : Value} {xs : List Value} (h : w.ownsRow base e size v n xs) : ∀ g, v.ownBlock = some g → base ≤ g := by
 intro g hg
 rcases h.2 with ⟨rfl, _⟩ | ⟨g', cap, cur, rfl, h', _⟩
 · simp [Value.ownBlock] at hg
 · simp [Value.ownBlock] at hg; omega
theorem ziE_ {w : World} {b1 b2 e1 e2 s1 s2 n1 n2 : Nat} {v1 v2 : Value} {x1 x2 : List Value} (h1 : w.ownsRow b1 e1 s1 v1 n1 x1) (h2 : w.ownsRow b2 e2 s2 v2 n2 x2) (he : e1 ≠ e2) : v1.ownBlock ≠ v2.ownBlock ∨ v1.ownBlock = none := by
 rcases h1.2 with ⟨rfl, _⟩ | ⟨g, cap, cur, rfl, _, hg, _⟩
 · exact .inr rfl
 · refine .inl ?_
   have := j4_ h2 hg (by exact he)
   simpa [Value.ownBlock] using this
theorem zdp_ {w w1 : World} {base e size n : Nat} {v : Value} {xs : List Value} (h : w.ownsRow base e size v n xs) (hk : ∀ g x, base ≤ g → w.heap[g]? = some x → some g = v.ownBlock → w1.heap[g]? = some x) : w1.ownsRow base e size v n xs := by
 obtain ⟨h0, h⟩ := h
 refine ⟨h0, ?_⟩
 rcases h with h | ⟨g, cap, cur, rfl, hb, hg, r⟩
 · exact Or.inl h
 · exact Or.inr ⟨g, cap, cur, rfl, hb, hk g _ hb hg rfl, r⟩
theorem zcX_ {N : Nat} {w w1 : World} {base e size n : Nat} {v : Value} {xs : List Value} (h : w.ownsRow base e size v n xs) (hb : Below N w w1) (hN : N = w.heap.size) : w1.ownsRow base e size v n xs :=
 zdp_ h fun g x _ hg _ => z9_ hg hb (by rw [hN]; exact z0_ hg)
theorem zar_ {w : World} {base e size n : Nat} {v : Value} {xs : List Value} (h : w.ownsRow base e size v n xs) (o : Obj) : (w.alloc o).ownsRow base e size v n xs :=
 zdp_ h fun _ _ _ hg _ => z8_ hg o
theorem w3_ {w : World} {base e size n : Nat} {v : Value} {xs : List Value} (h : w.ownsRow base e size v n xs) {p : Addr} (hp : some p.block ≠ v.ownBlock) (u : Value) : (w.setCell p u).ownsRow base e size v n xs :=
 zdp_ h fun _ _ _ hg e => y8_ hg (fun e' => hp (by rw [← e', e])) u
theorem zdq_ {w : World} {base b2 e size n : Nat} {v : Value} {xs : List Value} (h : w.ownsRow base e size v n xs) (hb : b2 ≤ base) : w.ownsRow b2 e size v n xs := by
 obtain ⟨h0, h⟩ := h
 refine ⟨h0, ?_⟩
 rcases h with h | ⟨g, cap, cur, hv, hg, r⟩
 · exact Or.inl h
 · exact Or.inr ⟨g, cap, cur, hv, Nat.le_trans hb hg, r⟩
/-! What has grown, but for one row. -/
theorem zcd_ (w : World) (row : Option Nat) : w.grownBy w row := ⟨rfl, rfl, rfl, Nat.le_refl _, fun _ _ _ => rfl⟩
theorem zbn_ {w w1 w2 : World} {row : Option Nat} (h : w.grownBy w1 row) (h2 : w1.grownBy w2 row) : w.grownBy w2 row :=
 ⟨h2.os.trans h.os, h2.tape.trans h.tape, h2.output.trans h.output, Nat.le_trans h.size h2.size, fun k hk hr => (h2.block k (Nat.lt_of_lt_of_le hk h.size) hr).trans (h.block k hk hr)⟩
theorem zce_ {w w1 : World} {row : Option Nat} (h : w.grownBy w1 row) (n : Nat) : w.grownBy (w1.drewN n) row :=
 zbn_ h ⟨rfl, rfl, rfl, Nat.le_refl _, fun _ _ _ => rfl⟩
theorem zcf_ {w w1 : World} {row : Option Nat} (h : w.grownBy w1 row) : w.grownBy w1.drew row :=
 zbn_ h ⟨rfl, rfl, rfl, Nat.le_refl _, fun _ _ _ => rfl⟩
theorem zcg_ {w w1 : World} {row : Option Nat} (h : w.grownBy w1 row) (o : Obj) : w.grownBy (w1.alloc o) row :=
 zbn_ h ⟨rfl, rfl, rfl, by simp, fun k hk _ => Below.heap_alloc _ _ _ hk⟩
theorem zaK_ {w w1 : World} {row : Option Nat} (h : w.grownBy w1 row) {p : Addr} (hp : some p.block = row ∨ w.heap.size ≤ p.block) (v : Value) : w.grownBy (w1.setCell p v) row :=
 ⟨h.os, h.tape, h.output, by simpa [World.setCell] using h.size, fun k hk hr => by
   rw [Below.heap_setCell _ _ _ _ (by rintro rfl; rcases hp with hp | hp; exact hr hp; omega)]; exact h.block k hk hr⟩
theorem zch_ {w w1 w2 : World} {row : Option Nat} (h : w.grownBy w1 row) (hb : Below w1.heap.size w1 w2) : w.grownBy w2 row :=
 zbn_ h ⟨hb.os, hb.tape, hb.output, hb.size, fun k hk _ => hb.block k hk⟩
/-! What has grown, but for some rows. -/
structure GL (rs : List Nat) (w w' : World) : Prop where
 os : w'.os = w.os
 tape : w'.tape = w.tape
 output : w'.output = w.output
 size : w.heap.size ≤ w'.heap.size
 block : ∀ k, k < w.heap.size → k ∉ rs → w'.heap[k]? = w.heap[k]?
theorem z1_ (rs : List Nat) (w : World) : GL rs w w := ⟨rfl, rfl, rfl, Nat.le_refl _, fun _ _ _ => rfl⟩
theorem x1_ {rs rs' : List Nat} {w w1 w2 : World} (h2 : GL rs' w1 w2) (h : GL rs w w1) (hr : ∀ r ∈ rs', r ∈ rs ∨ w.heap.size ≤ r) : GL rs w w2 :=
 ⟨h2.os.trans h.os, h2.tape.trans h.tape, h2.output.trans h.output, Nat.le_trans h.size h2.size, fun k hk hn =>
   (h2.block k (Nat.lt_of_lt_of_le hk h.size) (fun hm => by rcases hr k hm with h' | h'; exact hn h'; omega)).trans (h.block k hk hn)⟩
theorem za8_ {rs : List Nat} {w w1 : World} (h : GL rs w w1) (n : Nat) : GL rs w (w1.drewN n) := ⟨h.os, h.tape, h.output, h.size, h.block⟩
theorem zam_ {rs : List Nat} {w w1 : World} (h : GL rs w w1) : GL rs w w1.drew := ⟨h.os, h.tape, h.output, h.size, h.block⟩
theorem z6_ {rs : List Nat} {w w1 : World} (h : GL rs w w1) (o : Obj) : GL rs w (w1.alloc o) :=
 ⟨h.os, h.tape, h.output, Nat.le_trans h.size si_, fun k hk hn => (Below.heap_alloc _ _ _ (Nat.lt_of_lt_of_le hk h.size)).trans (h.block k hk hn)⟩
theorem x6_ {rs : List Nat} {w w1 : World} (h : GL rs w w1) {p : Addr} (hp : p.block ∈ rs ∨ w.heap.size ≤ p.block) (v : Value) : GL rs w (w1.setCell p v) :=
 ⟨h.os, h.tape, h.output, by simpa [World.setCell] using h.size, fun k hk hn => by
   rw [Below.heap_setCell _ _ _ _ (by rintro rfl; rcases hp with hp | hp; exact hn hp; omega)]; exact h.block k hk hn⟩
theorem ziF_ {rs : List Nat} {w w1 : World} {p : Addr} (hp : w.heap.size ≤ p.block) (h : GL rs w w1) (v : Value) : GL rs w (w1.setCell p v) := x6_ h (.inr hp) v
theorem ziG_ {rs : List Nat} {w w1 : World} {p : Addr} (hp : p.block ∈ rs) (h : GL rs w w1) (v : Value) : GL rs w (w1.setCell p v) := x6_ h (.inl hp) v
theorem z4_ {rs : List Nat} {w w1 w2 : World} (hb : Below w1.heap.size w1 w2) (h : GL rs w w1) : GL rs w w2 :=
 ⟨hb.os.trans h.os, hb.tape.trans h.tape, hb.output.trans h.output, Nat.le_trans h.size hb.size, fun k hk hn => (hb.block k (Nat.lt_of_lt_of_le hk h.size)).trans (h.block k hk hn)⟩
theorem zaL_ {rs : List Nat} {w w1 w2 : World} {row : Option Nat} (hb : w1.grownBy w2 row) (h : GL rs w w1) (hr : ∀ r, row = some r → r ∈ rs ∨ w.heap.size ≤ r) : GL rs w w2 :=
 ⟨hb.os.trans h.os, hb.tape.trans h.tape, hb.output.trans h.output, Nat.le_trans h.size hb.size, fun k hk hn =>
   (hb.block k (Nat.lt_of_lt_of_le hk h.size) (fun e => by rcases hr k e.symm with h' | h'; exact hn h'; omega)).trans (h.block k hk hn)⟩
theorem bl_ {B : Nat} {w w1 : World} (h : Below B w w1 := by (repeat' (first | with_reducible exact Below.refl _ _ | with_reducible assumption | with_reducible refine ziD_ ?_ ?_ _ | with_reducible refine Below.setCell ?_ ?_ _ | with_reducible refine Below.drew ?_ | with_reducible refine below_drewN ?_ _ | with_reducible refine ziC_ (by assumption) ?_ ?_ | (with_reducible refine Below.trans ?_ (Below.mono (by assumption) ?_)) | exact Nat.le_refl _ | (simp; done) | (simp; omega) | omega))) : Below B w w1 := h
theorem gl_ {rs : List Nat} {w w1 : World} (h : GL rs w w1 := by (repeat' (first | with_reducible exact z1_ _ _ | with_reducible assumption | with_reducible refine z6_ ?_ _ | with_reducible refine za8_ ?_ _ | with_reducible refine zam_ ?_ | (with_reducible refine ziF_ ?_ ?_ _; · (first | exact Nat.le_refl _ | (simp; done) | (simp; omega) | omega)) | (with_reducible refine ziG_ ?_ ?_ _; · (simp; done)) | with_reducible refine z4_ (by with_reducible assumption) ?_ | with_reducible refine x1_ (by with_reducible assumption) ?_ (by first | (simp; done) | (simp; omega)) | with_reducible refine zaL_ (by with_reducible assumption) ?_ (by first | (simp; done) | (simp; omega))))) : GL rs w w1 := h
theorem x0_ {w w1 : World} (h : GL [] w w1) : Below w.heap.size w w1 := ⟨h.os, h.tape, h.output, h.size, fun k hk => h.block k hk si_⟩
theorem y7_ {rs : List Nat} {w w1 : World} {B : Nat} {x : Obj} (h : w.heap[B]? = some x) (hg : GL rs w w1) (hr : B ∉ rs) : w1.heap[B]? = some x := by
 rw [hg.block B (z0_ h) hr]; exact h
theorem zdr_ {rs : List Nat} {w w1 : World} {base e size n : Nat} {v : Value} {xs : List Value} (h : w.ownsRow base e size v n xs) (hg : GL rs w w1) (hr : ∀ r ∈ rs, v.ownBlock ≠ some r) : w1.ownsRow base e size v n xs :=
 zdp_ h fun g _ _ hx he => y7_ hx hg (fun hm => hr g hm he.symm)
end Go.Proofs.YtiplnofaejpeoaaGreatDoor
-- Spec
namespace Go.Proofs.YtiplnofaejpeoaaGreatDoor
def q8_ (e : UInt8) : List UInt8 → Nat → Nat → Option (Nat × Nat)
 | [], _, _ => none
 | c :: r, n, k =>
   if c.toNat = e.toNat ∧ 0 < k then some (n, k + 1)
   else if c.toNat < 48 ∨ 57 < c.toNat ∨ (n = 0 ∧ 0 < k) then none
   else if (9223372036854775807 - (c.toNat - 48)) / 10 < n then none
   else q8_ e r (n * 10 + (c.toNat - 48)) (k + 1)
def num (e : UInt8) (l : List UInt8) : Option (Nat × Nat) := q8_ e l 0 0
structure Sh where
 op : UInt8
 len : Nat
 deep : Nat
 n : Nat
 text : List UInt8
 kids : List (List UInt8)
def arity (c : UInt8) : Option Nat :=
 if c = 80 ∨ c = 72 then some 1
 else if c = 83 ∨ c = 66 ∨ c = 88 ∨ c = 68 ∨ c = 86 ∨ c = 87 ∨ c = 75 ∨ c = 76 then some 2 else none
def pubC (c : UInt8) : Bool := c == 80 || c == 87 || c == 76
def leB (a b : List UInt8) : Bool := Op.bytesLess a b || a == b
def head (l : List UInt8) : UInt8 := l.headD 0
def q3_ (c : UInt8) (ks : List (List UInt8)) : Bool :=
 if c = 80 then head (ks.getD 0 []) != 86 && head (ks.getD 0 []) != 75
 else if c = 88 then leB (ks.getD 0 []) (ks.getD 1 [])
 else if c = 87 then pubC (head (ks.getD 0 [])) && pubC (head (ks.getD 1 []))
 else if c = 76 then pubC (head (ks.getD 0 []))
 else true
def w0_ (f : List UInt8 → Option Sh) : Nat → List UInt8 → Option (List (List UInt8) × Nat × Nat)
 | 0, _ => some ([], 0, 0)
 | m + 1, l =>
   match f l with
   | none => none
   | some x =>
     match w0_ f m (l.drop x.len) with
     | none => none
     | some (ks, dp, len) => some (l.take x.len :: ks, max x.deep dp, x.len + len)
def cnt (c : UInt8) (r : List UInt8) : Option (Nat × Nat) :=
 if c = 84 then (match num 58 r with | none => none | some (n, k) => if 32 < n then none else some (n, k))
 else (arity c).map fun n => (n, 0)
def rd : Nat → List UInt8 → Option Sh
 | 0, _ => none
 | _ + 1, [] => none
 | d + 1, c :: r =>
   if c = 110 then (num 59 r).map fun (n, k) => ⟨c, 1 + k, 1, n, [], []⟩
   else if c = 116 then
    match num 58 r with
    | none => none
    | some (n, k) => if 4096 < n ∨ r.length - k < n then none else some ⟨c, 1 + k + n, 1, n, (r.drop k).take n, []⟩
   else
    match cnt c r with
    | none => none
    | some (m, k) =>
      match w0_ (rd d) m (r.drop k) with
      | none => none
      | some (ks, dp, len) => if q3_ c ks then some ⟨c, 1 + k + len, dp + 1, 0, [], ks⟩ else none
theorem zeC_ (e : UInt8) : ∀ (l : List UInt8) (m k n c : Nat), m ≤ 9223372036854775807 → q8_ e l m k = some (n, c) → k + 1 ≤ c ∧ c ≤ k + l.length ∧ n ≤ 9223372036854775807
 | [], m, k, n, c, _, h => by simp [q8_] at h
 | x :: r, m, k, n, c, hm, h => by
   have hx := x.toNat_lt
   simp only [q8_] at h
   split at h
   · simp only [Option.some.injEq, Prod.mk.injEq] at h
     obtain ⟨rfl, rfl⟩ := h
     simp; omega
   · split at h
     · simp at h
     · split at h
       · simp at h
       · have := zeC_ e r _ _ n c om_ h
         simp; omega
theorem zbD_ {e : UInt8} {l : List UInt8} {n c : Nat} (h : num e l = some (n, c)) : 2 ≤ c ∧ c ≤ l.length ∧ n ≤ 9223372036854775807 := by
 have h1 := zeC_ e l 0 0 n c om_ h
 refine ⟨?_, by omega, h1.2.2⟩
 cases l with
 | nil => simp [num, q8_] at h
 | cons x r =>
   simp only [num, q8_] at h
   split at h
   · omega
   · split at h
     · simp at h
     · split at h
       · simp at h
       · have := zeC_ e r _ _ n c (by have := x.toNat_lt; omega) h
         omega
theorem zeD_ (k : Nat) : ∀ n : Nat, n < 10 ^ (k + 1) → (Lib.decDigits n).length ≤ k + 1 := by
 induction k with
 | zero => intro n h; rw [Lib.decDigits_length, Lib.nDigits_small (by simpa using h)]; omega
 | succ k ih =>
   intro n h
   by_cases h1 : n < 10
   · rw [Lib.decDigits_length, Lib.nDigits_small h1]; omega
   · have := ih (n / 10) (by rw [Nat.pow_succ] at h; omega)
     rw [Lib.decDigits_length] at *
     rw [Lib.nDigits_big h1]; omega
theorem zbQ_ (n : Nat) (h : n ≤ 18446744073709551615) : (Lib.decDigits n).length ≤ 20 := zeD_ 19 n (by
 have : (10 : Nat) ^ (19 + 1) = 100000000000000000000 := by decide
 omega)
/-! What was read lies within the text. -/
def j2_ : List (List UInt8) → Nat
 | [] => 0
 | k :: ks => k.length + j2_ ks
def ShOk (d : Nat) (l : List UInt8) (x : Sh) : Prop := 1 ≤ x.len ∧ x.len ≤ l.length ∧ 1 ≤ x.deep ∧ x.deep ≤ d ∧ x.op = head l
theorem zcM_ {f : List UInt8 → Option Sh} {d : Nat} (hf : ∀ l x, f l = some x → ShOk d l x) : ∀ (m : Nat) (l : List UInt8) (ks : List (List UInt8)) (dp len : Nat),
  w0_ f m l = some (ks, dp, len) → ks.length = m ∧ len = j2_ ks ∧ len ≤ l.length ∧ dp ≤ d ∧ (∀ k ∈ ks, k ≠ [])
 | 0, l, ks, dp, len, h => by
   simp only [w0_, Option.some.injEq, Prod.mk.injEq] at h
   obtain ⟨rfl, rfl, rfl⟩ := h
   simp [j2_]
 | m + 1, l, ks, dp, len, h => by
   simp only [w0_] at h
   split at h
   · simp at h
   · rename_i x hx
     have h1 := hf _ _ hx
     unfold ShOk at h1
     split at h
     · simp at h
     · rename_i ks' dp' len' hk
       have h2 := zcM_ hf m _ _ _ _ hk
       simp only [Option.some.injEq, Prod.mk.injEq] at h
       obtain ⟨rfl, rfl, rfl⟩ := h
       rw [List.length_drop] at h2
       refine ⟨by simp [h2.1], ?_, by omega, Nat.max_le.2 ⟨by omega, by omega⟩, ?_⟩
       · simp only [j2_, List.length_take]; omega
       · intro k hk
         rcases List.mem_cons.1 hk with rfl | hk
         · intro e; have h3 := congrArg List.length e; rw [List.length_take, List.length_nil] at h3; omega
         · exact h2.2.2.2.2 k hk
theorem zcN_ {c : UInt8} {r : List UInt8} {m k : Nat} (h : cnt c r = some (m, k)) : m ≤ 32 ∧ k ≤ r.length := by
 simp only [cnt] at h
 split at h
 · split at h
   · simp at h
   · rename_i hn
     have := zbD_ hn
     split at h
     · simp at h
     · simp at h; omega
 · simp only [arity] at h
   split at h
   · simp at h; omega
   · split at h
     · simp at h; omega
     · simp at h
theorem zay_ : ∀ (d : Nat) (l : List UInt8) (x : Sh), rd d l = some x → ShOk d l x
 | 0, _, _, h => by simp [rd] at h
 | _ + 1, [], _, h => by simp [rd] at h
 | d + 1, c :: r, x, h => by
   unfold ShOk
   simp only [rd] at h
   split at h
   · cases hn : num 59 r with
     | none => simp [hn] at h
     | some y =>
       have := zbD_ hn
       simp only [hn, Option.map_some, Option.some.injEq] at h
       subst h
       simp [head]; omega
   · split at h
     · split at h
       · simp at h
       · rename_i hn
         have := zbD_ hn
         split at h
         · simp at h
         · simp only [Option.some.injEq] at h
           subst h
           simp [head]; omega
     · split at h
       · simp at h
       · rename_i m k hc
         have hcb := zcN_ hc
         split at h
         · simp at h
         · rename_i ks dp len hk
           have h2 := zcM_ (zay_ d) m _ _ _ _ hk
           rw [List.length_drop] at h2
           split at h
           · simp only [Option.some.injEq] at h
             subst h
             simp [head]; omega
           · simp at h
end Go.Proofs.YtiplnofaejpeoaaGreatDoor
-- SpecB
namespace Go.Proofs.YtiplnofaejpeoaaGreatDoor
def zan_ (b : Nat) : List (List UInt8) → List Nat
 | [] => [b]
 | k :: ks => b :: zan_ (b + k.length) ks
def zbU_ (l : List UInt8) : Nat → List (List UInt8) → Prop
 | _, [] => True
 | b, k :: ks => k = (l.drop b).take k.length ∧ b + k.length ≤ l.length ∧ k ≠ [] ∧ zbU_ l (b + k.length) ks
theorem zeE_ (ks : List (List UInt8)) : ∀ b, (zan_ b ks).length = ks.length + 1 := by
 induction ks with
 | nil => intro b; rfl
 | cons k ks ih => intro b; simp [zan_, ih]
theorem ziH_ (k : List UInt8) (ks : List (List UInt8)) : ∀ b, zan_ b (ks ++ [k]) = zan_ b ks ++ [b + j2_ ks + k.length] := by
 induction ks with
 | nil => intro b; simp [zan_, j2_]
 | cons x ks ih => intro b; simp [zan_, j2_, ih, Nat.add_assoc]
theorem ziI_ (k : List UInt8) (ks : List (List UInt8)) : j2_ (ks ++ [k]) = j2_ ks + k.length := by
 induction ks with
 | nil => simp [j2_]
 | cons x ks ih => simp [j2_, ih, Nat.add_assoc]
theorem ziJ_ {l : List UInt8} {k : List UInt8} (ks : List (List UInt8)) : ∀ b, zbU_ l b ks → k = (l.drop (b + j2_ ks)).take k.length → b + j2_ ks + k.length ≤ l.length → k ≠ [] → zbU_ l b (ks ++ [k]) := by
 induction ks with
 | nil => intro b _ h1 h2 h3; simpa [zbU_, j2_] using ⟨by simpa [j2_] using h1, by simpa [j2_] using h2, h3⟩
 | cons x ks ih =>
   intro b h h1 h2 h3
   simp only [j2_] at h1 h2
   rw [← Nat.add_assoc] at h1 h2
   exact ⟨h.1, h.2.1, h.2.2.1, ih _ h.2.2.2 h1 h2 h3⟩
def KProg (f : List UInt8 → Option Sh) (l : List UInt8) (b m k c dp : Nat) (ks : List (List UInt8)) : Prop :=
 w0_ f m (l.drop b) = match w0_ f (m - k) (l.drop (b + c)) with
  | none => none
  | some (ks', dp', len') => some (ks ++ ks', max dp dp', c + len')
theorem zfX_ (f : List UInt8 → Option Sh) (l : List UInt8) (b m : Nat) : KProg f l b m 0 0 0 [] := by
 unfold KProg
 rw [Nat.sub_zero, Nat.add_zero]
 cases w0_ f m (l.drop b) with
 | none => rfl
 | some x => obtain ⟨ks, dp, len⟩ := x; simp
theorem zeF_ {f : List UInt8 → Option Sh} {l : List UInt8} {b m k c dp : Nat} {ks : List (List UInt8)} (h : KProg f l b m k c dp ks) (hk : k < m) (hf : f (l.drop (b + c)) = none) : w0_ f m (l.drop b) = none := by
 unfold KProg at h
 rw [h, show m - k = (m - k - 1) + 1 by omega, w0_, hf]
theorem zfY_ {f : List UInt8 → Option Sh} {l : List UInt8} {b m k c dp : Nat} {ks : List (List UInt8)} {x : Sh} (h : KProg f l b m k c dp ks) (hk : k < m) (hf : f (l.drop (b + c)) = some x) :
  KProg f l b m (k + 1) (c + x.len) (max dp x.deep) (ks ++ [(l.drop (b + c)).take x.len]) := by
 unfold KProg at *
 rw [h, show m - k = (m - (k + 1)) + 1 by omega, w0_, hf]
 simp only [List.drop_drop]
 rw [Nat.add_assoc b c x.len]
 cases w0_ f (m - (k + 1)) (l.drop (b + (c + x.len))) with
 | none => rfl
 | some y =>
   obtain ⟨ks', dp', len'⟩ := y
   simp only [List.append_assoc, List.cons_append, List.nil_append, Option.some.injEq, Prod.mk.injEq, true_and]
   exact ⟨by omega, by omega⟩
theorem zeG_ {f : List UInt8 → Option Sh} {l : List UInt8} {b m c dp : Nat} {ks : List (List UInt8)} (h : KProg f l b m m c dp ks) : w0_ f m (l.drop b) = some (ks, dp, c) := by
 unfold KProg at h
 rw [h, Nat.sub_self, w0_]
 simp
/-! What the layer makes: a text and an error's number. -/
def rt (l : List UInt8) : Option Sh :=
 if l.length ≤ 16384 then (match rd 64 l with | some x => if x.len = l.length then some x else none | none => none) else none
def right (l : List UInt8) : Bool := (rt l).isSome
def made (l : List UInt8) : List UInt8 × Int := if right l = true then (l, 0) else ([], 3)
def j8_ (op : UInt8) (x : List UInt8) : List UInt8 × Int := if right x = true then made (op :: x) else ([], 10)
theorem zaa_ {l : List UInt8} (h : right l = true) : 1 ≤ l.length ∧ l.length ≤ 16384 := by
 unfold right rt at h
 split at h
 · refine ⟨?_, by assumption⟩
   cases l with
   | nil => simp [rd] at h
   | cons c r => simp
 · simp at h
theorem zfZ_ {f : List UInt8 → Option Sh} {d : Nat} (hf : ∀ l x, f l = some x → ShOk d l x) (l : List UInt8) : ∀ (m b : Nat) (ks : List (List UInt8)) (dp len : Nat),
  b ≤ l.length → w0_ f m (l.drop b) = some (ks, dp, len) → zbU_ l b ks
 | 0, b, ks, dp, len, hb, h => by
   simp only [w0_, Option.some.injEq, Prod.mk.injEq] at h
   obtain ⟨rfl, _, _⟩ := h
   trivial
 | m + 1, b, ks, dp, len, hb, h => by
   simp only [w0_] at h
   split at h
   · simp at h
   · rename_i x hx
     have h1 := hf _ _ hx
     unfold ShOk at h1
     rw [List.length_drop] at h1
     split at h
     · simp at h
     · rename_i ks' dp' len' hk
       rw [List.drop_drop] at hk
       simp only [Option.some.injEq, Prod.mk.injEq] at h
       obtain ⟨rfl, _, _⟩ := h
       have hl : ((l.drop b).take x.len).length = x.len := by rw [List.length_take, List.length_drop]; omega
       have h2 := zfZ_ hf l m (b + x.len) ks' dp' len' om_ hk
       refine ⟨by rw [hl], by rw [hl]; omega, ?_, by rw [hl]; exact h2⟩
       intro e
       rw [e] at hl
       simp at hl
       omega
theorem zcy_ {d : Nat} {l : List UInt8} {x : Sh} (h : rd d l = some x) :
  (x.op.toNat = 110 → x.text = [] ∧ x.kids = [] ∧ x.n ≤ 9223372036854775807) ∧
  (x.op.toNat = 116 → x.kids = [] ∧ x.n + 3 ≤ x.len ∧ x.text = (l.drop (x.len - x.n)).take x.n) ∧
  (x.op.toNat ≠ 110 → x.op.toNat ≠ 116 → x.text = [] ∧ zbU_ l (x.len - j2_ x.kids) x.kids ∧ j2_ x.kids + 1 ≤ x.len ∧ x.n = 0 ∧ x.kids.length ≤ 32) := by
 cases d with
 | zero => simp [rd] at h
 | succ d =>
   cases l with
   | nil => simp [rd] at h
   | cons c r =>
     simp only [rd, ← UInt8.toNat_inj, UInt8.reduceToNat] at h
     split at h
     · rename_i hc
       cases hn : num 59 r with
       | none => simp [hn] at h
       | some y =>
         have := zbD_ hn
         simp only [hn, Option.map_some, Option.some.injEq] at h
         subst h
         exact ⟨fun _ => ⟨rfl, rfl, this.2.2⟩, fun h => by simp only at h; omega, fun h => by simp only at h; omega⟩
     · split at h
       · rename_i hc0 hc
         split at h
         · simp at h
         · rename_i hn
           have := zbD_ hn
           split at h
           · simp at h
           · simp only [Option.some.injEq] at h
             subst h
             refine ⟨fun h => by simp only at h; omega, fun _ => ⟨rfl, by simp only; omega, ?_⟩, fun _ h => by simp only at h; omega⟩
             simp only [Nat.add_sub_cancel]
             rw [Nat.add_comm 1, List.drop_succ_cons]
       · rename_i hc0 hc1
         split at h
         · simp at h
         · rename_i m k hc
           have hcb := zcN_ hc
           split at h
           · simp at h
           · rename_i ks dp len hk
             have h2 := zcM_ (zay_ d) m _ _ _ _ hk
             rw [List.length_drop] at h2
             split at h
             · simp only [Option.some.injEq] at h
               subst h
               refine ⟨fun h => absurd h hc0, fun h => absurd h hc1, fun _ _ => ⟨rfl, ?_, by simp only; omega, rfl, by simp only; omega⟩⟩
               simp only
               rw [show 1 + k + len - j2_ ks = 1 + k by omega]
               exact zfZ_ (zay_ d) (c :: r) m (1 + k) ks dp len so_ (by rw [Nat.add_comm 1, List.drop_succ_cons]; exact hk)
             · simp at h
theorem zf0_ {l : List UInt8} : ∀ (ks : List (List UInt8)) (b j : Nat), zbU_ l b ks → j < ks.length →
  ∃ a e : Nat, (zan_ b ks)[j]? = some a ∧ (zan_ b ks)[j + 1]? = some e ∧ a ≤ e ∧ e ≤ l.length ∧ ks[j]? = some ((l.drop a).take (e - a))
 | [], _, _, _, hj => by simp at hj
 | k :: ks, b, 0, h, _ => by
   obtain ⟨h1, h2, _, _⟩ := h
   refine ⟨b, b + k.length, rfl, ?_, by omega, h2, ?_⟩
   · cases ks <;> rfl
   · rw [Nat.add_sub_cancel_left, ← h1]; rfl
 | k :: ks, b, j + 1, h, hj => by
   obtain ⟨a, e, h1, h2, h3⟩ := zf0_ ks (b + k.length) j h.2.2.2 (by simpa using hj)
   exact ⟨a, e, by simpa [zan_] using h1, by simpa [zan_] using h2, h3.1, h3.2.1, by simpa using h3.2.2⟩
end Go.Proofs.YtiplnofaejpeoaaGreatDoor
-- SpecC
namespace Go.Proofs.YtiplnofaejpeoaaGreatDoor
theorem zf1_ (e : UInt8) (m : List UInt8) : ∀ (l : List UInt8) (v k n c : Nat), q8_ e l v k = some (n, c) → q8_ e (l ++ m) v k = some (n, c)
 | [], v, k, n, c, h => by simp [q8_] at h
 | x :: r, v, k, n, c, h => by
   simp only [q8_, List.cons_append] at h ⊢
   split at h
   · rw [if_pos as_]; exact h
   · rw [if_neg as_]
     split at h
     · simp at h
     · rw [if_neg as_]
       split at h
       · simp at h
       · rw [if_neg as_]
         exact zf1_ e m r _ _ n c h
theorem zeH_ {e : UInt8} {l : List UInt8} {n c : Nat} (h : num e l = some (n, c)) (m : List UInt8) : num e (l ++ m) = some (n, c) := zf1_ e m l 0 0 n c h
theorem zf2_ (e : UInt8) : ∀ (l : List UInt8) (v k n c : Nat), q8_ e l v k = some (n, c) → ∀ j, c ≤ k + j → q8_ e (l.take j) v k = some (n, c)
 | [], v, k, n, c, h => by simp [q8_] at h
 | x :: r, v, k, n, c, h => fun j hj => by
   have hb := numGo_bound' e (x :: r) v k n c h
   cases j with
   | zero => omega
   | succ j =>
     simp only [q8_, List.take_succ_cons] at h ⊢
     split at h
     · rw [if_pos as_]; exact h
     · rw [if_neg as_]
       split at h
       · simp at h
       · rw [if_neg as_]
         split at h
         · simp at h
         · rw [if_neg as_]
           exact zf2_ e r _ _ n c h j om_
where
 numGo_bound' (e : UInt8) : ∀ (l : List UInt8) (v k n c : Nat), q8_ e l v k = some (n, c) → k + 1 ≤ c
  | [], v, k, n, c, h => by simp [q8_] at h
  | x :: r, v, k, n, c, h => by
    simp only [q8_] at h
    split at h
    · simp at h; omega
    · split at h
      · simp at h
      · split at h
        · simp at h
        · have := numGo_bound' e r _ _ n c h
          omega
theorem zeI_ {e : UInt8} {l : List UInt8} {n c : Nat} (h : num e l = some (n, c)) {j : Nat} (hj : c ≤ j) : num e (l.take j) = some (n, c) :=
 zf2_ e l 0 0 n c h j om_
theorem zf3_ {f : List UInt8 → Option Sh} {d : Nat} (hf : ∀ l x, f l = some x → ShOk d l x) (hc : ∀ l x j, f l = some x → x.len ≤ j → f (l.take j) = some x) :
  ∀ (m : Nat) (l : List UInt8) (ks : List (List UInt8)) (dp len j : Nat), w0_ f m l = some (ks, dp, len) → len ≤ j → w0_ f m (l.take j) = some (ks, dp, len)
 | 0, l, ks, dp, len, j, h, _ => by simpa [w0_] using h
 | m + 1, l, ks, dp, len, j, h, hj => by
   simp only [w0_] at h ⊢
   split at h
   · simp at h
   · rename_i x hx
     split at h
     · simp at h
     · rename_i ks' dp' len' hk
       simp only [Option.some.injEq, Prod.mk.injEq] at h
       obtain ⟨rfl, rfl, rfl⟩ := h
       rw [hc l x j hx om_]
       simp only
       rw [List.drop_take, zf3_ hf hc m (l.drop x.len) ks' dp' len' (j - x.len) hk om_]
       simp only
       rw [List.take_take, Nat.min_eq_left om_]
theorem ziK_ {c : UInt8} {r : List UInt8} {m k j : Nat} (h : cnt c r = some (m, k)) (hj : k ≤ j) : cnt c (r.take j) = some (m, k) := by
 simp only [cnt] at h ⊢
 split at h
 · rw [if_pos as_]
   cases hn : num 58 r with
   | none => simp [hn] at h
   | some y =>
     obtain ⟨n, k'⟩ := y
     simp only [hn] at h
     split at h
     · simp at h
     · simp only [Option.some.injEq, Prod.mk.injEq] at h
       obtain ⟨rfl, rfl⟩ := h
       rw [zeI_ hn hj]
       simp [*]
 · rw [if_neg as_]; exact h
theorem zf4_ : ∀ (d : Nat) (l : List UInt8) (x : Sh) (j : Nat), rd d l = some x → x.len ≤ j → rd d (l.take j) = some x
 | 0, _, _, _, h, _ => by simp [rd] at h
 | _ + 1, [], _, _, h, _ => by simp [rd] at h
 | d + 1, c :: r, x, j, h, hj => by
   have hok := zay_ _ _ _ h
   unfold ShOk at hok
   cases j with
   | zero => omega
   | succ j =>
     simp only [rd, List.take_succ_cons] at h ⊢
     split at h
     · rw [if_pos as_]
       cases hn : num 59 r with
       | none => simp [hn] at h
       | some y =>
         obtain ⟨n, k⟩ := y
         simp only [hn, Option.map_some, Option.some.injEq] at h
         subst h
         simp only at hj
         rw [zeI_ hn om_]; rfl
     · rw [if_neg as_]
       split at h
       · rw [if_pos as_]
         split at h
         · simp at h
         · rename_i n k hn
           have := zbD_ hn
           split at h
           · simp at h
           · simp only [Option.some.injEq] at h
             subst h
             simp only at hj
             rw [zeI_ hn om_]
             simp only
             rw [if_neg (by rw [List.length_take]; omega), List.drop_take, List.take_take, Nat.min_eq_left om_]
       · rw [if_neg as_]
         split at h
         · simp at h
         · rename_i m k hc
           split at h
           · simp at h
           · rename_i ks dp len hk
             split at h
             · rename_i hfit
               simp only [Option.some.injEq] at h
               subst h
               simp only at hj
               rw [ziK_ hc om_]
               simp only
               rw [List.drop_take, zf3_ (zay_ d) (zf4_ d) m _ ks dp len (j - k) hk om_]
               simp [hfit]
             · simp at h
theorem zf5_ : ∀ (d d' : Nat) (l : List UInt8) (x : Sh), d ≤ d' → rd d l = some x → rd d' l = some x
 | 0, _, _, _, _, h => by simp [rd] at h
 | _ + 1, 0, _, _, hd, _ => by omega
 | _ + 1, _ + 1, [], _, _, h => by simp [rd] at h
 | d + 1, d' + 1, c :: r, x, hd, h => by
   simp only [rd] at h ⊢
   split at h
   · rw [if_pos as_]; exact h
   · rw [if_neg as_]
     split at h
     · rw [if_pos as_]; exact h
     · rw [if_neg as_]
       split at h
       · simp at h
       · rename_i m k hc
         split at h
         · simp at h
         · rename_i ks dp len hk
           have : w0_ (rd d') m (r.drop k) = some (ks, dp, len) := kidsBy_mono (fun l x => zf5_ d d' l x om_) m _ _ _ _ hk
           rw [this]; exact h
where
 kidsBy_mono {f g : List UInt8 → Option Sh} (hfg : ∀ l x, f l = some x → g l = some x) : ∀ (m : Nat) (l : List UInt8) (ks : List (List UInt8)) (dp len : Nat),
   w0_ f m l = some (ks, dp, len) → w0_ g m l = some (ks, dp, len)
  | 0, _, _, _, _, h => by simpa [w0_] using h
  | m + 1, l, ks, dp, len, h => by
    simp only [w0_] at h ⊢
    split at h
    · simp at h
    · rename_i x hx
      split at h
      · simp at h
      · rename_i ks' dp' len' hk
        rw [hfg _ _ hx]
        simp only
        rw [kidsBy_mono hfg m _ _ _ _ hk]
        exact h
theorem zf6_ {f : List UInt8 → Option Sh} {d : Nat} (hf : ∀ l x, f l = some x → ShOk d l x) (hc : ∀ l x j, f l = some x → x.len ≤ j → f (l.take j) = some x) :
  ∀ (m : Nat) (l : List UInt8) (ks : List (List UInt8)) (dp len : Nat), w0_ f m l = some (ks, dp, len) → ∀ k ∈ ks, ∃ x, f k = some x ∧ x.len = k.length ∧ x.deep ≤ dp
 | 0, l, ks, dp, len, h => by
   simp only [w0_, Option.some.injEq, Prod.mk.injEq] at h
   obtain ⟨rfl, _, _⟩ := h
   simp
 | m + 1, l, ks, dp, len, h => by
   simp only [w0_] at h
   split at h
   · simp at h
   · rename_i x hx
     split at h
     · simp at h
     · rename_i ks' dp' len' hk
       simp only [Option.some.injEq, Prod.mk.injEq] at h
       obtain ⟨rfl, rfl, rfl⟩ := h
       have hx1 := hf _ _ hx
       unfold ShOk at hx1
       intro k hk'
       rcases List.mem_cons.1 hk' with rfl | hk'
       · exact ⟨x, hc l x _ hx (Nat.le_refl _), by rw [List.length_take]; omega, by omega⟩
       · obtain ⟨y, h1, h2, h3⟩ := zf6_ hf hc m _ _ _ _ hk k hk'
         exact ⟨y, h1, h2, by omega⟩
theorem zf7_ {l : List UInt8} {x : Sh} (h : rt l = some x) : ∀ k ∈ x.kids, right k = true ∧ k.length < l.length := by
 unfold rt at h
 split at h
 · rename_i hl
   split at h
   · rename_i y hy
     split at h
     · rename_i hlen
       simp only [Option.some.injEq] at h
       subst h
       intro k hk
       cases l with
       | nil => simp [rd] at hy
       | cons c r =>
         have hp := zcy_ hy
         simp only [rd] at hy
         split at hy
         · cases hn : num 59 r with
           | none => simp [hn] at hy
           | some z => simp only [hn, Option.map_some, Option.some.injEq] at hy; subst hy; simp at hk
         · split at hy
           · split at hy
             · simp at hy
             · split at hy
               · simp at hy
               · simp only [Option.some.injEq] at hy; subst hy; simp at hk
           · split at hy
             · simp at hy
             · split at hy
               · simp at hy
               · rename_i m kk hc ks dp len hkb
                 split at hy
                 · simp only [Option.some.injEq] at hy
                   subst hy
                   simp only at hk hlen
                   obtain ⟨z, hz, hzl, hzd⟩ := zf6_ (zay_ 63) (zf4_ 63) _ _ _ _ _ hkb k hk
                   have hb := zcM_ (zay_ 63) _ _ _ _ _ hkb
                   have hkl : k.length ≤ j2_ ks := mem_sumL k ks hk
                   have hlt : k.length < (c :: r).length := by omega
                   refine ⟨?_, hlt⟩
                   unfold right rt
                   rw [if_pos om_, zf5_ 63 64 k z om_ hz]
                   simp [hzl]
                 · simp at hy
     · simp at h
   · simp at h
 · simp at h
where
 mem_sumL (k : List UInt8) : ∀ (ks : List (List UInt8)), k ∈ ks → k.length ≤ j2_ ks
  | [], h => by simp at h
  | a :: ks, h => by
    simp only [j2_]
    rcases List.mem_cons.1 h with rfl | h
    · omega
    · have := mem_sumL k ks h; omega
/-! The public key of a term. -/
def keyF : Nat → List UInt8 → List UInt8
 | 0, x => 80 :: x
 | n + 1, x =>
   match rt x with
   | none => 80 :: x
   | some s =>
     if s.op.toNat = 86 then 87 :: (keyF n (s.kids.getD 0 []) ++ keyF n (s.kids.getD 1 []))
     else if s.op.toNat = 75 then 76 :: (keyF n (s.kids.getD 0 []) ++ s.kids.getD 1 [])
     else 80 :: x
def w8_ (x : List UInt8) : List UInt8 := keyF x.length x
theorem zbV_ {x : List UInt8} {s : Sh} (h : rt x = some s) (ho : s.op.toNat = 86 ∨ s.op.toNat = 75) : ∃ a b, s.kids = [a, b] ∧ a.length + b.length < x.length ∧ right a = true ∧ right b = true := by
 have hk := zf7_ h
 unfold rt at h
 split at h
 · split at h
   · rename_i y hy
     split at h
     · rename_i hlen
       simp only [Option.some.injEq] at h
       subst h
       cases x with
       | nil => simp [rd] at hy
       | cons c r =>
         simp only [rd, ← UInt8.toNat_inj, UInt8.reduceToNat] at hy
         split at hy
         · rename_i h0
           cases hn : num 59 r with
           | none => simp [hn] at hy
           | some z => simp only [hn, Option.map_some, Option.some.injEq] at hy; subst hy; simp only at ho; omega
         · split at hy
           · split at hy
             · simp at hy
             · split at hy
               · simp at hy
               · simp only [Option.some.injEq] at hy; subst hy; simp only at ho; omega
           · split at hy
             · simp at hy
             · rename_i m kk hc
               split at hy
               · simp at hy
               · rename_i ks dp len hkb
                 have hb := zcM_ (zay_ 63) _ _ _ _ _ hkb
                 split at hy
                 · simp only [Option.some.injEq] at hy
                   subst hy
                   simp only at ho hlen hk
                   simp only [cnt, arity, ← UInt8.toNat_inj, UInt8.reduceToNat] at hc
                   rw [if_neg om_, if_neg om_, if_pos om_] at hc
                   simp only [Option.map_some, Option.some.injEq, Prod.mk.injEq] at hc
                   obtain ⟨rfl, rfl⟩ := hc
                   match ks, hb, hk, hlen with
                   | [a, b], hb, hk, hlen =>
                     refine ⟨a, b, rfl, ?_, (hk a si_).1, (hk b si_).1⟩
                     have := hb.2.1
                     simp only [j2_] at this
                     omega
                   | [], hb, _, _ => simp at hb
                   | [_], hb, _, _ => simp at hb
                   | _ :: _ :: _ :: _, hb, _, _ => simp at hb
                 · simp at hy
     · simp at h
   · simp at h
 · simp at h
theorem zdN_ : ∀ (n : Nat) (x : List UInt8), 1 ≤ x.length → (keyF n x).length ≤ 2 * x.length
 | 0, x, h => by simp [keyF]; omega
 | n + 1, x, h => by
   simp only [keyF]
   split
   · simp; omega
   · rename_i s hs
     split
     · obtain ⟨a, b, hk, hl, ha, hb⟩ := zbV_ hs om_
       have h1 := zdN_ n a (zaa_ ha).1
       have h2 := zdN_ n b (zaa_ hb).1
       rw [hk]
       simp only [List.getD_cons_zero, List.getD_cons_succ, List.length_cons, List.length_append]
       omega
     · split
       · obtain ⟨a, b, hk, hl, ha, hb⟩ := zbV_ hs om_
         have h1 := zdN_ n a (zaa_ ha).1
         rw [hk]
         simp only [List.getD_cons_zero, List.getD_cons_succ, List.length_cons, List.length_append]
         omega
       · simp; omega
theorem zcO_ : ∀ (n m : Nat) (x : List UInt8), x.length ≤ n → x.length ≤ m → keyF n x = keyF m x
 | 0, 0, x, _, _ => rfl
 | 0, m + 1, x, h, _ => by
   have : x = [] := List.length_eq_zero_iff.1 om_
   subst this
   simp [keyF, rt, rd]
 | n + 1, 0, x, _, h => by
   have : x = [] := List.length_eq_zero_iff.1 om_
   subst this
   simp [keyF, rt, rd]
 | n + 1, m + 1, x, hn, hm => by
   simp only [keyF]
   split
   · rfl
   · rename_i s hs
     split
     · obtain ⟨a, b, hk, hl, ha, hb⟩ := zbV_ hs om_
       rw [hk]
       simp only [List.getD_cons_zero, List.getD_cons_succ]
       rw [zcO_ n m a om_ om_, zcO_ n m b om_ om_]
     · split
       · obtain ⟨a, b, hk, hl, ha, hb⟩ := zbV_ hs om_
         rw [hk]
         simp only [List.getD_cons_zero, List.getD_cons_succ]
         rw [zcO_ n m a om_ om_]
       · rfl
theorem zcP_ (x : List UInt8) : w8_ x = match rt x with
  | none => 80 :: x
  | some s =>
    if s.op.toNat = 86 then 87 :: (w8_ (s.kids.getD 0 []) ++ w8_ (s.kids.getD 1 []))
    else if s.op.toNat = 75 then 76 :: (w8_ (s.kids.getD 0 []) ++ s.kids.getD 1 [])
    else 80 :: x := by
 rw [w8_, zcO_ x.length (x.length + 1) x om_ om_]
 simp only [keyF]
 split
 · rfl
 · rename_i s hs
   split
   · obtain ⟨a, b, hk, hl, ha, hb⟩ := zbV_ hs om_
     rw [hk]
     simp only [List.getD_cons_zero, List.getD_cons_succ, w8_]
     rw [zcO_ x.length a.length a om_ om_, zcO_ x.length b.length b om_ om_]
   · split
     · obtain ⟨a, b, hk, hl, ha, hb⟩ := zbV_ hs om_
       rw [hk]
       simp only [List.getD_cons_zero, List.getD_cons_succ, w8_]
       rw [zcO_ x.length a.length a om_ om_]
     · rfl
theorem zcz_ {x : List UInt8} (h : 1 ≤ x.length) : (w8_ x).length ≤ 2 * x.length := zdN_ _ _ h
def cat (ls : List (List UInt8)) : List UInt8 := ls.flatten
theorem zf8_ : ∀ (ls : List (List UInt8)), ls.all right = true → (cat ls).length ≤ 16384 * ls.length
 | [], _ => by simp [cat]
 | x :: r, h => by
   simp only [List.all_cons, Bool.and_eq_true] at h
   have h1 := (zaa_ h.1).2
   have h2 := zf8_ r h.2
   simp only [cat] at h2
   simp only [cat, List.flatten_cons, List.length_append, List.length_cons]
   omega
theorem ziL_ (ls : List (List UInt8)) (k : Nat) (x : List UInt8) (h : ls[k]? = some x) : cat (ls.take (k + 1)) = cat (ls.take k) ++ x := by
 rw [List.take_add_one, h]; simp [cat]
theorem ziM_ (ls : List (List UInt8)) (k : Nat) (x : List UInt8) (h : ls[k]? = some x) (h1 : (ls.take k).all right = true) (h2 : right x = true) : (ls.take (k + 1)).all right = true := by
 rw [List.take_add_one, h, List.all_append, h1]; simp [h2]
theorem ziN_ (ls : List (List UInt8)) (k : Nat) (x : List UInt8) (h : ls[k]? = some x) (h2 : right x = false) : ls.all right = false := by
 rw [List.all_eq_false]
 exact ⟨x, List.mem_of_getElem? h, by simp [h2]⟩
end Go.Proofs.YtiplnofaejpeoaaGreatDoor
-- SpecD
namespace Go.Proofs.YtiplnofaejpeoaaGreatDoor
theorem zf9_ (d : Nat) (h : d < 10) : (UInt8.ofNat (48 + d)).toNat = 48 + d := by
 rw [UInt8.toNat_ofNat']; omega
theorem zga_ {f : List UInt8 → Option Sh} {d : Nat} (hf : ∀ l x, f l = some x → ShOk d l x) (he : ∀ l x r, f l = some x → f (l ++ r) = some x) :
  ∀ (m : Nat) (l r : List UInt8) (y : List (List UInt8) × Nat × Nat), w0_ f m l = some y → w0_ f m (l ++ r) = some y
 | 0, l, r, y, h => by simpa [w0_] using h
 | m + 1, l, r, y, h => by
   simp only [w0_] at h ⊢
   split at h
   · simp at h
   · rename_i x hx
     have hl := (hf _ _ hx).2.1
     split at h
     · simp at h
     · rename_i ks dp len hk
       rw [he _ _ r hx]
       simp only
       rw [List.drop_append_of_le_length hl, zga_ hf he m _ r _ hk]
       simp only
       rw [List.take_append_of_le_length hl]
       exact h
theorem ziO_ {c : UInt8} {r : List UInt8} {y : Nat × Nat} (h : cnt c r = some y) (m : List UInt8) : cnt c (r ++ m) = some y := by
 simp only [cnt] at h ⊢
 split at h
 · rw [if_pos as_]
   cases hn : num 58 r with
   | none => simp [hn] at h
   | some y =>
     obtain ⟨n, k⟩ := y
     rw [zeH_ hn]
     simpa [hn] using h
 · rw [if_neg as_]; exact h
theorem zdO_ : ∀ (d : Nat) (l : List UInt8) (x : Sh) (m : List UInt8), rd d l = some x → rd d (l ++ m) = some x
 | 0, _, _, _, h => by simp [rd] at h
 | _ + 1, [], _, _, h => by simp [rd] at h
 | d + 1, c :: r, x, m, h => by
   simp only [rd, List.cons_append] at h ⊢
   split at h
   · rw [if_pos as_]
     cases hn : num 59 r with
     | none => simp [hn] at h
     | some y => rw [zeH_ hn]; simpa [hn] using h
   · rw [if_neg as_]
     split at h
     · rw [if_pos as_]
       split at h
       · simp at h
       · rename_i n k hn
         have hb := zbD_ hn
         split at h
         · simp at h
         · rw [zeH_ hn]
           simp only
           rw [if_neg (by rw [List.length_append]; omega), List.drop_append_of_le_length om_, List.take_append_of_le_length (by rw [List.length_drop]; omega)]
           exact h
     · rw [if_neg as_]
       split at h
       · simp at h
       · rename_i n k hc
         have hb := zcN_ hc
         rw [ziO_ hc]
         simp only
         split at h
         · simp at h
         · rename_i ks dp len hk
           rw [List.drop_append_of_le_length hb.2, zga_ (zay_ d) (fun l x m => zdO_ d l x m) _ _ m _ hk]
           exact h
def RtD (d : Nat) (l : List UInt8) : Prop := ∃ x, rd d l = some x ∧ x.len = l.length
theorem zeJ_ {l : List UInt8} (h : right l = true) : RtD 64 l ∧ l.length ≤ 16384 := by
 unfold right rt at h
 split at h
 · split at h
   · rename_i x hx
     split at h
     · exact ⟨⟨x, hx, by assumption⟩, by assumption⟩
     · simp at h
   · simp at h
 · simp at h
end Go.Proofs.YtiplnofaejpeoaaGreatDoor
-- SpecE
namespace Go.Proofs.YtiplnofaejpeoaaGreatDoor
end Go.Proofs.YtiplnofaejpeoaaGreatDoor
-- SpecN
namespace Go.Proofs.YtiplnofaejpeoaaGreatDoor
open Go.Lib (parseUintM parseUintB parseIntB indexByte NumEnd)
theorem zds_ : ∀ (l : List UInt8) (e : UInt8), -1 ≤ indexByte l e
 | [], _ => by simp [indexByte]
 | b :: l, e => by
   have := zds_ l e
   simp only [indexByte]
   split
   · omega
   · split <;> omega
theorem zgb_ : ∀ (l : List UInt8) (e : UInt8), indexByte l e = -1 → ∀ x ∈ l, x ≠ e
 | [], _, _ => by simp
 | b :: l, e, h => by
   simp only [indexByte] at h
   split at h
   · omega
   · rename_i hb
     split at h
     · rename_i h1
       intro x hx
       rcases List.mem_cons.1 hx with rfl | hx
       · simpa using hb
       · exact zgb_ l e (by simpa using h1) x hx
     · rename_i h1
       have := zds_ l e
       simp at h1
       omega
theorem zgc_ : ∀ (l : List UInt8) (e : UInt8) (k : Nat), indexByte l e = k → ∃ p q, l = p ++ e :: q ∧ p.length = k ∧ ∀ x ∈ p, x ≠ e
 | [], _, _, h => by simp only [indexByte] at h; omega
 | b :: l, e, k, h => by
   simp only [indexByte] at h
   split at h
   · rename_i hb
     have hb' : b = e := by simpa using hb
     subst hb'
     exact ⟨[], l, rfl, by simp only [List.length_nil]; omega, by simp⟩
   · rename_i hb
     split at h
     · omega
     · rename_i h1
       have h2 := zds_ l e
       simp at h1
       obtain ⟨p, q, h3, h4, h5⟩ := zgc_ l e (k - 1) om_
       refine ⟨b :: p, q, by rw [h3]; rfl, by simp; omega, ?_⟩
       intro x hx
       rcases List.mem_cons.1 hx with rfl | hx
       · simpa using hb
       · exact h5 x hx
theorem ziP_ (l : List UInt8) (e : UInt8) : -1 ≤ indexByte l e := zds_ l e
theorem zeK_ (M : Nat) : ∀ (p : List UInt8) (acc u : Nat), parseUintM M acc p = .ok u → acc * 10 ^ p.length ≤ u
 | [], acc, u, h => by simp only [parseUintM, NumEnd.ok.injEq] at h; simp [h]
 | c :: r, acc, u, h => by
   simp only [parseUintM] at h
   split at h
   · split at h
     · simp at h
     · split at h
       · simp at h
       · have := zeK_ M r _ u h
         rw [List.length_cons, Nat.pow_succ]
         have h2 : acc * (10 ^ r.length * 10) = (acc * 10) * 10 ^ r.length := by rw [Nat.mul_comm (10 ^ r.length) 10, Nat.mul_assoc]
         rw [h2]
         exact Nat.le_trans (Nat.mul_le_mul_right _ om_) this
   · simp at h
def okN (k : Nat) : NumEnd Nat → Option (Nat × Nat)
 | .ok u => if u ≤ 9223372036854775807 then some (u, k) else none
 | _ => none
theorem zgd_ (e : UInt8) (he : e.toNat = 58 ∨ e.toNat = 59) (q : List UInt8) : ∀ (p : List UInt8) (m j : Nat), (∀ x ∈ p, x ≠ e) → 0 < m → m ≤ 9223372036854775807 → 0 < j →
  q8_ e (p ++ e :: q) m j = okN (j + p.length + 1) (parseUintM (2 ^ 64 - 1) m p)
 | [], m, j, _, hm, hm2, hj => by
   simp only [List.nil_append, q8_, parseUintM, okN]
   rw [if_pos (by simp [hj]), if_pos hm2]; rfl
 | c :: r, m, j, hp, hm, hm2, hj => by
   have hc : c.toNat ≠ e.toNat := fun h => hp c si_ (UInt8.toNat_inj.1 h)
   simp only [List.cons_append, q8_, parseUintM]
   rw [if_neg om_]
   by_cases hd : 48 ≤ c.toNat ∧ c.toNat ≤ 57
   · rw [if_neg om_, if_pos hd]
     by_cases hb : (9223372036854775807 - (c.toNat - 48)) / 10 < m
     · rw [if_pos hb]
       split
       · rfl
       · split
         · rfl
         · cases hr : parseUintM (2 ^ 64 - 1) (m * 10 + (c.toNat - 48)) r
           case ok u =>
            have h1 := zeK_ _ _ _ _ hr
            have h2 : 1 ≤ 10 ^ r.length := Nat.pow_pos om_
            have h3 : (m * 10 + (c.toNat - 48)) * 1 ≤ (m * 10 + (c.toNat - 48)) * 10 ^ r.length := Nat.mul_le_mul_left _ h2
            simp only [okN]
            rw [if_neg om_]
           all_goals rfl
     · rw [if_neg hb, if_neg om_, if_neg om_]
       rw [zgd_ e he q r _ _ (fun x hx => hp x (by simp [hx])) om_ om_ om_]
       simp only [List.length_cons]
       rw [show j + 1 + r.length + 1 = j + (r.length + 1) + 1 by omega]
   · rw [if_pos om_, if_neg hd]; rfl
def parsed (p : List UInt8) : Option Nat := match parseIntB 64 p with | .ok v => some v.toNat | _ => none
def zaY_ (p : List UInt8) : Option Nat :=
 if p.length < 1 ∨ 19 < p.length ∨ (head p).toNat = 48 ∧ 1 < p.length ∨ (head p).toNat < 48 ∨ 57 < (head p).toNat then none
 else match parseIntB 64 p with
  | .ok v => some v.toNat
  | _ => none
theorem ziQ_ (e : UInt8) (he : e.toNat = 58 ∨ e.toNat = 59) (p q : List UInt8) (hp : ∀ x ∈ p, x ≠ e) : num e (p ++ e :: q) = (zaY_ p).map fun n => (n, p.length + 1) := by
 unfold num
 cases p with
 | nil =>
   simp only [List.nil_append, q8_, zaY_]
   rw [if_neg om_, if_pos om_]
   simp
 | cons c r =>
   have hc : c.toNat ≠ e.toNat := fun h => hp c si_ (UInt8.toNat_inj.1 h)
   have hhd : head (c :: r) = c := rfl
   simp only [List.cons_append, q8_]
   rw [if_neg om_]
   by_cases hd : 48 ≤ c.toNat ∧ c.toNat ≤ 57
   · rw [if_neg om_, if_neg om_]
     have hpi : parseIntB 64 (c :: r) = match parseUintM (2 ^ 64 - 1) (c.toNat - 48) r with
       | .ok u => if 2 ^ 63 ≤ u then .range else .ok (u : Int)
       | .range => .range
       | _ => parseIntB 64 [] := by
      simp only [parseIntB]
      rw [if_neg om_]
      simp only [parseUintB, parseUintM]
      rw [if_neg si_, if_pos hd, if_neg om_, if_neg om_]
      simp only [Nat.zero_mul, Nat.zero_add]
      have h45 : ¬ c.toNat = 45 := by omega
      cases parseUintM (2 ^ 64 - 1) (c.toNat - 48) r
      case ok u => simp only [h45, not_false_eq_true, true_and, false_and, if_false]
      all_goals rfl
     by_cases h48 : c.toNat = 48
     · cases r with
       | nil =>
         simp only [List.nil_append, q8_]
         rw [if_pos si_]
         have : zaY_ [c] = some 0 := by
          unfold zaY_
          rw [hhd, if_neg so_, hpi]
          simp [parseUintM, h48]
         rw [this, h48]; rfl
       | cons c2 r2 =>
         have hc2 : c2.toNat ≠ e.toNat := fun h => hp c2 si_ (UInt8.toNat_inj.1 h)
         have : zaY_ (c :: c2 :: r2) = none := by
          unfold zaY_
          rw [hhd, if_pos so_]
         rw [this]
         simp only [List.cons_append, q8_]
         rw [if_neg om_, if_pos om_]; rfl
     · rw [Nat.zero_mul, Nat.zero_add, zgd_ e he q r _ _ (fun x hx => hp x (by simp [hx])) om_ om_ om_]
       by_cases hlen : 19 < (c :: r).length
       · have : zaY_ (c :: r) = none := by
          unfold zaY_
          rw [if_pos om_]
         rw [this]
         cases hr : parseUintM (2 ^ 64 - 1) (c.toNat - 48) r
         case ok u =>
          have h1 := zeK_ _ _ _ _ hr
          have h2 : 10 ^ 19 ≤ 10 ^ r.length := Nat.pow_le_pow_right om_ (by simp at hlen; omega)
          have h3 : 1 * 10 ^ 19 ≤ (c.toNat - 48) * 10 ^ r.length := Nat.mul_le_mul om_ h2
          simp only [okN]
          rw [if_neg om_]; rfl
         all_goals rfl
       · have : zaY_ (c :: r) = match parseIntB 64 (c :: r) with
           | .ok v => some v.toNat
           | _ => none := by
          unfold zaY_
          rw [hhd, if_neg (by simp at hlen ⊢; omega)]
         rw [this, hpi]
         cases hr : parseUintM (2 ^ 64 - 1) (c.toNat - 48) r
         case ok u =>
          simp only [okN]
          by_cases hu : u ≤ 9223372036854775807
          · rw [if_pos hu, if_neg om_]
            simp only [Option.map_some, Int.toNat_natCast, List.length_cons]
            rw [show 0 + 1 + r.length + 1 = r.length + 1 + 1 by omega]
          · rw [if_neg hu, if_pos om_]; rfl
         all_goals rfl
   · rw [if_pos om_]
     have : zaY_ (c :: r) = none := by
      unfold zaY_
      rw [hhd, if_pos om_]
     rw [this]; rfl
theorem zge_ (e : UInt8) : ∀ (l : List UInt8) (m j : Nat), (∀ x ∈ l, x ≠ e) → q8_ e l m j = none
 | [], _, _, _ => rfl
 | c :: r, m, j, h => by
   have hc : c.toNat ≠ e.toNat := fun h' => h c si_ (UInt8.toNat_inj.1 h')
   simp only [q8_]
   rw [if_neg om_]
   split
   · rfl
   · split
     · rfl
     · exact zge_ e r _ _ (fun x hx => h x (by simp [hx]))
end Go.Proofs.YtiplnofaejpeoaaGreatDoor
-- Share
namespace Go.Proofs.YtiplnofaejpeoaaGreatDoor
open Go.RowKit
theorem Tryz.infoTerm : (Tryz.prog.info? 22).map (fun i => (i.zero, i.size, i.bytes)) = some (some (.string ByteArray.empty), 1, 16) := by kernel_rfl
def q4_ (x : Sh) : Nat := if x.op.toNat = 110 then x.n else 0
def zgf_ (w : World) (o : Option Sh) (e : Ending) (w' : World) : Prop :=
 match o with
 | none => e = .returned (.tuple #[.agg #[.int .u8 0, .int .i64 0, .string (bs []), .slice none 0 0], .bool false]) ∧ Below w.heap.size w w'
 | some x => ∃ ad n cap, e = .returned (.tuple #[.agg #[.int .u8 x.op.toNat, .int .i64 (q4_ x), .string (bs x.text), .slice ad n cap], .bool true]) ∧
  w'.ownsRow w.heap.size 22 1 (.slice ad n cap) x.kids.length (x.kids.map fun k => .string (bs k)) ∧ Below w.heap.size w w'
theorem zaT_ {w : World} {base e n : Nat} {v : Value} {xs : List Value} (h : w.ownsRow base e 1 v n xs) (hn : 0 < n) :
  ∃ g cap, v = .slice (some ⟨g, 0, none⟩) n cap ∧ base ≤ g ∧ g < w.heap.size ∧ n ≤ cap ∧ cap ≤ maxLen ∧ ∀ j x, xs[j]? = some x → w.cell? ⟨g, j, none⟩ = some x := by
 obtain ⟨h0, h⟩ := h
 rcases h with ⟨_, h⟩ | ⟨g, cap, cur, rfl, hb, hg, hc, hc2, hs, ht⟩
 · omega
 · refine ⟨g, cap, rfl, hb, z0_ hg, hc, hc2, fun j x hj => ?_⟩
   rw [z2_ hg, ← Array.getElem?_toList]
   rw [← ht] at hj
   rw [List.getElem?_take] at hj
   split at hj
   · exact hj
   · simp at hj
theorem zgg_ (c : UInt8) : pubC c = decide (c.toNat = 80 ∨ c.toNat = 87 ∨ c.toNat = 76) := by
 unfold pubC
 rw [Bool.eq_iff_iff]
 simp [← UInt8.toNat_inj]
 omega
end Go.Proofs.YtiplnofaejpeoaaGreatDoor
-- SpecF
namespace Go.Proofs.YtiplnofaejpeoaaGreatDoor
open Go.RowKit
end Go.Proofs.YtiplnofaejpeoaaGreatDoor
-- SpecG
namespace Go.Proofs.YtiplnofaejpeoaaGreatDoor
def Q (d n : Nat) (l : List UInt8) : Prop := RtD d l ∧ l.length ≤ n
end Go.Proofs.YtiplnofaejpeoaaGreatDoor
-- SpecH
namespace Go.Proofs.YtiplnofaejpeoaaGreatDoor
theorem ziR_ {d : Nat} {l : List UInt8} {x : Sh} (h : rd d l = some x) :
  ((x.op.toNat = 110 ∨ x.op.toNat = 116) ∧ x.kids = []) ∨ (x.op.toNat ≠ 110 ∧ x.op.toNat ≠ 116 ∧ (∃ r k, cnt x.op r = some (x.kids.length, k)) ∧ q3_ x.op x.kids = true) := by
 cases d with
 | zero => simp [rd] at h
 | succ d =>
   cases l with
   | nil => simp [rd] at h
   | cons c r =>
     simp only [rd, ← UInt8.toNat_inj, UInt8.reduceToNat] at h
     split at h
     · rename_i hc
       cases hn : num 59 r with
       | none => simp [hn] at h
       | some y =>
         simp only [hn, Option.map_some, Option.some.injEq] at h
         subst h
         exact .inl ⟨.inl hc, rfl⟩
     · rename_i hc0
       split at h
       · rename_i hc
         split at h
         · simp at h
         · split at h
           · simp at h
           · simp only [Option.some.injEq] at h
             subst h
             exact .inl ⟨.inr hc, rfl⟩
       · rename_i hc1
         split at h
         · simp at h
         · rename_i m k hc
           split at h
           · simp at h
           · rename_i ks dp len hk
             have h2 := zcM_ (zay_ d) m _ _ _ _ hk
             split at h
             · rename_i hf
               simp only [Option.some.injEq] at h
               subst h
               exact .inr ⟨hc0, hc1, ⟨r, k, by rw [← h2.1] at hc; exact hc⟩, hf⟩
             · simp at h
theorem zdP_ {l : List UInt8} {x : Sh} (h : rt l = some x) : rd 64 l = some x ∧ x.len = l.length ∧ l.length ≤ 16384 := by
 unfold rt at h
 split at h
 · rename_i hl
   split at h
   · rename_i y hy
     split at h
     · rename_i hlen
       simp only [Option.some.injEq] at h
       subst h
       exact ⟨hy, hlen, hl⟩
     · simp at h
   · simp at h
 · simp at h
theorem ziS_ {c : UInt8} {r : List UInt8} {m k n : Nat} (h : cnt c r = some (m, k)) (ha : arity c = some n) : m = n := by
 simp only [cnt] at h
 split at h
 · rename_i hc
   subst hc
   simp [arity] at ha
 · rw [ha] at h
   simp at h
   exact h.1.symm
theorem ziT_ {l : List UInt8} {x : Sh} (h : rt l = some x) {n : Nat} (ha : arity x.op = some n) : x.kids.length = n := by
 have h1 := (zdP_ h).1
 rcases ziR_ h1 with ⟨h2, _⟩ | ⟨_, _, ⟨r, k, h2⟩, _⟩
 · simp only [arity, ← UInt8.toNat_inj, UInt8.reduceToNat] at ha
   split at ha
   · omega
   · split at ha
     · omega
     · simp at ha
 · exact ziS_ h2 ha
theorem zeL_ {l : List UInt8} {x : Sh} (h : rt l = some x) (ha : arity x.op = some 2) : ∃ a b, x.kids = [a, b] ∧ right a = true ∧ right b = true ∧ a.length < l.length ∧ b.length < l.length := by
 have h1 := ziT_ h ha
 have h2 := zf7_ h
 match x.kids, h1, h2 with
 | [a, b], _, h2 => exact ⟨a, b, rfl, (h2 a si_).1, (h2 b si_).1, (h2 a si_).2, (h2 b si_).2⟩
def k3_ (p m s : List UInt8) : Bool :=
 match rt s with
 | none => false
 | some x => x.op.toNat == 83 && x.kids.getD 1 [] == m && w8_ (x.kids.getD 0 []) == p
theorem ziU_ {a u b v : List UInt8} (ha : right a = true) (hu : right u = true) (h : a ++ b = u ++ v) : a = u ∧ b = v := by
 obtain ⟨⟨x, hx, hl⟩, _⟩ := zeJ_ ha
 obtain ⟨⟨y, hy, hm⟩, _⟩ := zeJ_ hu
 have h1 := zdO_ 64 a x b hx
 have h2 := zdO_ 64 u y v hy
 rw [h, h2] at h1
 obtain rfl := Option.some.inj h1
 exact List.append_inj h om_
theorem zgh_ {f : List UInt8 → Option Sh} : ∀ (n : Nat) (l : List UInt8) (ks : List (List UInt8)) (dp len : Nat), w0_ f n l = some (ks, dp, len) → cat ks = l.take len
 | 0, l, ks, dp, len, h => by
   simp only [w0_, Option.some.injEq, Prod.mk.injEq] at h
   obtain ⟨rfl, _, rfl⟩ := h
   simp [cat]
 | n + 1, l, ks, dp, len, h => by
   rw [w0_] at h
   cases hx : f l with
   | none => rw [hx] at h; cases h
   | some x =>
     rw [hx] at h
     simp only at h
     cases hk : w0_ f n (l.drop x.len) with
     | none => rw [hk] at h; cases h
     | some y =>
       obtain ⟨ks', dp', len'⟩ := y
       rw [hk] at h
       simp only [Option.some.injEq, Prod.mk.injEq] at h
       obtain ⟨rfl, _, rfl⟩ := h
       have := zgh_ n _ _ _ _ hk
       rw [show cat (l.take x.len :: ks') = l.take x.len ++ cat ks' from rfl, this, List.take_add]
theorem ziV_ {l : List UInt8} {x : Sh} {n : Nat} (h : rt l = some x) (ha : arity x.op = some n) : l = x.op :: cat x.kids := by
 have h1 := (zdP_ h).1
 have h2 := (zdP_ h).2
 cases l with
 | nil => simp [rd] at h1
 | cons c r =>
   have hop : x.op = c := (zay_ _ _ _ h1).2.2.2.2
   rw [hop] at ha
   have n1 : c ≠ 110 := by intro hc; subst hc; simp [arity] at ha
   have n2 : c ≠ 116 := by intro hc; subst hc; simp [arity] at ha
   have n3 : c ≠ 84 := by intro hc; subst hc; simp [arity] at ha
   rw [rd, if_neg n1, if_neg n2] at h1
   have hc : cnt c r = some (n, 0) := by unfold cnt; rw [if_neg n3, ha]; rfl
   rw [hc] at h1
   simp only at h1
   cases hk : w0_ (rd 63) n (r.drop 0) with
   | none => rw [hk] at h1; cases h1
   | some y =>
     obtain ⟨ks, dp, len⟩ := y
     rw [hk] at h1
     simp only at h1
     split at h1
     · simp only [Option.some.injEq] at h1
       subst h1
       have := zgh_ _ _ _ _ _ hk
       simp only [List.drop_zero] at this
       simp only [List.length_cons] at h2 ⊢
       rw [this, List.take_of_length_le om_]
     · cases h1
theorem ziW_ {a r : List UInt8} (h : w8_ a = 80 :: r) : a = r := by
 rw [zcP_] at h
 split at h
 · simpa using h
 · split at h
   · simp at h
   · split at h
     · simp at h
     · simpa using h
end Go.Proofs.YtiplnofaejpeoaaGreatDoor
