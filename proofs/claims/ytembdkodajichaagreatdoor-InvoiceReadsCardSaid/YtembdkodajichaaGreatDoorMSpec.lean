/- Byte texts as lists: 'bs l' is the Go string whose bytes are l; how the walk's operations read on such texts. The plain functions that the layer 'term' computes, on lists of bytes. No program stands in this text. Parts that lie one behind the other in a text; a row of parts read so far. Public keys of terms; parts of right terms are right. Terms that are written are right: digits, names, texts, terms side by side. No program stands in this text. The plain functions of the layers 'seed' and 'keys'. No program stands in this text. A number as the program reads it (up to a byte, by the library's ParseInt) is a number as the reference reads it. What the program's and the reference's layer term share. The document's answers about keys: public keys, a commitment's secret, its point, its set; rows of answers, each made only while none was refused. Whatever names two sides have: their secrets, public keys, a commitment's secret, its point, its set are made, and each side's secrets fit. No program stands in this text. The plain functions of the layer term that are left: two agree, a signature is one, a box is opened; how many parts a right term has. No program stands in this text. -/
import Derived.Test.YtembdkodajichaaGreatDoorRows
import Derived.WalkKit
import Derived.WalkSpells
import Derived.WalkLawsBesides
import Derived.Outline
import Derived.Lib.Hide
import Derived.Lib.ItoaNum
import Derived.Lib.ParseIntB
import Derived.Lib.Bytealg
import Derived.Deep.QuietTactic
import Derived.BigQuiet
import Derived.Deep.RegionLaw
import Derived.StillTailTactics
import Derived.Deep.AppendLies
import Derived.Deep.RegionHeld3
import Derived.Deep.DeepCutAuto
set_option linter.unusedSimpArgs false
set_option linter.unusedVariables false
-- Base
namespace Go.Proofs.YtembdkodajichaaGreatDoor
open Go.RowKit
theorem om_ {p : Prop} (h : p := by omega) : p := h
theorem si_ {p : Prop} (h : p := by simp) : p := h
theorem as_ {p : Prop} (h : p := by assumption) : p := h
theorem de_ {p : Prop} (h : p := by decide) : p := h
theorem rs_ {p : Prop} (h : p := by first | rfl | (simp; done)) : p := h
theorem so_ {p : Prop} (h : p := by simp; omega) : p := h
theorem sx_ {p : Prop} (h : p := by first | (simp; done) | (simp; omega)) : p := h
def bs (l : List UInt8) : ByteArray := ⟨l.toArray⟩
theorem zeY_ (l : List UInt8) : (⟨l.toArray⟩ : ByteArray) = bs l := rfl
theorem zkY_ : (ByteArray.empty) = bs [] := rfl
theorem zaL_ (l : List UInt8) : (bs l).size = l.length := by simp [bs, ByteArray.size]
theorem zed_ (l : List UInt8) : (bs l).toList = l := by
 rw [ByteArray.toList_eq]; simp [bs]
theorem za3_ (l : List UInt8) : (bs l).data.toList = l := by simp [bs]
theorem zkZ_ (a b : List UInt8) : bs a ++ bs b = bs (a ++ b) := by
 apply ByteArray.ext; simp [bs, ByteArray.data_append]
theorem zk0_ (l : List UInt8) (a b : Nat) : (bs l).extract a b = bs ((l.drop a).take (b - a)) := ByteArray.extract_mk l a b
theorem zk1_ (l : List UInt8) (i : Nat) (h : i < (bs l).size) : (bs l)[i] = l[i]'(by rw [zaL_] at h; exact h) := rfl
theorem zk2_ (a b : List UInt8) : (bs a = bs b) = (a = b) := by
 apply propext; constructor
 · intro h; have := congrArg (fun x => x.data.toList) h; simpa [bs] using this
 · rintro rfl; rfl
theorem zhM_ (s : ByteArray) : bs s.data.toList = s := by
 apply ByteArray.ext; simp [bs]
attribute [simp, go_sem] zeY_ zkY_ zaL_ zed_ za3_ zkZ_ zk0_ zk1_ zk2_
theorem bcell {W w1 : World} (hb : Below W.heap.size W w1) : (∀ b o, b < W.heap.size → w1.cell? ⟨b, o, none⟩ = W.cell? ⟨b, o, none⟩) ∧ (∀ b o, b < W.heap.size → w1.frozen? ⟨b, o, none⟩ = W.frozen? ⟨b, o, none⟩) :=
 ⟨fun b o h => hb.cell (p := ⟨b, o, none⟩) h, fun b o h => hb.frozen (p := ⟨b, o, none⟩) h⟩
theorem zk3_ {B : Nat} {w w1 w2 : World} (h2 : Below w1.heap.size w1 w2) (h1 : Below B w w1) (hB : B ≤ w.heap.size) : Below B w w2 :=
 h1.trans (h2.mono (Nat.le_trans hB h1.size))
theorem zk4_ {B : Nat} {w w1 : World} (h : Below B w w1) (hB : B ≤ w.heap.size) (o : Obj) : Below B w (w1.alloc o) := h.alloc (Nat.le_trans hB h.size) o
/-! A block known whole. -/
theorem z0_ {w : World} {B T : Nat} {cs : Array Value} {fz : Nat × Nat} (h : w.heap[B]? = some (.cells cs T fz)) (j : Nat) : w.cell? ⟨B, j, none⟩ = cs[j]? := by simp [World.cell?, h]
theorem z8_ {w : World} {B T : Nat} {cs : Array Value} (h : w.heap[B]? = some (.cells cs T (0, 0))) (j : Nat) : w.frozen? ⟨B, j, none⟩ = false := by simp [World.frozen?, h]
theorem z4_ {w : World} {B : Nat} {o : Obj} (h : w.heap[B]? = some o) : B < w.heap.size := (Array.getElem?_eq_some_iff.1 h).1
theorem x3_ {w : World} {B : Nat} {x : Obj} (h : w.heap[B]? = some x) (o : Obj) : (w.alloc o).heap[B]? = some x := by
 rw [Below.heap_alloc w o B (z4_ h)]; exact h
theorem y8_ (w : World) (o : Obj) : (w.alloc o).heap[w.heap.size]? = some o := by
 show (w.heap.push o)[w.heap.size]? = _
 simp
theorem z3_ {w : World} {B T : Nat} {cs : Array Value} {fz : Nat × Nat} (h : w.heap[B]? = some (.cells cs T fz)) (j : Nat) (v : Value) : (w.setCell ⟨B, j, none⟩ v).heap[B]? = some (.cells (cs.setIfInBounds j v) T fz) := by
 simp [World.setCell, Array.getElem?_modify, h]
theorem v0_ {w : World} {B : Nat} {x : Obj} (h : w.heap[B]? = some x) {p : Addr} (hp : B ≠ p.block) (v : Value) : (w.setCell p v).heap[B]? = some x := by
 rw [Below.heap_setCell w p v B hp]; exact h
theorem zee_ {w : World} {b j : Nat} {p : Addr} {v u : Value} (h : w.cell? ⟨b, j, none⟩ = some u) (hp : b ≠ p.block) : (w.setCell p v).cell? ⟨b, j, none⟩ = some u := by
 have e : (w.setCell p v).heap[b]? = w.heap[b]? := Below.heap_setCell w p v b hp
 simp only [World.cell?, e]; exact h
theorem za0_ {w : World} {B : Nat} {x : Obj} (h : w.heap[B]? = some x) (n : Nat) : (w.drewN n).heap[B]? = some x := h
theorem w1_ {w : World} {B : Nat} {x : Obj} (h : w.heap[B]? = some x) : w.drew.heap[B]? = some x := h
theorem x0_ {N : Nat} {w w1 : World} {B : Nat} {x : Obj} (h : w.heap[B]? = some x) (hb : Below N w w1) (hN : B < N) : w1.heap[B]? = some x := by
 rw [hb.block B hN]; exact h
theorem zaR_ {w w1 : World} {row : Option Nat} {B : Nat} {x : Obj} (h : w.heap[B]? = some x) (hg : w.grownBy w1 row) (hr : some B ≠ row) : w1.heap[B]? = some x := by
 rw [hg.block B (z4_ h) hr]; exact h
theorem zf5_ {W : World} {v : Value} {e n : Nat} (h : n = W.heap.size) : ∀ (j : Nat) (u : Value), [v][j]? = some u → (W.alloc (.cells #[v] e)).cell? ((⟨n, 0, none⟩ : Addr).add j) = some u := by
 subst h; exact cell_one_new _ _ _
theorem one1 {v : Value} (h : v.oneCell' = true) : ∀ u ∈ [v], u.oneCell' = true := by
 intro u hu; rw [List.mem_singleton] at hu; subst hu; exact h
theorem za4_ {w : World} {base e size n : Nat} {v : Value} {xs : List Value} (h : w.ownsRow base e size v n xs) : ∃ ad m c, v = .slice ad m c := by
 rcases h.2 with ⟨h, _⟩ | ⟨g, cap, _, h, _⟩ <;> exact ⟨_, _, _, h⟩
theorem zbS_ {w : World} {base e size n m c : Nat} {a : Option Addr} {xs : List Value} (h : w.ownsRow base e size (.slice a m c) n xs) : m = n := by
 rcases h.2 with ⟨h, h2⟩ | ⟨g, cap, _, h, _⟩
 · injection h with h3 h4 h5; omega
 · injection h
theorem v7_ {w : World} {base e size n : Nat} {v : Value} {xs : List Value} (h : w.ownsRow base e size v n xs) {B T : Nat} {cs : Array Value} {fz : Nat × Nat} (hB : w.heap[B]? = some (.cells cs T fz)) (hT : T ≠ e) : some B ≠ v.ownBlock := by
 obtain ⟨_, h⟩ := h
 rcases h with ⟨rfl, _⟩ | ⟨g, cap, cur, rfl, _, hg, _⟩
 · simp [Value.ownBlock]
 · simp only [Value.ownBlock]
   intro e
   simp only [Option.some.injEq] at e
   subst e
   rw [hB] at hg
   simp at hg
   exact hT hg.2.1
theorem zhN_ {w1 w4 : World} {B T j : Nat} {cs : Array Value} {fz : Nat × Nat} {v : Value} {X Y : Obj} {row : Option Nat} (h : w1.heap[B]? = some (.cells cs T fz))
  (hg : (((w1.setCell ⟨B, j, none⟩ v).alloc X).alloc Y).grownBy w4 row) (hr : some B ≠ row) : w4.heap[B]? = some (.cells (cs.setIfInBounds j v) T fz) :=
 zaR_ (x3_ (x3_ (z3_ h j v) X) Y) hg hr
theorem zk5_ {w : World} {base e size n : Nat} {v : Value} {xs : List Value} (h : w.ownsRow base e size v n xs) : ∀ g, v.ownBlock = some g → base ≤ g := by
 intro g hg
 rcases h.2 with ⟨rfl, _⟩ | ⟨g', cap, cur, rfl, h', _⟩
 · simp [Value.ownBlock] at hg
 · simp [Value.ownBlock] at hg; omega
theorem zk6_ {w : World} {b1 b2 e1 e2 s1 s2 n1 n2 : Nat} {v1 v2 : Value} {x1 x2 : List Value} (h1 : w.ownsRow b1 e1 s1 v1 n1 x1) (h2 : w.ownsRow b2 e2 s2 v2 n2 x2) (he : e1 ≠ e2) : v1.ownBlock ≠ v2.ownBlock ∨ v1.ownBlock = none := by
 rcases h1.2 with ⟨rfl, _⟩ | ⟨g, cap, cur, rfl, _, hg, _⟩
 · exact .inr rfl
 · refine .inl ?_
   have := v7_ h2 hg (by exact he)
   simpa [Value.ownBlock] using this
theorem zef_ {w w1 : World} {base e size n : Nat} {v : Value} {xs : List Value} (h : w.ownsRow base e size v n xs) (hk : ∀ g x, base ≤ g → w.heap[g]? = some x → some g = v.ownBlock → w1.heap[g]? = some x) : w1.ownsRow base e size v n xs := by
 obtain ⟨h0, h⟩ := h
 refine ⟨h0, ?_⟩
 rcases h with h | ⟨g, cap, cur, rfl, hb, hg, r⟩
 · exact Or.inl h
 · exact Or.inr ⟨g, cap, cur, rfl, hb, hk g _ hb hg rfl, r⟩
theorem zdu_ {N : Nat} {w w1 : World} {base e size n : Nat} {v : Value} {xs : List Value} (h : w.ownsRow base e size v n xs) (hb : Below N w w1) (hN : N = w.heap.size) : w1.ownsRow base e size v n xs :=
 zef_ h fun g x _ hg _ => x0_ hg hb (by rw [hN]; exact z4_ hg)
theorem zbT_ {w : World} {base e size n : Nat} {v : Value} {xs : List Value} (h : w.ownsRow base e size v n xs) (o : Obj) : (w.alloc o).ownsRow base e size v n xs :=
 zef_ h fun _ _ _ hg _ => x3_ hg o
theorem v3_ {w : World} {base e size n : Nat} {v : Value} {xs : List Value} (h : w.ownsRow base e size v n xs) {p : Addr} (hp : some p.block ≠ v.ownBlock) (u : Value) : (w.setCell p u).ownsRow base e size v n xs :=
 zef_ h fun _ _ _ hg e => v0_ hg (fun e' => hp (by rw [← e', e])) u
theorem zdv_ {w : World} {base b2 e size n : Nat} {v : Value} {xs : List Value} (h : w.ownsRow base e size v n xs) (hb : b2 ≤ base) : w.ownsRow b2 e size v n xs := by
 obtain ⟨h0, h⟩ := h
 refine ⟨h0, ?_⟩
 rcases h with h | ⟨g, cap, cur, hv, hg, r⟩
 · exact Or.inl h
 · exact Or.inr ⟨g, cap, cur, hv, Nat.le_trans hb hg, r⟩
/-! What has grown, but for one row. -/
theorem zcG_ (w : World) (row : Option Nat) : w.grownBy w row := ⟨rfl, rfl, rfl, Nat.le_refl _, fun _ _ _ => rfl⟩
theorem zbU_ {w w1 w2 : World} {row : Option Nat} (h : w.grownBy w1 row) (h2 : w1.grownBy w2 row) : w.grownBy w2 row :=
 ⟨h2.os.trans h.os, h2.tape.trans h.tape, h2.output.trans h.output, Nat.le_trans h.size h2.size, fun k hk hr => (h2.block k (Nat.lt_of_lt_of_le hk h.size) hr).trans (h.block k hk hr)⟩
theorem zcH_ {w w1 : World} {row : Option Nat} (h : w.grownBy w1 row) (n : Nat) : w.grownBy (w1.drewN n) row :=
 zbU_ h ⟨rfl, rfl, rfl, Nat.le_refl _, fun _ _ _ => rfl⟩
theorem zcI_ {w w1 : World} {row : Option Nat} (h : w.grownBy w1 row) : w.grownBy w1.drew row :=
 zbU_ h ⟨rfl, rfl, rfl, Nat.le_refl _, fun _ _ _ => rfl⟩
theorem zcJ_ {w w1 : World} {row : Option Nat} (h : w.grownBy w1 row) (o : Obj) : w.grownBy (w1.alloc o) row :=
 zbU_ h ⟨rfl, rfl, rfl, by simp, fun k hk _ => Below.heap_alloc _ _ _ hk⟩
theorem za5_ {w w1 : World} {row : Option Nat} (h : w.grownBy w1 row) {p : Addr} (hp : some p.block = row ∨ w.heap.size ≤ p.block) (v : Value) : w.grownBy (w1.setCell p v) row :=
 ⟨h.os, h.tape, h.output, by simpa [World.setCell] using h.size, fun k hk hr => by
   rw [Below.heap_setCell _ _ _ _ (by rintro rfl; rcases hp with hp | hp; exact hr hp; omega)]; exact h.block k hk hr⟩
theorem zcK_ {w w1 w2 : World} {row : Option Nat} (h : w.grownBy w1 row) (hb : Below w1.heap.size w1 w2) : w.grownBy w2 row :=
 zbU_ h ⟨hb.os, hb.tape, hb.output, hb.size, fun k hk _ => hb.block k hk⟩
/-! What has grown, but for some rows. -/
structure GL (rs : List Nat) (w w' : World) : Prop where
 os : w'.os = w.os
 tape : w'.tape = w.tape
 output : w'.output = w.output
 size : w.heap.size ≤ w'.heap.size
 block : ∀ k, k < w.heap.size → k ∉ rs → w'.heap[k]? = w.heap[k]?
theorem y1_ (rs : List Nat) (w : World) : GL rs w w := ⟨rfl, rfl, rfl, Nat.le_refl _, fun _ _ _ => rfl⟩
theorem y7_ {rs rs' : List Nat} {w w1 w2 : World} (h2 : GL rs' w1 w2) (h : GL rs w w1) (hr : ∀ r ∈ rs', r ∈ rs ∨ w.heap.size ≤ r) : GL rs w w2 :=
 ⟨h2.os.trans h.os, h2.tape.trans h.tape, h2.output.trans h.output, Nat.le_trans h.size h2.size, fun k hk hn =>
   (h2.block k (Nat.lt_of_lt_of_le hk h.size) (fun hm => by rcases hr k hm with h' | h'; exact hn h'; omega)).trans (h.block k hk hn)⟩
theorem zeZ_ {rs : List Nat} {w w1 : World} (h : GL rs w w1) (n : Nat) : GL rs w (w1.drewN n) := ⟨h.os, h.tape, h.output, h.size, h.block⟩
theorem x9_ {rs : List Nat} {w w1 : World} (h : GL rs w w1) : GL rs w w1.drew := ⟨h.os, h.tape, h.output, h.size, h.block⟩
theorem y2_ {rs : List Nat} {w w1 : World} (h : GL rs w w1) (o : Obj) : GL rs w (w1.alloc o) :=
 ⟨h.os, h.tape, h.output, Nat.le_trans h.size si_, fun k hk hn => (Below.heap_alloc _ _ _ (Nat.lt_of_lt_of_le hk h.size)).trans (h.block k hk hn)⟩
theorem z2_ {rs : List Nat} {w w1 : World} (h : GL rs w w1) {p : Addr} (hp : p.block ∈ rs ∨ w.heap.size ≤ p.block) (v : Value) : GL rs w (w1.setCell p v) :=
 ⟨h.os, h.tape, h.output, by simpa [World.setCell] using h.size, fun k hk hn => by
   rw [Below.heap_setCell _ _ _ _ (by rintro rfl; rcases hp with hp | hp; exact hn hp; omega)]; exact h.block k hk hn⟩
theorem zk7_ {rs : List Nat} {w w1 : World} {p : Addr} (hp : w.heap.size ≤ p.block) (h : GL rs w w1) (v : Value) : GL rs w (w1.setCell p v) := z2_ h (.inr hp) v
theorem zk8_ {rs : List Nat} {w w1 : World} {p : Addr} (hp : p.block ∈ rs) (h : GL rs w w1) (v : Value) : GL rs w (w1.setCell p v) := z2_ h (.inl hp) v
theorem y6_ {rs : List Nat} {w w1 w2 : World} (hb : Below w1.heap.size w1 w2) (h : GL rs w w1) : GL rs w w2 :=
 ⟨hb.os.trans h.os, hb.tape.trans h.tape, hb.output.trans h.output, Nat.le_trans h.size hb.size, fun k hk hn => (hb.block k (Nat.lt_of_lt_of_le hk h.size)).trans (h.block k hk hn)⟩
theorem zcu_ {rs : List Nat} {w w1 w2 : World} {row : Option Nat} (hb : w1.grownBy w2 row) (h : GL rs w w1) (hr : ∀ r, row = some r → r ∈ rs ∨ w.heap.size ≤ r) : GL rs w w2 :=
 ⟨hb.os.trans h.os, hb.tape.trans h.tape, hb.output.trans h.output, Nat.le_trans h.size hb.size, fun k hk hn =>
   (hb.block k (Nat.lt_of_lt_of_le hk h.size) (fun e => by rcases hr k e.symm with h' | h'; exact hn h'; omega)).trans (h.block k hk hn)⟩
theorem zk9_ {B : Nat} {a w : World} (h : Below B a w) (n : Nat) : Below B a (w.drewN n) := h.trans ⟨rfl, rfl, rfl, Nat.le_refl _, fun _ _ => rfl⟩
theorem bl_ {B : Nat} {w w1 : World} (h : Below B w w1 := by (repeat' (first | with_reducible exact Below.refl _ _ | with_reducible assumption | with_reducible refine zk4_ ?_ ?_ _ | with_reducible refine Below.setCell ?_ ?_ _ | with_reducible refine Below.drew ?_ | with_reducible refine zk9_ ?_ _ | with_reducible refine zk3_ (by assumption) ?_ ?_ | (with_reducible refine Below.trans ?_ (Below.mono (by assumption) ?_)) | exact Nat.le_refl _ | (simp; done) | (simp; omega) | omega))) : Below B w w1 := h
theorem gl_ {rs : List Nat} {w w1 : World} (h : GL rs w w1 := by (repeat' (first | with_reducible exact y1_ _ _ | with_reducible assumption | with_reducible refine y2_ ?_ _ | with_reducible refine zeZ_ ?_ _ | with_reducible refine x9_ ?_ | (with_reducible refine zk7_ ?_ ?_ _; · (first | exact Nat.le_refl _ | (simp; done) | (simp; omega) | omega)) | (with_reducible refine zk8_ ?_ ?_ _; · (simp; done)) | with_reducible refine y6_ (by with_reducible assumption) ?_ | with_reducible refine y7_ (by with_reducible assumption) ?_ (by first | (simp; done) | (simp; omega)) | with_reducible refine zcu_ (by with_reducible assumption) ?_ (by first | (simp; done) | (simp; omega))))) : GL rs w w1 := h
theorem y0_ {w w1 : World} (h : GL [] w w1) : Below w.heap.size w w1 := ⟨h.os, h.tape, h.output, h.size, fun k hk => h.block k hk si_⟩
theorem x6_ {rs : List Nat} {w w1 : World} {B : Nat} {x : Obj} (h : w.heap[B]? = some x) (hg : GL rs w w1) (hr : B ∉ rs) : w1.heap[B]? = some x := by
 rw [hg.block B (z4_ h) hr]; exact h
theorem zhO_ {rs : List Nat} {w w1 : World} {base e size n : Nat} {v : Value} {xs : List Value} (h : w.ownsRow base e size v n xs) (hg : GL rs w w1) (hr : ∀ r ∈ rs, v.ownBlock ≠ some r) : w1.ownsRow base e size v n xs :=
 zef_ h fun g _ _ hx he => x6_ hx hg (fun hm => hr g hm he.symm)
end Go.Proofs.YtembdkodajichaaGreatDoor
-- Spec
namespace Go.Proofs.YtembdkodajichaaGreatDoor
def k0_ (e : UInt8) : List UInt8 → Nat → Nat → Option (Nat × Nat)
 | [], _, _ => none
 | c :: r, n, k =>
   if c.toNat = e.toNat ∧ 0 < k then some (n, k + 1)
   else if c.toNat < 48 ∨ 57 < c.toNat ∨ (n = 0 ∧ 0 < k) then none
   else if (9223372036854775807 - (c.toNat - 48)) / 10 < n then none
   else k0_ e r (n * 10 + (c.toNat - 48)) (k + 1)
def num (e : UInt8) (l : List UInt8) : Option (Nat × Nat) := k0_ e l 0 0
structure Sh where
 op : UInt8
 len : Nat
 deep : Nat
 n : Nat
 text : List UInt8
 kids : List (List UInt8)
def arity (c : UInt8) : Option Nat :=
 if c = 80 ∨ c = 72 then some 1
 else if c = 83 ∨ c = 66 ∨ c = 88 ∨ c = 68 ∨ c = 86 ∨ c = 87 ∨ c = 75 ∨ c = 76 then some 2 else none
def pubC (c : UInt8) : Bool := c == 80 || c == 87 || c == 76
def leB (a b : List UInt8) : Bool := Op.bytesLess a b || a == b
def head (l : List UInt8) : UInt8 := l.headD 0
def v1_ (c : UInt8) (ks : List (List UInt8)) : Bool :=
 if c = 80 then head (ks.getD 0 []) != 86 && head (ks.getD 0 []) != 75
 else if c = 88 then leB (ks.getD 0 []) (ks.getD 1 [])
 else if c = 87 then pubC (head (ks.getD 0 [])) && pubC (head (ks.getD 1 []))
 else if c = 76 then pubC (head (ks.getD 0 []))
 else true
def w6_ (f : List UInt8 → Option Sh) : Nat → List UInt8 → Option (List (List UInt8) × Nat × Nat)
 | 0, _ => some ([], 0, 0)
 | m + 1, l =>
   match f l with
   | none => none
   | some x =>
     match w6_ f m (l.drop x.len) with
     | none => none
     | some (ks, dp, len) => some (l.take x.len :: ks, max x.deep dp, x.len + len)
def cnt (c : UInt8) (r : List UInt8) : Option (Nat × Nat) :=
 if c = 84 then (match num 58 r with | none => none | some (n, k) => if 32 < n then none else some (n, k))
 else (arity c).map fun n => (n, 0)
def rd : Nat → List UInt8 → Option Sh
 | 0, _ => none
 | _ + 1, [] => none
 | d + 1, c :: r =>
   if c = 110 then (num 59 r).map fun (n, k) => ⟨c, 1 + k, 1, n, [], []⟩
   else if c = 116 then
    match num 58 r with
    | none => none
    | some (n, k) => if 4096 < n ∨ r.length - k < n then none else some ⟨c, 1 + k + n, 1, n, (r.drop k).take n, []⟩
   else
    match cnt c r with
    | none => none
    | some (m, k) =>
      match w6_ (rd d) m (r.drop k) with
      | none => none
      | some (ks, dp, len) => if v1_ c ks then some ⟨c, 1 + k + len, dp + 1, 0, [], ks⟩ else none
theorem zf7_ (e : UInt8) : ∀ (l : List UInt8) (m k n c : Nat), m ≤ 9223372036854775807 → k0_ e l m k = some (n, c) → k + 1 ≤ c ∧ c ≤ k + l.length ∧ n ≤ 9223372036854775807
 | [], m, k, n, c, _, h => by simp [k0_] at h
 | x :: r, m, k, n, c, hm, h => by
   have hx := x.toNat_lt
   simp only [k0_] at h
   split at h
   · simp only [Option.some.injEq, Prod.mk.injEq] at h
     obtain ⟨rfl, rfl⟩ := h
     simp; omega
   · split at h
     · simp at h
     · split at h
       · simp at h
       · have := zf7_ e r _ _ n c om_ h
         simp; omega
theorem zcl_ {e : UInt8} {l : List UInt8} {n c : Nat} (h : num e l = some (n, c)) : 2 ≤ c ∧ c ≤ l.length ∧ n ≤ 9223372036854775807 := by
 have h1 := zf7_ e l 0 0 n c om_ h
 refine ⟨?_, by omega, h1.2.2⟩
 cases l with
 | nil => simp [num, k0_] at h
 | cons x r =>
   simp only [num, k0_] at h
   split at h
   · omega
   · split at h
     · simp at h
     · split at h
       · simp at h
       · have := zf7_ e r _ _ n c (by have := x.toNat_lt; omega) h
         omega
theorem zla_ (k : Nat) : ∀ n : Nat, n < 10 ^ (k + 1) → (Lib.decDigits n).length ≤ k + 1 := by
 induction k with
 | zero => intro n h; rw [Lib.decDigits_length, Lib.nDigits_small (by simpa using h)]; omega
 | succ k ih =>
   intro n h
   by_cases h1 : n < 10
   · rw [Lib.decDigits_length, Lib.nDigits_small h1]; omega
   · have := ih (n / 10) (by rw [Nat.pow_succ] at h; omega)
     rw [Lib.decDigits_length] at *
     rw [Lib.nDigits_big h1]; omega
theorem zba_ (n : Nat) (h : n ≤ 18446744073709551615) : (Lib.decDigits n).length ≤ 20 := zla_ 19 n (by
 have : (10 : Nat) ^ (19 + 1) = 100000000000000000000 := by decide
 omega)
theorem zf8_ (n : Nat) : 1 ≤ (Lib.decDigits n).length := by rw [Lib.decDigits_length]; exact Lib.nDigits_pos n
/-! What was read lies within the text. -/
def j8_ : List (List UInt8) → Nat
 | [] => 0
 | k :: ks => k.length + j8_ ks
def ShOk (d : Nat) (l : List UInt8) (x : Sh) : Prop := 1 ≤ x.len ∧ x.len ≤ l.length ∧ 1 ≤ x.deep ∧ x.deep ≤ d ∧ x.op = head l
theorem zdw_ {f : List UInt8 → Option Sh} {d : Nat} (hf : ∀ l x, f l = some x → ShOk d l x) : ∀ (m : Nat) (l : List UInt8) (ks : List (List UInt8)) (dp len : Nat),
  w6_ f m l = some (ks, dp, len) → ks.length = m ∧ len = j8_ ks ∧ len ≤ l.length ∧ dp ≤ d ∧ (∀ k ∈ ks, k ≠ [])
 | 0, l, ks, dp, len, h => by
   simp only [w6_, Option.some.injEq, Prod.mk.injEq] at h
   obtain ⟨rfl, rfl, rfl⟩ := h
   simp [j8_]
 | m + 1, l, ks, dp, len, h => by
   simp only [w6_] at h
   split at h
   · simp at h
   · rename_i x hx
     have h1 := hf _ _ hx
     unfold ShOk at h1
     split at h
     · simp at h
     · rename_i ks' dp' len' hk
       have h2 := zdw_ hf m _ _ _ _ hk
       simp only [Option.some.injEq, Prod.mk.injEq] at h
       obtain ⟨rfl, rfl, rfl⟩ := h
       rw [List.length_drop] at h2
       refine ⟨by simp [h2.1], ?_, by omega, Nat.max_le.2 ⟨by omega, by omega⟩, ?_⟩
       · simp only [j8_, List.length_take]; omega
       · intro k hk
         rcases List.mem_cons.1 hk with rfl | hk
         · intro e; have h3 := congrArg List.length e; rw [List.length_take, List.length_nil] at h3; omega
         · exact h2.2.2.2.2 k hk
theorem zdx_ {c : UInt8} {r : List UInt8} {m k : Nat} (h : cnt c r = some (m, k)) : m ≤ 32 ∧ k ≤ r.length := by
 simp only [cnt] at h
 split at h
 · split at h
   · simp at h
   · rename_i hn
     have := zcl_ hn
     split at h
     · simp at h
     · simp at h; omega
 · simp only [arity] at h
   split at h
   · simp at h; omega
   · split at h
     · simp at h; omega
     · simp at h
theorem za6_ : ∀ (d : Nat) (l : List UInt8) (x : Sh), rd d l = some x → ShOk d l x
 | 0, _, _, h => by simp [rd] at h
 | _ + 1, [], _, h => by simp [rd] at h
 | d + 1, c :: r, x, h => by
   unfold ShOk
   simp only [rd] at h
   split at h
   · cases hn : num 59 r with
     | none => simp [hn] at h
     | some y =>
       have := zcl_ hn
       simp only [hn, Option.map_some, Option.some.injEq] at h
       subst h
       simp [head]; omega
   · split at h
     · split at h
       · simp at h
       · rename_i hn
         have := zcl_ hn
         split at h
         · simp at h
         · simp only [Option.some.injEq] at h
           subst h
           simp [head]; omega
     · split at h
       · simp at h
       · rename_i m k hc
         have hcb := zdx_ hc
         split at h
         · simp at h
         · rename_i ks dp len hk
           have h2 := zdw_ (za6_ d) m _ _ _ _ hk
           rw [List.length_drop] at h2
           split at h
           · simp only [Option.some.injEq] at h
             subst h
             simp [head]; omega
           · simp at h
end Go.Proofs.YtembdkodajichaaGreatDoor
-- SpecB
namespace Go.Proofs.YtembdkodajichaaGreatDoor
def zaD_ (b : Nat) : List (List UInt8) → List Nat
 | [] => [b]
 | k :: ks => b :: zaD_ (b + k.length) ks
def zcv_ (l : List UInt8) : Nat → List (List UInt8) → Prop
 | _, [] => True
 | b, k :: ks => k = (l.drop b).take k.length ∧ b + k.length ≤ l.length ∧ k ≠ [] ∧ zcv_ l (b + k.length) ks
theorem zf9_ (ks : List (List UInt8)) : ∀ b, (zaD_ b ks).length = ks.length + 1 := by
 induction ks with
 | nil => intro b; rfl
 | cons k ks ih => intro b; simp [zaD_, ih]
theorem zlb_ (k : List UInt8) (ks : List (List UInt8)) : ∀ b, zaD_ b (ks ++ [k]) = zaD_ b ks ++ [b + j8_ ks + k.length] := by
 induction ks with
 | nil => intro b; simp [zaD_, j8_]
 | cons x ks ih => intro b; simp [zaD_, j8_, ih, Nat.add_assoc]
theorem zlc_ (k : List UInt8) (ks : List (List UInt8)) : j8_ (ks ++ [k]) = j8_ ks + k.length := by
 induction ks with
 | nil => simp [j8_]
 | cons x ks ih => simp [j8_, ih, Nat.add_assoc]
theorem zld_ {l : List UInt8} {k : List UInt8} (ks : List (List UInt8)) : ∀ b, zcv_ l b ks → k = (l.drop (b + j8_ ks)).take k.length → b + j8_ ks + k.length ≤ l.length → k ≠ [] → zcv_ l b (ks ++ [k]) := by
 induction ks with
 | nil => intro b _ h1 h2 h3; simpa [zcv_, j8_] using ⟨by simpa [j8_] using h1, by simpa [j8_] using h2, h3⟩
 | cons x ks ih =>
   intro b h h1 h2 h3
   simp only [j8_] at h1 h2
   rw [← Nat.add_assoc] at h1 h2
   exact ⟨h.1, h.2.1, h.2.2.1, ih _ h.2.2.2 h1 h2 h3⟩
def KProg (f : List UInt8 → Option Sh) (l : List UInt8) (b m k c dp : Nat) (ks : List (List UInt8)) : Prop :=
 w6_ f m (l.drop b) = match w6_ f (m - k) (l.drop (b + c)) with
  | none => none
  | some (ks', dp', len') => some (ks ++ ks', max dp dp', c + len')
theorem zhP_ (f : List UInt8 → Option Sh) (l : List UInt8) (b m : Nat) : KProg f l b m 0 0 0 [] := by
 unfold KProg
 rw [Nat.sub_zero, Nat.add_zero]
 cases w6_ f m (l.drop b) with
 | none => rfl
 | some x => obtain ⟨ks, dp, len⟩ := x; simp
theorem zga_ {f : List UInt8 → Option Sh} {l : List UInt8} {b m k c dp : Nat} {ks : List (List UInt8)} (h : KProg f l b m k c dp ks) (hk : k < m) (hf : f (l.drop (b + c)) = none) : w6_ f m (l.drop b) = none := by
 unfold KProg at h
 rw [h, show m - k = (m - k - 1) + 1 by omega, w6_, hf]
theorem zhQ_ {f : List UInt8 → Option Sh} {l : List UInt8} {b m k c dp : Nat} {ks : List (List UInt8)} {x : Sh} (h : KProg f l b m k c dp ks) (hk : k < m) (hf : f (l.drop (b + c)) = some x) :
  KProg f l b m (k + 1) (c + x.len) (max dp x.deep) (ks ++ [(l.drop (b + c)).take x.len]) := by
 unfold KProg at *
 rw [h, show m - k = (m - (k + 1)) + 1 by omega, w6_, hf]
 simp only [List.drop_drop]
 rw [Nat.add_assoc b c x.len]
 cases w6_ f (m - (k + 1)) (l.drop (b + (c + x.len))) with
 | none => rfl
 | some y =>
   obtain ⟨ks', dp', len'⟩ := y
   simp only [List.append_assoc, List.cons_append, List.nil_append, Option.some.injEq, Prod.mk.injEq, true_and]
   exact ⟨by omega, by omega⟩
theorem zgb_ {f : List UInt8 → Option Sh} {l : List UInt8} {b m c dp : Nat} {ks : List (List UInt8)} (h : KProg f l b m m c dp ks) : w6_ f m (l.drop b) = some (ks, dp, c) := by
 unfold KProg at h
 rw [h, Nat.sub_self, w6_]
 simp
/-! What the layer makes: a text and an error's number. -/
def rt (l : List UInt8) : Option Sh :=
 if l.length ≤ 16384 then (match rd 64 l with | some x => if x.len = l.length then some x else none | none => none) else none
def right (l : List UInt8) : Bool := (rt l).isSome
def made (l : List UInt8) : List UInt8 × Int := if right l = true then (l, 0) else ([], 3)
def za7_ (l : List UInt8) : List UInt8 × Int := if 4096 < l.length then ([], 3) else (116 :: (Lib.decDigits l.length ++ 58 :: l), 0)
def twoT (op : UInt8) (x y : List UInt8) : List UInt8 × Int := if right x = true ∧ right y = true then made (op :: (x ++ y)) else ([], 10)
theorem zaU_ {l : List UInt8} (h : right l = true) : 1 ≤ l.length ∧ l.length ≤ 16384 := by
 unfold right rt at h
 split at h
 · refine ⟨?_, by assumption⟩
   cases l with
   | nil => simp [rd] at h
   | cons c r => simp
 · simp at h
theorem zhR_ {f : List UInt8 → Option Sh} {d : Nat} (hf : ∀ l x, f l = some x → ShOk d l x) (l : List UInt8) : ∀ (m b : Nat) (ks : List (List UInt8)) (dp len : Nat),
  b ≤ l.length → w6_ f m (l.drop b) = some (ks, dp, len) → zcv_ l b ks
 | 0, b, ks, dp, len, hb, h => by
   simp only [w6_, Option.some.injEq, Prod.mk.injEq] at h
   obtain ⟨rfl, _, _⟩ := h
   trivial
 | m + 1, b, ks, dp, len, hb, h => by
   simp only [w6_] at h
   split at h
   · simp at h
   · rename_i x hx
     have h1 := hf _ _ hx
     unfold ShOk at h1
     rw [List.length_drop] at h1
     split at h
     · simp at h
     · rename_i ks' dp' len' hk
       rw [List.drop_drop] at hk
       simp only [Option.some.injEq, Prod.mk.injEq] at h
       obtain ⟨rfl, _, _⟩ := h
       have hl : ((l.drop b).take x.len).length = x.len := by rw [List.length_take, List.length_drop]; omega
       have h2 := zhR_ hf l m (b + x.len) ks' dp' len' om_ hk
       refine ⟨by rw [hl], by rw [hl]; omega, ?_, by rw [hl]; exact h2⟩
       intro e
       rw [e] at hl
       simp at hl
       omega
theorem zdb_ {d : Nat} {l : List UInt8} {x : Sh} (h : rd d l = some x) :
  (x.op.toNat = 110 → x.text = [] ∧ x.kids = [] ∧ x.n ≤ 9223372036854775807) ∧
  (x.op.toNat = 116 → x.kids = [] ∧ x.n + 3 ≤ x.len ∧ x.text = (l.drop (x.len - x.n)).take x.n) ∧
  (x.op.toNat ≠ 110 → x.op.toNat ≠ 116 → x.text = [] ∧ zcv_ l (x.len - j8_ x.kids) x.kids ∧ j8_ x.kids + 1 ≤ x.len ∧ x.n = 0 ∧ x.kids.length ≤ 32) := by
 cases d with
 | zero => simp [rd] at h
 | succ d =>
   cases l with
   | nil => simp [rd] at h
   | cons c r =>
     simp only [rd, ← UInt8.toNat_inj, UInt8.reduceToNat] at h
     split at h
     · rename_i hc
       cases hn : num 59 r with
       | none => simp [hn] at h
       | some y =>
         have := zcl_ hn
         simp only [hn, Option.map_some, Option.some.injEq] at h
         subst h
         exact ⟨fun _ => ⟨rfl, rfl, this.2.2⟩, fun h => by simp only at h; omega, fun h => by simp only at h; omega⟩
     · split at h
       · rename_i hc0 hc
         split at h
         · simp at h
         · rename_i hn
           have := zcl_ hn
           split at h
           · simp at h
           · simp only [Option.some.injEq] at h
             subst h
             refine ⟨fun h => by simp only at h; omega, fun _ => ⟨rfl, by simp only; omega, ?_⟩, fun _ h => by simp only at h; omega⟩
             simp only [Nat.add_sub_cancel]
             rw [Nat.add_comm 1, List.drop_succ_cons]
       · rename_i hc0 hc1
         split at h
         · simp at h
         · rename_i m k hc
           have hcb := zdx_ hc
           split at h
           · simp at h
           · rename_i ks dp len hk
             have h2 := zdw_ (za6_ d) m _ _ _ _ hk
             rw [List.length_drop] at h2
             split at h
             · simp only [Option.some.injEq] at h
               subst h
               refine ⟨fun h => absurd h hc0, fun h => absurd h hc1, fun _ _ => ⟨rfl, ?_, by simp only; omega, rfl, by simp only; omega⟩⟩
               simp only
               rw [show 1 + k + len - j8_ ks = 1 + k by omega]
               exact zhR_ (za6_ d) (c :: r) m (1 + k) ks dp len so_ (by rw [Nat.add_comm 1, List.drop_succ_cons]; exact hk)
             · simp at h
theorem zhS_ {l : List UInt8} : ∀ (ks : List (List UInt8)) (b j : Nat), zcv_ l b ks → j < ks.length →
  ∃ a e : Nat, (zaD_ b ks)[j]? = some a ∧ (zaD_ b ks)[j + 1]? = some e ∧ a ≤ e ∧ e ≤ l.length ∧ ks[j]? = some ((l.drop a).take (e - a))
 | [], _, _, _, hj => by simp at hj
 | k :: ks, b, 0, h, _ => by
   obtain ⟨h1, h2, _, _⟩ := h
   refine ⟨b, b + k.length, rfl, ?_, by omega, h2, ?_⟩
   · cases ks <;> rfl
   · rw [Nat.add_sub_cancel_left, ← h1]; rfl
 | k :: ks, b, j + 1, h, hj => by
   obtain ⟨a, e, h1, h2, h3⟩ := zhS_ ks (b + k.length) j h.2.2.2 (by simpa using hj)
   exact ⟨a, e, by simpa [zaD_] using h1, by simpa [zaD_] using h2, h3.1, h3.2.1, by simpa using h3.2.2⟩
end Go.Proofs.YtembdkodajichaaGreatDoor
-- SpecC
namespace Go.Proofs.YtembdkodajichaaGreatDoor
theorem zhT_ (e : UInt8) (m : List UInt8) : ∀ (l : List UInt8) (v k n c : Nat), k0_ e l v k = some (n, c) → k0_ e (l ++ m) v k = some (n, c)
 | [], v, k, n, c, h => by simp [k0_] at h
 | x :: r, v, k, n, c, h => by
   simp only [k0_, List.cons_append] at h ⊢
   split at h
   · rw [if_pos as_]; exact h
   · rw [if_neg as_]
     split at h
     · simp at h
     · rw [if_neg as_]
       split at h
       · simp at h
       · rw [if_neg as_]
         exact zhT_ e m r _ _ n c h
theorem zgc_ {e : UInt8} {l : List UInt8} {n c : Nat} (h : num e l = some (n, c)) (m : List UInt8) : num e (l ++ m) = some (n, c) := zhT_ e m l 0 0 n c h
theorem zhU_ (e : UInt8) : ∀ (l : List UInt8) (v k n c : Nat), k0_ e l v k = some (n, c) → ∀ j, c ≤ k + j → k0_ e (l.take j) v k = some (n, c)
 | [], v, k, n, c, h => by simp [k0_] at h
 | x :: r, v, k, n, c, h => fun j hj => by
   have hb := numGo_bound' e (x :: r) v k n c h
   cases j with
   | zero => omega
   | succ j =>
     simp only [k0_, List.take_succ_cons] at h ⊢
     split at h
     · rw [if_pos as_]; exact h
     · rw [if_neg as_]
       split at h
       · simp at h
       · rw [if_neg as_]
         split at h
         · simp at h
         · rw [if_neg as_]
           exact zhU_ e r _ _ n c h j om_
where
 numGo_bound' (e : UInt8) : ∀ (l : List UInt8) (v k n c : Nat), k0_ e l v k = some (n, c) → k + 1 ≤ c
  | [], v, k, n, c, h => by simp [k0_] at h
  | x :: r, v, k, n, c, h => by
    simp only [k0_] at h
    split at h
    · simp at h; omega
    · split at h
      · simp at h
      · split at h
        · simp at h
        · have := numGo_bound' e r _ _ n c h
          omega
theorem zgd_ {e : UInt8} {l : List UInt8} {n c : Nat} (h : num e l = some (n, c)) {j : Nat} (hj : c ≤ j) : num e (l.take j) = some (n, c) :=
 zhU_ e l 0 0 n c h j om_
theorem zhV_ {f : List UInt8 → Option Sh} {d : Nat} (hf : ∀ l x, f l = some x → ShOk d l x) (hc : ∀ l x j, f l = some x → x.len ≤ j → f (l.take j) = some x) :
  ∀ (m : Nat) (l : List UInt8) (ks : List (List UInt8)) (dp len j : Nat), w6_ f m l = some (ks, dp, len) → len ≤ j → w6_ f m (l.take j) = some (ks, dp, len)
 | 0, l, ks, dp, len, j, h, _ => by simpa [w6_] using h
 | m + 1, l, ks, dp, len, j, h, hj => by
   simp only [w6_] at h ⊢
   split at h
   · simp at h
   · rename_i x hx
     split at h
     · simp at h
     · rename_i ks' dp' len' hk
       simp only [Option.some.injEq, Prod.mk.injEq] at h
       obtain ⟨rfl, rfl, rfl⟩ := h
       rw [hc l x j hx om_]
       simp only
       rw [List.drop_take, zhV_ hf hc m (l.drop x.len) ks' dp' len' (j - x.len) hk om_]
       simp only
       rw [List.take_take, Nat.min_eq_left om_]
theorem zle_ {c : UInt8} {r : List UInt8} {m k j : Nat} (h : cnt c r = some (m, k)) (hj : k ≤ j) : cnt c (r.take j) = some (m, k) := by
 simp only [cnt] at h ⊢
 split at h
 · rw [if_pos as_]
   cases hn : num 58 r with
   | none => simp [hn] at h
   | some y =>
     obtain ⟨n, k'⟩ := y
     simp only [hn] at h
     split at h
     · simp at h
     · simp only [Option.some.injEq, Prod.mk.injEq] at h
       obtain ⟨rfl, rfl⟩ := h
       rw [zgd_ hn hj]
       simp [*]
 · rw [if_neg as_]; exact h
theorem zhW_ : ∀ (d : Nat) (l : List UInt8) (x : Sh) (j : Nat), rd d l = some x → x.len ≤ j → rd d (l.take j) = some x
 | 0, _, _, _, h, _ => by simp [rd] at h
 | _ + 1, [], _, _, h, _ => by simp [rd] at h
 | d + 1, c :: r, x, j, h, hj => by
   have hok := za6_ _ _ _ h
   unfold ShOk at hok
   cases j with
   | zero => omega
   | succ j =>
     simp only [rd, List.take_succ_cons] at h ⊢
     split at h
     · rw [if_pos as_]
       cases hn : num 59 r with
       | none => simp [hn] at h
       | some y =>
         obtain ⟨n, k⟩ := y
         simp only [hn, Option.map_some, Option.some.injEq] at h
         subst h
         simp only at hj
         rw [zgd_ hn om_]; rfl
     · rw [if_neg as_]
       split at h
       · rw [if_pos as_]
         split at h
         · simp at h
         · rename_i n k hn
           have := zcl_ hn
           split at h
           · simp at h
           · simp only [Option.some.injEq] at h
             subst h
             simp only at hj
             rw [zgd_ hn om_]
             simp only
             rw [if_neg (by rw [List.length_take]; omega), List.drop_take, List.take_take, Nat.min_eq_left om_]
       · rw [if_neg as_]
         split at h
         · simp at h
         · rename_i m k hc
           split at h
           · simp at h
           · rename_i ks dp len hk
             split at h
             · rename_i hfit
               simp only [Option.some.injEq] at h
               subst h
               simp only at hj
               rw [zle_ hc om_]
               simp only
               rw [List.drop_take, zhV_ (za6_ d) (zhW_ d) m _ ks dp len (j - k) hk om_]
               simp [hfit]
             · simp at h
theorem ze0_ : ∀ (d d' : Nat) (l : List UInt8) (x : Sh), d ≤ d' → rd d l = some x → rd d' l = some x
 | 0, _, _, _, _, h => by simp [rd] at h
 | _ + 1, 0, _, _, hd, _ => by omega
 | _ + 1, _ + 1, [], _, _, h => by simp [rd] at h
 | d + 1, d' + 1, c :: r, x, hd, h => by
   simp only [rd] at h ⊢
   split at h
   · rw [if_pos as_]; exact h
   · rw [if_neg as_]
     split at h
     · rw [if_pos as_]; exact h
     · rw [if_neg as_]
       split at h
       · simp at h
       · rename_i m k hc
         split at h
         · simp at h
         · rename_i ks dp len hk
           have : w6_ (rd d') m (r.drop k) = some (ks, dp, len) := kidsBy_mono (fun l x => ze0_ d d' l x om_) m _ _ _ _ hk
           rw [this]; exact h
where
 kidsBy_mono {f g : List UInt8 → Option Sh} (hfg : ∀ l x, f l = some x → g l = some x) : ∀ (m : Nat) (l : List UInt8) (ks : List (List UInt8)) (dp len : Nat),
   w6_ f m l = some (ks, dp, len) → w6_ g m l = some (ks, dp, len)
  | 0, _, _, _, _, h => by simpa [w6_] using h
  | m + 1, l, ks, dp, len, h => by
    simp only [w6_] at h ⊢
    split at h
    · simp at h
    · rename_i x hx
      split at h
      · simp at h
      · rename_i ks' dp' len' hk
        rw [hfg _ _ hx]
        simp only
        rw [kidsBy_mono hfg m _ _ _ _ hk]
        exact h
theorem zhX_ {f : List UInt8 → Option Sh} {d : Nat} (hf : ∀ l x, f l = some x → ShOk d l x) (hc : ∀ l x j, f l = some x → x.len ≤ j → f (l.take j) = some x) :
  ∀ (m : Nat) (l : List UInt8) (ks : List (List UInt8)) (dp len : Nat), w6_ f m l = some (ks, dp, len) → ∀ k ∈ ks, ∃ x, f k = some x ∧ x.len = k.length ∧ x.deep ≤ dp
 | 0, l, ks, dp, len, h => by
   simp only [w6_, Option.some.injEq, Prod.mk.injEq] at h
   obtain ⟨rfl, _, _⟩ := h
   simp
 | m + 1, l, ks, dp, len, h => by
   simp only [w6_] at h
   split at h
   · simp at h
   · rename_i x hx
     split at h
     · simp at h
     · rename_i ks' dp' len' hk
       simp only [Option.some.injEq, Prod.mk.injEq] at h
       obtain ⟨rfl, rfl, rfl⟩ := h
       have hx1 := hf _ _ hx
       unfold ShOk at hx1
       intro k hk'
       rcases List.mem_cons.1 hk' with rfl | hk'
       · exact ⟨x, hc l x _ hx (Nat.le_refl _), by rw [List.length_take]; omega, by omega⟩
       · obtain ⟨y, h1, h2, h3⟩ := zhX_ hf hc m _ _ _ _ hk k hk'
         exact ⟨y, h1, h2, by omega⟩
theorem zhY_ {l : List UInt8} {x : Sh} (h : rt l = some x) : ∀ k ∈ x.kids, right k = true ∧ k.length < l.length := by
 unfold rt at h
 split at h
 · rename_i hl
   split at h
   · rename_i y hy
     split at h
     · rename_i hlen
       simp only [Option.some.injEq] at h
       subst h
       intro k hk
       cases l with
       | nil => simp [rd] at hy
       | cons c r =>
         have hp := zdb_ hy
         simp only [rd] at hy
         split at hy
         · cases hn : num 59 r with
           | none => simp [hn] at hy
           | some z => simp only [hn, Option.map_some, Option.some.injEq] at hy; subst hy; simp at hk
         · split at hy
           · split at hy
             · simp at hy
             · split at hy
               · simp at hy
               · simp only [Option.some.injEq] at hy; subst hy; simp at hk
           · split at hy
             · simp at hy
             · split at hy
               · simp at hy
               · rename_i m kk hc ks dp len hkb
                 split at hy
                 · simp only [Option.some.injEq] at hy
                   subst hy
                   simp only at hk hlen
                   obtain ⟨z, hz, hzl, hzd⟩ := zhX_ (za6_ 63) (zhW_ 63) _ _ _ _ _ hkb k hk
                   have hb := zdw_ (za6_ 63) _ _ _ _ _ hkb
                   have hkl : k.length ≤ j8_ ks := mem_sumL k ks hk
                   have hlt : k.length < (c :: r).length := by omega
                   refine ⟨?_, hlt⟩
                   unfold right rt
                   rw [if_pos om_, ze0_ 63 64 k z om_ hz]
                   simp [hzl]
                 · simp at hy
     · simp at h
   · simp at h
 · simp at h
where
 mem_sumL (k : List UInt8) : ∀ (ks : List (List UInt8)), k ∈ ks → k.length ≤ j8_ ks
  | [], h => by simp at h
  | a :: ks, h => by
    simp only [j8_]
    rcases List.mem_cons.1 h with rfl | h
    · omega
    · have := mem_sumL k ks h; omega
/-! The public key of a term. -/
def keyF : Nat → List UInt8 → List UInt8
 | 0, x => 80 :: x
 | n + 1, x =>
   match rt x with
   | none => 80 :: x
   | some s =>
     if s.op.toNat = 86 then 87 :: (keyF n (s.kids.getD 0 []) ++ keyF n (s.kids.getD 1 []))
     else if s.op.toNat = 75 then 76 :: (keyF n (s.kids.getD 0 []) ++ s.kids.getD 1 [])
     else 80 :: x
def w4_ (x : List UInt8) : List UInt8 := keyF x.length x
theorem zcw_ {x : List UInt8} {s : Sh} (h : rt x = some s) (ho : s.op.toNat = 86 ∨ s.op.toNat = 75) : ∃ a b, s.kids = [a, b] ∧ a.length + b.length < x.length ∧ right a = true ∧ right b = true := by
 have hk := zhY_ h
 unfold rt at h
 split at h
 · split at h
   · rename_i y hy
     split at h
     · rename_i hlen
       simp only [Option.some.injEq] at h
       subst h
       cases x with
       | nil => simp [rd] at hy
       | cons c r =>
         simp only [rd, ← UInt8.toNat_inj, UInt8.reduceToNat] at hy
         split at hy
         · rename_i h0
           cases hn : num 59 r with
           | none => simp [hn] at hy
           | some z => simp only [hn, Option.map_some, Option.some.injEq] at hy; subst hy; simp only at ho; omega
         · split at hy
           · split at hy
             · simp at hy
             · split at hy
               · simp at hy
               · simp only [Option.some.injEq] at hy; subst hy; simp only at ho; omega
           · split at hy
             · simp at hy
             · rename_i m kk hc
               split at hy
               · simp at hy
               · rename_i ks dp len hkb
                 have hb := zdw_ (za6_ 63) _ _ _ _ _ hkb
                 split at hy
                 · simp only [Option.some.injEq] at hy
                   subst hy
                   simp only at ho hlen hk
                   simp only [cnt, arity, ← UInt8.toNat_inj, UInt8.reduceToNat] at hc
                   rw [if_neg om_, if_neg om_, if_pos om_] at hc
                   simp only [Option.map_some, Option.some.injEq, Prod.mk.injEq] at hc
                   obtain ⟨rfl, rfl⟩ := hc
                   match ks, hb, hk, hlen with
                   | [a, b], hb, hk, hlen =>
                     refine ⟨a, b, rfl, ?_, (hk a si_).1, (hk b si_).1⟩
                     have := hb.2.1
                     simp only [j8_] at this
                     omega
                   | [], hb, _, _ => simp at hb
                   | [_], hb, _, _ => simp at hb
                   | _ :: _ :: _ :: _, hb, _, _ => simp at hb
                 · simp at hy
     · simp at h
   · simp at h
 · simp at h
theorem ze1_ : ∀ (n : Nat) (x : List UInt8), 1 ≤ x.length → (keyF n x).length ≤ 2 * x.length
 | 0, x, h => by simp [keyF]; omega
 | n + 1, x, h => by
   simp only [keyF]
   split
   · simp; omega
   · rename_i s hs
     split
     · obtain ⟨a, b, hk, hl, ha, hb⟩ := zcw_ hs om_
       have h1 := ze1_ n a (zaU_ ha).1
       have h2 := ze1_ n b (zaU_ hb).1
       rw [hk]
       simp only [List.getD_cons_zero, List.getD_cons_succ, List.length_cons, List.length_append]
       omega
     · split
       · obtain ⟨a, b, hk, hl, ha, hb⟩ := zcw_ hs om_
         have h1 := ze1_ n a (zaU_ ha).1
         rw [hk]
         simp only [List.getD_cons_zero, List.getD_cons_succ, List.length_cons, List.length_append]
         omega
       · simp; omega
theorem zdy_ : ∀ (n m : Nat) (x : List UInt8), x.length ≤ n → x.length ≤ m → keyF n x = keyF m x
 | 0, 0, x, _, _ => rfl
 | 0, m + 1, x, h, _ => by
   have : x = [] := List.length_eq_zero_iff.1 om_
   subst this
   simp [keyF, rt, rd]
 | n + 1, 0, x, _, h => by
   have : x = [] := List.length_eq_zero_iff.1 om_
   subst this
   simp [keyF, rt, rd]
 | n + 1, m + 1, x, hn, hm => by
   simp only [keyF]
   split
   · rfl
   · rename_i s hs
     split
     · obtain ⟨a, b, hk, hl, ha, hb⟩ := zcw_ hs om_
       rw [hk]
       simp only [List.getD_cons_zero, List.getD_cons_succ]
       rw [zdy_ n m a om_ om_, zdy_ n m b om_ om_]
     · split
       · obtain ⟨a, b, hk, hl, ha, hb⟩ := zcw_ hs om_
         rw [hk]
         simp only [List.getD_cons_zero, List.getD_cons_succ]
         rw [zdy_ n m a om_ om_]
       · rfl
theorem zdz_ (x : List UInt8) : w4_ x = match rt x with
  | none => 80 :: x
  | some s =>
    if s.op.toNat = 86 then 87 :: (w4_ (s.kids.getD 0 []) ++ w4_ (s.kids.getD 1 []))
    else if s.op.toNat = 75 then 76 :: (w4_ (s.kids.getD 0 []) ++ s.kids.getD 1 [])
    else 80 :: x := by
 rw [w4_, zdy_ x.length (x.length + 1) x om_ om_]
 simp only [keyF]
 split
 · rfl
 · rename_i s hs
   split
   · obtain ⟨a, b, hk, hl, ha, hb⟩ := zcw_ hs om_
     rw [hk]
     simp only [List.getD_cons_zero, List.getD_cons_succ, w4_]
     rw [zdy_ x.length a.length a om_ om_, zdy_ x.length b.length b om_ om_]
   · split
     · obtain ⟨a, b, hk, hl, ha, hb⟩ := zcw_ hs om_
       rw [hk]
       simp only [List.getD_cons_zero, List.getD_cons_succ, w4_]
       rw [zdy_ x.length a.length a om_ om_]
     · rfl
theorem zdc_ {x : List UInt8} (h : 1 ≤ x.length) : (w4_ x).length ≤ 2 * x.length := ze1_ _ _ h
def cat (ls : List (List UInt8)) : List UInt8 := ls.flatten
theorem zhZ_ : ∀ (ls : List (List UInt8)), ls.all right = true → (cat ls).length ≤ 16384 * ls.length
 | [], _ => by simp [cat]
 | x :: r, h => by
   simp only [List.all_cons, Bool.and_eq_true] at h
   have h1 := (zaU_ h.1).2
   have h2 := zhZ_ r h.2
   simp only [cat] at h2
   simp only [cat, List.flatten_cons, List.length_append, List.length_cons]
   omega
theorem zlf_ (ls : List (List UInt8)) (k : Nat) (x : List UInt8) (h : ls[k]? = some x) : cat (ls.take (k + 1)) = cat (ls.take k) ++ x := by
 rw [List.take_add_one, h]; simp [cat]
theorem zlg_ (ls : List (List UInt8)) (k : Nat) (x : List UInt8) (h : ls[k]? = some x) (h1 : (ls.take k).all right = true) (h2 : right x = true) : (ls.take (k + 1)).all right = true := by
 rw [List.take_add_one, h, List.all_append, h1]; simp [h2]
theorem zlh_ (ls : List (List UInt8)) (k : Nat) (x : List UInt8) (h : ls[k]? = some x) (h2 : right x = false) : ls.all right = false := by
 rw [List.all_eq_false]
 exact ⟨x, List.mem_of_getElem? h, by simp [h2]⟩
def pubT (x : List UInt8) : List UInt8 × Int := if right x = true then made (w4_ x) else ([], 10)
end Go.Proofs.YtembdkodajichaaGreatDoor
-- SpecD
namespace Go.Proofs.YtembdkodajichaaGreatDoor
theorem ze2_ (d : Nat) (h : d < 10) : (UInt8.ofNat (48 + d)).toNat = 48 + d := by
 rw [UInt8.toNat_ofNat']; omega
theorem zli_ (e : UInt8) (he : 57 < e.toNat) (n : Nat) : ∀ (r : List UInt8), n ≤ 9223372036854775807 → k0_ e (Lib.decDigits n ++ r) 0 0 = k0_ e r n (Lib.decDigits n).length := by
 induction n using Nat.strongRecOn with
 | ind n ih =>
   intro r hn
   by_cases h : n < 10
   · rw [Lib.decDigits, dif_pos h]
     simp only [List.cons_append, List.nil_append, k0_, ze2_ n h, List.length_cons, List.length_nil]
     rw [if_neg om_, if_neg om_, if_neg om_]
     congr 1; omega
   · have hp := zf8_ (n / 10)
     rw [show Lib.decDigits n = Lib.decDigits (n / 10) ++ [UInt8.ofNat (48 + n % 10)] from by rw [Lib.decDigits, dif_neg h]]
     rw [List.append_assoc, ih (n / 10) om_ _ om_]
     simp only [List.cons_append, List.nil_append, k0_, ze2_ (n % 10) om_, List.length_append, List.length_cons, List.length_nil]
     rw [if_neg om_, if_neg om_, if_neg om_]
     congr 1; omega
theorem zh0_ (e : UInt8) (he : 57 < e.toNat) (n : Nat) (r : List UInt8) (hn : n ≤ 9223372036854775807) : num e (Lib.decDigits n ++ e :: r) = some (n, (Lib.decDigits n).length + 1) := by
 unfold num
 rw [zli_ e he n _ hn, k0_, if_pos ⟨rfl, zf8_ n⟩]
theorem zh1_ {f : List UInt8 → Option Sh} {d : Nat} (hf : ∀ l x, f l = some x → ShOk d l x) (he : ∀ l x r, f l = some x → f (l ++ r) = some x) :
  ∀ (m : Nat) (l r : List UInt8) (y : List (List UInt8) × Nat × Nat), w6_ f m l = some y → w6_ f m (l ++ r) = some y
 | 0, l, r, y, h => by simpa [w6_] using h
 | m + 1, l, r, y, h => by
   simp only [w6_] at h ⊢
   split at h
   · simp at h
   · rename_i x hx
     have hl := (hf _ _ hx).2.1
     split at h
     · simp at h
     · rename_i ks dp len hk
       rw [he _ _ r hx]
       simp only
       rw [List.drop_append_of_le_length hl, zh1_ hf he m _ r _ hk]
       simp only
       rw [List.take_append_of_le_length hl]
       exact h
theorem zlj_ {c : UInt8} {r : List UInt8} {y : Nat × Nat} (h : cnt c r = some y) (m : List UInt8) : cnt c (r ++ m) = some y := by
 simp only [cnt] at h ⊢
 split at h
 · rw [if_pos as_]
   cases hn : num 58 r with
   | none => simp [hn] at h
   | some y =>
     obtain ⟨n, k⟩ := y
     rw [zgc_ hn]
     simpa [hn] using h
 · rw [if_neg as_]; exact h
theorem zh2_ : ∀ (d : Nat) (l : List UInt8) (x : Sh) (m : List UInt8), rd d l = some x → rd d (l ++ m) = some x
 | 0, _, _, _, h => by simp [rd] at h
 | _ + 1, [], _, _, h => by simp [rd] at h
 | d + 1, c :: r, x, m, h => by
   simp only [rd, List.cons_append] at h ⊢
   split at h
   · rw [if_pos as_]
     cases hn : num 59 r with
     | none => simp [hn] at h
     | some y => rw [zgc_ hn]; simpa [hn] using h
   · rw [if_neg as_]
     split at h
     · rw [if_pos as_]
       split at h
       · simp at h
       · rename_i n k hn
         have hb := zcl_ hn
         split at h
         · simp at h
         · rw [zgc_ hn]
           simp only
           rw [if_neg (by rw [List.length_append]; omega), List.drop_append_of_le_length om_, List.take_append_of_le_length (by rw [List.length_drop]; omega)]
           exact h
     · rw [if_neg as_]
       split at h
       · simp at h
       · rename_i n k hc
         have hb := zdx_ hc
         rw [zlj_ hc]
         simp only
         split at h
         · simp at h
         · rename_i ks dp len hk
           rw [List.drop_append_of_le_length hb.2, zh1_ (za6_ d) (fun l x m => zh2_ d l x m) _ _ m _ hk]
           exact h
def RtD (d : Nat) (l : List UInt8) : Prop := ∃ x, rd d l = some x ∧ x.len = l.length
theorem zlk_ {d : Nat} {l : List UInt8} (hd : d ≤ 64) (h : RtD d l) (hl : l.length ≤ 16384) : right l = true := by
 obtain ⟨x, hx, hxl⟩ := h
 unfold right rt
 rw [if_pos hl, ze0_ d 64 l x hd hx]
 simp [hxl]
theorem zll_ (s : List UInt8) (d : Nat) (h : s.length ≤ 4096) : RtD (d + 1) (116 :: (Lib.decDigits s.length ++ 58 :: s)) := by
 have hn := zh0_ 58 de_ s.length s om_
 refine ⟨⟨116, 1 + ((Lib.decDigits s.length).length + 1) + s.length, 1, s.length, s, []⟩, ?_, by simp; omega⟩
 simp only [rd]
 rw [if_neg de_, if_pos de_, hn]
 simp only
 rw [if_neg so_]
 have e : (Lib.decDigits s.length ++ 58 :: s).drop ((Lib.decDigits s.length).length + 1) = s := by
  rw [show Lib.decDigits s.length ++ 58 :: s = (Lib.decDigits s.length ++ [58]) ++ s by simp]
  rw [List.drop_left' si_]
 rw [e, List.take_length]
theorem zlm_ (n : Nat) (d : Nat) (h : n ≤ 9223372036854775807) : RtD (d + 1) (110 :: (Lib.decDigits n ++ [59])) := by
 have hn := zh0_ 59 de_ n [] h
 refine ⟨⟨110, 1 + ((Lib.decDigits n).length + 1), 1, n, [], []⟩, ?_, by simp; omega⟩
 simp only [rd]
 rw [if_pos de_, hn]
 rfl
theorem ze3_ (d : Nat) : ∀ (ls : List (List UInt8)) (r : List UInt8), (∀ a ∈ ls, RtD d a) → ∃ dp, w6_ (rd d) ls.length (cat ls ++ r) = some (ls, dp, (cat ls).length)
 | [], r, _ => ⟨0, by simp [w6_, cat]⟩
 | a :: ls, r, h => by
   obtain ⟨x, hx, hxl⟩ := h a si_
   obtain ⟨dp, hk⟩ := ze3_ d ls r (fun b hb => h b (by simp [hb]))
   refine ⟨max x.deep dp, ?_⟩
   have e : cat (a :: ls) ++ r = a ++ (cat ls ++ r) := by simp [cat]
   rw [e, List.length_cons, w6_, zh2_ _ _ _ _ hx]
   simp only
   rw [hxl, List.drop_left, hk]
   simp [cat]
theorem zln_ (d : Nat) (c : UInt8) (a b : List UInt8) (hc : arity c = some 2) (hf : v1_ c [a, b] = true) (ha : RtD d a) (hb : RtD d b) : RtD (d + 1) (c :: (a ++ b)) := by
 obtain ⟨dp, hk⟩ := ze3_ d [a, b] [] (by intro x hx; simp at hx; rcases hx with rfl | rfl <;> assumption)
 have e : cat [a, b] = a ++ b := by simp [cat]
 rw [List.append_nil, e] at hk
 refine ⟨⟨c, 1 + 0 + (a ++ b).length, dp + 1, 0, [], [a, b]⟩, ?_, by simp; omega⟩
 have h1 : c ≠ 110 := by rintro rfl; simp [arity] at hc
 have h2 : c ≠ 116 := by rintro rfl; simp [arity] at hc
 have h3 : c ≠ 84 := by rintro rfl; simp [arity] at hc
 simp only [rd]
 rw [if_neg h1, if_neg h2, show cnt c (a ++ b) = some (2, 0) by simp [cnt, h3, hc]]
 simp only [List.drop_zero]
 rw [show ([a, b] : List (List UInt8)).length = 2 from rfl] at hk
 rw [hk]
 simp only
 rw [if_pos hf]
theorem zlo_ (d : Nat) (c : UInt8) (a : List UInt8) (hc : arity c = some 1) (hf : v1_ c [a] = true) (ha : RtD d a) : RtD (d + 1) (c :: a) := by
 obtain ⟨dp, hk⟩ := ze3_ d [a] [] (by intro x hx; simp at hx; subst hx; assumption)
 have e : cat [a] = a := by simp [cat]
 rw [List.append_nil, e] at hk
 refine ⟨⟨c, 1 + 0 + a.length, dp + 1, 0, [], [a]⟩, ?_, by simp; omega⟩
 have h1 : c ≠ 110 := by rintro rfl; simp [arity] at hc
 have h2 : c ≠ 116 := by rintro rfl; simp [arity] at hc
 have h3 : c ≠ 84 := by rintro rfl; simp [arity] at hc
 simp only [rd]
 rw [if_neg h1, if_neg h2, show cnt c a = some (1, 0) by simp [cnt, h3, hc]]
 simp only [List.drop_zero]
 rw [show ([a] : List (List UInt8)).length = 1 from rfl] at hk
 rw [hk]
 simp only
 rw [if_pos hf]
end Go.Proofs.YtembdkodajichaaGreatDoor
-- SpecE
namespace Go.Proofs.YtembdkodajichaaGreatDoor
def ze4_ (s : List UInt8) : List UInt8 := 116 :: (Lib.decDigits s.length ++ 58 :: s)
theorem zh3_ {l : List UInt8} (h : right l = true) : made l = (l, 0) := by simp [made, h]
theorem zlp_ (s : List UInt8) (h : s.length ≤ 4096) : (ze4_ s).length ≤ s.length + 22 ∧ 3 ≤ (ze4_ s).length := by
 have h1 := zba_ s.length om_
 have h2 := zf8_ s.length
 simp [ze4_]; omega
end Go.Proofs.YtembdkodajichaaGreatDoor
-- SpecN
namespace Go.Proofs.YtembdkodajichaaGreatDoor
open Go.Lib (parseUintM parseUintB parseIntB indexByte NumEnd)
theorem zeg_ : ∀ (l : List UInt8) (e : UInt8), -1 ≤ indexByte l e
 | [], _ => by simp [indexByte]
 | b :: l, e => by
   have := zeg_ l e
   simp only [indexByte]
   split
   · omega
   · split <;> omega
theorem zh4_ : ∀ (l : List UInt8) (e : UInt8), indexByte l e = -1 → ∀ x ∈ l, x ≠ e
 | [], _, _ => by simp
 | b :: l, e, h => by
   simp only [indexByte] at h
   split at h
   · omega
   · rename_i hb
     split at h
     · rename_i h1
       intro x hx
       rcases List.mem_cons.1 hx with rfl | hx
       · simpa using hb
       · exact zh4_ l e (by simpa using h1) x hx
     · rename_i h1
       have := zeg_ l e
       simp at h1
       omega
theorem zh5_ : ∀ (l : List UInt8) (e : UInt8) (k : Nat), indexByte l e = k → ∃ p q, l = p ++ e :: q ∧ p.length = k ∧ ∀ x ∈ p, x ≠ e
 | [], _, _, h => by simp only [indexByte] at h; omega
 | b :: l, e, k, h => by
   simp only [indexByte] at h
   split at h
   · rename_i hb
     have hb' : b = e := by simpa using hb
     subst hb'
     exact ⟨[], l, rfl, by simp only [List.length_nil]; omega, by simp⟩
   · rename_i hb
     split at h
     · omega
     · rename_i h1
       have h2 := zeg_ l e
       simp at h1
       obtain ⟨p, q, h3, h4, h5⟩ := zh5_ l e (k - 1) om_
       refine ⟨b :: p, q, by rw [h3]; rfl, by simp; omega, ?_⟩
       intro x hx
       rcases List.mem_cons.1 hx with rfl | hx
       · simpa using hb
       · exact h5 x hx
theorem zlq_ (l : List UInt8) (e : UInt8) : -1 ≤ indexByte l e := zeg_ l e
theorem zgf_ (M : Nat) : ∀ (p : List UInt8) (acc u : Nat), parseUintM M acc p = .ok u → acc * 10 ^ p.length ≤ u
 | [], acc, u, h => by simp only [parseUintM, NumEnd.ok.injEq] at h; simp [h]
 | c :: r, acc, u, h => by
   simp only [parseUintM] at h
   split at h
   · split at h
     · simp at h
     · split at h
       · simp at h
       · have := zgf_ M r _ u h
         rw [List.length_cons, Nat.pow_succ]
         have h2 : acc * (10 ^ r.length * 10) = (acc * 10) * 10 ^ r.length := by rw [Nat.mul_comm (10 ^ r.length) 10, Nat.mul_assoc]
         rw [h2]
         exact Nat.le_trans (Nat.mul_le_mul_right _ om_) this
   · simp at h
def okN (k : Nat) : NumEnd Nat → Option (Nat × Nat)
 | .ok u => if u ≤ 9223372036854775807 then some (u, k) else none
 | _ => none
theorem zh6_ (e : UInt8) (he : e.toNat = 58 ∨ e.toNat = 59) (q : List UInt8) : ∀ (p : List UInt8) (m j : Nat), (∀ x ∈ p, x ≠ e) → 0 < m → m ≤ 9223372036854775807 → 0 < j →
  k0_ e (p ++ e :: q) m j = okN (j + p.length + 1) (parseUintM (2 ^ 64 - 1) m p)
 | [], m, j, _, hm, hm2, hj => by
   simp only [List.nil_append, k0_, parseUintM, okN]
   rw [if_pos (by simp [hj]), if_pos hm2]; rfl
 | c :: r, m, j, hp, hm, hm2, hj => by
   have hc : c.toNat ≠ e.toNat := fun h => hp c si_ (UInt8.toNat_inj.1 h)
   simp only [List.cons_append, k0_, parseUintM]
   rw [if_neg om_]
   by_cases hd : 48 ≤ c.toNat ∧ c.toNat ≤ 57
   · rw [if_neg om_, if_pos hd]
     by_cases hb : (9223372036854775807 - (c.toNat - 48)) / 10 < m
     · rw [if_pos hb]
       split
       · rfl
       · split
         · rfl
         · cases hr : parseUintM (2 ^ 64 - 1) (m * 10 + (c.toNat - 48)) r
           case ok u =>
            have h1 := zgf_ _ _ _ _ hr
            have h2 : 1 ≤ 10 ^ r.length := Nat.pow_pos om_
            have h3 : (m * 10 + (c.toNat - 48)) * 1 ≤ (m * 10 + (c.toNat - 48)) * 10 ^ r.length := Nat.mul_le_mul_left _ h2
            simp only [okN]
            rw [if_neg om_]
           all_goals rfl
     · rw [if_neg hb, if_neg om_, if_neg om_]
       rw [zh6_ e he q r _ _ (fun x hx => hp x (by simp [hx])) om_ om_ om_]
       simp only [List.length_cons]
       rw [show j + 1 + r.length + 1 = j + (r.length + 1) + 1 by omega]
   · rw [if_pos om_, if_neg hd]; rfl
def parsed (p : List UInt8) : Option Nat := match parseIntB 64 p with | .ok v => some v.toNat | _ => none
def zbn_ (p : List UInt8) : Option Nat :=
 if p.length < 1 ∨ 19 < p.length ∨ (head p).toNat = 48 ∧ 1 < p.length ∨ (head p).toNat < 48 ∨ 57 < (head p).toNat then none
 else match parseIntB 64 p with
  | .ok v => some v.toNat
  | _ => none
theorem zlr_ (e : UInt8) (he : e.toNat = 58 ∨ e.toNat = 59) (p q : List UInt8) (hp : ∀ x ∈ p, x ≠ e) : num e (p ++ e :: q) = (zbn_ p).map fun n => (n, p.length + 1) := by
 unfold num
 cases p with
 | nil =>
   simp only [List.nil_append, k0_, zbn_]
   rw [if_neg om_, if_pos om_]
   simp
 | cons c r =>
   have hc : c.toNat ≠ e.toNat := fun h => hp c si_ (UInt8.toNat_inj.1 h)
   have hhd : head (c :: r) = c := rfl
   simp only [List.cons_append, k0_]
   rw [if_neg om_]
   by_cases hd : 48 ≤ c.toNat ∧ c.toNat ≤ 57
   · rw [if_neg om_, if_neg om_]
     have hpi : parseIntB 64 (c :: r) = match parseUintM (2 ^ 64 - 1) (c.toNat - 48) r with
       | .ok u => if 2 ^ 63 ≤ u then .range else .ok (u : Int)
       | .range => .range
       | _ => parseIntB 64 [] := by
      simp only [parseIntB]
      rw [if_neg om_]
      simp only [parseUintB, parseUintM]
      rw [if_neg si_, if_pos hd, if_neg om_, if_neg om_]
      simp only [Nat.zero_mul, Nat.zero_add]
      have h45 : ¬ c.toNat = 45 := by omega
      cases parseUintM (2 ^ 64 - 1) (c.toNat - 48) r
      case ok u => simp only [h45, not_false_eq_true, true_and, false_and, if_false]
      all_goals rfl
     by_cases h48 : c.toNat = 48
     · cases r with
       | nil =>
         simp only [List.nil_append, k0_]
         rw [if_pos si_]
         have : zbn_ [c] = some 0 := by
          unfold zbn_
          rw [hhd, if_neg so_, hpi]
          simp [parseUintM, h48]
         rw [this, h48]; rfl
       | cons c2 r2 =>
         have hc2 : c2.toNat ≠ e.toNat := fun h => hp c2 si_ (UInt8.toNat_inj.1 h)
         have : zbn_ (c :: c2 :: r2) = none := by
          unfold zbn_
          rw [hhd, if_pos so_]
         rw [this]
         simp only [List.cons_append, k0_]
         rw [if_neg om_, if_pos om_]; rfl
     · rw [Nat.zero_mul, Nat.zero_add, zh6_ e he q r _ _ (fun x hx => hp x (by simp [hx])) om_ om_ om_]
       by_cases hlen : 19 < (c :: r).length
       · have : zbn_ (c :: r) = none := by
          unfold zbn_
          rw [if_pos om_]
         rw [this]
         cases hr : parseUintM (2 ^ 64 - 1) (c.toNat - 48) r
         case ok u =>
          have h1 := zgf_ _ _ _ _ hr
          have h2 : 10 ^ 19 ≤ 10 ^ r.length := Nat.pow_le_pow_right om_ (by simp at hlen; omega)
          have h3 : 1 * 10 ^ 19 ≤ (c.toNat - 48) * 10 ^ r.length := Nat.mul_le_mul om_ h2
          simp only [okN]
          rw [if_neg om_]; rfl
         all_goals rfl
       · have : zbn_ (c :: r) = match parseIntB 64 (c :: r) with
           | .ok v => some v.toNat
           | _ => none := by
          unfold zbn_
          rw [hhd, if_neg (by simp at hlen ⊢; omega)]
         rw [this, hpi]
         cases hr : parseUintM (2 ^ 64 - 1) (c.toNat - 48) r
         case ok u =>
          simp only [okN]
          by_cases hu : u ≤ 9223372036854775807
          · rw [if_pos hu, if_neg om_]
            simp only [Option.map_some, Int.toNat_natCast, List.length_cons]
            rw [show 0 + 1 + r.length + 1 = r.length + 1 + 1 by omega]
          · rw [if_neg hu, if_pos om_]; rfl
         all_goals rfl
   · rw [if_pos om_]
     have : zbn_ (c :: r) = none := by
      unfold zbn_
      rw [hhd, if_pos om_]
     rw [this]; rfl
theorem zh7_ (e : UInt8) : ∀ (l : List UInt8) (m j : Nat), (∀ x ∈ l, x ≠ e) → k0_ e l m j = none
 | [], _, _, _ => rfl
 | c :: r, m, j, h => by
   have hc : c.toNat ≠ e.toNat := fun h' => h c si_ (UInt8.toNat_inj.1 h')
   simp only [k0_]
   rw [if_neg om_]
   split
   · rfl
   · split
     · rfl
     · exact zh7_ e r _ _ (fun x hx => h x (by simp [hx]))
end Go.Proofs.YtembdkodajichaaGreatDoor
-- Share
namespace Go.Proofs.YtembdkodajichaaGreatDoor
open Go.RowKit
theorem Tryz.infoTerm : (Tryz.prog.info? 29).map (fun i => (i.zero, i.size, i.bytes)) = some (some (.string ByteArray.empty), 1, 16) := by kernel_rfl
def q6_ (x : Sh) : Nat := if x.op.toNat = 110 then x.n else 0
def ze5_ (w : World) (o : Option Sh) (e : Ending) (w' : World) : Prop :=
 match o with
 | none => e = .returned (.tuple #[.agg #[.int .u8 0, .int .i64 0, .string (bs []), .slice none 0 0], .bool false]) ∧ Below w.heap.size w w'
 | some x => ∃ ad n cap, e = .returned (.tuple #[.agg #[.int .u8 x.op.toNat, .int .i64 (q6_ x), .string (bs x.text), .slice ad n cap], .bool true]) ∧
  w'.ownsRow w.heap.size 29 1 (.slice ad n cap) x.kids.length (x.kids.map fun k => .string (bs k)) ∧ Below w.heap.size w w'
theorem zbv_ {w : World} {base e n : Nat} {v : Value} {xs : List Value} (h : w.ownsRow base e 1 v n xs) (hn : 0 < n) :
  ∃ g cap, v = .slice (some ⟨g, 0, none⟩) n cap ∧ base ≤ g ∧ g < w.heap.size ∧ n ≤ cap ∧ cap ≤ maxLen ∧ ∀ j x, xs[j]? = some x → w.cell? ⟨g, j, none⟩ = some x := by
 obtain ⟨h0, h⟩ := h
 rcases h with ⟨_, h⟩ | ⟨g, cap, cur, rfl, hb, hg, hc, hc2, hs, ht⟩
 · omega
 · refine ⟨g, cap, rfl, hb, z4_ hg, hc, hc2, fun j x hj => ?_⟩
   rw [z0_ hg, ← Array.getElem?_toList]
   rw [← ht] at hj
   rw [List.getElem?_take] at hj
   split at hj
   · exact hj
   · simp at hj
theorem zgg_ (c : UInt8) : pubC c = decide (c.toNat = 80 ∨ c.toNat = 87 ∨ c.toNat = 76) := by
 unfold pubC
 rw [Bool.eq_iff_iff]
 simp [← UInt8.toNat_inj]
 omega
end Go.Proofs.YtembdkodajichaaGreatDoor
-- SpecF
namespace Go.Proofs.YtembdkodajichaaGreatDoor
open Go.RowKit
end Go.Proofs.YtembdkodajichaaGreatDoor
-- SpecG
namespace Go.Proofs.YtembdkodajichaaGreatDoor
def Q (d n : Nat) (l : List UInt8) : Prop := RtD d l ∧ l.length ≤ n
theorem zdM_ {d n : Nat} {l : List UInt8} (h : Q d n l) (hd : d ≤ 64) (hn : n ≤ 16384) : right l = true := zlk_ hd h.1 (by have := h.2; omega)
def zcm_ (n : Nat) : List UInt8 := 110 :: (Lib.decDigits n ++ [59])
theorem zgh_ (n : Nat) (h : n ≤ 9223372036854775807) : Q 1 25 (zcm_ n) := by
 have hd := zba_ n om_
 exact ⟨zlm_ n 0 h, by simp [zcm_]; omega⟩
theorem zls_ (s : List UInt8) (h : s.length ≤ 4096) : Q 1 (s.length + 22) (ze4_ s) := ⟨zll_ s 0 h, (zlp_ s h).1⟩
theorem zlt_ (d : Nat) (c : UInt8) (a b : List UInt8) (hc : arity c = some 2) (hf : v1_ c [a, b] = true) (ha : RtD d a) (hb : RtD d b) :
  ∃ dp, rd (d + 1) (c :: (a ++ b)) = some ⟨c, 1 + 0 + (a ++ b).length, dp + 1, 0, [], [a, b]⟩ := by
 obtain ⟨dp, hk⟩ := ze3_ d [a, b] [] (by intro x hx; simp at hx; rcases hx with rfl | rfl <;> assumption)
 have e : cat [a, b] = a ++ b := by simp [cat]
 rw [List.append_nil, e] at hk
 refine ⟨dp, ?_⟩
 have h1 : c ≠ 110 := by rintro rfl; simp [arity] at hc
 have h2 : c ≠ 116 := by rintro rfl; simp [arity] at hc
 have h3 : c ≠ 84 := by rintro rfl; simp [arity] at hc
 simp only [rd]
 rw [if_neg h1, if_neg h2, show cnt c (a ++ b) = some (2, 0) by simp [cnt, h3, hc]]
 simp only [List.drop_zero]
 rw [show ([a, b] : List (List UInt8)).length = 2 from rfl] at hk
 rw [hk]
 simp only
 rw [if_pos hf]
theorem zlu_ {d n m : Nat} {c : UInt8} {a b : List UInt8} (hc : arity c = some 2) (hf : v1_ c [a, b] = true) (ha : Q d n a) (hb : Q d m b) : Q (d + 1) (n + m + 1) (c :: (a ++ b)) :=
 ⟨zln_ d c a b hc hf ha.1 hb.1, by have h1 := ha.2; have h2 := hb.2; simp; omega⟩
theorem zlv_ {d n : Nat} {c : UInt8} {a : List UInt8} (hc : arity c = some 1) (hf : v1_ c [a] = true) (ha : Q d n a) : Q (d + 1) (n + 1) (c :: a) :=
 ⟨zlo_ d c a hc hf ha.1, by have h1 := ha.2; simp; omega⟩
theorem zlw_ {d n m : Nat} {c : UInt8} {a b : List UInt8} (hc : arity c = some 2) (hf : v1_ c [a, b] = true) (ha : Q d n a) (hb : Q d m b) (hd : d + 1 ≤ 64) (hl : n + m + 1 ≤ 16384) :
  ∃ s, rt (c :: (a ++ b)) = some s ∧ s.op = c ∧ s.kids = [a, b] := by
 obtain ⟨dp, h⟩ := zlt_ d c a b hc hf ha.1 hb.1
 have h1 := ha.2
 have h2 := hb.2
 refine ⟨⟨c, 1 + 0 + (a ++ b).length, dp + 1, 0, [], [a, b]⟩, ?_, rfl, rfl⟩
 unfold rt
 rw [if_pos so_, ze0_ _ 64 _ _ hd h]
 simp
 omega
theorem zlx_ {d n m : Nat} {c : UInt8} {a b : List UInt8} (hc : arity c = some 2) (hf : v1_ c [a, b] = true) (ha : Q d n a) (hb : Q d m b) (hd : d + 1 ≤ 64) (hl : n + m + 1 ≤ 16384) : twoT c a b = (c :: (a ++ b), 0) := by
 unfold twoT
 rw [if_pos ⟨zdM_ ha om_ om_, zdM_ hb om_ om_⟩]
 exact zh3_ (zdM_ (zlu_ hc hf ha hb) hd hl)
theorem zgi_ {l : List UInt8} {s : Sh} (h : rt l = some s) : s.op = head l := by
 unfold rt at h
 split at h
 · split at h
   · rename_i x hx
     have := za6_ _ _ _ hx
     unfold ShOk at this
     split at h
     · simp only [Option.some.injEq] at h
       subst h
       exact this.2.2.2.2
     · simp at h
   · simp at h
 · simp at h
theorem zly_ {x : List UInt8} (h1 : (head x).toNat ≠ 86) (h2 : (head x).toNat ≠ 75) : w4_ x = 80 :: x := by
 rw [zdz_]
 split
 · rfl
 · rename_i s hs
   rw [zgi_ hs, if_neg h1, if_neg h2]
theorem zlz_ {d n : Nat} {x : List UInt8} (h : Q d n x) (h1 : (head x).toNat ≠ 86) (h2 : (head x).toNat ≠ 75) : Q (d + 1) (n + 1) (80 :: x) := by
 refine zlv_ de_ ?_ h
 simp only [v1_, if_pos, List.getD_cons_zero, Bool.and_eq_true, bne_iff_ne, ne_eq, ← UInt8.toNat_inj, UInt8.reduceToNat]
 exact ⟨h1, h2⟩
theorem zlA_ {d n : Nat} {x : List UInt8} (h : Q d n x) (h1 : (head x).toNat ≠ 86) (h2 : (head x).toNat ≠ 75) (hd : d + 1 ≤ 64) (hn : n + 1 ≤ 16384) : pubT x = (80 :: x, 0) := by
 unfold pubT
 rw [if_pos (zdM_ h om_ om_), zly_ h1 h2]
 exact zh3_ (zdM_ (zlz_ h h1 h2) hd hn)
end Go.Proofs.YtembdkodajichaaGreatDoor
-- SpecH
namespace Go.Proofs.YtembdkodajichaaGreatDoor
theorem zlB_ {d : Nat} {l : List UInt8} {x : Sh} (h : rd d l = some x) :
  ((x.op.toNat = 110 ∨ x.op.toNat = 116) ∧ x.kids = []) ∨ (x.op.toNat ≠ 110 ∧ x.op.toNat ≠ 116 ∧ (∃ r k, cnt x.op r = some (x.kids.length, k)) ∧ v1_ x.op x.kids = true) := by
 cases d with
 | zero => simp [rd] at h
 | succ d =>
   cases l with
   | nil => simp [rd] at h
   | cons c r =>
     simp only [rd, ← UInt8.toNat_inj, UInt8.reduceToNat] at h
     split at h
     · rename_i hc
       cases hn : num 59 r with
       | none => simp [hn] at h
       | some y =>
         simp only [hn, Option.map_some, Option.some.injEq] at h
         subst h
         exact .inl ⟨.inl hc, rfl⟩
     · rename_i hc0
       split at h
       · rename_i hc
         split at h
         · simp at h
         · split at h
           · simp at h
           · simp only [Option.some.injEq] at h
             subst h
             exact .inl ⟨.inr hc, rfl⟩
       · rename_i hc1
         split at h
         · simp at h
         · rename_i m k hc
           split at h
           · simp at h
           · rename_i ks dp len hk
             have h2 := zdw_ (za6_ d) m _ _ _ _ hk
             split at h
             · rename_i hf
               simp only [Option.some.injEq] at h
               subst h
               exact .inr ⟨hc0, hc1, ⟨r, k, by rw [← h2.1] at hc; exact hc⟩, hf⟩
             · simp at h
theorem zlC_ {l : List UInt8} {x : Sh} (h : rt l = some x) : rd 64 l = some x ∧ x.len = l.length ∧ l.length ≤ 16384 := by
 unfold rt at h
 split at h
 · rename_i hl
   split at h
   · rename_i y hy
     split at h
     · rename_i hlen
       simp only [Option.some.injEq] at h
       subst h
       exact ⟨hy, hlen, hl⟩
     · simp at h
   · simp at h
 · simp at h
theorem zlD_ {c : UInt8} {r : List UInt8} {m k n : Nat} (h : cnt c r = some (m, k)) (ha : arity c = some n) : m = n := by
 simp only [cnt] at h
 split at h
 · rename_i hc
   subst hc
   simp [arity] at ha
 · rw [ha] at h
   simp at h
   exact h.1.symm
theorem zlE_ {l : List UInt8} {x : Sh} (h : rt l = some x) {n : Nat} (ha : arity x.op = some n) : x.kids.length = n := by
 have h1 := (zlC_ h).1
 rcases zlB_ h1 with ⟨h2, _⟩ | ⟨_, _, ⟨r, k, h2⟩, _⟩
 · simp only [arity, ← UInt8.toNat_inj, UInt8.reduceToNat] at ha
   split at ha
   · omega
   · split at ha
     · omega
     · simp at ha
 · exact zlD_ h2 ha
theorem zh8_ {l : List UInt8} {x : Sh} (h : rt l = some x) (ha : arity x.op = some 2) : ∃ a b, x.kids = [a, b] ∧ right a = true ∧ right b = true ∧ a.length < l.length ∧ b.length < l.length := by
 have h1 := zlE_ h ha
 have h2 := zhY_ h
 match x.kids, h1, h2 with
 | [a, b], _, h2 => exact ⟨a, b, rfl, (h2 a si_).1, (h2 b si_).1, (h2 a si_).2, (h2 b si_).2⟩
def q1_ (p m s : List UInt8) : Bool :=
 match rt s with
 | none => false
 | some x => x.op.toNat == 83 && x.kids.getD 1 [] == m && w4_ (x.kids.getD 0 []) == p
end Go.Proofs.YtembdkodajichaaGreatDoor
