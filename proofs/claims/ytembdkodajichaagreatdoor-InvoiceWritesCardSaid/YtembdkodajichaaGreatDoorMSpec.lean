/- Byte texts as lists: 'bs l' is the Go string whose bytes are l; how the walk's operations read on such texts. The plain functions that the layer 'term' computes, on lists of bytes. No program stands in this text. Parts that lie one behind the other in a text; a row of parts read so far. Public keys of terms; parts of right terms are right. Terms that are written are right: digits, names, texts, terms side by side. No program stands in this text. The plain functions of the layers 'seed' and 'keys'. No program stands in this text. A number as the program reads it (up to a byte, by the library's ParseInt) is a number as the reference reads it. What the program's and the reference's layer term share. The document's answers about keys: public keys, a commitment's secret, its point, its set; rows of answers, each made only while none was refused. Whatever names two sides have: their secrets, public keys, a commitment's secret, its point, its set are made, and each side's secrets fit. No program stands in this text. The plain functions of the layer term that are left: two agree, a signature is one, a box is opened; how many parts a right term has. No program stands in this text. -/
import Derived.Test.YtembdkodajichaaGreatDoorRows
import Derived.WalkKit
import Derived.WalkSpells
import Derived.WalkLawsBesides
import Derived.Outline
import Derived.Lib.Hide
import Derived.Lib.ItoaNum
import Derived.Lib.ParseIntB
import Derived.Lib.Bytealg
import Derived.Deep.QuietTactic
import Derived.BigQuiet
import Derived.Deep.RegionLaw
import Derived.StillTailTactics
import Derived.Deep.AppendLies
import Derived.Deep.RegionHeld3
import Derived.Deep.DeepCutAuto
set_option linter.unusedSimpArgs false
set_option linter.unusedVariables false
-- Base
namespace Go.Proofs.YtembdkodajichaaGreatDoor
open Go.RowKit
theorem om_ {p : Prop} (h : p := by omega) : p := h
theorem si_ {p : Prop} (h : p := by simp) : p := h
theorem as_ {p : Prop} (h : p := by assumption) : p := h
theorem de_ {p : Prop} (h : p := by decide) : p := h
theorem ra_ {p : Prop} (h : p := by with_reducible assumption) : p := h
theorem rs_ {p : Prop} (h : p := by first | rfl | (simp; done)) : p := h
theorem so_ {p : Prop} (h : p := by simp; omega) : p := h
theorem sx_ {p : Prop} (h : p := by first | (simp; done) | (simp; omega)) : p := h
def bs (l : List UInt8) : ByteArray := ⟨l.toArray⟩
theorem bs_mk (l : List UInt8) : (⟨l.toArray⟩ : ByteArray) = bs l := rfl
theorem bs_nil : (ByteArray.empty) = bs [] := rfl
theorem bs_size (l : List UInt8) : (bs l).size = l.length := by simp [bs, ByteArray.size]
theorem bs_toList (l : List UInt8) : (bs l).toList = l := by
 rw [ByteArray.toList_eq]; simp [bs]
theorem bs_data (l : List UInt8) : (bs l).data.toList = l := by simp [bs]
theorem bs_append (a b : List UInt8) : bs a ++ bs b = bs (a ++ b) := by
 apply ByteArray.ext; simp [bs, ByteArray.data_append]
theorem bs_extract (l : List UInt8) (a b : Nat) : (bs l).extract a b = bs ((l.drop a).take (b - a)) := ByteArray.extract_mk l a b
theorem bs_get (l : List UInt8) (i : Nat) (h : i < (bs l).size) : (bs l)[i] = l[i]'(by rw [bs_size] at h; exact h) := rfl
theorem bs_inj (a b : List UInt8) : (bs a = bs b) = (a = b) := by
 apply propext; constructor
 · intro h; have := congrArg (fun x => x.data.toList) h; simpa [bs] using this
 · rintro rfl; rfl
theorem bs_ofData (s : ByteArray) : bs s.data.toList = s := by
 apply ByteArray.ext; simp [bs]
attribute [simp, go_sem] bs_mk bs_nil bs_size bs_toList bs_data bs_append bs_extract bs_get bs_inj
theorem bcell {W w1 : World} (hb : Below W.heap.size W w1) : (∀ b o, b < W.heap.size → w1.cell? ⟨b, o, none⟩ = W.cell? ⟨b, o, none⟩) ∧ (∀ b o, b < W.heap.size → w1.frozen? ⟨b, o, none⟩ = W.frozen? ⟨b, o, none⟩) :=
 ⟨fun b o h => hb.cell (p := ⟨b, o, none⟩) h, fun b o h => hb.frozen (p := ⟨b, o, none⟩) h⟩
theorem below_step {B : Nat} {w w1 w2 : World} (h2 : Below w1.heap.size w1 w2) (h1 : Below B w w1) (hB : B ≤ w.heap.size) : Below B w w2 :=
 h1.trans (h2.mono (Nat.le_trans hB h1.size))
theorem below_alloc {B : Nat} {w w1 : World} (h : Below B w w1) (hB : B ≤ w.heap.size) (o : Obj) : Below B w (w1.alloc o) := h.alloc (Nat.le_trans hB h.size) o
/-! A block known whole. -/
theorem blk_cell {w : World} {B T : Nat} {cs : Array Value} {fz : Nat × Nat} (h : w.heap[B]? = some (.cells cs T fz)) (j : Nat) : w.cell? ⟨B, j, none⟩ = cs[j]? := by simp [World.cell?, h]
theorem blk_free {w : World} {B T : Nat} {cs : Array Value} (h : w.heap[B]? = some (.cells cs T (0, 0))) (j : Nat) : w.frozen? ⟨B, j, none⟩ = false := by simp [World.frozen?, h]
theorem blk_lt {w : World} {B : Nat} {o : Obj} (h : w.heap[B]? = some o) : B < w.heap.size := (Array.getElem?_eq_some_iff.1 h).1
theorem blk_alloc {w : World} {B : Nat} {x : Obj} (h : w.heap[B]? = some x) (o : Obj) : (w.alloc o).heap[B]? = some x := by
 rw [Below.heap_alloc w o B (blk_lt h)]; exact h
theorem blk_new (w : World) (o : Obj) : (w.alloc o).heap[w.heap.size]? = some o := by
 show (w.heap.push o)[w.heap.size]? = _
 simp
theorem blk_set {w : World} {B T : Nat} {cs : Array Value} {fz : Nat × Nat} (h : w.heap[B]? = some (.cells cs T fz)) (j : Nat) (v : Value) : (w.setCell ⟨B, j, none⟩ v).heap[B]? = some (.cells (cs.setIfInBounds j v) T fz) := by
 simp [World.setCell, Array.getElem?_modify, h]
theorem blk_ne {w : World} {B : Nat} {x : Obj} (h : w.heap[B]? = some x) {p : Addr} (hp : B ≠ p.block) (v : Value) : (w.setCell p v).heap[B]? = some x := by
 rw [Below.heap_setCell w p v B hp]; exact h
theorem cell_set_ne {w : World} {b j : Nat} {p : Addr} {v u : Value} (h : w.cell? ⟨b, j, none⟩ = some u) (hp : b ≠ p.block) : (w.setCell p v).cell? ⟨b, j, none⟩ = some u := by
 have e : (w.setCell p v).heap[b]? = w.heap[b]? := Below.heap_setCell w p v b hp
 simp only [World.cell?, e]; exact h
theorem blk_drewN {w : World} {B : Nat} {x : Obj} (h : w.heap[B]? = some x) (n : Nat) : (w.drewN n).heap[B]? = some x := h
theorem blk_drew {w : World} {B : Nat} {x : Obj} (h : w.heap[B]? = some x) : w.drew.heap[B]? = some x := h
theorem cell_drew_some {w : World} {a : Addr} {u : Value} (h : w.cell? a = some u) : w.drew.cell? a = some u := h
theorem blk_below {N : Nat} {w w1 : World} {B : Nat} {x : Obj} (h : w.heap[B]? = some x) (hb : Below N w w1) (hN : B < N) : w1.heap[B]? = some x := by
 rw [hb.block B hN]; exact h
theorem blk_grown {w w1 : World} {row : Option Nat} {B : Nat} {x : Obj} (h : w.heap[B]? = some x) (hg : w.grownBy w1 row) (hr : some B ≠ row) : w1.heap[B]? = some x := by
 rw [hg.block B (blk_lt h) hr]; exact h
theorem cell_one_at {W : World} {v : Value} {e n : Nat} (h : n = W.heap.size) : ∀ (j : Nat) (u : Value), [v][j]? = some u → (W.alloc (.cells #[v] e)).cell? ((⟨n, 0, none⟩ : Addr).add j) = some u := by
 subst h; exact cell_one_new _ _ _
theorem one1 {v : Value} (h : v.oneCell' = true) : ∀ u ∈ [v], u.oneCell' = true := by
 intro u hu; rw [List.mem_singleton] at hu; subst hu; exact h
theorem own_slice {w : World} {base e size n : Nat} {v : Value} {xs : List Value} (h : w.ownsRow base e size v n xs) : ∃ ad m c, v = .slice ad m c := by
 rcases h.2 with ⟨h, _⟩ | ⟨g, cap, _, h, _⟩ <;> exact ⟨_, _, _, h⟩
theorem own_len {w : World} {base e size n m c : Nat} {a : Option Addr} {xs : List Value} (h : w.ownsRow base e size (.slice a m c) n xs) : m = n := by
 rcases h.2 with ⟨h, h2⟩ | ⟨g, cap, _, h, _⟩
 · injection h with h3 h4 h5; omega
 · injection h
theorem own_ne {w : World} {base e size n : Nat} {v : Value} {xs : List Value} (h : w.ownsRow base e size v n xs) {B T : Nat} {cs : Array Value} {fz : Nat × Nat} (hB : w.heap[B]? = some (.cells cs T fz)) (hT : T ≠ e) : some B ≠ v.ownBlock := by
 obtain ⟨_, h⟩ := h
 rcases h with ⟨rfl, _⟩ | ⟨g, cap, cur, rfl, _, hg, _⟩
 · simp [Value.ownBlock]
 · simp only [Value.ownBlock]
   intro e
   simp only [Option.some.injEq] at e
   subst e
   rw [hB] at hg
   simp at hg
   exact hT hg.2.1
theorem app_keep {w1 w4 : World} {B T j : Nat} {cs : Array Value} {fz : Nat × Nat} {v : Value} {X Y : Obj} {row : Option Nat} (h : w1.heap[B]? = some (.cells cs T fz))
  (hg : (((w1.setCell ⟨B, j, none⟩ v).alloc X).alloc Y).grownBy w4 row) (hr : some B ≠ row) : w4.heap[B]? = some (.cells (cs.setIfInBounds j v) T fz) :=
 blk_grown (blk_alloc (blk_alloc (blk_set h j v) X) Y) hg hr
theorem own_ge {w : World} {base e size n : Nat} {v : Value} {xs : List Value} (h : w.ownsRow base e size v n xs) : ∀ g, v.ownBlock = some g → base ≤ g := by
 intro g hg
 rcases h.2 with ⟨rfl, _⟩ | ⟨g', cap, cur, rfl, h', _⟩
 · simp [Value.ownBlock] at hg
 · simp [Value.ownBlock] at hg; omega
theorem own_two {w : World} {b1 b2 e1 e2 s1 s2 n1 n2 : Nat} {v1 v2 : Value} {x1 x2 : List Value} (h1 : w.ownsRow b1 e1 s1 v1 n1 x1) (h2 : w.ownsRow b2 e2 s2 v2 n2 x2) (he : e1 ≠ e2) : v1.ownBlock ≠ v2.ownBlock ∨ v1.ownBlock = none := by
 rcases h1.2 with ⟨rfl, _⟩ | ⟨g, cap, cur, rfl, _, hg, _⟩
 · exact .inr rfl
 · refine .inl ?_
   have := own_ne h2 hg (by exact he)
   simpa [Value.ownBlock] using this
theorem own_keep {w w1 : World} {base e size n : Nat} {v : Value} {xs : List Value} (h : w.ownsRow base e size v n xs) (hk : ∀ g x, base ≤ g → w.heap[g]? = some x → some g = v.ownBlock → w1.heap[g]? = some x) : w1.ownsRow base e size v n xs := by
 obtain ⟨h0, h⟩ := h
 refine ⟨h0, ?_⟩
 rcases h with h | ⟨g, cap, cur, rfl, hb, hg, r⟩
 · exact Or.inl h
 · exact Or.inr ⟨g, cap, cur, rfl, hb, hk g _ hb hg rfl, r⟩
theorem own_below {N : Nat} {w w1 : World} {base e size n : Nat} {v : Value} {xs : List Value} (h : w.ownsRow base e size v n xs) (hb : Below N w w1) (hN : N = w.heap.size) : w1.ownsRow base e size v n xs :=
 own_keep h fun g x _ hg _ => blk_below hg hb (by rw [hN]; exact blk_lt hg)
theorem own_alloc {w : World} {base e size n : Nat} {v : Value} {xs : List Value} (h : w.ownsRow base e size v n xs) (o : Obj) : (w.alloc o).ownsRow base e size v n xs :=
 own_keep h fun _ _ _ hg _ => blk_alloc hg o
theorem own_ne_set {w : World} {base e size n : Nat} {v : Value} {xs : List Value} (h : w.ownsRow base e size v n xs) {p : Addr} (hp : some p.block ≠ v.ownBlock) (u : Value) : (w.setCell p u).ownsRow base e size v n xs :=
 own_keep h fun _ _ _ hg e => blk_ne hg (fun e' => hp (by rw [← e', e])) u
theorem own_base {w : World} {base b2 e size n : Nat} {v : Value} {xs : List Value} (h : w.ownsRow base e size v n xs) (hb : b2 ≤ base) : w.ownsRow b2 e size v n xs := by
 obtain ⟨h0, h⟩ := h
 refine ⟨h0, ?_⟩
 rcases h with h | ⟨g, cap, cur, hv, hg, r⟩
 · exact Or.inl h
 · exact Or.inr ⟨g, cap, cur, hv, Nat.le_trans hb hg, r⟩
/-! What has grown, but for one row. -/
theorem gb_refl (w : World) (row : Option Nat) : w.grownBy w row := ⟨rfl, rfl, rfl, Nat.le_refl _, fun _ _ _ => rfl⟩
theorem gb_gb {w w1 w2 : World} {row : Option Nat} (h : w.grownBy w1 row) (h2 : w1.grownBy w2 row) : w.grownBy w2 row :=
 ⟨h2.os.trans h.os, h2.tape.trans h.tape, h2.output.trans h.output, Nat.le_trans h.size h2.size, fun k hk hr => (h2.block k (Nat.lt_of_lt_of_le hk h.size) hr).trans (h.block k hk hr)⟩
theorem gb_drewN {w w1 : World} {row : Option Nat} (h : w.grownBy w1 row) (n : Nat) : w.grownBy (w1.drewN n) row :=
 gb_gb h ⟨rfl, rfl, rfl, Nat.le_refl _, fun _ _ _ => rfl⟩
theorem gb_drew {w w1 : World} {row : Option Nat} (h : w.grownBy w1 row) : w.grownBy w1.drew row :=
 gb_gb h ⟨rfl, rfl, rfl, Nat.le_refl _, fun _ _ _ => rfl⟩
theorem gb_alloc {w w1 : World} {row : Option Nat} (h : w.grownBy w1 row) (o : Obj) : w.grownBy (w1.alloc o) row :=
 gb_gb h ⟨rfl, rfl, rfl, by simp, fun k hk _ => Below.heap_alloc _ _ _ hk⟩
theorem gb_set {w w1 : World} {row : Option Nat} (h : w.grownBy w1 row) {p : Addr} (hp : some p.block = row ∨ w.heap.size ≤ p.block) (v : Value) : w.grownBy (w1.setCell p v) row :=
 ⟨h.os, h.tape, h.output, by simpa [World.setCell] using h.size, fun k hk hr => by
   rw [Below.heap_setCell _ _ _ _ (by rintro rfl; rcases hp with hp | hp; exact hr hp; omega)]; exact h.block k hk hr⟩
theorem gb_below {w w1 w2 : World} {row : Option Nat} (h : w.grownBy w1 row) (hb : Below w1.heap.size w1 w2) : w.grownBy w2 row :=
 gb_gb h ⟨hb.os, hb.tape, hb.output, hb.size, fun k hk _ => hb.block k hk⟩
theorem gb_lift {w w1 : World} {row : Option Nat} (h : w.grownBy w1 none) : w.grownBy w1 row :=
 ⟨h.os, h.tape, h.output, h.size, fun k hk _ => h.block k hk si_⟩
/-! What has grown, but for some rows. -/
structure GL (rs : List Nat) (w w' : World) : Prop where
 os : w'.os = w.os
 tape : w'.tape = w.tape
 output : w'.output = w.output
 size : w.heap.size ≤ w'.heap.size
 block : ∀ k, k < w.heap.size → k ∉ rs → w'.heap[k]? = w.heap[k]?
theorem gl_refl (rs : List Nat) (w : World) : GL rs w w := ⟨rfl, rfl, rfl, Nat.le_refl _, fun _ _ _ => rfl⟩
theorem gl_step {rs rs' : List Nat} {w w1 w2 : World} (h2 : GL rs' w1 w2) (h : GL rs w w1) (hr : ∀ r ∈ rs', r ∈ rs ∨ w.heap.size ≤ r) : GL rs w w2 :=
 ⟨h2.os.trans h.os, h2.tape.trans h.tape, h2.output.trans h.output, Nat.le_trans h.size h2.size, fun k hk hn =>
   (h2.block k (Nat.lt_of_lt_of_le hk h.size) (fun hm => by rcases hr k hm with h' | h'; exact hn h'; omega)).trans (h.block k hk hn)⟩
theorem gl_drewN {rs : List Nat} {w w1 : World} (h : GL rs w w1) (n : Nat) : GL rs w (w1.drewN n) := ⟨h.os, h.tape, h.output, h.size, h.block⟩
theorem gl_drew {rs : List Nat} {w w1 : World} (h : GL rs w w1) : GL rs w w1.drew := ⟨h.os, h.tape, h.output, h.size, h.block⟩
theorem gl_alloc {rs : List Nat} {w w1 : World} (h : GL rs w w1) (o : Obj) : GL rs w (w1.alloc o) :=
 ⟨h.os, h.tape, h.output, Nat.le_trans h.size si_, fun k hk hn => (Below.heap_alloc _ _ _ (Nat.lt_of_lt_of_le hk h.size)).trans (h.block k hk hn)⟩
theorem gl_set {rs : List Nat} {w w1 : World} (h : GL rs w w1) {p : Addr} (hp : p.block ∈ rs ∨ w.heap.size ≤ p.block) (v : Value) : GL rs w (w1.setCell p v) :=
 ⟨h.os, h.tape, h.output, by simpa [World.setCell] using h.size, fun k hk hn => by
   rw [Below.heap_setCell _ _ _ _ (by rintro rfl; rcases hp with hp | hp; exact hn hp; omega)]; exact h.block k hk hn⟩
theorem gl_setn {rs : List Nat} {w w1 : World} {p : Addr} (hp : w.heap.size ≤ p.block) (h : GL rs w w1) (v : Value) : GL rs w (w1.setCell p v) := gl_set h (.inr hp) v
theorem gl_seti {rs : List Nat} {w w1 : World} {p : Addr} (hp : p.block ∈ rs) (h : GL rs w w1) (v : Value) : GL rs w (w1.setCell p v) := gl_set h (.inl hp) v
theorem gl_below {rs : List Nat} {w w1 w2 : World} (hb : Below w1.heap.size w1 w2) (h : GL rs w w1) : GL rs w w2 :=
 ⟨hb.os.trans h.os, hb.tape.trans h.tape, hb.output.trans h.output, Nat.le_trans h.size hb.size, fun k hk hn => (hb.block k (Nat.lt_of_lt_of_le hk h.size)).trans (h.block k hk hn)⟩
theorem gl_grown {rs : List Nat} {w w1 w2 : World} {row : Option Nat} (hb : w1.grownBy w2 row) (h : GL rs w w1) (hr : ∀ r, row = some r → r ∈ rs ∨ w.heap.size ≤ r) : GL rs w w2 :=
 ⟨hb.os.trans h.os, hb.tape.trans h.tape, hb.output.trans h.output, Nat.le_trans h.size hb.size, fun k hk hn =>
   (hb.block k (Nat.lt_of_lt_of_le hk h.size) (fun e => by rcases hr k e.symm with h' | h'; exact hn h'; omega)).trans (h.block k hk hn)⟩
theorem below_drewN {B : Nat} {a w : World} (h : Below B a w) (n : Nat) : Below B a (w.drewN n) := h.trans ⟨rfl, rfl, rfl, Nat.le_refl _, fun _ _ => rfl⟩
theorem bl_ {B : Nat} {w w1 : World} (h : Below B w w1 := by (repeat' (first | with_reducible exact Below.refl _ _ | with_reducible assumption | with_reducible refine below_alloc ?_ ?_ _ | with_reducible refine Below.setCell ?_ ?_ _ | with_reducible refine Below.drew ?_ | with_reducible refine below_drewN ?_ _ | with_reducible refine below_step (by assumption) ?_ ?_ | (with_reducible refine Below.trans ?_ (Below.mono (by assumption) ?_)) | exact Nat.le_refl _ | (simp; done) | (simp; omega) | omega))) : Below B w w1 := h
theorem gl_ {rs : List Nat} {w w1 : World} (h : GL rs w w1 := by (repeat' (first | with_reducible exact gl_refl _ _ | with_reducible assumption | with_reducible refine gl_alloc ?_ _ | with_reducible refine gl_drewN ?_ _ | with_reducible refine gl_drew ?_ | (with_reducible refine gl_setn ?_ ?_ _; · (first | exact Nat.le_refl _ | (simp; done) | (simp; omega) | omega)) | (with_reducible refine gl_seti ?_ ?_ _; · (simp; done)) | with_reducible refine gl_below (by with_reducible assumption) ?_ | with_reducible refine gl_step (by with_reducible assumption) ?_ (by first | (simp; done) | (simp; omega)) | with_reducible refine gl_grown (by with_reducible assumption) ?_ (by first | (simp; done) | (simp; omega))))) : GL rs w w1 := h
theorem gl_to_below {w w1 : World} (h : GL [] w w1) : Below w.heap.size w w1 := ⟨h.os, h.tape, h.output, h.size, fun k hk => h.block k hk si_⟩
theorem blk_gl {rs : List Nat} {w w1 : World} {B : Nat} {x : Obj} (h : w.heap[B]? = some x) (hg : GL rs w w1) (hr : B ∉ rs) : w1.heap[B]? = some x := by
 rw [hg.block B (blk_lt h) hr]; exact h
theorem own_gl {rs : List Nat} {w w1 : World} {base e size n : Nat} {v : Value} {xs : List Value} (h : w.ownsRow base e size v n xs) (hg : GL rs w w1) (hr : ∀ r ∈ rs, v.ownBlock ≠ some r) : w1.ownsRow base e size v n xs :=
 own_keep h fun g _ _ hx he => blk_gl hx hg (fun hm => hr g hm he.symm)
end Go.Proofs.YtembdkodajichaaGreatDoor
-- Spec
namespace Go.Proofs.YtembdkodajichaaGreatDoor
def numGo (e : UInt8) : List UInt8 → Nat → Nat → Option (Nat × Nat)
 | [], _, _ => none
 | c :: r, n, k =>
   if c.toNat = e.toNat ∧ 0 < k then some (n, k + 1)
   else if c.toNat < 48 ∨ 57 < c.toNat ∨ (n = 0 ∧ 0 < k) then none
   else if (9223372036854775807 - (c.toNat - 48)) / 10 < n then none
   else numGo e r (n * 10 + (c.toNat - 48)) (k + 1)
def num (e : UInt8) (l : List UInt8) : Option (Nat × Nat) := numGo e l 0 0
structure Sh where
 op : UInt8
 len : Nat
 deep : Nat
 n : Nat
 text : List UInt8
 kids : List (List UInt8)
def arity (c : UInt8) : Option Nat :=
 if c = 80 ∨ c = 72 then some 1
 else if c = 83 ∨ c = 66 ∨ c = 88 ∨ c = 68 ∨ c = 86 ∨ c = 87 ∨ c = 75 ∨ c = 76 then some 2 else none
def pubC (c : UInt8) : Bool := c == 80 || c == 87 || c == 76
def leB (a b : List UInt8) : Bool := Op.bytesLess a b || a == b
def head (l : List UInt8) : UInt8 := l.headD 0
def fitsB (c : UInt8) (ks : List (List UInt8)) : Bool :=
 if c = 80 then head (ks.getD 0 []) != 86 && head (ks.getD 0 []) != 75
 else if c = 88 then leB (ks.getD 0 []) (ks.getD 1 [])
 else if c = 87 then pubC (head (ks.getD 0 [])) && pubC (head (ks.getD 1 []))
 else if c = 76 then pubC (head (ks.getD 0 []))
 else true
def kidsBy (f : List UInt8 → Option Sh) : Nat → List UInt8 → Option (List (List UInt8) × Nat × Nat)
 | 0, _ => some ([], 0, 0)
 | m + 1, l =>
   match f l with
   | none => none
   | some x =>
     match kidsBy f m (l.drop x.len) with
     | none => none
     | some (ks, dp, len) => some (l.take x.len :: ks, max x.deep dp, x.len + len)
def cnt (c : UInt8) (r : List UInt8) : Option (Nat × Nat) :=
 if c = 84 then (match num 58 r with | none => none | some (n, k) => if 32 < n then none else some (n, k))
 else (arity c).map fun n => (n, 0)
def rd : Nat → List UInt8 → Option Sh
 | 0, _ => none
 | _ + 1, [] => none
 | d + 1, c :: r =>
   if c = 110 then (num 59 r).map fun (n, k) => ⟨c, 1 + k, 1, n, [], []⟩
   else if c = 116 then
    match num 58 r with
    | none => none
    | some (n, k) => if 4096 < n ∨ r.length - k < n then none else some ⟨c, 1 + k + n, 1, n, (r.drop k).take n, []⟩
   else
    match cnt c r with
    | none => none
    | some (m, k) =>
      match kidsBy (rd d) m (r.drop k) with
      | none => none
      | some (ks, dp, len) => if fitsB c ks then some ⟨c, 1 + k + len, dp + 1, 0, [], ks⟩ else none
theorem numGo_bound (e : UInt8) : ∀ (l : List UInt8) (m k n c : Nat), m ≤ 9223372036854775807 → numGo e l m k = some (n, c) → k + 1 ≤ c ∧ c ≤ k + l.length ∧ n ≤ 9223372036854775807
 | [], m, k, n, c, _, h => by simp [numGo] at h
 | x :: r, m, k, n, c, hm, h => by
   have hx := x.toNat_lt
   simp only [numGo] at h
   split at h
   · simp only [Option.some.injEq, Prod.mk.injEq] at h
     obtain ⟨rfl, rfl⟩ := h
     simp; omega
   · split at h
     · simp at h
     · split at h
       · simp at h
       · have := numGo_bound e r _ _ n c om_ h
         simp; omega
theorem num_bound {e : UInt8} {l : List UInt8} {n c : Nat} (h : num e l = some (n, c)) : 2 ≤ c ∧ c ≤ l.length ∧ n ≤ 9223372036854775807 := by
 have h1 := numGo_bound e l 0 0 n c om_ h
 refine ⟨?_, by omega, h1.2.2⟩
 cases l with
 | nil => simp [num, numGo] at h
 | cons x r =>
   simp only [num, numGo] at h
   split at h
   · omega
   · split at h
     · simp at h
     · split at h
       · simp at h
       · have := numGo_bound e r _ _ n c (by have := x.toNat_lt; omega) h
         omega
theorem dec_len (k : Nat) : ∀ n : Nat, n < 10 ^ (k + 1) → (Lib.decDigits n).length ≤ k + 1 := by
 induction k with
 | zero => intro n h; rw [Lib.decDigits_length, Lib.nDigits_small (by simpa using h)]; omega
 | succ k ih =>
   intro n h
   by_cases h1 : n < 10
   · rw [Lib.decDigits_length, Lib.nDigits_small h1]; omega
   · have := ih (n / 10) (by rw [Nat.pow_succ] at h; omega)
     rw [Lib.decDigits_length] at *
     rw [Lib.nDigits_big h1]; omega
theorem dec_len20 (n : Nat) (h : n ≤ 18446744073709551615) : (Lib.decDigits n).length ≤ 20 := dec_len 19 n (by
 have : (10 : Nat) ^ (19 + 1) = 100000000000000000000 := by decide
 omega)
theorem dec_pos (n : Nat) : 1 ≤ (Lib.decDigits n).length := by rw [Lib.decDigits_length]; exact Lib.nDigits_pos n
/-! What was read lies within the text. -/
def sumL : List (List UInt8) → Nat
 | [] => 0
 | k :: ks => k.length + sumL ks
def ShOk (d : Nat) (l : List UInt8) (x : Sh) : Prop := 1 ≤ x.len ∧ x.len ≤ l.length ∧ 1 ≤ x.deep ∧ x.deep ≤ d ∧ x.op = head l
theorem kidsBy_ok {f : List UInt8 → Option Sh} {d : Nat} (hf : ∀ l x, f l = some x → ShOk d l x) : ∀ (m : Nat) (l : List UInt8) (ks : List (List UInt8)) (dp len : Nat),
  kidsBy f m l = some (ks, dp, len) → ks.length = m ∧ len = sumL ks ∧ len ≤ l.length ∧ dp ≤ d ∧ (∀ k ∈ ks, k ≠ [])
 | 0, l, ks, dp, len, h => by
   simp only [kidsBy, Option.some.injEq, Prod.mk.injEq] at h
   obtain ⟨rfl, rfl, rfl⟩ := h
   simp [sumL]
 | m + 1, l, ks, dp, len, h => by
   simp only [kidsBy] at h
   split at h
   · simp at h
   · rename_i x hx
     have h1 := hf _ _ hx
     unfold ShOk at h1
     split at h
     · simp at h
     · rename_i ks' dp' len' hk
       have h2 := kidsBy_ok hf m _ _ _ _ hk
       simp only [Option.some.injEq, Prod.mk.injEq] at h
       obtain ⟨rfl, rfl, rfl⟩ := h
       rw [List.length_drop] at h2
       refine ⟨by simp [h2.1], ?_, by omega, Nat.max_le.2 ⟨by omega, by omega⟩, ?_⟩
       · simp only [sumL, List.length_take]; omega
       · intro k hk
         rcases List.mem_cons.1 hk with rfl | hk
         · intro e; have h3 := congrArg List.length e; rw [List.length_take, List.length_nil] at h3; omega
         · exact h2.2.2.2.2 k hk
theorem cnt_bound {c : UInt8} {r : List UInt8} {m k : Nat} (h : cnt c r = some (m, k)) : m ≤ 32 ∧ k ≤ r.length := by
 simp only [cnt] at h
 split at h
 · split at h
   · simp at h
   · rename_i hn
     have := num_bound hn
     split at h
     · simp at h
     · simp at h; omega
 · simp only [arity] at h
   split at h
   · simp at h; omega
   · split at h
     · simp at h; omega
     · simp at h
theorem rd_ok : ∀ (d : Nat) (l : List UInt8) (x : Sh), rd d l = some x → ShOk d l x
 | 0, _, _, h => by simp [rd] at h
 | _ + 1, [], _, h => by simp [rd] at h
 | d + 1, c :: r, x, h => by
   unfold ShOk
   simp only [rd] at h
   split at h
   · cases hn : num 59 r with
     | none => simp [hn] at h
     | some y =>
       have := num_bound hn
       simp only [hn, Option.map_some, Option.some.injEq] at h
       subst h
       simp [head]; omega
   · split at h
     · split at h
       · simp at h
       · rename_i hn
         have := num_bound hn
         split at h
         · simp at h
         · simp only [Option.some.injEq] at h
           subst h
           simp [head]; omega
     · split at h
       · simp at h
       · rename_i m k hc
         have hcb := cnt_bound hc
         split at h
         · simp at h
         · rename_i ks dp len hk
           have h2 := kidsBy_ok (rd_ok d) m _ _ _ _ hk
           rw [List.length_drop] at h2
           split at h
           · simp only [Option.some.injEq] at h
             subst h
             simp [head]; omega
           · simp at h
end Go.Proofs.YtembdkodajichaaGreatDoor
-- SpecB
namespace Go.Proofs.YtembdkodajichaaGreatDoor
def offsL (b : Nat) : List (List UInt8) → List Nat
 | [] => [b]
 | k :: ks => b :: offsL (b + k.length) ks
def CutsAt (l : List UInt8) : Nat → List (List UInt8) → Prop
 | _, [] => True
 | b, k :: ks => k = (l.drop b).take k.length ∧ b + k.length ≤ l.length ∧ k ≠ [] ∧ CutsAt l (b + k.length) ks
theorem offsL_length (ks : List (List UInt8)) : ∀ b, (offsL b ks).length = ks.length + 1 := by
 induction ks with
 | nil => intro b; rfl
 | cons k ks ih => intro b; simp [offsL, ih]
theorem offsL_snoc (k : List UInt8) (ks : List (List UInt8)) : ∀ b, offsL b (ks ++ [k]) = offsL b ks ++ [b + sumL ks + k.length] := by
 induction ks with
 | nil => intro b; simp [offsL, sumL]
 | cons x ks ih => intro b; simp [offsL, sumL, ih, Nat.add_assoc]
theorem sumL_snoc (k : List UInt8) (ks : List (List UInt8)) : sumL (ks ++ [k]) = sumL ks + k.length := by
 induction ks with
 | nil => simp [sumL]
 | cons x ks ih => simp [sumL, ih, Nat.add_assoc]
theorem cutsAt_snoc {l : List UInt8} {k : List UInt8} (ks : List (List UInt8)) : ∀ b, CutsAt l b ks → k = (l.drop (b + sumL ks)).take k.length → b + sumL ks + k.length ≤ l.length → k ≠ [] → CutsAt l b (ks ++ [k]) := by
 induction ks with
 | nil => intro b _ h1 h2 h3; simpa [CutsAt, sumL] using ⟨by simpa [sumL] using h1, by simpa [sumL] using h2, h3⟩
 | cons x ks ih =>
   intro b h h1 h2 h3
   simp only [sumL] at h1 h2
   rw [← Nat.add_assoc] at h1 h2
   exact ⟨h.1, h.2.1, h.2.2.1, ih _ h.2.2.2 h1 h2 h3⟩
def KProg (f : List UInt8 → Option Sh) (l : List UInt8) (b m k c dp : Nat) (ks : List (List UInt8)) : Prop :=
 kidsBy f m (l.drop b) = match kidsBy f (m - k) (l.drop (b + c)) with
  | none => none
  | some (ks', dp', len') => some (ks ++ ks', max dp dp', c + len')
theorem kprog_start (f : List UInt8 → Option Sh) (l : List UInt8) (b m : Nat) : KProg f l b m 0 0 0 [] := by
 unfold KProg
 rw [Nat.sub_zero, Nat.add_zero]
 cases kidsBy f m (l.drop b) with
 | none => rfl
 | some x => obtain ⟨ks, dp, len⟩ := x; simp
theorem kprog_none {f : List UInt8 → Option Sh} {l : List UInt8} {b m k c dp : Nat} {ks : List (List UInt8)} (h : KProg f l b m k c dp ks) (hk : k < m) (hf : f (l.drop (b + c)) = none) : kidsBy f m (l.drop b) = none := by
 unfold KProg at h
 rw [h, show m - k = (m - k - 1) + 1 by omega, kidsBy, hf]
theorem kprog_some {f : List UInt8 → Option Sh} {l : List UInt8} {b m k c dp : Nat} {ks : List (List UInt8)} {x : Sh} (h : KProg f l b m k c dp ks) (hk : k < m) (hf : f (l.drop (b + c)) = some x) :
  KProg f l b m (k + 1) (c + x.len) (max dp x.deep) (ks ++ [(l.drop (b + c)).take x.len]) := by
 unfold KProg at *
 rw [h, show m - k = (m - (k + 1)) + 1 by omega, kidsBy, hf]
 simp only [List.drop_drop]
 rw [Nat.add_assoc b c x.len]
 cases kidsBy f (m - (k + 1)) (l.drop (b + (c + x.len))) with
 | none => rfl
 | some y =>
   obtain ⟨ks', dp', len'⟩ := y
   simp only [List.append_assoc, List.cons_append, List.nil_append, Option.some.injEq, Prod.mk.injEq, true_and]
   exact ⟨by omega, by omega⟩
theorem kprog_end {f : List UInt8 → Option Sh} {l : List UInt8} {b m c dp : Nat} {ks : List (List UInt8)} (h : KProg f l b m m c dp ks) : kidsBy f m (l.drop b) = some (ks, dp, c) := by
 unfold KProg at h
 rw [h, Nat.sub_self, kidsBy]
 simp
/-! What the layer makes: a text and an error's number. -/
def rt (l : List UInt8) : Option Sh :=
 if l.length ≤ 16384 then (match rd 64 l with | some x => if x.len = l.length then some x else none | none => none) else none
def right (l : List UInt8) : Bool := (rt l).isSome
def made (l : List UInt8) : List UInt8 × Int := if right l = true then (l, 0) else ([], 3)
def textT (l : List UInt8) : List UInt8 × Int := if 4096 < l.length then ([], 3) else (116 :: (Lib.decDigits l.length ++ 58 :: l), 0)
def oneT (op : UInt8) (x : List UInt8) : List UInt8 × Int := if right x = true then made (op :: x) else ([], 10)
def twoT (op : UInt8) (x y : List UInt8) : List UInt8 × Int := if right x = true ∧ right y = true then made (op :: (x ++ y)) else ([], 10)
theorem right_len {l : List UInt8} (h : right l = true) : 1 ≤ l.length ∧ l.length ≤ 16384 := by
 unfold right rt at h
 split at h
 · refine ⟨?_, by assumption⟩
   cases l with
   | nil => simp [rd] at h
   | cons c r => simp
 · simp at h
theorem kidsBy_cuts {f : List UInt8 → Option Sh} {d : Nat} (hf : ∀ l x, f l = some x → ShOk d l x) (l : List UInt8) : ∀ (m b : Nat) (ks : List (List UInt8)) (dp len : Nat),
  b ≤ l.length → kidsBy f m (l.drop b) = some (ks, dp, len) → CutsAt l b ks
 | 0, b, ks, dp, len, hb, h => by
   simp only [kidsBy, Option.some.injEq, Prod.mk.injEq] at h
   obtain ⟨rfl, _, _⟩ := h
   trivial
 | m + 1, b, ks, dp, len, hb, h => by
   simp only [kidsBy] at h
   split at h
   · simp at h
   · rename_i x hx
     have h1 := hf _ _ hx
     unfold ShOk at h1
     rw [List.length_drop] at h1
     split at h
     · simp at h
     · rename_i ks' dp' len' hk
       rw [List.drop_drop] at hk
       simp only [Option.some.injEq, Prod.mk.injEq] at h
       obtain ⟨rfl, _, _⟩ := h
       have hl : ((l.drop b).take x.len).length = x.len := by rw [List.length_take, List.length_drop]; omega
       have h2 := kidsBy_cuts hf l m (b + x.len) ks' dp' len' om_ hk
       refine ⟨by rw [hl], by rw [hl]; omega, ?_, by rw [hl]; exact h2⟩
       intro e
       rw [e] at hl
       simp at hl
       omega
theorem rd_parts {d : Nat} {l : List UInt8} {x : Sh} (h : rd d l = some x) :
  (x.op.toNat = 110 → x.text = [] ∧ x.kids = [] ∧ x.n ≤ 9223372036854775807) ∧
  (x.op.toNat = 116 → x.kids = [] ∧ x.n + 3 ≤ x.len ∧ x.text = (l.drop (x.len - x.n)).take x.n) ∧
  (x.op.toNat ≠ 110 → x.op.toNat ≠ 116 → x.text = [] ∧ CutsAt l (x.len - sumL x.kids) x.kids ∧ sumL x.kids + 1 ≤ x.len ∧ x.n = 0 ∧ x.kids.length ≤ 32) := by
 cases d with
 | zero => simp [rd] at h
 | succ d =>
   cases l with
   | nil => simp [rd] at h
   | cons c r =>
     simp only [rd, ← UInt8.toNat_inj, UInt8.reduceToNat] at h
     split at h
     · rename_i hc
       cases hn : num 59 r with
       | none => simp [hn] at h
       | some y =>
         have := num_bound hn
         simp only [hn, Option.map_some, Option.some.injEq] at h
         subst h
         exact ⟨fun _ => ⟨rfl, rfl, this.2.2⟩, fun h => by simp only at h; omega, fun h => by simp only at h; omega⟩
     · split at h
       · rename_i hc0 hc
         split at h
         · simp at h
         · rename_i hn
           have := num_bound hn
           split at h
           · simp at h
           · simp only [Option.some.injEq] at h
             subst h
             refine ⟨fun h => by simp only at h; omega, fun _ => ⟨rfl, by simp only; omega, ?_⟩, fun _ h => by simp only at h; omega⟩
             simp only [Nat.add_sub_cancel]
             rw [Nat.add_comm 1, List.drop_succ_cons]
       · rename_i hc0 hc1
         split at h
         · simp at h
         · rename_i m k hc
           have hcb := cnt_bound hc
           split at h
           · simp at h
           · rename_i ks dp len hk
             have h2 := kidsBy_ok (rd_ok d) m _ _ _ _ hk
             rw [List.length_drop] at h2
             split at h
             · simp only [Option.some.injEq] at h
               subst h
               refine ⟨fun h => absurd h hc0, fun h => absurd h hc1, fun _ _ => ⟨rfl, ?_, by simp only; omega, rfl, by simp only; omega⟩⟩
               simp only
               rw [show 1 + k + len - sumL ks = 1 + k by omega]
               exact kidsBy_cuts (rd_ok d) (c :: r) m (1 + k) ks dp len so_ (by rw [Nat.add_comm 1, List.drop_succ_cons]; exact hk)
             · simp at h
theorem cutsAt_get {l : List UInt8} : ∀ (ks : List (List UInt8)) (b j : Nat), CutsAt l b ks → j < ks.length →
  ∃ a e : Nat, (offsL b ks)[j]? = some a ∧ (offsL b ks)[j + 1]? = some e ∧ a ≤ e ∧ e ≤ l.length ∧ ks[j]? = some ((l.drop a).take (e - a))
 | [], _, _, _, hj => by simp at hj
 | k :: ks, b, 0, h, _ => by
   obtain ⟨h1, h2, _, _⟩ := h
   refine ⟨b, b + k.length, rfl, ?_, by omega, h2, ?_⟩
   · cases ks <;> rfl
   · rw [Nat.add_sub_cancel_left, ← h1]; rfl
 | k :: ks, b, j + 1, h, hj => by
   obtain ⟨a, e, h1, h2, h3⟩ := cutsAt_get ks (b + k.length) j h.2.2.2 (by simpa using hj)
   exact ⟨a, e, by simpa [offsL] using h1, by simpa [offsL] using h2, h3.1, h3.2.1, by simpa using h3.2.2⟩
end Go.Proofs.YtembdkodajichaaGreatDoor
-- SpecC
namespace Go.Proofs.YtembdkodajichaaGreatDoor
theorem numGo_app (e : UInt8) (m : List UInt8) : ∀ (l : List UInt8) (v k n c : Nat), numGo e l v k = some (n, c) → numGo e (l ++ m) v k = some (n, c)
 | [], v, k, n, c, h => by simp [numGo] at h
 | x :: r, v, k, n, c, h => by
   simp only [numGo, List.cons_append] at h ⊢
   split at h
   · rw [if_pos as_]; exact h
   · rw [if_neg as_]
     split at h
     · simp at h
     · rw [if_neg as_]
       split at h
       · simp at h
       · rw [if_neg as_]
         exact numGo_app e m r _ _ n c h
theorem num_app {e : UInt8} {l : List UInt8} {n c : Nat} (h : num e l = some (n, c)) (m : List UInt8) : num e (l ++ m) = some (n, c) := numGo_app e m l 0 0 n c h
theorem numGo_cut (e : UInt8) : ∀ (l : List UInt8) (v k n c : Nat), numGo e l v k = some (n, c) → ∀ j, c ≤ k + j → numGo e (l.take j) v k = some (n, c)
 | [], v, k, n, c, h => by simp [numGo] at h
 | x :: r, v, k, n, c, h => fun j hj => by
   have hb := numGo_bound' e (x :: r) v k n c h
   cases j with
   | zero => omega
   | succ j =>
     simp only [numGo, List.take_succ_cons] at h ⊢
     split at h
     · rw [if_pos as_]; exact h
     · rw [if_neg as_]
       split at h
       · simp at h
       · rw [if_neg as_]
         split at h
         · simp at h
         · rw [if_neg as_]
           exact numGo_cut e r _ _ n c h j om_
where
 numGo_bound' (e : UInt8) : ∀ (l : List UInt8) (v k n c : Nat), numGo e l v k = some (n, c) → k + 1 ≤ c
  | [], v, k, n, c, h => by simp [numGo] at h
  | x :: r, v, k, n, c, h => by
    simp only [numGo] at h
    split at h
    · simp at h; omega
    · split at h
      · simp at h
      · split at h
        · simp at h
        · have := numGo_bound' e r _ _ n c h
          omega
theorem num_cut {e : UInt8} {l : List UInt8} {n c : Nat} (h : num e l = some (n, c)) {j : Nat} (hj : c ≤ j) : num e (l.take j) = some (n, c) :=
 numGo_cut e l 0 0 n c h j om_
theorem kidsBy_cut {f : List UInt8 → Option Sh} {d : Nat} (hf : ∀ l x, f l = some x → ShOk d l x) (hc : ∀ l x j, f l = some x → x.len ≤ j → f (l.take j) = some x) :
  ∀ (m : Nat) (l : List UInt8) (ks : List (List UInt8)) (dp len j : Nat), kidsBy f m l = some (ks, dp, len) → len ≤ j → kidsBy f m (l.take j) = some (ks, dp, len)
 | 0, l, ks, dp, len, j, h, _ => by simpa [kidsBy] using h
 | m + 1, l, ks, dp, len, j, h, hj => by
   simp only [kidsBy] at h ⊢
   split at h
   · simp at h
   · rename_i x hx
     split at h
     · simp at h
     · rename_i ks' dp' len' hk
       simp only [Option.some.injEq, Prod.mk.injEq] at h
       obtain ⟨rfl, rfl, rfl⟩ := h
       rw [hc l x j hx om_]
       simp only
       rw [List.drop_take, kidsBy_cut hf hc m (l.drop x.len) ks' dp' len' (j - x.len) hk om_]
       simp only
       rw [List.take_take, Nat.min_eq_left om_]
theorem cnt_cut {c : UInt8} {r : List UInt8} {m k j : Nat} (h : cnt c r = some (m, k)) (hj : k ≤ j) : cnt c (r.take j) = some (m, k) := by
 simp only [cnt] at h ⊢
 split at h
 · rw [if_pos as_]
   cases hn : num 58 r with
   | none => simp [hn] at h
   | some y =>
     obtain ⟨n, k'⟩ := y
     simp only [hn] at h
     split at h
     · simp at h
     · simp only [Option.some.injEq, Prod.mk.injEq] at h
       obtain ⟨rfl, rfl⟩ := h
       rw [num_cut hn hj]
       simp [*]
 · rw [if_neg as_]; exact h
theorem rd_cut : ∀ (d : Nat) (l : List UInt8) (x : Sh) (j : Nat), rd d l = some x → x.len ≤ j → rd d (l.take j) = some x
 | 0, _, _, _, h, _ => by simp [rd] at h
 | _ + 1, [], _, _, h, _ => by simp [rd] at h
 | d + 1, c :: r, x, j, h, hj => by
   have hok := rd_ok _ _ _ h
   unfold ShOk at hok
   cases j with
   | zero => omega
   | succ j =>
     simp only [rd, List.take_succ_cons] at h ⊢
     split at h
     · rw [if_pos as_]
       cases hn : num 59 r with
       | none => simp [hn] at h
       | some y =>
         obtain ⟨n, k⟩ := y
         simp only [hn, Option.map_some, Option.some.injEq] at h
         subst h
         simp only at hj
         rw [num_cut hn om_]; rfl
     · rw [if_neg as_]
       split at h
       · rw [if_pos as_]
         split at h
         · simp at h
         · rename_i n k hn
           have := num_bound hn
           split at h
           · simp at h
           · simp only [Option.some.injEq] at h
             subst h
             simp only at hj
             rw [num_cut hn om_]
             simp only
             rw [if_neg (by rw [List.length_take]; omega), List.drop_take, List.take_take, Nat.min_eq_left om_]
       · rw [if_neg as_]
         split at h
         · simp at h
         · rename_i m k hc
           split at h
           · simp at h
           · rename_i ks dp len hk
             split at h
             · rename_i hfit
               simp only [Option.some.injEq] at h
               subst h
               simp only at hj
               rw [cnt_cut hc om_]
               simp only
               rw [List.drop_take, kidsBy_cut (rd_ok d) (rd_cut d) m _ ks dp len (j - k) hk om_]
               simp [hfit]
             · simp at h
theorem rd_mono : ∀ (d d' : Nat) (l : List UInt8) (x : Sh), d ≤ d' → rd d l = some x → rd d' l = some x
 | 0, _, _, _, _, h => by simp [rd] at h
 | _ + 1, 0, _, _, hd, _ => by omega
 | _ + 1, _ + 1, [], _, _, h => by simp [rd] at h
 | d + 1, d' + 1, c :: r, x, hd, h => by
   simp only [rd] at h ⊢
   split at h
   · rw [if_pos as_]; exact h
   · rw [if_neg as_]
     split at h
     · rw [if_pos as_]; exact h
     · rw [if_neg as_]
       split at h
       · simp at h
       · rename_i m k hc
         split at h
         · simp at h
         · rename_i ks dp len hk
           have : kidsBy (rd d') m (r.drop k) = some (ks, dp, len) := kidsBy_mono (fun l x => rd_mono d d' l x om_) m _ _ _ _ hk
           rw [this]; exact h
where
 kidsBy_mono {f g : List UInt8 → Option Sh} (hfg : ∀ l x, f l = some x → g l = some x) : ∀ (m : Nat) (l : List UInt8) (ks : List (List UInt8)) (dp len : Nat),
   kidsBy f m l = some (ks, dp, len) → kidsBy g m l = some (ks, dp, len)
  | 0, _, _, _, _, h => by simpa [kidsBy] using h
  | m + 1, l, ks, dp, len, h => by
    simp only [kidsBy] at h ⊢
    split at h
    · simp at h
    · rename_i x hx
      split at h
      · simp at h
      · rename_i ks' dp' len' hk
        rw [hfg _ _ hx]
        simp only
        rw [kidsBy_mono hfg m _ _ _ _ hk]
        exact h
theorem kidsBy_each {f : List UInt8 → Option Sh} {d : Nat} (hf : ∀ l x, f l = some x → ShOk d l x) (hc : ∀ l x j, f l = some x → x.len ≤ j → f (l.take j) = some x) :
  ∀ (m : Nat) (l : List UInt8) (ks : List (List UInt8)) (dp len : Nat), kidsBy f m l = some (ks, dp, len) → ∀ k ∈ ks, ∃ x, f k = some x ∧ x.len = k.length ∧ x.deep ≤ dp
 | 0, l, ks, dp, len, h => by
   simp only [kidsBy, Option.some.injEq, Prod.mk.injEq] at h
   obtain ⟨rfl, _, _⟩ := h
   simp
 | m + 1, l, ks, dp, len, h => by
   simp only [kidsBy] at h
   split at h
   · simp at h
   · rename_i x hx
     split at h
     · simp at h
     · rename_i ks' dp' len' hk
       simp only [Option.some.injEq, Prod.mk.injEq] at h
       obtain ⟨rfl, rfl, rfl⟩ := h
       have hx1 := hf _ _ hx
       unfold ShOk at hx1
       intro k hk'
       rcases List.mem_cons.1 hk' with rfl | hk'
       · exact ⟨x, hc l x _ hx (Nat.le_refl _), by rw [List.length_take]; omega, by omega⟩
       · obtain ⟨y, h1, h2, h3⟩ := kidsBy_each hf hc m _ _ _ _ hk k hk'
         exact ⟨y, h1, h2, by omega⟩
theorem rt_kids {l : List UInt8} {x : Sh} (h : rt l = some x) : ∀ k ∈ x.kids, right k = true ∧ k.length < l.length := by
 unfold rt at h
 split at h
 · rename_i hl
   split at h
   · rename_i y hy
     split at h
     · rename_i hlen
       simp only [Option.some.injEq] at h
       subst h
       intro k hk
       cases l with
       | nil => simp [rd] at hy
       | cons c r =>
         have hp := rd_parts hy
         simp only [rd] at hy
         split at hy
         · cases hn : num 59 r with
           | none => simp [hn] at hy
           | some z => simp only [hn, Option.map_some, Option.some.injEq] at hy; subst hy; simp at hk
         · split at hy
           · split at hy
             · simp at hy
             · split at hy
               · simp at hy
               · simp only [Option.some.injEq] at hy; subst hy; simp at hk
           · split at hy
             · simp at hy
             · split at hy
               · simp at hy
               · rename_i m kk hc ks dp len hkb
                 split at hy
                 · simp only [Option.some.injEq] at hy
                   subst hy
                   simp only at hk hlen
                   obtain ⟨z, hz, hzl, hzd⟩ := kidsBy_each (rd_ok 63) (rd_cut 63) _ _ _ _ _ hkb k hk
                   have hb := kidsBy_ok (rd_ok 63) _ _ _ _ _ hkb
                   have hkl : k.length ≤ sumL ks := mem_sumL k ks hk
                   have hlt : k.length < (c :: r).length := by omega
                   refine ⟨?_, hlt⟩
                   unfold right rt
                   rw [if_pos om_, rd_mono 63 64 k z om_ hz]
                   simp [hzl]
                 · simp at hy
     · simp at h
   · simp at h
 · simp at h
where
 mem_sumL (k : List UInt8) : ∀ (ks : List (List UInt8)), k ∈ ks → k.length ≤ sumL ks
  | [], h => by simp at h
  | a :: ks, h => by
    simp only [sumL]
    rcases List.mem_cons.1 h with rfl | h
    · omega
    · have := mem_sumL k ks h; omega
/-! The public key of a term. -/
def keyF : Nat → List UInt8 → List UInt8
 | 0, x => 80 :: x
 | n + 1, x =>
   match rt x with
   | none => 80 :: x
   | some s =>
     if s.op.toNat = 86 then 87 :: (keyF n (s.kids.getD 0 []) ++ keyF n (s.kids.getD 1 []))
     else if s.op.toNat = 75 then 76 :: (keyF n (s.kids.getD 0 []) ++ s.kids.getD 1 [])
     else 80 :: x
def keyT (x : List UInt8) : List UInt8 := keyF x.length x
theorem rt_two {x : List UInt8} {s : Sh} (h : rt x = some s) (ho : s.op.toNat = 86 ∨ s.op.toNat = 75) : ∃ a b, s.kids = [a, b] ∧ a.length + b.length < x.length ∧ right a = true ∧ right b = true := by
 have hk := rt_kids h
 unfold rt at h
 split at h
 · split at h
   · rename_i y hy
     split at h
     · rename_i hlen
       simp only [Option.some.injEq] at h
       subst h
       cases x with
       | nil => simp [rd] at hy
       | cons c r =>
         simp only [rd, ← UInt8.toNat_inj, UInt8.reduceToNat] at hy
         split at hy
         · rename_i h0
           cases hn : num 59 r with
           | none => simp [hn] at hy
           | some z => simp only [hn, Option.map_some, Option.some.injEq] at hy; subst hy; simp only at ho; omega
         · split at hy
           · split at hy
             · simp at hy
             · split at hy
               · simp at hy
               · simp only [Option.some.injEq] at hy; subst hy; simp only at ho; omega
           · split at hy
             · simp at hy
             · rename_i m kk hc
               split at hy
               · simp at hy
               · rename_i ks dp len hkb
                 have hb := kidsBy_ok (rd_ok 63) _ _ _ _ _ hkb
                 split at hy
                 · simp only [Option.some.injEq] at hy
                   subst hy
                   simp only at ho hlen hk
                   simp only [cnt, arity, ← UInt8.toNat_inj, UInt8.reduceToNat] at hc
                   rw [if_neg om_, if_neg om_, if_pos om_] at hc
                   simp only [Option.map_some, Option.some.injEq, Prod.mk.injEq] at hc
                   obtain ⟨rfl, rfl⟩ := hc
                   match ks, hb, hk, hlen with
                   | [a, b], hb, hk, hlen =>
                     refine ⟨a, b, rfl, ?_, (hk a si_).1, (hk b si_).1⟩
                     have := hb.2.1
                     simp only [sumL] at this
                     omega
                   | [], hb, _, _ => simp at hb
                   | [_], hb, _, _ => simp at hb
                   | _ :: _ :: _ :: _, hb, _, _ => simp at hb
                 · simp at hy
     · simp at h
   · simp at h
 · simp at h
theorem keyF_len : ∀ (n : Nat) (x : List UInt8), 1 ≤ x.length → (keyF n x).length ≤ 2 * x.length
 | 0, x, h => by simp [keyF]; omega
 | n + 1, x, h => by
   simp only [keyF]
   split
   · simp; omega
   · rename_i s hs
     split
     · obtain ⟨a, b, hk, hl, ha, hb⟩ := rt_two hs om_
       have h1 := keyF_len n a (right_len ha).1
       have h2 := keyF_len n b (right_len hb).1
       rw [hk]
       simp only [List.getD_cons_zero, List.getD_cons_succ, List.length_cons, List.length_append]
       omega
     · split
       · obtain ⟨a, b, hk, hl, ha, hb⟩ := rt_two hs om_
         have h1 := keyF_len n a (right_len ha).1
         rw [hk]
         simp only [List.getD_cons_zero, List.getD_cons_succ, List.length_cons, List.length_append]
         omega
       · simp; omega
theorem keyF_fuel : ∀ (n m : Nat) (x : List UInt8), x.length ≤ n → x.length ≤ m → keyF n x = keyF m x
 | 0, 0, x, _, _ => rfl
 | 0, m + 1, x, h, _ => by
   have : x = [] := List.length_eq_zero_iff.1 om_
   subst this
   simp [keyF, rt, rd]
 | n + 1, 0, x, _, h => by
   have : x = [] := List.length_eq_zero_iff.1 om_
   subst this
   simp [keyF, rt, rd]
 | n + 1, m + 1, x, hn, hm => by
   simp only [keyF]
   split
   · rfl
   · rename_i s hs
     split
     · obtain ⟨a, b, hk, hl, ha, hb⟩ := rt_two hs om_
       rw [hk]
       simp only [List.getD_cons_zero, List.getD_cons_succ]
       rw [keyF_fuel n m a om_ om_, keyF_fuel n m b om_ om_]
     · split
       · obtain ⟨a, b, hk, hl, ha, hb⟩ := rt_two hs om_
         rw [hk]
         simp only [List.getD_cons_zero, List.getD_cons_succ]
         rw [keyF_fuel n m a om_ om_]
       · rfl
theorem keyT_eq (x : List UInt8) : keyT x = match rt x with
  | none => 80 :: x
  | some s =>
    if s.op.toNat = 86 then 87 :: (keyT (s.kids.getD 0 []) ++ keyT (s.kids.getD 1 []))
    else if s.op.toNat = 75 then 76 :: (keyT (s.kids.getD 0 []) ++ s.kids.getD 1 [])
    else 80 :: x := by
 rw [keyT, keyF_fuel x.length (x.length + 1) x om_ om_]
 simp only [keyF]
 split
 · rfl
 · rename_i s hs
   split
   · obtain ⟨a, b, hk, hl, ha, hb⟩ := rt_two hs om_
     rw [hk]
     simp only [List.getD_cons_zero, List.getD_cons_succ, keyT]
     rw [keyF_fuel x.length a.length a om_ om_, keyF_fuel x.length b.length b om_ om_]
   · split
     · obtain ⟨a, b, hk, hl, ha, hb⟩ := rt_two hs om_
       rw [hk]
       simp only [List.getD_cons_zero, List.getD_cons_succ, keyT]
       rw [keyF_fuel x.length a.length a om_ om_]
     · rfl
theorem keyT_len {x : List UInt8} (h : 1 ≤ x.length) : (keyT x).length ≤ 2 * x.length := keyF_len _ _ h
def cat (ls : List (List UInt8)) : List UInt8 := ls.flatten
def tupleT (ls : List (List UInt8)) : List UInt8 × Int :=
 if 32 < ls.length then ([], 3) else if ls.all right = true then made (84 :: (Lib.decDigits ls.length ++ 58 :: cat ls)) else ([], 10)
theorem flat_len : ∀ (ls : List (List UInt8)), ls.all right = true → (cat ls).length ≤ 16384 * ls.length
 | [], _ => by simp [cat]
 | x :: r, h => by
   simp only [List.all_cons, Bool.and_eq_true] at h
   have h1 := (right_len h.1).2
   have h2 := flat_len r h.2
   simp only [cat] at h2
   simp only [cat, List.flatten_cons, List.length_append, List.length_cons]
   omega
theorem take_flat (ls : List (List UInt8)) (k : Nat) (x : List UInt8) (h : ls[k]? = some x) : cat (ls.take (k + 1)) = cat (ls.take k) ++ x := by
 rw [List.take_add_one, h]; simp [cat]
theorem take_all (ls : List (List UInt8)) (k : Nat) (x : List UInt8) (h : ls[k]? = some x) (h1 : (ls.take k).all right = true) (h2 : right x = true) : (ls.take (k + 1)).all right = true := by
 rw [List.take_add_one, h, List.all_append, h1]; simp [h2]
theorem not_all (ls : List (List UInt8)) (k : Nat) (x : List UInt8) (h : ls[k]? = some x) (h2 : right x = false) : ls.all right = false := by
 rw [List.all_eq_false]
 exact ⟨x, List.mem_of_getElem? h, by simp [h2]⟩
def pubT (x : List UInt8) : List UInt8 × Int := if right x = true then made (keyT x) else ([], 10)
def jointT (a b : List UInt8) : List UInt8 × Int := if right a = true ∧ right b = true ∧ pubC (head a) = true ∧ pubC (head b) = true then twoT 87 a b else ([], 10)
def boundT (a p : List UInt8) : List UInt8 × Int := if right a = true ∧ right p = true ∧ pubC (head a) = true then twoT 76 a p else ([], 10)
end Go.Proofs.YtembdkodajichaaGreatDoor
-- SpecD
namespace Go.Proofs.YtembdkodajichaaGreatDoor
theorem dg_toNat (d : Nat) (h : d < 10) : (UInt8.ofNat (48 + d)).toNat = 48 + d := by
 rw [UInt8.toNat_ofNat']; omega
theorem numGo_dec (e : UInt8) (he : 57 < e.toNat) (n : Nat) : ∀ (r : List UInt8), n ≤ 9223372036854775807 → numGo e (Lib.decDigits n ++ r) 0 0 = numGo e r n (Lib.decDigits n).length := by
 induction n using Nat.strongRecOn with
 | ind n ih =>
   intro r hn
   by_cases h : n < 10
   · rw [Lib.decDigits, dif_pos h]
     simp only [List.cons_append, List.nil_append, numGo, dg_toNat n h, List.length_cons, List.length_nil]
     rw [if_neg om_, if_neg om_, if_neg om_]
     congr 1; omega
   · have hp := dec_pos (n / 10)
     rw [show Lib.decDigits n = Lib.decDigits (n / 10) ++ [UInt8.ofNat (48 + n % 10)] from by rw [Lib.decDigits, dif_neg h]]
     rw [List.append_assoc, ih (n / 10) om_ _ om_]
     simp only [List.cons_append, List.nil_append, numGo, dg_toNat (n % 10) om_, List.length_append, List.length_cons, List.length_nil]
     rw [if_neg om_, if_neg om_, if_neg om_]
     congr 1; omega
theorem num_dec (e : UInt8) (he : 57 < e.toNat) (n : Nat) (r : List UInt8) (hn : n ≤ 9223372036854775807) : num e (Lib.decDigits n ++ e :: r) = some (n, (Lib.decDigits n).length + 1) := by
 unfold num
 rw [numGo_dec e he n _ hn, numGo, if_pos ⟨rfl, dec_pos n⟩]
theorem kidsBy_ext {f : List UInt8 → Option Sh} {d : Nat} (hf : ∀ l x, f l = some x → ShOk d l x) (he : ∀ l x r, f l = some x → f (l ++ r) = some x) :
  ∀ (m : Nat) (l r : List UInt8) (y : List (List UInt8) × Nat × Nat), kidsBy f m l = some y → kidsBy f m (l ++ r) = some y
 | 0, l, r, y, h => by simpa [kidsBy] using h
 | m + 1, l, r, y, h => by
   simp only [kidsBy] at h ⊢
   split at h
   · simp at h
   · rename_i x hx
     have hl := (hf _ _ hx).2.1
     split at h
     · simp at h
     · rename_i ks dp len hk
       rw [he _ _ r hx]
       simp only
       rw [List.drop_append_of_le_length hl, kidsBy_ext hf he m _ r _ hk]
       simp only
       rw [List.take_append_of_le_length hl]
       exact h
theorem cnt_app {c : UInt8} {r : List UInt8} {y : Nat × Nat} (h : cnt c r = some y) (m : List UInt8) : cnt c (r ++ m) = some y := by
 simp only [cnt] at h ⊢
 split at h
 · rw [if_pos as_]
   cases hn : num 58 r with
   | none => simp [hn] at h
   | some y =>
     obtain ⟨n, k⟩ := y
     rw [num_app hn]
     simpa [hn] using h
 · rw [if_neg as_]; exact h
theorem rd_ext : ∀ (d : Nat) (l : List UInt8) (x : Sh) (m : List UInt8), rd d l = some x → rd d (l ++ m) = some x
 | 0, _, _, _, h => by simp [rd] at h
 | _ + 1, [], _, _, h => by simp [rd] at h
 | d + 1, c :: r, x, m, h => by
   simp only [rd, List.cons_append] at h ⊢
   split at h
   · rw [if_pos as_]
     cases hn : num 59 r with
     | none => simp [hn] at h
     | some y => rw [num_app hn]; simpa [hn] using h
   · rw [if_neg as_]
     split at h
     · rw [if_pos as_]
       split at h
       · simp at h
       · rename_i n k hn
         have hb := num_bound hn
         split at h
         · simp at h
         · rw [num_app hn]
           simp only
           rw [if_neg (by rw [List.length_append]; omega), List.drop_append_of_le_length om_, List.take_append_of_le_length (by rw [List.length_drop]; omega)]
           exact h
     · rw [if_neg as_]
       split at h
       · simp at h
       · rename_i n k hc
         have hb := cnt_bound hc
         rw [cnt_app hc]
         simp only
         split at h
         · simp at h
         · rename_i ks dp len hk
           rw [List.drop_append_of_le_length hb.2, kidsBy_ext (rd_ok d) (fun l x m => rd_ext d l x m) _ _ m _ hk]
           exact h
theorem rd_less : ∀ (d d' : Nat) (l : List UInt8) (x : Sh), rd d l = some x → x.deep ≤ d' → rd d' l = some x
 | 0, _, _, _, h, _ => by simp [rd] at h
 | _ + 1, _, [], _, h, _ => by simp [rd] at h
 | d + 1, 0, c :: r, x, h, hd => by
   have := (rd_ok _ _ _ h).2.2.1
   omega
 | d + 1, d' + 1, c :: r, x, h, hd => by
   simp only [rd] at h ⊢
   split at h
   · rw [if_pos as_]; exact h
   · rw [if_neg as_]
     split at h
     · rw [if_pos as_]; exact h
     · rw [if_neg as_]
       split at h
       · simp at h
       · rename_i m k hc
         split at h
         · simp at h
         · rename_i ks dp len hk
           split at h
           · simp only [Option.some.injEq] at h
             subst h
             simp only at hd
             rw [kidsLess d d' (rd_less d d') m _ ks dp len hk om_]
             simp [*]
           · simp at h
where
 kidsLess (d d' : Nat) (hf : ∀ l x, rd d l = some x → x.deep ≤ d' → rd d' l = some x) : ∀ (m : Nat) (l : List UInt8) (ks : List (List UInt8)) (dp len : Nat), kidsBy (rd d) m l = some (ks, dp, len) → dp ≤ d' → kidsBy (rd d') m l = some (ks, dp, len)
  | 0, l, ks, dp, len, h, _ => by simpa [kidsBy] using h
  | m + 1, l, ks, dp, len, h, hd => by
    simp only [kidsBy] at h ⊢
    split at h
    · simp at h
    · rename_i x hx
      split at h
      · simp at h
      · rename_i ks' dp' len' hk
        simp only [Option.some.injEq, Prod.mk.injEq] at h
        obtain ⟨rfl, rfl, rfl⟩ := h
        rw [hf _ _ hx om_]
        simp only
        rw [kidsLess d d' hf m _ _ _ _ hk om_]
def RtD (d : Nat) (l : List UInt8) : Prop := ∃ x, rd d l = some x ∧ x.len = l.length
theorem rtD_right {d : Nat} {l : List UInt8} (hd : d ≤ 64) (h : RtD d l) (hl : l.length ≤ 16384) : right l = true := by
 obtain ⟨x, hx, hxl⟩ := h
 unfold right rt
 rw [if_pos hl, rd_mono d 64 l x hd hx]
 simp [hxl]
theorem right_rtD {l : List UInt8} (h : right l = true) : RtD 64 l ∧ l.length ≤ 16384 := by
 unfold right rt at h
 split at h
 · split at h
   · rename_i x hx
     split at h
     · exact ⟨⟨x, hx, by assumption⟩, by assumption⟩
     · simp at h
   · simp at h
 · simp at h
theorem rtD_mono {d d' : Nat} {l : List UInt8} (hd : d ≤ d') (h : RtD d l) : RtD d' l := by
 obtain ⟨x, hx, hxl⟩ := h
 exact ⟨x, rd_mono d d' l x hd hx, hxl⟩
theorem rtD_text (s : List UInt8) (d : Nat) (h : s.length ≤ 4096) : RtD (d + 1) (116 :: (Lib.decDigits s.length ++ 58 :: s)) := by
 have hn := num_dec 58 de_ s.length s om_
 refine ⟨⟨116, 1 + ((Lib.decDigits s.length).length + 1) + s.length, 1, s.length, s, []⟩, ?_, by simp; omega⟩
 simp only [rd]
 rw [if_neg de_, if_pos de_, hn]
 simp only
 rw [if_neg so_]
 have e : (Lib.decDigits s.length ++ 58 :: s).drop ((Lib.decDigits s.length).length + 1) = s := by
  rw [show Lib.decDigits s.length ++ 58 :: s = (Lib.decDigits s.length ++ [58]) ++ s by simp]
  rw [List.drop_left' si_]
 rw [e, List.take_length]
theorem rtD_name (n : Nat) (d : Nat) (h : n ≤ 9223372036854775807) : RtD (d + 1) (110 :: (Lib.decDigits n ++ [59])) := by
 have hn := num_dec 59 de_ n [] h
 refine ⟨⟨110, 1 + ((Lib.decDigits n).length + 1), 1, n, [], []⟩, ?_, by simp; omega⟩
 simp only [rd]
 rw [if_pos de_, hn]
 rfl
theorem kidsBy_cat (d : Nat) : ∀ (ls : List (List UInt8)) (r : List UInt8), (∀ a ∈ ls, RtD d a) → ∃ dp, kidsBy (rd d) ls.length (cat ls ++ r) = some (ls, dp, (cat ls).length)
 | [], r, _ => ⟨0, by simp [kidsBy, cat]⟩
 | a :: ls, r, h => by
   obtain ⟨x, hx, hxl⟩ := h a si_
   obtain ⟨dp, hk⟩ := kidsBy_cat d ls r (fun b hb => h b (by simp [hb]))
   refine ⟨max x.deep dp, ?_⟩
   have e : cat (a :: ls) ++ r = a ++ (cat ls ++ r) := by simp [cat]
   rw [e, List.length_cons, kidsBy, rd_ext _ _ _ _ hx]
   simp only
   rw [hxl, List.drop_left, hk]
   simp [cat]
theorem rtD_tuple (d : Nat) (ls : List (List UInt8)) (hn : ls.length ≤ 32) (h : ∀ a ∈ ls, RtD d a) : RtD (d + 1) (84 :: (Lib.decDigits ls.length ++ 58 :: cat ls)) := by
 have hnum := num_dec 58 de_ ls.length (cat ls) om_
 obtain ⟨dp, hk⟩ := kidsBy_cat d ls [] h
 rw [List.append_nil] at hk
 refine ⟨⟨84, 1 + ((Lib.decDigits ls.length).length + 1) + (cat ls).length, dp + 1, 0, [], ls⟩, ?_, by simp; omega⟩
 simp only [rd]
 rw [if_neg de_, if_neg de_]
 have hc : cnt 84 (Lib.decDigits ls.length ++ 58 :: cat ls) = some (ls.length, (Lib.decDigits ls.length).length + 1) := by
  simp only [cnt]
  rw [if_pos de_, hnum]
  simp only
  rw [if_neg om_]
 rw [hc]
 simp only
 have e : (Lib.decDigits ls.length ++ 58 :: cat ls).drop ((Lib.decDigits ls.length).length + 1) = cat ls := by
  rw [show Lib.decDigits ls.length ++ 58 :: cat ls = (Lib.decDigits ls.length ++ [58]) ++ cat ls by simp]
  rw [List.drop_left' si_]
 rw [e, hk]
 simp only
 rw [if_pos (by simp [fitsB])]
theorem rtD_two (d : Nat) (c : UInt8) (a b : List UInt8) (hc : arity c = some 2) (hf : fitsB c [a, b] = true) (ha : RtD d a) (hb : RtD d b) : RtD (d + 1) (c :: (a ++ b)) := by
 obtain ⟨dp, hk⟩ := kidsBy_cat d [a, b] [] (by intro x hx; simp at hx; rcases hx with rfl | rfl <;> assumption)
 have e : cat [a, b] = a ++ b := by simp [cat]
 rw [List.append_nil, e] at hk
 refine ⟨⟨c, 1 + 0 + (a ++ b).length, dp + 1, 0, [], [a, b]⟩, ?_, by simp; omega⟩
 have h1 : c ≠ 110 := by rintro rfl; simp [arity] at hc
 have h2 : c ≠ 116 := by rintro rfl; simp [arity] at hc
 have h3 : c ≠ 84 := by rintro rfl; simp [arity] at hc
 simp only [rd]
 rw [if_neg h1, if_neg h2, show cnt c (a ++ b) = some (2, 0) by simp [cnt, h3, hc]]
 simp only [List.drop_zero]
 rw [show ([a, b] : List (List UInt8)).length = 2 from rfl] at hk
 rw [hk]
 simp only
 rw [if_pos hf]
theorem rtD_one (d : Nat) (c : UInt8) (a : List UInt8) (hc : arity c = some 1) (hf : fitsB c [a] = true) (ha : RtD d a) : RtD (d + 1) (c :: a) := by
 obtain ⟨dp, hk⟩ := kidsBy_cat d [a] [] (by intro x hx; simp at hx; subst hx; assumption)
 have e : cat [a] = a := by simp [cat]
 rw [List.append_nil, e] at hk
 refine ⟨⟨c, 1 + 0 + a.length, dp + 1, 0, [], [a]⟩, ?_, by simp; omega⟩
 have h1 : c ≠ 110 := by rintro rfl; simp [arity] at hc
 have h2 : c ≠ 116 := by rintro rfl; simp [arity] at hc
 have h3 : c ≠ 84 := by rintro rfl; simp [arity] at hc
 simp only [rd]
 rw [if_neg h1, if_neg h2, show cnt c a = some (1, 0) by simp [cnt, h3, hc]]
 simp only [List.drop_zero]
 rw [show ([a] : List (List UInt8)).length = 1 from rfl] at hk
 rw [hk]
 simp only
 rw [if_pos hf]
end Go.Proofs.YtembdkodajichaaGreatDoor
-- SpecE
namespace Go.Proofs.YtembdkodajichaaGreatDoor
def textL (s : List UInt8) : List UInt8 := 116 :: (Lib.decDigits s.length ++ 58 :: s)
theorem textT_ok (s : List UInt8) (h : s.length ≤ 4096) : textT s = (textL s, 0) := by
 unfold textT
 rw [if_neg om_]; rfl
theorem made_ok {l : List UInt8} (h : right l = true) : made l = (l, 0) := by simp [made, h]
theorem made_right {l : List UInt8} (h : (made l).2 = 0) : right (made l).1 = true ∧ made l = (l, 0) := by
 unfold made at h ⊢
 split at h
 · rename_i hr
   exact ⟨by rw [if_pos hr]; exact hr, by rw [if_pos hr]⟩
 · simp at h
theorem textL_len (s : List UInt8) (h : s.length ≤ 4096) : (textL s).length ≤ s.length + 22 ∧ 3 ≤ (textL s).length := by
 have h1 := dec_len20 s.length om_
 have h2 := dec_pos s.length
 simp [textL]; omega
theorem textL_right (s : List UInt8) (h : s.length ≤ 4096) : right (textL s) = true :=
 rtD_right (d := 1) om_ (rtD_text s 0 h) (by have := textL_len s h; omega)
def labelT (w : List UInt8) (n : Nat) : List UInt8 := 84 :: (Lib.decDigits 2 ++ 58 :: cat [textL w, textL (Lib.decDigits n)])
theorem label_facts (w : List UInt8) (n : Nat) (hw : w.length ≤ 100) (hn : n ≤ 9223372036854775807) :
  textT w = (textL w, 0) ∧ textT (Lib.decDigits n) = (textL (Lib.decDigits n), 0) ∧ right (textL w) = true ∧ right (textL (Lib.decDigits n)) = true ∧
  tupleT [textL w, textL (Lib.decDigits n)] = (labelT w n, 0) ∧ right (labelT w n) = true ∧ (labelT w n).length ≤ 200 := by
 have hd := dec_len20 n om_
 have h1 := textL_right w om_
 have h2 := textL_right (Lib.decDigits n) om_
 have l1 := textL_len w om_
 have l2 := textL_len (Lib.decDigits n) om_
 have l0 := dec_len20 2 om_
 have hlen : (labelT w n).length ≤ 200 := by
  simp [labelT, cat]; omega
 have hr : right (labelT w n) = true := by
  refine rtD_right (d := 2) om_ ?_ om_
  refine rtD_tuple 1 [textL w, textL (Lib.decDigits n)] si_ ?_
  intro a ha
  simp at ha
  rcases ha with rfl | rfl
  · exact rtD_text w 0 om_
  · exact rtD_text _ 0 om_
 refine ⟨textT_ok w om_, textT_ok _ om_, h1, h2, ?_, hr, hlen⟩
 unfold tupleT
 rw [if_neg si_, if_pos (by simp [h1, h2])]
 exact made_ok hr
def childT (root w : List UInt8) (n : Nat) : List UInt8 × Int := twoT 68 root (labelT w n)
def nodeT (root : List UInt8) : List UInt8 × Int := childT root [110, 111, 100, 101] 0
def coinT (root : List UInt8) (n : Int) : List UInt8 × Int := if n < 0 then ([], 2) else childT root [99, 111, 105, 110] n.toNat
def manyT {α : Type} (f : α → List UInt8 × Int) : List α → List (List UInt8) × Int
 | [] => ([], 0)
 | a :: r => if (f a).2 = 0 then (if (manyT f r).2 = 0 then ((f a).1 :: (manyT f r).1, 0) else ([], (manyT f r).2)) else ([], (f a).2)
def wordsT : List (List UInt8) := [[102, 117, 110, 100], [114, 101, 118], [112, 97, 121], [108, 97, 116, 101, 114], [104, 116, 108, 99], [115, 101, 101, 100]]
def channelT (root : List UInt8) (n : Int) : List (List UInt8) × Int :=
 if n < 0 then ([], 2) else
  if (childT root [99, 104, 97, 110, 110, 101, 108] n.toNat).2 = 0 then manyT (fun w => childT (childT root [99, 104, 97, 110, 110, 101, 108] n.toNat).1 w 0) wordsT
  else ([], (childT root [99, 104, 97, 110, 110, 101, 108] n.toNat).2)
def secV (l : List (List UInt8)) : Value := .agg #[.string (bs (l.getD 0 [])), .string (bs (l.getD 1 [])), .string (bs (l.getD 2 [])), .string (bs (l.getD 3 [])), .string (bs (l.getD 4 [])), .string (bs (l.getD 5 []))]
def onT (i : Nat) : Nat → List UInt8 → List UInt8 × Int
 | 0, t => (t, 0)
 | k + 1, t => if i / 2 ^ k % 2 = 0 then onT i k t else if (twoT 68 t (textL (Lib.decDigits k))).2 = 0 then onT i k (twoT 68 t (textL (Lib.decDigits k))).1 else ([], (twoT 68 t (textL (Lib.decDigits k))).2)
def secretT (seed : List UInt8) (i : Int) : List UInt8 × Int :=
 if i < 0 ∨ 1048575 < i then ([], 2) else if right seed = true then onT i.toNat 20 seed else ([], 10)
theorem made_len (l : List UInt8) : (made l).1.length ≤ 16384 := by
 unfold made
 split
 · rename_i h; exact (right_len h).2
 · simp
theorem twoT_len (c : UInt8) (a b : List UInt8) : (twoT c a b).1.length ≤ 16384 := by
 unfold twoT
 split
 · exact made_len _
 · simp
end Go.Proofs.YtembdkodajichaaGreatDoor
-- SpecN
namespace Go.Proofs.YtembdkodajichaaGreatDoor
open Go.Lib (parseUintM parseUintB parseIntB indexByte NumEnd)
theorem idx_ge : ∀ (l : List UInt8) (e : UInt8), -1 ≤ indexByte l e
 | [], _ => by simp [indexByte]
 | b :: l, e => by
   have := idx_ge l e
   simp only [indexByte]
   split
   · omega
   · split <;> omega
theorem idx_none : ∀ (l : List UInt8) (e : UInt8), indexByte l e = -1 → ∀ x ∈ l, x ≠ e
 | [], _, _ => by simp
 | b :: l, e, h => by
   simp only [indexByte] at h
   split at h
   · omega
   · rename_i hb
     split at h
     · rename_i h1
       intro x hx
       rcases List.mem_cons.1 hx with rfl | hx
       · simpa using hb
       · exact idx_none l e (by simpa using h1) x hx
     · rename_i h1
       have := idx_ge l e
       simp at h1
       omega
theorem idx_some : ∀ (l : List UInt8) (e : UInt8) (k : Nat), indexByte l e = k → ∃ p q, l = p ++ e :: q ∧ p.length = k ∧ ∀ x ∈ p, x ≠ e
 | [], _, _, h => by simp only [indexByte] at h; omega
 | b :: l, e, k, h => by
   simp only [indexByte] at h
   split at h
   · rename_i hb
     have hb' : b = e := by simpa using hb
     subst hb'
     exact ⟨[], l, rfl, by simp only [List.length_nil]; omega, by simp⟩
   · rename_i hb
     split at h
     · omega
     · rename_i h1
       have h2 := idx_ge l e
       simp at h1
       obtain ⟨p, q, h3, h4, h5⟩ := idx_some l e (k - 1) om_
       refine ⟨b :: p, q, by rw [h3]; rfl, by simp; omega, ?_⟩
       intro x hx
       rcases List.mem_cons.1 hx with rfl | hx
       · simpa using hb
       · exact h5 x hx
theorem idx_range (l : List UInt8) (e : UInt8) : -1 ≤ indexByte l e := idx_ge l e
theorem pum_le (M : Nat) : ∀ (p : List UInt8) (acc u : Nat), parseUintM M acc p = .ok u → acc * 10 ^ p.length ≤ u
 | [], acc, u, h => by simp only [parseUintM, NumEnd.ok.injEq] at h; simp [h]
 | c :: r, acc, u, h => by
   simp only [parseUintM] at h
   split at h
   · split at h
     · simp at h
     · split at h
       · simp at h
       · have := pum_le M r _ u h
         rw [List.length_cons, Nat.pow_succ]
         have h2 : acc * (10 ^ r.length * 10) = (acc * 10) * 10 ^ r.length := by rw [Nat.mul_comm (10 ^ r.length) 10, Nat.mul_assoc]
         rw [h2]
         exact Nat.le_trans (Nat.mul_le_mul_right _ om_) this
   · simp at h
def okN (k : Nat) : NumEnd Nat → Option (Nat × Nat)
 | .ok u => if u ≤ 9223372036854775807 then some (u, k) else none
 | _ => none
theorem numGo_big (e : UInt8) (he : e.toNat = 58 ∨ e.toNat = 59) (q : List UInt8) : ∀ (p : List UInt8) (m j : Nat), (∀ x ∈ p, x ≠ e) → 0 < m → m ≤ 9223372036854775807 → 0 < j →
  numGo e (p ++ e :: q) m j = okN (j + p.length + 1) (parseUintM (2 ^ 64 - 1) m p)
 | [], m, j, _, hm, hm2, hj => by
   simp only [List.nil_append, numGo, parseUintM, okN]
   rw [if_pos (by simp [hj]), if_pos hm2]; rfl
 | c :: r, m, j, hp, hm, hm2, hj => by
   have hc : c.toNat ≠ e.toNat := fun h => hp c si_ (UInt8.toNat_inj.1 h)
   simp only [List.cons_append, numGo, parseUintM]
   rw [if_neg om_]
   by_cases hd : 48 ≤ c.toNat ∧ c.toNat ≤ 57
   · rw [if_neg om_, if_pos hd]
     by_cases hb : (9223372036854775807 - (c.toNat - 48)) / 10 < m
     · rw [if_pos hb]
       split
       · rfl
       · split
         · rfl
         · cases hr : parseUintM (2 ^ 64 - 1) (m * 10 + (c.toNat - 48)) r
           case ok u =>
            have h1 := pum_le _ _ _ _ hr
            have h2 : 1 ≤ 10 ^ r.length := Nat.pow_pos om_
            have h3 : (m * 10 + (c.toNat - 48)) * 1 ≤ (m * 10 + (c.toNat - 48)) * 10 ^ r.length := Nat.mul_le_mul_left _ h2
            simp only [okN]
            rw [if_neg om_]
           all_goals rfl
     · rw [if_neg hb, if_neg om_, if_neg om_]
       rw [numGo_big e he q r _ _ (fun x hx => hp x (by simp [hx])) om_ om_ om_]
       simp only [List.length_cons]
       rw [show j + 1 + r.length + 1 = j + (r.length + 1) + 1 by omega]
   · rw [if_pos om_, if_neg hd]; rfl
def parsed (p : List UInt8) : Option Nat := match parseIntB 64 p with | .ok v => some v.toNat | _ => none
def progNum (p : List UInt8) : Option Nat :=
 if p.length < 1 ∨ 19 < p.length ∨ (head p).toNat = 48 ∧ 1 < p.length ∨ (head p).toNat < 48 ∨ 57 < (head p).toNat then none
 else match parseIntB 64 p with
  | .ok v => some v.toNat
  | _ => none
theorem num_prog (e : UInt8) (he : e.toNat = 58 ∨ e.toNat = 59) (p q : List UInt8) (hp : ∀ x ∈ p, x ≠ e) : num e (p ++ e :: q) = (progNum p).map fun n => (n, p.length + 1) := by
 unfold num
 cases p with
 | nil =>
   simp only [List.nil_append, numGo, progNum]
   rw [if_neg om_, if_pos om_]
   simp
 | cons c r =>
   have hc : c.toNat ≠ e.toNat := fun h => hp c si_ (UInt8.toNat_inj.1 h)
   have hhd : head (c :: r) = c := rfl
   simp only [List.cons_append, numGo]
   rw [if_neg om_]
   by_cases hd : 48 ≤ c.toNat ∧ c.toNat ≤ 57
   · rw [if_neg om_, if_neg om_]
     have hpi : parseIntB 64 (c :: r) = match parseUintM (2 ^ 64 - 1) (c.toNat - 48) r with
       | .ok u => if 2 ^ 63 ≤ u then .range else .ok (u : Int)
       | .range => .range
       | _ => parseIntB 64 [] := by
      simp only [parseIntB]
      rw [if_neg om_]
      simp only [parseUintB, parseUintM]
      rw [if_neg si_, if_pos hd, if_neg om_, if_neg om_]
      simp only [Nat.zero_mul, Nat.zero_add]
      have h45 : ¬ c.toNat = 45 := by omega
      cases parseUintM (2 ^ 64 - 1) (c.toNat - 48) r
      case ok u => simp only [h45, not_false_eq_true, true_and, false_and, if_false]
      all_goals rfl
     by_cases h48 : c.toNat = 48
     · cases r with
       | nil =>
         simp only [List.nil_append, numGo]
         rw [if_pos si_]
         have : progNum [c] = some 0 := by
          unfold progNum
          rw [hhd, if_neg so_, hpi]
          simp [parseUintM, h48]
         rw [this, h48]; rfl
       | cons c2 r2 =>
         have hc2 : c2.toNat ≠ e.toNat := fun h => hp c2 si_ (UInt8.toNat_inj.1 h)
         have : progNum (c :: c2 :: r2) = none := by
          unfold progNum
          rw [hhd, if_pos so_]
         rw [this]
         simp only [List.cons_append, numGo]
         rw [if_neg om_, if_pos om_]; rfl
     · rw [Nat.zero_mul, Nat.zero_add, numGo_big e he q r _ _ (fun x hx => hp x (by simp [hx])) om_ om_ om_]
       by_cases hlen : 19 < (c :: r).length
       · have : progNum (c :: r) = none := by
          unfold progNum
          rw [if_pos om_]
         rw [this]
         cases hr : parseUintM (2 ^ 64 - 1) (c.toNat - 48) r
         case ok u =>
          have h1 := pum_le _ _ _ _ hr
          have h2 : 10 ^ 19 ≤ 10 ^ r.length := Nat.pow_le_pow_right om_ (by simp at hlen; omega)
          have h3 : 1 * 10 ^ 19 ≤ (c.toNat - 48) * 10 ^ r.length := Nat.mul_le_mul om_ h2
          simp only [okN]
          rw [if_neg om_]; rfl
         all_goals rfl
       · have : progNum (c :: r) = match parseIntB 64 (c :: r) with
           | .ok v => some v.toNat
           | _ => none := by
          unfold progNum
          rw [hhd, if_neg (by simp at hlen ⊢; omega)]
         rw [this, hpi]
         cases hr : parseUintM (2 ^ 64 - 1) (c.toNat - 48) r
         case ok u =>
          simp only [okN]
          by_cases hu : u ≤ 9223372036854775807
          · rw [if_pos hu, if_neg om_]
            simp only [Option.map_some, Int.toNat_natCast, List.length_cons]
            rw [show 0 + 1 + r.length + 1 = r.length + 1 + 1 by omega]
          · rw [if_neg hu, if_pos om_]; rfl
         all_goals rfl
   · rw [if_pos om_]
     have : progNum (c :: r) = none := by
      unfold progNum
      rw [hhd, if_pos om_]
     rw [this]; rfl
theorem num_absent (e : UInt8) : ∀ (l : List UInt8) (m j : Nat), (∀ x ∈ l, x ≠ e) → numGo e l m j = none
 | [], _, _, _ => rfl
 | c :: r, m, j, h => by
   have hc : c.toNat ≠ e.toNat := fun h' => h c si_ (UInt8.toNat_inj.1 h')
   simp only [numGo]
   rw [if_neg om_]
   split
   · rfl
   · split
     · rfl
     · exact num_absent e r _ _ (fun x hx => h x (by simp [hx]))
end Go.Proofs.YtembdkodajichaaGreatDoor
-- Share
namespace Go.Proofs.YtembdkodajichaaGreatDoor
open Go.RowKit
theorem Tryz.infoTerm : (Tryz.prog.info? 29).map (fun i => (i.zero, i.size, i.bytes)) = some (some (.string ByteArray.empty), 1, 16) := by kernel_rfl
def numOf (x : Sh) : Nat := if x.op.toNat = 110 then x.n else 0
def OpenPost (w : World) (o : Option Sh) (e : Ending) (w' : World) : Prop :=
 match o with
 | none => e = .returned (.tuple #[.agg #[.int .u8 0, .int .i64 0, .string (bs []), .slice none 0 0], .bool false]) ∧ Below w.heap.size w w'
 | some x => ∃ ad n cap, e = .returned (.tuple #[.agg #[.int .u8 x.op.toNat, .int .i64 (numOf x), .string (bs x.text), .slice ad n cap], .bool true]) ∧
  w'.ownsRow w.heap.size 29 1 (.slice ad n cap) x.kids.length (x.kids.map fun k => .string (bs k)) ∧ Below w.heap.size w w'
theorem own_cells {w : World} {base e n : Nat} {v : Value} {xs : List Value} (h : w.ownsRow base e 1 v n xs) (hn : 0 < n) :
  ∃ g cap, v = .slice (some ⟨g, 0, none⟩) n cap ∧ base ≤ g ∧ g < w.heap.size ∧ n ≤ cap ∧ cap ≤ maxLen ∧ ∀ j x, xs[j]? = some x → w.cell? ⟨g, j, none⟩ = some x := by
 obtain ⟨h0, h⟩ := h
 rcases h with ⟨_, h⟩ | ⟨g, cap, cur, rfl, hb, hg, hc, hc2, hs, ht⟩
 · omega
 · refine ⟨g, cap, rfl, hb, blk_lt hg, hc, hc2, fun j x hj => ?_⟩
   rw [blk_cell hg, ← Array.getElem?_toList]
   rw [← ht] at hj
   rw [List.getElem?_take] at hj
   split at hj
   · exact hj
   · simp at hj
theorem right_cons {x : List UInt8} (h : right x = true) : ∃ c r, x = c :: r := by
 have := right_len h
 cases x with
 | nil => simp at this
 | cons c r => exact ⟨c, r, rfl⟩
def nameT (n : Int) : List UInt8 × Int := if n < 0 then ([], 2) else (110 :: (Lib.decDigits n.toNat ++ [59]), 0)
theorem pubC_nat (c : UInt8) : pubC c = decide (c.toNat = 80 ∨ c.toNat = 87 ∨ c.toNat = 76) := by
 unfold pubC
 rw [Bool.eq_iff_iff]
 simp [← UInt8.toNat_inj]
 omega
end Go.Proofs.YtembdkodajichaaGreatDoor
-- SpecF
namespace Go.Proofs.YtembdkodajichaaGreatDoor
open Go.RowKit
def nextF {α : Type} (f : α → List UInt8 × Int) (fe : Int) (a : α) : List UInt8 × Int := if fe = 0 then f a else ([], fe)
def chainF {α : Type} (f : α → List UInt8 × Int) : Int → List α → List (List UInt8) × Int
 | fe, [] => ([], fe)
 | fe, a :: r => ((nextF f fe a).1 :: (chainF f (nextF f fe a).2 r).1, (chainF f (nextF f fe a).2 r).2)
theorem chainF_bad {α : Type} (f : α → List UInt8 × Int) : ∀ (ws : List α) (fe : Int), fe ≠ 0 → (chainF f fe ws).2 = fe
 | [], fe, _ => rfl
 | wd :: r, fe, h => by
   have e : nextF f fe wd = ([], fe) := by simp [nextF, h]
   simp only [chainF, e]
   exact chainF_bad f r fe h
theorem chainF_many {α : Type} (f : α → List UInt8 × Int) : ∀ (ws : List α), (chainF f 0 ws).2 = (manyT f ws).2 ∧ ((manyT f ws).2 = 0 → (chainF f 0 ws).1 = (manyT f ws).1)
 | [] => ⟨rfl, fun _ => rfl⟩
 | wd :: r => by
   have e : nextF f 0 wd = f wd := by simp [nextF]
   obtain ⟨h1, h2⟩ := chainF_many f r
   simp only [chainF, manyT, e]
   by_cases h : (f wd).2 = 0
   · simp only [h, if_true]
     by_cases h3 : (manyT f r).2 = 0
     · simp only [h3, if_true]
       exact ⟨by rw [h1, h3], fun _ => by rw [h2 h3]⟩
     · simp only [if_neg h3]
       exact ⟨h1, fun h4 => absurd h4 h3⟩
   · simp only [if_neg h]
     exact ⟨chainF_bad f r _ h, fun h4 => absurd h4 h⟩
theorem chainF_ends {α : Type} (f : α → List UInt8 × Int) (ws : List α) :
  ((chainF f 0 ws).2 = 0 → manyT f ws = ((chainF f 0 ws).1, 0)) ∧ ((chainF f 0 ws).2 ≠ 0 → manyT f ws = ([], (chainF f 0 ws).2)) := by
 obtain ⟨h1, h2⟩ := chainF_many f ws
 refine ⟨fun h3 => ?_, fun h3 => ?_⟩
 · rw [h1] at h3
   rw [h2 h3]
   exact Prod.ext rfl h3
 · rw [h1] at h3 ⊢
   have : (manyT f ws).1 = [] := by
    revert h3
    cases ws with
    | nil => intro h; exact absurd rfl h
    | cons a r =>
      simp only [manyT]
      split
      · split
        · intro h; exact absurd rfl h
        · intro _; rfl
      · intro _; rfl
   exact Prod.ext this rfl
def keysV (l : List (List UInt8)) : Value := .agg #[.string (bs (l.getD 0 [])), .string (bs (l.getD 1 [])), .string (bs (l.getD 2 [])), .string (bs (l.getD 3 [])), .string (bs (l.getD 4 []))]
def publicT (a b c d e : List UInt8) : List (List UInt8) × Int := manyT pubT [a, b, c, d, e]
def revealT (sd : List UInt8) (n : Int) : List UInt8 × Int := if n < 0 ∨ 1048575 < n then ([], 2) else secretT sd (1048575 - n)
def pointT (sd : List UInt8) (n : Int) : List UInt8 × Int := if (revealT sd n).2 = 0 then pubT (revealT sd n).1 else ([], (revealT sd n).2)
theorem onT_len (i : Nat) : ∀ (k : Nat) (t : List UInt8), t.length ≤ 16384 → (onT i k t).1.length ≤ 16384
 | 0, t, h => h
 | k + 1, t, h => by
   unfold onT
   split
   · exact onT_len i k t h
   · split
     · exact onT_len i k _ (twoT_len _ _ _)
     · simp
theorem secretT_len (sd : List UInt8) (i : Int) : (secretT sd i).1.length ≤ 16384 := by
 unfold secretT
 split
 · simp
 · split
   · rename_i h; exact onT_len _ _ _ (right_len h).2
   · simp
theorem revealT_len (sd : List UInt8) (n : Int) : (revealT sd n).1.length ≤ 16384 := by
 unfold revealT
 split
 · simp
 · exact secretT_len _ _
theorem and_one64 (n : Int) : bits .and .i64 n 1 = n % 2 := by
 have h1 : (BitVec.ofInt 64 1).toNat = 2 ^ 1 - 1 := by decide
 have key : (BitVec.ofInt 64 n &&& BitVec.ofInt 64 1).toNat = (n % ((2 ^ 64 : Nat) : Int)).toNat % 2 ^ 1 := by
  rw [BitVec.toNat_and, BitVec.toNat_ofInt, h1, Nat.and_two_pow_sub_one_eq_mod]
 show IntKind.i64.wrap ((BitVec.ofInt 64 n &&& BitVec.ofInt 64 1).toNat : Nat) = n % 2
 rw [key, IntKind.wrap_i64]
 omega
theorem bit_test (I : Int) (h0 : 0 ≤ I) (j : Nat) : bits .and .i64 (I / 2 ^ j) 1 = ((I.toNat / 2 ^ j % 2 : Nat) : Int) := by
 rw [and_one64]
 obtain ⟨n, rfl⟩ := Int.eq_ofNat_of_zero_le h0
 simp
theorem onT_skip {i j : Nat} {t : List UInt8} (h : i / 2 ^ j % 2 = 0) : onT i (j + 1) t = onT i j t := by simp [onT, h]
theorem onT_go {i j : Nat} {t x : List UInt8} (h : ¬ i / 2 ^ j % 2 = 0) (hx : twoT 68 t (textL (Lib.decDigits j)) = (x, 0)) : onT i (j + 1) t = onT i j x := by simp [onT, h, hx]
theorem onT_bad {i j : Nat} {t x : List UInt8} {g : Int} (h : ¬ i / 2 ^ j % 2 = 0) (hx : twoT 68 t (textL (Lib.decDigits j)) = (x, g)) (hg : g ≠ 0) : onT i (j + 1) t = ([], g) := by simp [onT, h, hx, hg]
theorem digits2 (k : Nat) (hk : k < 20) : Lib.decDigits k = if 9 < k then [49, UInt8.ofNat (48 + k % 10)] else [UInt8.ofNat (48 + k % 10)] := by
 revert k; decide +kernel
theorem digits2_len (k : Nat) (hk : k < 20) : (Lib.decDigits k).length ≤ 2 := by
 rw [digits2 k hk]; split <;> simp
def payOk (p : List UInt8) : Int := if right p = true ∧ pubC (head p) = true then 0 else 10
def setT (oLater oHtlc tRev tPay tHtlc pt : List UInt8) : List (List UInt8) × Int :=
 if (jointT tRev pt).2 ≠ 0 then ([], (jointT tRev pt).2) else
 if (boundT oLater pt).2 ≠ 0 then ([], (boundT oLater pt).2) else
 if (boundT oHtlc pt).2 ≠ 0 then ([], (boundT oHtlc pt).2) else
 if (boundT tHtlc pt).2 ≠ 0 then ([], (boundT tHtlc pt).2) else
 if payOk tPay ≠ 0 then ([], payOk tPay) else
 ([(jointT tRev pt).1, (boundT oLater pt).1, (boundT oHtlc pt).1, (boundT tHtlc pt).1, tPay], 0)
end Go.Proofs.YtembdkodajichaaGreatDoor
-- SpecG
namespace Go.Proofs.YtembdkodajichaaGreatDoor
def Q (d n : Nat) (l : List UInt8) : Prop := RtD d l ∧ l.length ≤ n
theorem q_right {d n : Nat} {l : List UInt8} (h : Q d n l) (hd : d ≤ 64) (hn : n ≤ 16384) : right l = true := rtD_right hd h.1 (by have := h.2; omega)
theorem q_mono {d d' n n' : Nat} {l : List UInt8} (h : Q d n l) (hd : d ≤ d') (hn : n ≤ n') : Q d' n' l := ⟨rtD_mono hd h.1, by have := h.2; omega⟩
def nameL (n : Nat) : List UInt8 := 110 :: (Lib.decDigits n ++ [59])
theorem nameT_ok (n : Nat) : nameT n = (nameL n, 0) := by
 unfold nameT
 rw [if_neg om_]
 simp [nameL]
theorem q_name (n : Nat) (h : n ≤ 9223372036854775807) : Q 1 25 (nameL n) := by
 have hd := dec_len20 n om_
 exact ⟨rtD_name n 0 h, by simp [nameL]; omega⟩
theorem q_text (s : List UInt8) (h : s.length ≤ 4096) : Q 1 (s.length + 22) (textL s) := ⟨rtD_text s 0 h, (textL_len s h).1⟩
theorem q_label (w : List UInt8) (n : Nat) (hw : w.length ≤ 100) (hn : n ≤ 9223372036854775807) : Q 2 200 (labelT w n) := by
 have hd := dec_len20 n om_
 refine ⟨?_, (label_facts w n hw hn).2.2.2.2.2.2⟩
 refine rtD_tuple 1 [textL w, textL (Lib.decDigits n)] si_ ?_
 intro a ha
 simp at ha
 rcases ha with rfl | rfl
 · exact rtD_text w 0 om_
 · exact rtD_text _ 0 om_
theorem rdx_two (d : Nat) (c : UInt8) (a b : List UInt8) (hc : arity c = some 2) (hf : fitsB c [a, b] = true) (ha : RtD d a) (hb : RtD d b) :
  ∃ dp, rd (d + 1) (c :: (a ++ b)) = some ⟨c, 1 + 0 + (a ++ b).length, dp + 1, 0, [], [a, b]⟩ := by
 obtain ⟨dp, hk⟩ := kidsBy_cat d [a, b] [] (by intro x hx; simp at hx; rcases hx with rfl | rfl <;> assumption)
 have e : cat [a, b] = a ++ b := by simp [cat]
 rw [List.append_nil, e] at hk
 refine ⟨dp, ?_⟩
 have h1 : c ≠ 110 := by rintro rfl; simp [arity] at hc
 have h2 : c ≠ 116 := by rintro rfl; simp [arity] at hc
 have h3 : c ≠ 84 := by rintro rfl; simp [arity] at hc
 simp only [rd]
 rw [if_neg h1, if_neg h2, show cnt c (a ++ b) = some (2, 0) by simp [cnt, h3, hc]]
 simp only [List.drop_zero]
 rw [show ([a, b] : List (List UInt8)).length = 2 from rfl] at hk
 rw [hk]
 simp only
 rw [if_pos hf]
theorem q_two {d n m : Nat} {c : UInt8} {a b : List UInt8} (hc : arity c = some 2) (hf : fitsB c [a, b] = true) (ha : Q d n a) (hb : Q d m b) : Q (d + 1) (n + m + 1) (c :: (a ++ b)) :=
 ⟨rtD_two d c a b hc hf ha.1 hb.1, by have h1 := ha.2; have h2 := hb.2; simp; omega⟩
theorem q_one {d n : Nat} {c : UInt8} {a : List UInt8} (hc : arity c = some 1) (hf : fitsB c [a] = true) (ha : Q d n a) : Q (d + 1) (n + 1) (c :: a) :=
 ⟨rtD_one d c a hc hf ha.1, by have h1 := ha.2; simp; omega⟩
theorem rt_two_at {d n m : Nat} {c : UInt8} {a b : List UInt8} (hc : arity c = some 2) (hf : fitsB c [a, b] = true) (ha : Q d n a) (hb : Q d m b) (hd : d + 1 ≤ 64) (hl : n + m + 1 ≤ 16384) :
  ∃ s, rt (c :: (a ++ b)) = some s ∧ s.op = c ∧ s.kids = [a, b] := by
 obtain ⟨dp, h⟩ := rdx_two d c a b hc hf ha.1 hb.1
 have h1 := ha.2
 have h2 := hb.2
 refine ⟨⟨c, 1 + 0 + (a ++ b).length, dp + 1, 0, [], [a, b]⟩, ?_, rfl, rfl⟩
 unfold rt
 rw [if_pos so_, rd_mono _ 64 _ _ hd h]
 simp
 omega
theorem twoT_at {d n m : Nat} {c : UInt8} {a b : List UInt8} (hc : arity c = some 2) (hf : fitsB c [a, b] = true) (ha : Q d n a) (hb : Q d m b) (hd : d + 1 ≤ 64) (hl : n + m + 1 ≤ 16384) : twoT c a b = (c :: (a ++ b), 0) := by
 unfold twoT
 rw [if_pos ⟨q_right ha om_ om_, q_right hb om_ om_⟩]
 exact made_ok (q_right (q_two hc hf ha hb) hd hl)
theorem head_op {l : List UInt8} {s : Sh} (h : rt l = some s) : s.op = head l := by
 unfold rt at h
 split at h
 · split at h
   · rename_i x hx
     have := rd_ok _ _ _ hx
     unfold ShOk at this
     split at h
     · simp only [Option.some.injEq] at h
       subst h
       exact this.2.2.2.2
     · simp at h
   · simp at h
 · simp at h
theorem keyT_plain {x : List UInt8} (h1 : (head x).toNat ≠ 86) (h2 : (head x).toNat ≠ 75) : keyT x = 80 :: x := by
 rw [keyT_eq]
 split
 · rfl
 · rename_i s hs
   rw [head_op hs, if_neg h1, if_neg h2]
theorem q_pub {d n : Nat} {x : List UInt8} (h : Q d n x) (h1 : (head x).toNat ≠ 86) (h2 : (head x).toNat ≠ 75) : Q (d + 1) (n + 1) (80 :: x) := by
 refine q_one de_ ?_ h
 simp only [fitsB, if_pos, List.getD_cons_zero, Bool.and_eq_true, bne_iff_ne, ne_eq, ← UInt8.toNat_inj, UInt8.reduceToNat]
 exact ⟨h1, h2⟩
theorem pubT_plain {d n : Nat} {x : List UInt8} (h : Q d n x) (h1 : (head x).toNat ≠ 86) (h2 : (head x).toNat ≠ 75) (hd : d + 1 ≤ 64) (hn : n + 1 ≤ 16384) : pubT x = (80 :: x, 0) := by
 unfold pubT
 rw [if_pos (q_right h om_ om_), keyT_plain h1 h2]
 exact made_ok (q_right (q_pub h h1 h2) hd hn)
theorem childT_at {d n : Nat} {r w : List UInt8} {k : Nat} (h : Q d n r) (h2 : 2 ≤ d) (hw : w.length ≤ 100) (hk : k ≤ 9223372036854775807) (hd : d + 1 ≤ 64) (hn : n + 201 ≤ 16384) :
  childT r w k = (68 :: (r ++ labelT w k), 0) ∧ Q (d + 1) (n + 201) (68 :: (r ++ labelT w k)) := by
 have hl := q_mono (q_label w k hw hk) h2 (Nat.le_refl _)
 exact ⟨twoT_at de_ rfl h hl hd hn, q_two de_ rfl h hl⟩
def chS (r : List UInt8) (k : Nat) (w : List UInt8) : List UInt8 := 68 :: ((68 :: (r ++ labelT [99, 104, 97, 110, 110, 101, 108] k)) ++ labelT w 0)
theorem q_chS (r w : List UInt8) (k : Nat) (hr : Q 1 25 r) (hw : w.length ≤ 100) (hk : k ≤ 9223372036854775807) : Q 4 500 (chS r k w) := by
 have h1 := (childT_at (w := [99, 104, 97, 110, 110, 101, 108]) (q_mono hr (show 1 ≤ 2 by omega) (Nat.le_refl _)) om_ si_ hk om_ om_).2
 exact q_mono (childT_at (w := w) (k := 0) h1 om_ hw om_ om_ om_).2 om_ om_
theorem channelT_at (r : List UInt8) (k : Nat) (hr : Q 1 25 r) (hk : k ≤ 9223372036854775807) : channelT r k = (wordsT.map (chS r k), 0) := by
 have h1 := childT_at (w := [99, 104, 97, 110, 110, 101, 108]) (q_mono hr (show 1 ≤ 2 by omega) (Nat.le_refl _)) om_ si_ hk om_ om_
 have h2 : ∀ w ∈ wordsT, childT (68 :: (r ++ labelT [99, 104, 97, 110, 110, 101, 108] k)) w 0 = (chS r k w, 0) := by
  intro w hw
  have hwl : w.length ≤ 100 := by
   simp [wordsT] at hw
   rcases hw with rfl | rfl | rfl | rfl | rfl | rfl <;> simp
  exact (childT_at (w := w) (k := 0) h1.2 om_ hwl om_ om_ om_).1
 have h3 : ∀ ws : List (List UInt8), (∀ w ∈ ws, childT (68 :: (r ++ labelT [99, 104, 97, 110, 110, 101, 108] k)) w 0 = (chS r k w, 0)) →
   manyT (fun w => childT (68 :: (r ++ labelT [99, 104, 97, 110, 110, 101, 108] k)) w 0) ws = (ws.map (chS r k), 0) := by
  intro ws
  induction ws with
  | nil => intro _; rfl
  | cons w ws ih =>
    intro h
    have h4 := h w si_
    have h5 := ih (fun x hx => h x (by simp [hx]))
    simp only [manyT, h4, h5, if_true, List.map_cons]
 unfold channelT
 rw [if_neg om_, show (k : Int).toNat = k by omega, h1.1]
 simp only [if_true]
 exact h3 wordsT h2
theorem onT_at (i : Nat) : ∀ (k d n : Nat) (t : List UInt8), k ≤ 20 → Q d n t → 1 ≤ d → d + k ≤ 64 → n + 30 * k ≤ 16384 → head t = 68 →
  ∃ t', onT i k t = (t', 0) ∧ Q (d + k) (n + 30 * k) t' ∧ head t' = 68
 | 0, d, n, t, _, h, _, _, _, hh => ⟨t, rfl, h, hh⟩
 | k + 1, d, n, t, hk, h, h1, hd, hn, hh => by
   by_cases hb : i / 2 ^ k % 2 = 0
   · obtain ⟨t', h3, h4, h5⟩ := onT_at i k d n t om_ h h1 om_ om_ hh
     exact ⟨t', by rw [onT_skip hb, h3], q_mono h4 om_ om_, h5⟩
   · have hl := digits2_len k om_
     have hq := q_mono (q_text (Lib.decDigits k) om_) h1 (show (Lib.decDigits k).length + 22 ≤ 24 by omega)
     have h2 := twoT_at (c := 68) de_ rfl h hq om_ om_
     obtain ⟨t', h3, h4, h5⟩ := onT_at i k (d + 1) (n + 24 + 1) (68 :: (t ++ textL (Lib.decDigits k))) om_ (q_two de_ rfl h hq) om_ om_ om_ rfl
     exact ⟨t', by rw [onT_go hb h2, h3], q_mono h4 om_ om_, h5⟩
theorem secretT_at {sd : List UInt8} (h : Q 4 500 sd) (hh : head sd = 68) (i : Int) (h0 : 0 ≤ i) (h1 : i ≤ 1048575) : ∃ t, secretT sd i = (t, 0) ∧ Q 24 1100 t ∧ head t = 68 := by
 obtain ⟨t, h2, h3, h4⟩ := onT_at i.toNat 20 4 500 sd om_ h om_ om_ om_ hh
 refine ⟨t, ?_, h3, h4⟩
 unfold secretT
 rw [if_neg om_, if_pos (q_right h om_ om_), h2]
theorem revealT_at {sd : List UInt8} (h : Q 4 500 sd) (hh : head sd = 68) (n : Int) (h0 : 0 ≤ n) (h1 : n ≤ 1048575) : ∃ t, revealT sd n = (t, 0) ∧ pointT sd n = (80 :: t, 0) ∧ Q 24 1100 t ∧ head t = 68 := by
 obtain ⟨t, h2, h3, h4⟩ := secretT_at h hh (1048575 - n) om_ om_
 have h5 : revealT sd n = (t, 0) := by unfold revealT; rw [if_neg om_, h2]
 refine ⟨t, h5, ?_, h3, h4⟩
 unfold pointT
 rw [h5]
 simp only [if_true]
 exact pubT_plain h3 (by rw [h4]; decide) (by rw [h4]; decide) om_ om_
theorem publicT_at {a b c d e : List UInt8} (h : ∀ x ∈ [a, b, c, d, e], Q 4 500 x ∧ head x = 68) : publicT a b c d e = ([80 :: a, 80 :: b, 80 :: c, 80 :: d, 80 :: e], 0) := by
 have hp : ∀ x, Q 4 500 x ∧ head x = 68 → pubT x = (80 :: x, 0) := fun x hx => pubT_plain hx.1 (by rw [hx.2]; decide) (by rw [hx.2]; decide) om_ om_
 unfold publicT
 simp only [manyT, hp a (h a si_), hp b (h b si_), hp c (h c si_), hp d (h d si_), hp e (h e si_), if_true]
theorem q_P {x : List UInt8} (h : Q 4 500 x ∧ head x = 68) : Q 25 1101 (80 :: x) := q_mono (q_pub h.1 (by rw [h.2]; decide) (by rw [h.2]; decide)) om_ om_
theorem q_pt {x : List UInt8} (h : Q 24 1100 x ∧ head x = 68) : Q 25 1101 (80 :: x) := q_pub h.1 (by rw [h.2]; decide) (by rw [h.2]; decide)
theorem joint_at {a b : List UInt8} (ha : Q 25 1101 (80 :: a)) (hb : Q 25 1101 (80 :: b)) : jointT (80 :: a) (80 :: b) = (87 :: ((80 :: a) ++ (80 :: b)), 0) := by
 unfold jointT
 rw [if_pos ⟨q_right ha om_ om_, q_right hb om_ om_, rfl, rfl⟩]
 exact twoT_at de_ (by rfl) ha hb om_ om_
theorem bound_at {a b : List UInt8} (ha : Q 25 1101 (80 :: a)) (hb : Q 25 1101 (80 :: b)) : boundT (80 :: a) (80 :: b) = (76 :: ((80 :: a) ++ (80 :: b)), 0) := by
 unfold boundT
 rw [if_pos ⟨q_right ha om_ om_, q_right hb om_ om_, rfl⟩]
 exact twoT_at de_ (by rfl) ha hb om_ om_
theorem pub_bind {a p : List UInt8} (ha : Q 24 1100 a ∧ head a = 68) (hp : Q 25 1101 (80 :: p)) : twoT 75 a (80 :: p) = (75 :: (a ++ (80 :: p)), 0) ∧ pubT (75 :: (a ++ (80 :: p))) = (76 :: ((80 :: a) ++ (80 :: p)), 0) := by
 have ha' := q_mono ha.1 (show 24 ≤ 25 by omega) (Nat.le_refl _)
 refine ⟨twoT_at de_ rfl ha' hp om_ om_, ?_⟩
 obtain ⟨s, hs, ho, hk⟩ := rt_two_at (c := 75) de_ rfl ha' hp om_ om_
 have hq : right (75 :: (a ++ (80 :: p))) = true := by unfold right; rw [hs]; rfl
 unfold pubT
 rw [if_pos hq, keyT_eq, hs]
 simp only [ho, hk, List.getD_cons_zero, List.getD_cons_succ]
 rw [if_neg de_, if_pos de_, keyT_plain (by rw [ha.2]; decide) (by rw [ha.2]; decide)]
 exact made_ok (q_right (q_two (c := 76) de_ (by rfl) (q_pt ha) hp) om_ om_)
theorem pub_join {a b : List UInt8} (ha : Q 24 1100 a ∧ head a = 68) (hb : Q 24 1100 b ∧ head b = 68) : twoT 86 a b = (86 :: (a ++ b), 0) ∧ pubT (86 :: (a ++ b)) = (87 :: ((80 :: a) ++ (80 :: b)), 0) := by
 refine ⟨twoT_at de_ rfl ha.1 hb.1 om_ om_, ?_⟩
 obtain ⟨s, hs, ho, hk⟩ := rt_two_at (c := 86) de_ rfl ha.1 hb.1 om_ om_
 have hq : right (86 :: (a ++ b)) = true := by unfold right; rw [hs]; rfl
 unfold pubT
 rw [if_pos hq, keyT_eq, hs]
 simp only [ho, hk, List.getD_cons_zero, List.getD_cons_succ]
 rw [if_pos de_, keyT_plain (by rw [ha.2]; decide) (by rw [ha.2]; decide), keyT_plain (by rw [hb.2]; decide) (by rw [hb.2]; decide)]
 exact made_ok (q_right (q_two (c := 87) de_ (by rfl) (q_pt ha) (q_pt hb)) om_ om_)
theorem set_at {oL oH tR tP tH pt : List UInt8} (h1 : Q 4 500 oL ∧ head oL = 68) (h2 : Q 4 500 oH ∧ head oH = 68) (h3 : Q 4 500 tR ∧ head tR = 68) (h4 : Q 4 500 tP ∧ head tP = 68) (h5 : Q 4 500 tH ∧ head tH = 68) (h6 : Q 24 1100 pt ∧ head pt = 68) :
  setT (80 :: oL) (80 :: oH) (80 :: tR) (80 :: tP) (80 :: tH) (80 :: pt) = ([87 :: ((80 :: tR) ++ (80 :: pt)), 76 :: ((80 :: oL) ++ (80 :: pt)), 76 :: ((80 :: oH) ++ (80 :: pt)), 76 :: ((80 :: tH) ++ (80 :: pt)), 80 :: tP], 0) := by
 have hp := q_pt h6
 have hpay : payOk (80 :: tP) = 0 := by
  unfold payOk
  rw [if_pos ⟨q_right (q_P h4) om_ om_, rfl⟩]
 unfold setT
 rw [joint_at (q_P h3) hp, bound_at (q_P h1) hp, bound_at (q_P h2) hp, bound_at (q_P h5) hp, hpay]
 simp
theorem sec_up {x : List UInt8} (h : Q 4 500 x ∧ head x = 68) : Q 24 1100 x ∧ head x = 68 := ⟨q_mono h.1 om_ om_, h.2⟩
theorem chS_ok (r w : List UInt8) (k : Nat) (hr : Q 1 25 r) (hw : w.length ≤ 100) (hk : k ≤ 9223372036854775807) : Q 4 500 (chS r k w) ∧ head (chS r k w) = 68 := ⟨q_chS r w k hr hw hk, rfl⟩
end Go.Proofs.YtembdkodajichaaGreatDoor
-- SpecH
namespace Go.Proofs.YtembdkodajichaaGreatDoor
theorem rd_cnt {d : Nat} {l : List UInt8} {x : Sh} (h : rd d l = some x) :
  ((x.op.toNat = 110 ∨ x.op.toNat = 116) ∧ x.kids = []) ∨ (x.op.toNat ≠ 110 ∧ x.op.toNat ≠ 116 ∧ (∃ r k, cnt x.op r = some (x.kids.length, k)) ∧ fitsB x.op x.kids = true) := by
 cases d with
 | zero => simp [rd] at h
 | succ d =>
   cases l with
   | nil => simp [rd] at h
   | cons c r =>
     simp only [rd, ← UInt8.toNat_inj, UInt8.reduceToNat] at h
     split at h
     · rename_i hc
       cases hn : num 59 r with
       | none => simp [hn] at h
       | some y =>
         simp only [hn, Option.map_some, Option.some.injEq] at h
         subst h
         exact .inl ⟨.inl hc, rfl⟩
     · rename_i hc0
       split at h
       · rename_i hc
         split at h
         · simp at h
         · split at h
           · simp at h
           · simp only [Option.some.injEq] at h
             subst h
             exact .inl ⟨.inr hc, rfl⟩
       · rename_i hc1
         split at h
         · simp at h
         · rename_i m k hc
           split at h
           · simp at h
           · rename_i ks dp len hk
             have h2 := kidsBy_ok (rd_ok d) m _ _ _ _ hk
             split at h
             · rename_i hf
               simp only [Option.some.injEq] at h
               subst h
               exact .inr ⟨hc0, hc1, ⟨r, k, by rw [← h2.1] at hc; exact hc⟩, hf⟩
             · simp at h
theorem rt_rd {l : List UInt8} {x : Sh} (h : rt l = some x) : rd 64 l = some x ∧ x.len = l.length ∧ l.length ≤ 16384 := by
 unfold rt at h
 split at h
 · rename_i hl
   split at h
   · rename_i y hy
     split at h
     · rename_i hlen
       simp only [Option.some.injEq] at h
       subst h
       exact ⟨hy, hlen, hl⟩
     · simp at h
   · simp at h
 · simp at h
theorem cnt_arity {c : UInt8} {r : List UInt8} {m k n : Nat} (h : cnt c r = some (m, k)) (ha : arity c = some n) : m = n := by
 simp only [cnt] at h
 split at h
 · rename_i hc
   subst hc
   simp [arity] at ha
 · rw [ha] at h
   simp at h
   exact h.1.symm
theorem rt_arity {l : List UInt8} {x : Sh} (h : rt l = some x) {n : Nat} (ha : arity x.op = some n) : x.kids.length = n := by
 have h1 := (rt_rd h).1
 rcases rd_cnt h1 with ⟨h2, _⟩ | ⟨_, _, ⟨r, k, h2⟩, _⟩
 · simp only [arity, ← UInt8.toNat_inj, UInt8.reduceToNat] at ha
   split at ha
   · omega
   · split at ha
     · omega
     · simp at ha
 · exact cnt_arity h2 ha
theorem rt_one_kid {l : List UInt8} {x : Sh} (h : rt l = some x) (ha : arity x.op = some 1) : ∃ a, x.kids = [a] ∧ right a = true ∧ a.length < l.length := by
 have h1 := rt_arity h ha
 have h2 := rt_kids h
 match x.kids, h1, h2 with
 | [a], _, h2 => exact ⟨a, rfl, h2 a si_⟩
theorem rt_two_kids {l : List UInt8} {x : Sh} (h : rt l = some x) (ha : arity x.op = some 2) : ∃ a b, x.kids = [a, b] ∧ right a = true ∧ right b = true ∧ a.length < l.length ∧ b.length < l.length := by
 have h1 := rt_arity h ha
 have h2 := rt_kids h
 match x.kids, h1, h2 with
 | [a, b], _, h2 => exact ⟨a, b, rfl, (h2 a si_).1, (h2 b si_).1, (h2 a si_).2, (h2 b si_).2⟩
theorem rt_many_kids {l : List UInt8} {x : Sh} (h : rt l = some x) : x.kids.length ≤ 32 := by
 have h1 := (rt_rd h).1
 rcases rd_cnt h1 with ⟨_, h2⟩ | ⟨_, _, ⟨r, k, h2⟩, _⟩
 · rw [h2]; simp
 · exact (cnt_bound h2).1
def agreeT (k p : List UInt8) : List UInt8 × Int :=
 match rt p with
 | none => ([], 10)
 | some s => if s.op.toNat = 80 then (if Op.bytesLess (s.kids.getD 0 []) k = true then twoT 88 (s.kids.getD 0 []) k else twoT 88 k (s.kids.getD 0 [])) else ([], 10)
def unboxT (k c : List UInt8) : List UInt8 × Bool :=
 match rt c with
 | none => ([], false)
 | some s => if s.op.toNat = 66 ∧ s.kids.getD 0 [] = k then (s.kids.getD 1 [], true) else ([], false)
def verifyT (p m s : List UInt8) : Bool :=
 match rt s with
 | none => false
 | some x => x.op.toNat == 83 && x.kids.getD 1 [] == m && keyT (x.kids.getD 0 []) == p
theorem agreeT_len (k p : List UInt8) : (agreeT k p).1.length ≤ 16384 := by
 unfold agreeT
 split
 · simp
 · split
   · split <;> exact twoT_len _ _ _
   · simp
theorem unboxT_len (k c : List UInt8) : (unboxT k c).1.length ≤ 16384 := by
 unfold unboxT
 split
 · simp
 · rename_i s hs
   split
   · rename_i h
     have ha : arity s.op = some 2 := by simp [arity, ← UInt8.toNat_inj, h.1]
     obtain ⟨a, b, hk, _, hb, _⟩ := rt_two_kids hs ha
     rw [hk]
     exact (right_len hb).2
   · simp
theorem right_same {a u b v : List UInt8} (ha : right a = true) (hu : right u = true) (h : a ++ b = u ++ v) : a = u ∧ b = v := by
 obtain ⟨⟨x, hx, hl⟩, _⟩ := right_rtD ha
 obtain ⟨⟨y, hy, hm⟩, _⟩ := right_rtD hu
 have h1 := rd_ext 64 a x b hx
 have h2 := rd_ext 64 u y v hy
 rw [h, h2] at h1
 obtain rfl := Option.some.inj h1
 exact List.append_inj h om_
theorem kidsBy_text {f : List UInt8 → Option Sh} : ∀ (n : Nat) (l : List UInt8) (ks : List (List UInt8)) (dp len : Nat), kidsBy f n l = some (ks, dp, len) → cat ks = l.take len
 | 0, l, ks, dp, len, h => by
   simp only [kidsBy, Option.some.injEq, Prod.mk.injEq] at h
   obtain ⟨rfl, _, rfl⟩ := h
   simp [cat]
 | n + 1, l, ks, dp, len, h => by
   rw [kidsBy] at h
   cases hx : f l with
   | none => rw [hx] at h; cases h
   | some x =>
     rw [hx] at h
     simp only at h
     cases hk : kidsBy f n (l.drop x.len) with
     | none => rw [hk] at h; cases h
     | some y =>
       obtain ⟨ks', dp', len'⟩ := y
       rw [hk] at h
       simp only [Option.some.injEq, Prod.mk.injEq] at h
       obtain ⟨rfl, _, rfl⟩ := h
       have := kidsBy_text n _ _ _ _ hk
       rw [show cat (l.take x.len :: ks') = l.take x.len ++ cat ks' from rfl, this, List.take_add]
theorem rt_text {l : List UInt8} {x : Sh} {n : Nat} (h : rt l = some x) (ha : arity x.op = some n) : l = x.op :: cat x.kids := by
 have h1 := (rt_rd h).1
 have h2 := (rt_rd h).2
 cases l with
 | nil => simp [rd] at h1
 | cons c r =>
   have hop : x.op = c := (rd_ok _ _ _ h1).2.2.2.2
   rw [hop] at ha
   have n1 : c ≠ 110 := by intro hc; subst hc; simp [arity] at ha
   have n2 : c ≠ 116 := by intro hc; subst hc; simp [arity] at ha
   have n3 : c ≠ 84 := by intro hc; subst hc; simp [arity] at ha
   rw [rd, if_neg n1, if_neg n2] at h1
   have hc : cnt c r = some (n, 0) := by unfold cnt; rw [if_neg n3, ha]; rfl
   rw [hc] at h1
   simp only at h1
   cases hk : kidsBy (rd 63) n (r.drop 0) with
   | none => rw [hk] at h1; cases h1
   | some y =>
     obtain ⟨ks, dp, len⟩ := y
     rw [hk] at h1
     simp only at h1
     split at h1
     · simp only [Option.some.injEq] at h1
       subst h1
       have := kidsBy_text _ _ _ _ _ hk
       simp only [List.drop_zero] at this
       simp only [List.length_cons] at h2 ⊢
       rw [this, List.take_of_length_le om_]
     · cases h1
theorem key_plain {a r : List UInt8} (h : keyT a = 80 :: r) : a = r := by
 rw [keyT_eq] at h
 split at h
 · simpa using h
 · split at h
   · simp at h
   · split at h
     · simp at h
     · simpa using h
theorem rdx_tuple (d : Nat) (ls : List (List UInt8)) (hn : ls.length ≤ 32) (h : ∀ a ∈ ls, RtD d a) : ∃ dp, rd (d + 1) (84 :: (Lib.decDigits ls.length ++ 58 :: cat ls)) = some ⟨84, 1 + ((Lib.decDigits ls.length).length + 1) + (cat ls).length, dp + 1, 0, [], ls⟩ := by
 have hnum := num_dec 58 de_ ls.length (cat ls) om_
 obtain ⟨dp, hk⟩ := kidsBy_cat d ls [] h
 rw [List.append_nil] at hk
 refine ⟨dp, ?_⟩
 simp only [rd]
 rw [if_neg de_, if_neg de_]
 have hc : cnt 84 (Lib.decDigits ls.length ++ 58 :: cat ls) = some (ls.length, (Lib.decDigits ls.length).length + 1) := by
  simp only [cnt]
  rw [if_pos de_, hnum]
  simp only
  rw [if_neg om_]
 rw [hc]
 simp only
 have e : (Lib.decDigits ls.length ++ 58 :: cat ls).drop ((Lib.decDigits ls.length).length + 1) = cat ls := by
  rw [show Lib.decDigits ls.length ++ 58 :: cat ls = (Lib.decDigits ls.length ++ [58]) ++ cat ls by simp]
  rw [List.drop_left' si_]
 rw [e, hk]
 simp only
 rw [if_pos (by simp [fitsB])]
def tupL (ls : List (List UInt8)) : List UInt8 := 84 :: (Lib.decDigits ls.length ++ 58 :: cat ls)
end Go.Proofs.YtembdkodajichaaGreatDoor
