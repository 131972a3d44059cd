/- Byte texts as lists: 'bs l' is the Go string whose bytes are l; how the walk's operations read on such texts. -/
import Derived.Test.YtchbhainmalbbaaDoorRows
import Derived.WalkKit
import Derived.WalkSpells
import Derived.WalkLawsBesides
import Derived.Outline
import Derived.Lib.Hide
namespace Go.Proofs.YtchbhainmalbbaaDoor
open Go.RowKit

def bs (l : List UInt8) : ByteArray := ⟨l.toArray⟩

theorem bs_mk (l : List UInt8) : (⟨l.toArray⟩ : ByteArray) = bs l := rfl
theorem bs_nil : (ByteArray.empty) = bs [] := rfl
theorem bs_size (l : List UInt8) : (bs l).size = l.length := by simp [bs, ByteArray.size]
theorem bs_toList (l : List UInt8) : (bs l).toList = l := by
  rw [ByteArray.toList_eq]; simp [bs]
theorem bs_data (l : List UInt8) : (bs l).data.toList = l := by simp [bs]
theorem bs_append (a b : List UInt8) : bs a ++ bs b = bs (a ++ b) := by
  apply ByteArray.ext; simp [bs, ByteArray.data_append]
theorem bs_extract (l : List UInt8) (a b : Nat) : (bs l).extract a b = bs ((l.drop a).take (b - a)) := ByteArray.extract_mk l a b
theorem bs_get (l : List UInt8) (i : Nat) (h : i < (bs l).size) : (bs l)[i] = l[i]'(by rw [bs_size] at h; exact h) := rfl
theorem bs_inj (a b : List UInt8) : (bs a = bs b) = (a = b) := by
  apply propext; constructor
  · intro h; have := congrArg (fun x => x.data.toList) h; simpa [bs] using this
  · rintro rfl; rfl
theorem bs_ofData (s : ByteArray) : bs s.data.toList = s := by
  apply ByteArray.ext; simp [bs]

attribute [simp, go_sem] bs_mk bs_nil bs_size bs_toList bs_data bs_append bs_extract bs_get bs_inj

/-- What a call that makes memory alone leaves of what was there. -/
theorem bcell {W w1 : World} (hb : Below W.heap.size W w1) : (∀ b o, b < W.heap.size → w1.cell? ⟨b, o, none⟩ = W.cell? ⟨b, o, none⟩) ∧ (∀ b o, b < W.heap.size → w1.frozen? ⟨b, o, none⟩ = W.frozen? ⟨b, o, none⟩) :=
  ⟨fun b o h => hb.cell (p := ⟨b, o, none⟩) h, fun b o h => hb.frozen (p := ⟨b, o, none⟩) h⟩

theorem below_step {B : Nat} {w w1 w2 : World} (h2 : Below w1.heap.size w1 w2) (h1 : Below B w w1) (hB : B ≤ w.heap.size) : Below B w w2 :=
  h1.trans (h2.mono (Nat.le_trans hB h1.size))

theorem below_alloc {B : Nat} {w w1 : World} (h : Below B w w1) (hB : B ≤ w.heap.size) (o : Obj) : Below B w (w1.alloc o) := h.alloc (Nat.le_trans hB h.size) o

/-! A block known whole. -/
theorem blk_cell {w : World} {B T : Nat} {cs : Array Value} {fz : Nat × Nat} (h : w.heap[B]? = some (.cells cs T fz)) (j : Nat) : w.cell? ⟨B, j, none⟩ = cs[j]? := by simp [World.cell?, h]
theorem blk_free {w : World} {B T : Nat} {cs : Array Value} (h : w.heap[B]? = some (.cells cs T (0, 0))) (j : Nat) : w.frozen? ⟨B, j, none⟩ = false := by simp [World.frozen?, h]
theorem blk_lt {w : World} {B : Nat} {o : Obj} (h : w.heap[B]? = some o) : B < w.heap.size := (Array.getElem?_eq_some_iff.1 h).1
theorem blk_alloc {w : World} {B : Nat} {x : Obj} (h : w.heap[B]? = some x) (o : Obj) : (w.alloc o).heap[B]? = some x := by
  rw [Below.heap_alloc w o B (blk_lt h)]; exact h
theorem blk_new (w : World) (o : Obj) : (w.alloc o).heap[w.heap.size]? = some o := by
  show (w.heap.push o)[w.heap.size]? = _
  simp
theorem blk_set {w : World} {B T : Nat} {cs : Array Value} {fz : Nat × Nat} (h : w.heap[B]? = some (.cells cs T fz)) (j : Nat) (v : Value) : (w.setCell ⟨B, j, none⟩ v).heap[B]? = some (.cells (cs.setIfInBounds j v) T fz) := by
  simp [World.setCell, Array.getElem?_modify, h]
theorem blk_ne {w : World} {B : Nat} {x : Obj} (h : w.heap[B]? = some x) {p : Addr} (hp : B ≠ p.block) (v : Value) : (w.setCell p v).heap[B]? = some x := by
  rw [Below.heap_setCell w p v B hp]; exact h
theorem cell_set_ne {w : World} {b j : Nat} {p : Addr} {v u : Value} (h : w.cell? ⟨b, j, none⟩ = some u) (hp : b ≠ p.block) : (w.setCell p v).cell? ⟨b, j, none⟩ = some u := by
  have e : (w.setCell p v).heap[b]? = w.heap[b]? := Below.heap_setCell w p v b hp
  simp only [World.cell?, e]; exact h
theorem blk_drewN {w : World} {B : Nat} {x : Obj} (h : w.heap[B]? = some x) (n : Nat) : (w.drewN n).heap[B]? = some x := h
theorem blk_drew {w : World} {B : Nat} {x : Obj} (h : w.heap[B]? = some x) : w.drew.heap[B]? = some x := h
theorem cell_drew_some {w : World} {a : Addr} {u : Value} (h : w.cell? a = some u) : w.drew.cell? a = some u := h
theorem blk_below {N : Nat} {w w1 : World} {B : Nat} {x : Obj} (h : w.heap[B]? = some x) (hb : Below N w w1) (hN : B < N) : w1.heap[B]? = some x := by
  rw [hb.block B hN]; exact h
theorem blk_grown {w w1 : World} {row : Option Nat} {B : Nat} {x : Obj} (h : w.heap[B]? = some x) (hg : w.grownBy w1 row) (hr : some B ≠ row) : w1.heap[B]? = some x := by
  rw [hg.block B (blk_lt h) hr]; exact h
theorem cell_one_at {W : World} {v : Value} {e n : Nat} (h : n = W.heap.size) : ∀ (j : Nat) (u : Value), [v][j]? = some u → (W.alloc (.cells #[v] e)).cell? ((⟨n, 0, none⟩ : Addr).add j) = some u := by
  subst h; exact cell_one_new _ _ _
theorem one1 {v : Value} (h : v.oneCell' = true) : ∀ u ∈ [v], u.oneCell' = true := by
  intro u hu; rw [List.mem_singleton] at hu; subst hu; exact h
theorem own_slice {w : World} {base e size n : Nat} {v : Value} {xs : List Value} (h : w.ownsRow base e size v n xs) : ∃ ad m c, v = .slice ad m c := by
  rcases h.2 with ⟨h, _⟩ | ⟨g, cap, _, h, _⟩ <;> exact ⟨_, _, _, h⟩
theorem own_len {w : World} {base e size n m c : Nat} {a : Option Addr} {xs : List Value} (h : w.ownsRow base e size (.slice a m c) n xs) : m = n := by
  rcases h.2 with ⟨h, h2⟩ | ⟨g, cap, _, h, _⟩
  · injection h with h3 h4 h5; omega
  · injection h
/-- A row of one element type and a block of another: not one block. -/
theorem own_ne {w : World} {base e size n : Nat} {v : Value} {xs : List Value} (h : w.ownsRow base e size v n xs) {B T : Nat} {cs : Array Value} {fz : Nat × Nat} (hB : w.heap[B]? = some (.cells cs T fz)) (hT : T ≠ e) : some B ≠ v.ownBlock := by
  obtain ⟨_, h⟩ := h
  rcases h with ⟨rfl, _⟩ | ⟨g, cap, cur, rfl, _, hg, _⟩
  · simp [Value.ownBlock]
  · simp only [Value.ownBlock]
    intro e
    simp only [Option.some.injEq] at e
    subst e
    rw [hB] at hg
    simp at hg
    exact hT hg.2.1
theorem app_keep {w1 w4 : World} {B T j : Nat} {cs : Array Value} {fz : Nat × Nat} {v : Value} {X Y : Obj} {row : Option Nat} (h : w1.heap[B]? = some (.cells cs T fz))
    (hg : (((w1.setCell ⟨B, j, none⟩ v).alloc X).alloc Y).grownBy w4 row) (hr : some B ≠ row) : w4.heap[B]? = some (.cells (cs.setIfInBounds j v) T fz) :=
  blk_grown (blk_alloc (blk_alloc (blk_set h j v) X) Y) hg hr
theorem own_ge {w : World} {base e size n : Nat} {v : Value} {xs : List Value} (h : w.ownsRow base e size v n xs) : ∀ g, v.ownBlock = some g → base ≤ g := by
  intro g hg
  rcases h.2 with ⟨rfl, _⟩ | ⟨g', cap, cur, rfl, h', _⟩
  · simp [Value.ownBlock] at hg
  · simp [Value.ownBlock] at hg; omega
theorem own_two {w : World} {b1 b2 e1 e2 s1 s2 n1 n2 : Nat} {v1 v2 : Value} {x1 x2 : List Value} (h1 : w.ownsRow b1 e1 s1 v1 n1 x1) (h2 : w.ownsRow b2 e2 s2 v2 n2 x2) (he : e1 ≠ e2) : v1.ownBlock ≠ v2.ownBlock ∨ v1.ownBlock = none := by
  rcases h1.2 with ⟨rfl, _⟩ | ⟨g, cap, cur, rfl, _, hg, _⟩
  · exact .inr rfl
  · refine .inl ?_
    have := own_ne h2 hg (by exact he)
    simpa [Value.ownBlock] using this
/-- An owned row stays owned where its block stays. -/
theorem own_keep {w w1 : World} {base e size n : Nat} {v : Value} {xs : List Value} (h : w.ownsRow base e size v n xs) (hk : ∀ g x, base ≤ g → w.heap[g]? = some x → some g = v.ownBlock → w1.heap[g]? = some x) : w1.ownsRow base e size v n xs := by
  obtain ⟨h0, h⟩ := h
  refine ⟨h0, ?_⟩
  rcases h with h | ⟨g, cap, cur, rfl, hb, hg, r⟩
  · exact Or.inl h
  · exact Or.inr ⟨g, cap, cur, rfl, hb, hk g _ hb hg rfl, r⟩
theorem own_below {N : Nat} {w w1 : World} {base e size n : Nat} {v : Value} {xs : List Value} (h : w.ownsRow base e size v n xs) (hb : Below N w w1) (hN : N = w.heap.size) : w1.ownsRow base e size v n xs :=
  own_keep h fun g x _ hg _ => blk_below hg hb (by rw [hN]; exact blk_lt hg)
theorem own_alloc {w : World} {base e size n : Nat} {v : Value} {xs : List Value} (h : w.ownsRow base e size v n xs) (o : Obj) : (w.alloc o).ownsRow base e size v n xs :=
  own_keep h fun _ _ _ hg _ => blk_alloc hg o
theorem own_ne_set {w : World} {base e size n : Nat} {v : Value} {xs : List Value} (h : w.ownsRow base e size v n xs) {p : Addr} (hp : some p.block ≠ v.ownBlock) (u : Value) : (w.setCell p u).ownsRow base e size v n xs :=
  own_keep h fun _ _ _ hg e => blk_ne hg (fun e' => hp (by rw [← e', e])) u
theorem own_base {w : World} {base b2 e size n : Nat} {v : Value} {xs : List Value} (h : w.ownsRow base e size v n xs) (hb : b2 ≤ base) : w.ownsRow b2 e size v n xs := by
  obtain ⟨h0, h⟩ := h
  refine ⟨h0, ?_⟩
  rcases h with h | ⟨g, cap, cur, hv, hg, r⟩
  · exact Or.inl h
  · exact Or.inr ⟨g, cap, cur, hv, Nat.le_trans hb hg, r⟩

/-! What has grown, but for one row. -/
theorem gb_refl (w : World) (row : Option Nat) : w.grownBy w row := ⟨rfl, rfl, rfl, Nat.le_refl _, fun _ _ _ => rfl⟩
theorem gb_gb {w w1 w2 : World} {row : Option Nat} (h : w.grownBy w1 row) (h2 : w1.grownBy w2 row) : w.grownBy w2 row :=
  ⟨h2.os.trans h.os, h2.tape.trans h.tape, h2.output.trans h.output, Nat.le_trans h.size h2.size, fun k hk hr => (h2.block k (Nat.lt_of_lt_of_le hk h.size) hr).trans (h.block k hk hr)⟩
theorem gb_drewN {w w1 : World} {row : Option Nat} (h : w.grownBy w1 row) (n : Nat) : w.grownBy (w1.drewN n) row :=
  gb_gb h ⟨rfl, rfl, rfl, Nat.le_refl _, fun _ _ _ => rfl⟩
theorem gb_drew {w w1 : World} {row : Option Nat} (h : w.grownBy w1 row) : w.grownBy w1.drew row :=
  gb_gb h ⟨rfl, rfl, rfl, Nat.le_refl _, fun _ _ _ => rfl⟩
theorem gb_alloc {w w1 : World} {row : Option Nat} (h : w.grownBy w1 row) (o : Obj) : w.grownBy (w1.alloc o) row :=
  gb_gb h ⟨rfl, rfl, rfl, by simp, fun k hk _ => Below.heap_alloc _ _ _ hk⟩
theorem gb_set {w w1 : World} {row : Option Nat} (h : w.grownBy w1 row) {p : Addr} (hp : some p.block = row ∨ w.heap.size ≤ p.block) (v : Value) : w.grownBy (w1.setCell p v) row :=
  ⟨h.os, h.tape, h.output, by simpa [World.setCell] using h.size, fun k hk hr => by
    rw [Below.heap_setCell _ _ _ _ (by rintro rfl; rcases hp with hp | hp; exact hr hp; omega)]; exact h.block k hk hr⟩
theorem gb_below {w w1 w2 : World} {row : Option Nat} (h : w.grownBy w1 row) (hb : Below w1.heap.size w1 w2) : w.grownBy w2 row :=
  gb_gb h ⟨hb.os, hb.tape, hb.output, hb.size, fun k hk _ => hb.block k hk⟩
theorem gb_lift {w w1 : World} {row : Option Nat} (h : w.grownBy w1 none) : w.grownBy w1 row :=
  ⟨h.os, h.tape, h.output, h.size, fun k hk _ => h.block k hk (by simp)⟩

/-! What has grown, but for some rows. -/
structure GL (rs : List Nat) (w w' : World) : Prop where
  os : w'.os = w.os
  tape : w'.tape = w.tape
  output : w'.output = w.output
  size : w.heap.size ≤ w'.heap.size
  block : ∀ k, k < w.heap.size → k ∉ rs → w'.heap[k]? = w.heap[k]?
theorem gl_refl (rs : List Nat) (w : World) : GL rs w w := ⟨rfl, rfl, rfl, Nat.le_refl _, fun _ _ _ => rfl⟩
theorem gl_step {rs rs' : List Nat} {w w1 w2 : World} (h2 : GL rs' w1 w2) (h : GL rs w w1) (hr : ∀ r ∈ rs', r ∈ rs ∨ w.heap.size ≤ r) : GL rs w w2 :=
  ⟨h2.os.trans h.os, h2.tape.trans h.tape, h2.output.trans h.output, Nat.le_trans h.size h2.size, fun k hk hn =>
    (h2.block k (Nat.lt_of_lt_of_le hk h.size) (fun hm => by rcases hr k hm with h' | h'; exact hn h'; omega)).trans (h.block k hk hn)⟩
theorem gl_drewN {rs : List Nat} {w w1 : World} (h : GL rs w w1) (n : Nat) : GL rs w (w1.drewN n) := ⟨h.os, h.tape, h.output, h.size, h.block⟩
theorem gl_drew {rs : List Nat} {w w1 : World} (h : GL rs w w1) : GL rs w w1.drew := ⟨h.os, h.tape, h.output, h.size, h.block⟩
theorem gl_alloc {rs : List Nat} {w w1 : World} (h : GL rs w w1) (o : Obj) : GL rs w (w1.alloc o) :=
  ⟨h.os, h.tape, h.output, Nat.le_trans h.size (by simp), fun k hk hn => (Below.heap_alloc _ _ _ (Nat.lt_of_lt_of_le hk h.size)).trans (h.block k hk hn)⟩
theorem gl_set {rs : List Nat} {w w1 : World} (h : GL rs w w1) {p : Addr} (hp : p.block ∈ rs ∨ w.heap.size ≤ p.block) (v : Value) : GL rs w (w1.setCell p v) :=
  ⟨h.os, h.tape, h.output, by simpa [World.setCell] using h.size, fun k hk hn => by
    rw [Below.heap_setCell _ _ _ _ (by rintro rfl; rcases hp with hp | hp; exact hn hp; omega)]; exact h.block k hk hn⟩
theorem gl_setn {rs : List Nat} {w w1 : World} {p : Addr} (hp : w.heap.size ≤ p.block) (h : GL rs w w1) (v : Value) : GL rs w (w1.setCell p v) := gl_set h (.inr hp) v
theorem gl_seti {rs : List Nat} {w w1 : World} {p : Addr} (hp : p.block ∈ rs) (h : GL rs w w1) (v : Value) : GL rs w (w1.setCell p v) := gl_set h (.inl hp) v
theorem gl_below {rs : List Nat} {w w1 w2 : World} (hb : Below w1.heap.size w1 w2) (h : GL rs w w1) : GL rs w w2 :=
  ⟨hb.os.trans h.os, hb.tape.trans h.tape, hb.output.trans h.output, Nat.le_trans h.size hb.size, fun k hk hn => (hb.block k (Nat.lt_of_lt_of_le hk h.size)).trans (h.block k hk hn)⟩
theorem gl_grown {rs : List Nat} {w w1 w2 : World} {row : Option Nat} (hb : w1.grownBy w2 row) (h : GL rs w w1) (hr : ∀ r, row = some r → r ∈ rs ∨ w.heap.size ≤ r) : GL rs w w2 :=
  ⟨hb.os.trans h.os, hb.tape.trans h.tape, hb.output.trans h.output, Nat.le_trans h.size hb.size, fun k hk hn =>
    (hb.block k (Nat.lt_of_lt_of_le hk h.size) (fun e => by rcases hr k e.symm with h' | h'; exact hn h'; omega)).trans (h.block k hk hn)⟩
theorem gl_to_below {w w1 : World} (h : GL [] w w1) : Below w.heap.size w w1 := ⟨h.os, h.tape, h.output, h.size, fun k hk => h.block k hk (by simp)⟩
theorem blk_gl {rs : List Nat} {w w1 : World} {B : Nat} {x : Obj} (h : w.heap[B]? = some x) (hg : GL rs w w1) (hr : B ∉ rs) : w1.heap[B]? = some x := by
  rw [hg.block B (blk_lt h) hr]; exact h
theorem own_gl {rs : List Nat} {w w1 : World} {base e size n : Nat} {v : Value} {xs : List Value} (h : w.ownsRow base e size v n xs) (hg : GL rs w w1) (hr : ∀ r ∈ rs, v.ownBlock ≠ some r) : w1.ownsRow base e size v n xs :=
  own_keep h fun g _ _ hx he => blk_gl hx hg (fun hm => hr g hm he.symm)

end Go.Proofs.YtchbhainmalbbaaDoor
