/- The program's reader of terms: names and texts. -/
import Derived.Test.YtchbhainmalbbaaDoorTermQ
namespace Go.Proofs.YtchbhainmalbbaaDoor
open Go.RowKit

def NumPostG (b : Nat) (l : List UInt8) (i : Nat) (w : World) (o : Option (Nat × Nat)) (e : Ending) (w' : World) : Prop :=
  GL [b] w w' ∧
  match o with
  | none => ∃ v a : Int, e = .returned (.tuple #[.int .i64 v, .bool false]) ∧ RdAt w' b l a
  | some (n, k) => e = .returned (.tuple #[.int .i64 n, .bool true]) ∧ RdAt w' b l (i + k : Nat)

theorem tNumberG (l : List UInt8) (b i : Nat) (x : Int) (e : UInt8) (he : e.toNat = 58 ∨ e.toNat = 59) (hx : x = e.toNat) (hi : i ≤ l.length) (hl : l.length ≤ 20000) (w : World) (hR : RdAt w b l i) (hG : GErr w) :
    Calls Tryd.prog 147 #[.pointer (some ⟨b, 0, none⟩), .int .u8 x] w (NumPostG b l i w (num e (l.drop i))) :=
  (tNumber l b i x e he hx hi hl w hR hG).mono fun _ _ h => ⟨gl_grown h.1 (gl_refl _ _) (by simp), h.2⟩

/-- The block of a shape that is being read. -/
def ShAt (w : World) (X : Nat) (op n : Int) (t : List UInt8) (kv : Value) (dp : Int) : Prop :=
  w.heap[X]? = some (.cells #[.int .u8 op, .int .i64 n, .string (bs t), kv, .int .i64 dp] 107 (0, 0))

def NamePost (b X : Nat) (l : List UInt8) (i : Nat) (op : Int) (t : List UInt8) (kv : Value) (dp : Int) (w : World) (o : Option (Nat × Nat)) (e : Ending) (w' : World) : Prop :=
  GL [b, X] w w' ∧
  match o with
  | none => e = .returned (.bool false) ∧ ∃ a : Int, RdAt w' b l a
  | some (n, k) => e = .returned (.bool true) ∧ RdAt w' b l (i + k : Nat) ∧ ShAt w' X op n t kv dp

set_option maxRecDepth 100000 in
set_option maxHeartbeats 2000000 in
theorem tName (l : List UInt8) (b X i : Nat) (room op n0 : Int) (t : List UInt8) (kv : Value) (dp : Int) (hi : i ≤ l.length) (hl : l.length ≤ 20000) (w : World) (hR : RdAt w b l i) (hX : ShAt w X op n0 t kv dp) (hbX : b ≠ X) (hG : GErr w) :
    Calls Tryd.prog 139 #[.pointer (some ⟨b, 0, none⟩), .pointer (some ⟨X, 0, none⟩), .int .i64 room] w (NamePost b X l i op t kv dp w (num 59 (l.drop i))) := by
  cases hn : num 59 (l.drop i) with
  | none =>
    have HN := Lib.hid hn
    clear hn
    go_enter Tryd.func139, Tryd.ntmps139
    go_wp2_with (go_at_call 147; refine (tNumberG l b i _ 59 (.inr rfl) rfl hi hl _ hR hG).mono ?_; rintro e w1 hp; rw [HN.out] at hp; obtain ⟨hg, v, a, rfl, hR1⟩ := hp; have hX1 := blk_gl hX hg (by simp; omega); have f0 := blk_free hX1; have f1 := blk_cell hX1)
    go_ret
    refine ⟨by (repeat' (first | with_reducible exact gl_refl _ _ | with_reducible assumption | with_reducible refine gl_alloc ?_ _ | with_reducible refine gl_drewN ?_ _ | with_reducible refine gl_drew ?_ | (with_reducible refine gl_setn ?_ ?_ _; · (first | exact Nat.le_refl _ | (simp; done) | (simp; omega) | omega)) | (with_reducible refine gl_seti ?_ ?_ _; · (simp; done)) | with_reducible refine gl_below (by with_reducible assumption) ?_ | with_reducible refine gl_step (by with_reducible assumption) ?_ (by first | (simp; done) | (simp; omega)) | with_reducible refine gl_grown (by with_reducible assumption) ?_ (by first | (simp; done) | (simp; omega)))), rfl, a, blk_ne hR1 (by simpa using hbX) _⟩
  | some y =>
    obtain ⟨n, k⟩ := y
    have HN := Lib.hid hn
    clear hn
    go_enter Tryd.func139, Tryd.ntmps139
    go_wp2_with (go_at_call 147; refine (tNumberG l b i _ 59 (.inr rfl) rfl hi hl _ hR hG).mono ?_; rintro e w1 hp; rw [HN.out] at hp; obtain ⟨hg, rfl, hR1⟩ := hp; have hX1 := blk_gl hX hg (by simp; omega); have f0 := blk_free hX1; have f1 := blk_cell hX1)
    go_ret
    refine ⟨by (repeat' (first | with_reducible exact gl_refl _ _ | with_reducible assumption | with_reducible refine gl_alloc ?_ _ | with_reducible refine gl_drewN ?_ _ | with_reducible refine gl_drew ?_ | (with_reducible refine gl_setn ?_ ?_ _; · (first | exact Nat.le_refl _ | (simp; done) | (simp; omega) | omega)) | (with_reducible refine gl_seti ?_ ?_ _; · (simp; done)) | with_reducible refine gl_below (by with_reducible assumption) ?_ | with_reducible refine gl_step (by with_reducible assumption) ?_ (by first | (simp; done) | (simp; omega)) | with_reducible refine gl_grown (by with_reducible assumption) ?_ (by first | (simp; done) | (simp; omega)))), rfl, blk_ne hR1 (by simpa using hbX) _, blk_set hX1 1 _⟩
end Go.Proofs.YtchbhainmalbbaaDoor
