/- The program's reader of terms: its numbers. -/
import Derived.Test.YtchbhainmalbbaaDoorSpecN
import Derived.Test.YtchbhainmalbbaaDoorShelf
import Derived.Deep.QuietTactic
import Derived.BigQuiet
import Derived.Deep.RegionHeld3
namespace Go.Proofs.YtchbhainmalbbaaDoor
open Go.RowKit

/-- The reader's block: its text, its place. -/
def RdAt (w : World) (b : Nat) (l : List UInt8) (i : Int) : Prop := w.heap[b]? = some (.cells #[.string (bs l), .int .i64 i] 140 (0, 0))

theorem idxByte (s : List UInt8) (x : Int) (e : UInt8) (hx : x = e.toNat) (w : World) :
    Calls Tryd.prog 149 #[.string (bs s), .int .u8 x] w fun en w' => en = .returned (.int .i64 (Lib.indexByte s e)) ∧ w' = w := by
  have h := Tryd.strings_IndexByte (bs s) x w
  rw [bs_data] at h
  have : x.toNat.toUInt8 = e := by subst hx; simp
  rw [this] at h
  exact h

def NumPost (b : Nat) (l : List UInt8) (i : Nat) (w : World) (o : Option (Nat × Nat)) (e : Ending) (w' : World) : Prop :=
  w.grownBy w' (some b) ∧
  match o with
  | none => ∃ v a : Int, e = .returned (.tuple #[.int .i64 v, .bool false]) ∧ RdAt w' b l a
  | some (n, k) => e = .returned (.tuple #[.int .i64 n, .bool true]) ∧ RdAt w' b l (i + k : Nat)

theorem rd_drewN {w : World} {b : Nat} {l : List UInt8} {i : Int} (h : RdAt w b l i) (n : Nat) : RdAt (w.drewN n) b l i := h

set_option maxRecDepth 100000 in
set_option maxHeartbeats 2000000 in
theorem tNumberBad (l : List UInt8) (b i : Nat) (x : Int) (e : UInt8) (hx : x = e.toNat) (hi : i ≤ l.length) (hl : l.length ≤ 20000) (w : World) (hR : RdAt w b l i)
    (hk : Lib.indexByte (l.drop i) e < 1 ∨ 19 < Lib.indexByte (l.drop i) e ∨ (∃ h : i < l.length, l[i].toNat = 48 ∧ 1 < Lib.indexByte (l.drop i) e) ∨ (∃ h : i < l.length, l[i].toNat < 48 ∨ 57 < l[i].toNat)) :
    Calls Tryd.prog 147 #[.pointer (some ⟨b, 0, none⟩), .int .u8 x] w (NumPost b l i w none) := by
  subst hx
  have f0 := blk_cell hR
  have f1 := blk_free hR
  have i1 : (i : Int) ≤ l.length := by omega
  have i2 : (0 : Int) ≤ (i : Int) := by omega
  have ht : List.take (l.length - i) (List.drop i l) = List.drop i l := List.take_of_length_le (by simp)
  have hge := idx_ge (l.drop i) e
  have HR := Lib.hid hR
  clear hR
  have hpost : ∀ w', w.grownBy w' (some b) → RdAt w' b l i → NumPost b l i w none (.returned (.tuple #[.int .i64 0, .bool false])) w' := fun w' h1 h2 => ⟨h1, 0, i, rfl, h2⟩
  have HP := Lib.hid hpost
  clear hpost
  by_cases c1 : Lib.indexByte (l.drop i) e < 1
  · clear hk
    go_enter Tryd.func147, Tryd.ntmps147
    go_wp2
    go_quiet ((go_at_call 149; exact Calls.quiet_of_same (idxByte _ _ e rfl _)))
    go_wp2
    go_quiet (fail)
    go_wp2
    go_ret2
    exact HP.out _ (by (repeat' (first | with_reducible exact gb_refl _ _ | with_reducible assumption | with_reducible refine gb_alloc ?_ _ | with_reducible refine gb_drewN ?_ _ | with_reducible refine gb_drew ?_ | with_reducible refine gb_set ?_ (.inl rfl) _ | (with_reducible refine gb_set ?_ (.inr ?_) _) | with_reducible refine gb_gb ?_ (by assumption) | with_reducible refine gb_below ?_ (by assumption) | exact Nat.le_refl _ | (simp; done) | (simp; omega) | omega))) HR.out
  · by_cases c2 : 19 < Lib.indexByte (l.drop i) e
    · clear hk
      have d1 : decide (Lib.indexByte (l.drop i) e < 1) = false := by simp; omega
      have d2 : decide (19 < Lib.indexByte (l.drop i) e) = true := by simp; omega
      clear c1 c2
      go_enter Tryd.func147, Tryd.ntmps147
      go_wp2
      go_quiet ((go_at_call 149; exact Calls.quiet_of_same (idxByte _ _ e rfl _)))
      go_wp2
      go_quiet (fail)
      go_wp2
      go_ret2
      exact HP.out _ (by (repeat' (first | with_reducible exact gb_refl _ _ | with_reducible assumption | with_reducible refine gb_alloc ?_ _ | with_reducible refine gb_drewN ?_ _ | with_reducible refine gb_drew ?_ | with_reducible refine gb_set ?_ (.inl rfl) _ | (with_reducible refine gb_set ?_ (.inr ?_) _) | with_reducible refine gb_gb ?_ (by assumption) | with_reducible refine gb_below ?_ (by assumption) | exact Nat.le_refl _ | (simp; done) | (simp; omega) | omega))) HR.out
    · have d1 : decide (Lib.indexByte (l.drop i) e < 1) = false := by simp; omega
      have d2 : decide (19 < Lib.indexByte (l.drop i) e) = false := by simp; omega
      have hk2 : (∃ h : i < l.length, l[i].toNat = 48 ∧ 1 < Lib.indexByte (l.drop i) e) ∨ (∃ h : i < l.length, l[i].toNat < 48 ∨ 57 < l[i].toNat) := by
        rcases hk with h | h | h
        · exact absurd h c1
        · exact absurd h c2
        · exact h
      clear hk c1 c2
      have hil : i < l.length := by rcases hk2 with ⟨h, _⟩ | ⟨h, _⟩ <;> exact h
      have i3 : (i : Int) < l.length := by omega
      by_cases c3 : l[i].toNat = 48 ∧ 1 < Lib.indexByte (l.drop i) e
      · obtain ⟨c3a, c3b⟩ := c3
        have hb3 : (((l[i].toNat : Nat) : Int) == 48) = true := by simp [c3a]
        have d3 : decide (1 < Lib.indexByte (l.drop i) e) = true := by simp; omega
        clear hk2 c3a
        go_enter Tryd.func147, Tryd.ntmps147
        go_wp2
        go_quiet ((go_at_call 149; exact Calls.quiet_of_same (idxByte _ _ e rfl _)))
        go_wp2
        go_quiet (fail)
        go_wp2
        go_ret2
        exact HP.out _ (by (repeat' (first | with_reducible exact gb_refl _ _ | with_reducible assumption | with_reducible refine gb_alloc ?_ _ | with_reducible refine gb_drewN ?_ _ | with_reducible refine gb_drew ?_ | with_reducible refine gb_set ?_ (.inl rfl) _ | (with_reducible refine gb_set ?_ (.inr ?_) _) | with_reducible refine gb_gb ?_ (by assumption) | with_reducible refine gb_below ?_ (by assumption) | exact Nat.le_refl _ | (simp; done) | (simp; omega) | omega))) HR.out
      · have hd : l[i].toNat < 48 ∨ 57 < l[i].toNat := by
          rcases hk2 with ⟨_, h⟩ | ⟨_, h⟩
          · exact absurd h c3
          · exact h
        have hb3 : (((l[i].toNat : Nat) : Int) == 48) = false := by simp; omega
        clear hk2 c3
        by_cases c4 : l[i].toNat < 48
        · have d4 : decide (((l[i].toNat : Nat) : Int) < 48) = true := by simp; omega
          clear hd c4
          go_enter Tryd.func147, Tryd.ntmps147
          go_wp2
          go_quiet ((go_at_call 149; exact Calls.quiet_of_same (idxByte _ _ e rfl _)))
          go_wp2
          go_quiet (fail)
          go_wp2
          go_ret2
          exact HP.out _ (by (repeat' (first | with_reducible exact gb_refl _ _ | with_reducible assumption | with_reducible refine gb_alloc ?_ _ | with_reducible refine gb_drewN ?_ _ | with_reducible refine gb_drew ?_ | with_reducible refine gb_set ?_ (.inl rfl) _ | (with_reducible refine gb_set ?_ (.inr ?_) _) | with_reducible refine gb_gb ?_ (by assumption) | with_reducible refine gb_below ?_ (by assumption) | exact Nat.le_refl _ | (simp; done) | (simp; omega) | omega))) HR.out
        · have d4 : decide (((l[i].toNat : Nat) : Int) < 48) = false := by simp; omega
          have d5 : decide (57 < ((l[i].toNat : Nat) : Int)) = true := by simp; omega
          clear hd c4
          go_enter Tryd.func147, Tryd.ntmps147
          go_wp2
          go_quiet ((go_at_call 149; exact Calls.quiet_of_same (idxByte _ _ e rfl _)))
          go_wp2
          go_quiet (fail)
          go_wp2
          go_ret2
          exact HP.out _ (by (repeat' (first | with_reducible exact gb_refl _ _ | with_reducible assumption | with_reducible refine gb_alloc ?_ _ | with_reducible refine gb_drewN ?_ _ | with_reducible refine gb_drew ?_ | with_reducible refine gb_set ?_ (.inl rfl) _ | (with_reducible refine gb_set ?_ (.inr ?_) _) | with_reducible refine gb_gb ?_ (by assumption) | with_reducible refine gb_below ?_ (by assumption) | exact Nat.le_refl _ | (simp; done) | (simp; omega) | omega))) HR.out

end Go.Proofs.YtchbhainmalbbaaDoor
