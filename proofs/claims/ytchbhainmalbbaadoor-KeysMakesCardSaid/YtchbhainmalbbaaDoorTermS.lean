/- The program's reader of terms: texts. -/
import Derived.Test.YtchbhainmalbbaaDoorTermR
namespace Go.Proofs.YtchbhainmalbbaaDoor
open Go.RowKit

def textR (l : List UInt8) : Option (Nat × Nat) :=
  match num 58 l with
  | none => none
  | some (n, k) => if 4096 < n ∨ l.length - k < n then none else some (n, k)

def TextPost (b X : Nat) (l : List UInt8) (i : Nat) (op n0 : Int) (kv : Value) (dp : Int) (w : World) (o : Option (Nat × Nat)) (e : Ending) (w' : World) : Prop :=
  GL [b, X] w w' ∧
  match o with
  | none => e = .returned (.bool false) ∧ ∃ a : Int, RdAt w' b l a
  | some (n, k) => e = .returned (.bool true) ∧ RdAt w' b l (i + k + n : Nat) ∧ ShAt w' X op n0 ((l.drop (i + k)).take n) kv dp

set_option maxRecDepth 100000 in
set_option maxHeartbeats 2000000 in
theorem tText (l : List UInt8) (b X i : Nat) (room op n0 : Int) (t : List UInt8) (kv : Value) (dp : Int) (hi : i ≤ l.length) (hl : l.length ≤ 20000) (w : World) (hR : RdAt w b l i) (hX : ShAt w X op n0 t kv dp) (hbX : b ≠ X) (hG : GErr w) :
    Calls Tryd.prog 140 #[.pointer (some ⟨b, 0, none⟩), .pointer (some ⟨X, 0, none⟩), .int .i64 room] w (TextPost b X l i op n0 kv dp w (textR (l.drop i))) := by
  cases hn : num 58 (l.drop i) with
  | none =>
    have HT : Hid (textR (l.drop i) = none) := by show textR (l.drop i) = none; simp [textR, hn]
    rw [HT.out]
    have HN := Lib.hid hn
    clear hn
    go_enter Tryd.func140, Tryd.ntmps140
    go_wp2_with (go_at_call 147; refine (tNumberG l b i _ 58 (.inl rfl) rfl hi hl _ hR hG).mono ?_; rintro e w1 hp; rw [HN.out] at hp; obtain ⟨hg, v, a, rfl, hR1⟩ := hp; have f0 := blk_free hR1; have f1 := blk_cell hR1)
    go_quiet (fail)
    go_wp2
    go_ret
    exact ⟨by (repeat' (first | with_reducible exact gl_refl _ _ | with_reducible assumption | with_reducible refine gl_alloc ?_ _ | with_reducible refine gl_drewN ?_ _ | with_reducible refine gl_drew ?_ | (with_reducible refine gl_setn ?_ ?_ _; · (first | exact Nat.le_refl _ | (simp; done) | (simp; omega) | omega)) | (with_reducible refine gl_seti ?_ ?_ _; · (simp; done)) | with_reducible refine gl_below (by with_reducible assumption) ?_ | with_reducible refine gl_step (by with_reducible assumption) ?_ (by first | (simp; done) | (simp; omega)) | with_reducible refine gl_grown (by with_reducible assumption) ?_ (by first | (simp; done) | (simp; omega)))), rfl, a, hR1⟩
  | some y =>
    obtain ⟨n, k⟩ := y
    obtain ⟨hk2, hkl, hnb⟩ := num_bound hn
    rw [List.length_drop] at hkl
    have hkl' : (i : Int) + k ≤ l.length := by omega
    have HN := Lib.hid hn
    by_cases hbad : 4096 < n ∨ l.length - (i + k) < n
    · have HT : Hid (textR (l.drop i) = none) := by show textR (l.drop i) = none; simp only [textR, hn, List.length_drop]; rw [if_pos (by omega)]
      rw [HT.out]
      clear hn
      by_cases h4 : 4096 < n
      · have d1 : decide ((4096 : Int) < (n : Int)) = true := by simp; omega
        clear hbad h4
        go_enter Tryd.func140, Tryd.ntmps140
        go_wp2_with (go_at_call 147; refine (tNumberG l b i _ 58 (.inl rfl) rfl hi hl _ hR hG).mono ?_; rintro e w1 hp; rw [HN.out] at hp; obtain ⟨hg, rfl, hR1⟩ := hp; have f0 := blk_free hR1; have f1 := blk_cell hR1)
        go_quiet (fail)
        go_wp2
        go_ret
        exact ⟨by (repeat' (first | with_reducible exact gl_refl _ _ | with_reducible assumption | with_reducible refine gl_alloc ?_ _ | with_reducible refine gl_drewN ?_ _ | with_reducible refine gl_drew ?_ | (with_reducible refine gl_setn ?_ ?_ _; · (first | exact Nat.le_refl _ | (simp; done) | (simp; omega) | omega)) | (with_reducible refine gl_seti ?_ ?_ _; · (simp; done)) | with_reducible refine gl_below (by with_reducible assumption) ?_ | with_reducible refine gl_step (by with_reducible assumption) ?_ (by first | (simp; done) | (simp; omega)) | with_reducible refine gl_grown (by with_reducible assumption) ?_ (by first | (simp; done) | (simp; omega)))), rfl, _, hR1⟩
      · have d1 : decide ((4096 : Int) < (n : Int)) = false := by simp; omega
        have d2 : decide ((l.length : Int) - ((i : Int) + k) < (n : Int)) = true := by simp; omega
        clear hbad h4
        go_enter Tryd.func140, Tryd.ntmps140
        go_wp2_with (go_at_call 147; refine (tNumberG l b i _ 58 (.inl rfl) rfl hi hl _ hR hG).mono ?_; rintro e w1 hp; rw [HN.out] at hp; obtain ⟨hg, rfl, hR1⟩ := hp; have f0 := blk_free hR1; have f1 := blk_cell hR1)
        go_quiet (fail)
        go_wp2
        go_ret
        exact ⟨by (repeat' (first | with_reducible exact gl_refl _ _ | with_reducible assumption | with_reducible refine gl_alloc ?_ _ | with_reducible refine gl_drewN ?_ _ | with_reducible refine gl_drew ?_ | (with_reducible refine gl_setn ?_ ?_ _; · (first | exact Nat.le_refl _ | (simp; done) | (simp; omega) | omega)) | (with_reducible refine gl_seti ?_ ?_ _; · (simp; done)) | with_reducible refine gl_below (by with_reducible assumption) ?_ | with_reducible refine gl_step (by with_reducible assumption) ?_ (by first | (simp; done) | (simp; omega)) | with_reducible refine gl_grown (by with_reducible assumption) ?_ (by first | (simp; done) | (simp; omega)))), rfl, _, hR1⟩
    · have HT : Hid (textR (l.drop i) = some (n, k)) := by show textR (l.drop i) = _; simp only [textR, hn, List.length_drop]; rw [if_neg (by omega)]
      rw [HT.out]
      clear hn
      have d1 : decide ((4096 : Int) < (n : Int)) = false := by simp; omega
      have d2 : decide ((l.length : Int) - ((i : Int) + k) < (n : Int)) = false := by simp; omega
      have h5 : (i : Int) + k + n ≤ l.length := by omega
      have h6 : (0 : Int) ≤ (i : Int) + k := by omega
      have h7 : (i : Int) + k ≤ (i : Int) + k + n := by omega
      have e1 : IntKind.i64.wrap ((i : Int) + k + n) = (i : Int) + k + n := IntWalk.i64_in _ (by omega)
      have e2 : ((i : Int) + k + n).toNat = i + k + n := by omega
      have e3 : ((i : Int) + k).toNat = i + k := by omega
      clear hbad
      go_enter Tryd.func140, Tryd.ntmps140
      go_wp2_with (go_at_call 147; refine (tNumberG l b i _ 58 (.inl rfl) rfl hi hl _ hR hG).mono ?_; rintro e w1 hp; rw [HN.out] at hp; obtain ⟨hg, rfl, hR1⟩ := hp; have f0 := blk_free hR1; have f1 := blk_cell hR1; have HX1 := Lib.hid (blk_gl hX hg (by simp; omega)); have f2 := blk_free HX1.out; have f3 := blk_cell HX1.out)
      go_quiet (fail)
      go_wp2
      go_region_held3 (fun w' => w'.cell? ⟨b, 0, none⟩ = some (.string (bs l)) ∧ w'.cell? ⟨b, 1, none⟩ = some (.int .i64 ((i : Int) + k))) (first | go_keep | (go_split_ands; refine ⟨?_, ?_⟩ <;> exact cell_set_ne (by assumption) hbX)) (fail)
      go_wp2
      go_ret
      refine ⟨by (repeat' (first | with_reducible exact gl_refl _ _ | with_reducible assumption | with_reducible refine gl_alloc ?_ _ | with_reducible refine gl_drewN ?_ _ | with_reducible refine gl_drew ?_ | (with_reducible refine gl_setn ?_ ?_ _; · (first | exact Nat.le_refl _ | (simp; done) | (simp; omega) | omega)) | (with_reducible refine gl_seti ?_ ?_ _; · (simp; done)) | with_reducible refine gl_below (by with_reducible assumption) ?_ | with_reducible refine gl_step (by with_reducible assumption) ?_ (by first | (simp; done) | (simp; omega)) | with_reducible refine gl_grown (by with_reducible assumption) ?_ (by first | (simp; done) | (simp; omega)))), rfl, ?_, blk_ne (blk_set HX1.out 2 _) (Ne.symm hbX) _⟩
      rw [show ((i + k + n : Nat) : Int) = (i : Int) + k + n by omega]
      exact blk_set (blk_ne hR1 hbX _) 1 _
end Go.Proofs.YtchbhainmalbbaaDoor
