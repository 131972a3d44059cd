/- The program's locks: Write; Keys. -/
import Derived.Test.YtfmckibiblhakaaGreatDoorLockE
import Derived.Test.YtfmckibiblhakaaGreatDoorLockS
set_option linter.unusedSimpArgs false
set_option linter.unusedVariables false
namespace Go.Proofs.YtfmckibiblhakaaGreatDoor
open Go.RowKit

mutual
theorem lockT_len : ∀ x : LT, rightsL x = true → ((lockT x).length : Int) ≤ 20000 * countL x
  | .mk k t n kids, h => by
    rw [rightsL, Bool.and_eq_true] at h
    obtain ⟨hb, hr⟩ := h
    have h2 := lockRow_len kids hr
    have h3 := count_pos_row kids
    rw [lockT, countL]
    unfold bareR at hb
    by_cases h12 : k = 1 ∨ k = 2
    · rw [if_pos h12]
      have ht : t.length ≤ 16384 := by
        rcases h12 with rfl | rfl
        · simp at hb
          have := hb.2
          unfold pubB at this
          rw [Bool.and_eq_true] at this
          exact (right_len this.1).2
        · simp at hb
          have := hb.2
          unfold hashB at this
          rw [Bool.and_eq_true] at this
          exact (right_len this.1).2
      simp only [List.length_cons]
      omega
    rw [if_neg h12]
    have n1 : ¬ k = 1 := fun h => h12 (.inl h)
    have n2 : ¬ k = 2 := fun h => h12 (.inr h)
    rw [if_neg n1, if_neg n2] at hb
    by_cases h34 : k = 3 ∨ k = 4
    · rw [if_pos h34] at hb ⊢
      simp only [Bool.and_eq_true, decide_eq_true_eq] at hb
      have := dec_len20 n.toNat (by omega)
      simp only [List.length_cons, List.length_append, List.length_nil]
      omega
    rw [if_neg h34] at hb ⊢
    by_cases h56 : k = 5 ∨ k = 6
    · rw [if_pos h56] at hb
      simp only [Bool.and_eq_true, decide_eq_true_eq] at hb
      have := dec_len20 kids.length (by omega)
      simp only [List.length_cons, List.length_append]
      omega
    rw [if_neg h56] at hb
    cases hb
theorem lockRow_len : ∀ l : List LT, rightsRow l = true → ((lockRow l).length : Int) ≤ 20000 * countRow l
  | [], _ => by rw [lockRow_nil, countRow_nil]; simp
  | x :: r, h => by
    rw [rightsRow_cons, Bool.and_eq_true] at h
    have h1 := lockT_len x h.1
    have h2 := lockRow_len r h.2
    rw [lockRow_cons, countRow_cons, List.length_append]
    omega
end
def writeV (x : LT) : Value := if rightL x = true then .tuple #[.string (bs (lockT x)), .int .i64 0] else .tuple #[.string (bs []), .int .i64 110]

set_option maxRecDepth 100000 in
set_option maxHeartbeats 4000000 in
theorem lkWrite (x : LT) (q : Nat → Prop) (v : Value) (w : World) (hL : LockIn q w x v) (hG : GOk w) :
    Calls Tryz.prog 16 #[v] w fun e w' => e = .returned (writeV x) ∧ Below w.heap.size w w' := by
  have hr := fun (W : World) (hgw : GL [] w W) => lkRight x q v W (lockIn_gl hgw _ _ hL) (gok_gl hG hgw (by simp))
  cases hx : rightL x with
  | false =>
    have H : Hid (writeV x = .tuple #[.string (bs []), .int .i64 110]) := by show writeV x = _; unfold writeV; rw [hx]; rfl
    rw [hx] at hr
    obtain ⟨k, t, n, kids⟩ := x
    obtain ⟨ad, c, rfl, _⟩ := lockIn_open hL
    have HR := Lib.hid hr
    clear hr hL hx hG
    go_enter Tryz.func16, Tryz.ntmps16
    go_wp2_with fail
    refine (HR.out _ (by (repeat' (first | with_reducible exact gl_refl _ _ | with_reducible assumption | with_reducible refine gl_alloc ?_ _ | with_reducible refine gl_drewN ?_ _ | with_reducible refine gl_drew ?_ | (with_reducible refine gl_setn ?_ ?_ _; · (first | exact Nat.le_refl _ | (simp; done) | (simp; omega) | omega)) | (with_reducible refine gl_seti ?_ ?_ _; · (simp; done)) | with_reducible refine gl_below (by with_reducible assumption) ?_ | with_reducible refine gl_step (by with_reducible assumption) ?_ (by first | (simp; done) | (simp; omega)) | with_reducible refine gl_grown (by with_reducible assumption) ?_ (by first | (simp; done) | (simp; omega)))))).mono ?_
    rintro e w1 ⟨rfl, hb1⟩
    go_wp2_with fail
    go_ret2
    exact ⟨by rw [H.out]; rfl, by (repeat' (first | with_reducible exact Below.refl _ _ | with_reducible assumption | with_reducible refine below_alloc ?_ ?_ _ | with_reducible refine Below.setCell ?_ ?_ _ | with_reducible refine Below.drew ?_ | with_reducible refine below_drewN ?_ _ | with_reducible refine below_step (by assumption) ?_ ?_ | (with_reducible refine Below.trans ?_ (Below.mono (by assumption) ?_)) | exact Nat.le_refl _ | (simp; done) | (simp; omega) | omega))⟩
  | true =>
    have H : Hid (writeV x = .tuple #[.string (bs (lockT x)), .int .i64 0]) := by show writeV x = _; unfold writeV; rw [hx]; rfl
    rw [hx] at hr
    have hx2 := hx
    unfold rightL at hx2
    rw [Bool.and_eq_true, decide_eq_true_eq] at hx2
    have hlen := lockT_len x hx2.2
    have hw := fun (B b : Nat) (W : World) (hgw : GL [] w W) (hB : w.heap.size ≤ B) (hI : IsB B b [] W) (hBW : B ≤ W.heap.size) => lkWriteN (countL x).toNat x B b [] v W (by have := count_pos x; omega) hx2.2
      (lockIn_gl hgw _ _ (lockIn_mono (fun b hb _ => Nat.lt_of_lt_of_le hb hB) _ _ hL)) hI (by simp; omega) (gok_gl hG hgw (by simp)) (Nat.le_trans hG.size hB) hBW
    generalize lockT x = lx at *
    obtain ⟨k, t, n, kids⟩ := x
    obtain ⟨ad, c, rfl, _⟩ := lockIn_open hL
    have HR := Lib.hid hr
    have HW := Lib.hid hw
    have HG := Lib.hid hG
    clear hr hL hx hx2 hw hG hlen
    go_enter Tryz.func16, Tryz.ntmps16
    go_wp2_with fail
    refine (HR.out _ (by (repeat' (first | with_reducible exact gl_refl _ _ | with_reducible assumption | with_reducible refine gl_alloc ?_ _ | with_reducible refine gl_drewN ?_ _ | with_reducible refine gl_drew ?_ | (with_reducible refine gl_setn ?_ ?_ _; · (first | exact Nat.le_refl _ | (simp; done) | (simp; omega) | omega)) | (with_reducible refine gl_seti ?_ ?_ _; · (simp; done)) | with_reducible refine gl_below (by with_reducible assumption) ?_ | with_reducible refine gl_step (by with_reducible assumption) ?_ (by first | (simp; done) | (simp; omega)) | with_reducible refine gl_grown (by with_reducible assumption) ?_ (by first | (simp; done) | (simp; omega)))))).mono ?_
    rintro e w1 ⟨rfl, hb1⟩
    have hg1 : GL [] w w1 := gl_below hb1 (gl_alloc (gl_refl _ _) _)
    have HB := Lib.hid (blk_below (blk_new w (.cells #[.int .u8 k, .string (bs t), .int .i64 n, .slice ad kids.length c] 25)) hb1 (by simp))
    have HB2 := Lib.hid (blk_alloc HB.out (.cells #[.pointer none, .slice none 0 0] 102))
    have hlt := blk_lt HB.out
    have f1 := blk_cell HB2.out
    have e1 := blk_free HB2.out
    clear hb1
    go_wp2_with fail
    refine (HW.out w1.heap.size w1.heap.size _ (gl_alloc hg1 _) hg1.size (isB_new w1) (by simp)).mono ?_
    rintro e w2 ⟨rfl, hI2, hb2⟩
    have hb12 : Below w1.heap.size w1 w2 := ((Below.refl _ w1).alloc (Nat.le_refl _) _).trans hb2
    have hs2 := hb2.size
    simp only [World.size_alloc] at hs2
    rw [List.nil_append] at hI2
    go_wp2_with fail
    refine (Tryz.Builder_String_any_k _ _ _ _ hI2 (by omega)).mono ?_
    rintro e w3 ⟨rfl, _, hb3, _⟩
    rw [bs_mk]
    go_wp2_with fail
    go_ret2
    exact ⟨by rw [H.out]; rfl, gl_to_below (gl_below (hb12.trans hb3) hg1)⟩
end Go.Proofs.YtfmckibiblhakaaGreatDoor
