/- The program's layer keys: a root's children. -/
import Derived.Test.YtchbhainmalbbaaDoorMkA
import Derived.Test.YtchbhainmalbbaaDoorSpecE
namespace Go.Proofs.YtchbhainmalbbaaDoor
open Go.RowKit

set_option maxRecDepth 100000 in
set_option maxHeartbeats 2000000 in
theorem kChild (root wd : List UInt8) (n : Int) (h0 : 0 ≤ n) (h1 : n ≤ 9223372036854775807) (hr : root.length ≤ 9000000000000000000) (hw : wd.length ≤ 100) (w : World) (hG : GOk w) :
    Calls Tryd.prog 47 #[.string (bs root), .string (bs wd), .int .i64 n] w fun e w' => e = .returned (.tuple #[.string (bs (childT root wd n.toNat).1), .int .i64 (childT root wd n.toNat).2]) ∧ Below w.heap.size w w' := by
  obtain ⟨l1, l2, l3, l4, l5, l6, l7⟩ := label_facts wd n.toNat hw (by omega)
  have L1 := Lib.hid l1
  have L2 := Lib.hid l2
  have L5 := Lib.hid l5
  have q3 := (right_len l3).2
  have q4 := (right_len l4).2
  have qd := dec_len20 n.toNat (by omega)
  clear l1 l2 l3 l4 l5 l6
  have HG := Lib.hid hG
  clear hG
  go_enter Tryd.func47, Tryd.ntmps47
  go_wp2_with fail
  refine (tMkText wd (by omega) _ HG.out).mono ?_
  rintro e w1 ⟨rfl, hb1⟩
  rw [L1.out]
  have HG1 := Lib.hid (gok_below HG.out hb1)
  go_wp2_with fail
  refine (tFormatInt n h0 h1 _ HG1.out).mono ?_
  rintro e w2 ⟨rfl, hb2⟩
  have HG2 := Lib.hid (gok_below HG1.out hb2)
  go_wp2_with fail
  refine (tMkText _ (by omega) _ HG2.out).mono ?_
  rintro e w3 ⟨rfl, hb3⟩
  rw [L2.out]
  have HG3 := Lib.hid (gok_below HG2.out hb3)
  have HC := Lib.hid (two_cells (w := w3) (x := textL wd) (y := textL (Lib.decDigits n.toNat)) (T := 22))
  go_wp2_with fail
  refine (tMkTuple [textL wd, textL (Lib.decDigits n.toNat)] _ _ (by simp; omega) (by simp) _ (by simp) HC.out (gok_alloc HG3.out _)).mono ?_
  rintro e w4 ⟨rfl, hb4⟩
  rw [L5.out]
  have HG4 := Lib.hid (gok_below (gok_alloc HG3.out _) hb4)
  go_wp2_with fail
  refine (tChild root (labelT wd n.toNat) hr (by omega) _ HG4.out).mono ?_
  rintro e w5 ⟨rfl, hb5⟩
  go_wp2_with fail
  go_ret2
  exact ⟨rfl, by (repeat' (first | with_reducible exact Below.refl _ _ | with_reducible assumption | with_reducible refine below_alloc ?_ ?_ _ | with_reducible refine Below.setCell ?_ ?_ _ | with_reducible refine Below.drew ?_ | with_reducible refine below_drewN ?_ _ | with_reducible refine below_step (by assumption) ?_ ?_ | (with_reducible refine Below.trans ?_ (Below.mono (by assumption) ?_)) | exact Nat.le_refl _ | (simp; done) | (simp; omega) | omega))⟩

set_option maxRecDepth 100000 in
set_option maxHeartbeats 2000000 in
theorem kNode (root : List UInt8) (hr : root.length ≤ 9000000000000000000) (w : World) (hG : GOk w) :
    Calls Tryd.prog 11 #[.string (bs root)] w fun e w' => e = .returned (.tuple #[.string (bs (nodeT root).1), .int .i64 (nodeT root).2]) ∧ Below w.heap.size w w' := by
  go_enter Tryd.func11, Tryd.ntmps11
  go_wp2_with (go_at_call 47; refine (kChild root _ _ (by omega) (by omega) hr (by simp) _ hG).mono ?_; rintro e w1 ⟨rfl, hb1⟩)
  go_ret2
  exact ⟨rfl, by (repeat' (first | with_reducible exact Below.refl _ _ | with_reducible assumption | with_reducible refine below_alloc ?_ ?_ _ | with_reducible refine Below.setCell ?_ ?_ _ | with_reducible refine Below.drew ?_ | with_reducible refine below_drewN ?_ _ | with_reducible refine below_step (by assumption) ?_ ?_ | (with_reducible refine Below.trans ?_ (Below.mono (by assumption) ?_)) | exact Nat.le_refl _ | (simp; done) | (simp; omega) | omega))⟩

set_option maxRecDepth 100000 in
set_option maxHeartbeats 2000000 in
theorem kCoin (root : List UInt8) (n : Int) (h0 : -9223372036854775808 ≤ n) (h1 : n ≤ 9223372036854775807) (hr : root.length ≤ 9000000000000000000) (w : World) (hG : GOk w) :
    Calls Tryd.prog 13 #[.string (bs root), .int .i64 n] w fun e w' => e = .returned (.tuple #[.string (bs (coinT root n).1), .int .i64 (coinT root n).2]) ∧ Below w.heap.size w w' := by
  by_cases h : n < 0
  · have H : Hid (coinT root n = ([], 2)) := by show coinT root n = _; simp [coinT, h]
    go_enter Tryd.func13, Tryd.ntmps13
    go_wp2
    go_ret2
    exact ⟨by rw [H.out]; rfl, by (repeat' (first | with_reducible exact Below.refl _ _ | with_reducible assumption | with_reducible refine below_alloc ?_ ?_ _ | with_reducible refine Below.setCell ?_ ?_ _ | with_reducible refine Below.drew ?_ | with_reducible refine below_drewN ?_ _ | with_reducible refine below_step (by assumption) ?_ ?_ | (with_reducible refine Below.trans ?_ (Below.mono (by assumption) ?_)) | exact Nat.le_refl _ | (simp; done) | (simp; omega) | omega))⟩
  · have H : Hid (coinT root n = childT root [99, 111, 105, 110] n.toNat) := by show coinT root n = _; simp [coinT, h]
    go_enter Tryd.func13, Tryd.ntmps13
    go_wp2_with (go_at_call 47; refine (kChild root _ _ (by omega) (by omega) hr (by simp) _ hG).mono ?_; rintro e w1 ⟨rfl, hb1⟩)
    go_ret2
    exact ⟨by rw [H.out]; rfl, by (repeat' (first | with_reducible exact Below.refl _ _ | with_reducible assumption | with_reducible refine below_alloc ?_ ?_ _ | with_reducible refine Below.setCell ?_ ?_ _ | with_reducible refine Below.drew ?_ | with_reducible refine below_drewN ?_ _ | with_reducible refine below_step (by assumption) ?_ ?_ | (with_reducible refine Below.trans ?_ (Below.mono (by assumption) ?_)) | exact Nat.le_refl _ | (simp; done) | (simp; omega) | omega))⟩

/-! A channel's secrets. -/
def WordsOk (w : World) : Prop := ∀ i, i < 6 → w.cell? ⟨0, i, none⟩ = some (.string (bs (wordsT.getD i [])))
theorem words_keep {w w' : World} (h : WordsOk w) (hk : ∀ k, k < gN → w'.heap[k]? = w.heap[k]?) : WordsOk w' := by
  intro i hi
  rw [← h i hi]
  simp only [World.cell?]
  rw [hk 0 (by decide)]
theorem words_gl {w w' : World} {rs : List Nat} (h : WordsOk w) (hs : gN ≤ w.heap.size) (hg : GL rs w w') (hr : ∀ r ∈ rs, gN ≤ r) : WordsOk w' :=
  words_keep h fun k hk => hg.block k (Nat.lt_of_lt_of_le hk hs) (fun hm => by have := hr k hm; omega)
theorem words_len (i : Nat) : (wordsT.getD i []).length ≤ 100 := by
  match i with
  | 0 => decide
  | 1 => decide
  | 2 => decide
  | 3 => decide
  | 4 => decide
  | 5 => decide
  | _ + 6 => simp [wordsT]

def nextT (fe : Int) (base wd : List UInt8) : List UInt8 × Int := if fe = 0 then childT base wd 0 else ([], fe)

set_option maxRecDepth 100000 in
set_option maxHeartbeats 2000000 in
theorem kNext (i : Nat) (hi : i < 6) (I : Int) (hI : I = i) (fe : Int) (base : List UInt8) (F B : Nat) (w : World) (hF : w.heap[F]? = some (.cells #[.int .i64 fe] 23 (0, 0))) (hB : w.heap[B]? = some (.cells #[.string (bs base)] 22 (0, 0)))
    (hbl : base.length ≤ 9000000000000000000) (hG : GOk w) (hW : WordsOk w) :
    Calls Tryd.prog 49 #[.int .i64 I, .pointer (some ⟨F, 0, none⟩), .pointer (some ⟨B, 0, none⟩)] w fun e w' => e = .returned (.string (bs (nextT fe base (wordsT.getD i [])).1)) ∧
      w'.heap[F]? = some (.cells #[.int .i64 (nextT fe base (wordsT.getD i [])).2] 23 (0, 0)) ∧ GL [F] w w' := by
  subst hI
  have f0 := blk_cell hF
  have f1 := blk_free hF
  by_cases h : fe = 0
  · have H : Hid (nextT fe base (wordsT.getD i []) = childT base (wordsT.getD i []) 0) := by show nextT _ _ _ = _; simp [nextT, h]
    have b1 : (fe != 0) = false := by simp [h]
    have c0 : w.cell? ⟨B, 0, none⟩ = some (.string (bs base)) := by rw [blk_cell hB]; rfl
    have c1 := hW i hi
    have i1 : (i : Int) < 6 := by omega
    have i2 : (0 : Int) ≤ (i : Int) := by omega
    have hwl := words_len i
    have HF := Lib.hid hF
    have HG := Lib.hid hG
    generalize wordsT.getD i [] = wd at *
    clear h hF hB hG hW
    go_enter Tryd.func49, Tryd.ntmps49
    go_wp2
    go_region_held3 (fun w' => w'.cell? ⟨B, 0, none⟩ = some (.string (bs base)) ∧ w'.cell? ⟨0, i, none⟩ = some (.string (bs wd)))
      (first | go_keep | (go_split_ands; refine ⟨?_, ?_⟩ <;> exact (hbk.cell (World.block_lt_of_cell? _ _ (by assumption))).trans (by assumption)))
      ((go_at_call 47; refine (kChild base wd _ (by omega) (by omega) hbl hwl _ (gok_drew HG.out)).mono ?_; rintro e wk ⟨rfl, hbk⟩; have HFk := Lib.hid (blk_below (blk_drew HF.out) hbk (blk_lt (blk_drew HF.out))); have f2 := blk_cell HFk.out; have f3 := blk_free HFk.out))
    go_wp2
    go_ret
    have hg : GL [F] w wk := gl_below hbk (gl_drew (gl_refl _ _))
    refine ⟨by rw [H.out]; rfl, ?_, by (repeat' (first | with_reducible exact gl_refl _ _ | with_reducible assumption | with_reducible refine gl_alloc ?_ _ | with_reducible refine gl_drewN ?_ _ | with_reducible refine gl_drew ?_ | (with_reducible refine gl_setn ?_ ?_ _; · (first | exact Nat.le_refl _ | (simp; done) | (simp; omega) | omega)) | (with_reducible refine gl_seti ?_ ?_ _; · (simp; done)) | with_reducible refine gl_below (by with_reducible assumption) ?_ | with_reducible refine gl_step (by with_reducible assumption) ?_ (by first | (simp; done) | (simp; omega)) | with_reducible refine gl_grown (by with_reducible assumption) ?_ (by first | (simp; done) | (simp; omega))))⟩
    rw [H.out]
    exact blk_set HFk.out 0 _
  · have H : Hid (nextT fe base (wordsT.getD i []) = ([], fe)) := by show nextT _ _ _ = _; simp [nextT, h]
    have b1 : (fe != 0) = true := by simp [h]
    clear h
    have HF := Lib.hid hF
    clear hF hB hG hW
    go_enter Tryd.func49, Tryd.ntmps49
    go_wp2
    go_ret
    exact ⟨by rw [H.out]; rfl, by rw [H.out]; exact HF.out, by (repeat' (first | with_reducible exact gl_refl _ _ | with_reducible assumption | with_reducible refine gl_alloc ?_ _ | with_reducible refine gl_drewN ?_ _ | with_reducible refine gl_drew ?_ | (with_reducible refine gl_setn ?_ ?_ _; · (first | exact Nat.le_refl _ | (simp; done) | (simp; omega) | omega)) | (with_reducible refine gl_seti ?_ ?_ _; · (simp; done)) | with_reducible refine gl_below (by with_reducible assumption) ?_ | with_reducible refine gl_step (by with_reducible assumption) ?_ (by first | (simp; done) | (simp; omega)) | with_reducible refine gl_grown (by with_reducible assumption) ?_ (by first | (simp; done) | (simp; omega))))⟩
end Go.Proofs.YtchbhainmalbbaaDoor
