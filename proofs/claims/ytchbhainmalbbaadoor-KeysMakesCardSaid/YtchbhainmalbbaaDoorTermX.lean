/- The program: reading a right term; Right, Open. -/
import Derived.Test.YtchbhainmalbbaaDoorTermW
namespace Go.Proofs.YtchbhainmalbbaaDoor
open Go.RowKit

def ReadPost (w : World) (o : Option Sh) (e : Ending) (w' : World) : Prop :=
  Below w.heap.size w w' ∧
  match o with
  | none => e = .returned (.tuple #[.agg #[.int .u8 0, .int .i64 0, .string (bs []), .slice none 0 0, .int .i64 0], .bool false])
  | some x => ∃ ad n c, e = .returned (.tuple #[.agg #[.int .u8 x.op.toNat, .int .i64 (numOf x), .string (bs x.text), .slice ad n c, .int .i64 x.deep], .bool true]) ∧
      w'.ownsRow w.heap.size 22 1 (.slice ad n c) x.kids.length (x.kids.map fun k => .string (bs k))

theorem gl_new {b : Nat} {w w1 w2 : World} {n : Nat} (h : GL [b] w1 w2) (h1 : Below n w w1) (hn : n = w.heap.size) (hb : n ≤ b) : Below n w w2 := by
  subst hn
  refine ⟨h.os.trans h1.os, h.tape.trans h1.tape, h.output.trans h1.output, Nat.le_trans h1.size h.size, fun k hk => ?_⟩
  rw [h.block k (Nat.lt_of_lt_of_le hk h1.size) (by simp; omega)]
  exact h1.block k hk

set_option maxRecDepth 100000 in
set_option maxHeartbeats 2000000 in
theorem tRead (l : List UInt8) (hl : l.length ≤ 9000000000000000000) (w : World) (hG : GOk w) :
    Calls Tryd.prog 85 #[.string (bs l)] w (ReadPost w (rt l)) := by
  by_cases h16 : 16384 < l.length
  · have H : rt l = none := by unfold rt; rw [if_neg (by omega)]
    rw [H]; clear H
    have h17 : (16384 : Int) < l.length := by omega
    go_enter Tryd.func85, Tryd.ntmps85
    go_wp2
    exact bodyPost_ret (v := .tuple #[.agg #[.int .u8 0, .int .i64 0, .string (bs []), .slice none 0 0, .int .i64 0], .bool false]) (by simp [results, Tryd.results85, go_sem]) rfl ⟨by (repeat' (first | with_reducible exact Below.refl _ _ | with_reducible assumption | with_reducible refine below_alloc ?_ ?_ _ | with_reducible refine Below.setCell ?_ ?_ _ | with_reducible refine Below.drew ?_ | with_reducible refine below_drewN ?_ _ | with_reducible refine below_step (by assumption) ?_ ?_ | (with_reducible refine Below.trans ?_ (Below.mono (by assumption) ?_)) | exact Nat.le_refl _ | (simp; done) | (simp; omega) | omega)), rfl⟩
  · have h17 : ¬ (16384 : Int) < l.length := by omega
    have hR1 : RdAt ((w.alloc (.cells #[.int .u8 0, .int .i64 0, .string (bs []), .slice none 0 0, .int .i64 0] 107)).alloc (.cells #[.string (bs l), .int .i64 0] 140)) (w.heap.size + 1) l 0 := by
      have h := blk_new (w.alloc (.cells #[.int .u8 0, .int .i64 0, .string (bs []), .slice none 0 0, .int .i64 0] 107)) (.cells #[.string (bs l), .int .i64 0] 140)
      rw [show (w.alloc (.cells #[.int .u8 0, .int .i64 0, .string (bs []), .slice none 0 0, .int .i64 0] 107)).heap.size = w.heap.size + 1 by simp] at h
      exact h
    have hZ1 := blk_alloc (blk_new w (.cells #[.int .u8 0, .int .i64 0, .string (bs []), .slice none 0 0, .int .i64 0] 107)) (.cells #[.string (bs l), .int .i64 0] 140)
    have hb1 : Below w.heap.size w ((w.alloc (.cells #[.int .u8 0, .int .i64 0, .string (bs []), .slice none 0 0, .int .i64 0] 107)).alloc (.cells #[.string (bs l), .int .i64 0] 140)) := by (repeat' (first | with_reducible exact Below.refl _ _ | with_reducible assumption | with_reducible refine below_alloc ?_ ?_ _ | with_reducible refine Below.setCell ?_ ?_ _ | with_reducible refine Below.drew ?_ | with_reducible refine below_drewN ?_ _ | with_reducible refine below_step (by assumption) ?_ ?_ | (with_reducible refine Below.trans ?_ (Below.mono (by assumption) ?_)) | exact Nat.le_refl _ | (simp; done) | (simp; omega) | omega))
    have hG1 := gok_below hG hb1
    have hs := hG.size
    cases hr : rd 64 l with
    | none =>
      have H : rt l = none := by unfold rt; rw [if_pos (by omega), hr]
      rw [H]; clear H
      have HRD := Lib.hid hr
      clear hr
      go_enter Tryd.func85, Tryd.ntmps85
      go_wp2_with (go_at_call 109; refine (tTermAll l (by omega) 64 (by omega) (w.heap.size + 1) 0 _ _ rfl (by omega) (by omega) hR1 hG1).mono ?_; rintro e w2 hp; rw [List.drop_zero, HRD.out] at hp; obtain ⟨hg2, rfl, a, hR2⟩ := hp; have hZ2 := blk_gl hZ1 hg2 (by simp); have f0 := blk_free hZ2; have f1 := blk_cell hZ2; have hsz := blk_lt hZ2; have hb2 := gl_new hg2 hb1 rfl (by omega))
      exact bodyPost_ret (v := .tuple #[.agg #[.int .u8 0, .int .i64 0, .string (bs []), .slice none 0 0, .int .i64 0], .bool false]) (by simp [results, Tryd.results85, go_sem, f0, f1, hsz]) rfl ⟨by (repeat' (first | with_reducible exact Below.refl _ _ | with_reducible assumption | with_reducible refine below_alloc ?_ ?_ _ | with_reducible refine Below.setCell ?_ ?_ _ | with_reducible refine Below.drew ?_ | with_reducible refine below_drewN ?_ _ | with_reducible refine below_step (by assumption) ?_ ?_ | (with_reducible refine Below.trans ?_ (Below.mono (by assumption) ?_)) | exact Nat.le_refl _ | (simp; done) | (simp; omega) | omega)), rfl⟩
    | some x =>
      by_cases hx : x.len = l.length
      · have H : rt l = some x := by unfold rt; rw [if_pos (by omega), hr]; simp [hx]
        rw [H]; clear H
        have hx1 : ((x.len : Int) != (l.length : Int)) = false := by simp; omega
        have HX := Lib.hid hx
        have HRD := Lib.hid hr
        clear hr hx
        go_enter Tryd.func85, Tryd.ntmps85
        go_wp2_with (go_at_call 109; refine (tTermAll l (by omega) 64 (by omega) (w.heap.size + 1) 0 _ _ rfl (by omega) (by omega) hR1 hG1).mono ?_; rintro e w2 hp; rw [List.drop_zero, HRD.out] at hp; obtain ⟨hg2, ad, kn, kc, rfl, hR2, hown⟩ := hp; rw [Nat.zero_add] at hR2; have hZ2 := blk_gl hZ1 hg2 (by simp); have hb2 := gl_new hg2 hb1 rfl (by omega); have f2 := blk_free hR2; have f3 := blk_cell hR2; have hsz := blk_lt hZ2; have hsz2 := blk_lt hR2; have f0 := blk_free hZ2; have f1 := blk_cell hZ2)
        refine bodyPost_ret (v := .tuple #[.agg #[.int .u8 x.op.toNat, .int .i64 (numOf x), .string (bs x.text), .slice ad kn kc, .int .i64 x.deep], .bool true]) (by simp [results, Tryd.results85, go_sem, f0, f1, hsz]) rfl ⟨by (repeat' (first | with_reducible exact Below.refl _ _ | with_reducible assumption | with_reducible refine below_alloc ?_ ?_ _ | with_reducible refine Below.setCell ?_ ?_ _ | with_reducible refine Below.drew ?_ | with_reducible refine below_drewN ?_ _ | with_reducible refine below_step (by assumption) ?_ ?_ | (with_reducible refine Below.trans ?_ (Below.mono (by assumption) ?_)) | exact Nat.le_refl _ | (simp; done) | (simp; omega) | omega)), ad, kn, kc, rfl, ?_⟩
        have hne := own_ne hown hZ2 (by decide)
        exact (own_ne_set (own_ne_set (own_ne_set (own_ne_set (own_ne_set (own_base hown (b2 := w.heap.size) (by simp; omega)) (p := ⟨w.heap.size, 0, none⟩) hne _) (p := ⟨w.heap.size, 1, none⟩) hne _) (p := ⟨w.heap.size, 2, none⟩) hne _) (p := ⟨w.heap.size, 3, none⟩) hne _) (p := ⟨w.heap.size, 4, none⟩) hne _).alloc _
      · have H : rt l = none := by unfold rt; rw [if_pos (by omega), hr]; simp [hx]
        rw [H]; clear H
        have hx1 : ((x.len : Int) != (l.length : Int)) = true := by simp; omega
        have HRD := Lib.hid hr
        clear hr hx
        go_enter Tryd.func85, Tryd.ntmps85
        go_wp2_with (go_at_call 109; refine (tTermAll l (by omega) 64 (by omega) (w.heap.size + 1) 0 _ _ rfl (by omega) (by omega) hR1 hG1).mono ?_; rintro e w2 hp; rw [List.drop_zero, HRD.out] at hp; obtain ⟨hg2, ad, kn, kc, rfl, hR2, hown⟩ := hp; rw [Nat.zero_add] at hR2; have hZ2 := blk_gl hZ1 hg2 (by simp); have hb2 := gl_new hg2 hb1 rfl (by omega); have f2 := blk_free hR2; have f3 := blk_cell hR2; have hsz := blk_lt hZ2; have hsz2 := blk_lt hR2; have f0 := blk_free hZ2; have f1 := blk_cell hZ2)
        exact bodyPost_ret (v := .tuple #[.agg #[.int .u8 0, .int .i64 0, .string (bs []), .slice none 0 0, .int .i64 0], .bool false]) (by simp [results, Tryd.results85, go_sem, f0, f1, hsz]) rfl ⟨by (repeat' (first | with_reducible exact Below.refl _ _ | with_reducible assumption | with_reducible refine below_alloc ?_ ?_ _ | with_reducible refine Below.setCell ?_ ?_ _ | with_reducible refine Below.drew ?_ | with_reducible refine below_drewN ?_ _ | with_reducible refine below_step (by assumption) ?_ ?_ | (with_reducible refine Below.trans ?_ (Below.mono (by assumption) ?_)) | exact Nat.le_refl _ | (simp; done) | (simp; omega) | omega)), rfl⟩

set_option maxRecDepth 100000 in
set_option maxHeartbeats 1000000 in
theorem tRight (l : List UInt8) (hl : l.length ≤ 9000000000000000000) (w : World) (hG : GOk w) :
    Calls Tryd.prog 64 #[.string (bs l)] w fun e w' => e = .returned (.bool (right l)) ∧ Below w.heap.size w w' := by
  cases hr : rt l with
  | none =>
    have H : Hid (right l = false) := by show right l = false; simp [right, hr]
    have HR := Lib.hid hr
    clear hr
    go_enter Tryd.func64, Tryd.ntmps64
    go_wp2_with (go_at_call 85; refine (tRead l hl _ hG).mono ?_; rintro e w1 hp; rw [HR.out] at hp; obtain ⟨hb1, rfl⟩ := hp)
    go_ret
    exact ⟨by rw [H.out]; rfl, by (repeat' (first | with_reducible exact Below.refl _ _ | with_reducible assumption | with_reducible refine below_alloc ?_ ?_ _ | with_reducible refine Below.setCell ?_ ?_ _ | with_reducible refine Below.drew ?_ | with_reducible refine below_drewN ?_ _ | with_reducible refine below_step (by assumption) ?_ ?_ | (with_reducible refine Below.trans ?_ (Below.mono (by assumption) ?_)) | exact Nat.le_refl _ | (simp; done) | (simp; omega) | omega))⟩
  | some x =>
    have H : Hid (right l = true) := by show right l = true; simp [right, hr]
    have HR := Lib.hid hr
    clear hr
    go_enter Tryd.func64, Tryd.ntmps64
    go_wp2_with (go_at_call 85; refine (tRead l hl _ hG).mono ?_; rintro e w1 hp; rw [HR.out] at hp; obtain ⟨hb1, ad, kn, kc, rfl, hown⟩ := hp)
    go_ret
    exact ⟨by rw [H.out]; rfl, by (repeat' (first | with_reducible exact Below.refl _ _ | with_reducible assumption | with_reducible refine below_alloc ?_ ?_ _ | with_reducible refine Below.setCell ?_ ?_ _ | with_reducible refine Below.drew ?_ | with_reducible refine below_drewN ?_ _ | with_reducible refine below_step (by assumption) ?_ ?_ | (with_reducible refine Below.trans ?_ (Below.mono (by assumption) ?_)) | exact Nat.le_refl _ | (simp; done) | (simp; omega) | omega))⟩

set_option maxRecDepth 100000 in
set_option maxHeartbeats 1000000 in
theorem tOpen (l : List UInt8) (hl : l.length ≤ 9000000000000000000) (w : World) (hG : GOk w) :
    Calls Tryd.prog 53 #[.string (bs l)] w (OpenPost w (rt l)) := by
  cases hr : rt l with
  | none =>
    have HR := Lib.hid hr
    clear hr
    go_enter Tryd.func53, Tryd.ntmps53
    go_wp2_with (go_at_call 85; refine (tRead l hl _ (gok_alloc hG _)).mono ?_; rintro e w1 hp; rw [HR.out] at hp; obtain ⟨hb1, rfl⟩ := hp; have hZ1 := blk_below (blk_new w (.cells #[.int .u8 0, .int .i64 0, .string (bs []), .slice none 0 0] 80)) hb1 (by simp); have f0 := blk_free hZ1; have f1 := blk_cell hZ1; have hsz := blk_lt hZ1)
    exact bodyPost_ret (v := .tuple #[.agg #[.int .u8 0, .int .i64 0, .string (bs []), .slice none 0 0], .bool false]) (by simp [results, Tryd.results53, go_sem, f0, f1, hsz]) rfl ⟨rfl, by (repeat' (first | with_reducible exact Below.refl _ _ | with_reducible assumption | with_reducible refine below_alloc ?_ ?_ _ | with_reducible refine Below.setCell ?_ ?_ _ | with_reducible refine Below.drew ?_ | with_reducible refine below_drewN ?_ _ | with_reducible refine below_step (by assumption) ?_ ?_ | (with_reducible refine Below.trans ?_ (Below.mono (by assumption) ?_)) | exact Nat.le_refl _ | (simp; done) | (simp; omega) | omega))⟩
  | some x =>
    have HR := Lib.hid hr
    clear hr
    go_enter Tryd.func53, Tryd.ntmps53
    go_wp2_with (go_at_call 85; refine (tRead l hl _ (gok_alloc hG _)).mono ?_; rintro e w1 hp; rw [HR.out] at hp; obtain ⟨hb1, ad, kn, kc, rfl, hown⟩ := hp; have hZ1 := blk_below (blk_new w (.cells #[.int .u8 0, .int .i64 0, .string (bs []), .slice none 0 0] 80)) hb1 (by simp); have f0 := blk_free hZ1; have f1 := blk_cell hZ1; have hsz := blk_lt hZ1)
    refine bodyPost_ret (v := .tuple #[.agg #[.int .u8 x.op.toNat, .int .i64 (numOf x), .string (bs x.text), .slice ad kn kc], .bool true]) (by simp [results, Tryd.results53, go_sem, f0, f1, hsz]) rfl ⟨ad, kn, kc, rfl, ?_, by (repeat' (first | with_reducible exact Below.refl _ _ | with_reducible assumption | with_reducible refine below_alloc ?_ ?_ _ | with_reducible refine Below.setCell ?_ ?_ _ | with_reducible refine Below.drew ?_ | with_reducible refine below_drewN ?_ _ | with_reducible refine below_step (by assumption) ?_ ?_ | (with_reducible refine Below.trans ?_ (Below.mono (by assumption) ?_)) | exact Nat.le_refl _ | (simp; done) | (simp; omega) | omega))⟩
    have hne := own_ne hown hZ1 (by decide)
    exact (own_ne_set (own_ne_set (own_ne_set (own_ne_set (own_base hown (b2 := w.heap.size) (by simp)) (p := ⟨w.heap.size, 0, none⟩) hne _) (p := ⟨w.heap.size, 1, none⟩) hne _) (p := ⟨w.heap.size, 2, none⟩) hne _) (p := ⟨w.heap.size, 3, none⟩) hne _).alloc _
end Go.Proofs.YtchbhainmalbbaaDoor
