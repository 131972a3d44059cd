/- The program's layer keys: a channel's secrets. -/
import Derived.Test.YtchbhainmalbbaaDoorKeyA
namespace Go.Proofs.YtchbhainmalbbaaDoor
open Go.RowKit

def chainT (base : List UInt8) : Int → List (List UInt8) → List (List UInt8) × Int
  | fe, [] => ([], fe)
  | fe, wd :: r => ((nextT fe base wd).1 :: (chainT base (nextT fe base wd).2 r).1, (chainT base (nextT fe base wd).2 r).2)
theorem chain_bad (base : List UInt8) : ∀ (ws : List (List UInt8)) (fe : Int), fe ≠ 0 → (chainT base fe ws).2 = fe
  | [], fe, _ => rfl
  | wd :: r, fe, h => by
    have e : nextT fe base wd = ([], fe) := by simp [nextT, h]
    simp only [chainT, e]
    exact chain_bad base r fe h
theorem chain_many (base : List UInt8) : ∀ (ws : List (List UInt8)), (chainT base 0 ws).2 = (manyT (fun w => childT base w 0) ws).2 ∧ ((manyT (fun w => childT base w 0) ws).2 = 0 → (chainT base 0 ws).1 = (manyT (fun w => childT base w 0) ws).1)
  | [] => ⟨rfl, fun _ => rfl⟩
  | wd :: r => by
    have e : nextT 0 base wd = childT base wd 0 := by simp [nextT]
    obtain ⟨h1, h2⟩ := chain_many base r
    simp only [chainT, manyT, e]
    by_cases h : (childT base wd 0).2 = 0
    · simp only [h, if_true]
      by_cases h3 : (manyT (fun w => childT base w 0) r).2 = 0
      · simp only [h3, if_true]
        exact ⟨by rw [h1, h3], fun _ => by rw [h2 h3]⟩
      · simp only [if_neg h3]
        exact ⟨h1, fun h4 => absurd h4 h3⟩
    · simp only [if_neg h]
      exact ⟨chain_bad base r _ h, fun h4 => absurd h4 h⟩

/-- The closure's row of answers, and the document's. -/
theorem channel_chain (root : List UInt8) (n : Int) (hn : ¬ n < 0) (base : List UInt8) (fe : Int) (hb : childT root [99, 104, 97, 110, 110, 101, 108] n.toNat = (base, fe)) :
    ((chainT base fe wordsT).2 = 0 → channelT root n = ((chainT base fe wordsT).1, 0)) ∧ ((chainT base fe wordsT).2 ≠ 0 → channelT root n = ([], (chainT base fe wordsT).2)) := by
  unfold channelT
  rw [if_neg hn, hb]
  simp only []
  by_cases h : fe = 0
  · subst h
    obtain ⟨h1, h2⟩ := chain_many base wordsT
    simp only [if_true]
    refine ⟨fun h3 => ?_, fun h3 => ?_⟩
    · rw [h1] at h3
      rw [h2 h3]
      exact Prod.ext rfl h3
    · rw [h1] at h3 ⊢
      have : (manyT (fun w => childT base w 0) wordsT).1 = [] := by
        revert h3
        generalize wordsT = ws
        cases ws with
        | nil => intro h; exact absurd rfl h
        | cons a r =>
          simp only [manyT]
          split
          · split
            · intro h; exact absurd rfl h
            · intro _; rfl
          · intro _; rfl
      exact Prod.ext this rfl
  · have h1 := chain_bad base wordsT fe h
    rw [h1]
    exact ⟨fun h2 => absurd h2 h, fun _ => by rw [if_neg h]⟩

set_option maxRecDepth 100000 in
set_option maxHeartbeats 4000000 in
theorem kChannelNeg (root : List UInt8) (n : Int) (h0 : n < 0) (h1 : n ≤ 9223372036854775807) (hr : root.length ≤ 9000000000000000000) (w : World) (hG : GOk w) (hW : WordsOk w) :
    Calls Tryd.prog 15 #[.string (bs root), .int .i64 n] w fun e w' => e = .returned (.tuple #[secV (channelT root n).1, .int .i64 (channelT root n).2]) ∧ Below w.heap.size w w' := by
  have H : Hid (channelT root n = ([], 2)) := by show channelT root n = _; simp [channelT, h0]
  go_enter Tryd.func15, Tryd.ntmps15
  go_wp2
  exact bodyPost_ret (v := .tuple #[.agg #[.string (bs []), .string (bs []), .string (bs []), .string (bs []), .string (bs []), .string (bs [])], .int .i64 2]) (by simp [results, Tryd.results15, go_sem]) rfl ⟨by rw [H.out]; rfl, by (repeat' (first | with_reducible exact Below.refl _ _ | with_reducible assumption | with_reducible refine below_alloc ?_ ?_ _ | with_reducible refine Below.setCell ?_ ?_ _ | with_reducible refine Below.drew ?_ | with_reducible refine below_drewN ?_ _ | with_reducible refine below_step (by assumption) ?_ ?_ | (with_reducible refine Below.trans ?_ (Below.mono (by assumption) ?_)) | exact Nat.le_refl _ | (simp; done) | (simp; omega) | omega))⟩

set_option maxRecDepth 100000 in
set_option maxHeartbeats 4000000 in
theorem kChannelPos (root : List UInt8) (n : Int) (h0 : 0 ≤ n) (h1 : n ≤ 9223372036854775807) (hr : root.length ≤ 9000000000000000000) (w : World) (hG : GOk w) (hW : WordsOk w) :
    Calls Tryd.prog 15 #[.string (bs root), .int .i64 n] w fun e w' => e = .returned (.tuple #[secV (channelT root n).1, .int .i64 (channelT root n).2]) ∧ Below w.heap.size w w' := by
  obtain ⟨b0, hb0⟩ : ∃ b, childT root [99, 104, 97, 110, 110, 101, 108] n.toNat = b := ⟨_, rfl⟩
  have hbl0 : b0.1.length ≤ 16384 := by rw [← hb0]; exact twoT_len _ _ _
  obtain ⟨base, f0⟩ := b0
  have hbl : base.length ≤ 9000000000000000000 := by simp only at hbl0; omega
  have HCH := Lib.hid (channel_chain root n (by omega) base f0 hb0)
  have HB := Lib.hid hb0
  clear hb0 hbl0
  have hmf : ∀ (fn : Fn) (first cap : Array Value) (w : World), (Instr.makeFunc fn first cap).run Tryd.prog w = .ok (.func fn first cap) w := fun _ _ _ _ => rfl
  have HG := Lib.hid hG
  have HW := Lib.hid hW
  have hs := hG.size
  clear hG hW
  have HR := Lib.hid (blk_new w (.cells #[.string (bs []), .string (bs []), .string (bs []), .string (bs []), .string (bs []), .string (bs [])] 28))
  go_enter Tryd.func15, Tryd.ntmps15
  go_wp2_with fail
  refine (kChild root _ n h0 h1 hr (by simp) _ (gok_alloc HG.out _)).mono ?_
  rintro e w1 ⟨rfl, hb1⟩
  rw [HB.out]
  have HR1 := Lib.hid (blk_below HR.out hb1 (blk_lt HR.out))
  have hbw : Below w.heap.size w w1 := by (repeat' (first | with_reducible exact Below.refl _ _ | with_reducible assumption | with_reducible refine below_alloc ?_ ?_ _ | with_reducible refine Below.setCell ?_ ?_ _ | with_reducible refine Below.drew ?_ | with_reducible refine below_drewN ?_ _ | with_reducible refine below_step (by assumption) ?_ ?_ | (with_reducible refine Below.trans ?_ (Below.mono (by assumption) ?_)) | exact Nat.le_refl _ | (simp; done) | (simp; omega) | omega))
  have hsz := hbw.size
  have HR0 := Lib.hid (blk_alloc (blk_alloc HR1.out (.cells #[.string (bs base)] 22)) (.cells #[.int .i64 f0] 23))
  have HB0 := Lib.hid (blk_alloc (blk_new w1 (.cells #[.string (bs base)] 22)) (.cells #[.int .i64 f0] 23))
  have HF0 : Hid (((w1.alloc (.cells #[.string (bs base)] 22)).alloc (.cells #[.int .i64 f0] 23)).heap[w1.heap.size + 1]? = some (.cells #[.int .i64 f0] 23 (0, 0))) := by
    have h := blk_new (w1.alloc (.cells #[.string (bs base)] 22)) (.cells #[.int .i64 f0] 23)
    rw [show (w1.alloc (.cells #[.string (bs base)] 22)).heap.size = w1.heap.size + 1 by simp] at h
    exact h
  have HG0 := Lib.hid (gok_alloc (gok_alloc (gok_below (gok_alloc HG.out _) hb1) (.cells #[.string (bs base)] 22)) (.cells #[.int .i64 f0] 23))
  have hbw0 : Below w.heap.size w ((w1.alloc (.cells #[.string (bs base)] 22)).alloc (.cells #[.int .i64 f0] 23)) := by (repeat' (first | with_reducible exact Below.refl _ _ | with_reducible assumption | with_reducible refine below_alloc ?_ ?_ _ | with_reducible refine Below.setCell ?_ ?_ _ | with_reducible refine Below.drew ?_ | with_reducible refine below_drewN ?_ _ | with_reducible refine below_step (by assumption) ?_ ?_ | (with_reducible refine Below.trans ?_ (Below.mono (by assumption) ?_)) | exact Nat.le_refl _ | (simp; done) | (simp; omega) | omega))
  have HW0 : Hid (WordsOk ((w1.alloc (.cells #[.string (bs base)] 22)).alloc (.cells #[.int .i64 f0] 23))) := words_keep HW.out fun k hk => hbw0.block k (by omega)
  have hRF : w.heap.size ≠ w1.heap.size + 1 := by omega
  have hBF : w1.heap.size ≠ w1.heap.size + 1 := by omega
  have hgF : gN ≤ w1.heap.size + 1 := by omega
  have hRl := blk_lt HR1.out
  clear hb1 hbw
  have hg0 := gl_refl [w1.heap.size + 1] ((w1.alloc (.cells #[.string (bs base)] 22)).alloc (.cells #[.int .i64 f0] 23))
  go_wp2_with fail
  refine (kNext 0 (by omega) _ rfl f0 base (w1.heap.size + 1) w1.heap.size _ HF0.out HB0.out hbl HG0.out HW0.out).mono ?_
  rintro e w2 ⟨rfl, hF, hg⟩
  obtain ⟨x0, hx0⟩ : ∃ x, nextT f0 base (wordsT.getD 0 []) = x := ⟨_, rfl⟩
  have HX0 := Lib.hid hx0
  rw [hx0] at hF ⊢
  clear hx0
  obtain ⟨y0, f1⟩ := x0
  have HF1 := Lib.hid hF
  have HB1 := Lib.hid (blk_gl HB0.out hg (by simp))
  have HR1 := Lib.hid (blk_gl HR0.out hg (by simp; omega))
  have HG1 := Lib.hid (gok_gl HG0.out hg (by simp; omega))
  have HW1 := Lib.hid (words_gl HW0.out HG0.out.size hg (by simp; omega))
  have hg1 := gl_step hg hg0 (by simp)
  clear hF hg
  go_wp2_with fail
  refine (kNext 1 (by omega) _ rfl f1 base (w1.heap.size + 1) w1.heap.size _ HF1.out HB1.out hbl HG1.out HW1.out).mono ?_
  rintro e w3 ⟨rfl, hF, hg⟩
  obtain ⟨x1, hx1⟩ : ∃ x, nextT f1 base (wordsT.getD 1 []) = x := ⟨_, rfl⟩
  have HX1 := Lib.hid hx1
  rw [hx1] at hF ⊢
  clear hx1
  obtain ⟨y1, f2⟩ := x1
  have HF2 := Lib.hid hF
  have HB2 := Lib.hid (blk_gl HB1.out hg (by simp))
  have HR2 := Lib.hid (blk_gl HR1.out hg (by simp; omega))
  have HG2 := Lib.hid (gok_gl HG1.out hg (by simp; omega))
  have HW2 := Lib.hid (words_gl HW1.out HG1.out.size hg (by simp; omega))
  have hg2 := gl_step hg hg1 (by simp)
  clear hF hg
  go_wp2_with fail
  refine (kNext 2 (by omega) _ rfl f2 base (w1.heap.size + 1) w1.heap.size _ HF2.out HB2.out hbl HG2.out HW2.out).mono ?_
  rintro e w4 ⟨rfl, hF, hg⟩
  obtain ⟨x2, hx2⟩ : ∃ x, nextT f2 base (wordsT.getD 2 []) = x := ⟨_, rfl⟩
  have HX2 := Lib.hid hx2
  rw [hx2] at hF ⊢
  clear hx2
  obtain ⟨y2, f3⟩ := x2
  have HF3 := Lib.hid hF
  have HB3 := Lib.hid (blk_gl HB2.out hg (by simp))
  have HR3 := Lib.hid (blk_gl HR2.out hg (by simp; omega))
  have HG3 := Lib.hid (gok_gl HG2.out hg (by simp; omega))
  have HW3 := Lib.hid (words_gl HW2.out HG2.out.size hg (by simp; omega))
  have hg3 := gl_step hg hg2 (by simp)
  clear hF hg
  go_wp2_with fail
  refine (kNext 3 (by omega) _ rfl f3 base (w1.heap.size + 1) w1.heap.size _ HF3.out HB3.out hbl HG3.out HW3.out).mono ?_
  rintro e w5 ⟨rfl, hF, hg⟩
  obtain ⟨x3, hx3⟩ : ∃ x, nextT f3 base (wordsT.getD 3 []) = x := ⟨_, rfl⟩
  have HX3 := Lib.hid hx3
  rw [hx3] at hF ⊢
  clear hx3
  obtain ⟨y3, f4⟩ := x3
  have HF4 := Lib.hid hF
  have HB4 := Lib.hid (blk_gl HB3.out hg (by simp))
  have HR4 := Lib.hid (blk_gl HR3.out hg (by simp; omega))
  have HG4 := Lib.hid (gok_gl HG3.out hg (by simp; omega))
  have HW4 := Lib.hid (words_gl HW3.out HG3.out.size hg (by simp; omega))
  have hg4 := gl_step hg hg3 (by simp)
  clear hF hg
  go_wp2_with fail
  refine (kNext 4 (by omega) _ rfl f4 base (w1.heap.size + 1) w1.heap.size _ HF4.out HB4.out hbl HG4.out HW4.out).mono ?_
  rintro e w6 ⟨rfl, hF, hg⟩
  obtain ⟨x4, hx4⟩ : ∃ x, nextT f4 base (wordsT.getD 4 []) = x := ⟨_, rfl⟩
  have HX4 := Lib.hid hx4
  rw [hx4] at hF ⊢
  clear hx4
  obtain ⟨y4, f5⟩ := x4
  have HF5 := Lib.hid hF
  have HB5 := Lib.hid (blk_gl HB4.out hg (by simp))
  have HR5 := Lib.hid (blk_gl HR4.out hg (by simp; omega))
  have HG5 := Lib.hid (gok_gl HG4.out hg (by simp; omega))
  have HW5 := Lib.hid (words_gl HW4.out HG4.out.size hg (by simp; omega))
  have hg5 := gl_step hg hg4 (by simp)
  clear hF hg
  go_wp2_with fail
  refine (kNext 5 (by omega) _ rfl f5 base (w1.heap.size + 1) w1.heap.size _ HF5.out HB5.out hbl HG5.out HW5.out).mono ?_
  rintro e w7 ⟨rfl, hF, hg⟩
  obtain ⟨x5, hx5⟩ : ∃ x, nextT f5 base (wordsT.getD 5 []) = x := ⟨_, rfl⟩
  have HX5 := Lib.hid hx5
  rw [hx5] at hF ⊢
  clear hx5
  obtain ⟨y5, f6⟩ := x5
  have HF6 := Lib.hid hF
  have HB6 := Lib.hid (blk_gl HB5.out hg (by simp))
  have HR6 := Lib.hid (blk_gl HR5.out hg (by simp; omega))
  have HG6 := Lib.hid (gok_gl HG5.out hg (by simp; omega))
  have HW6 := Lib.hid (words_gl HW5.out HG5.out.size hg (by simp; omega))
  have hg6 := gl_step hg hg5 (by simp)
  clear hF hg
  have HCT : Hid (chainT base f0 wordsT = ([y0, y1, y2, y3, y4, y5], f6)) := by
    show chainT base f0 wordsT = _
    have e0 : nextT f0 base [102, 117, 110, 100] = (y0, f1) := HX0.out
    have e1 : nextT f1 base [114, 101, 118] = (y1, f2) := HX1.out
    have e2 : nextT f2 base [112, 97, 121] = (y2, f3) := HX2.out
    have e3 : nextT f3 base [108, 97, 116, 101, 114] = (y3, f4) := HX3.out
    have e4 : nextT f4 base [104, 116, 108, 99] = (y4, f5) := HX4.out
    have e5 : nextT f5 base [115, 101, 101, 100] = (y5, f6) := HX5.out
    simp only [wordsT, chainT, e0, e1, e2, e3, e4, e5]
  rw [HCT.out] at HCH
  have hb6 : Below w.heap.size w w7 := gl_new hg6 hbw0 rfl (by omega)
  have r0 := blk_cell HR6.out
  have r1 := blk_free HR6.out
  have r2 := blk_cell HF6.out
  have r3 := blk_free HF6.out
  have hl6 := blk_lt HF6.out
  have hl7 := blk_lt HR6.out
  clear HR0 HR1 HR2 HR3 HR4 HR5 HF0 HF1 HF2 HF3 HF4 HF5 HB0 HB1 HB2 HB3 HB4 HB5 HG0 HG1 HG2 HG3 HG4 HG5 HW0 HW1 HW2 HW3 HW4 HW5 HX0 HX1 HX2 HX3 HX4 HX5 HR hg0 hg1 hg2 hg3 hg4 hg5
  by_cases h6 : f6 = 0
  · have H := Lib.hid (HCH.out.1 h6)
    have q6 : (f6 != 0) = false := by simp [h6]
    clear h6
    go_wp2
    refine bodyPost_ret (v := .tuple #[.agg #[.string (bs y0), .string (bs y1), .string (bs y2), .string (bs y3), .string (bs y4), .string (bs y5)], .int .i64 0]) (by simp [results, Tryd.results15, go_sem, r0, r1, hl7]) rfl ⟨by rw [H.out]; rfl, by (repeat' (first | with_reducible exact Below.refl _ _ | with_reducible assumption | with_reducible refine below_alloc ?_ ?_ _ | with_reducible refine Below.setCell ?_ ?_ _ | with_reducible refine Below.drew ?_ | with_reducible refine below_drewN ?_ _ | with_reducible refine below_step (by assumption) ?_ ?_ | (with_reducible refine Below.trans ?_ (Below.mono (by assumption) ?_)) | exact Nat.le_refl _ | (simp; done) | (simp; omega) | omega))⟩
  · have H := Lib.hid (HCH.out.2 h6)
    have q6 : (f6 != 0) = true := by simp [h6]
    clear h6
    go_wp2
    go_region
    all_goals
      go_wp2
      refine bodyPost_ret (v := .tuple #[.agg #[.string (bs []), .string (bs []), .string (bs []), .string (bs []), .string (bs []), .string (bs [])], .int .i64 f6]) (by simp [results, Tryd.results15, go_sem, r0, r1, hl7]) rfl ⟨by rw [H.out]; rfl, by (repeat' (first | with_reducible exact Below.refl _ _ | with_reducible assumption | with_reducible refine below_alloc ?_ ?_ _ | with_reducible refine Below.setCell ?_ ?_ _ | with_reducible refine Below.drew ?_ | with_reducible refine below_drewN ?_ _ | with_reducible refine below_step (by assumption) ?_ ?_ | (with_reducible refine Below.trans ?_ (Below.mono (by assumption) ?_)) | exact Nat.le_refl _ | (simp; done) | (simp; omega) | omega))⟩
theorem kChannel (root : List UInt8) (n : Int) (h0 : -9223372036854775808 ≤ n) (h1 : n ≤ 9223372036854775807) (hr : root.length ≤ 9000000000000000000) (w : World) (hG : GOk w) (hW : WordsOk w) :
    Calls Tryd.prog 15 #[.string (bs root), .int .i64 n] w fun e w' => e = .returned (.tuple #[secV (channelT root n).1, .int .i64 (channelT root n).2]) ∧ Below w.heap.size w w' := by
  by_cases h : n < 0
  · exact kChannelNeg root n h h1 hr w hG hW
  · exact kChannelPos root n (by omega) h1 hr w hG hW
end Go.Proofs.YtchbhainmalbbaaDoor
