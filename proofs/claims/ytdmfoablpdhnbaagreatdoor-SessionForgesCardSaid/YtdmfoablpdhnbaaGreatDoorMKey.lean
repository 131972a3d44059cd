/- The program's layer keys: a root's children. The program's layer keys: a channel's secrets. The layer keys: secrets are bound and joined; what the law's works asks. The program's layers term and keys: public keys of joined and bound secrets; a channel's public keys. The program's layers seed and keys: a secret out of a seed, a commitment's secret, its point. The program's layer keys: a channel's public keys. The program's layer keys: a commitment's keys. -/
import Derived.Test.YtdmfoablpdhnbaaGreatDoorMTerm
import Derived.Test.YtdmfoablpdhnbaaGreatDoorMSpec
set_option linter.unusedSimpArgs false
set_option linter.unusedVariables false
-- KeyA
namespace Go.Proofs.YtdmfoablpdhnbaaGreatDoor
open Go.RowKit

set_option maxRecDepth 100000 in
set_option maxHeartbeats 2000000 in
theorem kChild (root wd : List UInt8) (n : Int) (h0 : 0 ≤ n) (h1 : n ≤ 9223372036854775807) (hr : root.length ≤ 9000000000000000000) (hw : wd.length ≤ 100) (w : World) (hG : GOk w) :
    Calls Tryz.prog 84 #[.string (bs root), .string (bs wd), .int .i64 n] w fun e w' => e = .returned (.tuple #[.string (bs (childT root wd n.toNat).1), .int .i64 (childT root wd n.toNat).2]) ∧ Below w.heap.size w w' := by
  obtain ⟨l1, l2, l3, l4, l5, l6, l7⟩ := label_facts wd n.toNat hw (by omega)
  have L1 := Lib.hid l1
  have L2 := Lib.hid l2
  have L5 := Lib.hid l5
  have q3 := (right_len l3).2
  have q4 := (right_len l4).2
  have qd := dec_len20 n.toNat (by omega)
  clear l1 l2 l3 l4 l5 l6
  have HG := Lib.hid hG
  clear hG
  go_enter Tryz.func84, Tryz.ntmps84
  go_wp2_with fail
  refine (tMkText wd (by omega) _ HG.out).mono ?_
  rintro e w1 ⟨rfl, hb1⟩
  rw [L1.out]
  have HG1 := Lib.hid (gok_below HG.out hb1)
  go_wp2_with fail
  refine (tFormatInt n h0 h1 _ HG1.out).mono ?_
  rintro e w2 ⟨rfl, hb2⟩
  have HG2 := Lib.hid (gok_below HG1.out hb2)
  go_wp2_with fail
  refine (tMkText _ (by omega) _ HG2.out).mono ?_
  rintro e w3 ⟨rfl, hb3⟩
  rw [L2.out]
  have HG3 := Lib.hid (gok_below HG2.out hb3)
  have HC := Lib.hid (two_cells (w := w3) (x := textL wd) (y := textL (Lib.decDigits n.toNat)) (T := 22))
  go_wp2_with fail
  refine (tMkTuple [textL wd, textL (Lib.decDigits n.toNat)] _ _ (by simp; omega) (by simp) _ (by simp) HC.out (gok_alloc HG3.out _)).mono ?_
  rintro e w4 ⟨rfl, hb4⟩
  rw [L5.out]
  have HG4 := Lib.hid (gok_below (gok_alloc HG3.out _) hb4)
  go_wp2_with fail
  refine (tChild root (labelT wd n.toNat) hr (by omega) _ HG4.out).mono ?_
  rintro e w5 ⟨rfl, hb5⟩
  go_wp2_with fail
  go_ret2
  exact ⟨rfl, by (repeat' (first | with_reducible exact Below.refl _ _ | with_reducible assumption | with_reducible refine below_alloc ?_ ?_ _ | with_reducible refine Below.setCell ?_ ?_ _ | with_reducible refine Below.drew ?_ | with_reducible refine below_drewN ?_ _ | with_reducible refine below_step (by assumption) ?_ ?_ | (with_reducible refine Below.trans ?_ (Below.mono (by assumption) ?_)) | exact Nat.le_refl _ | (simp; done) | (simp; omega) | omega))⟩

set_option maxRecDepth 100000 in
set_option maxHeartbeats 2000000 in
theorem kNode (root : List UInt8) (hr : root.length ≤ 9000000000000000000) (w : World) (hG : GOk w) :
    Calls Tryz.prog 41 #[.string (bs root)] w fun e w' => e = .returned (.tuple #[.string (bs (nodeT root).1), .int .i64 (nodeT root).2]) ∧ Below w.heap.size w w' := by
  go_enter Tryz.func41, Tryz.ntmps41
  go_wp2_with (go_at_call 84; refine (kChild root _ _ (by omega) (by omega) hr (by simp) _ hG).mono ?_; rintro e w1 ⟨rfl, hb1⟩)
  go_ret2
  exact ⟨rfl, by (repeat' (first | with_reducible exact Below.refl _ _ | with_reducible assumption | with_reducible refine below_alloc ?_ ?_ _ | with_reducible refine Below.setCell ?_ ?_ _ | with_reducible refine Below.drew ?_ | with_reducible refine below_drewN ?_ _ | with_reducible refine below_step (by assumption) ?_ ?_ | (with_reducible refine Below.trans ?_ (Below.mono (by assumption) ?_)) | exact Nat.le_refl _ | (simp; done) | (simp; omega) | omega))⟩

set_option maxRecDepth 100000 in
set_option maxHeartbeats 2000000 in
theorem kCoin (root : List UInt8) (n : Int) (h0 : -9223372036854775808 ≤ n) (h1 : n ≤ 9223372036854775807) (hr : root.length ≤ 9000000000000000000) (w : World) (hG : GOk w) :
    Calls Tryz.prog 43 #[.string (bs root), .int .i64 n] w fun e w' => e = .returned (.tuple #[.string (bs (coinT root n).1), .int .i64 (coinT root n).2]) ∧ Below w.heap.size w w' := by
  by_cases h : n < 0
  · have H : Hid (coinT root n = ([], 2)) := by show coinT root n = _; simp [coinT, h]
    go_enter Tryz.func43, Tryz.ntmps43
    go_wp2
    go_ret2
    exact ⟨by rw [H.out]; rfl, by (repeat' (first | with_reducible exact Below.refl _ _ | with_reducible assumption | with_reducible refine below_alloc ?_ ?_ _ | with_reducible refine Below.setCell ?_ ?_ _ | with_reducible refine Below.drew ?_ | with_reducible refine below_drewN ?_ _ | with_reducible refine below_step (by assumption) ?_ ?_ | (with_reducible refine Below.trans ?_ (Below.mono (by assumption) ?_)) | exact Nat.le_refl _ | (simp; done) | (simp; omega) | omega))⟩
  · have H : Hid (coinT root n = childT root [99, 111, 105, 110] n.toNat) := by show coinT root n = _; simp [coinT, h]
    go_enter Tryz.func43, Tryz.ntmps43
    go_wp2_with (go_at_call 84; refine (kChild root _ _ (by omega) (by omega) hr (by simp) _ hG).mono ?_; rintro e w1 ⟨rfl, hb1⟩)
    go_ret2
    exact ⟨by rw [H.out]; rfl, by (repeat' (first | with_reducible exact Below.refl _ _ | with_reducible assumption | with_reducible refine below_alloc ?_ ?_ _ | with_reducible refine Below.setCell ?_ ?_ _ | with_reducible refine Below.drew ?_ | with_reducible refine below_drewN ?_ _ | with_reducible refine below_step (by assumption) ?_ ?_ | (with_reducible refine Below.trans ?_ (Below.mono (by assumption) ?_)) | exact Nat.le_refl _ | (simp; done) | (simp; omega) | omega))⟩

/-! A channel's secrets. -/
def WordsOk (w : World) : Prop := ∀ i, i < 6 → w.cell? ⟨0, i, none⟩ = some (.string (bs (wordsT.getD i [])))
theorem words_keep {w w' : World} (h : WordsOk w) (hk : ∀ k, k < gN → w'.heap[k]? = w.heap[k]?) : WordsOk w' := by
  intro i hi
  rw [← h i hi]
  simp only [World.cell?]
  rw [hk 0 (by decide)]
theorem words_gl {w w' : World} {rs : List Nat} (h : WordsOk w) (hs : gN ≤ w.heap.size) (hg : GL rs w w') (hr : ∀ r ∈ rs, gN ≤ r) : WordsOk w' :=
  words_keep h fun k hk => hg.block k (Nat.lt_of_lt_of_le hk hs) (fun hm => by have := hr k hm; omega)
theorem words_len (i : Nat) : (wordsT.getD i []).length ≤ 100 := by
  match i with
  | 0 => decide
  | 1 => decide
  | 2 => decide
  | 3 => decide
  | 4 => decide
  | 5 => decide
  | _ + 6 => simp [wordsT]

def nextT (fe : Int) (base wd : List UInt8) : List UInt8 × Int := if fe = 0 then childT base wd 0 else ([], fe)

set_option maxRecDepth 100000 in
set_option maxHeartbeats 2000000 in
theorem kNext (i : Nat) (hi : i < 6) (I : Int) (hI : I = i) (fe : Int) (base : List UInt8) (F B : Nat) (w : World) (hF : w.heap[F]? = some (.cells #[.int .i64 fe] 47 (0, 0))) (hB : w.heap[B]? = some (.cells #[.string (bs base)] 22 (0, 0)))
    (hbl : base.length ≤ 9000000000000000000) (hG : GOk w) (hW : WordsOk w) :
    Calls Tryz.prog 86 #[.int .i64 I, .pointer (some ⟨F, 0, none⟩), .pointer (some ⟨B, 0, none⟩)] w fun e w' => e = .returned (.string (bs (nextT fe base (wordsT.getD i [])).1)) ∧
      w'.heap[F]? = some (.cells #[.int .i64 (nextT fe base (wordsT.getD i [])).2] 47 (0, 0)) ∧ GL [F] w w' := by
  subst hI
  have f0 := blk_cell hF
  have f1 := blk_free hF
  by_cases h : fe = 0
  · have H : Hid (nextT fe base (wordsT.getD i []) = childT base (wordsT.getD i []) 0) := by show nextT _ _ _ = _; simp [nextT, h]
    have b1 : (fe != 0) = false := by simp [h]
    have c0 : w.cell? ⟨B, 0, none⟩ = some (.string (bs base)) := by rw [blk_cell hB]; rfl
    have c1 := hW i hi
    have i1 : (i : Int) < 6 := by omega
    have i2 : (0 : Int) ≤ (i : Int) := by omega
    have hwl := words_len i
    have HF := Lib.hid hF
    have HG := Lib.hid hG
    generalize wordsT.getD i [] = wd at *
    clear h hF hB hG hW
    go_enter Tryz.func86, Tryz.ntmps86
    go_wp2
    go_region_held3 (fun w' => w'.cell? ⟨B, 0, none⟩ = some (.string (bs base)) ∧ w'.cell? ⟨0, i, none⟩ = some (.string (bs wd)))
      (first | go_keep | (go_split_ands; refine ⟨?_, ?_⟩ <;> exact (hbk.cell (World.block_lt_of_cell? _ _ (by assumption))).trans (by assumption)))
      ((go_at_call 84; refine (kChild base wd _ (by omega) (by omega) hbl hwl _ (gok_drew HG.out)).mono ?_; rintro e wk ⟨rfl, hbk⟩; have HFk := Lib.hid (blk_below (blk_drew HF.out) hbk (blk_lt (blk_drew HF.out))); have f2 := blk_cell HFk.out; have f3 := blk_free HFk.out))
    go_wp2
    go_ret
    have hg : GL [F] w wk := gl_below hbk (gl_drew (gl_refl _ _))
    refine ⟨by rw [H.out]; rfl, ?_, by (repeat' (first | with_reducible exact gl_refl _ _ | with_reducible assumption | with_reducible refine gl_alloc ?_ _ | with_reducible refine gl_drewN ?_ _ | with_reducible refine gl_drew ?_ | (with_reducible refine gl_setn ?_ ?_ _; · (first | exact Nat.le_refl _ | (simp; done) | (simp; omega) | omega)) | (with_reducible refine gl_seti ?_ ?_ _; · (simp; done)) | with_reducible refine gl_below (by with_reducible assumption) ?_ | with_reducible refine gl_step (by with_reducible assumption) ?_ (by first | (simp; done) | (simp; omega)) | with_reducible refine gl_grown (by with_reducible assumption) ?_ (by first | (simp; done) | (simp; omega))))⟩
    rw [H.out]
    exact blk_set HFk.out 0 _
  · have H : Hid (nextT fe base (wordsT.getD i []) = ([], fe)) := by show nextT _ _ _ = _; simp [nextT, h]
    have b1 : (fe != 0) = true := by simp [h]
    clear h
    have HF := Lib.hid hF
    clear hF hB hG hW
    go_enter Tryz.func86, Tryz.ntmps86
    go_wp2
    go_ret
    exact ⟨by rw [H.out]; rfl, by rw [H.out]; exact HF.out, by (repeat' (first | with_reducible exact gl_refl _ _ | with_reducible assumption | with_reducible refine gl_alloc ?_ _ | with_reducible refine gl_drewN ?_ _ | with_reducible refine gl_drew ?_ | (with_reducible refine gl_setn ?_ ?_ _; · (first | exact Nat.le_refl _ | (simp; done) | (simp; omega) | omega)) | (with_reducible refine gl_seti ?_ ?_ _; · (simp; done)) | with_reducible refine gl_below (by with_reducible assumption) ?_ | with_reducible refine gl_step (by with_reducible assumption) ?_ (by first | (simp; done) | (simp; omega)) | with_reducible refine gl_grown (by with_reducible assumption) ?_ (by first | (simp; done) | (simp; omega))))⟩
end Go.Proofs.YtdmfoablpdhnbaaGreatDoor

-- KeyB
namespace Go.Proofs.YtdmfoablpdhnbaaGreatDoor
open Go.RowKit

def chainT (base : List UInt8) : Int → List (List UInt8) → List (List UInt8) × Int
  | fe, [] => ([], fe)
  | fe, wd :: r => ((nextT fe base wd).1 :: (chainT base (nextT fe base wd).2 r).1, (chainT base (nextT fe base wd).2 r).2)
theorem chain_bad (base : List UInt8) : ∀ (ws : List (List UInt8)) (fe : Int), fe ≠ 0 → (chainT base fe ws).2 = fe
  | [], fe, _ => rfl
  | wd :: r, fe, h => by
    have e : nextT fe base wd = ([], fe) := by simp [nextT, h]
    simp only [chainT, e]
    exact chain_bad base r fe h
theorem chain_many (base : List UInt8) : ∀ (ws : List (List UInt8)), (chainT base 0 ws).2 = (manyT (fun w => childT base w 0) ws).2 ∧ ((manyT (fun w => childT base w 0) ws).2 = 0 → (chainT base 0 ws).1 = (manyT (fun w => childT base w 0) ws).1)
  | [] => ⟨rfl, fun _ => rfl⟩
  | wd :: r => by
    have e : nextT 0 base wd = childT base wd 0 := by simp [nextT]
    obtain ⟨h1, h2⟩ := chain_many base r
    simp only [chainT, manyT, e]
    by_cases h : (childT base wd 0).2 = 0
    · simp only [h, if_true]
      by_cases h3 : (manyT (fun w => childT base w 0) r).2 = 0
      · simp only [h3, if_true]
        exact ⟨by rw [h1, h3], fun _ => by rw [h2 h3]⟩
      · simp only [if_neg h3]
        exact ⟨h1, fun h4 => absurd h4 h3⟩
    · simp only [if_neg h]
      exact ⟨chain_bad base r _ h, fun h4 => absurd h4 h⟩

/-- The closure's row of answers, and the document's. -/
theorem channel_chain (root : List UInt8) (n : Int) (hn : ¬ n < 0) (base : List UInt8) (fe : Int) (hb : childT root [99, 104, 97, 110, 110, 101, 108] n.toNat = (base, fe)) :
    ((chainT base fe wordsT).2 = 0 → channelT root n = ((chainT base fe wordsT).1, 0)) ∧ ((chainT base fe wordsT).2 ≠ 0 → channelT root n = ([], (chainT base fe wordsT).2)) := by
  unfold channelT
  rw [if_neg hn, hb]
  simp only []
  by_cases h : fe = 0
  · subst h
    obtain ⟨h1, h2⟩ := chain_many base wordsT
    simp only [if_true]
    refine ⟨fun h3 => ?_, fun h3 => ?_⟩
    · rw [h1] at h3
      rw [h2 h3]
      exact Prod.ext rfl h3
    · rw [h1] at h3 ⊢
      have : (manyT (fun w => childT base w 0) wordsT).1 = [] := by
        revert h3
        generalize wordsT = ws
        cases ws with
        | nil => intro h; exact absurd rfl h
        | cons a r =>
          simp only [manyT]
          split
          · split
            · intro h; exact absurd rfl h
            · intro _; rfl
          · intro _; rfl
      exact Prod.ext this rfl
  · have h1 := chain_bad base wordsT fe h
    rw [h1]
    exact ⟨fun h2 => absurd h2 h, fun _ => by rw [if_neg h]⟩

set_option maxRecDepth 100000 in
set_option maxHeartbeats 4000000 in
theorem kChannelNeg (root : List UInt8) (n : Int) (h0 : n < 0) (h1 : n ≤ 9223372036854775807) (hr : root.length ≤ 9000000000000000000) (w : World) (hG : GOk w) (hW : WordsOk w) :
    Calls Tryz.prog 45 #[.string (bs root), .int .i64 n] w fun e w' => e = .returned (.tuple #[secV (channelT root n).1, .int .i64 (channelT root n).2]) ∧ Below w.heap.size w w' := by
  have H : Hid (channelT root n = ([], 2)) := by show channelT root n = _; simp [channelT, h0]
  go_enter Tryz.func45, Tryz.ntmps45
  go_wp2
  exact bodyPost_ret (v := .tuple #[.agg #[.string (bs []), .string (bs []), .string (bs []), .string (bs []), .string (bs []), .string (bs [])], .int .i64 2]) (by simp [results, Tryz.results45, go_sem]) rfl ⟨by rw [H.out]; rfl, by (repeat' (first | with_reducible exact Below.refl _ _ | with_reducible assumption | with_reducible refine below_alloc ?_ ?_ _ | with_reducible refine Below.setCell ?_ ?_ _ | with_reducible refine Below.drew ?_ | with_reducible refine below_drewN ?_ _ | with_reducible refine below_step (by assumption) ?_ ?_ | (with_reducible refine Below.trans ?_ (Below.mono (by assumption) ?_)) | exact Nat.le_refl _ | (simp; done) | (simp; omega) | omega))⟩

set_option maxRecDepth 100000 in
set_option maxHeartbeats 4000000 in
theorem kChannelPos (root : List UInt8) (n : Int) (h0 : 0 ≤ n) (h1 : n ≤ 9223372036854775807) (hr : root.length ≤ 9000000000000000000) (w : World) (hG : GOk w) (hW : WordsOk w) :
    Calls Tryz.prog 45 #[.string (bs root), .int .i64 n] w fun e w' => e = .returned (.tuple #[secV (channelT root n).1, .int .i64 (channelT root n).2]) ∧ Below w.heap.size w w' := by
  obtain ⟨b0, hb0⟩ : ∃ b, childT root [99, 104, 97, 110, 110, 101, 108] n.toNat = b := ⟨_, rfl⟩
  have hbl0 : b0.1.length ≤ 16384 := by rw [← hb0]; exact twoT_len _ _ _
  obtain ⟨base, f0⟩ := b0
  have hbl : base.length ≤ 9000000000000000000 := by simp only at hbl0; omega
  have HCH := Lib.hid (channel_chain root n (by omega) base f0 hb0)
  have HB := Lib.hid hb0
  clear hb0 hbl0
  have hmf : ∀ (fn : Fn) (first cap : Array Value) (w : World), (Instr.makeFunc fn first cap).run Tryz.prog w = .ok (.func fn first cap) w := fun _ _ _ _ => rfl
  have HG := Lib.hid hG
  have HW := Lib.hid hW
  have hs := hG.size
  clear hG hW
  have HR := Lib.hid (blk_new w (.cells #[.string (bs []), .string (bs []), .string (bs []), .string (bs []), .string (bs []), .string (bs [])] 44))
  go_enter Tryz.func45, Tryz.ntmps45
  go_wp2_with fail
  refine (kChild root _ n h0 h1 hr (by simp) _ (gok_alloc HG.out _)).mono ?_
  rintro e w1 ⟨rfl, hb1⟩
  rw [HB.out]
  have HR1 := Lib.hid (blk_below HR.out hb1 (blk_lt HR.out))
  have hbw : Below w.heap.size w w1 := by (repeat' (first | with_reducible exact Below.refl _ _ | with_reducible assumption | with_reducible refine below_alloc ?_ ?_ _ | with_reducible refine Below.setCell ?_ ?_ _ | with_reducible refine Below.drew ?_ | with_reducible refine below_drewN ?_ _ | with_reducible refine below_step (by assumption) ?_ ?_ | (with_reducible refine Below.trans ?_ (Below.mono (by assumption) ?_)) | exact Nat.le_refl _ | (simp; done) | (simp; omega) | omega))
  have hsz := hbw.size
  have HR0 := Lib.hid (blk_alloc (blk_alloc HR1.out (.cells #[.string (bs base)] 22)) (.cells #[.int .i64 f0] 47))
  have HB0 := Lib.hid (blk_alloc (blk_new w1 (.cells #[.string (bs base)] 22)) (.cells #[.int .i64 f0] 47))
  have HF0 : Hid (((w1.alloc (.cells #[.string (bs base)] 22)).alloc (.cells #[.int .i64 f0] 47)).heap[w1.heap.size + 1]? = some (.cells #[.int .i64 f0] 47 (0, 0))) := by
    have h := blk_new (w1.alloc (.cells #[.string (bs base)] 22)) (.cells #[.int .i64 f0] 47)
    rw [show (w1.alloc (.cells #[.string (bs base)] 22)).heap.size = w1.heap.size + 1 by simp] at h
    exact h
  have HG0 := Lib.hid (gok_alloc (gok_alloc (gok_below (gok_alloc HG.out _) hb1) (.cells #[.string (bs base)] 22)) (.cells #[.int .i64 f0] 47))
  have hbw0 : Below w.heap.size w ((w1.alloc (.cells #[.string (bs base)] 22)).alloc (.cells #[.int .i64 f0] 47)) := by (repeat' (first | with_reducible exact Below.refl _ _ | with_reducible assumption | with_reducible refine below_alloc ?_ ?_ _ | with_reducible refine Below.setCell ?_ ?_ _ | with_reducible refine Below.drew ?_ | with_reducible refine below_drewN ?_ _ | with_reducible refine below_step (by assumption) ?_ ?_ | (with_reducible refine Below.trans ?_ (Below.mono (by assumption) ?_)) | exact Nat.le_refl _ | (simp; done) | (simp; omega) | omega))
  have HW0 : Hid (WordsOk ((w1.alloc (.cells #[.string (bs base)] 22)).alloc (.cells #[.int .i64 f0] 47))) := words_keep HW.out fun k hk => hbw0.block k (by omega)
  have hRF : w.heap.size ≠ w1.heap.size + 1 := by omega
  have hBF : w1.heap.size ≠ w1.heap.size + 1 := by omega
  have hgF : gN ≤ w1.heap.size + 1 := by omega
  have hRl := blk_lt HR1.out
  clear hb1 hbw
  have hg0 := gl_refl [w1.heap.size + 1] ((w1.alloc (.cells #[.string (bs base)] 22)).alloc (.cells #[.int .i64 f0] 47))
  go_wp2_with fail
  refine (kNext 0 (by omega) _ rfl f0 base (w1.heap.size + 1) w1.heap.size _ HF0.out HB0.out hbl HG0.out HW0.out).mono ?_
  rintro e w2 ⟨rfl, hF, hg⟩
  obtain ⟨x0, hx0⟩ : ∃ x, nextT f0 base (wordsT.getD 0 []) = x := ⟨_, rfl⟩
  have HX0 := Lib.hid hx0
  rw [hx0] at hF ⊢
  clear hx0
  obtain ⟨y0, f1⟩ := x0
  have HF1 := Lib.hid hF
  have HB1 := Lib.hid (blk_gl HB0.out hg (by simp))
  have HR1 := Lib.hid (blk_gl HR0.out hg (by simp; omega))
  have HG1 := Lib.hid (gok_gl HG0.out hg (by simp; omega))
  have HW1 := Lib.hid (words_gl HW0.out HG0.out.size hg (by simp; omega))
  have hg1 := gl_step hg hg0 (by simp)
  clear hF hg
  go_wp2_with fail
  refine (kNext 1 (by omega) _ rfl f1 base (w1.heap.size + 1) w1.heap.size _ HF1.out HB1.out hbl HG1.out HW1.out).mono ?_
  rintro e w3 ⟨rfl, hF, hg⟩
  obtain ⟨x1, hx1⟩ : ∃ x, nextT f1 base (wordsT.getD 1 []) = x := ⟨_, rfl⟩
  have HX1 := Lib.hid hx1
  rw [hx1] at hF ⊢
  clear hx1
  obtain ⟨y1, f2⟩ := x1
  have HF2 := Lib.hid hF
  have HB2 := Lib.hid (blk_gl HB1.out hg (by simp))
  have HR2 := Lib.hid (blk_gl HR1.out hg (by simp; omega))
  have HG2 := Lib.hid (gok_gl HG1.out hg (by simp; omega))
  have HW2 := Lib.hid (words_gl HW1.out HG1.out.size hg (by simp; omega))
  have hg2 := gl_step hg hg1 (by simp)
  clear hF hg
  go_wp2_with fail
  refine (kNext 2 (by omega) _ rfl f2 base (w1.heap.size + 1) w1.heap.size _ HF2.out HB2.out hbl HG2.out HW2.out).mono ?_
  rintro e w4 ⟨rfl, hF, hg⟩
  obtain ⟨x2, hx2⟩ : ∃ x, nextT f2 base (wordsT.getD 2 []) = x := ⟨_, rfl⟩
  have HX2 := Lib.hid hx2
  rw [hx2] at hF ⊢
  clear hx2
  obtain ⟨y2, f3⟩ := x2
  have HF3 := Lib.hid hF
  have HB3 := Lib.hid (blk_gl HB2.out hg (by simp))
  have HR3 := Lib.hid (blk_gl HR2.out hg (by simp; omega))
  have HG3 := Lib.hid (gok_gl HG2.out hg (by simp; omega))
  have HW3 := Lib.hid (words_gl HW2.out HG2.out.size hg (by simp; omega))
  have hg3 := gl_step hg hg2 (by simp)
  clear hF hg
  go_wp2_with fail
  refine (kNext 3 (by omega) _ rfl f3 base (w1.heap.size + 1) w1.heap.size _ HF3.out HB3.out hbl HG3.out HW3.out).mono ?_
  rintro e w5 ⟨rfl, hF, hg⟩
  obtain ⟨x3, hx3⟩ : ∃ x, nextT f3 base (wordsT.getD 3 []) = x := ⟨_, rfl⟩
  have HX3 := Lib.hid hx3
  rw [hx3] at hF ⊢
  clear hx3
  obtain ⟨y3, f4⟩ := x3
  have HF4 := Lib.hid hF
  have HB4 := Lib.hid (blk_gl HB3.out hg (by simp))
  have HR4 := Lib.hid (blk_gl HR3.out hg (by simp; omega))
  have HG4 := Lib.hid (gok_gl HG3.out hg (by simp; omega))
  have HW4 := Lib.hid (words_gl HW3.out HG3.out.size hg (by simp; omega))
  have hg4 := gl_step hg hg3 (by simp)
  clear hF hg
  go_wp2_with fail
  refine (kNext 4 (by omega) _ rfl f4 base (w1.heap.size + 1) w1.heap.size _ HF4.out HB4.out hbl HG4.out HW4.out).mono ?_
  rintro e w6 ⟨rfl, hF, hg⟩
  obtain ⟨x4, hx4⟩ : ∃ x, nextT f4 base (wordsT.getD 4 []) = x := ⟨_, rfl⟩
  have HX4 := Lib.hid hx4
  rw [hx4] at hF ⊢
  clear hx4
  obtain ⟨y4, f5⟩ := x4
  have HF5 := Lib.hid hF
  have HB5 := Lib.hid (blk_gl HB4.out hg (by simp))
  have HR5 := Lib.hid (blk_gl HR4.out hg (by simp; omega))
  have HG5 := Lib.hid (gok_gl HG4.out hg (by simp; omega))
  have HW5 := Lib.hid (words_gl HW4.out HG4.out.size hg (by simp; omega))
  have hg5 := gl_step hg hg4 (by simp)
  clear hF hg
  go_wp2_with fail
  refine (kNext 5 (by omega) _ rfl f5 base (w1.heap.size + 1) w1.heap.size _ HF5.out HB5.out hbl HG5.out HW5.out).mono ?_
  rintro e w7 ⟨rfl, hF, hg⟩
  obtain ⟨x5, hx5⟩ : ∃ x, nextT f5 base (wordsT.getD 5 []) = x := ⟨_, rfl⟩
  have HX5 := Lib.hid hx5
  rw [hx5] at hF ⊢
  clear hx5
  obtain ⟨y5, f6⟩ := x5
  have HF6 := Lib.hid hF
  have HB6 := Lib.hid (blk_gl HB5.out hg (by simp))
  have HR6 := Lib.hid (blk_gl HR5.out hg (by simp; omega))
  have HG6 := Lib.hid (gok_gl HG5.out hg (by simp; omega))
  have HW6 := Lib.hid (words_gl HW5.out HG5.out.size hg (by simp; omega))
  have hg6 := gl_step hg hg5 (by simp)
  clear hF hg
  have HCT : Hid (chainT base f0 wordsT = ([y0, y1, y2, y3, y4, y5], f6)) := by
    show chainT base f0 wordsT = _
    have e0 : nextT f0 base [102, 117, 110, 100] = (y0, f1) := HX0.out
    have e1 : nextT f1 base [114, 101, 118] = (y1, f2) := HX1.out
    have e2 : nextT f2 base [112, 97, 121] = (y2, f3) := HX2.out
    have e3 : nextT f3 base [108, 97, 116, 101, 114] = (y3, f4) := HX3.out
    have e4 : nextT f4 base [104, 116, 108, 99] = (y4, f5) := HX4.out
    have e5 : nextT f5 base [115, 101, 101, 100] = (y5, f6) := HX5.out
    simp only [wordsT, chainT, e0, e1, e2, e3, e4, e5]
  rw [HCT.out] at HCH
  have hb6 : Below w.heap.size w w7 := gl_new hg6 hbw0 rfl (by omega)
  have r0 := blk_cell HR6.out
  have r1 := blk_free HR6.out
  have r2 := blk_cell HF6.out
  have r3 := blk_free HF6.out
  have hl6 := blk_lt HF6.out
  have hl7 := blk_lt HR6.out
  clear HR0 HR1 HR2 HR3 HR4 HR5 HF0 HF1 HF2 HF3 HF4 HF5 HB0 HB1 HB2 HB3 HB4 HB5 HG0 HG1 HG2 HG3 HG4 HG5 HW0 HW1 HW2 HW3 HW4 HW5 HX0 HX1 HX2 HX3 HX4 HX5 HR hg0 hg1 hg2 hg3 hg4 hg5
  by_cases h6 : f6 = 0
  · have H := Lib.hid (HCH.out.1 h6)
    have q6 : (f6 != 0) = false := by simp [h6]
    clear h6
    go_wp2
    refine bodyPost_ret (v := .tuple #[.agg #[.string (bs y0), .string (bs y1), .string (bs y2), .string (bs y3), .string (bs y4), .string (bs y5)], .int .i64 0]) (by simp [results, Tryz.results45, go_sem, r0, r1, hl7]) rfl ⟨by rw [H.out]; rfl, by (repeat' (first | with_reducible exact Below.refl _ _ | with_reducible assumption | with_reducible refine below_alloc ?_ ?_ _ | with_reducible refine Below.setCell ?_ ?_ _ | with_reducible refine Below.drew ?_ | with_reducible refine below_drewN ?_ _ | with_reducible refine below_step (by assumption) ?_ ?_ | (with_reducible refine Below.trans ?_ (Below.mono (by assumption) ?_)) | exact Nat.le_refl _ | (simp; done) | (simp; omega) | omega))⟩
  · have H := Lib.hid (HCH.out.2 h6)
    have q6 : (f6 != 0) = true := by simp [h6]
    clear h6
    go_wp2
    go_region
    all_goals
      go_wp2
      refine bodyPost_ret (v := .tuple #[.agg #[.string (bs []), .string (bs []), .string (bs []), .string (bs []), .string (bs []), .string (bs [])], .int .i64 f6]) (by simp [results, Tryz.results45, go_sem, r0, r1, hl7]) rfl ⟨by rw [H.out]; rfl, by (repeat' (first | with_reducible exact Below.refl _ _ | with_reducible assumption | with_reducible refine below_alloc ?_ ?_ _ | with_reducible refine Below.setCell ?_ ?_ _ | with_reducible refine Below.drew ?_ | with_reducible refine below_drewN ?_ _ | with_reducible refine below_step (by assumption) ?_ ?_ | (with_reducible refine Below.trans ?_ (Below.mono (by assumption) ?_)) | exact Nat.le_refl _ | (simp; done) | (simp; omega) | omega))⟩
theorem kChannel (root : List UInt8) (n : Int) (h0 : -9223372036854775808 ≤ n) (h1 : n ≤ 9223372036854775807) (hr : root.length ≤ 9000000000000000000) (w : World) (hG : GOk w) (hW : WordsOk w) :
    Calls Tryz.prog 45 #[.string (bs root), .int .i64 n] w fun e w' => e = .returned (.tuple #[secV (channelT root n).1, .int .i64 (channelT root n).2]) ∧ Below w.heap.size w w' := by
  by_cases h : n < 0
  · exact kChannelNeg root n h h1 hr w hG hW
  · exact kChannelPos root n (by omega) h1 hr w hG hW
end Go.Proofs.YtdmfoablpdhnbaaGreatDoor

-- KeyC
namespace Go.Proofs.YtdmfoablpdhnbaaGreatDoor
open Go.RowKit

set_option maxRecDepth 100000 in
set_option maxHeartbeats 1000000 in
theorem kRevoke (x y : List UInt8) (hx : x.length ≤ 9000000000000000000) (hy : y.length ≤ 9000000000000000000) (w : World) (hG : GOk w) :
    Calls Tryz.prog 56 #[.string (bs x), .string (bs y)] w fun e w' => e = .returned (.tuple #[.string (bs (twoT 86 x y).1), .int .i64 (twoT 86 x y).2]) ∧ Below w.heap.size w w' := by
  go_enter Tryz.func56, Tryz.ntmps56
  go_wp2_with (go_at_call 98; refine (tJoin x y hx hy _ hG).mono ?_; rintro e w1 ⟨rfl, hb1⟩)
  go_ret2
  exact ⟨rfl, by (repeat' (first | with_reducible exact Below.refl _ _ | with_reducible assumption | with_reducible refine below_alloc ?_ ?_ _ | with_reducible refine Below.setCell ?_ ?_ _ | with_reducible refine Below.drew ?_ | with_reducible refine below_drewN ?_ _ | with_reducible refine below_step (by assumption) ?_ ?_ | (with_reducible refine Below.trans ?_ (Below.mono (by assumption) ?_)) | exact Nat.le_refl _ | (simp; done) | (simp; omega) | omega))⟩
set_option maxRecDepth 100000 in
set_option maxHeartbeats 1000000 in
theorem kBind (x y : List UInt8) (hx : x.length ≤ 9000000000000000000) (hy : y.length ≤ 9000000000000000000) (w : World) (hG : GOk w) :
    Calls Tryz.prog 54 #[.string (bs x), .string (bs y)] w fun e w' => e = .returned (.tuple #[.string (bs (twoT 75 x y).1), .int .i64 (twoT 75 x y).2]) ∧ Below w.heap.size w w' := by
  go_enter Tryz.func54, Tryz.ntmps54
  go_wp2_with (go_at_call 96; refine (tBind x y hx hy _ hG).mono ?_; rintro e w1 ⟨rfl, hb1⟩)
  go_ret2
  exact ⟨rfl, by (repeat' (first | with_reducible exact Below.refl _ _ | with_reducible assumption | with_reducible refine below_alloc ?_ ?_ _ | with_reducible refine Below.setCell ?_ ?_ _ | with_reducible refine Below.drew ?_ | with_reducible refine below_drewN ?_ _ | with_reducible refine below_step (by assumption) ?_ ?_ | (with_reducible refine Below.trans ?_ (Below.mono (by assumption) ?_)) | exact Nat.le_refl _ | (simp; done) | (simp; omega) | omega))⟩

theorem ev_node : nodeT [110, 49, 59] = ([68, 110, 49, 59, 84, 50, 58, 116, 52, 58, 110, 111, 100, 101, 116, 49, 58, 48], 0) := by decide +kernel
theorem ev_coin : coinT [110, 49, 59] (-1) = ([], 2) := by decide +kernel
theorem ev_join : twoT 86 [110, 49, 59] [110, 50, 59] = ([86, 110, 49, 59, 110, 50, 59], 0) := by decide +kernel
theorem ev_pub : pubT [86, 110, 49, 59, 110, 50, 59] = ([87, 80, 110, 49, 59, 80, 110, 50, 59], 0) := by decide +kernel
theorem ev_channel : (channelT [110, 49, 59] 2).2 = 0 ∧ (channelT [110, 49, 59] 2).1.getD 2 [] = [68, 68, 110, 49, 59, 84, 50, 58, 116, 55, 58, 99, 104, 97, 110, 110, 101, 108, 116, 49, 58, 50, 84, 50, 58, 116, 51, 58, 112, 97, 121, 116, 49, 58, 48] := by decide +kernel
end Go.Proofs.YtdmfoablpdhnbaaGreatDoor

-- KeyD
namespace Go.Proofs.YtdmfoablpdhnbaaGreatDoor
open Go.RowKit

set_option maxRecDepth 100000 in
set_option maxHeartbeats 2000000 in
theorem tJoint (x y : List UInt8) (hlx : x.length ≤ 9000000000000000000) (hly : y.length ≤ 9000000000000000000) (w : World) (hG : GOk w) :
    Calls Tryz.prog 91 #[.string (bs x), .string (bs y)] w fun e w' => e = .returned (.tuple #[.string (bs (jointT x y).1), .int .i64 (jointT x y).2]) ∧ Below w.heap.size w w' := by
  have HG := Lib.hid hG
  clear hG
  cases h : right x with
  | false =>
    have H : Hid (jointT x y = ([], 10)) := by show jointT x y = _; simp [jointT, h]
    have HR := Lib.hid h
    clear h
    go_enter Tryz.func91, Tryz.ntmps91
    go_wp2_with fail
    refine (tRight x hlx _ HG.out).mono ?_
    rintro e w1 ⟨rfl, hb1⟩
    rw [HR.out]
    have HG := Lib.hid (gok_below HG.out hb1)
    go_wp2_with fail
    go_ret2
    exact ⟨by rw [H.out]; rfl, by (repeat' (first | with_reducible exact Below.refl _ _ | with_reducible assumption | with_reducible refine below_alloc ?_ ?_ _ | with_reducible refine Below.setCell ?_ ?_ _ | with_reducible refine Below.drew ?_ | with_reducible refine below_drewN ?_ _ | with_reducible refine below_step (by assumption) ?_ ?_ | (with_reducible refine Below.trans ?_ (Below.mono (by assumption) ?_)) | exact Nat.le_refl _ | (simp; done) | (simp; omega) | omega))⟩
  | true =>
    cases h2 : right y with
    | false =>
      have H : Hid (jointT x y = ([], 10)) := by show jointT x y = _; simp [jointT, h2]
      have HR := Lib.hid h
      have HR2 := Lib.hid h2
      clear h h2
      go_enter Tryz.func91, Tryz.ntmps91
      go_wp2_with fail
      refine (tRight x hlx _ HG.out).mono ?_
      rintro e w1 ⟨rfl, hb1⟩
      rw [HR.out]
      have HG := Lib.hid (gok_below HG.out hb1)
      go_wp2_with fail
      refine (tRight y hly _ HG.out).mono ?_
      rintro e w2 ⟨rfl, hb2⟩
      rw [HR2.out]
      have HG := Lib.hid (gok_below HG.out hb2)
      go_wp2_with fail
      go_ret2
      exact ⟨by rw [H.out]; rfl, by (repeat' (first | with_reducible exact Below.refl _ _ | with_reducible assumption | with_reducible refine below_alloc ?_ ?_ _ | with_reducible refine Below.setCell ?_ ?_ _ | with_reducible refine Below.drew ?_ | with_reducible refine below_drewN ?_ _ | with_reducible refine below_step (by assumption) ?_ ?_ | (with_reducible refine Below.trans ?_ (Below.mono (by assumption) ?_)) | exact Nat.le_refl _ | (simp; done) | (simp; omega) | omega))⟩
    | true =>
      obtain ⟨c, r, rfl⟩ := right_cons h
      obtain ⟨c', r', rfl⟩ := right_cons h2
      have hr0 : (0 : Int) ≤ (r.length : Int) := by omega
      have hr0' : (0 : Int) ≤ (r'.length : Int) := by omega
      cases h3 : pubC c with
      | false =>
        have H : Hid (jointT (c :: r) (c' :: r') = ([], 10)) := by show jointT _ _ = _; simp [jointT, head, h3]
        have HR := Lib.hid h
        have HR2 := Lib.hid h2
        have HR3 := Lib.hid h3
        clear h h2 h3
        go_enter Tryz.func91, Tryz.ntmps91
        go_wp2_with fail
        refine (tRight _ hlx _ HG.out).mono ?_
        rintro e w1 ⟨rfl, hb1⟩
        rw [HR.out]
        have HG := Lib.hid (gok_below HG.out hb1)
        go_wp2_with fail
        refine (tRight _ hly _ HG.out).mono ?_
        rintro e w2 ⟨rfl, hb2⟩
        rw [HR2.out]
        have HG := Lib.hid (gok_below HG.out hb2)
        go_wp2_with fail
        refine (tPublic c _ _).mono ?_
        rintro e w3 ⟨rfl, rfl⟩
        rw [HR3.out]
        go_wp2_with fail
        go_ret2
        exact ⟨by rw [H.out]; rfl, by (repeat' (first | with_reducible exact Below.refl _ _ | with_reducible assumption | with_reducible refine below_alloc ?_ ?_ _ | with_reducible refine Below.setCell ?_ ?_ _ | with_reducible refine Below.drew ?_ | with_reducible refine below_drewN ?_ _ | with_reducible refine below_step (by assumption) ?_ ?_ | (with_reducible refine Below.trans ?_ (Below.mono (by assumption) ?_)) | exact Nat.le_refl _ | (simp; done) | (simp; omega) | omega))⟩
      | true =>
        cases h4 : pubC c' with
        | false =>
          have H : Hid (jointT (c :: r) (c' :: r') = ([], 10)) := by show jointT _ _ = _; simp [jointT, head, h4]
          have HR := Lib.hid h
          have HR2 := Lib.hid h2
          have HR3 := Lib.hid h3
          have HR4 := Lib.hid h4
          clear h h2 h3 h4
          go_enter Tryz.func91, Tryz.ntmps91
          go_wp2_with fail
          refine (tRight _ hlx _ HG.out).mono ?_
          rintro e w1 ⟨rfl, hb1⟩
          rw [HR.out]
          have HG := Lib.hid (gok_below HG.out hb1)
          go_wp2_with fail
          refine (tRight _ hly _ HG.out).mono ?_
          rintro e w2 ⟨rfl, hb2⟩
          rw [HR2.out]
          have HG := Lib.hid (gok_below HG.out hb2)
          go_wp2_with fail
          refine (tPublic c _ _).mono ?_
          rintro e w3 ⟨rfl, rfl⟩
          rw [HR3.out]
          go_wp2_with fail
          refine (tPublic c' _ _).mono ?_
          rintro e w4 ⟨rfl, rfl⟩
          rw [HR4.out]
          go_wp2_with fail
          go_ret2
          exact ⟨by rw [H.out]; rfl, by (repeat' (first | with_reducible exact Below.refl _ _ | with_reducible assumption | with_reducible refine below_alloc ?_ ?_ _ | with_reducible refine Below.setCell ?_ ?_ _ | with_reducible refine Below.drew ?_ | with_reducible refine below_drewN ?_ _ | with_reducible refine below_step (by assumption) ?_ ?_ | (with_reducible refine Below.trans ?_ (Below.mono (by assumption) ?_)) | exact Nat.le_refl _ | (simp; done) | (simp; omega) | omega))⟩
        | true =>
          have H : Hid (jointT (c :: r) (c' :: r') = buildT [87] [c :: r, c' :: r']) := by show jointT _ _ = _; rw [build_two]; simp [jointT, head, h, h2, h3, h4]
          have HR := Lib.hid h
          have HR2 := Lib.hid h2
          have HR3 := Lib.hid h3
          have HR4 := Lib.hid h4
          clear h h2 h3 h4
          go_enter Tryz.func91, Tryz.ntmps91
          go_wp2_with fail
          refine (tRight _ hlx _ HG.out).mono ?_
          rintro e w1 ⟨rfl, hb1⟩
          rw [HR.out]
          have HG := Lib.hid (gok_below HG.out hb1)
          go_wp2_with fail
          refine (tRight _ hly _ HG.out).mono ?_
          rintro e w2 ⟨rfl, hb2⟩
          rw [HR2.out]
          have HG := Lib.hid (gok_below HG.out hb2)
          go_wp2_with fail
          refine (tPublic c _ _).mono ?_
          rintro e w3 ⟨rfl, rfl⟩
          rw [HR3.out]
          go_wp2_with fail
          refine (tPublic c' _ _).mono ?_
          rintro e w4 ⟨rfl, rfl⟩
          rw [HR4.out]
          go_wp2_with fail
          refine (tBuild [87] [c :: r, c' :: r'] _ _ (by simp) (by intro z hz; simp at hz; rcases hz with rfl | rfl <;> assumption) (by simp) _ (by simp) (two_cells (x := c :: r) (y := c' :: r') (T := 22)) (gok_alloc HG.out _)).mono ?_
          rintro e w9 ⟨rfl, hb9⟩
          go_wp2_with fail
          go_ret2
          exact ⟨by rw [H.out]; rfl, by (repeat' (first | with_reducible exact Below.refl _ _ | with_reducible assumption | with_reducible refine below_alloc ?_ ?_ _ | with_reducible refine Below.setCell ?_ ?_ _ | with_reducible refine Below.drew ?_ | with_reducible refine below_drewN ?_ _ | with_reducible refine below_step (by assumption) ?_ ?_ | (with_reducible refine Below.trans ?_ (Below.mono (by assumption) ?_)) | exact Nat.le_refl _ | (simp; done) | (simp; omega) | omega))⟩

set_option maxRecDepth 100000 in
set_option maxHeartbeats 2000000 in
theorem tBound (x y : List UInt8) (hlx : x.length ≤ 9000000000000000000) (hly : y.length ≤ 9000000000000000000) (w : World) (hG : GOk w) :
    Calls Tryz.prog 92 #[.string (bs x), .string (bs y)] w fun e w' => e = .returned (.tuple #[.string (bs (boundT x y).1), .int .i64 (boundT x y).2]) ∧ Below w.heap.size w w' := by
  have HG := Lib.hid hG
  clear hG
  cases h : right x with
  | false =>
    have H : Hid (boundT x y = ([], 10)) := by show boundT x y = _; simp [boundT, h]
    have HR := Lib.hid h
    clear h
    go_enter Tryz.func92, Tryz.ntmps92
    go_wp2_with fail
    refine (tRight x hlx _ HG.out).mono ?_
    rintro e w1 ⟨rfl, hb1⟩
    rw [HR.out]
    have HG := Lib.hid (gok_below HG.out hb1)
    go_wp2_with fail
    go_ret2
    exact ⟨by rw [H.out]; rfl, by (repeat' (first | with_reducible exact Below.refl _ _ | with_reducible assumption | with_reducible refine below_alloc ?_ ?_ _ | with_reducible refine Below.setCell ?_ ?_ _ | with_reducible refine Below.drew ?_ | with_reducible refine below_drewN ?_ _ | with_reducible refine below_step (by assumption) ?_ ?_ | (with_reducible refine Below.trans ?_ (Below.mono (by assumption) ?_)) | exact Nat.le_refl _ | (simp; done) | (simp; omega) | omega))⟩
  | true =>
    obtain ⟨c, r, rfl⟩ := right_cons h
    have hr0 : (0 : Int) ≤ (r.length : Int) := by omega
    cases h3 : pubC c with
    | false =>
      have H : Hid (boundT (c :: r) y = ([], 10)) := by show boundT _ _ = _; simp [boundT, head, h3]
      have HR := Lib.hid h
      have HR3 := Lib.hid h3
      clear h h3
      go_enter Tryz.func92, Tryz.ntmps92
      go_wp2_with fail
      refine (tRight _ hlx _ HG.out).mono ?_
      rintro e w1 ⟨rfl, hb1⟩
      rw [HR.out]
      have HG := Lib.hid (gok_below HG.out hb1)
      go_wp2_with fail
      refine (tPublic c _ _).mono ?_
      rintro e w2 ⟨rfl, rfl⟩
      rw [HR3.out]
      go_wp2_with fail
      go_ret2
      exact ⟨by rw [H.out]; rfl, by (repeat' (first | with_reducible exact Below.refl _ _ | with_reducible assumption | with_reducible refine below_alloc ?_ ?_ _ | with_reducible refine Below.setCell ?_ ?_ _ | with_reducible refine Below.drew ?_ | with_reducible refine below_drewN ?_ _ | with_reducible refine below_step (by assumption) ?_ ?_ | (with_reducible refine Below.trans ?_ (Below.mono (by assumption) ?_)) | exact Nat.le_refl _ | (simp; done) | (simp; omega) | omega))⟩
    | true =>
      have H : Hid (boundT (c :: r) y = buildT [76] [c :: r, y]) := by show boundT _ _ = _; rw [build_two]; cases h2 : right y <;> simp [boundT, twoT, head, h, h2, h3]
      have HR := Lib.hid h
      have HR3 := Lib.hid h3
      clear h h3
      go_enter Tryz.func92, Tryz.ntmps92
      go_wp2_with fail
      refine (tRight _ hlx _ HG.out).mono ?_
      rintro e w1 ⟨rfl, hb1⟩
      rw [HR.out]
      have HG := Lib.hid (gok_below HG.out hb1)
      go_wp2_with fail
      refine (tPublic c _ _).mono ?_
      rintro e w2 ⟨rfl, rfl⟩
      rw [HR3.out]
      go_wp2_with fail
      refine (tBuild [76] [c :: r, y] _ _ (by simp) (by intro z hz; simp at hz; rcases hz with rfl | rfl <;> assumption) (by simp) _ (by simp) (two_cells (x := c :: r) (y := y) (T := 22)) (gok_alloc HG.out _)).mono ?_
      rintro e w9 ⟨rfl, hb9⟩
      go_wp2_with fail
      go_ret2
      exact ⟨by rw [H.out]; rfl, by (repeat' (first | with_reducible exact Below.refl _ _ | with_reducible assumption | with_reducible refine below_alloc ?_ ?_ _ | with_reducible refine Below.setCell ?_ ?_ _ | with_reducible refine Below.drew ?_ | with_reducible refine below_drewN ?_ _ | with_reducible refine below_step (by assumption) ?_ ?_ | (with_reducible refine Below.trans ?_ (Below.mono (by assumption) ?_)) | exact Nat.le_refl _ | (simp; done) | (simp; omega) | omega))⟩

set_option maxRecDepth 100000 in
set_option maxHeartbeats 2000000 in
theorem kPub1 (k : List UInt8) (fe : Int) (y : List UInt8) (g : Int) (he : Hid (nextF pubT fe k = (y, g))) (hk : k.length ≤ 9000000000000000000) (F : Nat) (w : World) (hF : w.heap[F]? = some (.cells #[.int .i64 fe] 47 (0, 0))) (hG : GOk w) :
    Calls Tryz.prog 40 #[.string (bs k), .pointer (some ⟨F, 0, none⟩)] w fun e w' => e = .returned (.string (bs y)) ∧
      w'.heap[F]? = some (.cells #[.int .i64 g] 47 (0, 0)) ∧ GL [F] w w' := by
  have f0 := blk_cell hF
  have f1 := blk_free hF
  have HF := Lib.hid hF
  have HG := Lib.hid hG
  clear hF hG
  by_cases h : fe = 0
  · have H : Hid (pubT k = (y, g)) := by show pubT k = _; have := he.out; simpa [nextF, h] using this
    have b1 : (fe != 0) = false := by simp [h]
    clear h he
    go_enter Tryz.func40, Tryz.ntmps40
    go_wp2_with (go_at_call 23; refine (tPub k hk _ HG.out).mono ?_; rintro e w1 ⟨rfl, hb1⟩; rw [H.out]; have HF1 := Lib.hid (blk_below HF.out hb1 (blk_lt HF.out)); have f2 := blk_cell HF1.out; have f3 := blk_free HF1.out)
    go_ret
    have hg : GL [F] w w1 := gl_below hb1 (gl_refl _ _)
    exact ⟨rfl, blk_set HF1.out 0 _, by (repeat' (first | with_reducible exact gl_refl _ _ | with_reducible assumption | with_reducible refine gl_alloc ?_ _ | with_reducible refine gl_drewN ?_ _ | with_reducible refine gl_drew ?_ | (with_reducible refine gl_setn ?_ ?_ _; · (first | exact Nat.le_refl _ | (simp; done) | (simp; omega) | omega)) | (with_reducible refine gl_seti ?_ ?_ _; · (simp; done)) | with_reducible refine gl_below (by with_reducible assumption) ?_ | with_reducible refine gl_step (by with_reducible assumption) ?_ (by first | (simp; done) | (simp; omega)) | with_reducible refine gl_grown (by with_reducible assumption) ?_ (by first | (simp; done) | (simp; omega))))⟩
  · have H : Hid (y = [] ∧ g = fe) := by
      show _ ∧ _
      have := he.out
      rw [nextF, if_neg h] at this
      exact ⟨(congrArg Prod.fst this).symm, (congrArg Prod.snd this).symm⟩
    have b1 : (fe != 0) = true := by simp [h]
    clear h he
    go_enter Tryz.func40, Tryz.ntmps40
    go_wp2
    go_ret
    exact ⟨by rw [H.out.1]; rfl, by rw [H.out.2]; exact HF.out, by (repeat' (first | with_reducible exact gl_refl _ _ | with_reducible assumption | with_reducible refine gl_alloc ?_ _ | with_reducible refine gl_drewN ?_ _ | with_reducible refine gl_drew ?_ | (with_reducible refine gl_setn ?_ ?_ _; · (first | exact Nat.le_refl _ | (simp; done) | (simp; omega) | omega)) | (with_reducible refine gl_seti ?_ ?_ _; · (simp; done)) | with_reducible refine gl_below (by with_reducible assumption) ?_ | with_reducible refine gl_step (by with_reducible assumption) ?_ (by first | (simp; done) | (simp; omega)) | with_reducible refine gl_grown (by with_reducible assumption) ?_ (by first | (simp; done) | (simp; omega))))⟩
end Go.Proofs.YtdmfoablpdhnbaaGreatDoor

-- KeyE
namespace Go.Proofs.YtdmfoablpdhnbaaGreatDoor
open Go.RowKit

set_option maxRecDepth 100000 in
set_option maxHeartbeats 2000000 in
theorem sOn (I K : Int) (k : Nat) (h0 : 0 ≤ I) (h1 : I ≤ 1048575) (hK : K = k) (hk : k ≤ 20) (t : List UInt8) (ht : t.length ≤ 16384) (w : World) (hG : GOk w) :
    Calls Tryz.prog 128 #[.string (bs t), .int .i64 I, .int .i64 K] w fun e w' => e = .returned (.tuple #[.string (bs (onT I.toNat k t).1), .int .i64 (onT I.toNat k t).2]) ∧ Below w.heap.size w w' := by
  have HG := Lib.hid hG
  clear hG
  subst hK
  go_enter Tryz.func128, Tryz.ntmps128
  go_wp2_with fail
  go_loopw [8, 0] (fun bv tv wr => ∃ (j : Nat) (tt : List UInt8), j ≤ k ∧ bv = .int .i64 ((j : Int) - 1) ∧ tv = .string (bs tt) ∧ tt.length ≤ 16384 ∧ Hid (onT I.toNat k t = onT I.toNat j tt) ∧ Below w.heap.size w wr) (fun bv _ _ => (intOf bv + 1).toNat)
  case atStart => exact ⟨k, t, Nat.le_refl _, rfl, rfl, ht, rfl, Below.refl _ _⟩
  case round =>
    obtain ⟨j, tt, hj, rfl, rfl, htt, hon, hbel⟩ := hrel
    have hGr := Lib.hid (gok_below HG.out hbel)
    match j, hj with
    | 0, _ =>
      go_wp2
      go_ret2
      exact ⟨by rw [hon.out]; rfl, by (repeat' (first | with_reducible exact Below.refl _ _ | with_reducible assumption | with_reducible refine below_alloc ?_ ?_ _ | with_reducible refine Below.setCell ?_ ?_ _ | with_reducible refine Below.drew ?_ | with_reducible refine below_drewN ?_ _ | with_reducible refine below_step (by assumption) ?_ ?_ | (with_reducible refine Below.trans ?_ (Below.mono (by assumption) ?_)) | exact Nat.le_refl _ | (simp; done) | (simp; omega) | omega))⟩
    | j + 1, hj =>
      rw [show ((j + 1 : Nat) : Int) - 1 = (j : Int) by omega]
      by_cases hb : I.toNat / 2 ^ j % 2 = 0
      · have q : (bits BinOp.and IntKind.i64 (I / 2 ^ j) 1 == 0) = true := by rw [bit_test I h0 j, hb]; rfl
        have HN := Lib.hid (onT_skip (t := tt) hb)
        clear hb
        go_wp2
        go_roundw
        case rel => exact ⟨j, tt, by omega, by go_num, rfl, htt, hon.out.trans HN.out, hbel⟩
        case measure => (show ((j : Int) - 1 + 1).toNat < ((j : Int) + 1).toNat); omega
      · have q : (bits BinOp.and IntKind.i64 (I / 2 ^ j) 1 == 0) = false := by rw [bit_test I h0 j]; revert hb; generalize I.toNat / 2 ^ j % 2 = m; intro hb; simpa using hb
        obtain ⟨x, g, hx⟩ : ∃ x g, twoT 68 tt (textL (Lib.decDigits j)) = (x, g) := ⟨_, _, rfl⟩
        have hxl : x.length ≤ 16384 := by have := twoT_len 68 tt (textL (Lib.decDigits j)); rw [hx] at this; exact this
        have hdl := digits2_len j (by omega)
        have hll := (textL_len (Lib.decDigits j) (by omega)).1
        have HT := Lib.hid (textT_ok (Lib.decDigits j) (by omega))
        have HX := Lib.hid hx
        have HB := Lib.hid hb
        clear hx hb
        by_cases hg : g = 0
        · subst hg
          have HN := Lib.hid (onT_go HB.out HX.out)
          go_wp2_with fail
          refine (tItoa j (by omega) (by omega) _ hGr.out).mono ?_
          rintro e w1 ⟨rfl, hb1⟩
          rw [Int.toNat_natCast]
          have HG1 := Lib.hid (gok_below hGr.out hb1)
          go_wp2_with fail
          refine (tMkText _ (by omega) _ HG1.out).mono ?_
          rintro e w2 ⟨rfl, hb2⟩
          rw [HT.out]
          have HG2 := Lib.hid (gok_below HG1.out hb2)
          go_wp2_with fail
          refine (tChild tt _ (by omega) (by omega) _ HG2.out).mono ?_
          rintro e w3 ⟨rfl, hb3⟩
          rw [HX.out]
          go_wp2
          go_roundw
          case rel => exact ⟨j, x, by omega, by go_num, rfl, hxl, hon.out.trans HN.out, by (repeat' (first | with_reducible exact Below.refl _ _ | with_reducible assumption | with_reducible refine below_alloc ?_ ?_ _ | with_reducible refine Below.setCell ?_ ?_ _ | with_reducible refine Below.drew ?_ | with_reducible refine below_drewN ?_ _ | with_reducible refine below_step (by assumption) ?_ ?_ | (with_reducible refine Below.trans ?_ (Below.mono (by assumption) ?_)) | exact Nat.le_refl _ | (simp; done) | (simp; omega) | omega))⟩
          case measure => (show ((j : Int) - 1 + 1).toNat < ((j : Int) + 1).toNat); omega
        · have HN := Lib.hid (onT_bad HB.out HX.out hg)
          have q2 : (g == 0) = false := by simp [hg]
          have q3 : (g != 0) = true := by simp [hg]
          clear hg
          go_wp2_with fail
          refine (tItoa j (by omega) (by omega) _ hGr.out).mono ?_
          rintro e w1 ⟨rfl, hb1⟩
          rw [Int.toNat_natCast]
          have HG1 := Lib.hid (gok_below hGr.out hb1)
          go_wp2_with fail
          refine (tMkText _ (by omega) _ HG1.out).mono ?_
          rintro e w2 ⟨rfl, hb2⟩
          rw [HT.out]
          have HG2 := Lib.hid (gok_below HG1.out hb2)
          go_wp2_with fail
          refine (tChild tt _ (by omega) (by omega) _ HG2.out).mono ?_
          rintro e w3 ⟨rfl, hb3⟩
          rw [HX.out]
          go_wp2
          go_ret2
          exact ⟨by rw [hon.out, HN.out]; rfl, by (repeat' (first | with_reducible exact Below.refl _ _ | with_reducible assumption | with_reducible refine below_alloc ?_ ?_ _ | with_reducible refine Below.setCell ?_ ?_ _ | with_reducible refine Below.drew ?_ | with_reducible refine below_drewN ?_ _ | with_reducible refine below_step (by assumption) ?_ ?_ | (with_reducible refine Below.trans ?_ (Below.mono (by assumption) ?_)) | exact Nat.le_refl _ | (simp; done) | (simp; omega) | omega))⟩

set_option maxRecDepth 100000 in
set_option maxHeartbeats 2000000 in
theorem sSecret (sd : List UInt8) (n : Int) (h0 : -9223372036854775808 ≤ n) (h1 : n ≤ 9223372036854775807) (hr : sd.length ≤ 9000000000000000000) (w : World) (hG : GOk w) :
    Calls Tryz.prog 88 #[.string (bs sd), .int .i64 n] w fun e w' => e = .returned (.tuple #[.string (bs (secretT sd n).1), .int .i64 (secretT sd n).2]) ∧ Below w.heap.size w w' := by
  by_cases h : n < 0
  · have H : Hid (secretT sd n = ([], 2)) := by show secretT sd n = _; simp [secretT, h]
    go_enter Tryz.func88, Tryz.ntmps88
    go_wp2
    go_ret2
    exact ⟨by rw [H.out]; rfl, by (repeat' (first | with_reducible exact Below.refl _ _ | with_reducible assumption | with_reducible refine below_alloc ?_ ?_ _ | with_reducible refine Below.setCell ?_ ?_ _ | with_reducible refine Below.drew ?_ | with_reducible refine below_drewN ?_ _ | with_reducible refine below_step (by assumption) ?_ ?_ | (with_reducible refine Below.trans ?_ (Below.mono (by assumption) ?_)) | exact Nat.le_refl _ | (simp; done) | (simp; omega) | omega))⟩
  · by_cases h2 : 1048575 < n
    · have H : Hid (secretT sd n = ([], 2)) := by show secretT sd n = _; simp [secretT, h2]
      go_enter Tryz.func88, Tryz.ntmps88
      go_wp2
      go_ret2
      exact ⟨by rw [H.out]; rfl, by (repeat' (first | with_reducible exact Below.refl _ _ | with_reducible assumption | with_reducible refine below_alloc ?_ ?_ _ | with_reducible refine Below.setCell ?_ ?_ _ | with_reducible refine Below.drew ?_ | with_reducible refine below_drewN ?_ _ | with_reducible refine below_step (by assumption) ?_ ?_ | (with_reducible refine Below.trans ?_ (Below.mono (by assumption) ?_)) | exact Nat.le_refl _ | (simp; done) | (simp; omega) | omega))⟩
    · cases h3 : right sd with
      | false =>
        have H : Hid (secretT sd n = ([], 10)) := by show secretT sd n = _; simp [secretT, h, h2, h3]
        have HR := Lib.hid h3
        clear h3
        go_enter Tryz.func88, Tryz.ntmps88
        go_wp2_with (go_at_call 61; refine (tRight sd hr _ hG).mono ?_; rintro e w1 ⟨rfl, hb1⟩; rw [HR.out])
        go_ret2
        exact ⟨by rw [H.out]; rfl, by (repeat' (first | with_reducible exact Below.refl _ _ | with_reducible assumption | with_reducible refine below_alloc ?_ ?_ _ | with_reducible refine Below.setCell ?_ ?_ _ | with_reducible refine Below.drew ?_ | with_reducible refine below_drewN ?_ _ | with_reducible refine below_step (by assumption) ?_ ?_ | (with_reducible refine Below.trans ?_ (Below.mono (by assumption) ?_)) | exact Nat.le_refl _ | (simp; done) | (simp; omega) | omega))⟩
      | true =>
        have H : Hid (secretT sd n = onT n.toNat 20 sd) := by show secretT sd n = _; simp [secretT, h, h2, h3]
        have hrl := (right_len h3).2
        have HR := Lib.hid h3
        clear h3
        go_enter Tryz.func88, Tryz.ntmps88
        go_wp2_with fail
        refine (tRight sd hr _ hG).mono ?_
        rintro e w1 ⟨rfl, hb1⟩
        rw [HR.out]
        go_wp2_with fail
        refine (sOn n 20 20 (by omega) (by omega) rfl (by omega) sd hrl _ (gok_below hG hb1)).mono ?_
        rintro e w2 ⟨rfl, hb2⟩
        go_wp2_with fail
        go_ret2
        exact ⟨by rw [H.out]; rfl, by (repeat' (first | with_reducible exact Below.refl _ _ | with_reducible assumption | with_reducible refine below_alloc ?_ ?_ _ | with_reducible refine Below.setCell ?_ ?_ _ | with_reducible refine Below.drew ?_ | with_reducible refine below_drewN ?_ _ | with_reducible refine below_step (by assumption) ?_ ?_ | (with_reducible refine Below.trans ?_ (Below.mono (by assumption) ?_)) | exact Nat.le_refl _ | (simp; done) | (simp; omega) | omega))⟩


set_option maxRecDepth 100000 in
set_option maxHeartbeats 2000000 in
theorem kReveal (a b c d e f : List UInt8) (n : Int) (h0 : -9223372036854775808 ≤ n) (h1 : n ≤ 9223372036854775807) (hr : f.length ≤ 9000000000000000000) (w : World) (hG : GOk w) :
    Calls Tryz.prog 48 #[.agg #[.string (bs a), .string (bs b), .string (bs c), .string (bs d), .string (bs e), .string (bs f)], .int .i64 n] w fun e w' => e = .returned (.tuple #[.string (bs (revealT f n).1), .int .i64 (revealT f n).2]) ∧ Below w.heap.size w w' := by
  by_cases h : n < 0
  · have H : Hid (revealT f n = ([], 2)) := by show revealT f n = _; simp [revealT, h]
    go_enter Tryz.func48, Tryz.ntmps48
    go_wp2
    go_ret2
    exact ⟨by rw [H.out]; rfl, by (repeat' (first | with_reducible exact Below.refl _ _ | with_reducible assumption | with_reducible refine below_alloc ?_ ?_ _ | with_reducible refine Below.setCell ?_ ?_ _ | with_reducible refine Below.drew ?_ | with_reducible refine below_drewN ?_ _ | with_reducible refine below_step (by assumption) ?_ ?_ | (with_reducible refine Below.trans ?_ (Below.mono (by assumption) ?_)) | exact Nat.le_refl _ | (simp; done) | (simp; omega) | omega))⟩
  · by_cases h2 : 1048575 < n
    · have H : Hid (revealT f n = ([], 2)) := by show revealT f n = _; simp [revealT, h2]
      go_enter Tryz.func48, Tryz.ntmps48
      go_wp2
      go_ret2
      exact ⟨by rw [H.out]; rfl, by (repeat' (first | with_reducible exact Below.refl _ _ | with_reducible assumption | with_reducible refine below_alloc ?_ ?_ _ | with_reducible refine Below.setCell ?_ ?_ _ | with_reducible refine Below.drew ?_ | with_reducible refine below_drewN ?_ _ | with_reducible refine below_step (by assumption) ?_ ?_ | (with_reducible refine Below.trans ?_ (Below.mono (by assumption) ?_)) | exact Nat.le_refl _ | (simp; done) | (simp; omega) | omega))⟩
    · have H : Hid (revealT f n = secretT f (1048575 - n)) := by show revealT f n = _; simp [revealT, h, h2]
      go_enter Tryz.func48, Tryz.ntmps48
      go_wp2_with (go_at_call 88; refine (sSecret f (1048575 - n) (by omega) (by omega) hr _ (gok_alloc hG _)).mono ?_; rintro e w1 ⟨rfl, hb1⟩)
      go_ret2
      exact ⟨by rw [H.out]; rfl, by (repeat' (first | with_reducible exact Below.refl _ _ | with_reducible assumption | with_reducible refine below_alloc ?_ ?_ _ | with_reducible refine Below.setCell ?_ ?_ _ | with_reducible refine Below.drew ?_ | with_reducible refine below_drewN ?_ _ | with_reducible refine below_step (by assumption) ?_ ?_ | (with_reducible refine Below.trans ?_ (Below.mono (by assumption) ?_)) | exact Nat.le_refl _ | (simp; done) | (simp; omega) | omega))⟩

set_option maxRecDepth 100000 in
set_option maxHeartbeats 2000000 in
theorem kPoint (a b c d e f : List UInt8) (n : Int) (h0 : -9223372036854775808 ≤ n) (h1 : n ≤ 9223372036854775807) (hr : f.length ≤ 9000000000000000000) (w : World) (hG : GOk w) :
    Calls Tryz.prog 50 #[.agg #[.string (bs a), .string (bs b), .string (bs c), .string (bs d), .string (bs e), .string (bs f)], .int .i64 n] w fun e w' => e = .returned (.tuple #[.string (bs (pointT f n).1), .int .i64 (pointT f n).2]) ∧ Below w.heap.size w w' := by
  have hl := revealT_len f n
  obtain ⟨x, g, hx⟩ : ∃ x g, revealT f n = (x, g) := ⟨_, _, rfl⟩
  rw [hx] at hl
  have hl' : x.length ≤ 9000000000000000000 := Nat.le_trans hl (by decide)
  have HX := Lib.hid hx
  by_cases h : g = 0
  · have H : Hid (pointT f n = pubT x) := by show pointT f n = _; unfold pointT; rw [hx]; simp [h]
    have q : (g != 0) = false := by simp [h]
    clear hx h hl
    go_enter Tryz.func50, Tryz.ntmps50
    go_wp2_with fail
    refine (kReveal a b c d e f n h0 h1 hr _ (gok_alloc hG _)).mono ?_
    rintro e w1 ⟨rfl, hb1⟩
    rw [HX.out]
    go_wp2_with fail
    refine (tPub x hl' _ (gok_below (gok_alloc hG _) hb1)).mono ?_
    rintro e w2 ⟨rfl, hb2⟩
    go_wp2_with fail
    go_ret2
    exact ⟨by rw [H.out]; rfl, by (repeat' (first | with_reducible exact Below.refl _ _ | with_reducible assumption | with_reducible refine below_alloc ?_ ?_ _ | with_reducible refine Below.setCell ?_ ?_ _ | with_reducible refine Below.drew ?_ | with_reducible refine below_drewN ?_ _ | with_reducible refine below_step (by assumption) ?_ ?_ | (with_reducible refine Below.trans ?_ (Below.mono (by assumption) ?_)) | exact Nat.le_refl _ | (simp; done) | (simp; omega) | omega))⟩
  · have H : Hid (pointT f n = ([], g)) := by show pointT f n = _; unfold pointT; rw [hx]; simp [h]
    have q : (g != 0) = true := by simp [h]
    clear hx h hl
    go_enter Tryz.func50, Tryz.ntmps50
    go_wp2_with fail
    refine (kReveal a b c d e f n h0 h1 hr _ (gok_alloc hG _)).mono ?_
    rintro e w1 ⟨rfl, hb1⟩
    rw [HX.out]
    go_wp2_with fail
    go_ret2
    exact ⟨by rw [H.out]; rfl, by (repeat' (first | with_reducible exact Below.refl _ _ | with_reducible assumption | with_reducible refine below_alloc ?_ ?_ _ | with_reducible refine Below.setCell ?_ ?_ _ | with_reducible refine Below.drew ?_ | with_reducible refine below_drewN ?_ _ | with_reducible refine below_step (by assumption) ?_ ?_ | (with_reducible refine Below.trans ?_ (Below.mono (by assumption) ?_)) | exact Nat.le_refl _ | (simp; done) | (simp; omega) | omega))⟩
end Go.Proofs.YtdmfoablpdhnbaaGreatDoor

-- KeyG
namespace Go.Proofs.YtdmfoablpdhnbaaGreatDoor
open Go.RowKit

/-- The struct of keys that a call is under way to fill. -/
def KAt (w : World) (K F : Nat) : Prop := F < K ∧ w.heap[K]? = some (.cells #[.string (bs []), .string (bs []), .string (bs []), .string (bs []), .string (bs [])] 46 (0, 0))
theorem kat_new {w : World} {F : Nat} (h : F < w.heap.size) : KAt (w.alloc (.cells #[.string (bs []), .string (bs []), .string (bs []), .string (bs []), .string (bs [])] 46)) w.heap.size F := ⟨h, blk_new _ _⟩
theorem kat_newN {w : World} {F : Nat} (n : Nat) (h : F < w.heap.size) : KAt ((w.drewN n).alloc (.cells #[.string (bs []), .string (bs []), .string (bs []), .string (bs []), .string (bs [])] 46)) w.heap.size F := ⟨h, blk_new (w.drewN n) _⟩
theorem kat_newD {w : World} {F : Nat} (h : F < w.heap.size) : KAt (w.drew.alloc (.cells #[.string (bs []), .string (bs []), .string (bs []), .string (bs []), .string (bs [])] 46)) w.heap.size F := ⟨h, blk_new w.drew _⟩
theorem kat_drewN {w : World} {K F : Nat} (h : KAt w K F) (n : Nat) : KAt (w.drewN n) K F := h
theorem kat_drew {w : World} {K F : Nat} (h : KAt w K F) : KAt w.drew K F := h
theorem kat_gl {w w' : World} {K F : Nat} (h : KAt w K F) (hg : GL [F] w w') : KAt w' K F := ⟨h.1, blk_gl h.2 hg (by simp; have := h.1; omega)⟩

theorem sec_cells {w : World} {B T : Nat} {a b c d e f : List UInt8} (h : w.heap[B]? = some (.cells #[.string (bs a), .string (bs b), .string (bs c), .string (bs d), .string (bs e), .string (bs f)] T (0, 0))) :
    w.cell? ⟨B, 0, none⟩ = some (.string (bs a)) ∧ w.cell? ⟨B, 1, none⟩ = some (.string (bs b)) ∧ w.cell? ⟨B, 2, none⟩ = some (.string (bs c)) ∧ w.cell? ⟨B, 3, none⟩ = some (.string (bs d)) ∧ w.cell? ⟨B, 4, none⟩ = some (.string (bs e)) := by
  have h2 := blk_cell h
  exact ⟨h2 0, h2 1, h2 2, h2 3, h2 4⟩

set_option maxRecDepth 100000 in
set_option maxHeartbeats 8000000 in
theorem kPublic (a b c d e f : List UInt8) (ha : a.length ≤ 9000000000000000000) (hb : b.length ≤ 9000000000000000000) (hc : c.length ≤ 9000000000000000000) (hd : d.length ≤ 9000000000000000000) (he : e.length ≤ 9000000000000000000) (w : World) (hG : GOk w) :
    Calls Tryz.prog 11 #[.agg #[.string (bs a), .string (bs b), .string (bs c), .string (bs d), .string (bs e), .string (bs f)]] w fun r w' => r = .returned (.tuple #[keysV (publicT a b c d e).1, .int .i64 (publicT a b c d e).2]) ∧ Below w.heap.size w w' := by
  obtain ⟨y0, f1, h0⟩ : ∃ y g, nextF pubT 0 a = (y, g) := ⟨_, _, rfl⟩
  obtain ⟨y1, f2, h1⟩ : ∃ y g, nextF pubT f1 b = (y, g) := ⟨_, _, rfl⟩
  obtain ⟨y2, f3, h2⟩ : ∃ y g, nextF pubT f2 c = (y, g) := ⟨_, _, rfl⟩
  obtain ⟨y3, f4, h3⟩ : ∃ y g, nextF pubT f3 d = (y, g) := ⟨_, _, rfl⟩
  obtain ⟨y4, f5, h4⟩ : ∃ y g, nextF pubT f4 e = (y, g) := ⟨_, _, rfl⟩
  have HE := Lib.hid (chainF_ends pubT [a, b, c, d, e])
  have HCT : Hid (chainF pubT 0 [a, b, c, d, e] = ([y0, y1, y2, y3, y4], f5)) := by
    show chainF pubT 0 [a, b, c, d, e] = _
    simp only [chainF, h0, h1, h2, h3, h4]
  rw [HCT.out] at HE
  have HX0 := Lib.hid h0
  have HX1 := Lib.hid h1
  have HX2 := Lib.hid h2
  have HX3 := Lib.hid h3
  have HX4 := Lib.hid h4
  clear h0 h1 h2 h3 h4
  have hmf : ∀ (fn : Fn) (first cap : Array Value) (w : World), (Instr.makeFunc fn first cap).run Tryz.prog w = .ok (.func fn first cap) w := fun _ _ _ _ => rfl
  have HG := Lib.hid hG
  have hs := hG.size
  clear hG
  go_enter Tryz.func11, Tryz.ntmps11
  go_upto_region 3 with fail
  go_cut [6] (fun kv wx => ∃ K, kv = .pointer (some ⟨K, 0, none⟩) ∧ w.heap.size + 1 + 1 < K ∧ wx.heap[K]? = some (.cells #[.string (bs y0), .string (bs y1), .string (bs y2), .string (bs y3), .string (bs y4)] 46 (0, 0)) ∧ wx.heap[w.heap.size + 1 + 1]? = some (.cells #[.int .i64 f5] 47 (0, 0)) ∧ wx.heap[w.heap.size + 1]? = some (.cells #[.string (bs []), .string (bs []), .string (bs []), .string (bs []), .string (bs [])] 46 (0, 0)) ∧ Below w.heap.size w wx)
  case first =>
    have HB0 : Hid ((((w.alloc (.cells #[.string (bs a), .string (bs b), .string (bs c), .string (bs d), .string (bs e), .string (bs f)] 44)).alloc (.cells #[.string (bs []), .string (bs []), .string (bs []), .string (bs []), .string (bs [])] 46)).alloc (.cells #[.int .i64 0] 47)).heap[w.heap.size]? = some (.cells #[.string (bs a), .string (bs b), .string (bs c), .string (bs d), .string (bs e), .string (bs f)] 44 (0, 0))) := blk_alloc (blk_alloc (blk_new _ _) _) _
    have HR0 : Hid ((((w.alloc (.cells #[.string (bs a), .string (bs b), .string (bs c), .string (bs d), .string (bs e), .string (bs f)] 44)).alloc (.cells #[.string (bs []), .string (bs []), .string (bs []), .string (bs []), .string (bs [])] 46)).alloc (.cells #[.int .i64 0] 47)).heap[w.heap.size + 1]? = some (.cells #[.string (bs []), .string (bs []), .string (bs []), .string (bs []), .string (bs [])] 46 (0, 0))) := by
      have h := blk_alloc (blk_new (w.alloc (.cells #[.string (bs a), .string (bs b), .string (bs c), .string (bs d), .string (bs e), .string (bs f)] 44)) (.cells #[.string (bs []), .string (bs []), .string (bs []), .string (bs []), .string (bs [])] 46)) (.cells #[.int .i64 0] 47)
      rw [show (w.alloc (.cells #[.string (bs a), .string (bs b), .string (bs c), .string (bs d), .string (bs e), .string (bs f)] 44)).heap.size = w.heap.size + 1 by simp] at h
      exact h
    have HF0 : Hid ((((w.alloc (.cells #[.string (bs a), .string (bs b), .string (bs c), .string (bs d), .string (bs e), .string (bs f)] 44)).alloc (.cells #[.string (bs []), .string (bs []), .string (bs []), .string (bs []), .string (bs [])] 46)).alloc (.cells #[.int .i64 0] 47)).heap[w.heap.size + 1 + 1]? = some (.cells #[.int .i64 0] 47 (0, 0))) := by
      have h := blk_new ((w.alloc (.cells #[.string (bs a), .string (bs b), .string (bs c), .string (bs d), .string (bs e), .string (bs f)] 44)).alloc (.cells #[.string (bs []), .string (bs []), .string (bs []), .string (bs []), .string (bs [])] 46)) (.cells #[.int .i64 0] 47)
      rw [show ((w.alloc (.cells #[.string (bs a), .string (bs b), .string (bs c), .string (bs d), .string (bs e), .string (bs f)] 44)).alloc (.cells #[.string (bs []), .string (bs []), .string (bs []), .string (bs []), .string (bs [])] 46)).heap.size = w.heap.size + 1 + 1 by simp] at h
      exact h
    have HG0 : Hid (GOk (((w.alloc (.cells #[.string (bs a), .string (bs b), .string (bs c), .string (bs d), .string (bs e), .string (bs f)] 44)).alloc (.cells #[.string (bs []), .string (bs []), .string (bs []), .string (bs []), .string (bs [])] 46)).alloc (.cells #[.int .i64 0] 47))) := gok_alloc (gok_alloc (gok_alloc HG.out _) _) _
    have hb0 : Below w.heap.size w (((w.alloc (.cells #[.string (bs a), .string (bs b), .string (bs c), .string (bs d), .string (bs e), .string (bs f)] 44)).alloc (.cells #[.string (bs []), .string (bs []), .string (bs []), .string (bs []), .string (bs [])] 46)).alloc (.cells #[.int .i64 0] 47)) := by (repeat' (first | with_reducible exact Below.refl _ _ | with_reducible assumption | with_reducible refine below_alloc ?_ ?_ _ | with_reducible refine Below.setCell ?_ ?_ _ | with_reducible refine Below.drew ?_ | with_reducible refine below_drewN ?_ _ | with_reducible refine below_step (by assumption) ?_ ?_ | (with_reducible refine Below.trans ?_ (Below.mono (by assumption) ?_)) | exact Nat.le_refl _ | (simp; done) | (simp; omega) | omega))
    generalize (((w.alloc (.cells #[.string (bs a), .string (bs b), .string (bs c), .string (bs d), .string (bs e), .string (bs f)] 44)).alloc (.cells #[.string (bs []), .string (bs []), .string (bs []), .string (bs []), .string (bs [])] 46)).alloc (.cells #[.int .i64 0] 47)) = wr at *
    have hg0 := Lib.hid (gl_refl [w.heap.size + 1 + 1] wr)
    have hsz := blk_lt HF0.out
    go_region_held3 (fun w' => w'.cell? ⟨w.heap.size, 0, none⟩ = some (.string (bs a)) ∧ w'.cell? ⟨w.heap.size, 1, none⟩ = some (.string (bs b)) ∧ w'.cell? ⟨w.heap.size, 2, none⟩ = some (.string (bs c)) ∧ w'.cell? ⟨w.heap.size, 3, none⟩ = some (.string (bs d)) ∧ w'.cell? ⟨w.heap.size, 4, none⟩ = some (.string (bs e))) (first | exact sec_cells (by (repeat' (first | (with_reducible refine Hid.out ?_; with_reducible assumption) | with_reducible refine blk_alloc ?_ _ | with_reducible refine blk_drewN ?_ _ | with_reducible refine blk_drew ?_ | (with_reducible refine blk_ne ?_ ?_ _; rotate_left; (first | (simp; done) | (simp; omega)))))))
      ((go_at_call 40
        refine (kPub1 _ _ _ _ (by assumption) (by assumption) _ _ (by (repeat' (first | (with_reducible refine Hid.out ?_; with_reducible assumption) | with_reducible refine blk_alloc ?_ _ | with_reducible refine blk_drewN ?_ _ | with_reducible refine blk_drew ?_ | (with_reducible refine blk_ne ?_ ?_ _; rotate_left; (first | (simp; done) | (simp; omega)))))) (by (repeat' (first | (with_reducible refine Hid.out ?_; with_reducible assumption) | with_reducible refine gok_alloc ?_ _ | with_reducible refine gok_drewN ?_ _ | with_reducible refine gok_drew ?_)))).mono ?_
        rintro r wk ⟨rfl, hFk, hgk⟩
        have HFk := Lib.hid hFk
        have HGk := Lib.hid (gok_gl (by (repeat' (first | (with_reducible refine Hid.out ?_; with_reducible assumption) | with_reducible refine gok_alloc ?_ _ | with_reducible refine gok_drewN ?_ _ | with_reducible refine gok_drew ?_))) hgk (by simp; omega))
        have HBk : Hid (wk.heap[w.heap.size]? = some (.cells #[.string (bs a), .string (bs b), .string (bs c), .string (bs d), .string (bs e), .string (bs f)] 44 (0, 0))) := blk_gl (by (repeat' (first | (with_reducible refine Hid.out ?_; with_reducible assumption) | with_reducible refine blk_alloc ?_ _ | with_reducible refine blk_drewN ?_ _ | with_reducible refine blk_drew ?_ | (with_reducible refine blk_ne ?_ ?_ _; rotate_left; (first | (simp; done) | (simp; omega)))))) hgk (by first | (simp; done) | (simp; omega))
        have HRk : Hid (wk.heap[w.heap.size + 1]? = some (.cells #[.string (bs []), .string (bs []), .string (bs []), .string (bs []), .string (bs [])] 46 (0, 0))) := blk_gl (by (repeat' (first | (with_reducible refine Hid.out ?_; with_reducible assumption) | with_reducible refine blk_alloc ?_ _ | with_reducible refine blk_drewN ?_ _ | with_reducible refine blk_drew ?_ | (with_reducible refine blk_ne ?_ ?_ _; rotate_left; (first | (simp; done) | (simp; omega)))))) hgk (by first | (simp; done) | (simp; omega))
        have HLk : Hid (GL [w.heap.size + 1 + 1] wr wk) := gl_step hgk (by (repeat' (first | (with_reducible refine Hid.out ?_; with_reducible assumption) | with_reducible refine gl_alloc ?_ _ | with_reducible refine gl_drewN ?_ _ | with_reducible refine gl_drew ?_))) (by simp)
        have hzk := blk_lt hFk
        (first | (have HKk := Lib.hid (kat_gl (by repeat' (first | (with_reducible refine Hid.out ?_; with_reducible assumption) | with_reducible apply kat_drewN | with_reducible apply kat_drew | (with_reducible apply kat_newN; omega) | (with_reducible apply kat_newD; omega) | (with_reducible apply kat_new; omega))) hgk); have hk0 := blk_cell HKk.out.2; have hk1 := blk_free HKk.out.2; have hk2 := blk_lt HKk.out.2; have hk3 := HKk.out.1) | skip)
        clear hFk hgk))
    all_goals
      have hbk : Below w.heap.size w wk := gl_new (Hid.out (by with_reducible assumption)) hb0 rfl (by omega)
      go_wp2_with fail
      go_meet
      refine ⟨_, rfl, (by first | assumption | omega | (simp; omega)), ?_, ?_, ?_, ?_⟩
      · first | with_reducible exact blk_new _ _ | with_reducible exact blk_drew (blk_new _ _) | (have h5 := blk_set (blk_set (blk_set (blk_set (blk_set (show KAt _ _ _ from Hid.out (by with_reducible assumption)).2 0 (.string (bs y0))) 1 (.string (bs y1))) 2 (.string (bs y2))) 3 (.string (bs y3))) 4 (.string (bs y4)); with_reducible exact h5) | (have h5 := blk_set (blk_set (blk_set (blk_set (blk_set (show KAt _ _ _ from Hid.out (by with_reducible assumption)).2 0 (.string (bs y0))) 1 (.string (bs y1))) 2 (.string (bs y2))) 3 (.string (bs y3))) 4 (.string (bs y4)); simp only [Array.setIfInBounds, List.size_toArray, List.length_cons, List.length_nil] at h5; exact h5)
      · (repeat' (first | (with_reducible refine Hid.out ?_; with_reducible assumption) | with_reducible refine blk_alloc ?_ _ | with_reducible refine blk_drewN ?_ _ | with_reducible refine blk_drew ?_ | (with_reducible refine blk_ne ?_ ?_ _; rotate_left; (first | (simp; done) | (simp; omega)))))
      · (repeat' (first | (with_reducible refine Hid.out ?_; with_reducible assumption) | with_reducible refine blk_alloc ?_ _ | with_reducible refine blk_drewN ?_ _ | with_reducible refine blk_drew ?_ | (with_reducible refine blk_ne ?_ ?_ _; rotate_left; (first | (simp; done) | (simp; omega)))))
      · (repeat' (first | with_reducible exact Below.refl _ _ | with_reducible assumption | with_reducible refine below_alloc ?_ ?_ _ | with_reducible refine Below.setCell ?_ ?_ _ | with_reducible refine Below.drew ?_ | with_reducible refine below_drewN ?_ _ | with_reducible refine below_step (by assumption) ?_ ?_ | (with_reducible refine Below.trans ?_ (Below.mono (by assumption) ?_)) | exact Nat.le_refl _ | (simp; done) | (simp; omega) | omega))
  case rest =>
    obtain ⟨K, rfl, hFK, hK, hF, hR, hbel⟩ := hcut
    have k0 := blk_cell hK
    have k1 := blk_free hK
    have g0 := blk_cell hF
    have g1 := blk_free hF
    have r0 := blk_cell hR
    have r1 := blk_free hR
    have hlK := blk_lt hK
    have hlR := blk_lt hR
    have n1 : w.heap.size + 1 + 1 ≠ w.heap.size + 1 := by omega
    have n2 : w.heap.size + 1 ≠ w.heap.size + 1 + 1 := by omega
    clear HCT HX0 HX1 HX2 HX3 HX4 hmf hK hF hR
    by_cases h5 : f5 = 0
    · have H : Hid (publicT a b c d e = ([y0, y1, y2, y3, y4], 0)) := HE.out.1 h5
      have q5 : (f5 != 0) = false := by simp [h5]
      clear h5 HE
      go_wp2
      refine bodyPost_ret (v := .tuple #[.agg #[.string (bs y0), .string (bs y1), .string (bs y2), .string (bs y3), .string (bs y4)], .int .i64 0]) (by simp [results, Tryz.results11, go_sem, r0, r1, hlR]) rfl ⟨by rw [H.out]; rfl, by (repeat' (first | with_reducible exact Below.refl _ _ | with_reducible assumption | with_reducible refine below_alloc ?_ ?_ _ | with_reducible refine Below.setCell ?_ ?_ _ | with_reducible refine Below.drew ?_ | with_reducible refine below_drewN ?_ _ | with_reducible refine below_step (by assumption) ?_ ?_ | (with_reducible refine Below.trans ?_ (Below.mono (by assumption) ?_)) | exact Nat.le_refl _ | (simp; done) | (simp; omega) | omega))⟩
    · have H : Hid (publicT a b c d e = ([], f5)) := HE.out.2 h5
      have q5 : (f5 != 0) = true := by simp [h5]
      clear h5 HE
      go_wp2
      go_region
      all_goals
        go_wp2
        refine bodyPost_ret (v := .tuple #[.agg #[.string (bs []), .string (bs []), .string (bs []), .string (bs []), .string (bs [])], .int .i64 f5]) (by simp [results, Tryz.results11, go_sem, r0, r1, hlR]) rfl ⟨by rw [H.out]; rfl, by (repeat' (first | with_reducible exact Below.refl _ _ | with_reducible assumption | with_reducible refine below_alloc ?_ ?_ _ | with_reducible refine Below.setCell ?_ ?_ _ | with_reducible refine Below.drew ?_ | with_reducible refine below_drewN ?_ _ | with_reducible refine below_step (by assumption) ?_ ?_ | (with_reducible refine Below.trans ?_ (Below.mono (by assumption) ?_)) | exact Nat.le_refl _ | (simp; done) | (simp; omega) | omega))⟩
end Go.Proofs.YtdmfoablpdhnbaaGreatDoor

-- KeyH
namespace Go.Proofs.YtdmfoablpdhnbaaGreatDoor
open Go.RowKit

def takeE (fe g : Int) : Int := if fe = 0 then g else fe
theorem set_chain (oL oH tR tP tH pt : List UInt8) {r1 r2 r3 r4 : List UInt8} {g1 g2 g3 g4 : Int} (h1 : jointT tR pt = (r1, g1)) (h2 : boundT oL pt = (r2, g2)) (h3 : boundT oH pt = (r3, g3)) (h4 : boundT tH pt = (r4, g4)) :
    setT oL oH tR tP tH pt = if takeE (takeE (takeE (takeE (takeE 0 g1) g2) g3) g4) (payOk tP) = 0 then ([r1, r2, r3, r4, tP], 0) else ([], takeE (takeE (takeE (takeE (takeE 0 g1) g2) g3) g4) (payOk tP)) := by
  unfold setT
  rw [h1, h2, h3, h4]
  simp only [takeE, if_true]
  by_cases q1 : g1 = 0
  · by_cases q2 : g2 = 0
    · by_cases q3 : g3 = 0
      · by_cases q4 : g4 = 0
        · by_cases q5 : payOk tP = 0 <;> simp [q1, q2, q3, q4, q5]
        · simp [q1, q2, q3, q4]
      · simp [q1, q2, q3]
    · simp [q1, q2]
  · simp [q1]

set_option maxRecDepth 100000 in
set_option maxHeartbeats 1000000 in
theorem kSet1 (t : List UInt8) (fe g e' : Int) (he : Hid (takeE fe g = e')) (F : Nat) (w : World) (hF : w.heap[F]? = some (.cells #[.int .i64 fe] 47 (0, 0))) :
    Calls Tryz.prog 90 #[.string (bs t), .int .i64 g, .pointer (some ⟨F, 0, none⟩)] w fun e w' => e = .returned (.string (bs t)) ∧ w'.heap[F]? = some (.cells #[.int .i64 e'] 47 (0, 0)) ∧ GL [F] w w' := by
  have f0 := blk_cell hF
  have f1 := blk_free hF
  have HF := Lib.hid hF
  clear hF
  by_cases h : fe = 0
  · have H : Hid (g = e') := by show g = e'; have := he.out; simpa [takeE, h] using this
    have b1 : (fe == 0) = true := by simp [h]
    clear h he
    go_enter Tryz.func90, Tryz.ntmps90
    go_wp2
    go_ret
    exact ⟨rfl, by rw [← H.out]; exact blk_set HF.out 0 _, by (repeat' (first | with_reducible exact gl_refl _ _ | with_reducible assumption | with_reducible refine gl_alloc ?_ _ | with_reducible refine gl_drewN ?_ _ | with_reducible refine gl_drew ?_ | (with_reducible refine gl_setn ?_ ?_ _; · (first | exact Nat.le_refl _ | (simp; done) | (simp; omega) | omega)) | (with_reducible refine gl_seti ?_ ?_ _; · (simp; done)) | with_reducible refine gl_below (by with_reducible assumption) ?_ | with_reducible refine gl_step (by with_reducible assumption) ?_ (by first | (simp; done) | (simp; omega)) | with_reducible refine gl_grown (by with_reducible assumption) ?_ (by first | (simp; done) | (simp; omega))))⟩
  · have H : Hid (fe = e') := by show fe = e'; have := he.out; simpa [takeE, h] using this
    have b1 : (fe == 0) = false := by simp [h]
    clear h he
    go_enter Tryz.func90, Tryz.ntmps90
    go_wp2
    go_ret
    exact ⟨rfl, by rw [← H.out]; exact HF.out, by (repeat' (first | with_reducible exact gl_refl _ _ | with_reducible assumption | with_reducible refine gl_alloc ?_ _ | with_reducible refine gl_drewN ?_ _ | with_reducible refine gl_drew ?_ | (with_reducible refine gl_setn ?_ ?_ _; · (first | exact Nat.le_refl _ | (simp; done) | (simp; omega) | omega)) | (with_reducible refine gl_seti ?_ ?_ _; · (simp; done)) | with_reducible refine gl_below (by with_reducible assumption) ?_ | with_reducible refine gl_step (by with_reducible assumption) ?_ (by first | (simp; done) | (simp; omega)) | with_reducible refine gl_grown (by with_reducible assumption) ?_ (by first | (simp; done) | (simp; omega))))⟩

set_option maxRecDepth 100000 in
set_option maxHeartbeats 8000000 in
theorem kSet (oF oR oP oL oH tF tR tP tL tH pt : List UInt8) (hoL : oL.length ≤ 9000000000000000000) (hoH : oH.length ≤ 9000000000000000000) (htR : tR.length ≤ 9000000000000000000) (htP : tP.length ≤ 9000000000000000000) (htH : tH.length ≤ 9000000000000000000) (hpt : pt.length ≤ 9000000000000000000) (w : World) (hG : GOk w) :
    Calls Tryz.prog 52 #[.agg #[.string (bs oF), .string (bs oR), .string (bs oP), .string (bs oL), .string (bs oH)], .agg #[.string (bs tF), .string (bs tR), .string (bs tP), .string (bs tL), .string (bs tH)], .string (bs pt)] w fun e w' => e = .returned (.tuple #[keysV (setT oL oH tR tP tH pt).1, .int .i64 (setT oL oH tR tP tH pt).2]) ∧ Below w.heap.size w w' := by
  obtain ⟨r1, g1, h1⟩ : ∃ x g, jointT tR pt = (x, g) := ⟨_, _, rfl⟩
  obtain ⟨r2, g2, h2⟩ : ∃ x g, boundT oL pt = (x, g) := ⟨_, _, rfl⟩
  obtain ⟨r3, g3, h3⟩ : ∃ x g, boundT oH pt = (x, g) := ⟨_, _, rfl⟩
  obtain ⟨r4, g4, h4⟩ : ∃ x g, boundT tH pt = (x, g) := ⟨_, _, rfl⟩
  have HE := Lib.hid (set_chain oL oH tR tP tH pt h1 h2 h3 h4)
  obtain ⟨e1, he1⟩ : ∃ e, takeE 0 g1 = e := ⟨_, rfl⟩
  obtain ⟨e2, he2⟩ : ∃ e, takeE e1 g2 = e := ⟨_, rfl⟩
  obtain ⟨e3, he3⟩ : ∃ e, takeE e2 g3 = e := ⟨_, rfl⟩
  obtain ⟨e4, he4⟩ : ∃ e, takeE e3 g4 = e := ⟨_, rfl⟩
  rw [he1, he2, he3, he4] at HE
  have HX1 := Lib.hid h1
  have HX2 := Lib.hid h2
  have HX3 := Lib.hid h3
  have HX4 := Lib.hid h4
  have HE1 := Lib.hid he1
  have HE2 := Lib.hid he2
  have HE3 := Lib.hid he3
  have HE4 := Lib.hid he4
  clear h1 h2 h3 h4 he1 he2 he3 he4
  have hmf : ∀ (fn : Fn) (first cap : Array Value) (w : World), (Instr.makeFunc fn first cap).run Tryz.prog w = .ok (.func fn first cap) w := fun _ _ _ _ => rfl
  have HG := Lib.hid hG
  have hs := hG.size
  clear hG
  have HA0 : Hid ((((((w.alloc (.cells #[.string (bs oF), .string (bs oR), .string (bs oP), .string (bs oL), .string (bs oH)] 46)).alloc (.cells #[.string (bs tF), .string (bs tR), .string (bs tP), .string (bs tL), .string (bs tH)] 46)).alloc (.cells #[.string (bs []), .string (bs []), .string (bs []), .string (bs []), .string (bs [])] 102)).alloc (.cells #[.int .i64 0] 47)).alloc (.cells #[.string (bs []), .string (bs []), .string (bs []), .string (bs []), .string (bs tP)] 102)).heap[w.heap.size]? = some (.cells #[.string (bs oF), .string (bs oR), .string (bs oP), .string (bs oL), .string (bs oH)] 46 (0, 0))) := by
    have h := blk_alloc (blk_alloc (blk_alloc (blk_alloc (blk_new w (.cells #[.string (bs oF), .string (bs oR), .string (bs oP), .string (bs oL), .string (bs oH)] 46)) (.cells #[.string (bs tF), .string (bs tR), .string (bs tP), .string (bs tL), .string (bs tH)] 46)) (.cells #[.string (bs []), .string (bs []), .string (bs []), .string (bs []), .string (bs [])] 102)) (.cells #[.int .i64 0] 47)) (.cells #[.string (bs []), .string (bs []), .string (bs []), .string (bs []), .string (bs tP)] 102)
    exact h
  have HB0 : Hid ((((((w.alloc (.cells #[.string (bs oF), .string (bs oR), .string (bs oP), .string (bs oL), .string (bs oH)] 46)).alloc (.cells #[.string (bs tF), .string (bs tR), .string (bs tP), .string (bs tL), .string (bs tH)] 46)).alloc (.cells #[.string (bs []), .string (bs []), .string (bs []), .string (bs []), .string (bs [])] 102)).alloc (.cells #[.int .i64 0] 47)).alloc (.cells #[.string (bs []), .string (bs []), .string (bs []), .string (bs []), .string (bs tP)] 102)).heap[w.heap.size + 1]? = some (.cells #[.string (bs tF), .string (bs tR), .string (bs tP), .string (bs tL), .string (bs tH)] 46 (0, 0))) := by
    have h := blk_alloc (blk_alloc (blk_alloc (blk_new (w.alloc (.cells #[.string (bs oF), .string (bs oR), .string (bs oP), .string (bs oL), .string (bs oH)] 46)) (.cells #[.string (bs tF), .string (bs tR), .string (bs tP), .string (bs tL), .string (bs tH)] 46)) (.cells #[.string (bs []), .string (bs []), .string (bs []), .string (bs []), .string (bs [])] 102)) (.cells #[.int .i64 0] 47)) (.cells #[.string (bs []), .string (bs []), .string (bs []), .string (bs []), .string (bs tP)] 102)
    rw [show (w.alloc (.cells #[.string (bs oF), .string (bs oR), .string (bs oP), .string (bs oL), .string (bs oH)] 46)).heap.size = w.heap.size + 1 by simp] at h
    exact h
  have HR0 : Hid ((((((w.alloc (.cells #[.string (bs oF), .string (bs oR), .string (bs oP), .string (bs oL), .string (bs oH)] 46)).alloc (.cells #[.string (bs tF), .string (bs tR), .string (bs tP), .string (bs tL), .string (bs tH)] 46)).alloc (.cells #[.string (bs []), .string (bs []), .string (bs []), .string (bs []), .string (bs [])] 102)).alloc (.cells #[.int .i64 0] 47)).alloc (.cells #[.string (bs []), .string (bs []), .string (bs []), .string (bs []), .string (bs tP)] 102)).heap[w.heap.size + 1 + 1]? = some (.cells #[.string (bs []), .string (bs []), .string (bs []), .string (bs []), .string (bs [])] 102 (0, 0))) := by
    have h := blk_alloc (blk_alloc (blk_new ((w.alloc (.cells #[.string (bs oF), .string (bs oR), .string (bs oP), .string (bs oL), .string (bs oH)] 46)).alloc (.cells #[.string (bs tF), .string (bs tR), .string (bs tP), .string (bs tL), .string (bs tH)] 46)) (.cells #[.string (bs []), .string (bs []), .string (bs []), .string (bs []), .string (bs [])] 102)) (.cells #[.int .i64 0] 47)) (.cells #[.string (bs []), .string (bs []), .string (bs []), .string (bs []), .string (bs tP)] 102)
    rw [show ((w.alloc (.cells #[.string (bs oF), .string (bs oR), .string (bs oP), .string (bs oL), .string (bs oH)] 46)).alloc (.cells #[.string (bs tF), .string (bs tR), .string (bs tP), .string (bs tL), .string (bs tH)] 46)).heap.size = w.heap.size + 1 + 1 by simp] at h
    exact h
  have HF0 : Hid ((((((w.alloc (.cells #[.string (bs oF), .string (bs oR), .string (bs oP), .string (bs oL), .string (bs oH)] 46)).alloc (.cells #[.string (bs tF), .string (bs tR), .string (bs tP), .string (bs tL), .string (bs tH)] 46)).alloc (.cells #[.string (bs []), .string (bs []), .string (bs []), .string (bs []), .string (bs [])] 102)).alloc (.cells #[.int .i64 0] 47)).alloc (.cells #[.string (bs []), .string (bs []), .string (bs []), .string (bs []), .string (bs tP)] 102)).heap[w.heap.size + 1 + 1 + 1]? = some (.cells #[.int .i64 0] 47 (0, 0))) := by
    have h := blk_alloc (blk_new (((w.alloc (.cells #[.string (bs oF), .string (bs oR), .string (bs oP), .string (bs oL), .string (bs oH)] 46)).alloc (.cells #[.string (bs tF), .string (bs tR), .string (bs tP), .string (bs tL), .string (bs tH)] 46)).alloc (.cells #[.string (bs []), .string (bs []), .string (bs []), .string (bs []), .string (bs [])] 102)) (.cells #[.int .i64 0] 47)) (.cells #[.string (bs []), .string (bs []), .string (bs []), .string (bs []), .string (bs tP)] 102)
    rw [show (((w.alloc (.cells #[.string (bs oF), .string (bs oR), .string (bs oP), .string (bs oL), .string (bs oH)] 46)).alloc (.cells #[.string (bs tF), .string (bs tR), .string (bs tP), .string (bs tL), .string (bs tH)] 46)).alloc (.cells #[.string (bs []), .string (bs []), .string (bs []), .string (bs []), .string (bs [])] 102)).heap.size = w.heap.size + 1 + 1 + 1 by simp] at h
    exact h
  have HS0 : Hid ((((((w.alloc (.cells #[.string (bs oF), .string (bs oR), .string (bs oP), .string (bs oL), .string (bs oH)] 46)).alloc (.cells #[.string (bs tF), .string (bs tR), .string (bs tP), .string (bs tL), .string (bs tH)] 46)).alloc (.cells #[.string (bs []), .string (bs []), .string (bs []), .string (bs []), .string (bs [])] 102)).alloc (.cells #[.int .i64 0] 47)).alloc (.cells #[.string (bs []), .string (bs []), .string (bs []), .string (bs []), .string (bs tP)] 102)).heap[w.heap.size + 1 + 1 + 1 + 1]? = some (.cells #[.string (bs []), .string (bs []), .string (bs []), .string (bs []), .string (bs tP)] 102 (0, 0))) := by
    have h := blk_new ((((w.alloc (.cells #[.string (bs oF), .string (bs oR), .string (bs oP), .string (bs oL), .string (bs oH)] 46)).alloc (.cells #[.string (bs tF), .string (bs tR), .string (bs tP), .string (bs tL), .string (bs tH)] 46)).alloc (.cells #[.string (bs []), .string (bs []), .string (bs []), .string (bs []), .string (bs [])] 102)).alloc (.cells #[.int .i64 0] 47)) (.cells #[.string (bs []), .string (bs []), .string (bs []), .string (bs []), .string (bs tP)] 102)
    rw [show ((((w.alloc (.cells #[.string (bs oF), .string (bs oR), .string (bs oP), .string (bs oL), .string (bs oH)] 46)).alloc (.cells #[.string (bs tF), .string (bs tR), .string (bs tP), .string (bs tL), .string (bs tH)] 46)).alloc (.cells #[.string (bs []), .string (bs []), .string (bs []), .string (bs []), .string (bs [])] 102)).alloc (.cells #[.int .i64 0] 47)).heap.size = w.heap.size + 1 + 1 + 1 + 1 by simp] at h
    exact h
  have HG0 : Hid (GOk (((((w.alloc (.cells #[.string (bs oF), .string (bs oR), .string (bs oP), .string (bs oL), .string (bs oH)] 46)).alloc (.cells #[.string (bs tF), .string (bs tR), .string (bs tP), .string (bs tL), .string (bs tH)] 46)).alloc (.cells #[.string (bs []), .string (bs []), .string (bs []), .string (bs []), .string (bs [])] 102)).alloc (.cells #[.int .i64 0] 47)).alloc (.cells #[.string (bs []), .string (bs []), .string (bs []), .string (bs []), .string (bs tP)] 102))) := gok_alloc (gok_alloc (gok_alloc (gok_alloc (gok_alloc HG.out _) _) _) _) _
  have hb0 : Below w.heap.size w (((((w.alloc (.cells #[.string (bs oF), .string (bs oR), .string (bs oP), .string (bs oL), .string (bs oH)] 46)).alloc (.cells #[.string (bs tF), .string (bs tR), .string (bs tP), .string (bs tL), .string (bs tH)] 46)).alloc (.cells #[.string (bs []), .string (bs []), .string (bs []), .string (bs []), .string (bs [])] 102)).alloc (.cells #[.int .i64 0] 47)).alloc (.cells #[.string (bs []), .string (bs []), .string (bs []), .string (bs []), .string (bs tP)] 102)) := by (repeat' (first | with_reducible exact Below.refl _ _ | with_reducible assumption | with_reducible refine below_alloc ?_ ?_ _ | with_reducible refine Below.setCell ?_ ?_ _ | with_reducible refine Below.drew ?_ | with_reducible refine below_drewN ?_ _ | with_reducible refine below_step (by assumption) ?_ ?_ | (with_reducible refine Below.trans ?_ (Below.mono (by assumption) ?_)) | exact Nat.le_refl _ | (simp; done) | (simp; omega) | omega))
  go_enter Tryz.func52, Tryz.ntmps52
  go_wp2_with fail
  generalize (((((w.alloc (.cells #[.string (bs oF), .string (bs oR), .string (bs oP), .string (bs oL), .string (bs oH)] 46)).alloc (.cells #[.string (bs tF), .string (bs tR), .string (bs tP), .string (bs tL), .string (bs tH)] 46)).alloc (.cells #[.string (bs []), .string (bs []), .string (bs []), .string (bs []), .string (bs [])] 102)).alloc (.cells #[.int .i64 0] 47)).alloc (.cells #[.string (bs []), .string (bs []), .string (bs []), .string (bs []), .string (bs tP)] 102)) = v0 at *
  refine (tJoint tR pt htR hpt _ HG0.out).mono ?_
  rintro e x1 ⟨rfl, hx1⟩
  rw [HX1.out]
  have HA0x := Lib.hid (blk_below HA0.out hx1 (blk_lt HA0.out))
  have HB0x := Lib.hid (blk_below HB0.out hx1 (blk_lt HB0.out))
  have HR0x := Lib.hid (blk_below HR0.out hx1 (blk_lt HR0.out))
  have HF0x := Lib.hid (blk_below HF0.out hx1 (blk_lt HF0.out))
  have HS0x := Lib.hid (blk_below HS0.out hx1 (blk_lt HS0.out))
  have HG0x := Lib.hid (gok_below HG0.out hx1)
  have hb0x : Below w.heap.size w x1 := hb0.trans (hx1.mono hb0.size)
  go_wp2_with fail
  refine (kSet1 r1 _ _ _ HE1 (w.heap.size + 1 + 1 + 1) _ HF0x.out).mono ?_
  rintro e y1 ⟨rfl, hF, hg⟩
  have hb0y : Below w.heap.size w y1 := gl_new hg hb0x rfl (by omega)
  have HF0y := Lib.hid hF
  have HA0y := Lib.hid (blk_gl HA0x.out hg (by first | (simp; done) | (simp; omega)))
  have HB0y := Lib.hid (blk_gl HB0x.out hg (by first | (simp; done) | (simp; omega)))
  have HR0y := Lib.hid (blk_gl HR0x.out hg (by first | (simp; done) | (simp; omega)))
  have HS0y := Lib.hid (blk_gl HS0x.out hg (by first | (simp; done) | (simp; omega)))
  have HG0y := Lib.hid (gok_gl HG0x.out hg (by simp; omega))
  clear hF hg
  have c0 := blk_cell HS0y.out
  have c1 := blk_free HS0y.out
  go_upto_region 5 with fail
  clear c0 c1
  have HS1 : Hid ((y1.setCell ⟨w.heap.size + 1 + 1 + 1 + 1, 0, none⟩ (.string (bs r1))).heap[w.heap.size + 1 + 1 + 1 + 1]? = some (.cells #[.string (bs r1), .string (bs []), .string (bs []), .string (bs []), .string (bs tP)] 102 (0, 0))) := blk_set HS0y.out 0 _
  have HA1 := Lib.hid (blk_ne HA0y.out (p := ⟨w.heap.size + 1 + 1 + 1 + 1, 0, none⟩) (by first | (simp; done) | (simp; omega)) (.string (bs r1)))
  have HB1 := Lib.hid (blk_ne HB0y.out (p := ⟨w.heap.size + 1 + 1 + 1 + 1, 0, none⟩) (by first | (simp; done) | (simp; omega)) (.string (bs r1)))
  have HR1 := Lib.hid (blk_ne HR0y.out (p := ⟨w.heap.size + 1 + 1 + 1 + 1, 0, none⟩) (by first | (simp; done) | (simp; omega)) (.string (bs r1)))
  have HF1 := Lib.hid (blk_ne HF0y.out (p := ⟨w.heap.size + 1 + 1 + 1 + 1, 0, none⟩) (by first | (simp; done) | (simp; omega)) (.string (bs r1)))
  have HG1 : Hid (GOk (y1.setCell ⟨w.heap.size + 1 + 1 + 1 + 1, 0, none⟩ (.string (bs r1)))) := gok_setn HG0y.out (by simp; omega) _
  have hb1 : Below w.heap.size w (y1.setCell ⟨w.heap.size + 1 + 1 + 1 + 1, 0, none⟩ (.string (bs r1))) := hb0y.setCell (by simp; omega) _
  generalize y1.setCell ⟨w.heap.size + 1 + 1 + 1 + 1, 0, none⟩ (.string (bs r1)) = v1 at *
  have c0 := blk_cell HA1.out
  have c1 := blk_free HA1.out
  go_wp2_with fail
  refine (tBound oL pt hoL hpt _ HG1.out).mono ?_
  rintro e x2 ⟨rfl, hx2⟩
  rw [HX2.out]
  clear c0 c1
  have HA1x := Lib.hid (blk_below HA1.out hx2 (blk_lt HA1.out))
  have HB1x := Lib.hid (blk_below HB1.out hx2 (blk_lt HB1.out))
  have HR1x := Lib.hid (blk_below HR1.out hx2 (blk_lt HR1.out))
  have HF1x := Lib.hid (blk_below HF1.out hx2 (blk_lt HF1.out))
  have HS1x := Lib.hid (blk_below HS1.out hx2 (blk_lt HS1.out))
  have HG1x := Lib.hid (gok_below HG1.out hx2)
  have hb1x : Below w.heap.size w x2 := hb1.trans (hx2.mono hb1.size)
  go_wp2_with fail
  refine (kSet1 r2 _ _ _ HE2 (w.heap.size + 1 + 1 + 1) _ HF1x.out).mono ?_
  rintro e y2 ⟨rfl, hF, hg⟩
  have hb1y : Below w.heap.size w y2 := gl_new hg hb1x rfl (by omega)
  have HF1y := Lib.hid hF
  have HA1y := Lib.hid (blk_gl HA1x.out hg (by first | (simp; done) | (simp; omega)))
  have HB1y := Lib.hid (blk_gl HB1x.out hg (by first | (simp; done) | (simp; omega)))
  have HR1y := Lib.hid (blk_gl HR1x.out hg (by first | (simp; done) | (simp; omega)))
  have HS1y := Lib.hid (blk_gl HS1x.out hg (by first | (simp; done) | (simp; omega)))
  have HG1y := Lib.hid (gok_gl HG1x.out hg (by simp; omega))
  clear hF hg
  have c0 := blk_cell HS1y.out
  have c1 := blk_free HS1y.out
  go_upto_region 6 with fail
  clear c0 c1
  have HS2 : Hid ((y2.setCell ⟨w.heap.size + 1 + 1 + 1 + 1, 1, none⟩ (.string (bs r2))).heap[w.heap.size + 1 + 1 + 1 + 1]? = some (.cells #[.string (bs r1), .string (bs r2), .string (bs []), .string (bs []), .string (bs tP)] 102 (0, 0))) := blk_set HS1y.out 1 _
  have HA2 := Lib.hid (blk_ne HA1y.out (p := ⟨w.heap.size + 1 + 1 + 1 + 1, 1, none⟩) (by first | (simp; done) | (simp; omega)) (.string (bs r2)))
  have HB2 := Lib.hid (blk_ne HB1y.out (p := ⟨w.heap.size + 1 + 1 + 1 + 1, 1, none⟩) (by first | (simp; done) | (simp; omega)) (.string (bs r2)))
  have HR2 := Lib.hid (blk_ne HR1y.out (p := ⟨w.heap.size + 1 + 1 + 1 + 1, 1, none⟩) (by first | (simp; done) | (simp; omega)) (.string (bs r2)))
  have HF2 := Lib.hid (blk_ne HF1y.out (p := ⟨w.heap.size + 1 + 1 + 1 + 1, 1, none⟩) (by first | (simp; done) | (simp; omega)) (.string (bs r2)))
  have HG2 : Hid (GOk (y2.setCell ⟨w.heap.size + 1 + 1 + 1 + 1, 1, none⟩ (.string (bs r2)))) := gok_setn HG1y.out (by simp; omega) _
  have hb2 : Below w.heap.size w (y2.setCell ⟨w.heap.size + 1 + 1 + 1 + 1, 1, none⟩ (.string (bs r2))) := hb1y.setCell (by simp; omega) _
  generalize y2.setCell ⟨w.heap.size + 1 + 1 + 1 + 1, 1, none⟩ (.string (bs r2)) = v2 at *
  have c0 := blk_cell HA2.out
  have c1 := blk_free HA2.out
  go_wp2_with fail
  refine (tBound oH pt hoH hpt _ HG2.out).mono ?_
  rintro e x3 ⟨rfl, hx3⟩
  rw [HX3.out]
  clear c0 c1
  have HA2x := Lib.hid (blk_below HA2.out hx3 (blk_lt HA2.out))
  have HB2x := Lib.hid (blk_below HB2.out hx3 (blk_lt HB2.out))
  have HR2x := Lib.hid (blk_below HR2.out hx3 (blk_lt HR2.out))
  have HF2x := Lib.hid (blk_below HF2.out hx3 (blk_lt HF2.out))
  have HS2x := Lib.hid (blk_below HS2.out hx3 (blk_lt HS2.out))
  have HG2x := Lib.hid (gok_below HG2.out hx3)
  have hb2x : Below w.heap.size w x3 := hb2.trans (hx3.mono hb2.size)
  go_wp2_with fail
  refine (kSet1 r3 _ _ _ HE3 (w.heap.size + 1 + 1 + 1) _ HF2x.out).mono ?_
  rintro e y3 ⟨rfl, hF, hg⟩
  have hb2y : Below w.heap.size w y3 := gl_new hg hb2x rfl (by omega)
  have HF2y := Lib.hid hF
  have HA2y := Lib.hid (blk_gl HA2x.out hg (by first | (simp; done) | (simp; omega)))
  have HB2y := Lib.hid (blk_gl HB2x.out hg (by first | (simp; done) | (simp; omega)))
  have HR2y := Lib.hid (blk_gl HR2x.out hg (by first | (simp; done) | (simp; omega)))
  have HS2y := Lib.hid (blk_gl HS2x.out hg (by first | (simp; done) | (simp; omega)))
  have HG2y := Lib.hid (gok_gl HG2x.out hg (by simp; omega))
  clear hF hg
  have c0 := blk_cell HS2y.out
  have c1 := blk_free HS2y.out
  go_upto_region 7 with fail
  clear c0 c1
  have HS3 : Hid ((y3.setCell ⟨w.heap.size + 1 + 1 + 1 + 1, 2, none⟩ (.string (bs r3))).heap[w.heap.size + 1 + 1 + 1 + 1]? = some (.cells #[.string (bs r1), .string (bs r2), .string (bs r3), .string (bs []), .string (bs tP)] 102 (0, 0))) := blk_set HS2y.out 2 _
  have HA3 := Lib.hid (blk_ne HA2y.out (p := ⟨w.heap.size + 1 + 1 + 1 + 1, 2, none⟩) (by first | (simp; done) | (simp; omega)) (.string (bs r3)))
  have HB3 := Lib.hid (blk_ne HB2y.out (p := ⟨w.heap.size + 1 + 1 + 1 + 1, 2, none⟩) (by first | (simp; done) | (simp; omega)) (.string (bs r3)))
  have HR3 := Lib.hid (blk_ne HR2y.out (p := ⟨w.heap.size + 1 + 1 + 1 + 1, 2, none⟩) (by first | (simp; done) | (simp; omega)) (.string (bs r3)))
  have HF3 := Lib.hid (blk_ne HF2y.out (p := ⟨w.heap.size + 1 + 1 + 1 + 1, 2, none⟩) (by first | (simp; done) | (simp; omega)) (.string (bs r3)))
  have HG3 : Hid (GOk (y3.setCell ⟨w.heap.size + 1 + 1 + 1 + 1, 2, none⟩ (.string (bs r3)))) := gok_setn HG2y.out (by simp; omega) _
  have hb3 : Below w.heap.size w (y3.setCell ⟨w.heap.size + 1 + 1 + 1 + 1, 2, none⟩ (.string (bs r3))) := hb2y.setCell (by simp; omega) _
  generalize y3.setCell ⟨w.heap.size + 1 + 1 + 1 + 1, 2, none⟩ (.string (bs r3)) = v3 at *
  have c0 := blk_cell HB3.out
  have c1 := blk_free HB3.out
  go_wp2_with fail
  refine (tBound tH pt htH hpt _ HG3.out).mono ?_
  rintro e x4 ⟨rfl, hx4⟩
  rw [HX4.out]
  clear c0 c1
  have HA3x := Lib.hid (blk_below HA3.out hx4 (blk_lt HA3.out))
  have HB3x := Lib.hid (blk_below HB3.out hx4 (blk_lt HB3.out))
  have HR3x := Lib.hid (blk_below HR3.out hx4 (blk_lt HR3.out))
  have HF3x := Lib.hid (blk_below HF3.out hx4 (blk_lt HF3.out))
  have HS3x := Lib.hid (blk_below HS3.out hx4 (blk_lt HS3.out))
  have HG3x := Lib.hid (gok_below HG3.out hx4)
  have hb3x : Below w.heap.size w x4 := hb3.trans (hx4.mono hb3.size)
  go_wp2_with fail
  refine (kSet1 r4 _ _ _ HE4 (w.heap.size + 1 + 1 + 1) _ HF3x.out).mono ?_
  rintro e y4 ⟨rfl, hF, hg⟩
  have hb3y : Below w.heap.size w y4 := gl_new hg hb3x rfl (by omega)
  have HF3y := Lib.hid hF
  have HA3y := Lib.hid (blk_gl HA3x.out hg (by first | (simp; done) | (simp; omega)))
  have HB3y := Lib.hid (blk_gl HB3x.out hg (by first | (simp; done) | (simp; omega)))
  have HR3y := Lib.hid (blk_gl HR3x.out hg (by first | (simp; done) | (simp; omega)))
  have HS3y := Lib.hid (blk_gl HS3x.out hg (by first | (simp; done) | (simp; omega)))
  have HG3y := Lib.hid (gok_gl HG3x.out hg (by simp; omega))
  clear hF hg
  have c0 := blk_cell HS3y.out
  have c1 := blk_free HS3y.out
  go_upto_region 8 with fail
  clear c0 c1
  have HS4 : Hid ((y4.setCell ⟨w.heap.size + 1 + 1 + 1 + 1, 3, none⟩ (.string (bs r4))).heap[w.heap.size + 1 + 1 + 1 + 1]? = some (.cells #[.string (bs r1), .string (bs r2), .string (bs r3), .string (bs r4), .string (bs tP)] 102 (0, 0))) := blk_set HS3y.out 3 _
  have HA4 := Lib.hid (blk_ne HA3y.out (p := ⟨w.heap.size + 1 + 1 + 1 + 1, 3, none⟩) (by first | (simp; done) | (simp; omega)) (.string (bs r4)))
  have HB4 := Lib.hid (blk_ne HB3y.out (p := ⟨w.heap.size + 1 + 1 + 1 + 1, 3, none⟩) (by first | (simp; done) | (simp; omega)) (.string (bs r4)))
  have HR4 := Lib.hid (blk_ne HR3y.out (p := ⟨w.heap.size + 1 + 1 + 1 + 1, 3, none⟩) (by first | (simp; done) | (simp; omega)) (.string (bs r4)))
  have HF4 := Lib.hid (blk_ne HF3y.out (p := ⟨w.heap.size + 1 + 1 + 1 + 1, 3, none⟩) (by first | (simp; done) | (simp; omega)) (.string (bs r4)))
  have HG4 : Hid (GOk (y4.setCell ⟨w.heap.size + 1 + 1 + 1 + 1, 3, none⟩ (.string (bs r4)))) := gok_setn HG3y.out (by simp; omega) _
  have hb4 : Below w.heap.size w (y4.setCell ⟨w.heap.size + 1 + 1 + 1 + 1, 3, none⟩ (.string (bs r4))) := hb3y.setCell (by simp; omega) _
  generalize y4.setCell ⟨w.heap.size + 1 + 1 + 1 + 1, 3, none⟩ (.string (bs r4)) = v4 at *
  have c0 := blk_cell HB4.out
  have c1 := blk_free HB4.out
  cases hr : rt tP with
  | none =>
    have PAY : Hid (payOk tP = 10) := by show payOk tP = 10; simp [payOk, right, hr]
    have HR := Lib.hid hr
    clear hr
    go_wp2_with fail
    refine (tOpen tP htP _ HG4.out).mono ?_
    rintro e x5 hp
    rw [HR.out] at hp
    obtain ⟨rfl, hx5⟩ := hp
    clear c0 c1
    have HR5 := Lib.hid (blk_alloc (blk_below HR4.out hx5 (blk_lt HR4.out)) (.cells #[.int .u8 0, .int .i64 0, .string (bs []), .slice none 0 0] 114))
    have HF5 := Lib.hid (blk_alloc (blk_below HF4.out hx5 (blk_lt HF4.out)) (.cells #[.int .u8 0, .int .i64 0, .string (bs []), .slice none 0 0] 114))
    have HS5 := Lib.hid (blk_alloc (blk_below HS4.out hx5 (blk_lt HS4.out)) (.cells #[.int .u8 0, .int .i64 0, .string (bs []), .slice none 0 0] 114))
    have HP5 := Lib.hid (blk_new x5 (.cells #[.int .u8 0, .int .i64 0, .string (bs []), .slice none 0 0] 114))
    have hb5 : Below w.heap.size w (x5.alloc (.cells #[.int .u8 0, .int .i64 0, .string (bs []), .slice none 0 0] 114)) := (hb4.trans (hx5.mono hb4.size)).alloc (hb4.trans (hx5.mono hb4.size)).size _
    have hP5 : w.heap.size + 1 + 1 + 1 + 1 < x5.heap.size := blk_lt (blk_below HS4.out hx5 (blk_lt HS4.out))
    go_upto_region 9 with fail
    obtain ⟨P, hP⟩ : ∃ P, x5.heap.size = P := ⟨_, rfl⟩
    rw [hP] at HP5 hP5 ⊢
    generalize x5.alloc (.cells #[.int .u8 0, .int .i64 0, .string (bs []), .slice none 0 0] 114) = v5 at *
    have f0 := blk_cell HF5.out
    have f1 := blk_free HF5.out
    have z0 := blk_cell HR5.out
    have z1 := blk_free HR5.out
    have s0 := blk_cell HS5.out
    have s1 := blk_free HS5.out
    have p0 := blk_cell HP5.out
    have p1 := blk_free HP5.out
    have hlR := blk_lt HR5.out
    have hlF := blk_lt HF5.out
    have hlS := blk_lt HS5.out
    clear HA0 HB0 HR0 HF0 HS0 HA1 HB1 HR1 HF1 HS1 HA2 HB2 HR2 HF2 HS2 HA3 HB3 HR3 HF3 HS3 HA4 HB4 HR4 HF4 HS4 hb0 hb1 hb2 hb3 hb4 hmf HX1 HX2 HX3 HX4 HE1 HE2 HE3 HE4
    by_cases h4 : e4 = 0
    · have H : Hid (setT oL oH tR tP tH pt = ([], 10)) := by show setT oL oH tR tP tH pt = _; rw [HE.out, PAY.out]; simp [takeE, h4]
      have q4 : (e4 == 0) = true := by simp [h4]
      clear h4 HE
      go_wp2
      go_region
      all_goals
        go_wp2
        refine bodyPost_ret (v := .tuple #[.agg #[.string (bs []), .string (bs []), .string (bs []), .string (bs []), .string (bs [])], .int .i64 10]) (by simp [results, Tryz.results52, go_sem, z0, z1, hlR]) rfl ⟨by rw [H.out]; rfl, by (repeat' (first | with_reducible exact Below.refl _ _ | with_reducible assumption | with_reducible refine below_alloc ?_ ?_ _ | with_reducible refine Below.setCell ?_ ?_ _ | with_reducible refine Below.drew ?_ | with_reducible refine below_drewN ?_ _ | with_reducible refine below_step (by assumption) ?_ ?_ | (with_reducible refine Below.trans ?_ (Below.mono (by assumption) ?_)) | exact Nat.le_refl _ | (simp; done) | (simp; omega) | omega))⟩
    · have H : Hid (setT oL oH tR tP tH pt = ([], e4)) := by show setT oL oH tR tP tH pt = _; rw [HE.out]; simp [takeE, h4]
      have q4 : (e4 == 0) = false := by simp [h4]
      have q5 : (e4 != 0) = true := by simp [h4]
      clear h4 HE
      go_wp2
      go_region
      all_goals
        go_wp2
        refine bodyPost_ret (v := .tuple #[.agg #[.string (bs []), .string (bs []), .string (bs []), .string (bs []), .string (bs [])], .int .i64 e4]) (by simp [results, Tryz.results52, go_sem, z0, z1, hlR]) rfl ⟨by rw [H.out]; rfl, by (repeat' (first | with_reducible exact Below.refl _ _ | with_reducible assumption | with_reducible refine below_alloc ?_ ?_ _ | with_reducible refine Below.setCell ?_ ?_ _ | with_reducible refine Below.drew ?_ | with_reducible refine below_drewN ?_ _ | with_reducible refine below_step (by assumption) ?_ ?_ | (with_reducible refine Below.trans ?_ (Below.mono (by assumption) ?_)) | exact Nat.le_refl _ | (simp; done) | (simp; omega) | omega))⟩
  | some s =>
    have hop := rt_op hr
    have hri : right tP = true := by simp [right, hr]
    have PAY : Hid (payOk tP = if pubC s.op = true then 0 else 10) := by show payOk tP = _; rw [hop]; simp [payOk, hri]
    have HR := Lib.hid hr
    clear hr hop hri
    go_wp2_with fail
    refine (tOpen tP htP _ HG4.out).mono ?_
    rintro e x5 hp
    rw [HR.out] at hp
    obtain ⟨ad, kn, kc, rfl, hown, hx5⟩ := hp
    clear c0 c1 hown
    have HR5 := Lib.hid (blk_alloc (blk_below HR4.out hx5 (blk_lt HR4.out)) (.cells #[.int .u8 s.op.toNat, .int .i64 (numOf s), .string (bs s.text), .slice ad kn kc] 114))
    have HF5 := Lib.hid (blk_alloc (blk_below HF4.out hx5 (blk_lt HF4.out)) (.cells #[.int .u8 s.op.toNat, .int .i64 (numOf s), .string (bs s.text), .slice ad kn kc] 114))
    have HS5 := Lib.hid (blk_alloc (blk_below HS4.out hx5 (blk_lt HS4.out)) (.cells #[.int .u8 s.op.toNat, .int .i64 (numOf s), .string (bs s.text), .slice ad kn kc] 114))
    have HP5 := Lib.hid (blk_new x5 (.cells #[.int .u8 s.op.toNat, .int .i64 (numOf s), .string (bs s.text), .slice ad kn kc] 114))
    have hb5 : Below w.heap.size w (x5.alloc (.cells #[.int .u8 s.op.toNat, .int .i64 (numOf s), .string (bs s.text), .slice ad kn kc] 114)) := (hb4.trans (hx5.mono hb4.size)).alloc (hb4.trans (hx5.mono hb4.size)).size _
    have hP5 : w.heap.size + 1 + 1 + 1 + 1 < x5.heap.size := blk_lt (blk_below HS4.out hx5 (blk_lt HS4.out))
    go_upto_region 9 with fail
    obtain ⟨P, hP⟩ : ∃ P, x5.heap.size = P := ⟨_, rfl⟩
    rw [hP] at HP5 hP5 ⊢
    generalize x5.alloc (.cells #[.int .u8 s.op.toNat, .int .i64 (numOf s), .string (bs s.text), .slice ad kn kc] 114) = v5 at *
    have f0 := blk_cell HF5.out
    have f1 := blk_free HF5.out
    have z0 := blk_cell HR5.out
    have z1 := blk_free HR5.out
    have s0 := blk_cell HS5.out
    have s1 := blk_free HS5.out
    have p0 := blk_cell HP5.out
    have p1 := blk_free HP5.out
    have hlR := blk_lt HR5.out
    have hlF := blk_lt HF5.out
    have hlS := blk_lt HS5.out
    clear HA0 HB0 HR0 HF0 HS0 HA1 HB1 HR1 HF1 HS1 HA2 HB2 HR2 HF2 HS2 HA3 HB3 HR3 HF3 HS3 HA4 HB4 HR4 HF4 HS4 hb0 hb1 hb2 hb3 hb4 hmf HX1 HX2 HX3 HX4 HE1 HE2 HE3 HE4
    by_cases h4 : e4 = 0
    · have q4 : (e4 == 0) = true := by simp [h4]
      have q5 : (e4 != 0) = false := by simp [h4]
      cases hc : pubC s.op with
      | false =>
        have H : Hid (setT oL oH tR tP tH pt = ([], 10)) := by show setT oL oH tR tP tH pt = _; rw [HE.out, PAY.out]; simp [takeE, h4, hc]
        have hn : s.op.toNat ≠ 80 ∧ s.op.toNat ≠ 87 ∧ s.op.toNat ≠ 76 := by
          simp only [pubC, Bool.or_eq_false_iff, beq_eq_false_iff_ne, ne_eq, ← UInt8.toNat_inj, UInt8.reduceToNat] at hc
          exact ⟨hc.1.1, hc.1.2, hc.2⟩
        have b1 : (((s.op.toNat : Nat) : Int) != 80) = true := by have := hn.1; simp; omega
        have b2 : (((s.op.toNat : Nat) : Int) != 87) = true := by have := hn.2.1; simp; omega
        have b3 : (((s.op.toNat : Nat) : Int) != 76) = true := by have := hn.2.2; simp; omega
        clear h4 hc hn HE
        go_wp2
        go_region
        all_goals
          go_wp2
          refine bodyPost_ret (v := .tuple #[.agg #[.string (bs []), .string (bs []), .string (bs []), .string (bs []), .string (bs [])], .int .i64 10]) (by simp [results, Tryz.results52, go_sem, z0, z1, hlR]) rfl ⟨by rw [H.out]; rfl, by (repeat' (first | with_reducible exact Below.refl _ _ | with_reducible assumption | with_reducible refine below_alloc ?_ ?_ _ | with_reducible refine Below.setCell ?_ ?_ _ | with_reducible refine Below.drew ?_ | with_reducible refine below_drewN ?_ _ | with_reducible refine below_step (by assumption) ?_ ?_ | (with_reducible refine Below.trans ?_ (Below.mono (by assumption) ?_)) | exact Nat.le_refl _ | (simp; done) | (simp; omega) | omega))⟩
      | true =>
        have H : Hid (setT oL oH tR tP tH pt = ([r1, r2, r3, r4, tP], 0)) := by show setT oL oH tR tP tH pt = _; rw [HE.out, PAY.out]; simp [takeE, h4, hc]
        have hn : s.op.toNat = 80 ∨ s.op.toNat = 87 ∨ s.op.toNat = 76 := by
          simp only [pubC, Bool.or_eq_true, beq_iff_eq, ← UInt8.toNat_inj, UInt8.reduceToNat] at hc
          omega
        clear h4 hc HE
        rcases hn with hn | hn | hn
        · have b1 : (((s.op.toNat : Nat) : Int) != 80) = false := by simp [hn]
          have b2 : (((s.op.toNat : Nat) : Int) != 87) = true := by simp [hn]
          have b3 : (((s.op.toNat : Nat) : Int) != 76) = true := by simp [hn]
          clear hn
          go_wp2
          refine bodyPost_ret (v := .tuple #[.agg #[.string (bs r1), .string (bs r2), .string (bs r3), .string (bs r4), .string (bs tP)], .int .i64 0]) (by simp [results, Tryz.results52, go_sem, z0, z1, hlR]) rfl ⟨by rw [H.out]; rfl, by (repeat' (first | with_reducible exact Below.refl _ _ | with_reducible assumption | with_reducible refine below_alloc ?_ ?_ _ | with_reducible refine Below.setCell ?_ ?_ _ | with_reducible refine Below.drew ?_ | with_reducible refine below_drewN ?_ _ | with_reducible refine below_step (by assumption) ?_ ?_ | (with_reducible refine Below.trans ?_ (Below.mono (by assumption) ?_)) | exact Nat.le_refl _ | (simp; done) | (simp; omega) | omega))⟩
        · have b1 : (((s.op.toNat : Nat) : Int) != 80) = true := by simp [hn]
          have b2 : (((s.op.toNat : Nat) : Int) != 87) = false := by simp [hn]
          have b3 : (((s.op.toNat : Nat) : Int) != 76) = true := by simp [hn]
          clear hn
          go_wp2
          refine bodyPost_ret (v := .tuple #[.agg #[.string (bs r1), .string (bs r2), .string (bs r3), .string (bs r4), .string (bs tP)], .int .i64 0]) (by simp [results, Tryz.results52, go_sem, z0, z1, hlR]) rfl ⟨by rw [H.out]; rfl, by (repeat' (first | with_reducible exact Below.refl _ _ | with_reducible assumption | with_reducible refine below_alloc ?_ ?_ _ | with_reducible refine Below.setCell ?_ ?_ _ | with_reducible refine Below.drew ?_ | with_reducible refine below_drewN ?_ _ | with_reducible refine below_step (by assumption) ?_ ?_ | (with_reducible refine Below.trans ?_ (Below.mono (by assumption) ?_)) | exact Nat.le_refl _ | (simp; done) | (simp; omega) | omega))⟩
        · have b1 : (((s.op.toNat : Nat) : Int) != 80) = true := by simp [hn]
          have b2 : (((s.op.toNat : Nat) : Int) != 87) = true := by simp [hn]
          have b3 : (((s.op.toNat : Nat) : Int) != 76) = false := by simp [hn]
          clear hn
          go_wp2
          refine bodyPost_ret (v := .tuple #[.agg #[.string (bs r1), .string (bs r2), .string (bs r3), .string (bs r4), .string (bs tP)], .int .i64 0]) (by simp [results, Tryz.results52, go_sem, z0, z1, hlR]) rfl ⟨by rw [H.out]; rfl, by (repeat' (first | with_reducible exact Below.refl _ _ | with_reducible assumption | with_reducible refine below_alloc ?_ ?_ _ | with_reducible refine Below.setCell ?_ ?_ _ | with_reducible refine Below.drew ?_ | with_reducible refine below_drewN ?_ _ | with_reducible refine below_step (by assumption) ?_ ?_ | (with_reducible refine Below.trans ?_ (Below.mono (by assumption) ?_)) | exact Nat.le_refl _ | (simp; done) | (simp; omega) | omega))⟩
    · have H : Hid (setT oL oH tR tP tH pt = ([], e4)) := by show setT oL oH tR tP tH pt = _; rw [HE.out]; simp [takeE, h4]
      have q4 : (e4 == 0) = false := by simp [h4]
      have q5 : (e4 != 0) = true := by simp [h4]
      clear h4 HE
      go_wp2
      go_region
      all_goals
        go_wp2
        refine bodyPost_ret (v := .tuple #[.agg #[.string (bs []), .string (bs []), .string (bs []), .string (bs []), .string (bs [])], .int .i64 e4]) (by simp [results, Tryz.results52, go_sem, z0, z1, hlR]) rfl ⟨by rw [H.out]; rfl, by (repeat' (first | with_reducible exact Below.refl _ _ | with_reducible assumption | with_reducible refine below_alloc ?_ ?_ _ | with_reducible refine Below.setCell ?_ ?_ _ | with_reducible refine Below.drew ?_ | with_reducible refine below_drewN ?_ _ | with_reducible refine below_step (by assumption) ?_ ?_ | (with_reducible refine Below.trans ?_ (Below.mono (by assumption) ?_)) | exact Nat.le_refl _ | (simp; done) | (simp; omega) | omega))⟩
end Go.Proofs.YtdmfoablpdhnbaaGreatDoor
