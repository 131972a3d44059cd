/- The reference's layer keys: a root's children. The reference: a secret out of a seed; a channel's public keys, a commitment's secret, its point. The reference: a channel's public keys. -/
import Derived.Test.YtdmfoablpdhnbaaGreatDoorMRef
import Derived.Test.YtdmfoablpdhnbaaGreatDoorMSpec
set_option linter.unusedSimpArgs false
set_option linter.unusedVariables false
-- RefP
namespace Go.Proofs.YtdmfoablpdhnbaaGreatDoor
open Go.RowKit

theorem ref_two_cells {w : World} {x y : List UInt8} {T : Nat} : ∀ (j : Nat) (z : List UInt8), [x, y][j]? = some z → (w.alloc (.cells #[.string (bs x), .string (bs y)] T)).cell? ⟨w.heap.size, 0 + j, none⟩ = some (.string (bs z)) := by
  intro j z h
  rw [Nat.zero_add, blk_cell (blk_new w _)]
  match j, h with
  | 0, h => simp at h; subst h; rfl
  | 1, h => simp at h; subst h; rfl
  | _ + 2, h => simp at h

set_option maxRecDepth 100000 in
set_option maxHeartbeats 2000000 in
theorem rChild (root wd : List UInt8) (n : Int) (h0 : 0 ≤ n) (h1 : n ≤ 9223372036854775807) (hr : root.length ≤ 9000000000000000000) (hw : wd.length ≤ 100) (w : World) :
    Calls Tryz.prog 85 #[.string (bs root), .string (bs wd), .int .i64 n] w fun e w' => e = .returned (.tuple #[.string (bs (childT root wd n.toNat).1), .int .i64 (childT root wd n.toNat).2]) ∧ Below w.heap.size w w' := by
  obtain ⟨l1, l2, l3, l4, l5, l6, l7⟩ := label_facts wd n.toNat hw (by omega)
  have L1 := Lib.hid l1
  have L2 := Lib.hid l2
  have L5 := Lib.hid l5
  have LN : Hid (nameT n = (110 :: (Lib.decDigits n.toNat ++ [59]), 0)) := by show nameT n = _; unfold nameT; rw [if_neg (by omega)]
  have q3 := (right_len l3).2
  have q4 := (right_len l4).2
  have qd := dec_len20 n.toNat (by omega)
  have qp := dec_pos n.toNat
  clear l1 l2 l3 l4 l5 l6
  go_enter Tryz.func85, Tryz.ntmps85
  go_wp2_with fail
  refine (refText wd (by omega) _).mono ?_
  rintro e w1 ⟨rfl, hb1⟩
  rw [L1.out]
  go_wp2_with fail
  refine (refName n (by omega) h1 _).mono ?_
  rintro e w2 ⟨rfl, hb2⟩
  rw [LN.out]
  go_wp2_with fail
  refine (refText (Lib.decDigits n.toNat) (by omega) _).mono ?_
  rintro e w3 ⟨rfl, hb3⟩
  rw [L2.out]
  have HC := Lib.hid (ref_two_cells (w := w3) (x := textL wd) (y := textL (Lib.decDigits n.toNat)) (T := 22))
  go_wp2_with fail
  refine (refTuple [textL wd, textL (Lib.decDigits n.toNat)] _ 0 _ (by simp; omega) (by simp) _ (by simp) HC.out).mono ?_
  rintro e w4 ⟨rfl, hb4⟩
  rw [L5.out]
  go_wp2_with fail
  refine (refTwo 68 root (labelT wd n.toNat) hr (by omega) _).mono ?_
  rintro e w5 ⟨rfl, hb5⟩
  go_wp2_with fail
  go_ret2
  exact ⟨rfl, by (repeat' (first | with_reducible exact Below.refl _ _ | with_reducible assumption | with_reducible refine below_alloc ?_ ?_ _ | with_reducible refine Below.setCell ?_ ?_ _ | with_reducible refine Below.drew ?_ | with_reducible refine below_drewN ?_ _ | with_reducible refine below_step (by assumption) ?_ ?_ | (with_reducible refine Below.trans ?_ (Below.mono (by assumption) ?_)) | exact Nat.le_refl _ | (simp; done) | (simp; omega) | omega))⟩

set_option maxRecDepth 100000 in
set_option maxHeartbeats 2000000 in
theorem rNode (root : List UInt8) (hr : root.length ≤ 9000000000000000000) (w : World) :
    Calls Tryz.prog 42 #[.string (bs root)] w fun e w' => e = .returned (.tuple #[.string (bs (nodeT root).1), .int .i64 (nodeT root).2]) ∧ Below w.heap.size w w' := by
  go_enter Tryz.func42, Tryz.ntmps42
  go_wp2_with (go_at_call 85; refine (rChild root _ _ (by omega) (by omega) hr (by simp) _).mono ?_; rintro e w1 ⟨rfl, hb1⟩)
  go_ret2
  exact ⟨rfl, by (repeat' (first | with_reducible exact Below.refl _ _ | with_reducible assumption | with_reducible refine below_alloc ?_ ?_ _ | with_reducible refine Below.setCell ?_ ?_ _ | with_reducible refine Below.drew ?_ | with_reducible refine below_drewN ?_ _ | with_reducible refine below_step (by assumption) ?_ ?_ | (with_reducible refine Below.trans ?_ (Below.mono (by assumption) ?_)) | exact Nat.le_refl _ | (simp; done) | (simp; omega) | omega))⟩

set_option maxRecDepth 100000 in
set_option maxHeartbeats 2000000 in
theorem rCoin (root : List UInt8) (n : Int) (h0 : -9223372036854775808 ≤ n) (h1 : n ≤ 9223372036854775807) (hr : root.length ≤ 9000000000000000000) (w : World) :
    Calls Tryz.prog 44 #[.string (bs root), .int .i64 n] w fun e w' => e = .returned (.tuple #[.string (bs (coinT root n).1), .int .i64 (coinT root n).2]) ∧ Below w.heap.size w w' := by
  by_cases h : n < 0
  · have H : Hid (coinT root n = ([], 2)) := by show coinT root n = _; simp [coinT, h]
    go_enter Tryz.func44, Tryz.ntmps44
    go_wp2
    go_ret2
    exact ⟨by rw [H.out]; rfl, by (repeat' (first | with_reducible exact Below.refl _ _ | with_reducible assumption | with_reducible refine below_alloc ?_ ?_ _ | with_reducible refine Below.setCell ?_ ?_ _ | with_reducible refine Below.drew ?_ | with_reducible refine below_drewN ?_ _ | with_reducible refine below_step (by assumption) ?_ ?_ | (with_reducible refine Below.trans ?_ (Below.mono (by assumption) ?_)) | exact Nat.le_refl _ | (simp; done) | (simp; omega) | omega))⟩
  · have H : Hid (coinT root n = childT root [99, 111, 105, 110] n.toNat) := by show coinT root n = _; simp [coinT, h]
    go_enter Tryz.func44, Tryz.ntmps44
    go_wp2_with (go_at_call 85; refine (rChild root _ _ (by omega) (by omega) hr (by simp) _).mono ?_; rintro e w1 ⟨rfl, hb1⟩)
    go_ret2
    exact ⟨by rw [H.out]; rfl, by (repeat' (first | with_reducible exact Below.refl _ _ | with_reducible assumption | with_reducible refine below_alloc ?_ ?_ _ | with_reducible refine Below.setCell ?_ ?_ _ | with_reducible refine Below.drew ?_ | with_reducible refine below_drewN ?_ _ | with_reducible refine below_step (by assumption) ?_ ?_ | (with_reducible refine Below.trans ?_ (Below.mono (by assumption) ?_)) | exact Nat.le_refl _ | (simp; done) | (simp; omega) | omega))⟩

/-! A channel's secrets. -/
/-- So many answers are there, the rest is to come. -/
def MProg {α : Type} (f : α → List UInt8 × Int) (ws : List α) (k : Nat) (ys : List (List UInt8)) : Prop :=
  manyT f ws = if (manyT f (ws.drop k)).2 = 0 then (ys ++ (manyT f (ws.drop k)).1, 0) else ([], (manyT f (ws.drop k)).2)
theorem many_pair {α : Type} (f : α → List UInt8 × Int) : ∀ ws : List α, manyT f ws = if (manyT f ws).2 = 0 then ((manyT f ws).1, 0) else ([], (manyT f ws).2)
  | [] => rfl
  | a :: r => by
    simp only [manyT]
    by_cases h : (f a).2 = 0
    · simp only [h, if_true]
      by_cases h2 : (manyT f r).2 = 0 <;> simp [h2]
    · simp [h]
theorem mprog_start {α : Type} (f : α → List UInt8 × Int) (ws : List α) : MProg f ws 0 [] := by
  unfold MProg
  rw [List.drop_zero]
  exact many_pair f ws
theorem mprog_bad {α : Type} {f : α → List UInt8 × Int} {ws : List α} {k : Nat} {ys : List (List UInt8)} (h : MProg f ws k ys) {a : α} (ha : ws[k]? = some a) (hf : (f a).2 ≠ 0) : manyT f ws = ([], (f a).2) := by
  have hk := (List.getElem?_eq_some_iff.1 ha).1
  have e : ws.drop k = a :: ws.drop (k + 1) := by rw [List.drop_eq_getElem_cons hk]; rw [List.getElem?_eq_getElem hk] at ha; simp at ha; rw [ha]
  unfold MProg at h
  rw [e] at h
  simp only [manyT, if_neg hf] at h
  exact h
theorem mprog_next {α : Type} {f : α → List UInt8 × Int} {ws : List α} {k : Nat} {ys : List (List UInt8)} (h : MProg f ws k ys) {a : α} (ha : ws[k]? = some a) (hf : (f a).2 = 0) : MProg f ws (k + 1) (ys ++ [(f a).1]) := by
  have hk := (List.getElem?_eq_some_iff.1 ha).1
  have e : ws.drop k = a :: ws.drop (k + 1) := by rw [List.drop_eq_getElem_cons hk]; rw [List.getElem?_eq_getElem hk] at ha; simp at ha; rw [ha]
  unfold MProg at h ⊢
  rw [e] at h
  simp only [manyT, hf, if_true] at h
  rw [h]
  by_cases h2 : (manyT f (ws.drop (k + 1))).2 = 0 <;> simp [h2]
theorem mprog_end {α : Type} {f : α → List UInt8 × Int} {ws : List α} {k : Nat} {ys : List (List UInt8)} (h : MProg f ws k ys) (hk : ws.length ≤ k) : manyT f ws = (ys, 0) := by
  unfold MProg at h
  rw [List.drop_of_length_le hk] at h
  simpa [manyT] using h

set_option maxRecDepth 100000 in
set_option maxHeartbeats 2000000 in
theorem rChannelNeg (root : List UInt8) (n : Int) (h0 : n < 0) (h1 : n ≤ 9223372036854775807) (hr : root.length ≤ 9000000000000000000) (w : World) :
    Calls Tryz.prog 46 #[.string (bs root), .int .i64 n] w fun e w' => e = .returned (.tuple #[secV (channelT root n).1, .int .i64 (channelT root n).2]) ∧ Below w.heap.size w w' := by
  have H : Hid (channelT root n = ([], 2)) := by show channelT root n = _; simp [channelT, h0]
  go_enter Tryz.func46, Tryz.ntmps46
  go_wp2
  exact bodyPost_ret (v := .tuple #[.agg #[.string (bs []), .string (bs []), .string (bs []), .string (bs []), .string (bs []), .string (bs [])], .int .i64 2]) (by simp [results, Tryz.results46, go_sem]) rfl ⟨by rw [H.out]; rfl, by (repeat' (first | with_reducible exact Below.refl _ _ | with_reducible assumption | with_reducible refine below_alloc ?_ ?_ _ | with_reducible refine Below.setCell ?_ ?_ _ | with_reducible refine Below.drew ?_ | with_reducible refine below_drewN ?_ _ | with_reducible refine below_step (by assumption) ?_ ?_ | (with_reducible refine Below.trans ?_ (Below.mono (by assumption) ?_)) | exact Nat.le_refl _ | (simp; done) | (simp; omega) | omega))⟩

set_option maxRecDepth 100000 in
set_option maxHeartbeats 2000000 in
theorem rChannelErr (root : List UInt8) (n : Int) (h0 : 0 ≤ n) (h1 : n ≤ 9223372036854775807) (hr : root.length ≤ 9000000000000000000) (w : World) (he : (childT root [99, 104, 97, 110, 110, 101, 108] n.toNat).2 ≠ 0) :
    Calls Tryz.prog 46 #[.string (bs root), .int .i64 n] w fun e w' => e = .returned (.tuple #[secV (channelT root n).1, .int .i64 (channelT root n).2]) ∧ Below w.heap.size w w' := by
  obtain ⟨b0, hb0⟩ : ∃ b, childT root [99, 104, 97, 110, 110, 101, 108] n.toNat = b := ⟨_, rfl⟩
  have hbl0 : b0.1.length ≤ 16384 := by rw [← hb0]; exact twoT_len _ _ _
  obtain ⟨base, f0⟩ := b0
  have hbl : base.length ≤ 9000000000000000000 := by simp only at hbl0; omega
  rw [hb0] at he
  have H : Hid (channelT root n = ([], f0)) := by show channelT root n = _; unfold channelT; rw [if_neg (by omega), hb0, if_neg he]
  have HB := Lib.hid hb0
  have q0 : (f0 != 0) = true := by simpa using he
  clear hb0 hbl0 he
  have HR := Lib.hid (blk_new w (.cells #[.string (bs []), .string (bs []), .string (bs []), .string (bs []), .string (bs []), .string (bs [])] 44))
  go_enter Tryz.func46, Tryz.ntmps46
  go_wp2_with (go_at_call 85; refine (rChild root _ _ (by omega) (by omega) hr (by simp) _).mono ?_; rintro e w1 ⟨rfl, hb1⟩; rw [HB.out]; have HR1 := Lib.hid (blk_below HR.out hb1 (blk_lt HR.out)); have r0 := blk_cell HR1.out; have r1 := blk_free HR1.out)
  exact bodyPost_ret (v := .tuple #[.agg #[.string (bs []), .string (bs []), .string (bs []), .string (bs []), .string (bs []), .string (bs [])], .int .i64 f0]) (by simp [results, Tryz.results46, go_sem, r0, r1]) rfl ⟨by rw [H.out]; rfl, by (repeat' (first | with_reducible exact Below.refl _ _ | with_reducible assumption | with_reducible refine below_alloc ?_ ?_ _ | with_reducible refine Below.setCell ?_ ?_ _ | with_reducible refine Below.drew ?_ | with_reducible refine below_drewN ?_ _ | with_reducible refine below_step (by assumption) ?_ ?_ | (with_reducible refine Below.trans ?_ (Below.mono (by assumption) ?_)) | exact Nat.le_refl _ | (simp; done) | (simp; omega) | omega))⟩

theorem words_at (k : Nat) (hk : k < 6) : wordsT[k]? = some (wordsT.getD k []) ∧ (#[.string (bs [102, 117, 110, 100]), .string (bs [114, 101, 118]), .string (bs [112, 97, 121]), .string (bs [108, 97, 116, 101, 114]), .string (bs [104, 116, 108, 99]), .string (bs [115, 101, 101, 100])] : Array Value)[k]? = some (.string (bs (wordsT.getD k []))) ∧ (wordsT.getD k []).length ≤ 100 := by
  match k, hk with
  | 0, _ => exact ⟨rfl, rfl, by decide⟩
  | 1, _ => exact ⟨rfl, rfl, by decide⟩
  | 2, _ => exact ⟨rfl, rfl, by decide⟩
  | 3, _ => exact ⟨rfl, rfl, by decide⟩
  | 4, _ => exact ⟨rfl, rfl, by decide⟩
  | 5, _ => exact ⟨rfl, rfl, by decide⟩
def RcLoop (base : List UInt8) (w : World) (Wd : Nat) (lv iv : Value) (wr : World) : Prop :=
  ∃ (k : Nat) (ys : List (List UInt8)), k ≤ 6 ∧ iv = .int .i64 k ∧ ys.length = k ∧ MProg (fun w => childT base w 0) wordsT k ys ∧ wr.ownsRow w.heap.size 22 1 lv k (ys.map fun y => .string (bs y)) ∧
    wr.heap[w.heap.size]? = some (.cells #[.string (bs []), .string (bs []), .string (bs []), .string (bs []), .string (bs []), .string (bs [])] 44 (0, 0)) ∧
    wr.heap[Wd]? = some (.cells #[.string (bs [102, 117, 110, 100]), .string (bs [114, 101, 118]), .string (bs [112, 97, 121]), .string (bs [108, 97, 116, 101, 114]), .string (bs [104, 116, 108, 99]), .string (bs [115, 101, 101, 100])] 9 (0, 0)) ∧ Below w.heap.size w wr

set_option maxRecDepth 100000 in
set_option maxHeartbeats 2000000 in
theorem rChannelOk (root : List UInt8) (n : Int) (h0 : 0 ≤ n) (h1 : n ≤ 9223372036854775807) (hr : root.length ≤ 9000000000000000000) (w : World) (he : (childT root [99, 104, 97, 110, 110, 101, 108] n.toNat).2 = 0) :
    Calls Tryz.prog 46 #[.string (bs root), .int .i64 n] w fun e w' => e = .returned (.tuple #[secV (channelT root n).1, .int .i64 (channelT root n).2]) ∧ Below w.heap.size w w' := by
  obtain ⟨b0, hb0⟩ : ∃ b, childT root [99, 104, 97, 110, 110, 101, 108] n.toNat = b := ⟨_, rfl⟩
  have hbl0 : b0.1.length ≤ 16384 := by rw [← hb0]; exact twoT_len _ _ _
  obtain ⟨base, f0⟩ := b0
  have hbl : base.length ≤ 9000000000000000000 := by simp only at hbl0; omega
  rw [hb0] at he
  simp only at he
  subst he
  have H : Hid (channelT root n = manyT (fun w => childT base w 0) wordsT) := by show channelT root n = _; unfold channelT; rw [if_neg (by omega), hb0, if_pos rfl]
  have HB := Lib.hid hb0
  clear hb0 hbl0
  have HR := Lib.hid (blk_new w (.cells #[.string (bs []), .string (bs []), .string (bs []), .string (bs []), .string (bs []), .string (bs [])] 44))
  obtain ⟨t0, ht0, ht1, ht2, ht3⟩ := info_parts Tryz.infoTerm
  go_enter Tryz.func46, Tryz.ntmps46
  go_wp2_with (go_at_call 85; refine (rChild root _ _ (by omega) (by omega) hr (by simp) _).mono ?_; rintro e w1 ⟨rfl, hb1⟩; rw [HB.out]; have HR1 := Lib.hid (blk_below HR.out hb1 (blk_lt HR.out)); have hsz := hb1.size; simp at hsz)
  go_loopw [8, 28] (fun lv iv wr => RcLoop base w w1.heap.size lv iv wr) (fun _ iv _ => 6 - (intOf iv).toNat)
  case atStart => exact ⟨0, [], by omega, rfl, rfl, mprog_start _ _, ⟨rfl, Or.inl ⟨rfl, rfl⟩⟩, blk_alloc HR1.out _, blk_new _ _, by (repeat' (first | with_reducible exact Below.refl _ _ | with_reducible assumption | with_reducible refine below_alloc ?_ ?_ _ | with_reducible refine Below.setCell ?_ ?_ _ | with_reducible refine Below.drew ?_ | with_reducible refine below_drewN ?_ _ | with_reducible refine below_step (by assumption) ?_ ?_ | (with_reducible refine Below.trans ?_ (Below.mono (by assumption) ?_)) | exact Nat.le_refl _ | (simp; done) | (simp; omega) | omega))⟩
  case round =>
    obtain ⟨k, ys, hk, rfl, hys, hprog, hown, hR, hW, hbel⟩ := hrel
    have HYS := Lib.hid hys
    have HP := Lib.hid hprog
    have HRr := Lib.hid hR
    have HWr := Lib.hid hW
    have hWl := blk_lt hW
    have hRl := blk_lt hR
    have w0 := blk_cell hW
    have w2' := blk_free hW
    clear hys hprog hR hW
    have hbs := hbel.size
    by_cases hlt : k < 6
    · obtain ⟨ha, hc, hwl⟩ := words_at k hlt
      have i1 : (k : Int) < 6 := by omega
      have c0 : ∀ u, u = w1.heap.size → wr.cell? ⟨u, k, none⟩ = some (.string (bs (wordsT.getD k []))) := fun u hu => by subst hu; rw [w0 k]; exact hc
      have c1 := c0 _ rfl
      have HA := Lib.hid ha
      clear ha hc c0 w0
      generalize wordsT.getD k [] = wd at *
      obtain ⟨y, hy⟩ : ∃ y, childT base wd 0 = y := ⟨_, rfl⟩
      obtain ⟨y, f⟩ := y
      have HY := Lib.hid hy
      clear hy
      by_cases hf : f = 0
      · subst hf
        go_wp2_with (first | (go_at_call 85; refine (rChild base wd _ (by omega) (by omega) hbl hwl _).mono ?_; rintro e w3 ⟨rfl, hb3⟩; rw [show (0 : Int).toNat = 0 from rfl, HY.out]; have hown3 := own_below hown hb3 rfl) | (at_builtin; go_must (refine wpList_append_own _ rfl _ _ 35 rfl w.heap.size 22 t0 (.string ByteArray.empty) 1 16 Tryz.underlying35 ht0 ht1 ht2 ht3 rfl (by decide) _ _ _ rfl (own_alloc hown3 _) ⟨w3.heap.size, 0, none⟩ 1 1 [.string (bs y)] rfl rfl ?c1 ?c2 ?c3 ?c4 ?c5 ?_; (case c1 => (exact cell_one_at rfl)); (case c2 => exact one1 rfl); (case c3 => (unfold maxLen; omega)); (case c4 => (omega)); (case c5 => (have := hb3.size; first | (simp; done) | (simp; omega))); (intro v' w4 hown4 hgr4 _); (obtain ⟨ad4, n4, cp4, hv4⟩ := own_slice hown4); (subst hv4))))
        go_roundw
        case rel =>
          have hneR := own_ne hown3 (blk_below HRr.out hb3 hRl) (by decide)
          have hneW := own_ne hown3 (blk_below HWr.out hb3 hWl) (by decide)
          have hy2 : childT base wd 0 = (y, 0) := HY.out
          refine ⟨k + 1, ys ++ [y], by omega, by go_num, by simp [HYS.out], ?_, ?_, blk_grown (blk_alloc (blk_below HRr.out hb3 hRl) _) hgr4 hneR, blk_grown (blk_alloc (blk_below HWr.out hb3 hWl) _) hgr4 hneW, ?_⟩
          · have h := mprog_next HP.out HA.out (by simp only [hy2])
            simp only [hy2] at h
            exact h
          · rw [List.map_append]; exact hown4
          · have hge := own_ge hown3
            have h5 : Below w.heap.size w (w3.alloc (.cells #[.string (bs y)] 22)) := by (repeat' (first | with_reducible exact Below.refl _ _ | with_reducible assumption | with_reducible refine below_alloc ?_ ?_ _ | with_reducible refine Below.setCell ?_ ?_ _ | with_reducible refine Below.drew ?_ | with_reducible refine below_drewN ?_ _ | with_reducible refine below_step (by assumption) ?_ ?_ | (with_reducible refine Below.trans ?_ (Below.mono (by assumption) ?_)) | exact Nat.le_refl _ | (simp; done) | (simp; omega) | omega))
            exact h5.grown hgr4 h5.size (fun g hg => hge g hg)
        case measure => (show 6 - ((k : Int) + 1).toNat < 6 - (k : Int).toNat); omega
      · have q1 : (f != 0) = true := by simpa using hf
        go_wp2_with (go_at_call 85; refine (rChild base wd _ (by omega) (by omega) hbl hwl _).mono ?_; rintro e w3 ⟨rfl, hb3⟩; rw [show (0 : Int).toNat = 0 from rfl, HY.out]; have HR3 := Lib.hid (blk_below HRr.out hb3 hRl); have r0 := blk_cell HR3.out; have r1 := blk_free HR3.out)
        have hbad := mprog_bad HP.out HA.out (by simp only [HY.out]; exact hf)
        simp only [HY.out] at hbad
        refine bodyPost_ret (v := .tuple #[.agg #[.string (bs []), .string (bs []), .string (bs []), .string (bs []), .string (bs []), .string (bs [])], .int .i64 f]) (by simp [results, Tryz.results46, go_sem, r0, r1]) rfl ⟨by rw [H.out, hbad]; rfl, by (repeat' (first | with_reducible exact Below.refl _ _ | with_reducible assumption | with_reducible refine below_alloc ?_ ?_ _ | with_reducible refine Below.setCell ?_ ?_ _ | with_reducible refine Below.drew ?_ | with_reducible refine below_drewN ?_ _ | with_reducible refine below_step (by assumption) ?_ ?_ | (with_reducible refine Below.trans ?_ (Below.mono (by assumption) ?_)) | exact Nat.le_refl _ | (simp; done) | (simp; omega) | omega))⟩
    · obtain rfl : k = 6 := by omega
      have hm := mprog_end HP.out (by decide)
      have HM := Lib.hid hm
      have hyl := HYS.out
      obtain ⟨g, cap, hv, hgb, hgw, hcap, hcap2, hcell⟩ := own_cells hown (by omega)
      subst hv
      match ys, hyl with
      | [y0, y1, y2, y3, y4, y5], _ =>
        have e0 := hcell 0 (.string (bs y0)) rfl
        have e1 := hcell 1 (.string (bs y1)) rfl
        have e2 := hcell 2 (.string (bs y2)) rfl
        have e3 := hcell 3 (.string (bs y3)) rfl
        have e4 := hcell 4 (.string (bs y4)) rfl
        have e5 := hcell 5 (.string (bs y5)) rfl
        have r0 := blk_cell HRr.out
        have r1 := blk_free HRr.out
        have hne : g ≠ w.heap.size := by
          have h := own_ne hown HRr.out (by decide)
          intro e; subst e; exact h rfl
        have HKK : Hid (∀ (j : Nat) (u : Value), wr.cell? ⟨g, j, none⟩ = some u → ((((((wr.setCell ⟨w.heap.size, 0, none⟩ (.string (bs y0))).setCell ⟨w.heap.size, 1, none⟩ (.string (bs y1))).setCell ⟨w.heap.size, 2, none⟩ (.string (bs y2))).setCell ⟨w.heap.size, 3, none⟩ (.string (bs y3))).setCell ⟨w.heap.size, 4, none⟩ (.string (bs y4))).setCell ⟨w.heap.size, 5, none⟩ (.string (bs y5))).drew.cell? ⟨g, j, none⟩ = some u) :=
          fun j u h => cell_drew_some (cell_set_ne (cell_set_ne (cell_set_ne (cell_set_ne (cell_set_ne (cell_set_ne h hne) hne) hne) hne) hne) hne)
        have E0 := Lib.hid e0
        have E1 := Lib.hid e1
        have E2 := Lib.hid e2
        have E3 := Lib.hid e3
        have E4 := Lib.hid e4
        have E5 := Lib.hid e5
        clear hcell hm w0 w2'
        go_wp2
        go_region_held3 (fun w' => w'.cell? ⟨g, 0, none⟩ = some (.string (bs y0)) ∧ w'.cell? ⟨g, 1, none⟩ = some (.string (bs y1)) ∧ w'.cell? ⟨g, 2, none⟩ = some (.string (bs y2)) ∧ w'.cell? ⟨g, 3, none⟩ = some (.string (bs y3)) ∧ w'.cell? ⟨g, 4, none⟩ = some (.string (bs y4)) ∧ w'.cell? ⟨g, 5, none⟩ = some (.string (bs y5)))
          (first | with_reducible exact ⟨cell_drew_some E0.out, cell_drew_some E1.out, cell_drew_some E2.out, cell_drew_some E3.out, cell_drew_some E4.out, cell_drew_some E5.out⟩ | with_reducible exact ⟨HKK.out _ _ E0.out, HKK.out _ _ E1.out, HKK.out _ _ E2.out, HKK.out _ _ E3.out, HKK.out _ _ E4.out, HKK.out _ _ E5.out⟩) (fail)
        all_goals
          go_wp2
          refine bodyPost_ret (v := .tuple #[.agg #[.string (bs y0), .string (bs y1), .string (bs y2), .string (bs y3), .string (bs y4), .string (bs y5)], .int .i64 0]) (by simp [results, Tryz.results46, go_sem, r0, r1]) rfl ⟨by rw [H.out, HM.out]; rfl, by (repeat' (first | with_reducible exact Below.refl _ _ | with_reducible assumption | with_reducible refine below_alloc ?_ ?_ _ | with_reducible refine Below.setCell ?_ ?_ _ | with_reducible refine Below.drew ?_ | with_reducible refine below_drewN ?_ _ | with_reducible refine below_step (by assumption) ?_ ?_ | (with_reducible refine Below.trans ?_ (Below.mono (by assumption) ?_)) | exact Nat.le_refl _ | (simp; done) | (simp; omega) | omega))⟩
      | [], h => simp at h
      | [_], h => simp at h
      | [_, _], h => simp at h
      | [_, _, _], h => simp at h
      | [_, _, _, _], h => simp at h
      | [_, _, _, _, _], h => simp at h
      | _ :: _ :: _ :: _ :: _ :: _ :: _ :: _, h => simp at h

theorem rChannel (root : List UInt8) (n : Int) (h0 : -9223372036854775808 ≤ n) (h1 : n ≤ 9223372036854775807) (hr : root.length ≤ 9000000000000000000) (w : World) :
    Calls Tryz.prog 46 #[.string (bs root), .int .i64 n] w fun e w' => e = .returned (.tuple #[secV (channelT root n).1, .int .i64 (channelT root n).2]) ∧ Below w.heap.size w w' := by
  by_cases h : n < 0
  · exact rChannelNeg root n h h1 hr w
  · by_cases he : (childT root [99, 104, 97, 110, 110, 101, 108] n.toNat).2 = 0
    · exact rChannelOk root n (by omega) h1 hr w he
    · exact rChannelErr root n (by omega) h1 hr w he
end Go.Proofs.YtdmfoablpdhnbaaGreatDoor

-- RefQ
namespace Go.Proofs.YtdmfoablpdhnbaaGreatDoor
open Go.RowKit

set_option maxRecDepth 100000 in
set_option maxHeartbeats 2000000 in
theorem r15On (I K : Int) (k : Nat) (h0 : 0 ≤ I) (h1 : I ≤ 1048575) (hK : K = k) (hk : k ≤ 20) (t : List UInt8) (ht : t.length ≤ 16384) (w : World) :
    Calls Tryz.prog 129 #[.string (bs t), .int .i64 I, .int .i64 K] w fun e w' => e = .returned (.tuple #[.string (bs (onT I.toNat k t).1), .int .i64 (onT I.toNat k t).2]) ∧ Below w.heap.size w w' := by
  subst hK
  go_enter Tryz.func129, Tryz.ntmps129
  go_wp2_with fail
  go_loopw [8, 0] (fun bv tv wr => ∃ (j : Nat) (tt : List UInt8), j ≤ k ∧ bv = .int .i64 ((j : Int) - 1) ∧ tv = .string (bs tt) ∧ tt.length ≤ 16384 ∧ Hid (onT I.toNat k t = onT I.toNat j tt) ∧ Below w.heap.size w wr) (fun bv _ _ => (intOf bv + 1).toNat)
  case atStart => exact ⟨k, t, Nat.le_refl _, rfl, rfl, ht, rfl, Below.refl _ _⟩
  case round =>
    obtain ⟨j, tt, hj, rfl, rfl, htt, hon, hbel⟩ := hrel
    match j, hj with
    | 0, _ =>
      go_wp2
      go_ret2
      exact ⟨by rw [hon.out]; rfl, by (repeat' (first | with_reducible exact Below.refl _ _ | with_reducible assumption | with_reducible refine below_alloc ?_ ?_ _ | with_reducible refine Below.setCell ?_ ?_ _ | with_reducible refine Below.drew ?_ | with_reducible refine below_drewN ?_ _ | with_reducible refine below_step (by assumption) ?_ ?_ | (with_reducible refine Below.trans ?_ (Below.mono (by assumption) ?_)) | exact Nat.le_refl _ | (simp; done) | (simp; omega) | omega))⟩
    | j + 1, hj =>
      rw [show ((j + 1 : Nat) : Int) - 1 = (j : Int) by omega]
      by_cases hb : I.toNat / 2 ^ j % 2 = 0
      · have q : (bits BinOp.and IntKind.i64 (I / 2 ^ j) 1 == 0) = true := by rw [bit_test I h0 j, hb]; rfl
        have HN := Lib.hid (onT_skip (t := tt) hb)
        clear hb
        go_wp2
        go_roundw
        case rel => exact ⟨j, tt, by omega, by go_num, rfl, htt, hon.out.trans HN.out, hbel⟩
        case measure => (show ((j : Int) - 1 + 1).toNat < ((j : Int) + 1).toNat); omega
      · have q : (bits BinOp.and IntKind.i64 (I / 2 ^ j) 1 == 0) = false := by rw [bit_test I h0 j]; revert hb; generalize I.toNat / 2 ^ j % 2 = m; intro hb; simpa using hb
        obtain ⟨x, g, hx⟩ : ∃ x g, twoT 68 tt (textL (Lib.decDigits j)) = (x, g) := ⟨_, _, rfl⟩
        have hxl : x.length ≤ 16384 := by have := twoT_len 68 tt (textL (Lib.decDigits j)); rw [hx] at this; exact this
        have hdl := digits2_len j (by omega)
        have hll := (textL_len (Lib.decDigits j) (by omega)).1
        have HT := Lib.hid (textT_ok (Lib.decDigits j) (by omega))
        have HX := Lib.hid hx
        have HB := Lib.hid hb
        clear hx hb
        have kc := fun (w : World) => run_conv1 (P := Tryz.prog) w 76 9 5 (48 + (j : Int) % 10) Tryz.underlying76 Tryz.underlying5 Tryz.underlying9 (by omega) (by omega)
        have hdd := digits2 j (by omega)
        by_cases h9 : 9 < j
        · rw [if_pos h9, show UInt8.ofNat (48 + j % 10) = 48 + UInt8.ofNat (j % 10) by simp] at hdd
          have HD := Lib.hid hdd
          clear hdd
          by_cases hg : g = 0
          · subst hg
            have HN := Lib.hid (onT_go HB.out HX.out)
            go_wp2_with fail
            refine (refText [49, 48 + UInt8.ofNat (j % 10)] (by simp) _).mono ?_
            rintro e w2 ⟨rfl, hb2⟩
            rw [← HD.out, HT.out]
            go_wp2_with fail
            refine (refTwo 68 tt (textL (Lib.decDigits j)) (by omega) (by omega) _).mono ?_
            rintro e w3 ⟨rfl, hb3⟩
            rw [HX.out]
            go_wp2
            go_roundw
            case rel => exact ⟨j, x, by omega, by go_num, rfl, hxl, hon.out.trans HN.out, by (repeat' (first | with_reducible exact Below.refl _ _ | with_reducible assumption | with_reducible refine below_alloc ?_ ?_ _ | with_reducible refine Below.setCell ?_ ?_ _ | with_reducible refine Below.drew ?_ | with_reducible refine below_drewN ?_ _ | with_reducible refine below_step (by assumption) ?_ ?_ | (with_reducible refine Below.trans ?_ (Below.mono (by assumption) ?_)) | exact Nat.le_refl _ | (simp; done) | (simp; omega) | omega))⟩
            case measure => (show ((j : Int) - 1 + 1).toNat < ((j : Int) + 1).toNat); omega
          · have HN := Lib.hid (onT_bad HB.out HX.out hg)
            have q2 : (g == 0) = false := by simp [hg]
            have q3 : (g != 0) = true := by simp [hg]
            clear hg
            go_wp2_with fail
            refine (refText [49, 48 + UInt8.ofNat (j % 10)] (by simp) _).mono ?_
            rintro e w2 ⟨rfl, hb2⟩
            rw [← HD.out, HT.out]
            go_wp2_with fail
            refine (refTwo 68 tt (textL (Lib.decDigits j)) (by omega) (by omega) _).mono ?_
            rintro e w3 ⟨rfl, hb3⟩
            rw [HX.out]
            go_wp2
            go_ret2
            exact ⟨by rw [hon.out, HN.out]; rfl, by (repeat' (first | with_reducible exact Below.refl _ _ | with_reducible assumption | with_reducible refine below_alloc ?_ ?_ _ | with_reducible refine Below.setCell ?_ ?_ _ | with_reducible refine Below.drew ?_ | with_reducible refine below_drewN ?_ _ | with_reducible refine below_step (by assumption) ?_ ?_ | (with_reducible refine Below.trans ?_ (Below.mono (by assumption) ?_)) | exact Nat.le_refl _ | (simp; done) | (simp; omega) | omega))⟩
        · rw [if_neg h9, show UInt8.ofNat (48 + j % 10) = 48 + UInt8.ofNat (j % 10) by simp] at hdd
          have HD := Lib.hid hdd
          clear hdd
          by_cases hg : g = 0
          · subst hg
            have HN := Lib.hid (onT_go HB.out HX.out)
            go_wp2_with fail
            refine (refText [48 + UInt8.ofNat (j % 10)] (by simp) _).mono ?_
            rintro e w2 ⟨rfl, hb2⟩
            rw [← HD.out, HT.out]
            go_wp2_with fail
            refine (refTwo 68 tt (textL (Lib.decDigits j)) (by omega) (by omega) _).mono ?_
            rintro e w3 ⟨rfl, hb3⟩
            rw [HX.out]
            go_wp2
            go_roundw
            case rel => exact ⟨j, x, by omega, by go_num, rfl, hxl, hon.out.trans HN.out, by (repeat' (first | with_reducible exact Below.refl _ _ | with_reducible assumption | with_reducible refine below_alloc ?_ ?_ _ | with_reducible refine Below.setCell ?_ ?_ _ | with_reducible refine Below.drew ?_ | with_reducible refine below_drewN ?_ _ | with_reducible refine below_step (by assumption) ?_ ?_ | (with_reducible refine Below.trans ?_ (Below.mono (by assumption) ?_)) | exact Nat.le_refl _ | (simp; done) | (simp; omega) | omega))⟩
            case measure => (show ((j : Int) - 1 + 1).toNat < ((j : Int) + 1).toNat); omega
          · have HN := Lib.hid (onT_bad HB.out HX.out hg)
            have q2 : (g == 0) = false := by simp [hg]
            have q3 : (g != 0) = true := by simp [hg]
            clear hg
            go_wp2_with fail
            refine (refText [48 + UInt8.ofNat (j % 10)] (by simp) _).mono ?_
            rintro e w2 ⟨rfl, hb2⟩
            rw [← HD.out, HT.out]
            go_wp2_with fail
            refine (refTwo 68 tt (textL (Lib.decDigits j)) (by omega) (by omega) _).mono ?_
            rintro e w3 ⟨rfl, hb3⟩
            rw [HX.out]
            go_wp2
            go_ret2
            exact ⟨by rw [hon.out, HN.out]; rfl, by (repeat' (first | with_reducible exact Below.refl _ _ | with_reducible assumption | with_reducible refine below_alloc ?_ ?_ _ | with_reducible refine Below.setCell ?_ ?_ _ | with_reducible refine Below.drew ?_ | with_reducible refine below_drewN ?_ _ | with_reducible refine below_step (by assumption) ?_ ?_ | (with_reducible refine Below.trans ?_ (Below.mono (by assumption) ?_)) | exact Nat.le_refl _ | (simp; done) | (simp; omega) | omega))⟩

set_option maxRecDepth 100000 in
set_option maxHeartbeats 2000000 in
theorem r15Secret (sd : List UInt8) (n : Int) (h0 : -9223372036854775808 ≤ n) (h1 : n ≤ 9223372036854775807) (hr : sd.length ≤ 9000000000000000000) (w : World) :
    Calls Tryz.prog 89 #[.string (bs sd), .int .i64 n] w fun e w' => e = .returned (.tuple #[.string (bs (secretT sd n).1), .int .i64 (secretT sd n).2]) ∧ Below w.heap.size w w' := by
  by_cases h : n < 0
  · have H : Hid (secretT sd n = ([], 2)) := by show secretT sd n = _; simp [secretT, h]
    go_enter Tryz.func89, Tryz.ntmps89
    go_wp2
    go_ret2
    exact ⟨by rw [H.out]; rfl, by (repeat' (first | with_reducible exact Below.refl _ _ | with_reducible assumption | with_reducible refine below_alloc ?_ ?_ _ | with_reducible refine Below.setCell ?_ ?_ _ | with_reducible refine Below.drew ?_ | with_reducible refine below_drewN ?_ _ | with_reducible refine below_step (by assumption) ?_ ?_ | (with_reducible refine Below.trans ?_ (Below.mono (by assumption) ?_)) | exact Nat.le_refl _ | (simp; done) | (simp; omega) | omega))⟩
  · by_cases h2 : 1048575 < n
    · have H : Hid (secretT sd n = ([], 2)) := by show secretT sd n = _; simp [secretT, h2]
      go_enter Tryz.func89, Tryz.ntmps89
      go_wp2
      go_ret2
      exact ⟨by rw [H.out]; rfl, by (repeat' (first | with_reducible exact Below.refl _ _ | with_reducible assumption | with_reducible refine below_alloc ?_ ?_ _ | with_reducible refine Below.setCell ?_ ?_ _ | with_reducible refine Below.drew ?_ | with_reducible refine below_drewN ?_ _ | with_reducible refine below_step (by assumption) ?_ ?_ | (with_reducible refine Below.trans ?_ (Below.mono (by assumption) ?_)) | exact Nat.le_refl _ | (simp; done) | (simp; omega) | omega))⟩
    · cases h3 : right sd with
      | false =>
        have H : Hid (secretT sd n = ([], 10)) := by show secretT sd n = _; simp [secretT, h, h2, h3]
        have HR := Lib.hid h3
        clear h3
        go_enter Tryz.func89, Tryz.ntmps89
        go_wp2_with (go_at_call 95; refine (refRight sd hr _).mono ?_; rintro e w1 ⟨rfl, hb1⟩; rw [HR.out])
        go_ret2
        exact ⟨by rw [H.out]; rfl, by (repeat' (first | with_reducible exact Below.refl _ _ | with_reducible assumption | with_reducible refine below_alloc ?_ ?_ _ | with_reducible refine Below.setCell ?_ ?_ _ | with_reducible refine Below.drew ?_ | with_reducible refine below_drewN ?_ _ | with_reducible refine below_step (by assumption) ?_ ?_ | (with_reducible refine Below.trans ?_ (Below.mono (by assumption) ?_)) | exact Nat.le_refl _ | (simp; done) | (simp; omega) | omega))⟩
      | true =>
        have H : Hid (secretT sd n = onT n.toNat 20 sd) := by show secretT sd n = _; simp [secretT, h, h2, h3]
        have hrl := (right_len h3).2
        have HR := Lib.hid h3
        clear h3
        go_enter Tryz.func89, Tryz.ntmps89
        go_wp2_with fail
        refine (refRight sd hr _).mono ?_
        rintro e w1 ⟨rfl, hb1⟩
        rw [HR.out]
        go_wp2_with fail
        refine (r15On n 20 20 (by omega) (by omega) rfl (by omega) sd hrl _).mono ?_
        rintro e w2 ⟨rfl, hb2⟩
        go_wp2_with fail
        go_ret2
        exact ⟨by rw [H.out]; rfl, by (repeat' (first | with_reducible exact Below.refl _ _ | with_reducible assumption | with_reducible refine below_alloc ?_ ?_ _ | with_reducible refine Below.setCell ?_ ?_ _ | with_reducible refine Below.drew ?_ | with_reducible refine below_drewN ?_ _ | with_reducible refine below_step (by assumption) ?_ ?_ | (with_reducible refine Below.trans ?_ (Below.mono (by assumption) ?_)) | exact Nat.le_refl _ | (simp; done) | (simp; omega) | omega))⟩


set_option maxRecDepth 100000 in
set_option maxHeartbeats 2000000 in
theorem rReveal (a b c d e f : List UInt8) (n : Int) (h0 : -9223372036854775808 ≤ n) (h1 : n ≤ 9223372036854775807) (hr : f.length ≤ 9000000000000000000) (w : World) :
    Calls Tryz.prog 49 #[.agg #[.string (bs a), .string (bs b), .string (bs c), .string (bs d), .string (bs e), .string (bs f)], .int .i64 n] w fun e w' => e = .returned (.tuple #[.string (bs (revealT f n).1), .int .i64 (revealT f n).2]) ∧ Below w.heap.size w w' := by
  by_cases h : n < 0
  · have H : Hid (revealT f n = ([], 2)) := by show revealT f n = _; simp [revealT, h]
    go_enter Tryz.func49, Tryz.ntmps49
    go_wp2
    go_ret2
    exact ⟨by rw [H.out]; rfl, by (repeat' (first | with_reducible exact Below.refl _ _ | with_reducible assumption | with_reducible refine below_alloc ?_ ?_ _ | with_reducible refine Below.setCell ?_ ?_ _ | with_reducible refine Below.drew ?_ | with_reducible refine below_drewN ?_ _ | with_reducible refine below_step (by assumption) ?_ ?_ | (with_reducible refine Below.trans ?_ (Below.mono (by assumption) ?_)) | exact Nat.le_refl _ | (simp; done) | (simp; omega) | omega))⟩
  · by_cases h2 : 1048575 < n
    · have H : Hid (revealT f n = ([], 2)) := by show revealT f n = _; simp [revealT, h2]
      go_enter Tryz.func49, Tryz.ntmps49
      go_wp2
      go_ret2
      exact ⟨by rw [H.out]; rfl, by (repeat' (first | with_reducible exact Below.refl _ _ | with_reducible assumption | with_reducible refine below_alloc ?_ ?_ _ | with_reducible refine Below.setCell ?_ ?_ _ | with_reducible refine Below.drew ?_ | with_reducible refine below_drewN ?_ _ | with_reducible refine below_step (by assumption) ?_ ?_ | (with_reducible refine Below.trans ?_ (Below.mono (by assumption) ?_)) | exact Nat.le_refl _ | (simp; done) | (simp; omega) | omega))⟩
    · have H : Hid (revealT f n = secretT f (1048575 - n)) := by show revealT f n = _; simp [revealT, h, h2]
      go_enter Tryz.func49, Tryz.ntmps49
      go_wp2_with (go_at_call 89; refine (r15Secret f (1048575 - n) (by omega) (by omega) hr _).mono ?_; rintro e w1 ⟨rfl, hb1⟩)
      go_ret2
      exact ⟨by rw [H.out]; rfl, by (repeat' (first | with_reducible exact Below.refl _ _ | with_reducible assumption | with_reducible refine below_alloc ?_ ?_ _ | with_reducible refine Below.setCell ?_ ?_ _ | with_reducible refine Below.drew ?_ | with_reducible refine below_drewN ?_ _ | with_reducible refine below_step (by assumption) ?_ ?_ | (with_reducible refine Below.trans ?_ (Below.mono (by assumption) ?_)) | exact Nat.le_refl _ | (simp; done) | (simp; omega) | omega))⟩

set_option maxRecDepth 100000 in
set_option maxHeartbeats 2000000 in
theorem rPoint (a b c d e f : List UInt8) (n : Int) (h0 : -9223372036854775808 ≤ n) (h1 : n ≤ 9223372036854775807) (hr : f.length ≤ 9000000000000000000) (w : World) :
    Calls Tryz.prog 51 #[.agg #[.string (bs a), .string (bs b), .string (bs c), .string (bs d), .string (bs e), .string (bs f)], .int .i64 n] w fun e w' => e = .returned (.tuple #[.string (bs (pointT f n).1), .int .i64 (pointT f n).2]) ∧ Below w.heap.size w w' := by
  have hl := revealT_len f n
  obtain ⟨x, g, hx⟩ : ∃ x g, revealT f n = (x, g) := ⟨_, _, rfl⟩
  rw [hx] at hl
  have hl' : x.length ≤ 9000000000000000000 := Nat.le_trans hl (by decide)
  have HX := Lib.hid hx
  by_cases h : g = 0
  · have H : Hid (pointT f n = pubT x) := by show pointT f n = _; unfold pointT; rw [hx]; simp [h]
    have q : (g != 0) = false := by simp [h]
    clear hx h hl
    go_enter Tryz.func51, Tryz.ntmps51
    go_wp2_with fail
    refine (rReveal a b c d e f n h0 h1 hr _).mono ?_
    rintro e w1 ⟨rfl, hb1⟩
    rw [HX.out]
    go_wp2_with fail
    refine (refPub x hl' _).mono ?_
    rintro e w2 ⟨rfl, hb2⟩
    go_wp2_with fail
    go_ret2
    exact ⟨by rw [H.out]; rfl, by (repeat' (first | with_reducible exact Below.refl _ _ | with_reducible assumption | with_reducible refine below_alloc ?_ ?_ _ | with_reducible refine Below.setCell ?_ ?_ _ | with_reducible refine Below.drew ?_ | with_reducible refine below_drewN ?_ _ | with_reducible refine below_step (by assumption) ?_ ?_ | (with_reducible refine Below.trans ?_ (Below.mono (by assumption) ?_)) | exact Nat.le_refl _ | (simp; done) | (simp; omega) | omega))⟩
  · have H : Hid (pointT f n = ([], g)) := by show pointT f n = _; unfold pointT; rw [hx]; simp [h]
    have q : (g != 0) = true := by simp [h]
    clear hx h hl
    go_enter Tryz.func51, Tryz.ntmps51
    go_wp2_with fail
    refine (rReveal a b c d e f n h0 h1 hr _).mono ?_
    rintro e w1 ⟨rfl, hb1⟩
    rw [HX.out]
    go_wp2_with fail
    go_ret2
    exact ⟨by rw [H.out]; rfl, by (repeat' (first | with_reducible exact Below.refl _ _ | with_reducible assumption | with_reducible refine below_alloc ?_ ?_ _ | with_reducible refine Below.setCell ?_ ?_ _ | with_reducible refine Below.drew ?_ | with_reducible refine below_drewN ?_ _ | with_reducible refine below_step (by assumption) ?_ ?_ | (with_reducible refine Below.trans ?_ (Below.mono (by assumption) ?_)) | exact Nat.le_refl _ | (simp; done) | (simp; omega) | omega))⟩
end Go.Proofs.YtdmfoablpdhnbaaGreatDoor

-- RefS
namespace Go.Proofs.YtdmfoablpdhnbaaGreatDoor
open Go.RowKit

theorem five_at (a b c d e : List UInt8) (k : Nat) (hk : k < 5) : ∃ x, [a, b, c, d, e][k]? = some x ∧ (#[.string (bs a), .string (bs b), .string (bs c), .string (bs d), .string (bs e)] : Array Value)[k]? = some (.string (bs x)) ∧ (x = a ∨ x = b ∨ x = c ∨ x = d ∨ x = e) := by
  match k, hk with
  | 0, _ => exact ⟨a, rfl, rfl, by simp⟩
  | 1, _ => exact ⟨b, rfl, rfl, by simp⟩
  | 2, _ => exact ⟨c, rfl, rfl, by simp⟩
  | 3, _ => exact ⟨d, rfl, rfl, by simp⟩
  | 4, _ => exact ⟨e, rfl, rfl, by simp⟩
def RpLoop (a b c d e : List UInt8) (w : World) (lv iv : Value) (wr : World) : Prop :=
  ∃ (k : Nat) (ys : List (List UInt8)), k ≤ 5 ∧ iv = .int .i64 k ∧ ys.length = k ∧ MProg pubT [a, b, c, d, e] k ys ∧ wr.ownsRow (w.heap.size + 1 + 1 + 1) 22 1 lv k (ys.map fun y => .string (bs y)) ∧
    wr.heap[w.heap.size + 1]? = some (.cells #[.string (bs []), .string (bs []), .string (bs []), .string (bs []), .string (bs [])] 46 (0, 0)) ∧
    wr.heap[w.heap.size + 1 + 1]? = some (.cells #[.string (bs a), .string (bs b), .string (bs c), .string (bs d), .string (bs e)] 22 (0, 0)) ∧ Below w.heap.size w wr

set_option maxRecDepth 100000 in
set_option maxHeartbeats 2000000 in
theorem rPublic (a b c d e f : List UInt8) (ha : a.length ≤ 9000000000000000000) (hb : b.length ≤ 9000000000000000000) (hc : c.length ≤ 9000000000000000000) (hd : d.length ≤ 9000000000000000000) (he : e.length ≤ 9000000000000000000) (w : World) :
    Calls Tryz.prog 47 #[.agg #[.string (bs a), .string (bs b), .string (bs c), .string (bs d), .string (bs e), .string (bs f)]] w fun r w' => r = .returned (.tuple #[keysV (publicT a b c d e).1, .int .i64 (publicT a b c d e).2]) ∧ Below w.heap.size w w' := by
  obtain ⟨t0, ht0, ht1, ht2, ht3⟩ := info_parts Tryz.infoTerm
  have H : Hid (publicT a b c d e = manyT pubT [a, b, c, d, e]) := rfl
  have HR0 : Hid (((w.alloc (.cells #[.string (bs a), .string (bs b), .string (bs c), .string (bs d), .string (bs e), .string (bs f)] 44)).alloc (.cells #[.string (bs []), .string (bs []), .string (bs []), .string (bs []), .string (bs [])] 46)).heap[w.heap.size + 1]? = some (.cells #[.string (bs []), .string (bs []), .string (bs []), .string (bs []), .string (bs [])] 46 (0, 0))) := by
    have h := blk_new (w.alloc (.cells #[.string (bs a), .string (bs b), .string (bs c), .string (bs d), .string (bs e), .string (bs f)] 44)) (.cells #[.string (bs []), .string (bs []), .string (bs []), .string (bs []), .string (bs [])] 46)
    rw [show (w.alloc (.cells #[.string (bs a), .string (bs b), .string (bs c), .string (bs d), .string (bs e), .string (bs f)] 44)).heap.size = w.heap.size + 1 by simp] at h
    exact h
  have HW0 : Hid ((((w.alloc (.cells #[.string (bs a), .string (bs b), .string (bs c), .string (bs d), .string (bs e), .string (bs f)] 44)).alloc (.cells #[.string (bs []), .string (bs []), .string (bs []), .string (bs []), .string (bs [])] 46)).alloc (.cells #[.string (bs a), .string (bs b), .string (bs c), .string (bs d), .string (bs e)] 22)).heap[w.heap.size + 1 + 1]? = some (.cells #[.string (bs a), .string (bs b), .string (bs c), .string (bs d), .string (bs e)] 22 (0, 0))) := by
    have h := blk_new ((w.alloc (.cells #[.string (bs a), .string (bs b), .string (bs c), .string (bs d), .string (bs e), .string (bs f)] 44)).alloc (.cells #[.string (bs []), .string (bs []), .string (bs []), .string (bs []), .string (bs [])] 46)) (.cells #[.string (bs a), .string (bs b), .string (bs c), .string (bs d), .string (bs e)] 22)
    rw [show ((w.alloc (.cells #[.string (bs a), .string (bs b), .string (bs c), .string (bs d), .string (bs e), .string (bs f)] 44)).alloc (.cells #[.string (bs []), .string (bs []), .string (bs []), .string (bs []), .string (bs [])] 46)).heap.size = w.heap.size + 1 + 1 by simp] at h
    exact h
  go_enter Tryz.func47, Tryz.ntmps47
  go_wp2_with fail
  go_loopw [4, 21] (fun lv iv wr => RpLoop a b c d e w lv iv wr) (fun _ iv _ => 5 - (intOf iv).toNat)
  case atStart => exact ⟨0, [], by omega, rfl, rfl, mprog_start _ _, ⟨rfl, Or.inl ⟨rfl, rfl⟩⟩, blk_alloc HR0.out _, HW0.out, by (repeat' (first | with_reducible exact Below.refl _ _ | with_reducible assumption | with_reducible refine below_alloc ?_ ?_ _ | with_reducible refine Below.setCell ?_ ?_ _ | with_reducible refine Below.drew ?_ | with_reducible refine below_drewN ?_ _ | with_reducible refine below_step (by assumption) ?_ ?_ | (with_reducible refine Below.trans ?_ (Below.mono (by assumption) ?_)) | exact Nat.le_refl _ | (simp; done) | (simp; omega) | omega))⟩
  case round =>
    obtain ⟨k, ys, hk, rfl, hys, hprog, hown, hR, hW, hbel⟩ := hrel
    have HYS := Lib.hid hys
    have HP := Lib.hid hprog
    have HRr := Lib.hid hR
    have HWr := Lib.hid hW
    have hWl := blk_lt hW
    have hRl := blk_lt hR
    have w0 := blk_cell hW
    have w2' := blk_free hW
    clear hys hprog hR hW
    have hbs := hbel.size
    by_cases hlt : k < 5
    · obtain ⟨x, hx, hcx, hxx⟩ := five_at a b c d e k hlt
      have hxl : x.length ≤ 9000000000000000000 := by rcases hxx with h | h | h | h | h <;> (rw [h]; assumption)
      have i1 : (k : Int) < 5 := by omega
      have c0 : ∀ u, u = w.heap.size + 1 + 1 → wr.cell? ⟨u, k, none⟩ = some (.string (bs x)) := fun u hu => by subst hu; rw [w0 k]; exact hcx
      have c1 := c0 _ rfl
      have HA := Lib.hid hx
      clear hx hcx hxx c0 w0
      obtain ⟨y, g, hy⟩ : ∃ y g, pubT x = (y, g) := ⟨_, _, rfl⟩
      have HY := Lib.hid hy
      clear hy
      by_cases hf : g = 0
      · subst hf
        go_wp2_with (first | (go_at_call 87; refine (refPub x hxl _).mono ?_; rintro r w3 ⟨rfl, hb3⟩; rw [HY.out]; have hown3 := own_below hown hb3 rfl) | (at_builtin; go_must (refine wpList_append_own _ rfl _ _ 35 rfl (w.heap.size + 1 + 1 + 1) 22 t0 (.string ByteArray.empty) 1 16 Tryz.underlying35 ht0 ht1 ht2 ht3 rfl (by decide) _ _ _ rfl (own_alloc hown3 _) ⟨w3.heap.size, 0, none⟩ 1 1 [.string (bs y)] rfl rfl ?c1 ?c2 ?c3 ?c4 ?c5 ?_; (case c1 => (exact cell_one_at rfl)); (case c2 => exact one1 rfl); (case c3 => (unfold maxLen; omega)); (case c4 => (omega)); (case c5 => (have := hb3.size; first | (simp; done) | (simp; omega))); (intro v' w4 hown4 hgr4 _); (obtain ⟨ad4, n4, cp4, hv4⟩ := own_slice hown4); (subst hv4))))
        go_roundw
        case rel =>
          have hneR := own_ne hown3 (blk_below HRr.out hb3 hRl) (by decide)
          have hge := own_ge hown3
          have hneW : some (w.heap.size + 1 + 1) ≠ Value.ownBlock _ := fun e => by have := hge _ e.symm; omega
          have hy2 : pubT x = (y, 0) := HY.out
          refine ⟨k + 1, ys ++ [y], by omega, by go_num, by simp [HYS.out], ?_, ?_, blk_grown (blk_alloc (blk_below HRr.out hb3 hRl) _) hgr4 hneR, blk_grown (blk_alloc (blk_below HWr.out hb3 hWl) _) hgr4 hneW, ?_⟩
          · have h := mprog_next HP.out HA.out (by simp only [hy2])
            simp only [hy2] at h
            exact h
          · rw [List.map_append]; exact hown4
          · have h5 : Below w.heap.size w (w3.alloc (.cells #[.string (bs y)] 22)) := by (repeat' (first | with_reducible exact Below.refl _ _ | with_reducible assumption | with_reducible refine below_alloc ?_ ?_ _ | with_reducible refine Below.setCell ?_ ?_ _ | with_reducible refine Below.drew ?_ | with_reducible refine below_drewN ?_ _ | with_reducible refine below_step (by assumption) ?_ ?_ | (with_reducible refine Below.trans ?_ (Below.mono (by assumption) ?_)) | exact Nat.le_refl _ | (simp; done) | (simp; omega) | omega))
            exact h5.grown hgr4 h5.size (fun g hg => by have := hge g hg; omega)
        case measure => (show 5 - ((k : Int) + 1).toNat < 5 - (k : Int).toNat); omega
      · have q1 : (g != 0) = true := by simpa using hf
        go_wp2_with (go_at_call 87; refine (refPub x hxl _).mono ?_; rintro r w3 ⟨rfl, hb3⟩; rw [HY.out]; have HR3 := Lib.hid (blk_below HRr.out hb3 hRl); have r0 := blk_cell HR3.out; have r1 := blk_free HR3.out)
        have hbad := mprog_bad HP.out HA.out (by simp only [HY.out]; exact hf)
        simp only [HY.out] at hbad
        refine bodyPost_ret (v := .tuple #[.agg #[.string (bs []), .string (bs []), .string (bs []), .string (bs []), .string (bs [])], .int .i64 g]) (by simp [results, Tryz.results47, go_sem, r0, r1]) rfl ⟨by rw [H.out, hbad]; rfl, by (repeat' (first | with_reducible exact Below.refl _ _ | with_reducible assumption | with_reducible refine below_alloc ?_ ?_ _ | with_reducible refine Below.setCell ?_ ?_ _ | with_reducible refine Below.drew ?_ | with_reducible refine below_drewN ?_ _ | with_reducible refine below_step (by assumption) ?_ ?_ | (with_reducible refine Below.trans ?_ (Below.mono (by assumption) ?_)) | exact Nat.le_refl _ | (simp; done) | (simp; omega) | omega))⟩
    · obtain rfl : k = 5 := by omega
      have hm := mprog_end HP.out (by simp)
      have HM := Lib.hid hm
      have hyl := HYS.out
      obtain ⟨g, cap, hv, hgb, hgw, hcap, hcap2, hcell⟩ := own_cells hown (by omega)
      subst hv
      match ys, hyl with
      | [y0, y1, y2, y3, y4], _ =>
        have e0 := hcell 0 (.string (bs y0)) rfl
        have e1 := hcell 1 (.string (bs y1)) rfl
        have e2 := hcell 2 (.string (bs y2)) rfl
        have e3 := hcell 3 (.string (bs y3)) rfl
        have e4 := hcell 4 (.string (bs y4)) rfl
        have r0 := blk_cell HRr.out
        have r1 := blk_free HRr.out
        have hne : g ≠ w.heap.size + 1 := by
          have h := own_ne hown HRr.out (by decide)
          intro e; subst e; exact h rfl
        have HKK : Hid (∀ (j : Nat) (u : Value), wr.cell? ⟨g, j, none⟩ = some u → (((((wr.setCell ⟨w.heap.size + 1, 0, none⟩ (.string (bs y0))).setCell ⟨w.heap.size + 1, 1, none⟩ (.string (bs y1))).setCell ⟨w.heap.size + 1, 2, none⟩ (.string (bs y2))).setCell ⟨w.heap.size + 1, 3, none⟩ (.string (bs y3))).setCell ⟨w.heap.size + 1, 4, none⟩ (.string (bs y4))).drew.cell? ⟨g, j, none⟩ = some u) :=
          fun j u h => cell_drew_some (cell_set_ne (cell_set_ne (cell_set_ne (cell_set_ne (cell_set_ne h hne) hne) hne) hne) hne)
        have E0 := Lib.hid e0
        have E1 := Lib.hid e1
        have E2 := Lib.hid e2
        have E3 := Lib.hid e3
        have E4 := Lib.hid e4
        clear hcell hm w0 w2'
        go_wp2
        go_region_held3 (fun w' => w'.cell? ⟨g, 0, none⟩ = some (.string (bs y0)) ∧ w'.cell? ⟨g, 1, none⟩ = some (.string (bs y1)) ∧ w'.cell? ⟨g, 2, none⟩ = some (.string (bs y2)) ∧ w'.cell? ⟨g, 3, none⟩ = some (.string (bs y3)) ∧ w'.cell? ⟨g, 4, none⟩ = some (.string (bs y4)))
          (first | with_reducible exact ⟨cell_drew_some E0.out, cell_drew_some E1.out, cell_drew_some E2.out, cell_drew_some E3.out, cell_drew_some E4.out⟩ | with_reducible exact ⟨HKK.out _ _ E0.out, HKK.out _ _ E1.out, HKK.out _ _ E2.out, HKK.out _ _ E3.out, HKK.out _ _ E4.out⟩) (fail)
        all_goals
          go_wp2
          refine bodyPost_ret (v := .tuple #[.agg #[.string (bs y0), .string (bs y1), .string (bs y2), .string (bs y3), .string (bs y4)], .int .i64 0]) (by simp [results, Tryz.results47, go_sem, r0, r1]) rfl ⟨by rw [H.out, HM.out]; rfl, by (repeat' (first | with_reducible exact Below.refl _ _ | with_reducible assumption | with_reducible refine below_alloc ?_ ?_ _ | with_reducible refine Below.setCell ?_ ?_ _ | with_reducible refine Below.drew ?_ | with_reducible refine below_drewN ?_ _ | with_reducible refine below_step (by assumption) ?_ ?_ | (with_reducible refine Below.trans ?_ (Below.mono (by assumption) ?_)) | exact Nat.le_refl _ | (simp; done) | (simp; omega) | omega))⟩
      | [], h => simp at h
      | [_], h => simp at h
      | [_, _], h => simp at h
      | [_, _, _], h => simp at h
      | [_, _, _, _], h => simp at h
      | _ :: _ :: _ :: _ :: _ :: _ :: _, h => simp at h
end Go.Proofs.YtdmfoablpdhnbaaGreatDoor
