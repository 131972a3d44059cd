/- The program makes terms: out of one and two, side by side; public keys. -/
import Derived.Test.YtchbhainmalbbaaDoorTermZ
namespace Go.Proofs.YtchbhainmalbbaaDoor
open Go.RowKit

theorem build_one (c : UInt8) (x : List UInt8) : buildT [c] [x] = oneT c x := by
  unfold buildT oneT
  simp [cat]
theorem build_two (c : UInt8) (x y : List UInt8) : buildT [c] [x, y] = twoT c x y := by
  unfold buildT twoT
  simp [cat]
theorem build_tuple (ls : List (List UInt8)) (h : ls.length ≤ 32) : buildT (84 :: (Lib.decDigits ls.length ++ [58])) ls = tupleT ls := by
  have h2 : ¬ 32 < ls.length := by omega
  simp [buildT, tupleT, h2]

theorem two_cells {w : World} {x y : List UInt8} {T : Nat} : ∀ (j : Nat) (z : List UInt8), [x, y][j]? = some z → (w.alloc (.cells #[.string (bs x), .string (bs y)] T)).cell? ⟨w.heap.size, j, none⟩ = some (.string (bs z)) := by
  intro j z h
  rw [blk_cell (blk_new w _)]
  match j, h with
  | 0, h => simp at h; subst h; rfl
  | 1, h => simp at h; subst h; rfl
  | _ + 2, h => simp at h
theorem one_cell {w : World} {x : List UInt8} {T : Nat} : ∀ (j : Nat) (z : List UInt8), [x][j]? = some z → (w.alloc (.cells #[.string (bs x)] T)).cell? ⟨w.heap.size, j, none⟩ = some (.string (bs z)) := by
  intro j z h
  rw [blk_cell (blk_new w _)]
  match j, h with
  | 0, h => simp at h; subst h; rfl
  | _ + 1, h => simp at h

set_option maxRecDepth 100000 in
set_option maxHeartbeats 1000000 in
theorem tChild (x y : List UInt8) (hx : x.length ≤ 9000000000000000000) (hy : y.length ≤ 9000000000000000000) (w : World) (hG : GOk w) :
    Calls Tryd.prog 79 #[.string (bs x), .string (bs y)] w fun e w' => e = .returned (.tuple #[.string (bs (twoT 68 x y).1), .int .i64 (twoT 68 x y).2]) ∧ Below w.heap.size w w' := by
  have H := Lib.hid (build_two 68 x y)
  have HC := Lib.hid (two_cells (w := w) (x := x) (y := y) (T := 22))
  go_enter Tryd.func79, Tryd.ntmps79
  go_wp2_with (go_at_call 84; refine (tBuild [68] [x, y] _ _ (by simp) (by simp; omega) (by simp) _ (by simp) HC.out (gok_alloc hG _)).mono ?_; rintro e w1 ⟨rfl, hb1⟩)
  go_ret2
  exact ⟨by rw [← H.out]; rfl, by (repeat' (first | with_reducible exact Below.refl _ _ | with_reducible assumption | with_reducible refine below_alloc ?_ ?_ _ | with_reducible refine Below.setCell ?_ ?_ _ | with_reducible refine Below.drew ?_ | with_reducible refine below_drewN ?_ _ | with_reducible refine below_step (by assumption) ?_ ?_ | (with_reducible refine Below.trans ?_ (Below.mono (by assumption) ?_)) | exact Nat.le_refl _ | (simp; done) | (simp; omega) | omega))⟩
set_option maxRecDepth 100000 in
set_option maxHeartbeats 1000000 in
theorem tJoin (x y : List UInt8) (hx : x.length ≤ 9000000000000000000) (hy : y.length ≤ 9000000000000000000) (w : World) (hG : GOk w) :
    Calls Tryd.prog 59 #[.string (bs x), .string (bs y)] w fun e w' => e = .returned (.tuple #[.string (bs (twoT 86 x y).1), .int .i64 (twoT 86 x y).2]) ∧ Below w.heap.size w w' := by
  have H := Lib.hid (build_two 86 x y)
  have HC := Lib.hid (two_cells (w := w) (x := x) (y := y) (T := 22))
  go_enter Tryd.func59, Tryd.ntmps59
  go_wp2_with (go_at_call 84; refine (tBuild [86] [x, y] _ _ (by simp) (by simp; omega) (by simp) _ (by simp) HC.out (gok_alloc hG _)).mono ?_; rintro e w1 ⟨rfl, hb1⟩)
  go_ret2
  exact ⟨by rw [← H.out]; rfl, by (repeat' (first | with_reducible exact Below.refl _ _ | with_reducible assumption | with_reducible refine below_alloc ?_ ?_ _ | with_reducible refine Below.setCell ?_ ?_ _ | with_reducible refine Below.drew ?_ | with_reducible refine below_drewN ?_ _ | with_reducible refine below_step (by assumption) ?_ ?_ | (with_reducible refine Below.trans ?_ (Below.mono (by assumption) ?_)) | exact Nat.le_refl _ | (simp; done) | (simp; omega) | omega))⟩
set_option maxRecDepth 100000 in
set_option maxHeartbeats 1000000 in
theorem tBind (x y : List UInt8) (hx : x.length ≤ 9000000000000000000) (hy : y.length ≤ 9000000000000000000) (w : World) (hG : GOk w) :
    Calls Tryd.prog 57 #[.string (bs x), .string (bs y)] w fun e w' => e = .returned (.tuple #[.string (bs (twoT 75 x y).1), .int .i64 (twoT 75 x y).2]) ∧ Below w.heap.size w w' := by
  have H := Lib.hid (build_two 75 x y)
  have HC := Lib.hid (two_cells (w := w) (x := x) (y := y) (T := 22))
  go_enter Tryd.func57, Tryd.ntmps57
  go_wp2_with (go_at_call 84; refine (tBuild [75] [x, y] _ _ (by simp) (by simp; omega) (by simp) _ (by simp) HC.out (gok_alloc hG _)).mono ?_; rintro e w1 ⟨rfl, hb1⟩)
  go_ret2
  exact ⟨by rw [← H.out]; rfl, by (repeat' (first | with_reducible exact Below.refl _ _ | with_reducible assumption | with_reducible refine below_alloc ?_ ?_ _ | with_reducible refine Below.setCell ?_ ?_ _ | with_reducible refine Below.drew ?_ | with_reducible refine below_drewN ?_ _ | with_reducible refine below_step (by assumption) ?_ ?_ | (with_reducible refine Below.trans ?_ (Below.mono (by assumption) ?_)) | exact Nat.le_refl _ | (simp; done) | (simp; omega) | omega))⟩
set_option maxRecDepth 100000 in
set_option maxHeartbeats 1000000 in
theorem tBox (x y : List UInt8) (hx : x.length ≤ 9000000000000000000) (hy : y.length ≤ 9000000000000000000) (w : World) (hG : GOk w) :
    Calls Tryd.prog 94 #[.string (bs x), .string (bs y)] w fun e w' => e = .returned (.tuple #[.string (bs (twoT 66 x y).1), .int .i64 (twoT 66 x y).2]) ∧ Below w.heap.size w w' := by
  have H := Lib.hid (build_two 66 x y)
  have HC := Lib.hid (two_cells (w := w) (x := x) (y := y) (T := 22))
  go_enter Tryd.func94, Tryd.ntmps94
  go_wp2_with (go_at_call 84; refine (tBuild [66] [x, y] _ _ (by simp) (by simp; omega) (by simp) _ (by simp) HC.out (gok_alloc hG _)).mono ?_; rintro e w1 ⟨rfl, hb1⟩)
  go_ret2
  exact ⟨by rw [← H.out]; rfl, by (repeat' (first | with_reducible exact Below.refl _ _ | with_reducible assumption | with_reducible refine below_alloc ?_ ?_ _ | with_reducible refine Below.setCell ?_ ?_ _ | with_reducible refine Below.drew ?_ | with_reducible refine below_drewN ?_ _ | with_reducible refine below_step (by assumption) ?_ ?_ | (with_reducible refine Below.trans ?_ (Below.mono (by assumption) ?_)) | exact Nat.le_refl _ | (simp; done) | (simp; omega) | omega))⟩
set_option maxRecDepth 100000 in
set_option maxHeartbeats 1000000 in
theorem tHash (x : List UInt8) (hx : x.length ≤ 9000000000000000000) (w : World) (hG : GOk w) :
    Calls Tryd.prog 116 #[.string (bs x)] w fun e w' => e = .returned (.tuple #[.string (bs (oneT 72 x).1), .int .i64 (oneT 72 x).2]) ∧ Below w.heap.size w w' := by
  have H := Lib.hid (build_one 72 x)
  have HC := Lib.hid (one_cell (w := w) (x := x) (T := 22))
  go_enter Tryd.func116, Tryd.ntmps116
  go_wp2_with (go_at_call 84; refine (tBuild [72] [x] _ _ (by simp) (by simp; omega) (by simp) _ (by simp) HC.out (gok_alloc hG _)).mono ?_; rintro e w1 ⟨rfl, hb1⟩)
  go_ret2
  exact ⟨by rw [← H.out]; rfl, by (repeat' (first | with_reducible exact Below.refl _ _ | with_reducible assumption | with_reducible refine below_alloc ?_ ?_ _ | with_reducible refine Below.setCell ?_ ?_ _ | with_reducible refine Below.drew ?_ | with_reducible refine below_drewN ?_ _ | with_reducible refine below_step (by assumption) ?_ ?_ | (with_reducible refine Below.trans ?_ (Below.mono (by assumption) ?_)) | exact Nat.le_refl _ | (simp; done) | (simp; omega) | omega))⟩
set_option maxRecDepth 100000 in
set_option maxHeartbeats 1000000 in
theorem tMkTuple (ls : List (List UInt8)) (g cap : Nat) (hls : ∀ x ∈ ls, x.length ≤ 9000000000000000000) (hn : ls.length ≤ 9000000000000000000) (w : World) (hg : g < w.heap.size)
    (hc : ∀ j x, ls[j]? = some x → w.cell? ⟨g, j, none⟩ = some (.string (bs x))) (hG : GOk w) :
    Calls Tryd.prog 78 #[.slice (some ⟨g, 0, none⟩) ls.length cap] w fun e w' => e = .returned (.tuple #[.string (bs (tupleT ls).1), .int .i64 (tupleT ls).2]) ∧ Below w.heap.size w w' := by
  have HC := Lib.hid hc
  clear hc
  by_cases h32 : 32 < ls.length
  · have H : Hid (tupleT ls = ([], 3)) := by show tupleT ls = _; simp [tupleT, h32]
    go_enter Tryd.func78, Tryd.ntmps78
    go_wp2_with fail
    go_ret2
    exact ⟨by rw [H.out]; rfl, by (repeat' (first | with_reducible exact Below.refl _ _ | with_reducible assumption | with_reducible refine below_alloc ?_ ?_ _ | with_reducible refine Below.setCell ?_ ?_ _ | with_reducible refine Below.drew ?_ | with_reducible refine below_drewN ?_ _ | with_reducible refine below_step (by assumption) ?_ ?_ | (with_reducible refine Below.trans ?_ (Below.mono (by assumption) ?_)) | exact Nat.le_refl _ | (simp; done) | (simp; omega) | omega))⟩
  · have H := Lib.hid (build_tuple ls (by omega))
    have hd := dec_len20 ls.length (by omega)
    go_enter Tryd.func78, Tryd.ntmps78
    go_wp2_with (first | (go_at_call 93; refine (tItoa _ (by omega) (by omega) _ hG).mono ?_; rintro e w1 ⟨rfl, hb1⟩; rw [Int.toNat_natCast]; have hG1 := Lib.hid (gok_below hG hb1); have HC1 : Hid (∀ j x, ls[j]? = some x → w1.cell? ⟨g, j, none⟩ = some (.string (bs x))) := fun j x hx => (hb1.cell (p := ⟨g, j, none⟩) hg).trans (HC.out j x hx); have hsz := hb1.size) | (go_at_call 84; refine (tBuild (84 :: (Lib.decDigits ls.length ++ [58])) ls g cap (by simp; omega) hls (by omega) _ (by omega) HC1.out hG1.out).mono ?_; rintro e w2 ⟨rfl, hb2⟩))
    go_ret2
    exact ⟨by rw [← H.out]; rfl, by (repeat' (first | with_reducible exact Below.refl _ _ | with_reducible assumption | with_reducible refine below_alloc ?_ ?_ _ | with_reducible refine Below.setCell ?_ ?_ _ | with_reducible refine Below.drew ?_ | with_reducible refine below_drewN ?_ _ | with_reducible refine below_step (by assumption) ?_ ?_ | (with_reducible refine Below.trans ?_ (Below.mono (by assumption) ?_)) | exact Nat.le_refl _ | (simp; done) | (simp; omega) | omega))⟩

/-! Public keys. -/
theorem rt_op {x : List UInt8} {s : Sh} (h : rt x = some s) : s.op = head x := by
  unfold rt at h
  split at h
  · split at h
    · rename_i y hy
      split at h
      · simp at h; subst h; exact (rd_ok _ _ _ hy).2.2.2.2
      · simp at h
    · simp at h
  · simp at h

def TKeyIH (n : Nat) : Prop := ∀ (x : List UInt8) (w : World), x.length ≤ n → right x = true → GOk w →
    Calls Tryd.prog 66 #[.string (bs x)] w fun e w' => e = .returned (.string (bs (keyT x))) ∧ Below w.heap.size w w'

set_option maxRecDepth 100000 in
set_option maxHeartbeats 1000000 in
theorem tKeyLeaf (c : UInt8) (r : List UInt8) (hr : right (c :: r) = true) (h1 : c.toNat ≠ 86) (h2 : c.toNat ≠ 75) (w : World) :
    Calls Tryd.prog 66 #[.string (bs (c :: r))] w fun e w' => e = .returned (.string (bs (keyT (c :: r)))) ∧ Below w.heap.size w w' := by
  have HK : Hid (keyT (c :: r) = 80 :: c :: r) := by
    show keyT _ = _
    rw [keyT_eq]
    cases hrt : rt (c :: r) with
    | none => rfl
    | some s =>
      have ho : s.op = c := by rw [rt_op hrt]; rfl
      simp only [ho]
      rw [if_neg h1, if_neg h2]
  have hx := right_len hr
  have b1 : (((c.toNat : Nat) : Int) != 86) = true := by simp; omega
  have b2 : (((c.toNat : Nat) : Int) != 75) = true := by simp; omega
  have hr0 : (0 : Int) ≤ (r.length : Int) := by omega
  have hr1 : r.length ≤ 20000 := by simp at hx; omega
  clear h1 h2 hr hx
  go_enter Tryd.func66, Tryd.ntmps66
  go_wp2
  go_ret
  exact ⟨by rw [HK.out]; rfl, by (repeat' (first | with_reducible exact Below.refl _ _ | with_reducible assumption | with_reducible refine below_alloc ?_ ?_ _ | with_reducible refine Below.setCell ?_ ?_ _ | with_reducible refine Below.drew ?_ | with_reducible refine below_drewN ?_ _ | with_reducible refine below_step (by assumption) ?_ ?_ | (with_reducible refine Below.trans ?_ (Below.mono (by assumption) ?_)) | exact Nat.le_refl _ | (simp; done) | (simp; omega) | omega))⟩

set_option maxRecDepth 100000 in
set_option maxHeartbeats 2000000 in
theorem tKeyJoin (n : Nat) (ih : TKeyIH n) (c : UInt8) (r : List UInt8) (hn : (c :: r).length ≤ n + 1) (s : Sh) (hr : rt (c :: r) = some s) (hc : c.toNat = 86) (w : World) (hG : GOk w) :
    Calls Tryd.prog 66 #[.string (bs (c :: r))] w fun e w' => e = .returned (.string (bs (keyT (c :: r)))) ∧ Below w.heap.size w w' := by
  have ho : s.op.toNat = 86 := by rw [rt_op hr]; exact hc
  obtain ⟨a, b, hk, hl, ha, hb⟩ := rt_two hr (.inl ho)
  have HK : Hid (keyT (c :: r) = 87 :: (keyT a ++ keyT b)) := by
    show keyT _ = _
    rw [keyT_eq, hr]
    simp only [ho, if_true, hk, List.getD_cons_zero, List.getD_cons_succ]
  have hxl := right_len (show right (c :: r) = true by simp [right, hr])
  have ha1 := right_len ha
  have hb1 := right_len hb
  have hka := keyT_len ha1.1
  have hkb := keyT_len hb1.1
  have HA := Lib.hid ha
  have HB := Lib.hid hb
  have HR := Lib.hid hr
  have HKS := Lib.hid hk
  have hr0 : (0 : Int) ≤ (r.length : Int) := by omega
  have hr1 : r.length ≤ 20000 := by simp at hxl; omega
  have b0 : (((c.toNat : Nat) : Int) != 86) = false := by simp; omega
  have b1 : (((s.op.toNat : Nat) : Int) == 86) = true := by simp [ho]
  have s2 : ¬ 9223372036854775807 < (keyT a).length + 1 + (keyT b).length := by omega
  have s1 : ¬ 9223372036854775807 < 1 + (keyT a).length := by omega
  have hla : a.length ≤ n := by simp at hl hn; omega
  have hlb : b.length ≤ n := by simp at hl hn; omega
  have HG := Lib.hid hG
  clear hr ho hc hk ha hb hka hkb hG hxl
  go_enter Tryd.func66, Tryd.ntmps66
  go_wp2_with (go_at_call 53; refine (tOpen (c :: r) (by simp; omega) _ HG.out).mono ?_; rintro e w1 hp; rw [HR.out] at hp; obtain ⟨ad, kn, kc, rfl, hown, hbo⟩ := hp; rw [HKS.out] at hown; obtain ⟨g, cap, hv, hgb, hgw, hcap, hcap2, hcell⟩ := own_cells hown (by simp); injection hv with hv1 hv2 hv3; subst hv1 hv2 hv3; have c0 := hcell 0 (.string (bs a)) rfl; have c1 := hcell 1 (.string (bs b)) rfl; have HG1 := Lib.hid (gok_below HG.out hbo); clear hcell hown)
  go_region_held3 (fun w' => w'.cell? ⟨w1.heap.size, 3, none⟩ = some (.slice (some ⟨g, 0, none⟩) 2 kc) ∧ w'.cell? ⟨g, 0, none⟩ = some (.string (bs a)) ∧ w'.cell? ⟨g, 1, none⟩ = some (.string (bs b)) ∧ GOk w')
    (first
      | (refine ⟨?_, ?_, ?_, ?_⟩
         · go_keep
         · go_keep
         · go_keep
         · exact gok_drew (gok_alloc HG1.out _))
      | (go_split_ands
         refine ⟨?_, ?_, ?_, ?_⟩
         · exact (hbk.cell (World.block_lt_of_cell? _ _ (by assumption))).trans (by assumption)
         · exact (hbk.cell (World.block_lt_of_cell? _ _ (by assumption))).trans (by assumption)
         · exact (hbk.cell (World.block_lt_of_cell? _ _ (by assumption))).trans (by assumption)
         · exact gok_below (by assumption) hbk))
    ((go_at_call 66; go_split_ands; refine (ih _ _ (by assumption) (by first | exact HA.out | exact HB.out) (by assumption)).mono ?_; rintro e wk ⟨rfl, hbk⟩))
  all_goals
    go_wp2
    go_ret
    exact ⟨by rw [HK.out]; rfl, by (repeat' (first | with_reducible exact Below.refl _ _ | with_reducible assumption | with_reducible refine below_alloc ?_ ?_ _ | with_reducible refine Below.setCell ?_ ?_ _ | with_reducible refine Below.drew ?_ | with_reducible refine below_drewN ?_ _ | with_reducible refine below_step (by assumption) ?_ ?_ | (with_reducible refine Below.trans ?_ (Below.mono (by assumption) ?_)) | exact Nat.le_refl _ | (simp; done) | (simp; omega) | omega))⟩
set_option maxRecDepth 100000 in
set_option maxHeartbeats 2000000 in
theorem tKeyBind (n : Nat) (ih : TKeyIH n) (c : UInt8) (r : List UInt8) (hn : (c :: r).length ≤ n + 1) (s : Sh) (hr : rt (c :: r) = some s) (hc : c.toNat = 75) (w : World) (hG : GOk w) :
    Calls Tryd.prog 66 #[.string (bs (c :: r))] w fun e w' => e = .returned (.string (bs (keyT (c :: r)))) ∧ Below w.heap.size w w' := by
  have ho : s.op.toNat = 75 := by rw [rt_op hr]; exact hc
  obtain ⟨a, b, hk, hl, ha, hb⟩ := rt_two hr (.inr ho)
  have HK : Hid (keyT (c :: r) = 76 :: (keyT a ++ b)) := by
    show keyT _ = _
    rw [keyT_eq, hr]
    simp only [ho, hk, List.getD_cons_zero, List.getD_cons_succ]
    rfl
  have hxl := right_len (show right (c :: r) = true by simp [right, hr])
  have ha1 := right_len ha
  have hb1 := right_len hb
  have hka := keyT_len ha1.1
  have hkb := keyT_len hb1.1
  have HA := Lib.hid ha
  have HB := Lib.hid hb
  have HR := Lib.hid hr
  have HKS := Lib.hid hk
  have hr0 : (0 : Int) ≤ (r.length : Int) := by omega
  have hr1 : r.length ≤ 20000 := by simp at hxl; omega
  have b0 : (((c.toNat : Nat) : Int) != 86) = true := by simp; omega
  have b3 : (((c.toNat : Nat) : Int) != 75) = false := by simp; omega
  have b1 : (((s.op.toNat : Nat) : Int) == 86) = false := by simp [ho]
  have s2 : ¬ 9223372036854775807 < (keyT a).length + 1 + b.length := by omega
  have s1 : ¬ 9223372036854775807 < 1 + (keyT a).length := by omega
  have hla : a.length ≤ n := by simp at hl hn; omega
  have hlb : b.length ≤ n := by simp at hl hn; omega
  have HG := Lib.hid hG
  clear hr ho hc hk ha hb hka hkb hG hxl
  go_enter Tryd.func66, Tryd.ntmps66
  go_wp2_with (go_at_call 53; refine (tOpen (c :: r) (by simp; omega) _ HG.out).mono ?_; rintro e w1 hp; rw [HR.out] at hp; obtain ⟨ad, kn, kc, rfl, hown, hbo⟩ := hp; rw [HKS.out] at hown; obtain ⟨g, cap, hv, hgb, hgw, hcap, hcap2, hcell⟩ := own_cells hown (by simp); injection hv with hv1 hv2 hv3; subst hv1 hv2 hv3; have c0 := hcell 0 (.string (bs a)) rfl; have c1 := hcell 1 (.string (bs b)) rfl; have HG1 := Lib.hid (gok_below HG.out hbo); clear hcell hown)
  go_region_held3 (fun w' => w'.cell? ⟨w1.heap.size, 3, none⟩ = some (.slice (some ⟨g, 0, none⟩) 2 kc) ∧ w'.cell? ⟨g, 0, none⟩ = some (.string (bs a)) ∧ w'.cell? ⟨g, 1, none⟩ = some (.string (bs b)) ∧ GOk w')
    (first
      | (refine ⟨?_, ?_, ?_, ?_⟩
         · go_keep
         · go_keep
         · go_keep
         · exact gok_drew (gok_alloc HG1.out _))
      | (go_split_ands
         refine ⟨?_, ?_, ?_, ?_⟩
         · exact (hbk.cell (World.block_lt_of_cell? _ _ (by assumption))).trans (by assumption)
         · exact (hbk.cell (World.block_lt_of_cell? _ _ (by assumption))).trans (by assumption)
         · exact (hbk.cell (World.block_lt_of_cell? _ _ (by assumption))).trans (by assumption)
         · exact gok_below (by assumption) hbk))
    ((go_at_call 66; go_split_ands; refine (ih _ _ (by assumption) (by first | exact HA.out | exact HB.out) (by assumption)).mono ?_; rintro e wk ⟨rfl, hbk⟩))
  all_goals
    go_wp2
    go_ret
    exact ⟨by rw [HK.out]; rfl, by (repeat' (first | with_reducible exact Below.refl _ _ | with_reducible assumption | with_reducible refine below_alloc ?_ ?_ _ | with_reducible refine Below.setCell ?_ ?_ _ | with_reducible refine Below.drew ?_ | with_reducible refine below_drewN ?_ _ | with_reducible refine below_step (by assumption) ?_ ?_ | (with_reducible refine Below.trans ?_ (Below.mono (by assumption) ?_)) | exact Nat.le_refl _ | (simp; done) | (simp; omega) | omega))⟩

theorem tKeyAll : ∀ n, TKeyIH n
  | 0 => fun x w h0 h1 _ => by have := (right_len h1).1; omega
  | n + 1 => fun x w h0 h1 hG => by
    cases hr : rt x with
    | none => simp [right, hr] at h1
    | some s =>
      match x, h0, h1, hr with
      | [], _, h1, _ => have := (right_len h1).1; simp at this
      | c :: r, h0, h1, hr =>
        by_cases h86 : c.toNat = 86
        · exact tKeyJoin n (tKeyAll n) c r h0 s hr h86 w hG
        · by_cases h75 : c.toNat = 75
          · exact tKeyBind n (tKeyAll n) c r h0 s hr h75 w hG
          · exact tKeyLeaf c r h1 h86 h75 w
theorem tKey (x : List UInt8) (h : right x = true) (w : World) (hG : GOk w) :
    Calls Tryd.prog 66 #[.string (bs x)] w fun e w' => e = .returned (.string (bs (keyT x))) ∧ Below w.heap.size w w' :=
  tKeyAll x.length x w (Nat.le_refl _) h hG

set_option maxRecDepth 100000 in
set_option maxHeartbeats 1000000 in
theorem tPub (x : List UInt8) (hl : x.length ≤ 9000000000000000000) (w : World) (hG : GOk w) :
    Calls Tryd.prog 31 #[.string (bs x)] w fun e w' => e = .returned (.tuple #[.string (bs (pubT x).1), .int .i64 (pubT x).2]) ∧ Below w.heap.size w w' := by
  cases h : right x with
  | false =>
    have H : Hid (pubT x = ([], 10)) := by show pubT x = _; simp [pubT, h]
    have HR := Lib.hid h
    clear h
    go_enter Tryd.func31, Tryd.ntmps31
    go_wp2_with (go_at_call 64; refine (tRight x hl _ hG).mono ?_; rintro e w1 ⟨rfl, hb1⟩; rw [HR.out])
    go_ret2
    exact ⟨by rw [H.out]; rfl, by (repeat' (first | with_reducible exact Below.refl _ _ | with_reducible assumption | with_reducible refine below_alloc ?_ ?_ _ | with_reducible refine Below.setCell ?_ ?_ _ | with_reducible refine Below.drew ?_ | with_reducible refine below_drewN ?_ _ | with_reducible refine below_step (by assumption) ?_ ?_ | (with_reducible refine Below.trans ?_ (Below.mono (by assumption) ?_)) | exact Nat.le_refl _ | (simp; done) | (simp; omega) | omega))⟩
  | true =>
    have H : Hid (pubT x = made (keyT x)) := by show pubT x = _; simp [pubT, h]
    have hx := right_len h
    have hk := keyT_len hx.1
    have HR := Lib.hid h
    clear h
    go_enter Tryd.func31, Tryd.ntmps31
    go_wp2_with (first | (go_at_call 64; refine (tRight x hl _ hG).mono ?_; rintro e w1 ⟨rfl, hb1⟩; rw [HR.out]; have hG1 := Lib.hid (gok_below hG hb1)) | (go_at_call 66; refine (tKey x HR.out _ hG1.out).mono ?_; rintro e w2 ⟨rfl, hb2⟩; have hG2 := Lib.hid (gok_below hG1.out hb2)) | (go_at_call 65; refine (tWhole (keyT x) (by omega) _ hG2.out).mono ?_; rintro e w3 ⟨rfl, hb3⟩))
    go_ret2
    exact ⟨by rw [H.out]; rfl, by (repeat' (first | with_reducible exact Below.refl _ _ | with_reducible assumption | with_reducible refine below_alloc ?_ ?_ _ | with_reducible refine Below.setCell ?_ ?_ _ | with_reducible refine Below.drew ?_ | with_reducible refine below_drewN ?_ _ | with_reducible refine below_step (by assumption) ?_ ?_ | (with_reducible refine Below.trans ?_ (Below.mono (by assumption) ?_)) | exact Nat.le_refl _ | (simp; done) | (simp; omega) | omega))⟩
end Go.Proofs.YtchbhainmalbbaaDoor
