/- The reference reads a term: the ways that read parts. -/
import Derived.Test.YtchbhainmalbbaaDoorRefD
namespace Go.Proofs.YtchbhainmalbbaaDoor
open Go.RowKit

theorem Tryd.infoInt : (Tryd.prog.info? 3).map (fun i => (i.zero, i.size, i.bytes)) = some (some (.int .i64 0), 1, 8) := by kernel_rfl

/-- The reader one level down. -/
def RefIH (d : Nat) (l : List UInt8) : Prop := ∀ (a D : Int) (w : World), 0 ≤ a → a ≤ l.length → D = d →
    Calls Tryd.prog 87 #[.string (bs l), .int .i64 a, .int .i64 D] w (RdPost a.toNat w (rd d (l.drop a.toNat)))

theorem own_cells {w : World} {base e n : Nat} {v : Value} {xs : List Value} (h : w.ownsRow base e 1 v n xs) (hn : 0 < n) :
    ∃ g cap, v = .slice (some ⟨g, 0, none⟩) n cap ∧ base ≤ g ∧ g < w.heap.size ∧ n ≤ cap ∧ cap ≤ maxLen ∧ ∀ j x, xs[j]? = some x → w.cell? ⟨g, j, none⟩ = some x := by
  obtain ⟨h0, h⟩ := h
  rcases h with ⟨_, h⟩ | ⟨g, cap, cur, rfl, hb, hg, hc, hc2, hs, ht⟩
  · omega
  · refine ⟨g, cap, rfl, hb, blk_lt hg, hc, hc2, fun j x hj => ?_⟩
    rw [blk_cell hg, ← Array.getElem?_toList]
    rw [← ht] at hj
    rw [List.getElem?_take] at hj
    split at hj
    · exact hj
    · simp at hj

theorem head_take {l k : List UInt8} {b : Nat} (h : k = (l.drop b).take k.length) (h0 : 0 < k.length) (hb : b < l.length) : head k = l[b] := by
  refine (congrArg head h).trans ?_
  rw [List.drop_eq_getElem_cons hb, show k.length = (k.length - 1) + 1 by omega]
  rfl

theorem refFitsAll (l : List UInt8) (i b m : Nat) (hi : i < l.length) (ks : List (List UInt8)) (hm : ks.length = m) (hcnt : ∃ r k, cnt l[i] r = some (m, k)) (hcut : CutsAt l b ks) (x0 x1 x2 x3 : Int) (kv : Value) (hl : l.length ≤ 9000000000000000000)
    (h0 : l[i].toNat ≠ 110) (h1 : l[i].toNat ≠ 116) (w : World) (base : Nat) (hown : w.ownsRow base 3 1 kv (m + 1) ((offsL b ks).map fun i : Nat => .int .i64 i)) :
    Calls Tryd.prog 113 #[.string (bs l), .int .i64 i, .agg #[.int .i64 x0, .int .i64 x1, .int .u64 x2, .int .i64 x3, kv]] w fun e w' =>
      e = .returned (.bool (fitsB l[i] ks)) ∧ Below w.heap.size w w' := by
  by_cases hA : l[i].toNat = 80 ∨ l[i].toNat = 76 ∨ l[i].toNat = 88 ∨ l[i].toNat = 87
  · have hm1 : (l[i].toNat = 80 → m = 1) ∧ (l[i].toNat ≠ 80 → m = 2) := by
      obtain ⟨r, k, hcnt⟩ := hcnt
      simp only [cnt, arity, ← UInt8.toNat_inj, UInt8.reduceToNat] at hcnt
      rw [if_neg (by omega)] at hcnt
      split at hcnt
      · simp at hcnt; omega
      · rw [if_pos (by omega)] at hcnt; simp at hcnt; omega
    obtain ⟨g, cap, rfl, hg, hgw, hcap, hcap2, hcell⟩ := own_cells hown (by omega)
    match ks, hm with
    | [], hm => simp at hm; omega
    | k0 :: ks', hm =>
      obtain ⟨hk0, hk1, hk2, hk3⟩ := hcut
      have hk0' : 0 < k0.length := List.length_pos_iff.2 hk2
      have c0 := hcell 0 (.int .i64 b) (by simp [offsL])
      by_cases hB : l[i].toNat = 80 ∨ l[i].toNat = 76
      · refine refFitsOne l i b hi (by omega) x0 x1 x2 x3 g (m + 1) cap k0 ks' hl hB ?_ w (by omega) c0 hgw
        exact head_take hk0 hk0' (by omega)
      · match ks', hm with
        | [], hm => simp at hm; omega
        | [k1], hm =>
          obtain ⟨hj0, hj1, hj2, _⟩ := hk3
          have hj0' : 0 < k1.length := List.length_pos_iff.2 hj2
          have c1 := hcell 1 (.int .i64 (b + k0.length : Nat)) (by simp [offsL])
          have c2 := hcell 2 (.int .i64 (b + k0.length + k1.length : Nat)) (by simp [offsL])
          have h := refFitsTwo l i b (b + k0.length) (b + k0.length + k1.length) hi (by omega) (by omega) (by omega) x0 x1 x2 x3 g (m + 1) cap hl (by omega) w (by omega) c0 c1 c2 hgw
          rw [Nat.add_sub_cancel_left, Nat.add_sub_cancel_left, ← hk0, ← hj0] at h
          exact h
        | _ :: _ :: _, hm => simp at hm; omega
  · exact refFitsOther l i hi x0 x1 x2 x3 kv ks hl (by omega) (by omega) (by omega) (by omega) w

/-- What holds at the head of the loop over the parts. -/
def RLoop (l : List UInt8) (d m b : Nat) (w : World) (nx iv : Value) (wr : World) : Prop :=
  ∃ (k c dp : Nat) (ks : List (List UInt8)) (kv : Value), k ≤ m ∧ iv = .int .i64 k ∧ nx = .int .i64 (b + c : Nat) ∧ b + c ≤ l.length ∧ dp ≤ d ∧ ks.length = k ∧ sumL ks = c ∧ CutsAt l b ks ∧
    KProg (rd d) l b m k c dp ks ∧
    wr.heap[w.heap.size]? = some (.cells #[.int .i64 0, .int .i64 0, .int .u64 0, .int .i64 0, .slice none 0 0] 114 (0, 0)) ∧
    wr.heap[w.heap.size + 1 + 1]? = some (.cells #[.int .i64 0, .int .i64 (dp + 1 : Nat), .int .u64 0, .int .i64 0, kv] 114 (0, 0)) ∧
    wr.ownsRow (w.heap.size + 1) 3 1 kv (k + 1) ((offsL b ks).map fun i : Nat => .int .i64 i) ∧ Below w.heap.size w wr

theorem rloop_start (l : List UInt8) (d m b : Nat) (hb : b ≤ l.length) (w : World) (x : Int) (hx : x = b) :
    RLoop l d m b w (.int .i64 x) (.int .i64 0) (((w.alloc (.cells #[.int .i64 0, .int .i64 0, .int .u64 0, .int .i64 0, .slice none 0 0] 114)).alloc (.cells #[.int .i64 x] 3)).alloc
      (.cells #[.int .i64 0, .int .i64 1, .int .u64 0, .int .i64 0, .slice (some ⟨w.heap.size + 1, 0, none⟩) 1 1] 114)) := by
  subst hx
  refine ⟨0, 0, 0, [], .slice (some ⟨w.heap.size + 1, 0, none⟩) 1 1, by omega, rfl, rfl, hb, by omega, rfl, rfl, trivial, kprog_start _ _ _ _, ?_, ?_, ?_, ?_⟩
  · exact blk_alloc (blk_alloc (blk_new _ _) _) _
  · have := blk_new ((w.alloc (.cells #[.int .i64 0, .int .i64 0, .int .u64 0, .int .i64 0, .slice none 0 0] 114)).alloc (.cells #[.int .i64 b] 3)) (.cells #[.int .i64 0, .int .i64 1, .int .u64 0, .int .i64 0, .slice (some ⟨w.heap.size + 1, 0, none⟩) 1 1] 114)
    simpa using this
  · refine ⟨rfl, Or.inr ⟨w.heap.size + 1, 1, #[.int .i64 b], rfl, Nat.le_refl _, ?_, by omega, by unfold maxLen; omega, rfl, rfl⟩⟩
    have := blk_alloc (blk_new (w.alloc (.cells #[.int .i64 0, .int .i64 0, .int .u64 0, .int .i64 0, .slice none 0 0] 114)) (.cells #[.int .i64 b] 3)) (.cells #[.int .i64 0, .int .i64 1, .int .u64 0, .int .i64 0, .slice (some ⟨w.heap.size + 1, 0, none⟩) 1 1] 114)
    simpa using this
  · (repeat' (first | with_reducible exact Below.refl _ _ | with_reducible assumption | with_reducible refine below_alloc ?_ ?_ _ | with_reducible refine Below.setCell ?_ ?_ _ | with_reducible refine Below.drew ?_ | with_reducible refine below_drewN ?_ _ | with_reducible refine below_step (by assumption) ?_ ?_ | (with_reducible refine Below.trans ?_ (Below.mono (by assumption) ?_)) | exact Nat.le_refl _ | (simp; done) | (simp; omega) | omega))

theorem rloop_next {l : List UInt8} {d m b kk c dp : Nat} {ks : List (List UInt8)} {kv v' : Value} {w wr w1 w4 : World} {x : Sh} {X : Obj} {nx : Int}
    (hlt : kk < m) (hdp : dp ≤ d) (hks : ks.length = kk) (hsum : sumL ks = c) (hcut : CutsAt l b ks) (hprog : KProg (rd d) l b m kk c dp ks) (hr : rd d (l.drop (b + c)) = some x)
    (hz0 : w1.heap[w.heap.size]? = some (.cells #[.int .i64 0, .int .i64 0, .int .u64 0, .int .i64 0, .slice none 0 0] 114 (0, 0)))
    (hz2 : w1.heap[w.heap.size + 1 + 1]? = some (.cells #[.int .i64 0, .int .i64 (dp + 1 : Nat), .int .u64 0, .int .i64 0, kv] 114 (0, 0)))
    (hw1 : w1.ownsRow (w.heap.size + 1) 3 1 kv (kk + 1) ((offsL b ks).map fun i : Nat => .int .i64 i))
    (hbel : Below w.heap.size w wr) (hb1 : Below wr.heap.size wr w1) (hnx : nx = (b : Int) + c + x.len)
    (hown : w4.ownsRow (w.heap.size + 1) 3 1 v' (kk + 1 + 1) (((offsL b ks).map fun i : Nat => Value.int .i64 i) ++ [.int .i64 nx]))
    (hgr : ((((w1.setCell ⟨w.heap.size + 1 + 1, 1, none⟩ (.int .i64 (if dp < x.deep then (x.deep : Int) + 1 else (dp : Int) + 1))).alloc X).alloc (.cells #[.int .i64 nx] 3))).grownBy w4 kv.ownBlock) :
    RLoop l d m b w (.int .i64 nx) (.int .i64 ((kk : Int) + 1)) (w4.setCell ⟨w.heap.size + 1 + 1, 4, none⟩ v') := by
  obtain ⟨hx1, hx2, hx3, hx4, _⟩ := rd_ok _ _ _ hr
  rw [List.length_drop] at hx2
  have hlen : ((l.drop (b + c)).take x.len).length = x.len := by rw [List.length_take, List.length_drop]; omega
  have e1 : sumL (ks ++ [(l.drop (b + c)).take x.len]) = c + x.len := by rw [sumL_snoc, hsum, hlen]
  have hne : some (w.heap.size + 1 + 1) ≠ kv.ownBlock := own_ne hw1 hz2 (by decide)
  have hlt0 := blk_lt hz0
  have hlt2 := blk_lt hz2
  have hbl : ∀ g, kv.ownBlock = some g → w.heap.size + 1 ≤ g := by
    intro g hg
    rcases hw1.2 with ⟨rfl, _⟩ | ⟨g', cap, cur, rfl, h, _⟩
    · simp [Value.ownBlock] at hg
    · simp [Value.ownBlock] at hg; omega
  have h0 : w4.heap[w.heap.size]? = _ := blk_grown (blk_alloc (blk_alloc (blk_ne hz0 (p := ⟨w.heap.size + 1 + 1, 1, none⟩) (by simp; omega) _) X) _) hgr (by intro e; have := hbl _ e.symm; omega)
  have h2 : w4.heap[w.heap.size + 1 + 1]? = _ := blk_grown (blk_alloc (blk_alloc (blk_set hz2 1 _) X) _) hgr hne
  have hv' : some (w.heap.size + 1 + 1) ≠ v'.ownBlock := own_ne hown h2 (by decide)
  refine ⟨kk + 1, c + x.len, max dp x.deep, ks ++ [(l.drop (b + c)).take x.len], v', by omega, by simp, by rw [hnx]; congr 1; omega, by omega, Nat.max_le.2 ⟨hdp, hx4⟩, by simp [hks], e1, ?_, kprog_some hprog hlt hr, blk_ne h0 (by simp; omega) _, ?_, ?_, ?_⟩
  · refine cutsAt_snoc ks b hcut ?_ ?_ ?_
    · rw [hsum, hlen]
    · rw [hsum, hlen]; omega
    · intro e; rw [e] at hlen; simp at hlen; omega
  · have h3 := blk_set h2 4 v'
    rw [h3]
    have : (if dp < x.deep then (x.deep : Int) + 1 else (dp : Int) + 1) = ((max dp x.deep + 1 : Nat) : Int) := by
      split <;> omega
    simp [this]
  · have h5 := own_ne_set hown (p := ⟨w.heap.size + 1 + 1, 4, none⟩) hv' v'
    rw [offsL_snoc, hsum, hlen, List.map_append]
    rw [hnx] at h5
    simpa using h5
  · refine Below.setCell ?_ (by simp; omega) _
    refine Below.grown ?_ hgr (by simp; omega) (fun g hg => by have := hbl g hg; omega)
    have hs := hbel.size
    (repeat' (first | with_reducible exact Below.refl _ _ | with_reducible assumption | with_reducible refine below_alloc ?_ ?_ _ | with_reducible refine Below.setCell ?_ ?_ _ | with_reducible refine Below.drew ?_ | with_reducible refine below_drewN ?_ _ | with_reducible refine below_step (by assumption) ?_ ?_ | (with_reducible refine Below.trans ?_ (Below.mono (by assumption) ?_)) | exact Nat.le_refl _ | (simp; done) | (simp; omega) | omega))

theorem rdPost_kids {l : List UInt8} {i d m b k c dp : Nat} {hi : i < l.length} {ks : List (List UInt8)} {kv : Value} {w w6 : World} {nx dq : Int}
    (hb : b = i + 1 + k) (h110 : l[i].toNat ≠ 110) (h116 : l[i].toNat ≠ 116) (hsum : sumL ks = c) (hlen : ks.length = m) (hfit : fitsB l[i] ks = true)
    (hprog : kidsBy (rd d) m (l.drop b) = some (ks, dp, c)) (hown : w6.ownsRow (w.heap.size + 1) 3 1 kv (m + 1) ((offsL b ks).map fun i : Nat => .int .i64 i))
    (hbel : Below w.heap.size w w6) (hnx : nx = (b : Int) + c) (hdq : dq = (dp : Int) + 1) :
    RdPost i w (rdFin l[i] k (kidsBy (rd d) m (l.drop b))) (.returned (.agg #[.int .i64 nx, .int .i64 dq, .int .u64 0, .int .i64 0, kv])) w6 := by
  rw [hprog]
  simp only [rdFin, hfit, if_true]
  have e : kidsOff (⟨l[i], 1 + k + c, dp + 1, 0, [], ks⟩ : Sh) i = offsL b ks := by
    simp only [kidsOff]
    rw [if_neg (by omega), hsum]
    congr 1; omega
  refine rdPost_some (by rw [hnx]; simp; omega) (by rw [hdq]; simp) rfl (by simp [frm, h116]) ?_ hbel
  rw [e, offsL_length, hlen]
  exact own_base hown (by omega)

theorem rdPost_unfit {l : List UInt8} {i d m b k c dp : Nat} {hi : i < l.length} {ks : List (List UInt8)} {w w6 : World}
    (hfit : fitsB l[i] ks = false) (hprog : kidsBy (rd d) m (l.drop b) = some (ks, dp, c)) (hbel : Below w.heap.size w w6) :
    RdPost i w (rdFin l[i] k (kidsBy (rd d) m (l.drop b))) (.returned (.agg #[.int .i64 (-1), .int .i64 0, .int .u64 0, .int .i64 0, .slice none 0 0])) w6 := by
  rw [hprog]
  simp only [rdFin, hfit]
  exact rdPost_none hbel

set_option maxRecDepth 100000 in
set_option maxHeartbeats 2000000 in
theorem refReadKidsA (l : List UInt8) (i d m k : Nat) (hi : i < l.length) (hl : l.length ≤ 9000000000000000000) (hc0 : l[i].toNat ≠ 110) (hc1 : l[i].toNat ≠ 116)
    (h84 : l[i].toNat ≠ 84) (hd : d ≤ 64) (ih : RefIH d l) (hcnt : cnt l[i] (l.drop (i + 1)) = some (m, k)) (D : Int) (hD : D = d + 1) (w : World) :
    Calls Tryd.prog 87 #[.string (bs l), .int .i64 i, .int .i64 D] w (RdPost i w (rd (d + 1) (l.drop i))) := by
  have hD0 : (D == 0) = false := by simp; omega
  have hD1 : 1 ≤ D ∧ D ≤ 65 := by omega
  have HD := Lib.hid hD
  clear hD
  rw [rd_at hi, if_neg hc0, if_neg hc1, hcnt]
  simp only []
  have et : ((i : Int) + 1).toNat = i + 1 := by omega
  have Ht := Lib.hid et
  clear et
  have HC := Lib.hid hcnt
  have hm32 := (cnt_bound hcnt).1
  obtain ⟨i0, hi0, hi1, hi2, hi3⟩ := info_parts Tryd.infoInt
  have hkb := (cnt_bound hcnt).2
  rw [List.length_drop] at hkb
  obtain ⟨b, hb⟩ : ∃ b, b = i + 1 + k := ⟨_, rfl⟩
  rw [← hb]
  have hbl : b ≤ l.length := by omega
  clear hkb
  obtain ⟨ha, rfl⟩ : arity l[i] = some m ∧ k = 0 := by
    simp only [cnt, ← UInt8.toNat_inj, UInt8.reduceToNat] at hcnt
    rw [if_neg h84] at hcnt
    cases ha : arity l[i] with
    | none => simp [ha] at hcnt
    | some v => simp [ha] at hcnt; simp [hcnt]
  clear hcnt
  have HA : Hid (arV (arity l[i]) = m) := by show arV (arity l[i]) = m; rw [ha]; rfl
  clear ha
  have HB := Lib.hid hb
  clear hb
  have hbi : ((i : Int) + 1) = b := by have := HB.out; omega
  have HBI := Lib.hid hbi
  clear hbi
  go_enter Tryd.func87, Tryd.ntmps87
  go_wp2_with (go_at_call 112; refine (refParts _ _).mono ?_; rintro e w1 ⟨rfl, rfl⟩; rw [HA.out])
  rw [HBI.out]
  go_loopw [12, 16] (fun nx iv wr => RLoop l d m b w nx iv wr) (fun _ iv _ => m - (intOf iv).toNat)
  case atStart => exact rloop_start l d m b hbl w _ rfl
  case round =>
    obtain ⟨kk, c, dp, ks, kv, hk, rfl, rfl, hbc, hdp, hksl, hsum, hcut, hprog, hz0, hz2, hown, hbel⟩ := hrel
    have Hks := Lib.hid hksl
    have Hsum := Lib.hid hsum
    have Hcut := Lib.hid hcut
    have Hprog := Lib.hid hprog
    have Hz0 := Lib.hid hz0
    have Hz2 := Lib.hid hz2
    clear hksl hsum hcut hprog hz0 hz2
    have hsw := hbel.size
    have hsw2 := blk_lt Hz2.out
    by_cases hlt : kk < m
    · cases hr : rd d (l.drop (b + c)) with
      | none =>
        have HR := Lib.hid hr
        clear hr
        go_wp2_with (first | (go_at_call 87; refine (ih _ _ _ (by omega) (by omega) (by have := HD.out; omega)).mono ?_; rintro e w1 hp; rw [show ((b : Int) + c).toNat = b + c by omega, HR.out] at hp; obtain ⟨v1, v2, v3, rfl, hb1⟩ := hp; have Hy0 := Lib.hid (blk_below Hz0.out hb1 (blk_lt Hz0.out)); have hsz := blk_lt Hy0.out) | (go_at_call 110; refine (refNone _).mono ?_; rintro e w3 ⟨rfl, hb3⟩; have Hx0 := Lib.hid (blk_below (blk_alloc Hy0.out _) hb3 (by simp; omega)); have f0 := blk_free Hx0.out; have f1 := blk_cell Hx0.out))
        exact bodyPost_ret (v := .agg #[.int .i64 (-1), .int .i64 0, .int .u64 0, .int .i64 0, .slice none 0 0]) (by simp [results, Tryd.results87, go_sem, f0, f1]) rfl (by
          rw [kprog_none Hprog.out hlt HR.out]
          exact rdPost_none (by (repeat' (first | with_reducible exact Below.refl _ _ | with_reducible assumption | with_reducible refine below_alloc ?_ ?_ _ | with_reducible refine Below.setCell ?_ ?_ _ | with_reducible refine Below.drew ?_ | with_reducible refine below_drewN ?_ _ | with_reducible refine below_step (by assumption) ?_ ?_ | (with_reducible refine Below.trans ?_ (Below.mono (by assumption) ?_)) | exact Nat.le_refl _ | (simp; done) | (simp; omega) | omega))))
      | some x =>
        obtain ⟨hx1, hx2, hx3, hx4, _⟩ := rd_ok _ _ _ hr
        rw [List.length_drop] at hx2
        have HR := Lib.hid hr
        clear hr
        go_wp2_with (first | (go_at_call 87; refine (ih _ _ _ (by omega) (by omega) (by have := HD.out; omega)).mono ?_; rintro e w1 hp; rw [show ((b : Int) + c).toNat = b + c by omega, HR.out] at hp; obtain ⟨xa, xn, xc, rfl, _, hb1⟩ := hp; have Hy0 := Lib.hid (blk_below Hz0.out hb1 (blk_lt Hz0.out)); have hsz := blk_lt Hy0.out; have Hy2 := Lib.hid (blk_below Hz2.out hb1 (blk_lt Hz2.out)); have hsz2 := blk_lt Hy2.out; have hown1 := own_below hown hb1 rfl; have hne1 := own_ne hown1 Hy2.out (by decide); have f0 := blk_free Hy2.out; have f1 := blk_cell Hy2.out) | (at_builtin; go_must (refine wpList_append_own _ rfl _ _ 112 rfl (w.heap.size + 1) 3 i0 (.int .i64 0) 1 8 Tryd.underlying112 hi0 hi1 hi2 hi3 rfl (by decide) _ _ _ rfl (own_alloc (own_alloc (own_ne_set hown1 hne1 _) _) _) ⟨w1.heap.size + 1, 0, none⟩ 1 1 [.int .i64 ((b : Int) + c + x.len)] rfl rfl ?c1 ?c2 ?c3 ?c4 ?c5 ?_; (case c1 => (exact cell_one_at (by simp))); (case c2 => exact one1 rfl); (case c3 => (unfold maxLen; omega)); (case c4 => (omega)); (case c5 => (first | (simp; done) | (simp; omega))); (intro v' w4 hown4 hgr4 _); (obtain ⟨ad4, n4, cp4, hv4⟩ := own_slice hown4); (subst hv4); (have Hq := Lib.hid (app_keep Hy2.out hgr4 hne1)); (have f2 := blk_free Hq.out); (have f3 := blk_cell Hq.out))))
        all_goals
          go_roundw
          case rel => exact rloop_next hlt hdp Hks.out Hsum.out Hcut.out Hprog.out HR.out Hy0.out Hy2.out hown1 hbel hb1 rfl hown4 hgr4
          case measure => simp [intOf]; omega
    · obtain rfl : kk = m := by omega
      have Hp := Lib.hid (kprog_end Hprog.out)
      have hne : some (w.heap.size + 1 + 1) ≠ kv.ownBlock := own_ne hown Hz2.out (by decide)
      have hne0 : some w.heap.size ≠ kv.ownBlock := own_ne hown Hz0.out (by decide)
      have Hy0 := Lib.hid (blk_ne Hz0.out (p := ⟨w.heap.size + 1 + 1, 0, none⟩) (by simp; omega) (.int .i64 ((b : Int) + c)))
      have Hy2 := Lib.hid (blk_set Hz2.out 0 (.int .i64 ((b : Int) + c)))
      have f0 := blk_free Hz2.out
      have f1 := blk_cell Hz2.out
      have hcnt2 : Hid (∃ r k, cnt l[i] r = some (kk, k)) := ⟨_, _, HC.out⟩
      obtain ⟨ad, kn, kc, hkv⟩ := own_slice hown
      subst hkv
      cases hf : fitsB l[i] ks with
      | false =>
        have HF := Lib.hid hf
        clear hf
        go_wp2_with (first | (go_at_call 113; go_must (refine (refFitsAll l i b kk hi ks Hks.out hcnt2.out Hcut.out _ _ _ _ _ hl hc0 hc1 _ (w.heap.size + 1) (own_ne_set hown (p := ⟨w.heap.size + 1 + 1, 0, none⟩) hne _)).mono ?_); rintro e w5 ⟨rfl, hb5⟩; rw [HF.out]; have Hv0 := Lib.hid (blk_below Hy0.out hb5 (blk_lt Hy0.out)); have hsz := blk_lt Hv0.out) | (go_at_call 110; refine (refNone _).mono ?_; rintro e w6 ⟨rfl, hb6⟩; have Hx0 := Lib.hid (blk_below Hv0.out hb6 hsz); have f4 := blk_free Hx0.out; have f5 := blk_cell Hx0.out))
        exact bodyPost_ret (v := .agg #[.int .i64 (-1), .int .i64 0, .int .u64 0, .int .i64 0, .slice none 0 0]) (by simp [results, Tryd.results87, go_sem, f4, f5]) rfl (rdPost_unfit HF.out Hp.out (by (repeat' (first | with_reducible exact Below.refl _ _ | with_reducible assumption | with_reducible refine below_alloc ?_ ?_ _ | with_reducible refine Below.setCell ?_ ?_ _ | with_reducible refine Below.drew ?_ | with_reducible refine below_drewN ?_ _ | with_reducible refine below_step (by assumption) ?_ ?_ | (with_reducible refine Below.trans ?_ (Below.mono (by assumption) ?_)) | exact Nat.le_refl _ | (simp; done) | (simp; omega) | omega))))
      | true =>
        have HF := Lib.hid hf
        clear hf
        go_wp2_with (go_at_call 113; go_must (refine (refFitsAll l i b kk hi ks Hks.out hcnt2.out Hcut.out _ _ _ _ _ hl hc0 hc1 _ (w.heap.size + 1) (own_ne_set hown (p := ⟨w.heap.size + 1 + 1, 0, none⟩) hne _)).mono ?_); rintro e w5 ⟨rfl, hb5⟩; rw [HF.out]; have Hv0 := Lib.hid (blk_below Hy0.out hb5 (blk_lt Hy0.out)); have f4 := blk_free Hv0.out; have f5 := blk_cell Hv0.out; have Hv2 := Lib.hid (blk_below Hy2.out hb5 (blk_lt Hy2.out)); have f6 := blk_free Hv2.out; have f7 := blk_cell Hv2.out; have hown5 := own_below (own_ne_set hown (p := ⟨w.heap.size + 1 + 1, 0, none⟩) hne _) hb5 rfl)
        refine bodyPost_ret (v := .agg #[.int .i64 ((b : Int) + c), .int .i64 ((dp : Int) + 1), .int .u64 0, .int .i64 0, .slice ad kn kc]) (by simp [results, Tryd.results87, go_sem, f4, f5]) rfl ?_
        refine rdPost_kids HB.out hc0 hc1 Hsum.out Hks.out HF.out Hp.out ?_ ?_ rfl rfl
        · exact own_ne_set (own_ne_set (own_ne_set (own_ne_set (own_ne_set hown5 hne0 _) hne0 _) hne0 _) hne0 _) hne0 _
        · (repeat' (first | with_reducible exact Below.refl _ _ | with_reducible assumption | with_reducible refine below_alloc ?_ ?_ _ | with_reducible refine Below.setCell ?_ ?_ _ | with_reducible refine Below.drew ?_ | with_reducible refine below_drewN ?_ _ | with_reducible refine below_step (by assumption) ?_ ?_ | (with_reducible refine Below.trans ?_ (Below.mono (by assumption) ?_)) | exact Nat.le_refl _ | (simp; done) | (simp; omega) | omega))

end Go.Proofs.YtchbhainmalbbaaDoor
