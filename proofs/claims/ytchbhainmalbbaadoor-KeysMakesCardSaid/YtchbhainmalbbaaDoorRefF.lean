/- The reference reads a tuple. -/
import Derived.Test.YtchbhainmalbbaaDoorRefE
namespace Go.Proofs.YtchbhainmalbbaaDoor
open Go.RowKit

set_option maxRecDepth 100000 in
set_option maxHeartbeats 2000000 in
theorem refReadKidsB (l : List UInt8) (i d m k : Nat) (hi : i < l.length) (hl : l.length ≤ 9000000000000000000) (hc0 : l[i].toNat ≠ 110) (hc1 : l[i].toNat ≠ 116)
    (h84 : l[i].toNat = 84) (hd : d ≤ 64) (ih : RefIH d l) (hcnt : cnt l[i] (l.drop (i + 1)) = some (m, k)) (D : Int) (hD : D = d + 1) (w : World) :
    Calls Tryd.prog 87 #[.string (bs l), .int .i64 i, .int .i64 D] w (RdPost i w (rd (d + 1) (l.drop i))) := by
  have hD0 : (D == 0) = false := by simp; omega
  have hD1 : 1 ≤ D ∧ D ≤ 65 := by omega
  have HD := Lib.hid hD
  clear hD
  rw [rd_at hi, if_neg hc0, if_neg hc1, hcnt]
  simp only []
  have et : ((i : Int) + 1).toNat = i + 1 := by omega
  have Ht := Lib.hid et
  clear et
  have HC := Lib.hid hcnt
  have hm32 := (cnt_bound hcnt).1
  obtain ⟨i0, hi0, hi1, hi2, hi3⟩ := info_parts Tryd.infoInt
  have hkb := (cnt_bound hcnt).2
  rw [List.length_drop] at hkb
  obtain ⟨b, hb⟩ : ∃ b, b = i + 1 + k := ⟨_, rfl⟩
  rw [← hb]
  have hbl : b ≤ l.length := by omega
  clear hkb
  have hnum : num 58 (l.drop (i + 1)) = some (m, k) := by
    simp only [cnt, ← UInt8.toNat_inj, UInt8.reduceToNat] at hcnt
    rw [if_pos h84] at hcnt
    cases hn : num 58 (l.drop (i + 1)) with
    | none => simp [hn] at hcnt
    | some v =>
      obtain ⟨n, k'⟩ := v
      simp only [hn] at hcnt
      split at hcnt
      · simp at hcnt
      · simpa using hcnt
  clear hcnt
  have HA : Hid (arV (arity l[i]) = -1) := by
    show arV (arity l[i]) = -1
    have : arity l[i] = none := by
      simp only [arity, ← UInt8.toNat_inj, UInt8.reduceToNat]
      rw [if_neg (by omega), if_neg (by omega)]
    rw [this]; rfl
  have hb84 : (((l[i].toNat : Nat) : Int) == 84) = true := by simp [h84]
  clear h84
  have Hn := Lib.hid hnum
  clear hnum
  have HB := Lib.hid hb
  have hbi : ((i : Int) + 1 + k) = b := by omega
  clear hb
  have HBI := Lib.hid hbi
  clear hbi
  go_enter Tryd.func87, Tryd.ntmps87
  go_wp2_with (first | (go_at_call 112; refine (refParts _ _).mono ?_; rintro e w1 ⟨rfl, rfl⟩; rw [HA.out]) | (go_at_call 111; refine (refNumberI _ _ _ 58 (by omega) (by omega) rfl hl _).mono ?_; rintro e w1 ⟨rfl, rfl⟩; rw [Ht.out, Hn.out]; simp only [numV]; rw [show ((i + 1 + k : Nat) : Int) = b from by have := HB.out; omega]))
  go_loopw [12, 16] (fun nx iv wr => RLoop l d m b w nx iv wr) (fun _ iv _ => m - (intOf iv).toNat)
  case atStart => exact rloop_start l d m b hbl w _ rfl
  case round =>
    obtain ⟨kk, c, dp, ks, kv, hk, rfl, rfl, hbc, hdp, hksl, hsum, hcut, hprog, hz0, hz2, hown, hbel⟩ := hrel
    have Hks := Lib.hid hksl
    have Hsum := Lib.hid hsum
    have Hcut := Lib.hid hcut
    have Hprog := Lib.hid hprog
    have Hz0 := Lib.hid hz0
    have Hz2 := Lib.hid hz2
    clear hksl hsum hcut hprog hz0 hz2
    have hsw := hbel.size
    have hsw2 := blk_lt Hz2.out
    by_cases hlt : kk < m
    · cases hr : rd d (l.drop (b + c)) with
      | none =>
        have HR := Lib.hid hr
        clear hr
        go_wp2_with (first | (go_at_call 87; refine (ih _ _ _ (by omega) (by omega) (by have := HD.out; omega)).mono ?_; rintro e w1 hp; rw [show ((b : Int) + c).toNat = b + c by omega, HR.out] at hp; obtain ⟨v1, v2, v3, rfl, hb1⟩ := hp; have Hy0 := Lib.hid (blk_below Hz0.out hb1 (blk_lt Hz0.out)); have hsz := blk_lt Hy0.out) | (go_at_call 110; refine (refNone _).mono ?_; rintro e w3 ⟨rfl, hb3⟩; have Hx0 := Lib.hid (blk_below (blk_alloc Hy0.out _) hb3 (by simp; omega)); have f0 := blk_free Hx0.out; have f1 := blk_cell Hx0.out))
        exact bodyPost_ret (v := .agg #[.int .i64 (-1), .int .i64 0, .int .u64 0, .int .i64 0, .slice none 0 0]) (by simp [results, Tryd.results87, go_sem, f0, f1]) rfl (by
          rw [kprog_none Hprog.out hlt HR.out]
          exact rdPost_none (by (repeat' (first | with_reducible exact Below.refl _ _ | with_reducible assumption | with_reducible refine below_alloc ?_ ?_ _ | with_reducible refine Below.setCell ?_ ?_ _ | with_reducible refine Below.drew ?_ | with_reducible refine below_drewN ?_ _ | with_reducible refine below_step (by assumption) ?_ ?_ | (with_reducible refine Below.trans ?_ (Below.mono (by assumption) ?_)) | exact Nat.le_refl _ | (simp; done) | (simp; omega) | omega))))
      | some x =>
        obtain ⟨hx1, hx2, hx3, hx4, _⟩ := rd_ok _ _ _ hr
        rw [List.length_drop] at hx2
        have HR := Lib.hid hr
        clear hr
        go_wp2_with (first | (go_at_call 87; refine (ih _ _ _ (by omega) (by omega) (by have := HD.out; omega)).mono ?_; rintro e w1 hp; rw [show ((b : Int) + c).toNat = b + c by omega, HR.out] at hp; obtain ⟨xa, xn, xc, rfl, _, hb1⟩ := hp; have Hy0 := Lib.hid (blk_below Hz0.out hb1 (blk_lt Hz0.out)); have hsz := blk_lt Hy0.out; have Hy2 := Lib.hid (blk_below Hz2.out hb1 (blk_lt Hz2.out)); have hsz2 := blk_lt Hy2.out; have hown1 := own_below hown hb1 rfl; have hne1 := own_ne hown1 Hy2.out (by decide); have f0 := blk_free Hy2.out; have f1 := blk_cell Hy2.out) | (at_builtin; go_must (refine wpList_append_own _ rfl _ _ 112 rfl (w.heap.size + 1) 3 i0 (.int .i64 0) 1 8 Tryd.underlying112 hi0 hi1 hi2 hi3 rfl (by decide) _ _ _ rfl (own_alloc (own_alloc (own_ne_set hown1 hne1 _) _) _) ⟨w1.heap.size + 1, 0, none⟩ 1 1 [.int .i64 ((b : Int) + c + x.len)] rfl rfl ?c1 ?c2 ?c3 ?c4 ?c5 ?_; (case c1 => (exact cell_one_at (by simp))); (case c2 => exact one1 rfl); (case c3 => (unfold maxLen; omega)); (case c4 => (omega)); (case c5 => (first | (simp; done) | (simp; omega))); (intro v' w4 hown4 hgr4 _); (obtain ⟨ad4, n4, cp4, hv4⟩ := own_slice hown4); (subst hv4); (have Hq := Lib.hid (app_keep Hy2.out hgr4 hne1)); (have f2 := blk_free Hq.out); (have f3 := blk_cell Hq.out))))
        all_goals
          go_roundw
          case rel => exact rloop_next hlt hdp Hks.out Hsum.out Hcut.out Hprog.out HR.out Hy0.out Hy2.out hown1 hbel hb1 rfl hown4 hgr4
          case measure => simp [intOf]; omega
    · obtain rfl : kk = m := by omega
      have Hp := Lib.hid (kprog_end Hprog.out)
      have hne : some (w.heap.size + 1 + 1) ≠ kv.ownBlock := own_ne hown Hz2.out (by decide)
      have hne0 : some w.heap.size ≠ kv.ownBlock := own_ne hown Hz0.out (by decide)
      have Hy0 := Lib.hid (blk_ne Hz0.out (p := ⟨w.heap.size + 1 + 1, 0, none⟩) (by simp; omega) (.int .i64 ((b : Int) + c)))
      have Hy2 := Lib.hid (blk_set Hz2.out 0 (.int .i64 ((b : Int) + c)))
      have f0 := blk_free Hz2.out
      have f1 := blk_cell Hz2.out
      have hcnt2 : Hid (∃ r k, cnt l[i] r = some (kk, k)) := ⟨_, _, HC.out⟩
      obtain ⟨ad, kn, kc, hkv⟩ := own_slice hown
      subst hkv
      cases hf : fitsB l[i] ks with
      | false =>
        have HF := Lib.hid hf
        clear hf
        go_wp2_with (first | (go_at_call 113; go_must (refine (refFitsAll l i b kk hi ks Hks.out hcnt2.out Hcut.out _ _ _ _ _ hl hc0 hc1 _ (w.heap.size + 1) (own_ne_set hown (p := ⟨w.heap.size + 1 + 1, 0, none⟩) hne _)).mono ?_); rintro e w5 ⟨rfl, hb5⟩; rw [HF.out]; have Hv0 := Lib.hid (blk_below Hy0.out hb5 (blk_lt Hy0.out)); have hsz := blk_lt Hv0.out) | (go_at_call 110; refine (refNone _).mono ?_; rintro e w6 ⟨rfl, hb6⟩; have Hx0 := Lib.hid (blk_below Hv0.out hb6 hsz); have f4 := blk_free Hx0.out; have f5 := blk_cell Hx0.out))
        exact bodyPost_ret (v := .agg #[.int .i64 (-1), .int .i64 0, .int .u64 0, .int .i64 0, .slice none 0 0]) (by simp [results, Tryd.results87, go_sem, f4, f5]) rfl (rdPost_unfit HF.out Hp.out (by (repeat' (first | with_reducible exact Below.refl _ _ | with_reducible assumption | with_reducible refine below_alloc ?_ ?_ _ | with_reducible refine Below.setCell ?_ ?_ _ | with_reducible refine Below.drew ?_ | with_reducible refine below_drewN ?_ _ | with_reducible refine below_step (by assumption) ?_ ?_ | (with_reducible refine Below.trans ?_ (Below.mono (by assumption) ?_)) | exact Nat.le_refl _ | (simp; done) | (simp; omega) | omega))))
      | true =>
        have HF := Lib.hid hf
        clear hf
        go_wp2_with (go_at_call 113; go_must (refine (refFitsAll l i b kk hi ks Hks.out hcnt2.out Hcut.out _ _ _ _ _ hl hc0 hc1 _ (w.heap.size + 1) (own_ne_set hown (p := ⟨w.heap.size + 1 + 1, 0, none⟩) hne _)).mono ?_); rintro e w5 ⟨rfl, hb5⟩; rw [HF.out]; have Hv0 := Lib.hid (blk_below Hy0.out hb5 (blk_lt Hy0.out)); have f4 := blk_free Hv0.out; have f5 := blk_cell Hv0.out; have Hv2 := Lib.hid (blk_below Hy2.out hb5 (blk_lt Hy2.out)); have f6 := blk_free Hv2.out; have f7 := blk_cell Hv2.out; have hown5 := own_below (own_ne_set hown (p := ⟨w.heap.size + 1 + 1, 0, none⟩) hne _) hb5 rfl)
        refine bodyPost_ret (v := .agg #[.int .i64 ((b : Int) + c), .int .i64 ((dp : Int) + 1), .int .u64 0, .int .i64 0, .slice ad kn kc]) (by simp [results, Tryd.results87, go_sem, f4, f5]) rfl ?_
        refine rdPost_kids HB.out hc0 hc1 Hsum.out Hks.out HF.out Hp.out ?_ ?_ rfl rfl
        · exact own_ne_set (own_ne_set (own_ne_set (own_ne_set (own_ne_set hown5 hne0 _) hne0 _) hne0 _) hne0 _) hne0 _
        · (repeat' (first | with_reducible exact Below.refl _ _ | with_reducible assumption | with_reducible refine below_alloc ?_ ?_ _ | with_reducible refine Below.setCell ?_ ?_ _ | with_reducible refine Below.drew ?_ | with_reducible refine below_drewN ?_ _ | with_reducible refine below_step (by assumption) ?_ ?_ | (with_reducible refine Below.trans ?_ (Below.mono (by assumption) ?_)) | exact Nat.le_refl _ | (simp; done) | (simp; omega) | omega))

end Go.Proofs.YtchbhainmalbbaaDoor
