/- The reference: does a signature fit? does a lock open? -/
import Derived.Test.YtfmckibiblhakaaGreatDoorLRefA
import Derived.Test.YtfmckibiblhakaaGreatDoorLockO
set_option linter.unusedSimpArgs false
set_option linter.unusedVariables false
namespace Go.Proofs.YtfmckibiblhakaaGreatDoor
open Go.RowKit

set_option maxRecDepth 100000 in
set_option maxHeartbeats 2000000 in
theorem refVerify (p m s : List UInt8) (hs : s.length ≤ 9000000000000000000) (w : World) :
    Calls Tryz.prog 123 #[.string (bs p), .string (bs m), .string (bs s)] w fun e w' => e = .returned (.bool (verifyT p m s)) ∧ Below w.heap.size w w' := by
  cases hr : rt s with
  | none =>
    have H : Hid (verifyT p m s = false) := by show verifyT p m s = false; unfold verifyT; rw [hr]
    have HR := Lib.hid hr
    clear hr
    go_enter Tryz.func123, Tryz.ntmps123
    go_wp2_with fail
    refine (refOpen s hs _).mono ?_
    rintro e w1 hp
    rw [HR.out] at hp
    obtain ⟨rfl, hb1⟩ := hp
    go_wp2_with fail
    go_ret
    exact ⟨by first | (rw [H.out]; done) | (rw [H.out]; rfl), by (repeat' (first | with_reducible exact Below.refl _ _ | with_reducible assumption | with_reducible refine below_alloc ?_ ?_ _ | with_reducible refine Below.setCell ?_ ?_ _ | with_reducible refine Below.drew ?_ | with_reducible refine below_drewN ?_ _ | with_reducible refine below_step (by assumption) ?_ ?_ | (with_reducible refine Below.trans ?_ (Below.mono (by assumption) ?_)) | exact Nat.le_refl _ | (simp; done) | (simp; omega) | omega))⟩
  | some x =>
    by_cases ho : x.op.toNat = 83
    · obtain ⟨a, b, hk, ha, hb, _⟩ := rt_two_kids hr (by simp [arity, ← UInt8.toNat_inj, ho])
      have hal := right_len ha
      have HV : Hid (verifyT p m s = (b == m && keyT a == p)) := by
        show verifyT p m s = _
        unfold verifyT
        rw [hr]
        simp [ho, hk]
      have HKS := Lib.hid hk
      have HR := Lib.hid hr
      have b1 : (((x.op.toNat : Nat) : Int) == 83) = true := by simp [ho]
      clear hr ho hk hb ha
      cases hbm : (b == m) with
      | false =>
        have H : Hid (verifyT p m s = false) := by show verifyT p m s = false; rw [HV.out, hbm]; rfl
        have hne : ¬ b = m := by simpa using hbm
        clear HV
        go_enter Tryz.func123, Tryz.ntmps123
        go_wp2_with fail
        refine (refOpen s hs _).mono ?_
        rintro e w1 hp
        rw [HR.out] at hp
        obtain ⟨ad, kn, kc, rfl, hown, hb1⟩ := hp
        rw [HKS.out] at hown
        obtain ⟨g, cap, hv, hgb, hgw, hcap, hcap2, hcell⟩ := own_cells hown (by simp)
        injection hv with hv1 hv2 hv3
        subst hv1 hv2 hv3
        have c0 := kcell_alloc (hcell 0 (.string (bs a)) rfl) (.cells #[.int .u8 x.op.toNat, .int .i64 (numOf x), .string (bs x.text), .slice (some ⟨g, 0, none⟩) 2 kc] 194)
        have c1 := kcell_alloc (hcell 1 (.string (bs b)) rfl) (.cells #[.int .u8 x.op.toNat, .int .i64 (numOf x), .string (bs x.text), .slice (some ⟨g, 0, none⟩) 2 kc] 194)
        clear hcell hown
        go_wp2_with fail
        go_ret
        exact ⟨by first | (rw [H.out]; done) | (rw [H.out]; rfl), by (repeat' (first | with_reducible exact Below.refl _ _ | with_reducible assumption | with_reducible refine below_alloc ?_ ?_ _ | with_reducible refine Below.setCell ?_ ?_ _ | with_reducible refine Below.drew ?_ | with_reducible refine below_drewN ?_ _ | with_reducible refine below_step (by assumption) ?_ ?_ | (with_reducible refine Below.trans ?_ (Below.mono (by assumption) ?_)) | exact Nat.le_refl _ | (simp; done) | (simp; omega) | omega))⟩
      | true =>
        obtain rfl : b = m := by simpa using hbm
        clear hbm
        have H : Hid (verifyT p b s = (keyT a == p)) := by show verifyT p b s = _; rw [HV.out]; simp
        clear HV
        go_enter Tryz.func123, Tryz.ntmps123
        go_wp2_with fail
        refine (refOpen s hs _).mono ?_
        rintro e w1 hp
        rw [HR.out] at hp
        obtain ⟨ad, kn, kc, rfl, hown, hb1⟩ := hp
        rw [HKS.out] at hown
        obtain ⟨g, cap, hv, hgb, hgw, hcap, hcap2, hcell⟩ := own_cells hown (by simp)
        injection hv with hv1 hv2 hv3
        subst hv1 hv2 hv3
        have c0 := kcell_alloc (hcell 0 (.string (bs a)) rfl) (.cells #[.int .u8 x.op.toNat, .int .i64 (numOf x), .string (bs x.text), .slice (some ⟨g, 0, none⟩) 2 kc] 194)
        have c1 := kcell_alloc (hcell 1 (.string (bs b)) rfl) (.cells #[.int .u8 x.op.toNat, .int .i64 (numOf x), .string (bs x.text), .slice (some ⟨g, 0, none⟩) 2 kc] 194)
        clear hcell hown
        go_wp2_with fail
        refine (refKey a (by omega) (by omega) _).mono ?_
        rintro e w2 ⟨rfl, hb3⟩
        go_wp2_with fail
        go_ret
        refine ⟨?_, by (repeat' (first | with_reducible exact Below.refl _ _ | with_reducible assumption | with_reducible refine below_alloc ?_ ?_ _ | with_reducible refine Below.setCell ?_ ?_ _ | with_reducible refine Below.drew ?_ | with_reducible refine below_drewN ?_ _ | with_reducible refine below_step (by assumption) ?_ ?_ | (with_reducible refine Below.trans ?_ (Below.mono (by assumption) ?_)) | exact Nat.le_refl _ | (simp; done) | (simp; omega) | omega))⟩
        rw [H.out]
        rw [show (keyT a == p) = (p == keyT a) from Bool.beq_comm]
        first | rfl | (congr 2; rw [Bool.eq_iff_iff]; simp; done) | (simp; done)
    · have H : Hid (verifyT p m s = false) := by show verifyT p m s = false; unfold verifyT; rw [hr]; simp [ho]
      have HR := Lib.hid hr
      have b1 : (((x.op.toNat : Nat) : Int) == 83) = false := by simp; omega
      clear hr ho
      go_enter Tryz.func123, Tryz.ntmps123
      go_wp2_with fail
      refine (refOpen s hs _).mono ?_
      rintro e w1 hp
      rw [HR.out] at hp
      obtain ⟨ad, kn, kc, rfl, hown, hb1⟩ := hp
      clear hown
      go_wp2_with fail
      go_ret
      exact ⟨by first | (rw [H.out]; done) | (rw [H.out]; rfl), by (repeat' (first | with_reducible exact Below.refl _ _ | with_reducible assumption | with_reducible refine below_alloc ?_ ?_ _ | with_reducible refine Below.setCell ?_ ?_ _ | with_reducible refine Below.drew ?_ | with_reducible refine below_drewN ?_ _ | with_reducible refine below_step (by assumption) ?_ ?_ | (with_reducible refine Below.trans ?_ (Below.mono (by assumption) ?_)) | exact Nat.le_refl _ | (simp; done) | (simp; omega) | omega))⟩

def ROpensIH (N : Nat) : Prop := ∀ (x : LT) (q : Nat → Prop) (v sv pv : Value) (sigs pres : List (List UInt8)) (msg : List UInt8) (after age : Int) (w : World), countL x ≤ N → rightsL x = true → LockIn q w x v → TermsAt sv sigs w → TermsAt pv pres w →
    sigs.length ≤ 9000000000000000000 → pres.length ≤ 9000000000000000000 → (∀ s ∈ sigs, s.length ≤ 9000000000000000000) → (∀ s ∈ pres, s.length ≤ 9000000000000000000) →
    Calls Tryz.prog 85 #[v, .agg #[sv, pv], .string (bs msg), .int .i64 after, .int .i64 age] w fun e w' => e = .returned (.bool (opensL (sgP sigs msg) (prP pres) after age x)) ∧ Below w.heap.size w w'
theorem sgP_take (sigs : List (List UInt8)) (msg t : List UInt8) (j : Nat) (h : j < sigs.length) : sgP (sigs.drop j) msg t = (verifyT t msg sigs[j] || sgP (sigs.drop (j + 1)) msg t) := by
  unfold sgP; rw [List.drop_eq_getElem_cons h, List.any_cons]
theorem prP_take (pres : List (List UInt8)) (t : List UInt8) (j : Nat) (h : j < pres.length) : prP (pres.drop j) t = (((oneT 72 pres[j]).2 == 0 && (oneT 72 pres[j]).1 == t) || prP (pres.drop (j + 1)) t) := by
  unfold prP; rw [List.drop_eq_getElem_cons h, List.any_cons]

set_option maxRecDepth 100000 in
set_option maxHeartbeats 8000000 in
theorem rlOpens1 (n : Int) (t : List UInt8) (kids : List LT) (ad : Option Addr) (c : Nat) (sa pa : Option Addr) (sc pc : Nat) (sigs pres : List (List UInt8)) (msg : List UInt8) (after age : Int) (w : World) (q : Nat → Prop)
    (hsv : TermsAt (.slice sa sigs.length sc) sigs w) (hpv : TermsAt (.slice pa pres.length pc) pres w) (hsn : sigs.length ≤ 9000000000000000000) (hpn : pres.length ≤ 9000000000000000000) (hst : ∀ s ∈ sigs, s.length ≤ 9000000000000000000) (hpt : ∀ s ∈ pres, s.length ≤ 9000000000000000000)  :
    Calls Tryz.prog 85 #[.agg #[.int .u8 1, .string (bs t), .int .i64 n, .slice ad kids.length c], .agg #[.slice sa sigs.length sc, .slice pa pres.length pc], .string (bs msg), .int .i64 after, .int .i64 age] w fun e w' =>
      e = .returned (.bool (sgP sigs msg t)) ∧ Below w.heap.size w w' := by
  have HSV := Lib.hid hsv
  have HPV := Lib.hid hpv
  have HST := Lib.hid hst
  have HPT := Lib.hid hpt
  clear hsv hpv hst hpt
  go_enter Tryz.func85, Tryz.ntmps85
  go_wp2
  go_loopw [11] (fun iv wr => ∃ j : Nat, j ≤ sigs.length ∧ iv = .int .i64 j ∧ Hid (wr.heap[w.heap.size]? = some (.cells #[.int .u8 1, .string (bs t), .int .i64 n, .slice ad kids.length c] 25 (0, 0))) ∧ Hid (wr.heap[w.heap.size + 1]? = some (.cells #[.slice sa sigs.length sc, .slice pa pres.length pc] 40 (0, 0))) ∧ Hid (GL [] w wr) ∧ Hid (sgP (sigs.drop j) msg t = sgP sigs msg t)) (fun iv _ => sigs.length - (intOf iv).toNat)
  case atStart => exact ⟨0, by omega, rfl, Lib.hid (blk_alloc (blk_new w (.cells #[.int .u8 1, .string (bs t), .int .i64 n, .slice ad kids.length c] 25)) (.cells #[.slice sa sigs.length sc, .slice pa pres.length pc] 40)), Lib.hid (by
    have h := blk_new (w.alloc (.cells #[.int .u8 1, .string (bs t), .int .i64 n, .slice ad kids.length c] 25)) (.cells #[.slice sa sigs.length sc, .slice pa pres.length pc] 40)
    rw [show (w.alloc (.cells #[.int .u8 1, .string (bs t), .int .i64 n, .slice ad kids.length c] 25)).heap.size = w.heap.size + 1 by simp] at h
    exact h), Lib.hid (by (repeat' (first | with_reducible exact gl_refl _ _ | with_reducible assumption | with_reducible refine gl_alloc ?_ _ | with_reducible refine gl_drewN ?_ _ | with_reducible refine gl_drew ?_ | (with_reducible refine gl_setn ?_ ?_ _; · (first | exact Nat.le_refl _ | (simp; done) | (simp; omega) | omega)) | (with_reducible refine gl_seti ?_ ?_ _; · (simp; done)) | with_reducible refine gl_below (by with_reducible assumption) ?_ | with_reducible refine gl_step (by with_reducible assumption) ?_ (by first | (simp; done) | (simp; omega)) | with_reducible refine gl_grown (by with_reducible assumption) ?_ (by first | (simp; done) | (simp; omega))))), Lib.hid rfl⟩
  case round =>
    obtain ⟨j, hj, rfl, H1, H2, hgr, hpr⟩ := hrel
    have f1 := blk_cell H1.out
    have e1 := blk_free H1.out
    have f2 := blk_cell H2.out
    have e2 := blk_free H2.out
    by_cases hlt : j < sigs.length
    · have i3 : (j : Int) < sigs.length := by omega
      rcases HSV.out with ⟨_, _, h0, h1⟩ | ⟨b, o, cc, h0, hb, hc⟩
      · subst h1; simp at hlt
      injection h0 with h01 h02 h03
      subst h01 h03
      have c0 : wr.cell? ⟨b, o + j, none⟩ = some (.string (bs sigs[j])) := by
        have := hc j _ (List.getElem?_eq_getElem hlt)
        simp only [World.cell?, hgr.out.block b hb (by simp)] at this ⊢
        exact this
      have hln := HST.out sigs[j] (List.getElem_mem hlt)
      have hp2 := hpr.out
      rw [sgP_take sigs msg t j hlt] at hp2
      generalize sigs[j] = sj at *
      obtain ⟨ve, hve⟩ : ∃ ve, verifyT t msg sj = ve := ⟨_, rfl⟩
      have HVE := Lib.hid hve
      rw [hve] at hp2
      clear hc h02 hve hpr HSV
      cases ve with
      | true =>
        have HP : Hid (sgP sigs msg t = true) := by show _ = _; rw [← hp2]; rfl
        clear hp2
        go_wp2
        go_region_held3 (fun w' => w'.cell? ⟨w.heap.size, 1, none⟩ = some (.string (bs t)) ∧ w'.cell? ⟨w.heap.size + 1, 0, none⟩ = some (.slice (some ⟨b, o, none⟩) sigs.length sc) ∧ w'.cell? ⟨b, o + j, none⟩ = some (.string (bs sj)))
          (first | go_keep | (go_split_ands; refine ⟨?_, ?_, ?_⟩ <;> exact (hbk.cell (World.block_lt_of_cell? _ _ (by assumption))).trans (by assumption)))
          ((go_at_call 123; refine (refVerify t msg sj hln _).mono ?_; rintro e wk ⟨rfl, hbk⟩; rw [HVE.out]; have hgk : GL [] wr wk := gl_below hbk (by (repeat' (first | with_reducible exact gl_refl _ _ | with_reducible assumption | with_reducible refine gl_alloc ?_ _ | with_reducible refine gl_drewN ?_ _ | with_reducible refine gl_drew ?_ | (with_reducible refine gl_setn ?_ ?_ _; · (first | exact Nat.le_refl _ | (simp; done) | (simp; omega) | omega)) | (with_reducible refine gl_seti ?_ ?_ _; · (simp; done)) | with_reducible refine gl_below (by with_reducible assumption) ?_ | with_reducible refine gl_step (by with_reducible assumption) ?_ (by first | (simp; done) | (simp; omega)) | with_reducible refine gl_grown (by with_reducible assumption) ?_ (by first | (simp; done) | (simp; omega)))))))
        all_goals
          go_wp2
          go_ret
          exact ⟨by rw [HP.out]; rfl, gl_to_below (gl_step hgk hgr.out (by simp))⟩
      | false =>
        have HP : Hid (sgP (sigs.drop (j + 1)) msg t = sgP sigs msg t) := by show _ = _; rw [← hp2]; simp
        clear hp2
        go_wp2
        go_region_held3 (fun w' => w'.cell? ⟨w.heap.size, 1, none⟩ = some (.string (bs t)) ∧ w'.cell? ⟨w.heap.size + 1, 0, none⟩ = some (.slice (some ⟨b, o, none⟩) sigs.length sc) ∧ w'.cell? ⟨b, o + j, none⟩ = some (.string (bs sj)))
          (first | go_keep | (go_split_ands; refine ⟨?_, ?_, ?_⟩ <;> exact (hbk.cell (World.block_lt_of_cell? _ _ (by assumption))).trans (by assumption)))
          ((go_at_call 123; refine (refVerify t msg sj hln _).mono ?_; rintro e wk ⟨rfl, hbk⟩; rw [HVE.out]; have hgk : GL [] wr wk := gl_below hbk (by (repeat' (first | with_reducible exact gl_refl _ _ | with_reducible assumption | with_reducible refine gl_alloc ?_ _ | with_reducible refine gl_drewN ?_ _ | with_reducible refine gl_drew ?_ | (with_reducible refine gl_setn ?_ ?_ _; · (first | exact Nat.le_refl _ | (simp; done) | (simp; omega) | omega)) | (with_reducible refine gl_seti ?_ ?_ _; · (simp; done)) | with_reducible refine gl_below (by with_reducible assumption) ?_ | with_reducible refine gl_step (by with_reducible assumption) ?_ (by first | (simp; done) | (simp; omega)) | with_reducible refine gl_grown (by with_reducible assumption) ?_ (by first | (simp; done) | (simp; omega)))))))
        all_goals
          go_wp2
          go_roundw
          case rel => exact ⟨j + 1, by omega, by go_num, Lib.hid (by have := blk_gl H1.out hgk (by simp); exact this), Lib.hid (by have := blk_gl H2.out hgk (by simp); exact this), Lib.hid (gl_step hgk hgr.out (by simp)), HP⟩
          case measure => simp [intOf]; omega
    · obtain rfl : j = sigs.length := by omega
      have hz := hpr.out
      rw [List.drop_length] at hz
      have HI : Hid (sgP sigs msg t = false) := by show _ = _; rw [← hz]; rfl
      have i4 : decide ((sigs.length : Int) < sigs.length) = false := by simp
      clear hz hpr
      go_wp2
      go_ret
      exact ⟨by rw [HI.out]; rfl, gl_to_below hgr.out⟩

set_option maxRecDepth 100000 in
set_option maxHeartbeats 8000000 in
theorem rlOpens2 (n : Int) (t : List UInt8) (kids : List LT) (ad : Option Addr) (c : Nat) (sa pa : Option Addr) (sc pc : Nat) (sigs pres : List (List UInt8)) (msg : List UInt8) (after age : Int) (w : World) (q : Nat → Prop)
    (hsv : TermsAt (.slice sa sigs.length sc) sigs w) (hpv : TermsAt (.slice pa pres.length pc) pres w) (hsn : sigs.length ≤ 9000000000000000000) (hpn : pres.length ≤ 9000000000000000000) (hst : ∀ s ∈ sigs, s.length ≤ 9000000000000000000) (hpt : ∀ s ∈ pres, s.length ≤ 9000000000000000000)  :
    Calls Tryz.prog 85 #[.agg #[.int .u8 2, .string (bs t), .int .i64 n, .slice ad kids.length c], .agg #[.slice sa sigs.length sc, .slice pa pres.length pc], .string (bs msg), .int .i64 after, .int .i64 age] w fun e w' =>
      e = .returned (.bool (prP pres t)) ∧ Below w.heap.size w w' := by
  have HSV := Lib.hid hsv
  have HPV := Lib.hid hpv
  have HST := Lib.hid hst
  have HPT := Lib.hid hpt
  clear hsv hpv hst hpt
  go_enter Tryz.func85, Tryz.ntmps85
  go_wp2
  go_loopw [12, 13, 14] (fun iv _ _ wr => ∃ j : Nat, j ≤ pres.length ∧ iv = .int .i64 j ∧ Hid (wr.heap[w.heap.size]? = some (.cells #[.int .u8 2, .string (bs t), .int .i64 n, .slice ad kids.length c] 25 (0, 0))) ∧ Hid (wr.heap[w.heap.size + 1]? = some (.cells #[.slice sa sigs.length sc, .slice pa pres.length pc] 40 (0, 0))) ∧ Hid (GL [] w wr) ∧ Hid (prP (pres.drop j) t = prP pres t)) (fun iv _ _ _ => pres.length - (intOf iv).toNat)
  case atStart => exact ⟨0, by omega, rfl, Lib.hid (blk_alloc (blk_new w (.cells #[.int .u8 2, .string (bs t), .int .i64 n, .slice ad kids.length c] 25)) (.cells #[.slice sa sigs.length sc, .slice pa pres.length pc] 40)), Lib.hid (by
    have h := blk_new (w.alloc (.cells #[.int .u8 2, .string (bs t), .int .i64 n, .slice ad kids.length c] 25)) (.cells #[.slice sa sigs.length sc, .slice pa pres.length pc] 40)
    rw [show (w.alloc (.cells #[.int .u8 2, .string (bs t), .int .i64 n, .slice ad kids.length c] 25)).heap.size = w.heap.size + 1 by simp] at h
    exact h), Lib.hid (by (repeat' (first | with_reducible exact gl_refl _ _ | with_reducible assumption | with_reducible refine gl_alloc ?_ _ | with_reducible refine gl_drewN ?_ _ | with_reducible refine gl_drew ?_ | (with_reducible refine gl_setn ?_ ?_ _; · (first | exact Nat.le_refl _ | (simp; done) | (simp; omega) | omega)) | (with_reducible refine gl_seti ?_ ?_ _; · (simp; done)) | with_reducible refine gl_below (by with_reducible assumption) ?_ | with_reducible refine gl_step (by with_reducible assumption) ?_ (by first | (simp; done) | (simp; omega)) | with_reducible refine gl_grown (by with_reducible assumption) ?_ (by first | (simp; done) | (simp; omega))))), Lib.hid rfl⟩
  case round =>
    obtain ⟨j, hj, rfl, H1, H2, hgr, hpr⟩ := hrel
    have f1 := blk_cell H1.out
    have e1 := blk_free H1.out
    have f2 := blk_cell H2.out
    have e2 := blk_free H2.out
    by_cases hlt : j < pres.length
    · have i3 : (j : Int) < pres.length := by omega
      rcases HPV.out with ⟨_, _, h0, h1⟩ | ⟨b, o, cc, h0, hb, hc⟩
      · subst h1; simp at hlt
      injection h0 with h01 h02 h03
      subst h01 h03
      have c0 : wr.cell? ⟨b, o + j, none⟩ = some (.string (bs pres[j])) := by
        have := hc j _ (List.getElem?_eq_getElem hlt)
        simp only [World.cell?, hgr.out.block b hb (by simp)] at this ⊢
        exact this
      have hln := HPT.out pres[j] (List.getElem_mem hlt)
      have hp2 := hpr.out
      rw [prP_take pres t j hlt] at hp2
      generalize pres[j] = sj at *
      have hcall := fun (W : World) => refOne 72 sj hln W
      generalize oneT 72 sj = z at *
      obtain ⟨hh, nn⟩ := z
      have HC := Lib.hid hcall
      clear hc h02 hpr HPV hcall
      by_cases hn : nn = 0
      · subst hn
        by_cases he : hh = t
        · subst he
          have HP : Hid (prP pres hh = true) := by show _ = _; rw [← hp2]; simp
          clear hp2
          go_wp2_with fail
          refine (HC.out _).mono ?_
          rintro e wk ⟨rfl, hbk⟩
          have hgk : GL [] wr wk := gl_below hbk (gl_refl _ _)
          have g1 := blk_gl H1.out hgk (by simp)
          have g2 := blk_cell g1
          have g3 := blk_free g1
          clear g1
          go_wp2
          go_ret
          exact ⟨by rw [HP.out]; rfl, gl_to_below (gl_step hgk hgr.out (by simp))⟩
        · have he2 : (hh == t) = false := by simpa using he
          have HP : Hid (prP (pres.drop (j + 1)) t = prP pres t) := by show _ = _; rw [← hp2]; simp [he2]
          clear hp2
          go_wp2_with fail
          refine (HC.out _).mono ?_
          rintro e wk ⟨rfl, hbk⟩
          have hgk : GL [] wr wk := gl_below hbk (gl_refl _ _)
          have g1 := blk_gl H1.out hgk (by simp)
          have g2 := blk_cell g1
          have g3 := blk_free g1
          clear g1
          go_wp2
          go_roundw
          case rel => exact ⟨j + 1, by omega, by go_num, Lib.hid (by have := blk_gl H1.out hgk (by simp); exact this), Lib.hid (by have := blk_gl H2.out hgk (by simp); exact this), Lib.hid (gl_step hgk hgr.out (by simp)), HP⟩
          case measure => simp [intOf]; omega
      · have hn2 : (nn == 0) = false := by simpa using hn
        have HP : Hid (prP (pres.drop (j + 1)) t = prP pres t) := by show _ = _; rw [← hp2]; simp [hn2]
        clear hp2
        go_wp2_with fail
        refine (HC.out _).mono ?_
        rintro e wk ⟨rfl, hbk⟩
        have hgk : GL [] wr wk := gl_below hbk (gl_refl _ _)
        go_wp2
        go_roundw
        case rel => exact ⟨j + 1, by omega, by go_num, Lib.hid (by have := blk_gl H1.out hgk (by simp); exact this), Lib.hid (by have := blk_gl H2.out hgk (by simp); exact this), Lib.hid (gl_step hgk hgr.out (by simp)), HP⟩
        case measure => simp [intOf]; omega
    · obtain rfl : j = pres.length := by omega
      have hz := hpr.out
      rw [List.drop_length] at hz
      have HI : Hid (prP pres t = false) := by show _ = _; rw [← hz]; rfl
      have i4 : decide ((pres.length : Int) < pres.length) = false := by simp
      clear hz hpr
      go_wp2
      go_ret
      exact ⟨by rw [HI.out]; rfl, gl_to_below hgr.out⟩

set_option maxRecDepth 100000 in
set_option maxHeartbeats 8000000 in
theorem rlOpens3 (n : Int) (t : List UInt8) (kids : List LT) (ad : Option Addr) (c : Nat) (sa pa : Option Addr) (sc pc : Nat) (sigs pres : List (List UInt8)) (msg : List UInt8) (after age : Int) (w : World) (q : Nat → Prop)
    (hsv : TermsAt (.slice sa sigs.length sc) sigs w) (hpv : TermsAt (.slice pa pres.length pc) pres w) (hsn : sigs.length ≤ 9000000000000000000) (hpn : pres.length ≤ 9000000000000000000) (hst : ∀ s ∈ sigs, s.length ≤ 9000000000000000000) (hpt : ∀ s ∈ pres, s.length ≤ 9000000000000000000)  :
    Calls Tryz.prog 85 #[.agg #[.int .u8 3, .string (bs t), .int .i64 n, .slice ad kids.length c], .agg #[.slice sa sigs.length sc, .slice pa pres.length pc], .string (bs msg), .int .i64 after, .int .i64 age] w fun e w' =>
      e = .returned (.bool (decide (n ≤ after))) ∧ Below w.heap.size w w' := by
  have HSV := Lib.hid hsv
  have HPV := Lib.hid hpv
  have HST := Lib.hid hst
  have HPT := Lib.hid hpt
  clear hsv hpv hst hpt
  go_enter Tryz.func85, Tryz.ntmps85
  go_wp2
  go_ret
  exact ⟨rfl, by (repeat' (first | with_reducible exact Below.refl _ _ | with_reducible assumption | with_reducible refine below_alloc ?_ ?_ _ | with_reducible refine Below.setCell ?_ ?_ _ | with_reducible refine Below.drew ?_ | with_reducible refine below_drewN ?_ _ | with_reducible refine below_step (by assumption) ?_ ?_ | (with_reducible refine Below.trans ?_ (Below.mono (by assumption) ?_)) | exact Nat.le_refl _ | (simp; done) | (simp; omega) | omega))⟩

set_option maxRecDepth 100000 in
set_option maxHeartbeats 8000000 in
theorem rlOpens4 (n : Int) (t : List UInt8) (kids : List LT) (ad : Option Addr) (c : Nat) (sa pa : Option Addr) (sc pc : Nat) (sigs pres : List (List UInt8)) (msg : List UInt8) (after age : Int) (w : World) (q : Nat → Prop)
    (hsv : TermsAt (.slice sa sigs.length sc) sigs w) (hpv : TermsAt (.slice pa pres.length pc) pres w) (hsn : sigs.length ≤ 9000000000000000000) (hpn : pres.length ≤ 9000000000000000000) (hst : ∀ s ∈ sigs, s.length ≤ 9000000000000000000) (hpt : ∀ s ∈ pres, s.length ≤ 9000000000000000000)  :
    Calls Tryz.prog 85 #[.agg #[.int .u8 4, .string (bs t), .int .i64 n, .slice ad kids.length c], .agg #[.slice sa sigs.length sc, .slice pa pres.length pc], .string (bs msg), .int .i64 after, .int .i64 age] w fun e w' =>
      e = .returned (.bool (decide (n ≤ age))) ∧ Below w.heap.size w w' := by
  have HSV := Lib.hid hsv
  have HPV := Lib.hid hpv
  have HST := Lib.hid hst
  have HPT := Lib.hid hpt
  clear hsv hpv hst hpt
  go_enter Tryz.func85, Tryz.ntmps85
  go_wp2
  go_ret
  exact ⟨rfl, by (repeat' (first | with_reducible exact Below.refl _ _ | with_reducible assumption | with_reducible refine below_alloc ?_ ?_ _ | with_reducible refine Below.setCell ?_ ?_ _ | with_reducible refine Below.drew ?_ | with_reducible refine below_drewN ?_ _ | with_reducible refine below_step (by assumption) ?_ ?_ | (with_reducible refine Below.trans ?_ (Below.mono (by assumption) ?_)) | exact Nat.le_refl _ | (simp; done) | (simp; omega) | omega))⟩

/-- So many open. -/
def cntO (f : LT → Bool) : List LT → Nat
  | [] => 0
  | x :: r => (if f x then 1 else 0) + cntO f r
theorem cntO_le (f : LT → Bool) : ∀ l : List LT, cntO f l ≤ l.length
  | [] => Nat.le_refl _
  | x :: r => by rw [cntO, List.length_cons]; have := cntO_le f r; split <;> omega
theorem cntO_take (f : LT → Bool) (l : List LT) (j : Nat) (h : j < l.length) : cntO f (l.take (j + 1)) = cntO f (l.take j) + (if f l[j] then 1 else 0) := by
  have happ : ∀ a b : List LT, cntO f (a ++ b) = cntO f a + cntO f b := by
    intro a b
    induction a with
    | nil => simp [cntO]
    | cons x r ih => rw [List.cons_append, cntO, cntO, ih]; omega
  rw [List.take_succ_eq_append_getElem h, happ, cntO, cntO]
  omega
theorem cntO_all (f : LT → Bool) : ∀ l : List LT, decide (cntO f l = l.length) = l.all f
  | [] => rfl
  | x :: r => by
    have h1 := cntO_le f r
    have h2 := cntO_all f r
    rw [cntO, List.length_cons, List.all_cons, ← h2]
    cases hf : f x with
    | true => simp; omega
    | false => simp; omega
theorem cntO_any (f : LT → Bool) : ∀ l : List LT, decide (0 < cntO f l) = l.any f
  | [] => rfl
  | x :: r => by
    have h2 := cntO_any f r
    rw [cntO, List.any_cons, ← h2]
    cases hf : f x with
    | true => simp; omega
    | false => simp

set_option maxRecDepth 100000 in
set_option maxHeartbeats 8000000 in
theorem rlOpens5 (n : Int) (t : List UInt8) (kids : List LT) (ad : Option Addr) (c : Nat) (sa pa : Option Addr) (sc pc : Nat) (sigs pres : List (List UInt8)) (msg : List UInt8) (after age : Int) (w : World) (q : Nat → Prop)
    (hsv : TermsAt (.slice sa sigs.length sc) sigs w) (hpv : TermsAt (.slice pa pres.length pc) pres w) (hsn : sigs.length ≤ 9000000000000000000) (hpn : pres.length ≤ 9000000000000000000) (hst : ∀ s ∈ sigs, s.length ≤ 9000000000000000000) (hpt : ∀ s ∈ pres, s.length ≤ 9000000000000000000) (N : Nat) (ih : ROpensIH N) (hcN : countRow kids ≤ N) (hrr : rightsRow kids = true) (hm0 : 0 < kids.length) (hm1 : kids.length ≤ 8) (hd : kids = [] ∨ ∃ b o, ad = some ⟨b, o, none⟩ ∧ b < w.heap.size ∧ q b ∧ RowIn q w kids b o) :
    Calls Tryz.prog 85 #[.agg #[.int .u8 5, .string (bs t), .int .i64 n, .slice ad kids.length c], .agg #[.slice sa sigs.length sc, .slice pa pres.length pc], .string (bs msg), .int .i64 after, .int .i64 age] w fun e w' =>
      e = .returned (.bool (kids.all (opensL (sgP sigs msg) (prP pres) after age))) ∧ Below w.heap.size w w' := by
  have HSV := Lib.hid hsv
  have HPV := Lib.hid hpv
  have HST := Lib.hid hst
  have HPT := Lib.hid hpt
  clear hsv hpv hst hpt
  have HD := Lib.hid hd
  have IH := Lib.hid ih
  have HRR := Lib.hid hrr
  obtain ⟨fo, hfo⟩ : ∃ fo : LT → Bool, fo = opensL (sgP sigs msg) (prP pres) after age := ⟨_, rfl⟩
  have HFO := Lib.hid hfo
  rw [← hfo]
  clear hd ih hrr hfo
  go_enter Tryz.func85, Tryz.ntmps85
  go_wp2
  go_loopw [15, 16] (fun nv iv wr => ∃ j : Nat, j ≤ kids.length ∧ iv = .int .i64 j ∧ nv = .int .i64 (cntO fo (kids.take j)) ∧ Hid (wr.heap[w.heap.size]? = some (.cells #[.int .u8 5, .string (bs t), .int .i64 n, .slice ad kids.length c] 25 (0, 0))) ∧ Hid (wr.heap[w.heap.size + 1]? = some (.cells #[.slice sa sigs.length sc, .slice pa pres.length pc] 40 (0, 0))) ∧ Hid (GL [] w wr)) (fun _ iv _ => kids.length - (intOf iv).toNat)
  case atStart => exact ⟨0, by omega, rfl, rfl, Lib.hid (blk_alloc (blk_new w (.cells #[.int .u8 5, .string (bs t), .int .i64 n, .slice ad kids.length c] 25)) (.cells #[.slice sa sigs.length sc, .slice pa pres.length pc] 40)), Lib.hid (by
    have h := blk_new (w.alloc (.cells #[.int .u8 5, .string (bs t), .int .i64 n, .slice ad kids.length c] 25)) (.cells #[.slice sa sigs.length sc, .slice pa pres.length pc] 40)
    rw [show (w.alloc (.cells #[.int .u8 5, .string (bs t), .int .i64 n, .slice ad kids.length c] 25)).heap.size = w.heap.size + 1 by simp] at h
    exact h), Lib.hid (by (repeat' (first | with_reducible exact gl_refl _ _ | with_reducible assumption | with_reducible refine gl_alloc ?_ _ | with_reducible refine gl_drewN ?_ _ | with_reducible refine gl_drew ?_ | (with_reducible refine gl_setn ?_ ?_ _; · (first | exact Nat.le_refl _ | (simp; done) | (simp; omega) | omega)) | (with_reducible refine gl_seti ?_ ?_ _; · (simp; done)) | with_reducible refine gl_below (by with_reducible assumption) ?_ | with_reducible refine gl_step (by with_reducible assumption) ?_ (by first | (simp; done) | (simp; omega)) | with_reducible refine gl_grown (by with_reducible assumption) ?_ (by first | (simp; done) | (simp; omega)))))⟩
  case round =>
    obtain ⟨j, hj, rfl, rfl, H1, H2, hgr⟩ := hrel
    have f1 := blk_cell H1.out
    have e1 := blk_free H1.out
    have f2 := blk_cell H2.out
    have e2 := blk_free H2.out
    by_cases hlt : j < kids.length
    · have i3 : (j : Int) < kids.length := by omega
      rcases HD.out with h0' | ⟨b, o, rfl, hb, hqb, hrow⟩
      · subst h0'; simp at hlt
      obtain ⟨u0, u1, u2, u3, hx, c0, c1, c2', c3⟩ := rowIn_get kids b o j kids[j] (rowIn_gl hgr.out kids b o hb hqb hrow) (List.getElem?_eq_getElem hlt)
      obtain ⟨ku, nu, tu, au, mu, cu, rfl, rfl, rfl, rfl⟩ := lockIn_cells hx
      have hcx : countL kids[j] ≤ N := by have := countL_mem kids kids[j] (List.getElem_mem hlt); omega
      have hrx := rights_mem kids kids[j] HRR.out (List.getElem_mem hlt)
      have hcall := fun (W : World) (hg : GL [] wr W) => IH.out kids[j] q _ _ _ sigs pres msg after age W hcx hrx (lockIn_gl hg _ _ hx) (termsAt_gl HSV.out (gl_step hg hgr.out (by simp))) (termsAt_gl HPV.out (gl_step hg hgr.out (by simp))) hsn hpn HST.out HPT.out
      rw [← HFO.out] at hcall
      have htk := cntO_take fo kids j hlt
      have hle := cntO_le fo (kids.take j)
      rw [List.length_take] at hle
      generalize fo kids[j] = z at *
      generalize cntO fo (kids.take j) = m at *
      have HTK := Lib.hid htk
      have HC := Lib.hid hcall
      have hm8 : (m : Int) ≤ 8 := by omega
      clear hcall hx hrow hcx hrx htk HD hle
      cases z with
      | true =>
        go_wp2
        go_region_held3 (fun w' => w'.cell? ⟨w.heap.size, 3, none⟩ = some (.slice (some ⟨b, o, none⟩) kids.length c) ∧ w'.cell? ⟨w.heap.size + 1, 0, none⟩ = some (.slice sa sigs.length sc) ∧ w'.cell? ⟨w.heap.size + 1, 1, none⟩ = some (.slice pa pres.length pc) ∧ w'.cell? ⟨b, o + j * 4, none⟩ = some (.int .u8 ku) ∧ w'.cell? ⟨b, o + j * 4 + 1, none⟩ = some (.string (bs tu)) ∧ w'.cell? ⟨b, o + j * 4 + 2, none⟩ = some (.int .i64 nu) ∧ w'.cell? ⟨b, o + j * 4 + 3, none⟩ = some (.slice au mu cu))
          (first | go_keep | (go_split_ands; refine ⟨?_, ?_, ?_, ?_, ?_, ?_, ?_⟩ <;> exact (hbk.cell (World.block_lt_of_cell? _ _ (by assumption))).trans (by assumption)))
          ((go_at_call 85; refine (HC.out _ (by first | exact gl_refl _ _ | exact gl_drew (gl_refl _ _) | exact gl_drewN (gl_refl _ _) _)).mono ?_; rintro e wk ⟨rfl, hbk⟩; have hgk : GL [] wr wk := gl_below hbk (by (repeat' (first | with_reducible exact gl_refl _ _ | with_reducible assumption | with_reducible refine gl_alloc ?_ _ | with_reducible refine gl_drewN ?_ _ | with_reducible refine gl_drew ?_ | (with_reducible refine gl_setn ?_ ?_ _; · (first | exact Nat.le_refl _ | (simp; done) | (simp; omega) | omega)) | (with_reducible refine gl_seti ?_ ?_ _; · (simp; done)) | with_reducible refine gl_below (by with_reducible assumption) ?_ | with_reducible refine gl_step (by with_reducible assumption) ?_ (by first | (simp; done) | (simp; omega)) | with_reducible refine gl_grown (by with_reducible assumption) ?_ (by first | (simp; done) | (simp; omega)))))))
        all_goals
          go_wp2
          go_roundw
          case rel => exact ⟨j + 1, by omega, by go_num, by rw [HTK.out]; first | rfl | (simp; done) | (congr 1; simp), Lib.hid (by have := blk_gl H1.out hgk (by simp); exact this), Lib.hid (by have := blk_gl H2.out hgk (by simp); exact this), Lib.hid (gl_step hgk hgr.out (by simp))⟩
          case measure => simp [intOf]; omega
      | false =>
        go_wp2
        go_region_held3 (fun w' => w'.cell? ⟨w.heap.size, 3, none⟩ = some (.slice (some ⟨b, o, none⟩) kids.length c) ∧ w'.cell? ⟨w.heap.size + 1, 0, none⟩ = some (.slice sa sigs.length sc) ∧ w'.cell? ⟨w.heap.size + 1, 1, none⟩ = some (.slice pa pres.length pc) ∧ w'.cell? ⟨b, o + j * 4, none⟩ = some (.int .u8 ku) ∧ w'.cell? ⟨b, o + j * 4 + 1, none⟩ = some (.string (bs tu)) ∧ w'.cell? ⟨b, o + j * 4 + 2, none⟩ = some (.int .i64 nu) ∧ w'.cell? ⟨b, o + j * 4 + 3, none⟩ = some (.slice au mu cu))
          (first | go_keep | (go_split_ands; refine ⟨?_, ?_, ?_, ?_, ?_, ?_, ?_⟩ <;> exact (hbk.cell (World.block_lt_of_cell? _ _ (by assumption))).trans (by assumption)))
          ((go_at_call 85; refine (HC.out _ (by first | exact gl_refl _ _ | exact gl_drew (gl_refl _ _) | exact gl_drewN (gl_refl _ _) _)).mono ?_; rintro e wk ⟨rfl, hbk⟩; have hgk : GL [] wr wk := gl_below hbk (by (repeat' (first | with_reducible exact gl_refl _ _ | with_reducible assumption | with_reducible refine gl_alloc ?_ _ | with_reducible refine gl_drewN ?_ _ | with_reducible refine gl_drew ?_ | (with_reducible refine gl_setn ?_ ?_ _; · (first | exact Nat.le_refl _ | (simp; done) | (simp; omega) | omega)) | (with_reducible refine gl_seti ?_ ?_ _; · (simp; done)) | with_reducible refine gl_below (by with_reducible assumption) ?_ | with_reducible refine gl_step (by with_reducible assumption) ?_ (by first | (simp; done) | (simp; omega)) | with_reducible refine gl_grown (by with_reducible assumption) ?_ (by first | (simp; done) | (simp; omega)))))))
        all_goals
          go_wp2
          go_roundw
          case rel => exact ⟨j + 1, by omega, by go_num, by rw [HTK.out]; first | rfl | (simp; done) | (congr 1; simp), Lib.hid (by have := blk_gl H1.out hgk (by simp); exact this), Lib.hid (by have := blk_gl H2.out hgk (by simp); exact this), Lib.hid (gl_step hgk hgr.out (by simp))⟩
          case measure => simp [intOf]; omega
    · obtain rfl : j = kids.length := by omega
      have hal := cntO_all fo kids
      have han := cntO_any fo kids
      have hle := cntO_le fo kids
      rw [List.take_length]
      have i4 : decide ((kids.length : Int) < kids.length) = false := by simp
      by_cases heq : cntO fo kids = kids.length
      · have HI : Hid ((kids.all fo) = true) := by
          show _ = true
          rw [← hal]; simpa using heq
        have e3 : (((cntO fo kids : Nat) : Int) == (kids.length : Int)) = true := by simp [heq]
        clear hal han
        generalize cntO fo kids = m at *
        go_wp2
        go_ret
        exact ⟨by rw [HI.out]; rfl, gl_to_below hgr.out⟩
      · have e3 : (((cntO fo kids : Nat) : Int) == (kids.length : Int)) = false := by simp; omega
        have HI : Hid ((kids.all fo) = false) := by
          show _ = _
          rw [← hal]; simpa using heq
        clear hal han heq
        generalize cntO fo kids = m at *
        go_wp2
        go_ret
        exact ⟨by rw [HI.out]; first | rfl | (simp; done), gl_to_below hgr.out⟩

set_option maxRecDepth 100000 in
set_option maxHeartbeats 8000000 in
theorem rlOpens6 (n : Int) (t : List UInt8) (kids : List LT) (ad : Option Addr) (c : Nat) (sa pa : Option Addr) (sc pc : Nat) (sigs pres : List (List UInt8)) (msg : List UInt8) (after age : Int) (w : World) (q : Nat → Prop)
    (hsv : TermsAt (.slice sa sigs.length sc) sigs w) (hpv : TermsAt (.slice pa pres.length pc) pres w) (hsn : sigs.length ≤ 9000000000000000000) (hpn : pres.length ≤ 9000000000000000000) (hst : ∀ s ∈ sigs, s.length ≤ 9000000000000000000) (hpt : ∀ s ∈ pres, s.length ≤ 9000000000000000000) (N : Nat) (ih : ROpensIH N) (hcN : countRow kids ≤ N) (hrr : rightsRow kids = true) (hm0 : 0 < kids.length) (hm1 : kids.length ≤ 8) (hd : kids = [] ∨ ∃ b o, ad = some ⟨b, o, none⟩ ∧ b < w.heap.size ∧ q b ∧ RowIn q w kids b o) :
    Calls Tryz.prog 85 #[.agg #[.int .u8 6, .string (bs t), .int .i64 n, .slice ad kids.length c], .agg #[.slice sa sigs.length sc, .slice pa pres.length pc], .string (bs msg), .int .i64 after, .int .i64 age] w fun e w' =>
      e = .returned (.bool (kids.any (opensL (sgP sigs msg) (prP pres) after age))) ∧ Below w.heap.size w w' := by
  have HSV := Lib.hid hsv
  have HPV := Lib.hid hpv
  have HST := Lib.hid hst
  have HPT := Lib.hid hpt
  clear hsv hpv hst hpt
  have HD := Lib.hid hd
  have IH := Lib.hid ih
  have HRR := Lib.hid hrr
  obtain ⟨fo, hfo⟩ : ∃ fo : LT → Bool, fo = opensL (sgP sigs msg) (prP pres) after age := ⟨_, rfl⟩
  have HFO := Lib.hid hfo
  rw [← hfo]
  clear hd ih hrr hfo
  go_enter Tryz.func85, Tryz.ntmps85
  go_wp2
  go_loopw [15, 16] (fun nv iv wr => ∃ j : Nat, j ≤ kids.length ∧ iv = .int .i64 j ∧ nv = .int .i64 (cntO fo (kids.take j)) ∧ Hid (wr.heap[w.heap.size]? = some (.cells #[.int .u8 6, .string (bs t), .int .i64 n, .slice ad kids.length c] 25 (0, 0))) ∧ Hid (wr.heap[w.heap.size + 1]? = some (.cells #[.slice sa sigs.length sc, .slice pa pres.length pc] 40 (0, 0))) ∧ Hid (GL [] w wr)) (fun _ iv _ => kids.length - (intOf iv).toNat)
  case atStart => exact ⟨0, by omega, rfl, rfl, Lib.hid (blk_alloc (blk_new w (.cells #[.int .u8 6, .string (bs t), .int .i64 n, .slice ad kids.length c] 25)) (.cells #[.slice sa sigs.length sc, .slice pa pres.length pc] 40)), Lib.hid (by
    have h := blk_new (w.alloc (.cells #[.int .u8 6, .string (bs t), .int .i64 n, .slice ad kids.length c] 25)) (.cells #[.slice sa sigs.length sc, .slice pa pres.length pc] 40)
    rw [show (w.alloc (.cells #[.int .u8 6, .string (bs t), .int .i64 n, .slice ad kids.length c] 25)).heap.size = w.heap.size + 1 by simp] at h
    exact h), Lib.hid (by (repeat' (first | with_reducible exact gl_refl _ _ | with_reducible assumption | with_reducible refine gl_alloc ?_ _ | with_reducible refine gl_drewN ?_ _ | with_reducible refine gl_drew ?_ | (with_reducible refine gl_setn ?_ ?_ _; · (first | exact Nat.le_refl _ | (simp; done) | (simp; omega) | omega)) | (with_reducible refine gl_seti ?_ ?_ _; · (simp; done)) | with_reducible refine gl_below (by with_reducible assumption) ?_ | with_reducible refine gl_step (by with_reducible assumption) ?_ (by first | (simp; done) | (simp; omega)) | with_reducible refine gl_grown (by with_reducible assumption) ?_ (by first | (simp; done) | (simp; omega)))))⟩
  case round =>
    obtain ⟨j, hj, rfl, rfl, H1, H2, hgr⟩ := hrel
    have f1 := blk_cell H1.out
    have e1 := blk_free H1.out
    have f2 := blk_cell H2.out
    have e2 := blk_free H2.out
    by_cases hlt : j < kids.length
    · have i3 : (j : Int) < kids.length := by omega
      rcases HD.out with h0' | ⟨b, o, rfl, hb, hqb, hrow⟩
      · subst h0'; simp at hlt
      obtain ⟨u0, u1, u2, u3, hx, c0, c1, c2', c3⟩ := rowIn_get kids b o j kids[j] (rowIn_gl hgr.out kids b o hb hqb hrow) (List.getElem?_eq_getElem hlt)
      obtain ⟨ku, nu, tu, au, mu, cu, rfl, rfl, rfl, rfl⟩ := lockIn_cells hx
      have hcx : countL kids[j] ≤ N := by have := countL_mem kids kids[j] (List.getElem_mem hlt); omega
      have hrx := rights_mem kids kids[j] HRR.out (List.getElem_mem hlt)
      have hcall := fun (W : World) (hg : GL [] wr W) => IH.out kids[j] q _ _ _ sigs pres msg after age W hcx hrx (lockIn_gl hg _ _ hx) (termsAt_gl HSV.out (gl_step hg hgr.out (by simp))) (termsAt_gl HPV.out (gl_step hg hgr.out (by simp))) hsn hpn HST.out HPT.out
      rw [← HFO.out] at hcall
      have htk := cntO_take fo kids j hlt
      have hle := cntO_le fo (kids.take j)
      rw [List.length_take] at hle
      generalize fo kids[j] = z at *
      generalize cntO fo (kids.take j) = m at *
      have HTK := Lib.hid htk
      have HC := Lib.hid hcall
      have hm8 : (m : Int) ≤ 8 := by omega
      clear hcall hx hrow hcx hrx htk HD hle
      cases z with
      | true =>
        go_wp2
        go_region_held3 (fun w' => w'.cell? ⟨w.heap.size, 3, none⟩ = some (.slice (some ⟨b, o, none⟩) kids.length c) ∧ w'.cell? ⟨w.heap.size + 1, 0, none⟩ = some (.slice sa sigs.length sc) ∧ w'.cell? ⟨w.heap.size + 1, 1, none⟩ = some (.slice pa pres.length pc) ∧ w'.cell? ⟨b, o + j * 4, none⟩ = some (.int .u8 ku) ∧ w'.cell? ⟨b, o + j * 4 + 1, none⟩ = some (.string (bs tu)) ∧ w'.cell? ⟨b, o + j * 4 + 2, none⟩ = some (.int .i64 nu) ∧ w'.cell? ⟨b, o + j * 4 + 3, none⟩ = some (.slice au mu cu))
          (first | go_keep | (go_split_ands; refine ⟨?_, ?_, ?_, ?_, ?_, ?_, ?_⟩ <;> exact (hbk.cell (World.block_lt_of_cell? _ _ (by assumption))).trans (by assumption)))
          ((go_at_call 85; refine (HC.out _ (by first | exact gl_refl _ _ | exact gl_drew (gl_refl _ _) | exact gl_drewN (gl_refl _ _) _)).mono ?_; rintro e wk ⟨rfl, hbk⟩; have hgk : GL [] wr wk := gl_below hbk (by (repeat' (first | with_reducible exact gl_refl _ _ | with_reducible assumption | with_reducible refine gl_alloc ?_ _ | with_reducible refine gl_drewN ?_ _ | with_reducible refine gl_drew ?_ | (with_reducible refine gl_setn ?_ ?_ _; · (first | exact Nat.le_refl _ | (simp; done) | (simp; omega) | omega)) | (with_reducible refine gl_seti ?_ ?_ _; · (simp; done)) | with_reducible refine gl_below (by with_reducible assumption) ?_ | with_reducible refine gl_step (by with_reducible assumption) ?_ (by first | (simp; done) | (simp; omega)) | with_reducible refine gl_grown (by with_reducible assumption) ?_ (by first | (simp; done) | (simp; omega)))))))
        all_goals
          go_wp2
          go_roundw
          case rel => exact ⟨j + 1, by omega, by go_num, by rw [HTK.out]; first | rfl | (simp; done) | (congr 1; simp), Lib.hid (by have := blk_gl H1.out hgk (by simp); exact this), Lib.hid (by have := blk_gl H2.out hgk (by simp); exact this), Lib.hid (gl_step hgk hgr.out (by simp))⟩
          case measure => simp [intOf]; omega
      | false =>
        go_wp2
        go_region_held3 (fun w' => w'.cell? ⟨w.heap.size, 3, none⟩ = some (.slice (some ⟨b, o, none⟩) kids.length c) ∧ w'.cell? ⟨w.heap.size + 1, 0, none⟩ = some (.slice sa sigs.length sc) ∧ w'.cell? ⟨w.heap.size + 1, 1, none⟩ = some (.slice pa pres.length pc) ∧ w'.cell? ⟨b, o + j * 4, none⟩ = some (.int .u8 ku) ∧ w'.cell? ⟨b, o + j * 4 + 1, none⟩ = some (.string (bs tu)) ∧ w'.cell? ⟨b, o + j * 4 + 2, none⟩ = some (.int .i64 nu) ∧ w'.cell? ⟨b, o + j * 4 + 3, none⟩ = some (.slice au mu cu))
          (first | go_keep | (go_split_ands; refine ⟨?_, ?_, ?_, ?_, ?_, ?_, ?_⟩ <;> exact (hbk.cell (World.block_lt_of_cell? _ _ (by assumption))).trans (by assumption)))
          ((go_at_call 85; refine (HC.out _ (by first | exact gl_refl _ _ | exact gl_drew (gl_refl _ _) | exact gl_drewN (gl_refl _ _) _)).mono ?_; rintro e wk ⟨rfl, hbk⟩; have hgk : GL [] wr wk := gl_below hbk (by (repeat' (first | with_reducible exact gl_refl _ _ | with_reducible assumption | with_reducible refine gl_alloc ?_ _ | with_reducible refine gl_drewN ?_ _ | with_reducible refine gl_drew ?_ | (with_reducible refine gl_setn ?_ ?_ _; · (first | exact Nat.le_refl _ | (simp; done) | (simp; omega) | omega)) | (with_reducible refine gl_seti ?_ ?_ _; · (simp; done)) | with_reducible refine gl_below (by with_reducible assumption) ?_ | with_reducible refine gl_step (by with_reducible assumption) ?_ (by first | (simp; done) | (simp; omega)) | with_reducible refine gl_grown (by with_reducible assumption) ?_ (by first | (simp; done) | (simp; omega)))))))
        all_goals
          go_wp2
          go_roundw
          case rel => exact ⟨j + 1, by omega, by go_num, by rw [HTK.out]; first | rfl | (simp; done) | (congr 1; simp), Lib.hid (by have := blk_gl H1.out hgk (by simp); exact this), Lib.hid (by have := blk_gl H2.out hgk (by simp); exact this), Lib.hid (gl_step hgk hgr.out (by simp))⟩
          case measure => simp [intOf]; omega
    · obtain rfl : j = kids.length := by omega
      have hal := cntO_all fo kids
      have han := cntO_any fo kids
      have hle := cntO_le fo kids
      rw [List.take_length]
      have i4 : decide ((kids.length : Int) < kids.length) = false := by simp
      by_cases heq : cntO fo kids = kids.length
      · have HI : Hid ((kids.any fo) = true) := by
          show _ = true
          rw [← han]; simp; omega
        have e3 : (((cntO fo kids : Nat) : Int) == (kids.length : Int)) = true := by simp [heq]
        clear hal han
        generalize cntO fo kids = m at *
        go_wp2
        go_ret
        exact ⟨by rw [HI.out]; rfl, gl_to_below hgr.out⟩
      · have e3 : (((cntO fo kids : Nat) : Int) == (kids.length : Int)) = false := by simp; omega
        have HI : Hid ((kids.any fo) = decide ((0 : Int) < (cntO fo kids : Nat))) := by
          show _ = _
          rw [← han]; simp
        clear hal han heq
        generalize cntO fo kids = m at *
        go_wp2
        go_ret
        exact ⟨by rw [HI.out]; first | rfl | (simp; done), gl_to_below hgr.out⟩

theorem allL_all (sg pr : List UInt8 → Bool) (a b : Int) : ∀ l : List LT, allL sg pr a b l = l.all (opensL sg pr a b)
  | [] => by rw [allL]; rfl
  | x :: r => by rw [allL, List.all_cons, allL_all sg pr a b r]
theorem rlOpensN : ∀ N, ROpensIH N
  | 0 => fun x q v sv pv sigs pres msg after age w hN _ _ _ _ _ _ _ _ => by have := count_pos x; omega
  | N + 1 => fun x q v sv pv sigs pres msg after age w hN hrr hL hS hP hsn hpn hst hpt => by
    obtain ⟨k, t, n, kids⟩ := x
    obtain ⟨ad, c, rfl, _, _, _, _, hd⟩ := lockIn_open hL
    obtain ⟨sa, sc, rfl, _⟩ := termsAt_open hS
    obtain ⟨pa, pc, rfl, _⟩ := termsAt_open hP
    rw [countL] at hN
    rw [rightsL, Bool.and_eq_true] at hrr
    obtain ⟨hbr, hrr⟩ := hrr
    unfold bareR at hbr
    rw [opensL]
    by_cases h1 : k = 1
    · subst h1; rw [if_pos rfl]
      exact rlOpens1 n t kids ad c sa pa sc pc sigs pres msg after age w q hS hP hsn hpn hst hpt
    rw [if_neg h1] at hbr ⊢
    by_cases h2 : k = 2
    · subst h2; rw [if_pos rfl]
      exact rlOpens2 n t kids ad c sa pa sc pc sigs pres msg after age w q hS hP hsn hpn hst hpt
    rw [if_neg h2] at hbr ⊢
    by_cases h3 : k = 3
    · subst h3; rw [if_pos rfl]
      exact rlOpens3 n t kids ad c sa pa sc pc sigs pres msg after age w q hS hP hsn hpn hst hpt
    rw [if_neg h3]
    by_cases h4 : k = 4
    · subst h4; rw [if_pos rfl]
      exact rlOpens4 n t kids ad c sa pa sc pc sigs pres msg after age w q hS hP hsn hpn hst hpt
    rw [if_neg h4]
    rw [if_neg (by omega)] at hbr
    by_cases h5 : k = 5
    · subst h5; rw [if_pos rfl, allL_all]
      simp at hbr
      exact rlOpens5 n t kids ad c sa pa sc pc sigs pres msg after age w q hS hP hsn hpn hst hpt N (rlOpensN N) (by omega) hrr (by omega) (by omega) hd
    rw [if_neg h5, anyL_any]
    by_cases h6 : k = 6
    · subst h6
      simp at hbr
      exact rlOpens6 n t kids ad c sa pa sc pc sigs pres msg after age w q hS hP hsn hpn hst hpt N (rlOpensN N) (by omega) hrr (by omega) (by omega) hd
    · rw [if_neg (by omega)] at hbr
      cases hbr

end Go.Proofs.YtfmckibiblhakaaGreatDoor
