/- The document's layer 3: is a term in a list; a public key's secret. -/
import Derived.Test.YtdipkblmcloifaaGreatDoorMRef
import Derived.Test.YtdipkblmcloifaaGreatDoorDedC
import Derived.Test.YtdipkblmcloifaaGreatDoorDedT
import Derived.Test.YtdipkblmcloifaaGreatDoorDedN
set_option linter.unusedSimpArgs false
set_option linter.unusedVariables false
namespace Go.Proofs.YtdipkblmcloifaaGreatDoor
open Go.RowKit

theorem termsAt_sp {v : Value} {ts : List (List UInt8)} {w : World} (h : TermsAt v ts w) : ∃ (ad : Option Addr) (c : Nat), v = .slice ad ts.length c ∧ (ts = [] ∨ ∃ b o, ad = some ⟨b, o, none⟩ ∧ b < w.heap.size ∧ ∀ (k : Nat) (t : List UInt8), ts[k]? = some t → w.cell? ⟨b, o + k, none⟩ = some (.string (bs t))) := by
  rcases h with ⟨ad, c, rfl, rfl⟩ | ⟨b, o, c, rfl, h1, h2⟩
  · exact ⟨ad, c, rfl, .inl rfl⟩
  · exact ⟨_, c, rfl, .inr ⟨b, o, rfl, h1, h2⟩⟩
set_option maxRecDepth 100000 in
set_option maxHeartbeats 2000000 in
theorem r3Has (t : List UInt8) (ts : List (List UInt8)) (hn : ts.length ≤ 9000000000000000000) (v : Value) (w : World) (hv : TermsAt v ts w) :
    Calls Tryz.prog 32 #[v, .string (bs t)] w fun e w' => e = .returned (.bool (ts.contains t)) ∧ Below w.heap.size w w' := by
  obtain ⟨ad, c, rfl, hd⟩ := termsAt_sp hv
  have HD := Lib.hid hd
  clear hd hv
  go_enter Tryz.func32, Tryz.ntmps32
  go_wp2
  go_loopw [5] (fun iv wr => ∃ k : Nat, k ≤ ts.length ∧ iv = .int .i64 k ∧ Hid (Below w.heap.size w wr) ∧ Hid ((ts.drop k).contains t = ts.contains t)) (fun iv _ => ts.length - (intOf iv).toNat)
  case atStart => exact ⟨0, by omega, rfl, Lib.hid (Below.refl _ _), Lib.hid rfl⟩
  case round =>
    obtain ⟨k, hk, rfl, HB, HC⟩ := hrel
    by_cases hlt : k < ts.length
    · have i1 : (k : Int) < ts.length := by omega
      rcases HD.out with h0 | ⟨b, o, rfl, hb, hc⟩
      · subst h0; simp at hlt
      have c0 := dcell_below (hc k _ (List.getElem?_eq_getElem hlt)) HB.out
      have HN : Hid ((ts.drop k).contains t = (ts[k] == t || (ts.drop (k + 1)).contains t)) := by show _ = _; rw [List.drop_eq_getElem_cons hlt, List.contains_cons, BEq.comm]
      clear hc
      generalize ts[k] = x at *
      cases he : (x == t) with
      | true =>
        have HR : Hid (ts.contains t = true) := by show _ = _; rw [← HC.out, HN.out, he]; rfl
        go_wp2_with fail
        go_ret
        exact ⟨by first | (rw [HR.out]; done) | (rw [HR.out]; rfl), HB.out⟩
      | false =>
        have HR : Hid ((ts.drop (k + 1)).contains t = ts.contains t) := by show _ = _; rw [← HC.out, HN.out, he]; rfl
        go_wp2_with fail
        go_roundw
        case rel => exact ⟨k + 1, by omega, by go_num, HB, HR⟩
        case measure => simp [intOf]; omega
    · obtain rfl : k = ts.length := by omega
      have HR : Hid (ts.contains t = false) := by show _ = _; rw [← HC.out, List.drop_length]; rfl
      go_wp2_with fail
      go_ret
      exact ⟨by first | (rw [HR.out]; done) | (rw [HR.out]; rfl), HB.out⟩

set_option maxRecDepth 100000 in
set_option maxHeartbeats 4000000 in
theorem r3SecretN : ∀ (n : Nat) (t : List UInt8), t.length < n → t.length ≤ 9000000000000000000 → ∀ (w : World),
    Calls Tryz.prog 78 #[.string (bs t)] w fun e w' => e = .returned (.tuple #[.string (bs ((secT t).getD [])), .bool (secT t).isSome]) ∧ Below w.heap.size w w' := by
  intro n
  induction n with
  | zero => intro t h; exact absurd h (Nat.not_lt_zero _)
  | succ n ih =>
  intro t hn ht w
  have IH := Lib.hid ih
  clear ih
  cases hr : rt t with
  | none =>
    have H : Hid (secT t = none) := secT_none hr
    have HR := Lib.hid hr
    clear hr
    go_enter Tryz.func78, Tryz.ntmps78
    go_wp2_with fail
    refine (refOpen t ht _).mono ?_
    rintro e w1 hp
    rw [HR.out] at hp
    obtain ⟨rfl, hb1⟩ := hp
    go_wp2_with fail
    go_ret2
    exact ⟨by rw [H.out]; rfl, by (repeat' (first | with_reducible exact Below.refl _ _ | with_reducible assumption | with_reducible refine below_alloc ?_ ?_ _ | with_reducible refine Below.setCell ?_ ?_ _ | with_reducible refine Below.drew ?_ | with_reducible refine below_drewN ?_ _ | with_reducible refine below_step (by assumption) ?_ ?_ | (with_reducible refine Below.trans ?_ (Below.mono (by assumption) ?_)) | exact Nat.le_refl _ | (simp; done) | (simp; omega) | omega))⟩
  | some s =>
    have H := Lib.hid (secT_eq hr)
    have HR := Lib.hid hr
    by_cases h80 : s.op.toNat = 80
    · obtain ⟨a, hks, hra, hla⟩ := rt_one_kid hr (by rw [show s.op = 80 from UInt8.toNat_inj.1 h80]; rfl)
      have HH : Hid (secT t = some a) := by show secT t = some a; rw [H.out, if_pos h80, hks]; rfl
      have HKS := Lib.hid hks
      have b80 : (((s.op.toNat : Nat) : Int) == 80) = true := by simp [h80]
      clear H hr hks h80
      go_enter Tryz.func78, Tryz.ntmps78
      go_wp2_with fail
      refine (refOpen t ht _).mono ?_
      rintro e w1 hp
      rw [HR.out] at hp
      obtain ⟨ad, kn, kc, rfl, hown, hb1⟩ := hp
      rw [HKS.out] at hown
      obtain ⟨g, cap, hv, hgb, hgw, hcap, hcap2, hcell⟩ := own_cells hown (by simp)
      injection hv with hv1 hv2 hv3
      subst hv1 hv2 hv3
      have c0 := dcell_alloc (hcell 0 (.string (bs a)) rfl) (.cells #[.int .u8 s.op.toNat, .int .i64 (numOf s), .string (bs s.text), .slice (some ⟨g, 0, none⟩) 1 kc] 63)
      clear hcell hown
      go_wp2_with fail
      go_ret2
      exact ⟨by rw [HH.out]; rfl, by (repeat' (first | with_reducible exact Below.refl _ _ | with_reducible assumption | with_reducible refine below_alloc ?_ ?_ _ | with_reducible refine Below.setCell ?_ ?_ _ | with_reducible refine Below.drew ?_ | with_reducible refine below_drewN ?_ _ | with_reducible refine below_step (by assumption) ?_ ?_ | (with_reducible refine Below.trans ?_ (Below.mono (by assumption) ?_)) | exact Nat.le_refl _ | (simp; done) | (simp; omega) | omega))⟩
    have b80 : (((s.op.toNat : Nat) : Int) == 80) = false := by simp; omega
    by_cases h87 : s.op.toNat = 87
    · obtain ⟨a, b, hks, hra, hrb, hla, hlb⟩ := rt_two_kids hr (by rw [show s.op = 87 from UInt8.toNat_inj.1 h87]; rfl)
      have HH : Hid (secT t = if (twoT 86 ((secT a).getD []) ((secT b).getD [])).2 = 0 then some (twoT 86 ((secT a).getD []) ((secT b).getD [])).1 else none) := by show secT t = _; rw [H.out, if_neg h80, if_pos h87, hks]; rfl
      have HKS := Lib.hid hks
      have b87 : (((s.op.toNat : Nat) : Int) == 87) = true := by simp [h87]
      have la := (right_len hra).2
      have lb := (right_len hrb).2
      clear H hr hks h87 h80
      go_enter Tryz.func78, Tryz.ntmps78
      go_wp2_with fail
      refine (refOpen t ht _).mono ?_
      rintro e w1 hp
      rw [HR.out] at hp
      obtain ⟨ad, kn, kc, rfl, hown, hb1⟩ := hp
      rw [HKS.out] at hown
      obtain ⟨g, cap, hv, hgb, hgw, hcap, hcap2, hcell⟩ := own_cells hown (by simp)
      injection hv with hv1 hv2 hv3
      subst hv1 hv2 hv3
      have c0 := dcell_alloc (hcell 0 (.string (bs a)) rfl) (.cells #[.int .u8 s.op.toNat, .int .i64 (numOf s), .string (bs s.text), .slice (some ⟨g, 0, none⟩) 2 kc] 63)
      have c1 := dcell_alloc (hcell 1 (.string (bs b)) rfl) (.cells #[.int .u8 s.op.toNat, .int .i64 (numOf s), .string (bs s.text), .slice (some ⟨g, 0, none⟩) 2 kc] 63)
      have HP := Lib.hid (blk_new w1 (.cells #[.int .u8 s.op.toNat, .int .i64 (numOf s), .string (bs s.text), .slice (some ⟨g, 0, none⟩) 2 kc] 63))
      have hb2 : Below w.heap.size w (w1.alloc (.cells #[.int .u8 s.op.toNat, .int .i64 (numOf s), .string (bs s.text), .slice (some ⟨g, 0, none⟩) 2 kc] 63)) := by (repeat' (first | with_reducible exact Below.refl _ _ | with_reducible assumption | with_reducible refine below_alloc ?_ ?_ _ | with_reducible refine Below.setCell ?_ ?_ _ | with_reducible refine Below.drew ?_ | with_reducible refine below_drewN ?_ _ | with_reducible refine below_step (by assumption) ?_ ?_ | (with_reducible refine Below.trans ?_ (Below.mono (by assumption) ?_)) | exact Nat.le_refl _ | (simp; done) | (simp; omega) | omega))
      clear hcell hown
      go_wp2_with fail
      generalize w1.alloc (.cells #[.int .u8 s.op.toNat, .int .i64 (numOf s), .string (bs s.text), .slice (some ⟨g, 0, none⟩) 2 kc] 63) = v1 at *
      generalize w1.heap.size = B at *
      refine (IH.out a (by omega) (by omega) _).mono ?_
      rintro e w3 ⟨rfl, hb3⟩
      have HP3 := Lib.hid (blk_below HP.out hb3 (blk_lt HP.out))
      have d1 := dcell_below c1 hb3
      have hb4 : Below w.heap.size w w3 := by (repeat' (first | with_reducible exact Below.refl _ _ | with_reducible assumption | with_reducible refine below_alloc ?_ ?_ _ | with_reducible refine Below.setCell ?_ ?_ _ | with_reducible refine Below.drew ?_ | with_reducible refine below_drewN ?_ _ | with_reducible refine below_step (by assumption) ?_ ?_ | (with_reducible refine Below.trans ?_ (Below.mono (by assumption) ?_)) | exact Nat.le_refl _ | (simp; done) | (simp; omega) | omega))
      clear c0 c1
      have f3a := blk_cell HP3.out
      have f3b := blk_free HP3.out
      have f3c := blk_lt HP3.out
      go_wp2_with fail
      refine (IH.out b (by omega) (by omega) _).mono ?_
      rintro e w5 ⟨rfl, hb5⟩
      have hb6 : Below w.heap.size w w5 := by (repeat' (first | with_reducible exact Below.refl _ _ | with_reducible assumption | with_reducible refine below_alloc ?_ ?_ _ | with_reducible refine Below.setCell ?_ ?_ _ | with_reducible refine Below.drew ?_ | with_reducible refine below_drewN ?_ _ | with_reducible refine below_step (by assumption) ?_ ?_ | (with_reducible refine Below.trans ?_ (Below.mono (by assumption) ?_)) | exact Nat.le_refl _ | (simp; done) | (simp; omega) | omega))
      clear f3a f3b f3c d1
      go_wp2_with fail
      refine (refTwo 86 _ _ (sec_len a (by omega)) (sec_len b (by omega)) _).mono ?_
      rintro e w7 ⟨rfl, hb7⟩
      obtain ⟨k1, k2⟩ := sec_pack 86 ((secT a).getD []) ((secT b).getD [])
      have K1 := Lib.hid k1
      have K2 := Lib.hid k2
      clear k1 k2
      go_wp2_with fail
      go_ret2
      exact ⟨by (rw [HH.out, K1.out, K2.out]) <;> first | rfl | simp, by (repeat' (first | with_reducible exact Below.refl _ _ | with_reducible assumption | with_reducible refine below_alloc ?_ ?_ _ | with_reducible refine Below.setCell ?_ ?_ _ | with_reducible refine Below.drew ?_ | with_reducible refine below_drewN ?_ _ | with_reducible refine below_step (by assumption) ?_ ?_ | (with_reducible refine Below.trans ?_ (Below.mono (by assumption) ?_)) | exact Nat.le_refl _ | (simp; done) | (simp; omega) | omega))⟩
    have b87 : (((s.op.toNat : Nat) : Int) == 87) = false := by simp; omega
    by_cases h76 : s.op.toNat = 76
    · obtain ⟨a, b, hks, hra, hrb, hla, hlb⟩ := rt_two_kids hr (by rw [show s.op = 76 from UInt8.toNat_inj.1 h76]; rfl)
      have HH : Hid (secT t = if (twoT 75 ((secT a).getD []) b).2 = 0 then some (twoT 75 ((secT a).getD []) b).1 else none) := by show secT t = _; rw [H.out, if_neg h80, if_neg h87, if_pos h76, hks]; rfl
      have HKS := Lib.hid hks
      have b76 : (((s.op.toNat : Nat) : Int) == 76) = true := by simp [h76]
      have la := (right_len hra).2
      have lb := (right_len hrb).2
      clear H hr hks h76 h80 h87
      go_enter Tryz.func78, Tryz.ntmps78
      go_wp2_with fail
      refine (refOpen t ht _).mono ?_
      rintro e w1 hp
      rw [HR.out] at hp
      obtain ⟨ad, kn, kc, rfl, hown, hb1⟩ := hp
      rw [HKS.out] at hown
      obtain ⟨g, cap, hv, hgb, hgw, hcap, hcap2, hcell⟩ := own_cells hown (by simp)
      injection hv with hv1 hv2 hv3
      subst hv1 hv2 hv3
      have c0 := dcell_alloc (hcell 0 (.string (bs a)) rfl) (.cells #[.int .u8 s.op.toNat, .int .i64 (numOf s), .string (bs s.text), .slice (some ⟨g, 0, none⟩) 2 kc] 63)
      have c1 := dcell_alloc (hcell 1 (.string (bs b)) rfl) (.cells #[.int .u8 s.op.toNat, .int .i64 (numOf s), .string (bs s.text), .slice (some ⟨g, 0, none⟩) 2 kc] 63)
      have HP := Lib.hid (blk_new w1 (.cells #[.int .u8 s.op.toNat, .int .i64 (numOf s), .string (bs s.text), .slice (some ⟨g, 0, none⟩) 2 kc] 63))
      have hb2 : Below w.heap.size w (w1.alloc (.cells #[.int .u8 s.op.toNat, .int .i64 (numOf s), .string (bs s.text), .slice (some ⟨g, 0, none⟩) 2 kc] 63)) := by (repeat' (first | with_reducible exact Below.refl _ _ | with_reducible assumption | with_reducible refine below_alloc ?_ ?_ _ | with_reducible refine Below.setCell ?_ ?_ _ | with_reducible refine Below.drew ?_ | with_reducible refine below_drewN ?_ _ | with_reducible refine below_step (by assumption) ?_ ?_ | (with_reducible refine Below.trans ?_ (Below.mono (by assumption) ?_)) | exact Nat.le_refl _ | (simp; done) | (simp; omega) | omega))
      clear hcell hown
      go_wp2_with fail
      generalize w1.alloc (.cells #[.int .u8 s.op.toNat, .int .i64 (numOf s), .string (bs s.text), .slice (some ⟨g, 0, none⟩) 2 kc] 63) = v1 at *
      generalize w1.heap.size = B at *
      refine (IH.out a (by omega) (by omega) _).mono ?_
      rintro e w3 ⟨rfl, hb3⟩
      have HP3 := Lib.hid (blk_below HP.out hb3 (blk_lt HP.out))
      have d1 := dcell_below c1 hb3
      have hb4 : Below w.heap.size w w3 := by (repeat' (first | with_reducible exact Below.refl _ _ | with_reducible assumption | with_reducible refine below_alloc ?_ ?_ _ | with_reducible refine Below.setCell ?_ ?_ _ | with_reducible refine Below.drew ?_ | with_reducible refine below_drewN ?_ _ | with_reducible refine below_step (by assumption) ?_ ?_ | (with_reducible refine Below.trans ?_ (Below.mono (by assumption) ?_)) | exact Nat.le_refl _ | (simp; done) | (simp; omega) | omega))
      clear c0 c1
      have f3a := blk_cell HP3.out
      have f3b := blk_free HP3.out
      have f3c := blk_lt HP3.out
      go_wp2_with fail
      refine (refTwo 75 _ b (sec_len a (by omega)) (by omega) _).mono ?_
      rintro e w7 ⟨rfl, hb7⟩
      obtain ⟨k1, k2⟩ := sec_pack 75 ((secT a).getD []) b
      have K1 := Lib.hid k1
      have K2 := Lib.hid k2
      clear k1 k2
      go_wp2_with fail
      go_ret2
      exact ⟨by (rw [HH.out, K1.out, K2.out]) <;> first | rfl | simp, by (repeat' (first | with_reducible exact Below.refl _ _ | with_reducible assumption | with_reducible refine below_alloc ?_ ?_ _ | with_reducible refine Below.setCell ?_ ?_ _ | with_reducible refine Below.drew ?_ | with_reducible refine below_drewN ?_ _ | with_reducible refine below_step (by assumption) ?_ ?_ | (with_reducible refine Below.trans ?_ (Below.mono (by assumption) ?_)) | exact Nat.le_refl _ | (simp; done) | (simp; omega) | omega))⟩
    have b76 : (((s.op.toNat : Nat) : Int) == 76) = false := by simp; omega
    have HH : Hid (secT t = none) := by show secT t = none; rw [H.out, if_neg h80, if_neg h87, if_neg h76]
    clear H hr h80 h87 h76
    go_enter Tryz.func78, Tryz.ntmps78
    go_wp2_with fail
    refine (refOpen t ht _).mono ?_
    rintro e w1 hp
    rw [HR.out] at hp
    obtain ⟨ad, kn, kc, rfl, hown, hb1⟩ := hp
    clear hown
    go_wp2_with fail
    go_ret2
    exact ⟨by rw [HH.out]; rfl, by (repeat' (first | with_reducible exact Below.refl _ _ | with_reducible assumption | with_reducible refine below_alloc ?_ ?_ _ | with_reducible refine Below.setCell ?_ ?_ _ | with_reducible refine Below.drew ?_ | with_reducible refine below_drewN ?_ _ | with_reducible refine below_step (by assumption) ?_ ?_ | (with_reducible refine Below.trans ?_ (Below.mono (by assumption) ?_)) | exact Nat.le_refl _ | (simp; done) | (simp; omega) | omega))⟩
theorem r3Secret (t : List UInt8) (ht : t.length ≤ 9000000000000000000) (w : World) :
    Calls Tryz.prog 78 #[.string (bs t)] w fun e w' => e = .returned (.tuple #[.string (bs ((secT t).getD [])), .bool (secT t).isSome]) ∧ Below w.heap.size w w' :=
  r3SecretN (t.length + 1) t (Nat.lt_succ_self _) ht w
end Go.Proofs.YtdipkblmcloifaaGreatDoor
