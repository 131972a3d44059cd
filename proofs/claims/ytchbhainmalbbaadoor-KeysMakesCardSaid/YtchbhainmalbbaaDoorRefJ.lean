/- The reference: the public key of a term. -/
import Derived.Test.YtchbhainmalbbaaDoorRefI
import Derived.Test.YtchbhainmalbbaaDoorSpecC
namespace Go.Proofs.YtchbhainmalbbaaDoor
open Go.RowKit

def RefKeyIH (n : Nat) : Prop := ∀ (x : List UInt8) (w : World), x.length ≤ n → 1 ≤ x.length → x.length ≤ 20000 →
    Calls Tryd.prog 89 #[.string (bs x)] w fun e w' => e = .returned (.string (bs (keyT x))) ∧ Below w.heap.size w w'

set_option maxRecDepth 100000 in
set_option maxHeartbeats 2000000 in
theorem refKeyLeaf (x : List UInt8) (hx : x.length ≤ 20000) (hk : ∀ s, rt x = some s → s.op.toNat ≠ 86 ∧ s.op.toNat ≠ 75) (w : World) :
    Calls Tryd.prog 89 #[.string (bs x)] w fun e w' => e = .returned (.string (bs (keyT x))) ∧ Below w.heap.size w w' := by
  have HK : Hid (keyT x = 80 :: x) := by
    show keyT x = _
    rw [keyT_eq]
    split
    · rfl
    · rename_i s hs
      obtain ⟨h1, h2⟩ := hk s hs
      rw [if_neg h1, if_neg h2]
  cases hr : rt x with
  | none =>
    have HR := Lib.hid hr
    clear hr hk
    go_enter Tryd.func89, Tryd.ntmps89
    go_wp2_with (go_at_call 114; refine (refOpen x (by omega) _).mono ?_; rintro e w1 hp; rw [HR.out] at hp; obtain ⟨rfl, hb1⟩ := hp)
    go_ret
    exact ⟨by rw [HK.out]; rfl, by (repeat' (first | with_reducible exact Below.refl _ _ | with_reducible assumption | with_reducible refine below_alloc ?_ ?_ _ | with_reducible refine Below.setCell ?_ ?_ _ | with_reducible refine Below.drew ?_ | with_reducible refine below_drewN ?_ _ | with_reducible refine below_step (by assumption) ?_ ?_ | (with_reducible refine Below.trans ?_ (Below.mono (by assumption) ?_)) | exact Nat.le_refl _ | (simp; done) | (simp; omega) | omega))⟩
  | some s =>
    obtain ⟨h1, h2⟩ := hk s hr
    have HR := Lib.hid hr
    have b1 : (((s.op.toNat : Nat) : Int) == 86) = false := by simp; omega
    have b2 : (((s.op.toNat : Nat) : Int) == 75) = false := by simp; omega
    clear hr hk h1 h2
    go_enter Tryd.func89, Tryd.ntmps89
    go_wp2_with (go_at_call 114; refine (refOpen x (by omega) _).mono ?_; rintro e w1 hp; rw [HR.out] at hp; obtain ⟨ad, kn, kc, rfl, hown, hb1⟩ := hp)
    go_ret
    exact ⟨by rw [HK.out]; rfl, by (repeat' (first | with_reducible exact Below.refl _ _ | with_reducible assumption | with_reducible refine below_alloc ?_ ?_ _ | with_reducible refine Below.setCell ?_ ?_ _ | with_reducible refine Below.drew ?_ | with_reducible refine below_drewN ?_ _ | with_reducible refine below_step (by assumption) ?_ ?_ | (with_reducible refine Below.trans ?_ (Below.mono (by assumption) ?_)) | exact Nat.le_refl _ | (simp; done) | (simp; omega) | omega))⟩

set_option maxRecDepth 100000 in
set_option maxHeartbeats 2000000 in
theorem refKeyJoin (n : Nat) (ih : RefKeyIH n) (x : List UInt8) (hn : x.length ≤ n + 1) (hx : x.length ≤ 20000) (s : Sh) (hr : rt x = some s) (ho : s.op.toNat = 86) (w : World) :
    Calls Tryd.prog 89 #[.string (bs x)] w fun e w' => e = .returned (.string (bs (keyT x))) ∧ Below w.heap.size w w' := by
  obtain ⟨a, b, hk, hl, ha, hb⟩ := rt_two hr (.inl ho)
  have HK : Hid (keyT x = 87 :: (keyT a ++ keyT b)) := by
    show keyT x = _
    rw [keyT_eq, hr]
    simp only [ho, if_true, hk, List.getD_cons_zero, List.getD_cons_succ]
  have ha1 := right_len ha
  have hb1 := right_len hb
  have hka := keyT_len ha1.1
  have hkb := keyT_len hb1.1
  have HR := Lib.hid hr
  have HKS := Lib.hid hk
  have b1 : (((s.op.toNat : Nat) : Int) == 86) = true := by simp [ho]
  have s1 : ¬ 9223372036854775807 < 1 + (keyT a).length := by omega
  have s2 : ¬ 9223372036854775807 < (keyT a).length + 1 + (keyT b).length := by omega
  clear hr ho hk ha hb hka hkb
  go_enter Tryd.func89, Tryd.ntmps89
  go_wp2_with (go_at_call 114; refine (refOpen x (by omega) _).mono ?_; rintro e w1 hp; rw [HR.out] at hp; obtain ⟨ad, kn, kc, rfl, hown, hbo⟩ := hp; rw [HKS.out] at hown; obtain ⟨g, cap, hv, hgb, hgw, hcap, hcap2, hcell⟩ := own_cells hown (by simp); injection hv with hv1 hv2 hv3; subst hv1 hv2 hv3; have c0 := hcell 0 (.string (bs a)) rfl; have c1 := hcell 1 (.string (bs b)) rfl; clear hcell hown)
  go_region_held3 (fun w' => w'.cell? ⟨w1.heap.size, 3, none⟩ = some (.slice (some ⟨g, 0, none⟩) 2 kc) ∧ w'.cell? ⟨g, 0, none⟩ = some (.string (bs a)) ∧ w'.cell? ⟨g, 1, none⟩ = some (.string (bs b)))
    (first
      | go_keep
      | (go_split_ands
         refine ⟨?_, ?_, ?_⟩
         · exact (hbk.cell (World.block_lt_of_cell? _ _ (by assumption))).trans (by assumption)
         · exact (hbk.cell (World.block_lt_of_cell? _ _ (by assumption))).trans (by assumption)
         · exact (hbk.cell (World.block_lt_of_cell? _ _ (by assumption))).trans (by assumption)))
    ((go_at_call 89; refine (ih _ _ (by omega) (by omega) (by omega)).mono ?_; rintro e wk ⟨rfl, hbk⟩))
  all_goals
    go_wp2
    go_ret
    exact ⟨by rw [HK.out]; rfl, by (repeat' (first | with_reducible exact Below.refl _ _ | with_reducible assumption | with_reducible refine below_alloc ?_ ?_ _ | with_reducible refine Below.setCell ?_ ?_ _ | with_reducible refine Below.drew ?_ | with_reducible refine below_drewN ?_ _ | with_reducible refine below_step (by assumption) ?_ ?_ | (with_reducible refine Below.trans ?_ (Below.mono (by assumption) ?_)) | exact Nat.le_refl _ | (simp; done) | (simp; omega) | omega))⟩
set_option maxRecDepth 100000 in
set_option maxHeartbeats 2000000 in
theorem refKeyBind (n : Nat) (ih : RefKeyIH n) (x : List UInt8) (hn : x.length ≤ n + 1) (hx : x.length ≤ 20000) (s : Sh) (hr : rt x = some s) (ho : s.op.toNat = 75) (w : World) :
    Calls Tryd.prog 89 #[.string (bs x)] w fun e w' => e = .returned (.string (bs (keyT x))) ∧ Below w.heap.size w w' := by
  obtain ⟨a, b, hk, hl, ha, hb⟩ := rt_two hr (.inr ho)
  have HK : Hid (keyT x = 76 :: (keyT a ++ b)) := by
    show keyT x = _
    rw [keyT_eq, hr]
    simp only [ho, hk, List.getD_cons_zero, List.getD_cons_succ]
    rfl
  have ha1 := right_len ha
  have hb1 := right_len hb
  have hka := keyT_len ha1.1
  have hkb := keyT_len hb1.1
  have HR := Lib.hid hr
  have HKS := Lib.hid hk
  have b1 : (((s.op.toNat : Nat) : Int) == 86) = false := by simp [ho]
  have b2 : (((s.op.toNat : Nat) : Int) == 75) = true := by simp [ho]
  have s1 : ¬ 9223372036854775807 < 1 + (keyT a).length := by omega
  have s2 : ¬ 9223372036854775807 < (keyT a).length + 1 + b.length := by omega
  clear hr ho hk ha hb hka hkb
  go_enter Tryd.func89, Tryd.ntmps89
  go_wp2_with (go_at_call 114; refine (refOpen x (by omega) _).mono ?_; rintro e w1 hp; rw [HR.out] at hp; obtain ⟨ad, kn, kc, rfl, hown, hbo⟩ := hp; rw [HKS.out] at hown; obtain ⟨g, cap, hv, hgb, hgw, hcap, hcap2, hcell⟩ := own_cells hown (by simp); injection hv with hv1 hv2 hv3; subst hv1 hv2 hv3; have c0 := hcell 0 (.string (bs a)) rfl; have c1 := hcell 1 (.string (bs b)) rfl; clear hcell hown)
  go_region_held3 (fun w' => w'.cell? ⟨w1.heap.size, 3, none⟩ = some (.slice (some ⟨g, 0, none⟩) 2 kc) ∧ w'.cell? ⟨g, 0, none⟩ = some (.string (bs a)) ∧ w'.cell? ⟨g, 1, none⟩ = some (.string (bs b)))
    (first
      | go_keep
      | (go_split_ands
         refine ⟨?_, ?_, ?_⟩
         · exact (hbk.cell (World.block_lt_of_cell? _ _ (by assumption))).trans (by assumption)
         · exact (hbk.cell (World.block_lt_of_cell? _ _ (by assumption))).trans (by assumption)
         · exact (hbk.cell (World.block_lt_of_cell? _ _ (by assumption))).trans (by assumption)))
    ((go_at_call 89; refine (ih _ _ (by omega) (by omega) (by omega)).mono ?_; rintro e wk ⟨rfl, hbk⟩))
  all_goals
    go_wp2
    go_ret
    exact ⟨by rw [HK.out]; rfl, by (repeat' (first | with_reducible exact Below.refl _ _ | with_reducible assumption | with_reducible refine below_alloc ?_ ?_ _ | with_reducible refine Below.setCell ?_ ?_ _ | with_reducible refine Below.drew ?_ | with_reducible refine below_drewN ?_ _ | with_reducible refine below_step (by assumption) ?_ ?_ | (with_reducible refine Below.trans ?_ (Below.mono (by assumption) ?_)) | exact Nat.le_refl _ | (simp; done) | (simp; omega) | omega))⟩
theorem refKeyAll : ∀ n, RefKeyIH n
  | 0 => fun x w h0 h1 _ => by omega
  | n + 1 => fun x w h0 h1 h2 => by
    cases hr : rt x with
    | none => exact refKeyLeaf x h2 (fun s hs => by rw [hr] at hs; simp at hs) w
    | some s =>
      by_cases h86 : s.op.toNat = 86
      · exact refKeyJoin n (refKeyAll n) x h0 h2 s hr h86 w
      · by_cases h75 : s.op.toNat = 75
        · exact refKeyBind n (refKeyAll n) x h0 h2 s hr h75 w
        · exact refKeyLeaf x h2 (fun t ht => by rw [hr] at ht; simp at ht; subst ht; exact ⟨h86, h75⟩) w

theorem refKey (x : List UInt8) (h1 : 1 ≤ x.length) (h2 : x.length ≤ 20000) (w : World) :
    Calls Tryd.prog 89 #[.string (bs x)] w fun e w' => e = .returned (.string (bs (keyT x))) ∧ Below w.heap.size w w' :=
  refKeyAll x.length x w (Nat.le_refl _) h1 h2

set_option maxRecDepth 100000 in
set_option maxHeartbeats 1000000 in
theorem refPub (x : List UInt8) (hl : x.length ≤ 9000000000000000000) (w : World) :
    Calls Tryd.prog 61 #[.string (bs x)] w fun e w' => e = .returned (.tuple #[.string (bs (pubT x).1), .int .i64 (pubT x).2]) ∧ Below w.heap.size w w' := by
  cases h : right x with
  | false =>
    have H : Hid (pubT x = ([], 10)) := by show pubT x = _; simp [pubT, h]
    have HR := Lib.hid h
    clear h
    go_enter Tryd.func61, Tryd.ntmps61
    go_wp2_with (go_at_call 56; refine (refRight x hl _).mono ?_; rintro e w1 ⟨rfl, hb1⟩; rw [HR.out])
    go_ret2
    exact ⟨by rw [H.out]; rfl, by (repeat' (first | with_reducible exact Below.refl _ _ | with_reducible assumption | with_reducible refine below_alloc ?_ ?_ _ | with_reducible refine Below.setCell ?_ ?_ _ | with_reducible refine Below.drew ?_ | with_reducible refine below_drewN ?_ _ | with_reducible refine below_step (by assumption) ?_ ?_ | (with_reducible refine Below.trans ?_ (Below.mono (by assumption) ?_)) | exact Nat.le_refl _ | (simp; done) | (simp; omega) | omega))⟩
  | true =>
    have H : Hid (pubT x = made (keyT x)) := by show pubT x = _; simp [pubT, h]
    have hx := right_len h
    have hk := keyT_len hx.1
    have HR := Lib.hid h
    clear h
    go_enter Tryd.func61, Tryd.ntmps61
    go_wp2_with (first | (go_at_call 56; refine (refRight x hl _).mono ?_; rintro e w1 ⟨rfl, hb1⟩; rw [HR.out]) | (go_at_call 89; refine (refKey x hx.1 (by omega) _).mono ?_; rintro e w2 ⟨rfl, hb2⟩) | (go_at_call 88; refine (refMade (keyT x) (by omega) _).mono ?_; rintro e w3 ⟨rfl, hb3⟩))
    go_ret2
    exact ⟨by rw [H.out]; rfl, by (repeat' (first | with_reducible exact Below.refl _ _ | with_reducible assumption | with_reducible refine below_alloc ?_ ?_ _ | with_reducible refine Below.setCell ?_ ?_ _ | with_reducible refine Below.drew ?_ | with_reducible refine below_drewN ?_ _ | with_reducible refine below_step (by assumption) ?_ ?_ | (with_reducible refine Below.trans ?_ (Below.mono (by assumption) ?_)) | exact Nat.le_refl _ | (simp; done) | (simp; omega) | omega))⟩

theorem right_cons {x : List UInt8} (h : right x = true) : ∃ c r, x = c :: r := by
  have := right_len h
  cases x with
  | nil => simp at this
  | cons c r => exact ⟨c, r, rfl⟩

set_option maxRecDepth 100000 in
set_option maxHeartbeats 2000000 in
theorem refJoint (x y : List UInt8) (hlx : x.length ≤ 9000000000000000000) (hly : y.length ≤ 9000000000000000000) (w : World) :
    Calls Tryd.prog 54 #[.string (bs x), .string (bs y)] w fun e w' => e = .returned (.tuple #[.string (bs (jointT x y).1), .int .i64 (jointT x y).2]) ∧ Below w.heap.size w w' := by
  cases h : right x with
  | false =>
    have H : Hid (jointT x y = ([], 10)) := by show jointT x y = _; simp [jointT, h]
    have HR := Lib.hid h
    clear h
    go_enter Tryd.func54, Tryd.ntmps54
    go_wp2_with (go_at_call 56; refine (refRight x hlx _).mono ?_; rintro e w1 ⟨rfl, hb1⟩; rw [HR.out])
    go_ret2
    exact ⟨by rw [H.out]; rfl, by (repeat' (first | with_reducible exact Below.refl _ _ | with_reducible assumption | with_reducible refine below_alloc ?_ ?_ _ | with_reducible refine Below.setCell ?_ ?_ _ | with_reducible refine Below.drew ?_ | with_reducible refine below_drewN ?_ _ | with_reducible refine below_step (by assumption) ?_ ?_ | (with_reducible refine Below.trans ?_ (Below.mono (by assumption) ?_)) | exact Nat.le_refl _ | (simp; done) | (simp; omega) | omega))⟩
  | true =>
    cases h2 : right y with
    | false =>
      have H : Hid (jointT x y = ([], 10)) := by show jointT x y = _; simp [jointT, h2]
      have HR := Lib.hid h
      have HR2 := Lib.hid h2
      clear h h2
      go_enter Tryd.func54, Tryd.ntmps54
      go_wp2_with fail
      refine (refRight x hlx _).mono ?_
      rintro e w1 ⟨rfl, hb1⟩
      rw [HR.out]
      go_wp2_with fail
      refine (refRight y hly _).mono ?_
      rintro e w2 ⟨rfl, hb2⟩
      rw [HR2.out]
      go_wp2_with fail
      go_ret2
      exact ⟨by rw [H.out]; rfl, by (repeat' (first | with_reducible exact Below.refl _ _ | with_reducible assumption | with_reducible refine below_alloc ?_ ?_ _ | with_reducible refine Below.setCell ?_ ?_ _ | with_reducible refine Below.drew ?_ | with_reducible refine below_drewN ?_ _ | with_reducible refine below_step (by assumption) ?_ ?_ | (with_reducible refine Below.trans ?_ (Below.mono (by assumption) ?_)) | exact Nat.le_refl _ | (simp; done) | (simp; omega) | omega))⟩
    | true =>
      obtain ⟨c, r, rfl⟩ := right_cons h
      obtain ⟨c', r', rfl⟩ := right_cons h2
      have hr0 : (0 : Int) ≤ (r.length : Int) := by omega
      have hr0' : (0 : Int) ≤ (r'.length : Int) := by omega
      cases h3 : pubC c with
      | false =>
        have H : Hid (jointT (c :: r) (c' :: r') = ([], 10)) := by show jointT _ _ = _; simp [jointT, head, h3]
        have HR := Lib.hid h
        have HR2 := Lib.hid h2
        have HR3 := Lib.hid h3
        clear h h2 h3
        go_enter Tryd.func54, Tryd.ntmps54
        go_wp2_with fail
        refine (refRight _ hlx _).mono ?_
        rintro e w1 ⟨rfl, hb1⟩
        rw [HR.out]
        go_wp2_with fail
        refine (refRight _ hly _).mono ?_
        rintro e w2 ⟨rfl, hb2⟩
        rw [HR2.out]
        go_wp2_with fail
        refine (refPublic c _).mono ?_
        rintro e w2 ⟨rfl, rfl⟩
        rw [HR3.out]
        go_wp2_with fail
        go_ret2
        exact ⟨by rw [H.out]; rfl, by (repeat' (first | with_reducible exact Below.refl _ _ | with_reducible assumption | with_reducible refine below_alloc ?_ ?_ _ | with_reducible refine Below.setCell ?_ ?_ _ | with_reducible refine Below.drew ?_ | with_reducible refine below_drewN ?_ _ | with_reducible refine below_step (by assumption) ?_ ?_ | (with_reducible refine Below.trans ?_ (Below.mono (by assumption) ?_)) | exact Nat.le_refl _ | (simp; done) | (simp; omega) | omega))⟩
      | true =>
        cases h4 : pubC c' with
        | false =>
          have H : Hid (jointT (c :: r) (c' :: r') = ([], 10)) := by show jointT _ _ = _; simp [jointT, head, h4]
          have HR := Lib.hid h
          have HR2 := Lib.hid h2
          have HR3 := Lib.hid h3
          have HR4 := Lib.hid h4
          clear h h2 h3 h4
          go_enter Tryd.func54, Tryd.ntmps54
          go_wp2_with fail
          refine (refRight _ hlx _).mono ?_
          rintro e w1 ⟨rfl, hb1⟩
          rw [HR.out]
          go_wp2_with fail
          refine (refRight _ hly _).mono ?_
          rintro e w2 ⟨rfl, hb2⟩
          rw [HR2.out]
          go_wp2_with fail
          refine (refPublic c _).mono ?_
          rintro e w2 ⟨rfl, rfl⟩
          rw [HR3.out]
          go_wp2_with fail
          refine (refPublic c' _).mono ?_
          rintro e w2 ⟨rfl, rfl⟩
          rw [HR4.out]
          go_wp2_with fail
          go_ret2
          exact ⟨by rw [H.out]; rfl, by (repeat' (first | with_reducible exact Below.refl _ _ | with_reducible assumption | with_reducible refine below_alloc ?_ ?_ _ | with_reducible refine Below.setCell ?_ ?_ _ | with_reducible refine Below.drew ?_ | with_reducible refine below_drewN ?_ _ | with_reducible refine below_step (by assumption) ?_ ?_ | (with_reducible refine Below.trans ?_ (Below.mono (by assumption) ?_)) | exact Nat.le_refl _ | (simp; done) | (simp; omega) | omega))⟩
        | true =>
          have H : Hid (jointT (c :: r) (c' :: r') = twoT 87 (c :: r) (c' :: r')) := by show jointT _ _ = _; simp [jointT, head, h, h2, h3, h4]
          have HR := Lib.hid h
          have HR2 := Lib.hid h2
          have HR3 := Lib.hid h3
          have HR4 := Lib.hid h4
          clear h h2 h3 h4
          go_enter Tryd.func54, Tryd.ntmps54
          go_wp2_with fail
          refine (refRight _ hlx _).mono ?_
          rintro e w1 ⟨rfl, hb1⟩
          rw [HR.out]
          go_wp2_with fail
          refine (refRight _ hly _).mono ?_
          rintro e w2 ⟨rfl, hb2⟩
          rw [HR2.out]
          go_wp2_with fail
          refine (refPublic c _).mono ?_
          rintro e w2 ⟨rfl, rfl⟩
          rw [HR3.out]
          go_wp2_with fail
          refine (refPublic c' _).mono ?_
          rintro e w2 ⟨rfl, rfl⟩
          rw [HR4.out]
          go_wp2_with fail
          refine (refTwo 87 _ _ hlx hly _).mono ?_
          rintro e w3 ⟨rfl, hb3⟩
          go_wp2_with fail
          go_ret2
          exact ⟨by rw [H.out]; rfl, by (repeat' (first | with_reducible exact Below.refl _ _ | with_reducible assumption | with_reducible refine below_alloc ?_ ?_ _ | with_reducible refine Below.setCell ?_ ?_ _ | with_reducible refine Below.drew ?_ | with_reducible refine below_drewN ?_ _ | with_reducible refine below_step (by assumption) ?_ ?_ | (with_reducible refine Below.trans ?_ (Below.mono (by assumption) ?_)) | exact Nat.le_refl _ | (simp; done) | (simp; omega) | omega))⟩

set_option maxRecDepth 100000 in
set_option maxHeartbeats 2000000 in
theorem refBound (x y : List UInt8) (hlx : x.length ≤ 9000000000000000000) (hly : y.length ≤ 9000000000000000000) (w : World) :
    Calls Tryd.prog 55 #[.string (bs x), .string (bs y)] w fun e w' => e = .returned (.tuple #[.string (bs (boundT x y).1), .int .i64 (boundT x y).2]) ∧ Below w.heap.size w w' := by
  cases h : right x with
  | false =>
    have H : Hid (boundT x y = ([], 10)) := by show boundT x y = _; simp [boundT, h]
    have HR := Lib.hid h
    clear h
    go_enter Tryd.func55, Tryd.ntmps55
    go_wp2_with (go_at_call 56; refine (refRight x hlx _).mono ?_; rintro e w1 ⟨rfl, hb1⟩; rw [HR.out])
    go_ret2
    exact ⟨by rw [H.out]; rfl, by (repeat' (first | with_reducible exact Below.refl _ _ | with_reducible assumption | with_reducible refine below_alloc ?_ ?_ _ | with_reducible refine Below.setCell ?_ ?_ _ | with_reducible refine Below.drew ?_ | with_reducible refine below_drewN ?_ _ | with_reducible refine below_step (by assumption) ?_ ?_ | (with_reducible refine Below.trans ?_ (Below.mono (by assumption) ?_)) | exact Nat.le_refl _ | (simp; done) | (simp; omega) | omega))⟩
  | true =>
    cases h2 : right y with
    | false =>
      have H : Hid (boundT x y = ([], 10)) := by show boundT x y = _; simp [boundT, h2]
      have HR := Lib.hid h
      have HR2 := Lib.hid h2
      clear h h2
      go_enter Tryd.func55, Tryd.ntmps55
      go_wp2_with fail
      refine (refRight x hlx _).mono ?_
      rintro e w1 ⟨rfl, hb1⟩
      rw [HR.out]
      go_wp2_with fail
      refine (refRight y hly _).mono ?_
      rintro e w2 ⟨rfl, hb2⟩
      rw [HR2.out]
      go_wp2_with fail
      go_ret2
      exact ⟨by rw [H.out]; rfl, by (repeat' (first | with_reducible exact Below.refl _ _ | with_reducible assumption | with_reducible refine below_alloc ?_ ?_ _ | with_reducible refine Below.setCell ?_ ?_ _ | with_reducible refine Below.drew ?_ | with_reducible refine below_drewN ?_ _ | with_reducible refine below_step (by assumption) ?_ ?_ | (with_reducible refine Below.trans ?_ (Below.mono (by assumption) ?_)) | exact Nat.le_refl _ | (simp; done) | (simp; omega) | omega))⟩
    | true =>
      obtain ⟨c, r, rfl⟩ := right_cons h
      have hr0 : (0 : Int) ≤ (r.length : Int) := by omega
      cases h3 : pubC c with
      | false =>
        have H : Hid (boundT (c :: r) y = ([], 10)) := by show boundT _ _ = _; simp [boundT, head, h3]
        have HR := Lib.hid h
        have HR2 := Lib.hid h2
        have HR3 := Lib.hid h3
        clear h h2 h3
        go_enter Tryd.func55, Tryd.ntmps55
        go_wp2_with fail
        refine (refRight _ hlx _).mono ?_
        rintro e w1 ⟨rfl, hb1⟩
        rw [HR.out]
        go_wp2_with fail
        refine (refRight _ hly _).mono ?_
        rintro e w2 ⟨rfl, hb2⟩
        rw [HR2.out]
        go_wp2_with fail
        refine (refPublic c _).mono ?_
        rintro e w2 ⟨rfl, rfl⟩
        rw [HR3.out]
        go_wp2_with fail
        go_ret2
        exact ⟨by rw [H.out]; rfl, by (repeat' (first | with_reducible exact Below.refl _ _ | with_reducible assumption | with_reducible refine below_alloc ?_ ?_ _ | with_reducible refine Below.setCell ?_ ?_ _ | with_reducible refine Below.drew ?_ | with_reducible refine below_drewN ?_ _ | with_reducible refine below_step (by assumption) ?_ ?_ | (with_reducible refine Below.trans ?_ (Below.mono (by assumption) ?_)) | exact Nat.le_refl _ | (simp; done) | (simp; omega) | omega))⟩
      | true =>
        have H : Hid (boundT (c :: r) y = twoT 76 (c :: r) y) := by show boundT _ _ = _; simp [boundT, head, h, h2, h3]
        have HR := Lib.hid h
        have HR2 := Lib.hid h2
        have HR3 := Lib.hid h3
        clear h h2 h3
        go_enter Tryd.func55, Tryd.ntmps55
        go_wp2_with fail
        refine (refRight _ hlx _).mono ?_
        rintro e w1 ⟨rfl, hb1⟩
        rw [HR.out]
        go_wp2_with fail
        refine (refRight _ hly _).mono ?_
        rintro e w2 ⟨rfl, hb2⟩
        rw [HR2.out]
        go_wp2_with fail
        refine (refPublic c _).mono ?_
        rintro e w2 ⟨rfl, rfl⟩
        rw [HR3.out]
        go_wp2_with fail
        refine (refTwo 76 _ _ hlx hly _).mono ?_
        rintro e w3 ⟨rfl, hb3⟩
        go_wp2_with fail
        go_ret2
        exact ⟨by rw [H.out]; rfl, by (repeat' (first | with_reducible exact Below.refl _ _ | with_reducible assumption | with_reducible refine below_alloc ?_ ?_ _ | with_reducible refine Below.setCell ?_ ?_ _ | with_reducible refine Below.drew ?_ | with_reducible refine below_drewN ?_ _ | with_reducible refine below_step (by assumption) ?_ ?_ | (with_reducible refine Below.trans ?_ (Below.mono (by assumption) ?_)) | exact Nat.le_refl _ | (simp; done) | (simp; omega) | omega))⟩

def nameT (n : Int) : List UInt8 × Int := if n < 0 then ([], 2) else (110 :: (Lib.decDigits n.toNat ++ [59]), 0)

set_option maxRecDepth 100000 in
set_option maxHeartbeats 1000000 in
theorem refName (n : Int) (h0 : -9223372036854775808 ≤ n) (h1 : n ≤ 9223372036854775807) (w : World) :
    Calls Tryd.prog 81 #[.int .i64 n] w fun e w' => e = .returned (.tuple #[.string (bs (nameT n).1), .int .i64 (nameT n).2]) ∧ Below w.heap.size w w' := by
  by_cases h : n < 0
  · have H : Hid (nameT n = ([], 2)) := by show nameT n = _; simp [nameT, h]
    go_enter Tryd.func81, Tryd.ntmps81
    go_wp2_with fail
    go_ret2
    exact ⟨by rw [H.out]; rfl, by (repeat' (first | with_reducible exact Below.refl _ _ | with_reducible assumption | with_reducible refine below_alloc ?_ ?_ _ | with_reducible refine Below.setCell ?_ ?_ _ | with_reducible refine Below.drew ?_ | with_reducible refine below_drewN ?_ _ | with_reducible refine below_step (by assumption) ?_ ?_ | (with_reducible refine Below.trans ?_ (Below.mono (by assumption) ?_)) | exact Nat.le_refl _ | (simp; done) | (simp; omega) | omega))⟩
  · have H : Hid (nameT n = (110 :: (Lib.decDigits n.toNat ++ [59]), 0)) := by show nameT n = _; simp [nameT, h]
    have hd := dec_len20 n.toNat (by omega)
    go_enter Tryd.func81, Tryd.ntmps81
    go_wp2_with (go_at_call 106; refine (refDigits _ (by omega) (by omega) _).mono ?_; rintro e w1 ⟨rfl, hb1⟩)
    go_ret2
    refine ⟨?_, by (repeat' (first | with_reducible exact Below.refl _ _ | with_reducible assumption | with_reducible refine below_alloc ?_ ?_ _ | with_reducible refine Below.setCell ?_ ?_ _ | with_reducible refine Below.drew ?_ | with_reducible refine below_drewN ?_ _ | with_reducible refine below_step (by assumption) ?_ ?_ | (with_reducible refine Below.trans ?_ (Below.mono (by assumption) ?_)) | exact Nat.le_refl _ | (simp; done) | (simp; omega) | omega))⟩
    rw [H.out]
    simp

end Go.Proofs.YtchbhainmalbbaaDoor
