/- The laws of layer 3: few, short terms; does a name stand in a term? -/
import Derived.Test.YtdipkblmcloifaaGreatDoorDedH
set_option linter.unusedSimpArgs false
set_option linter.unusedVariables false
namespace Go.Proofs.YtdipkblmcloifaaGreatDoor
open Go.RowKit

def SmallPost (n : Nat) (w : World) (e : Ending) (w' : World) : Prop := ∃ b : Bool, e = .returned (.bool b) ∧ (b = true → n ≤ 40) ∧ w' = w
set_option maxRecDepth 100000 in
set_option maxHeartbeats 2000000 in
theorem lSmall (ts : List (List UInt8)) (hn : ts.length ≤ 9000000000000000000) (htl : ∀ t ∈ ts, t.length ≤ 9000000000000000000) (v : Value) (w : World) (hv : TermsAt v ts w) :
    Calls Tryz.prog 10 #[v] w (SmallPost ts.length w) := by
  obtain ⟨ad, c, rfl, hd⟩ := termsAt_open hv
  have HD := Lib.hid hd
  have HTL := Lib.hid htl
  clear hd hv htl
  go_enter Tryz.func10, Tryz.ntmps10
  go_wp2
  go_loopw [3, 4] (fun nv iv wr => ∃ (k : Nat) (z : Int), k ≤ ts.length ∧ iv = .int .i64 k ∧ nv = .int .i64 z ∧ wr = w) (fun _ iv _ => ts.length - (intOf iv).toNat)
  case atStart => exact ⟨0, 0, by omega, rfl, rfl, rfl⟩
  case round =>
    obtain ⟨k, z, hk, rfl, rfl, rfl⟩ := hrel
    by_cases hlt : k < ts.length
    · have i1 : (k : Int) < ts.length := by omega
      rcases HD.out with h0 | ⟨b, o, rfl, hb, hc⟩
      · subst h0; simp at hlt
      · have c0 := hc k _ (List.getElem?_eq_getElem hlt)
        have hl := HTL.out _ (List.getElem_mem hlt)
        clear hc
        generalize ts[k] = t at *
        go_wp2_with fail
        go_roundw
        case rel => exact ⟨k + 1, _, by omega, by go_num, rfl, by first | rfl | trivial⟩
        case measure => simp [intOf]; omega
    · obtain rfl : k = ts.length := by omega
      by_cases hz : z ≤ 700
      · have d1 : decide (z ≤ 700) = true := by simp [hz]
        by_cases h40 : ts.length ≤ 40
        · have d2 : decide ((ts.length : Int) ≤ 40) = true := by simp; omega
          go_wp2_with fail
          go_ret
          exact ⟨true, by first | rfl | (simp; done) | (simp; omega), fun _ => h40, rfl⟩
        · have d2 : decide ((ts.length : Int) ≤ 40) = false := by simp; omega
          go_wp2_with fail
          go_ret
          exact ⟨false, by first | rfl | (simp; done) | (simp; omega), fun h => (Bool.false_ne_true h).elim, rfl⟩
      · have d1 : decide (z ≤ 700) = false := by simp [hz]
        go_wp2_with fail
        go_ret
        exact ⟨false, by first | rfl | (simp; done) | (simp; omega), fun h => (Bool.false_ne_true h).elim, rfl⟩

theorem stands_none {nm t : List UInt8} (h : rt t = none) (hn : nm ≠ []) : stands nm t = (t == nm) := by
  unfold stands
  cases t with
  | nil => cases nm with | nil => exact absurd rfl hn | cons _ _ => rfl
  | cons c r => rw [List.length_cons, stF, h, Bool.or_false]
set_option maxRecDepth 100000 in
set_option maxHeartbeats 2000000 in
theorem lStandsN (nm : List UInt8) (hnm : nm ≠ []) : ∀ (n : Nat) (t : List UInt8), t.length < n → t.length ≤ 9000000000000000000 → ∀ (w : World), GOk w →
    Calls Tryz.prog 21 #[.string (bs t), .string (bs nm)] w fun e w' => e = .returned (.bool (stands nm t)) ∧ Below w.heap.size w w' := by
  intro n
  induction n with
  | zero => intro t h; exact absurd h (Nat.not_lt_zero _)
  | succ n ih =>
  intro t hn ht w hG
  have HG := Lib.hid hG
  have IH := Lib.hid ih
  clear hG ih
  cases hr : rt t with
  | none =>
    have H := Lib.hid (stands_none hr hnm)
    have HR := Lib.hid hr
    clear hr
    cases he : (t == nm) with
    | true =>
      have HE := Lib.hid he
      go_enter Tryz.func21, Tryz.ntmps21
      go_wp2_with fail
      refine (tOpen t ht _ HG.out).mono ?_
      rintro e w1 hp
      rw [HR.out] at hp
      obtain ⟨rfl, hb1⟩ := hp
      go_wp2_with fail
      go_ret
      exact ⟨by rw [H.out, HE.out]; rfl, by (repeat' (first | with_reducible exact Below.refl _ _ | with_reducible assumption | with_reducible refine below_alloc ?_ ?_ _ | with_reducible refine Below.setCell ?_ ?_ _ | with_reducible refine Below.drew ?_ | with_reducible refine below_drewN ?_ _ | with_reducible refine below_step (by assumption) ?_ ?_ | (with_reducible refine Below.trans ?_ (Below.mono (by assumption) ?_)) | exact Nat.le_refl _ | (simp; done) | (simp; omega) | omega))⟩
    | false =>
      have HE := Lib.hid he
      go_enter Tryz.func21, Tryz.ntmps21
      go_wp2_with fail
      refine (tOpen t ht _ HG.out).mono ?_
      rintro e w1 hp
      rw [HR.out] at hp
      obtain ⟨rfl, hb1⟩ := hp
      go_wp2_with fail
      go_loopw [7] (fun iv wr => ∃ k : Nat, k = 0 ∧ iv = .int .i64 k ∧ wr = w1.alloc (.cells #[.int .u8 0, .int .i64 0, .string (bs []), .slice none 0 0] 63)) (fun _ _ => 0)
      case atStart => exact ⟨0, rfl, rfl, rfl⟩
      case round =>
        obtain ⟨k, rfl, rfl, rfl⟩ := hrel
        go_wp2_with fail
        go_ret
        exact ⟨by rw [H.out, HE.out]; rfl, by (repeat' (first | with_reducible exact Below.refl _ _ | with_reducible assumption | with_reducible refine below_alloc ?_ ?_ _ | with_reducible refine Below.setCell ?_ ?_ _ | with_reducible refine Below.drew ?_ | with_reducible refine below_drewN ?_ _ | with_reducible refine below_step (by assumption) ?_ ?_ | (with_reducible refine Below.trans ?_ (Below.mono (by assumption) ?_)) | exact Nat.le_refl _ | (simp; done) | (simp; omega) | omega))⟩
  | some s =>
    have H := Lib.hid (stands_eq nm hr)
    have HR := Lib.hid hr
    have HK := Lib.hid (rt_kids hr)
    have hkl : s.kids.length ≤ 9000000000000000000 := by
      obtain ⟨q1, _, _⟩ := rt_rd hr
      obtain ⟨p1, p2, p3⟩ := rd_parts q1
      by_cases b1 : s.op.toNat = 110
      · rw [(p1 b1).2.1]; simp
      by_cases b2 : s.op.toNat = 116
      · rw [(p2 b2).1]; simp
      have := (p3 b1 b2).2.2.2.2
      omega
    clear hr
    cases he : (t == nm) with
    | true =>
      have HE := Lib.hid he
      go_enter Tryz.func21, Tryz.ntmps21
      go_wp2_with fail
      refine (tOpen t ht _ HG.out).mono ?_
      rintro e w1 hp
      rw [HR.out] at hp
      obtain ⟨ad, kn, kc, rfl, hown, hb1⟩ := hp
      clear hown
      go_wp2_with fail
      go_ret
      exact ⟨by rw [H.out, HE.out]; rfl, by (repeat' (first | with_reducible exact Below.refl _ _ | with_reducible assumption | with_reducible refine below_alloc ?_ ?_ _ | with_reducible refine Below.setCell ?_ ?_ _ | with_reducible refine Below.drew ?_ | with_reducible refine below_drewN ?_ _ | with_reducible refine below_step (by assumption) ?_ ?_ | (with_reducible refine Below.trans ?_ (Below.mono (by assumption) ?_)) | exact Nat.le_refl _ | (simp; done) | (simp; omega) | omega))⟩
    | false =>
      have HE := Lib.hid he
      go_enter Tryz.func21, Tryz.ntmps21
      go_wp2_with fail
      refine (tOpen t ht _ HG.out).mono ?_
      rintro e w1 hp
      rw [HR.out] at hp
      obtain ⟨ad, kn, kc, rfl, hown, hb1⟩ := hp
      obtain ⟨hts, hkn, _⟩ := own_terms hown
      clear hown
      subst hkn
      go_wp2_with fail
      have HP1 := Lib.hid (blk_new w1 (.cells #[.int .u8 s.op.toNat, .int .i64 (numOf s), .string (bs s.text), .slice ad s.kids.length kc] 63))
      have hg1 : GL [] w (w1.alloc (.cells #[.int .u8 s.op.toNat, .int .i64 (numOf s), .string (bs s.text), .slice ad s.kids.length kc] 63)) := gl_alloc (gl_below hb1 (gl_refl _ _)) _
      have HV1 := Lib.hid (termsAt_glx hts (gl_alloc (gl_refl [] w1) (.cells #[.int .u8 s.op.toNat, .int .i64 (numOf s), .string (bs s.text), .slice ad s.kids.length kc] 63)) (by simp))
      have HG1 := Lib.hid (gok_alloc (gok_below HG.out hb1) (.cells #[.int .u8 s.op.toNat, .int .i64 (numOf s), .string (bs s.text), .slice ad s.kids.length kc] 63))
      clear hts hb1
      generalize w1.alloc (.cells #[.int .u8 s.op.toNat, .int .i64 (numOf s), .string (bs s.text), .slice ad s.kids.length kc] 63) = v at *
      generalize w1.heap.size = B at *
      go_loopw [7] (fun iv wr => ∃ k : Nat, k ≤ s.kids.length ∧ iv = .int .i64 k ∧ Hid (GL [] w wr) ∧ Hid (wr.heap[B]? = some (.cells #[.int .u8 s.op.toNat, .int .i64 (numOf s), .string (bs s.text), .slice ad s.kids.length kc] 63 (0, 0))) ∧ Hid (TermsAt (.slice ad s.kids.length kc) s.kids wr) ∧ Hid (GOk wr) ∧ Hid ((s.kids.drop k).any (stands nm) = s.kids.any (stands nm))) (fun iv _ => s.kids.length - (intOf iv).toNat)
      case atStart => exact ⟨0, by omega, rfl, Lib.hid hg1, HP1, HV1, HG1, Lib.hid rfl⟩
      case round =>
        obtain ⟨k, hk, rfl, hgr, hPr, hVr, hGr, hNr⟩ := hrel
        have a1 := blk_cell hPr.out
        have a2 := blk_free hPr.out
        have a3 := blk_lt hPr.out
        by_cases hlt : k < s.kids.length
        · have i1 : (k : Int) < s.kids.length := by omega
          rcases hVr.out with ⟨_, _, _, h0⟩ | ⟨g, o, c, hv, hgl, hc⟩
          · rw [h0] at hlt; simp at hlt
          · injection hv with hv1 hv2 hv3
            subst hv1
            have c0 := hc k _ (List.getElem?_eq_getElem hlt)
            have hkk := HK.out _ (List.getElem_mem hlt)
            have hd0 : s.kids.drop k = s.kids[k] :: s.kids.drop (k + 1) := List.drop_eq_getElem_cons hlt
            have hN2 := hNr.out
            rw [hd0, List.any_cons] at hN2
            have hkl2 := (right_len hkk.1).2
            clear hc hd0 hv3
            generalize s.kids[k] = y at *
            go_wp2_with fail
            refine (IH.out y (by omega) (by omega) _ hGr.out).mono ?_
            rintro e w3 ⟨rfl, hb3⟩
            have hg3 : GL [] w w3 := gl_below hb3 hgr.out
            cases hq : stands nm y with
            | true =>
              rw [hq] at hN2
              have HN2 := Lib.hid hN2
              clear hN2 a1 a2 a3 c0 hq
              go_wp2_with fail
              go_ret
              exact ⟨by rw [H.out, HE.out, ← HN2.out]; rfl, gl_to_below hg3⟩
            | false =>
              rw [hq, Bool.false_or] at hN2
              have HN2 := Lib.hid hN2
              have HP3 := Lib.hid (blk_below hPr.out hb3 a3)
              have HV3 := Lib.hid (termsAt_glx hVr.out (gl_below hb3 (gl_refl [] _)) (by simp))
              have HG3 := Lib.hid (gok_below hGr.out hb3)
              clear hN2 a1 a2 a3 c0 hq
              go_wp2_with fail
              go_roundw
              case rel => exact ⟨k + 1, by omega, by go_num, Lib.hid hg3, HP3, HV3, HG3, HN2⟩
              case measure => simp [intOf]; omega
        · obtain rfl : k = s.kids.length := by omega
          have hz := hNr.out
          rw [List.drop_length] at hz
          have HZ := Lib.hid hz
          clear hz
          go_wp2_with fail
          go_ret
          exact ⟨by rw [H.out, HE.out, ← HZ.out]; rfl, gl_to_below hgr.out⟩
theorem lStands (nm t : List UInt8) (hnm : nm ≠ []) (ht : t.length ≤ 9000000000000000000) (w : World) (hG : GOk w) :
    Calls Tryz.prog 21 #[.string (bs t), .string (bs nm)] w fun e w' => e = .returned (.bool (stands nm t)) ∧ Below w.heap.size w w' := lStandsN nm hnm (t.length + 1) t (Nat.lt_succ_self _) ht w hG
end Go.Proofs.YtdipkblmcloifaaGreatDoor
