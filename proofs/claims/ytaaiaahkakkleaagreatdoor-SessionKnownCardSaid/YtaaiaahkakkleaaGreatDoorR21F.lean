/- The document's layer 21: a frame, read; a direction behind it. -/
import Derived.Test.YtaaiaahkakkleaaGreatDoorR21E
set_option maxRecDepth 100000
set_option maxHeartbeats 2000000
set_option linter.unusedSimpArgs false
set_option linter.unusedVariables false
namespace Go.Proofs.YtaaiaahkakkleaaGreatDoor
open Go.RowKit
theorem cell_glT {w w' : World} {a : Addr} {v : Value} {rs : List Nat} (h : w.cell? a = some v) (hg : GL rs w w') (hr : a.block ∉ rs) : w'.cell? a = some v := by
 have hlt := World.block_lt_of_cell? _ _ h
 obtain ⟨b, o, s⟩ := a
 simp only [World.cell?, hg.block b hlt hr] at h ⊢
 exact h
theorem qOn (key : List UInt8) (c : Nat) (hk : key.length ≤ 9000000000000000000) (hc : c ≤ 99) (w : World) :
  Calls Tryz.prog 81 #[.agg #[.string (bs key), .int .i64 c]] w fun e w' => e = .returned (.agg #[.string (bs (onM key c).1), .int .i64 ((onM key c).2 : Nat)]) ∧ Below w.heap.size w w' := by
 have hon := onM_same key c hc
 by_cases h : c < 99
 · have i1 : (c : Int) < 99 := by omega
   have H : Hid (onM key c = (key, c + 1)) := by show _ = _; rw [hon, if_pos h]
   clear hon h
   go_enter Tryz.func81, Tryz.ntmps81
   go_wp2_with fail
   refine bodyPost_ret (v := .agg #[.string (bs key), .int .i64 ((c : Int) + 1)]) (by simp [results, Tryz.results81, go_sem]) rfl ?_
   exact ⟨by rw [H.out]; first | rfl | (simp; done), bl_⟩
 · have i1 : ¬ (c : Int) < 99 := by omega
   have i2 : decide ((c : Int) < 99) = false := by simpa using i1
   obtain ⟨y, g, hy⟩ : ∃ y g, twoT 68 key (textT lNext).1 = (y, g) := ⟨_, _, rfl⟩
   have H : Hid (onM key c = (y, 0)) := by show _ = _; rw [hon, if_neg h, hy]
   have HY := Lib.hid hy
   have HE1 := Lib.hid (show textT lNext = ((textT lNext).1, 0) from rfl)
   have le1 : (textT lNext).1.length ≤ 100 := by decide +kernel
   generalize (textT lNext).1 = td at *
   clear hon hy h i1
   go_enter Tryz.func81, Tryz.ntmps81
   have hg0 : GL [] w w := gl_refl _ _
   have hs0 : w.heap.size ≤ w.heap.size := Nat.le_refl _
   go_wp2_with fail
   have HW1 : Hid (((w.alloc (.cells #[.string (bs key), .int .i64 c] 83)).alloc (.cells #[.string (bs []), .int .i64 0] 83)).heap[w.heap.size]? = some (.cells #[.string (bs key), .int .i64 c] 83 (0, 0))) := by
    have h := blk_new w (.cells #[.string (bs key), .int .i64 c] 83)
    exact (blk_alloc h (.cells #[.string (bs []), .int .i64 0] 83))
   have HR1 : Hid (((w.alloc (.cells #[.string (bs key), .int .i64 c] 83)).alloc (.cells #[.string (bs []), .int .i64 0] 83)).heap[w.heap.size + 1]? = some (.cells #[.string (bs []), .int .i64 0] 83 (0, 0))) := by
    have h := blk_new (w.alloc (.cells #[.string (bs key), .int .i64 c] 83)) (.cells #[.string (bs []), .int .i64 0] 83)
    rw [show (w.alloc (.cells #[.string (bs key), .int .i64 c] 83)).heap.size = w.heap.size + 1 by simp] at h
    exact h
   have hg1 : GL [] w ((w.alloc (.cells #[.string (bs key), .int .i64 c] 83)).alloc (.cells #[.string (bs []), .int .i64 0] 83)) := (gl_alloc (gl_alloc hg0 (.cells #[.string (bs key), .int .i64 c] 83)) (.cells #[.string (bs []), .int .i64 0] 83))
   generalize ((w.alloc (.cells #[.string (bs key), .int .i64 c] 83)).alloc (.cells #[.string (bs []), .int .i64 0] 83)) = w1 at *
   have hs1 := hg1.size
   refine (refText lNext de_ _).mono ?_
   rintro e w2 ⟨rfl, hb2⟩
   rw [HE1.out]
   have HR2 := Lib.hid (blk_below HR1.out hb2 (blk_lt HR1.out))
   have HW2 := Lib.hid (blk_below HW1.out hb2 (blk_lt HW1.out))
   have hg2 : GL [] w w2 := gl_below hb2 hg1
   have hs2 := hg2.size
   have fa1 := blk_cell HW2.out
   have fb1 := blk_free HW2.out
   have fl1 := blk_lt HW2.out
   go_wp2_with fail
   refine (ref_two 68 68 rfl key td hk om_ _).mono ?_
   rintro e w3 ⟨rfl, hb3⟩
   rw [HY.out]
   clear fa1 fb1 fl1
   have HR3 := Lib.hid (blk_below HR2.out hb3 (blk_lt HR2.out))
   have HW3 := Lib.hid (blk_below HW2.out hb3 (blk_lt HW2.out))
   have hg3 : GL [] w w3 := gl_below hb3 hg2
   have hs3 := hg3.size
   have fa2 := blk_cell HR3.out
   have fb2 := blk_free HR3.out
   have fl2 := blk_lt HR3.out
   have fa3 := blk_cell HW3.out
   have fb3 := blk_free HW3.out
   have fl3 := blk_lt HW3.out
   go_wp2_with fail
   refine bodyPost_ret (v := .agg #[.string (bs y), .int .i64 0]) (by simp [results, Tryz.results81, go_sem, fa2, fb2, fl2, fa3, fb3, fl3]) rfl ?_
   exact ⟨by rw [H.out]; first | rfl | (simp; done), by first | (exact gl_to_below hg3) | (exact gl_to_below (gl_setn sx_ (gl_setn sx_ hg3 _) _))⟩
def ReadRP (w : World) (r : Option (List UInt8)) (e : Ending) (w' : World) : Prop :=
 Below w.heap.size w w' ∧ match r with
 | none => ∃ v, e = .returned (.tuple #[.string (bs v), .bool false])
 | some x => e = .returned (.tuple #[.string (bs x), .bool true])
theorem unbox_not {k t u : List UInt8} (h : unboxT k t = (u, false)) : u = [] := by
 have h1 : (unboxT k t).1 = u := by rw [h]
 have h2 : (unboxT k t).2 = false := by rw [h]
 rw [← h1]
 unfold unboxT at h2 ⊢
 repeat' split
 all_goals first
  | rfl
  | (exfalso; simp_all; done)
theorem qRead (key : List UInt8) (c : Nat) (t : List UInt8) (hk : key.length ≤ 9000000000000000000) (hc : c ≤ 99) (ht : t.length ≤ 9000000000000000000) (w : World) :
  Calls Tryz.prog 80 #[.agg #[.string (bs key), .int .i64 c], .string (bs t)] w (ReadRP w (readM key c t)) := by
 obtain ⟨u, bu, hu⟩ : ∃ u b, unboxT key t = (u, b) := ⟨_, _, rfl⟩
 have HU := Lib.hid hu
 have lu : u.length ≤ 16384 := by have := unboxT_len key t; rw [hu] at this; exact this
 cases hr : rt u with
 | none =>
   have H : Hid (readM key c t = none) := readM_none hu hr
   have HR := Lib.hid hr
   clear hu hr
   cases bu
   all_goals
    go_enter Tryz.func80, Tryz.ntmps80
    have hg0 : GL [] w w := gl_refl _ _
    have hs0 : w.heap.size ≤ w.heap.size := Nat.le_refl _
    go_wp2_with fail
    have HW1 : Hid ((w.alloc (.cells #[.string (bs key), .int .i64 c] 83)).heap[w.heap.size]? = some (.cells #[.string (bs key), .int .i64 c] 83 (0, 0))) := by
     have h := blk_new w (.cells #[.string (bs key), .int .i64 c] 83)
     exact h
    have hg1 : GL [] w (w.alloc (.cells #[.string (bs key), .int .i64 c] 83)) := (gl_alloc hg0 (.cells #[.string (bs key), .int .i64 c] 83))
    have geW : w.heap.size ≤ w.heap.size := by have := hg0.size; omega
    generalize (w.alloc (.cells #[.string (bs key), .int .i64 c] 83)) = w1 at *
    generalize w.heap.size = W at *
    have hs1 := hg1.size
    have fa1 := blk_cell HW1.out
    have fb1 := blk_free HW1.out
    have fl1 := blk_lt HW1.out
    go_wp2_with fail
    refine (refUnbox key t ht _).mono ?_
    rintro e w2 ⟨rfl, hb2⟩
    rw [HU.out]
    clear fa1 fb1 fl1
    have HW2 := Lib.hid (blk_below HW1.out hb2 (blk_lt HW1.out))
    have hg2 : GL [] w w2 := gl_below hb2 hg1
    have hs2 := hg2.size
    go_wp2_with fail
    refine (refOpen u om_ _).mono ?_
    rintro e w3 hp
    rw [HR.out] at hp
    obtain ⟨rfl, hb3⟩ := hp
    have hg3 : GL [] w w3 := gl_below hb3 hg2
    go_wp2_with fail
    go_ret2
    unfold ReadRP
    rw [H.out]
    exact ⟨by first | exact gl_to_below (gl_alloc hg3 _) | exact gl_to_below hg3, [], by first | rfl | (simp; done)⟩
 | some x =>
   have HR := Lib.hid hr
   have hbu : bu = true := by
    cases bu with
    | true => rfl
    | false => rw [unbox_not hu] at hr; simp [rt, rd] at hr
   subst hbu
   by_cases ho : x.op.toNat = 84
   · have b1 : (((x.op.toNat : Nat) : Int) != 84) = false := by simp [ho]
     cases hks : x.kids with
     | nil =>
       have H : Hid (readM key c t = none) := readM_op hu hr (.inr hks)
       have HKS := Lib.hid hks
       clear hu hr ho hks
       go_enter Tryz.func80, Tryz.ntmps80
       have hg0 : GL [] w w := gl_refl _ _
       have hs0 : w.heap.size ≤ w.heap.size := Nat.le_refl _
       go_wp2_with fail
       have HW1 : Hid ((w.alloc (.cells #[.string (bs key), .int .i64 c] 83)).heap[w.heap.size]? = some (.cells #[.string (bs key), .int .i64 c] 83 (0, 0))) := by
        have h := blk_new w (.cells #[.string (bs key), .int .i64 c] 83)
        exact h
       have hg1 : GL [] w (w.alloc (.cells #[.string (bs key), .int .i64 c] 83)) := (gl_alloc hg0 (.cells #[.string (bs key), .int .i64 c] 83))
       have geW : w.heap.size ≤ w.heap.size := by have := hg0.size; omega
       generalize (w.alloc (.cells #[.string (bs key), .int .i64 c] 83)) = w1 at *
       generalize w.heap.size = W at *
       have hs1 := hg1.size
       have fa1 := blk_cell HW1.out
       have fb1 := blk_free HW1.out
       have fl1 := blk_lt HW1.out
       go_wp2_with fail
       refine (refUnbox key t ht _).mono ?_
       rintro e w2 ⟨rfl, hb2⟩
       rw [HU.out]
       clear fa1 fb1 fl1
       have HW2 := Lib.hid (blk_below HW1.out hb2 (blk_lt HW1.out))
       have hg2 : GL [] w w2 := gl_below hb2 hg1
       have hs2 := hg2.size
       go_wp2_with fail
       refine (refOpen u om_ _).mono ?_
       rintro e w3 hp
       rw [HR.out] at hp
       obtain ⟨ad, kn, kc, rfl, hown, hb3⟩ := hp
       have hkn := own_len hown
       rw [HKS.out] at hkn
       simp only [List.length_nil] at hkn
       subst hkn
       have hg3 : GL [] w w3 := gl_below hb3 hg2
       clear hown
       go_wp2_with fail
       go_ret2
       unfold ReadRP
       rw [H.out]
       exact ⟨by first | exact gl_to_below (gl_alloc hg3 _) | exact gl_to_below hg3, [], by first | rfl | (simp; done)⟩
     | cons k0 tl =>
       have HRM := Lib.hid (readM_kids (c := c) hu hr ho hks)
       have hmany := rt_many_kids hr
       rw [hks] at hmany
       simp only [List.length_cons] at hmany
       have HTK := Lib.hid (show ∀ a ∈ tl, right a = true ∧ a.length < u.length from fun a ha => rt_kids hr a (by rw [hks]; simp [ha]))
       have HKS := Lib.hid hks
       clear hu hr ho hks
       go_enter Tryz.func80, Tryz.ntmps80
       have hg0 : GL [] w w := gl_refl _ _
       have hs0 : w.heap.size ≤ w.heap.size := Nat.le_refl _
       go_wp2_with fail
       have HW1 : Hid ((w.alloc (.cells #[.string (bs key), .int .i64 c] 83)).heap[w.heap.size]? = some (.cells #[.string (bs key), .int .i64 c] 83 (0, 0))) := by
        have h := blk_new w (.cells #[.string (bs key), .int .i64 c] 83)
        exact h
       have hg1 : GL [] w (w.alloc (.cells #[.string (bs key), .int .i64 c] 83)) := (gl_alloc hg0 (.cells #[.string (bs key), .int .i64 c] 83))
       have geW : w.heap.size ≤ w.heap.size := by have := hg0.size; omega
       generalize (w.alloc (.cells #[.string (bs key), .int .i64 c] 83)) = w1 at *
       generalize w.heap.size = W at *
       have hs1 := hg1.size
       have fa1 := blk_cell HW1.out
       have fb1 := blk_free HW1.out
       have fl1 := blk_lt HW1.out
       go_wp2_with fail
       refine (refUnbox key t ht _).mono ?_
       rintro e w2 ⟨rfl, hb2⟩
       rw [HU.out]
       clear fa1 fb1 fl1
       have HW2 := Lib.hid (blk_below HW1.out hb2 (blk_lt HW1.out))
       have hg2 : GL [] w w2 := gl_below hb2 hg1
       have hs2 := hg2.size
       go_wp2_with fail
       refine (refOpen u om_ _).mono ?_
       rintro e w3 hp
       rw [HR.out] at hp
       obtain ⟨ad, kn, kc, rfl, hown, hb3⟩ := hp
       rw [HKS.out] at hown
       obtain ⟨g, cap, hv, hgb, hgw, hcap, hcap2, hcell⟩ := own_cells hown si_
       injection hv with hv1 hv2 hv3
       subst hv1 hv2 hv3
       have HC := Lib.hid (show ∀ (j : Nat) (a : List UInt8), tl[j]? = some a → w3.cell? ⟨g, j + 1, none⟩ = some (.string (bs a)) from fun j a ha => hcell (j + 1) _ (by simp [List.getElem?_map, ha]))
       have HW3 := Lib.hid (blk_below HW2.out hb3 (blk_lt HW2.out))
       have hg3 : GL [] w w3 := gl_below hb3 hg2
       have hln : (k0 :: tl).length = tl.length + 1 := by simp
       rw [hln]
       clear hown hcell hb3 hgb hcap
       go_wp2_with fail
       have HP := Lib.hid (blk_new w3 (.cells #[.int .u8 x.op.toNat, .int .i64 (numOf x), .string (bs x.text), .slice (some ⟨g, 0, none⟩) (tl.length + 1) kc] 98))
       have HW4 := Lib.hid (blk_alloc HW3.out (.cells #[.int .u8 x.op.toNat, .int .i64 (numOf x), .string (bs x.text), .slice (some ⟨g, 0, none⟩) (tl.length + 1) kc] 98))
       have HC4 := Lib.hid (show ∀ (j : Nat) (a : List UInt8), tl[j]? = some a → (w3.alloc (.cells #[.int .u8 x.op.toNat, .int .i64 (numOf x), .string (bs x.text), .slice (some ⟨g, 0, none⟩) (tl.length + 1) kc] 98)).cell? ⟨g, j + 1, none⟩ = some (.string (bs a)) from fun j a ha => cell_alloc2 (HC.out j a ha) _)
       have hg4 : GL [] w (w3.alloc (.cells #[.int .u8 x.op.toNat, .int .i64 (numOf x), .string (bs x.text), .slice (some ⟨g, 0, none⟩) (tl.length + 1) kc] 98)) := gl_alloc hg3 _
       generalize w3.alloc (.cells #[.int .u8 x.op.toNat, .int .i64 (numOf x), .string (bs x.text), .slice (some ⟨g, 0, none⟩) (tl.length + 1) kc] 98) = w4 at *
       generalize w3.heap.size = Pb at *
       clear HC HW3 hg1 hg2 hg3 HW1 HW2
       go_loopw [10, 11] (fun sv iv wr => ∃ (k : Nat) (acc : List UInt8), k ≤ tl.length ∧ iv = .int .i64 ((k + 1 : Nat) : Int) ∧ sv = .string (bs acc) ∧ Hid (TProg tl k acc) ∧ acc.length ≤ k * 16384 ∧ Hid (GL [] w4 wr)) (fun _ iv _ => tl.length + 1 - (intOf iv).toNat)
       case atStart => exact ⟨0, [], by omega, rfl, rfl, tprog_start tl, by simp, Lib.hid (gl_refl _ _)⟩
       case round =>
        obtain ⟨k, acc, hkk, rfl, rfl, hTP, hal, hgr⟩ := hrel
        have hgw : GL [] w wr := gl_step hgr.out hg4 si_
        have HPr := Lib.hid (blk_gl HP.out hgr.out si_)
        have p0 := blk_cell HPr.out
        have p1 := blk_free HPr.out
        have p2 := blk_lt HPr.out
        by_cases hlt : k < tl.length
        · have i1 : (k : Int) < tl.length := by omega
          have hx : tl[k]? = some tl[k] := List.getElem?_eq_getElem hlt
          have c0 := cell_glT (HC4.out k _ hx) hgr.out si_
          have hrt := HTK.out tl[k] (List.getElem_mem _)
          have HX := Lib.hid hx
          clear hx
          generalize tl[k] = a at *
          obtain ⟨y, hy⟩ := Option.isSome_iff_exists.1 (show (rt a).isSome = true from hrt.1)
          have hyt := rt_text_len hy
          have HYa := Lib.hid hy
          clear hy
          go_wp2_with fail
          refine (refOpen a om_ _).mono ?_
          rintro e w5 hp
          rw [HYa.out] at hp
          obtain ⟨ad, kn, kc2, rfl, hown, hb5⟩ := hp
          clear hown p0 p1 p2 c0
          have HP5 := Lib.hid (blk_below HPr.out hb5 (blk_lt HPr.out))
          have hgr5 : GL [] w4 w5 := gl_below hb5 hgr.out
          by_cases h116 : y.op.toNat = 116
          · have b2 : (((y.op.toNat : Nat) : Int) != 116) = false := by simp [h116]
            have HTN := Lib.hid (tprog_next hTP.out HX.out HYa.out h116)
            clear h116
            have hln2 : (acc ++ y.text).length ≤ (k + 1) * 16384 := by rw [List.length_append, Nat.add_mul]; omega
            go_wp2_with fail
            go_roundw
            case rel => first | exact ⟨k + 1, acc ++ y.text, by omega, by go_num, rfl, HTN, hln2, Lib.hid (gl_alloc hgr5 _)⟩ | ((repeat apply Exists.intro); refine ⟨?_, rfl⟩; exact ⟨k + 1, acc ++ y.text, by omega, by go_num, rfl, HTN, hln2, Lib.hid (gl_alloc hgr5 _)⟩) | exact ⟨k + 1, acc ++ y.text, by omega, by go_num, by first | rfl | (simp; done), HTN, hln2, Lib.hid (gl_alloc hgr5 _)⟩
            case measure => first | (simp [intOf]; omega) | ((show tl.length + 1 - ((k : Int) + 1 + 1).toNat < tl.length + 1 - ((k : Int) + 1).toNat); omega)
          · have b2 : (((y.op.toNat : Nat) : Int) != 116) = true := by simp; omega
            have H : Hid (readM key c t = none) := by
             show _ = _
             rw [HRM.out, tprog_bad hTP.out HX.out (fun s hs => by rw [HYa.out] at hs; obtain rfl := Option.some.inj hs; exact h116)]
            go_wp2_with fail
            go_ret2
            unfold ReadRP
            rw [H.out]
            exact ⟨gl_to_below (gl_alloc (gl_step hgr5 hg4 si_) _), [], by first | rfl | (simp; done)⟩
        · obtain rfl : k = tl.length := by omega
          have HE := Lib.hid (tprog_end hTP.out)
          have HWr := Lib.hid (blk_gl HW4.out hgr.out si_)
          have f0 := blk_cell HWr.out
          have f1 := blk_free HWr.out
          have f2 := blk_lt HWr.out
          obtain ⟨bx, gb, hbx⟩ : ∃ x g, makeM key c acc = (x, g) := ⟨_, _, rfl⟩
          have H : Hid (readM key c t = if gb ≠ 0 ∨ bx ≠ t then none else some acc) := by show _ = _; rw [HRM.out, HE.out]; simp only [hbx]
          have HBX := Lib.hid hbx
          clear hbx hTP
          go_wp2_with fail
          refine (qFrame key c acc hk hc om_ _).mono ?_
          rintro e w5 ⟨rfl, hb5⟩
          rw [HBX.out]
          have hg5 : GL [] w w5 := gl_below hb5 hgw
          clear p0 p1 p2 f0 f1 f2 hb5
          by_cases hgb : gb = 0
          · subst hgb
            by_cases hbt : bx = t
            · have b2 : (bx == t) = true := by simpa using hbt
              subst hbt
              go_wp2_with fail
              go_ret2
              unfold ReadRP
              rw [H.out, if_neg si_]
              exact ⟨gl_to_below hg5, by first | rfl | (simp; done)⟩
            · have b2 : (bx == t) = false := by simpa using hbt
              have HN := Lib.hid hbt
              clear hbt
              go_wp2_with fail
              go_ret2
              unfold ReadRP
              rw [H.out, if_pos (.inr HN.out)]
              exact ⟨gl_to_below hg5, acc, by first | rfl | (simp; done)⟩
          · have b2 : (gb == 0) = false := by simpa using hgb
            have HN := Lib.hid hgb
            clear hgb
            go_wp2_with fail
            go_ret2
            unfold ReadRP
            rw [H.out, if_pos (.inl HN.out)]
            exact ⟨gl_to_below hg5, acc, by first | rfl | (simp; done)⟩
   · have b1 : (((x.op.toNat : Nat) : Int) != 84) = true := by simp; omega
     have H : Hid (readM key c t = none) := readM_op hu hr (.inl ho)
     clear hu hr ho
     go_enter Tryz.func80, Tryz.ntmps80
     have hg0 : GL [] w w := gl_refl _ _
     have hs0 : w.heap.size ≤ w.heap.size := Nat.le_refl _
     go_wp2_with fail
     have HW1 : Hid ((w.alloc (.cells #[.string (bs key), .int .i64 c] 83)).heap[w.heap.size]? = some (.cells #[.string (bs key), .int .i64 c] 83 (0, 0))) := by
      have h := blk_new w (.cells #[.string (bs key), .int .i64 c] 83)
      exact h
     have hg1 : GL [] w (w.alloc (.cells #[.string (bs key), .int .i64 c] 83)) := (gl_alloc hg0 (.cells #[.string (bs key), .int .i64 c] 83))
     have geW : w.heap.size ≤ w.heap.size := by have := hg0.size; omega
     generalize (w.alloc (.cells #[.string (bs key), .int .i64 c] 83)) = w1 at *
     generalize w.heap.size = W at *
     have hs1 := hg1.size
     have fa1 := blk_cell HW1.out
     have fb1 := blk_free HW1.out
     have fl1 := blk_lt HW1.out
     go_wp2_with fail
     refine (refUnbox key t ht _).mono ?_
     rintro e w2 ⟨rfl, hb2⟩
     rw [HU.out]
     clear fa1 fb1 fl1
     have HW2 := Lib.hid (blk_below HW1.out hb2 (blk_lt HW1.out))
     have hg2 : GL [] w w2 := gl_below hb2 hg1
     have hs2 := hg2.size
     go_wp2_with fail
     refine (refOpen u om_ _).mono ?_
     rintro e w3 hp
     rw [HR.out] at hp
     obtain ⟨ad, kn, kc, rfl, hown, hb3⟩ := hp
     have hg3 : GL [] w w3 := gl_below hb3 hg2
     clear hown
     go_wp2_with fail
     go_ret2
     unfold ReadRP
     rw [H.out]
     exact ⟨by first | exact gl_to_below (gl_alloc hg3 _) | exact gl_to_below hg3, [], by first | rfl | (simp; done)⟩
end Go.Proofs.YtaaiaahkakkleaaGreatDoor
