/- The laws of layer 21: a call of a row. -/
import Derived.Test.YtaaiaahkakkleaaGreatDoorPlE
import Derived.Test.YtaaiaahkakkleaaGreatDoorLawQ
set_option maxRecDepth 100000
set_option maxHeartbeats 4000000
set_option linter.unusedSimpArgs false
set_option linter.unusedVariables false
namespace Go.Proofs.YtaaiaahkakkleaaGreatDoor
open Go.RowKit
theorem tmodN (i n : Int) (hn : 0 < n) : -n < i.tmod n ∧ i.tmod n < n := by
 constructor
 · rw [Int.tmod_eq_emod]
   split
   · have := Int.emod_nonneg i (show n ≠ 0 by omega); omega
   · rename_i h
     have := Int.emod_nonneg i (show n ≠ 0 by omega)
     have h3 : i % n ≠ 0 := fun h0 => h (.inr (Int.dvd_of_emod_eq_zero h0))
     omega
 · exact Int.tmod_lt_of_pos i hn
theorem pickN (i n : Int) (hn : 0 < n) : 0 ≤ pickZ i n ∧ pickZ i n < n := by
 obtain ⟨h1, h2⟩ := tmodN i n hn
 unfold pickZ
 rw [if_neg om_, Int.tmod_eq_emod_of_nonneg om_]
 exact ⟨Int.emod_nonneg _ om_, Int.emod_lt_of_pos _ hn⟩
theorem lPickN (i n : Int) (h0 : -9223372036854775808 ≤ i) (h1 : i ≤ 9223372036854775807) (hn : 0 < n) (hn2 : n ≤ 1000) (w : World) :
  Calls Tryz.prog 29 #[.int .i64 i, .int .i64 n] w fun e w' => e = .returned (.int .i64 (pickZ i n)) ∧ w = w' := by
 obtain ⟨b2, b1⟩ := tmodN i n hn
 have H : Hid (pickZ i n = (i.tmod n + n) % n) := by show pickZ i n = _; unfold pickZ; rw [if_neg om_, Int.tmod_eq_emod_of_nonneg om_]
 have hle : ¬ n ≤ 0 := by omega
 have hn0 : n ≠ 0 := by omega
 have hnn : n ≠ -1 := by omega
 go_enter Tryz.func29, Tryz.ntmps29
 go_wp2
 go_ret
 exact ⟨by rw [H.out]; first | rfl | simp, rfl⟩
theorem keepsF_gl {Pb X0 X1 Y0 Y1 : Nat} {v0 v1 : Value} {w w' : World} (hg : GL [] w w') : KeepsF Pb X0 X1 Y0 Y1 v0 v1 v0 v1 w w' := fun S o hf hS => ⟨keep_gl hg hS si_, hf⟩
theorem keepsF_trans {Pb X0 X1 Y0 Y1 : Nat} {v0 v1 u0 u1 x0 x1 : Value} {w w1 w2 : World} (h1 : KeepsF Pb X0 X1 Y0 Y1 v0 v1 u0 u1 w w1) (h2 : KeepsF Pb X0 X1 Y0 Y1 u0 u1 x0 x1 w1 w2) : KeepsF Pb X0 X1 Y0 Y1 v0 v1 x0 x1 w w2 := fun S o hf hS => by
 obtain ⟨a, b⟩ := h1 S o hf hS
 exact h2 S o b a
theorem pair_free {w : World} {lo Pb X0 X1 Y0 Y1 : Nat} {v0 v1 : Value} {q0 q1 : List (List UInt8)} {m : Nat} (h : PairAt w lo Pb X0 X1 Y0 Y1 v0 v1 q0 q1 m) {S : Nat} (hS : w.heap.size ≤ S) : FreeOf Pb X0 X1 Y0 Y1 v0 v1 S := by
 have l0 := side_lt h.s0
 have l1 := side_lt h.s1
 have lp := blk_lt h.blk
 exact ⟨by omega, by omega, by omega, by omega, by omega, fun hb => by have := queT_blk h.u0 S hb; omega, fun hb => by have := queT_blk h.u1 S hb; omega⟩
theorem pair_size {w : World} {lo Pb X0 X1 Y0 Y1 : Nat} {v0 v1 : Value} {q0 q1 : List (List UInt8)} {m : Nat} (h : PairAt w lo Pb X0 X1 Y0 Y1 v0 v1 q0 q1 m) : lo ≤ w.heap.size ∧ gN ≤ lo := by
 have lp := blk_lt h.blk
 have := h.low
 omega
theorem lOne0 (kind times : Int) (k0 : -9223372036854775808 ≤ kind) (k1 : kind ≤ 9223372036854775807) (n0 : -9223372036854775808 ≤ times) (n1 : times ≤ 9223372036854775807) (t s : List UInt8) (ht : t.length ≤ 9000000000000000000) (hs : s.length ≤ 1000000) (lo Pb X0 X1 Y0 Y1 : Nat) (v0 v1 : Value) (q0 q1 : List (List UInt8)) (m : Nat) (w : World) (h : PairAt w lo Pb X0 X1 Y0 Y1 v0 v1 q0 q1 m) (hm : m ≤ 500000) (hG : GOk w) :
  Calls Tryz.prog 10 #[.pointer (some ⟨Pb, 0, none⟩), .agg #[.int .i64 kind, .bool false, .string (bs t), .string (bs s), .int .i64 times]] w (PairPost lo Pb X0 X1 Y0 Y1 v0 v1 (m + 111) w) := by
 obtain ⟨p0, p1⟩ := pickN kind 5 om_
 obtain ⟨r0, r1⟩ := pickN times 110 om_
 obtain ⟨pk, hpk⟩ : ∃ z, pickZ kind 5 = z := ⟨_, rfl⟩
 obtain ⟨pt, hpt⟩ : ∃ z, pickZ times 110 = z := ⟨_, rfl⟩
 rw [hpk] at p0 p1
 rw [hpt] at r0 r1
 have HPK := Lib.hid hpk
 have HPT := Lib.hid hpt
 have HG := Lib.hid hG
 have HH := Lib.hid h
 obtain ⟨hlo, hgn⟩ := pair_size h
 clear hpk hpt hG h
 go_enter Tryz.func10, Tryz.ntmps10
 go_wp2_with fail
 have HS := Lib.hid (blk_new w (.cells #[.int .i64 kind, .bool false, .string (bs t), .string (bs s), .int .i64 times] 26))
 have hg1 : GL [] w (w.alloc (.cells #[.int .i64 kind, .bool false, .string (bs t), .string (bs s), .int .i64 times] 26)) := gl_alloc (gl_refl _ _) _
 have HP1 := Lib.hid (pair_gl HH.out hg1)
 have HF := Lib.hid (pair_free HH.out (Nat.le_refl w.heap.size))
 have hszS : w.heap.size < (w.alloc (.cells #[.int .i64 kind, .bool false, .string (bs t), .string (bs s), .int .i64 times] 26)).heap.size := by simp
 have HK1 := Lib.hid (keepsF_gl (Pb := Pb) (X0 := X0) (X1 := X1) (Y0 := Y0) (Y1 := Y1) (v0 := v0) (v1 := v1) hg1)
 have hb1 : Below lo w (w.alloc (.cells #[.int .i64 kind, .bool false, .string (bs t), .string (bs s), .int .i64 times] 26)) := gl_low hg1 si_ hlo
 have HG1 := Lib.hid (gok_gl HG.out hg1 si_)
 generalize w.alloc (.cells #[.int .i64 kind, .bool false, .string (bs t), .string (bs s), .int .i64 times] 26) = w1 at *
 refine (lPickN kind 5 k0 k1 om_ om_ _).mono ?_
 rintro e w2 ⟨rfl, rfl⟩
 rw [HPK.out]
 have s0 := blk_cell HS.out
 have s1 := blk_free HS.out
 have s2 := blk_lt HS.out
 have hlo1 : lo ≤ w1.heap.size := by omega
 clear HH HG HPK
 by_cases h2 : pk = 2
 · have b2 : (pk == 2) = true := by simpa using h2
   clear h2
   go_wp2_with fail
   refine (lHear0 t ht lo Pb X0 X1 Y0 Y1 _ _ _ _ m _ HP1.out om_ HG1.out).mono ?_
   rintro e w3 ⟨rfl, hb3, v0', v1', q0', q1', hp3, hk3⟩
   have HP3 := Lib.hid (pair_more hp3 (show m + 1 ≤ m + 111 by omega))
   have HK3 := Lib.hid (keepsF_trans HK1.out hk3)
   clear hp3 hk3
   go_wp2_with fail
   go_ret
   exact ⟨by first | rfl | (simp; done), hb1.trans hb3, _, _, _, _, HP3.out, HK3.out⟩
 have b2 : (pk == 2) = false := by simpa using h2
 by_cases h3 : pk = 3
 · have b3 : (pk == 3) = true := by simpa using h3
   clear h2 h3
   go_wp2_with fail
   clear s0 s1 s2
   go_loopw [6] (fun iv wr => ∃ (n : Nat) (u0 u1 : Value) (x0 x1 : List (List UInt8)), n ≤ 110 ∧ iv = .int .i64 n ∧ Hid (PairAt wr lo Pb X0 X1 Y0 Y1 u0 u1 x0 x1 (m + n)) ∧ Hid (Below lo w1 wr) ∧ Hid (KeepsF Pb X0 X1 Y0 Y1 v0 v1 u0 u1 w1 wr)) (fun iv _ => 110 - (intOf iv).toNat)
   case atStart => exact ⟨0, v0, v1, q0, q1, by omega, rfl, HP1, Lib.hid (gl_low (gl_refl ([] : List Nat) _) si_ hlo1), Lib.hid (keepsF_gl (gl_refl _ _))⟩
   case round =>
    obtain ⟨n, u0, u1, x0, x1, hn, rfl, hP, hB, hK⟩ := hrel
    have hSr := hK.out _ _ HF.out HS.out
    have z0 := blk_cell hSr.1
    have z1 := blk_free hSr.1
    have z2 := blk_lt hSr.1
    have HG2 := Lib.hid (gok_gl HG1.out (rs := (List.range wr.heap.size).filter (fun k => decide (lo ≤ k))) ⟨hB.out.os, hB.out.tape, hB.out.output, hB.out.size, fun k hk hn => hB.out.block k (Classical.byContradiction fun hlk => hn (List.mem_filter.2 ⟨List.mem_range.2 (by have := hB.out.size; omega), by simp; omega⟩))⟩ (fun r hr => by have := (List.mem_filter.1 hr).2; simp at this; omega))
    clear hSr
    go_wp2_with fail
    refine (lPickN times 110 n0 n1 om_ om_ _).mono ?_
    rintro e w3 ⟨rfl, rfl⟩
    rw [HPT.out]
    by_cases hle : (n : Int) ≤ pt
    · go_wp2_with fail
      refine (lSend0 s hs lo Pb X0 X1 Y0 Y1 _ _ _ _ (m + n) _ hP.out om_ HG2.out).mono ?_
      rintro e w4 ⟨rfl, hb4, u0', u1', x0', x1', hp4, hk4⟩
      have HP4 := Lib.hid hp4
      have HK4 := Lib.hid (keepsF_trans hK.out hk4)
      have HB4 := Lib.hid (hB.out.trans hb4)
      clear hp4 hk4 hb4 z0 z1 z2
      go_wp2_with fail
      go_roundw
      case rel => first | exact ⟨n + 1, u0', u1', x0', x1', by omega, by go_num, HP4, HB4, HK4⟩ | ((repeat apply Exists.intro); refine ⟨?_, rfl⟩; exact ⟨n + 1, u0', u1', x0', x1', by omega, by go_num, HP4, HB4, HK4⟩)
      case measure => first | (simp [intOf]; omega) | ((show 110 - ((n : Int) + 1).toNat < 110 - (n : Int).toNat); omega)
    · have HP4 := Lib.hid (pair_more hP.out (show m + n ≤ m + 111 by omega))
      have HK4 := Lib.hid (keepsF_trans HK1.out hK.out)
      have HB4 := Lib.hid (hb1.trans hB.out)
      clear z0 z1 z2
      go_wp2_with fail
      go_ret
      exact ⟨by first | rfl | (simp; done), HB4.out, _, _, _, _, HP4.out, HK4.out⟩
 have b3 : (pk == 3) = false := by simpa using h3
 by_cases h4 : pk = 4
 · have b4 : (pk == 4) = true := by simpa using h4
   clear h2 h3 h4
   have hne := HP1.out.ne
   have hlow := HP1.out.low
   obtain ⟨Mid, hcx, hmx⟩ := sideClose (show X0 ≠ Y0 by omega) HP1.out.s0
   have HCX := Lib.hid hcx
   have HMX := Lib.hid hmx
   have f0 := blk_cell HP1.out.blk
   have f1 := blk_free HP1.out.blk
   have f2 := blk_lt HP1.out.blk
   clear hcx hmx
   go_wp2_with fail
   refine HCX.out.mono ?_
   rintro e w3 ⟨rfl, hg3, hmid⟩
   obtain ⟨⟨own, drawn, peer, st, dials, cl, kk1, kk2, ok, oc, ik, ic, hY⟩, hs3⟩ := HMX.out w3 hmid
   have HP3 := Lib.hid (blk_gl HP1.out.blk hg3 so_)
   have g0 := blk_cell HP3.out
   have g1 := blk_free HP3.out
   have g2 := blk_lt HP3.out
   have y0 := blk_cell hY
   have y1 := blk_free hY
   have y2 := blk_lt hY
   have hg4 : GL [X0, Y0] w1 (w3.setCell ⟨Y0, 5, none⟩ (.bool true)) := gl_seti (p := ⟨Y0, 5, none⟩) si_ (gl_step hg3 (gl_refl _ _) (fun r hr => .inl (by simp at hr; simp [hr]))) _
   have HP4 := Lib.hid (pair_more (pair_step0 HP1.out hg4 hs3) (show m ≤ m + 111 by omega))
   have HK4 := Lib.hid (keepsF_trans HK1.out (show KeepsF Pb X0 X1 Y0 Y1 v0 v1 v0 v1 w1 _ from fun S o hf hS => ⟨keep_gl hg4 hS (by unfold FreeOf at hf; simp; omega), hf⟩))
   have HB4 := Lib.hid (hb1.trans (gl_low hg4 (fun r hr => by simp at hr; omega) hlo1))
   clear hmid hs3 hY hg3 hg4 HP3 HCX HMX f0 f1 f2
   go_wp2_with fail
   go_ret
   exact ⟨by first | rfl | (simp; done), HB4.out, _, _, _, _, HP4.out, HK4.out⟩
 have b4 : (pk == 4) = false := by simpa using h4
 clear h2 h3 h4
 go_wp2_with fail
 clear s0 s1 s2
 go_loopw [7] (fun iv wr => ∃ (n : Nat) (u0 u1 : Value) (x0 x1 : List (List UInt8)), n ≤ 110 ∧ iv = .int .i64 n ∧ Hid (PairAt wr lo Pb X0 X1 Y0 Y1 u0 u1 x0 x1 (m + n)) ∧ Hid (Below lo w1 wr) ∧ Hid (KeepsF Pb X0 X1 Y0 Y1 v0 v1 u0 u1 w1 wr)) (fun iv _ => 110 - (intOf iv).toNat)
 case atStart => exact ⟨0, v0, v1, q0, q1, by omega, rfl, HP1, Lib.hid (gl_low (gl_refl ([] : List Nat) _) si_ hlo1), Lib.hid (keepsF_gl (gl_refl _ _))⟩
 case round =>
  obtain ⟨n, u0, u1, x0, x1, hn, rfl, hP, hB, hK⟩ := hrel
  have hSr := hK.out _ _ HF.out HS.out
  have z0 := blk_cell hSr.1
  have z1 := blk_free hSr.1
  have z2 := blk_lt hSr.1
  have HG2 := Lib.hid (gok_gl HG1.out (rs := (List.range wr.heap.size).filter (fun k => decide (lo ≤ k))) ⟨hB.out.os, hB.out.tape, hB.out.output, hB.out.size, fun k hk hn => hB.out.block k (Classical.byContradiction fun hlk => hn (List.mem_filter.2 ⟨List.mem_range.2 (by have := hB.out.size; omega), by simp; omega⟩))⟩ (fun r hr => by have := (List.mem_filter.1 hr).2; simp at this; omega))
  obtain ⟨au, cu, rfl⟩ := queT_form hP.out.u0
  have f0 := blk_cell hP.out.blk
  have f1 := blk_free hP.out.blk
  have f2 := blk_lt hP.out.blk
  clear hSr
  go_wp2_with fail
  refine (lPickN times 110 n0 n1 om_ om_ _).mono ?_
  rintro e w3 ⟨rfl, rfl⟩
  rw [HPT.out]
  have HPE := Lib.hid (pair_more hP.out (show m + n ≤ m + 111 by omega))
  have HKE := Lib.hid (keepsF_trans HK1.out hK.out)
  have HBE := Lib.hid (hb1.trans hB.out)
  by_cases hle : (n : Int) ≤ pt
  · by_cases hq0 : x0 = []
    · have hql : (x0.length : Int) = 0 := by rw [hq0]; rfl
      have hqg : decide ((0 : Int) < x0.length) = false := by rw [hql]; rfl
      have ble : decide ((n : Int) ≤ pt) = true := by simpa using hle
      clear hq0
      go_wp2_with fail
      go_ret
      exact ⟨by first | rfl | (simp; done), HBE.out, _, _, _, _, HPE.out, HKE.out⟩
    · obtain ⟨t0, r, rfl⟩ : ∃ t0 r, x0 = t0 :: r := by
       cases x0 with
       | nil => exact absurd rfl hq0
       | cons a b => exact ⟨a, b, rfl⟩
      clear hq0 HPE HKE HBE
      obtain ⟨g, o, c, he, hrc, hcm, hcl, hk1, hk2⟩ := queT_at hP.out.u0 rfl
      simp only [Value.slice.injEq] at he
      obtain ⟨rfl, _, rfl⟩ := he
      simp only [List.length_cons] at f0
      have ble : decide ((n : Int) ≤ pt) = true := by simpa using hle
      have hqg : decide ((0 : Int) < ((r.length + 1 : Nat) : Int)) = true := by simp
      have ht0 : t0.length ≤ 16384 := hP.out.t0 t0 si_
      have hn1 : n + 1 ≤ 110 := by omega
      clear hle
      by_cases hc1 : cu = 1
      · obtain rfl : r = [] := by
         cases r with
         | nil => rfl
         | cons a b => simp at hrc; omega
        subst hc1
        have hg5 : GL [Pb] wr (wr.setCell ⟨Pb, 4, none⟩ (.slice (some ⟨g, o, none⟩) 0 0)).drew := gl_drew (gl_seti (p := ⟨Pb, 4, none⟩) si_ (gl_refl _ _) _)
        have HP5 := Lib.hid (pair_gl (pair_pop0 hP.out rfl ((hk2 rfl).2 rfl) rfl) (gl_drew (gl_refl [] _)))
        have HB5 := Lib.hid (hB.out.trans (gl_low hg5 (fun r hr => by simp at hr; have := hP.out.low; omega) (by have := hB.out.size; omega)))
        have HG5 := Lib.hid (gok_gl HG2.out hg5 (fun r hr => by simp at hr; have := hP.out.low; omega))
        have HK5 := Lib.hid (keepsF_trans hK.out (show KeepsF Pb X0 X1 Y0 Y1 _ _ (.slice (some ⟨g, o, none⟩) 0 0) u1 wr (wr.setCell ⟨Pb, 4, none⟩ (.slice (some ⟨g, o, none⟩) 0 0)).drew from fun S ob hf hS => ⟨keep_gl hg5 hS (by have := hf.1; simp; omega), hf⟩))
        clear hk1 hk2 hg5
        go_wp2_with fail
        go_region
        clear f0 f1 f2 z0 z1 z2
        clear hcl hP hB hK HG2
        generalize (wr.setCell ⟨Pb, 4, none⟩ (.slice (some ⟨g, o, none⟩) 0 0)).drew = w5 at *
        go_wp2_with fail
        refine (lHear0 t0 om_ lo Pb X0 X1 Y0 Y1 _ _ _ _ (m + n) _ HP5.out om_ HG5.out).mono ?_
        rintro e w6 ⟨rfl, hb6, u0', u1', x0', x1', hp6, hk6⟩
        have HP6 := Lib.hid hp6
        have HK6 := Lib.hid (keepsF_trans HK5.out hk6)
        have HB6 := Lib.hid (HB5.out.trans hb6)
        clear hp6 hk6 hb6 HP5 HK5 HB5 HG5
        go_wp2_with fail
        go_roundw
        case rel => first | exact ⟨n + 1, u0', u1', x0', x1', by omega, by go_num, HP6, HB6, HK6⟩ | ((repeat apply Exists.intro); refine ⟨?_, rfl⟩; exact ⟨n + 1, u0', u1', x0', x1', by omega, by go_num, HP6, HB6, HK6⟩)
        case measure => first | (simp [intOf]; omega) | ((show 110 - ((n : Int) + 1).toNat < 110 - (n : Int).toNat); omega)
      · have HKQ : QueT lo (.slice (some ⟨g, o + 1, none⟩) r.length (cu - 1)) r wr := by
         rcases Nat.lt_or_ge (r.length + 1) cu with hz | hz
         · exact hk1 hz
         · exact (hk2 om_).1
        have hcz : ¬ cu - 1 = 0 := by omega
        have hg5 : GL [Pb] wr (wr.setCell ⟨Pb, 4, none⟩ (.slice (some ⟨g, o + 1, none⟩) r.length (cu - 1))).drew := gl_drew (gl_seti (p := ⟨Pb, 4, none⟩) si_ (gl_refl _ _) _)
        have HP5 := Lib.hid (pair_gl (pair_pop0 hP.out rfl (HKQ) rfl) (gl_drew (gl_refl [] _)))
        have HB5 := Lib.hid (hB.out.trans (gl_low hg5 (fun r hr => by simp at hr; have := hP.out.low; omega) (by have := hB.out.size; omega)))
        have HG5 := Lib.hid (gok_gl HG2.out hg5 (fun r hr => by simp at hr; have := hP.out.low; omega))
        have HK5 := Lib.hid (keepsF_trans hK.out (show KeepsF Pb X0 X1 Y0 Y1 _ _ (.slice (some ⟨g, o + 1, none⟩) r.length (cu - 1)) u1 wr (wr.setCell ⟨Pb, 4, none⟩ (.slice (some ⟨g, o + 1, none⟩) r.length (cu - 1))).drew from fun S ob hf hS => ⟨keep_gl hg5 hS (by have := hf.1; simp; omega), hf⟩))
        clear hk1 hk2 hg5 HKQ
        go_wp2_with fail
        go_region
        clear f0 f1 f2 z0 z1 z2
        clear hcl hP hB hK HG2
        generalize (wr.setCell ⟨Pb, 4, none⟩ (.slice (some ⟨g, o + 1, none⟩) r.length (cu - 1))).drew = w5 at *
        go_wp2_with fail
        refine (lHear0 t0 om_ lo Pb X0 X1 Y0 Y1 _ _ _ _ (m + n) _ HP5.out om_ HG5.out).mono ?_
        rintro e w6 ⟨rfl, hb6, u0', u1', x0', x1', hp6, hk6⟩
        have HP6 := Lib.hid hp6
        have HK6 := Lib.hid (keepsF_trans HK5.out hk6)
        have HB6 := Lib.hid (HB5.out.trans hb6)
        clear hp6 hk6 hb6 HP5 HK5 HB5 HG5
        go_wp2_with fail
        go_roundw
        case rel => first | exact ⟨n + 1, u0', u1', x0', x1', by omega, by go_num, HP6, HB6, HK6⟩ | ((repeat apply Exists.intro); refine ⟨?_, rfl⟩; exact ⟨n + 1, u0', u1', x0', x1', by omega, by go_num, HP6, HB6, HK6⟩)
        case measure => first | (simp [intOf]; omega) | ((show 110 - ((n : Int) + 1).toNat < 110 - (n : Int).toNat); omega)
  · have ble : decide ((n : Int) ≤ pt) = false := by simpa using hle
    go_wp2_with fail
    go_ret
    exact ⟨by first | rfl | (simp; done), HBE.out, _, _, _, _, HPE.out, HKE.out⟩
theorem lOne1 (kind times : Int) (k0 : -9223372036854775808 ≤ kind) (k1 : kind ≤ 9223372036854775807) (n0 : -9223372036854775808 ≤ times) (n1 : times ≤ 9223372036854775807) (t s : List UInt8) (ht : t.length ≤ 9000000000000000000) (hs : s.length ≤ 1000000) (lo Pb X0 X1 Y0 Y1 : Nat) (v0 v1 : Value) (q0 q1 : List (List UInt8)) (m : Nat) (w : World) (h : PairAt w lo Pb X0 X1 Y0 Y1 v0 v1 q0 q1 m) (hm : m ≤ 500000) (hG : GOk w) :
  Calls Tryz.prog 10 #[.pointer (some ⟨Pb, 0, none⟩), .agg #[.int .i64 kind, .bool true, .string (bs t), .string (bs s), .int .i64 times]] w (PairPost lo Pb X0 X1 Y0 Y1 v0 v1 (m + 111) w) := by
 obtain ⟨p0, p1⟩ := pickN kind 5 om_
 obtain ⟨r0, r1⟩ := pickN times 110 om_
 obtain ⟨pk, hpk⟩ : ∃ z, pickZ kind 5 = z := ⟨_, rfl⟩
 obtain ⟨pt, hpt⟩ : ∃ z, pickZ times 110 = z := ⟨_, rfl⟩
 rw [hpk] at p0 p1
 rw [hpt] at r0 r1
 have HPK := Lib.hid hpk
 have HPT := Lib.hid hpt
 have HG := Lib.hid hG
 have HH := Lib.hid h
 obtain ⟨hlo, hgn⟩ := pair_size h
 clear hpk hpt hG h
 go_enter Tryz.func10, Tryz.ntmps10
 go_wp2_with fail
 have HS := Lib.hid (blk_new w (.cells #[.int .i64 kind, .bool true, .string (bs t), .string (bs s), .int .i64 times] 26))
 have hg1 : GL [] w (w.alloc (.cells #[.int .i64 kind, .bool true, .string (bs t), .string (bs s), .int .i64 times] 26)) := gl_alloc (gl_refl _ _) _
 have HP1 := Lib.hid (pair_gl HH.out hg1)
 have HF := Lib.hid (pair_free HH.out (Nat.le_refl w.heap.size))
 have hszS : w.heap.size < (w.alloc (.cells #[.int .i64 kind, .bool true, .string (bs t), .string (bs s), .int .i64 times] 26)).heap.size := by simp
 have HK1 := Lib.hid (keepsF_gl (Pb := Pb) (X0 := X0) (X1 := X1) (Y0 := Y0) (Y1 := Y1) (v0 := v0) (v1 := v1) hg1)
 have hb1 : Below lo w (w.alloc (.cells #[.int .i64 kind, .bool true, .string (bs t), .string (bs s), .int .i64 times] 26)) := gl_low hg1 si_ hlo
 have HG1 := Lib.hid (gok_gl HG.out hg1 si_)
 generalize w.alloc (.cells #[.int .i64 kind, .bool true, .string (bs t), .string (bs s), .int .i64 times] 26) = w1 at *
 refine (lPickN kind 5 k0 k1 om_ om_ _).mono ?_
 rintro e w2 ⟨rfl, rfl⟩
 rw [HPK.out]
 have s0 := blk_cell HS.out
 have s1 := blk_free HS.out
 have s2 := blk_lt HS.out
 have hlo1 : lo ≤ w1.heap.size := by omega
 clear HH HG HPK
 by_cases h2 : pk = 2
 · have b2 : (pk == 2) = true := by simpa using h2
   clear h2
   go_wp2_with fail
   refine (lHear1 t ht lo Pb X0 X1 Y0 Y1 _ _ _ _ m _ HP1.out om_ HG1.out).mono ?_
   rintro e w3 ⟨rfl, hb3, v0', v1', q0', q1', hp3, hk3⟩
   have HP3 := Lib.hid (pair_more hp3 (show m + 1 ≤ m + 111 by omega))
   have HK3 := Lib.hid (keepsF_trans HK1.out hk3)
   clear hp3 hk3
   go_wp2_with fail
   go_ret
   exact ⟨by first | rfl | (simp; done), hb1.trans hb3, _, _, _, _, HP3.out, HK3.out⟩
 have b2 : (pk == 2) = false := by simpa using h2
 by_cases h3 : pk = 3
 · have b3 : (pk == 3) = true := by simpa using h3
   clear h2 h3
   go_wp2_with fail
   clear s0 s1 s2
   go_loopw [6] (fun iv wr => ∃ (n : Nat) (u0 u1 : Value) (x0 x1 : List (List UInt8)), n ≤ 110 ∧ iv = .int .i64 n ∧ Hid (PairAt wr lo Pb X0 X1 Y0 Y1 u0 u1 x0 x1 (m + n)) ∧ Hid (Below lo w1 wr) ∧ Hid (KeepsF Pb X0 X1 Y0 Y1 v0 v1 u0 u1 w1 wr)) (fun iv _ => 110 - (intOf iv).toNat)
   case atStart => exact ⟨0, v0, v1, q0, q1, by omega, rfl, HP1, Lib.hid (gl_low (gl_refl ([] : List Nat) _) si_ hlo1), Lib.hid (keepsF_gl (gl_refl _ _))⟩
   case round =>
    obtain ⟨n, u0, u1, x0, x1, hn, rfl, hP, hB, hK⟩ := hrel
    have hSr := hK.out _ _ HF.out HS.out
    have z0 := blk_cell hSr.1
    have z1 := blk_free hSr.1
    have z2 := blk_lt hSr.1
    have HG2 := Lib.hid (gok_gl HG1.out (rs := (List.range wr.heap.size).filter (fun k => decide (lo ≤ k))) ⟨hB.out.os, hB.out.tape, hB.out.output, hB.out.size, fun k hk hn => hB.out.block k (Classical.byContradiction fun hlk => hn (List.mem_filter.2 ⟨List.mem_range.2 (by have := hB.out.size; omega), by simp; omega⟩))⟩ (fun r hr => by have := (List.mem_filter.1 hr).2; simp at this; omega))
    clear hSr
    go_wp2_with fail
    refine (lPickN times 110 n0 n1 om_ om_ _).mono ?_
    rintro e w3 ⟨rfl, rfl⟩
    rw [HPT.out]
    by_cases hle : (n : Int) ≤ pt
    · go_wp2_with fail
      refine (lSend1 s hs lo Pb X0 X1 Y0 Y1 _ _ _ _ (m + n) _ hP.out om_ HG2.out).mono ?_
      rintro e w4 ⟨rfl, hb4, u0', u1', x0', x1', hp4, hk4⟩
      have HP4 := Lib.hid hp4
      have HK4 := Lib.hid (keepsF_trans hK.out hk4)
      have HB4 := Lib.hid (hB.out.trans hb4)
      clear hp4 hk4 hb4 z0 z1 z2
      go_wp2_with fail
      go_roundw
      case rel => first | exact ⟨n + 1, u0', u1', x0', x1', by omega, by go_num, HP4, HB4, HK4⟩ | ((repeat apply Exists.intro); refine ⟨?_, rfl⟩; exact ⟨n + 1, u0', u1', x0', x1', by omega, by go_num, HP4, HB4, HK4⟩)
      case measure => first | (simp [intOf]; omega) | ((show 110 - ((n : Int) + 1).toNat < 110 - (n : Int).toNat); omega)
    · have HP4 := Lib.hid (pair_more hP.out (show m + n ≤ m + 111 by omega))
      have HK4 := Lib.hid (keepsF_trans HK1.out hK.out)
      have HB4 := Lib.hid (hb1.trans hB.out)
      clear z0 z1 z2
      go_wp2_with fail
      go_ret
      exact ⟨by first | rfl | (simp; done), HB4.out, _, _, _, _, HP4.out, HK4.out⟩
 have b3 : (pk == 3) = false := by simpa using h3
 by_cases h4 : pk = 4
 · have b4 : (pk == 4) = true := by simpa using h4
   clear h2 h3 h4
   have hne := HP1.out.ne
   have hlow := HP1.out.low
   obtain ⟨Mid, hcx, hmx⟩ := sideClose (show X1 ≠ Y1 by omega) HP1.out.s1
   have HCX := Lib.hid hcx
   have HMX := Lib.hid hmx
   have f0 := blk_cell HP1.out.blk
   have f1 := blk_free HP1.out.blk
   have f2 := blk_lt HP1.out.blk
   clear hcx hmx
   go_wp2_with fail
   refine HCX.out.mono ?_
   rintro e w3 ⟨rfl, hg3, hmid⟩
   obtain ⟨⟨own, drawn, peer, st, dials, cl, kk1, kk2, ok, oc, ik, ic, hY⟩, hs3⟩ := HMX.out w3 hmid
   have HP3 := Lib.hid (blk_gl HP1.out.blk hg3 so_)
   have g0 := blk_cell HP3.out
   have g1 := blk_free HP3.out
   have g2 := blk_lt HP3.out
   have y0 := blk_cell hY
   have y1 := blk_free hY
   have y2 := blk_lt hY
   have hg4 : GL [X1, Y1] w1 (w3.setCell ⟨Y1, 5, none⟩ (.bool true)) := gl_seti (p := ⟨Y1, 5, none⟩) si_ (gl_step hg3 (gl_refl _ _) (fun r hr => .inl (by simp at hr; simp [hr]))) _
   have HP4 := Lib.hid (pair_more (pair_step1 HP1.out hg4 hs3) (show m ≤ m + 111 by omega))
   have HK4 := Lib.hid (keepsF_trans HK1.out (show KeepsF Pb X0 X1 Y0 Y1 v0 v1 v0 v1 w1 _ from fun S o hf hS => ⟨keep_gl hg4 hS (by unfold FreeOf at hf; simp; omega), hf⟩))
   have HB4 := Lib.hid (hb1.trans (gl_low hg4 (fun r hr => by simp at hr; omega) hlo1))
   clear hmid hs3 hY hg3 hg4 HP3 HCX HMX f0 f1 f2
   go_wp2_with fail
   go_ret
   exact ⟨by first | rfl | (simp; done), HB4.out, _, _, _, _, HP4.out, HK4.out⟩
 have b4 : (pk == 4) = false := by simpa using h4
 clear h2 h3 h4
 go_wp2_with fail
 clear s0 s1 s2
 go_loopw [7] (fun iv wr => ∃ (n : Nat) (u0 u1 : Value) (x0 x1 : List (List UInt8)), n ≤ 110 ∧ iv = .int .i64 n ∧ Hid (PairAt wr lo Pb X0 X1 Y0 Y1 u0 u1 x0 x1 (m + n)) ∧ Hid (Below lo w1 wr) ∧ Hid (KeepsF Pb X0 X1 Y0 Y1 v0 v1 u0 u1 w1 wr)) (fun iv _ => 110 - (intOf iv).toNat)
 case atStart => exact ⟨0, v0, v1, q0, q1, by omega, rfl, HP1, Lib.hid (gl_low (gl_refl ([] : List Nat) _) si_ hlo1), Lib.hid (keepsF_gl (gl_refl _ _))⟩
 case round =>
  obtain ⟨n, u0, u1, x0, x1, hn, rfl, hP, hB, hK⟩ := hrel
  have hSr := hK.out _ _ HF.out HS.out
  have z0 := blk_cell hSr.1
  have z1 := blk_free hSr.1
  have z2 := blk_lt hSr.1
  have HG2 := Lib.hid (gok_gl HG1.out (rs := (List.range wr.heap.size).filter (fun k => decide (lo ≤ k))) ⟨hB.out.os, hB.out.tape, hB.out.output, hB.out.size, fun k hk hn => hB.out.block k (Classical.byContradiction fun hlk => hn (List.mem_filter.2 ⟨List.mem_range.2 (by have := hB.out.size; omega), by simp; omega⟩))⟩ (fun r hr => by have := (List.mem_filter.1 hr).2; simp at this; omega))
  obtain ⟨au, cu, rfl⟩ := queT_form hP.out.u1
  have f0 := blk_cell hP.out.blk
  have f1 := blk_free hP.out.blk
  have f2 := blk_lt hP.out.blk
  clear hSr
  go_wp2_with fail
  refine (lPickN times 110 n0 n1 om_ om_ _).mono ?_
  rintro e w3 ⟨rfl, rfl⟩
  rw [HPT.out]
  have HPE := Lib.hid (pair_more hP.out (show m + n ≤ m + 111 by omega))
  have HKE := Lib.hid (keepsF_trans HK1.out hK.out)
  have HBE := Lib.hid (hb1.trans hB.out)
  by_cases hle : (n : Int) ≤ pt
  · by_cases hq0 : x1 = []
    · have hql : (x1.length : Int) = 0 := by rw [hq0]; rfl
      have hqg : decide ((0 : Int) < x1.length) = false := by rw [hql]; rfl
      have ble : decide ((n : Int) ≤ pt) = true := by simpa using hle
      clear hq0
      go_wp2_with fail
      go_ret
      exact ⟨by first | rfl | (simp; done), HBE.out, _, _, _, _, HPE.out, HKE.out⟩
    · obtain ⟨t0, r, rfl⟩ : ∃ t0 r, x1 = t0 :: r := by
       cases x1 with
       | nil => exact absurd rfl hq0
       | cons a b => exact ⟨a, b, rfl⟩
      clear hq0 HPE HKE HBE
      obtain ⟨g, o, c, he, hrc, hcm, hcl, hk1, hk2⟩ := queT_at hP.out.u1 rfl
      simp only [Value.slice.injEq] at he
      obtain ⟨rfl, _, rfl⟩ := he
      simp only [List.length_cons] at f0
      have ble : decide ((n : Int) ≤ pt) = true := by simpa using hle
      have hqg : decide ((0 : Int) < ((r.length + 1 : Nat) : Int)) = true := by simp
      have ht0 : t0.length ≤ 16384 := hP.out.t1 t0 si_
      have hn1 : n + 1 ≤ 110 := by omega
      clear hle
      by_cases hc1 : cu = 1
      · obtain rfl : r = [] := by
         cases r with
         | nil => rfl
         | cons a b => simp at hrc; omega
        subst hc1
        have hg5 : GL [Pb] wr (wr.setCell ⟨Pb, 5, none⟩ (.slice (some ⟨g, o, none⟩) 0 0)).drew := gl_drew (gl_seti (p := ⟨Pb, 5, none⟩) si_ (gl_refl _ _) _)
        have HP5 := Lib.hid (pair_gl (pair_pop1 hP.out rfl ((hk2 rfl).2 rfl) rfl) (gl_drew (gl_refl [] _)))
        have HB5 := Lib.hid (hB.out.trans (gl_low hg5 (fun r hr => by simp at hr; have := hP.out.low; omega) (by have := hB.out.size; omega)))
        have HG5 := Lib.hid (gok_gl HG2.out hg5 (fun r hr => by simp at hr; have := hP.out.low; omega))
        have HK5 := Lib.hid (keepsF_trans hK.out (show KeepsF Pb X0 X1 Y0 Y1 _ _ u0 (.slice (some ⟨g, o, none⟩) 0 0) wr (wr.setCell ⟨Pb, 5, none⟩ (.slice (some ⟨g, o, none⟩) 0 0)).drew from fun S ob hf hS => ⟨keep_gl hg5 hS (by have := hf.1; simp; omega), hf⟩))
        clear hk1 hk2 hg5
        go_wp2_with fail
        go_region
        clear f0 f1 f2 z0 z1 z2
        clear hcl hP hB hK HG2
        generalize (wr.setCell ⟨Pb, 5, none⟩ (.slice (some ⟨g, o, none⟩) 0 0)).drew = w5 at *
        go_wp2_with fail
        refine (lHear1 t0 om_ lo Pb X0 X1 Y0 Y1 _ _ _ _ (m + n) _ HP5.out om_ HG5.out).mono ?_
        rintro e w6 ⟨rfl, hb6, u0', u1', x0', x1', hp6, hk6⟩
        have HP6 := Lib.hid hp6
        have HK6 := Lib.hid (keepsF_trans HK5.out hk6)
        have HB6 := Lib.hid (HB5.out.trans hb6)
        clear hp6 hk6 hb6 HP5 HK5 HB5 HG5
        go_wp2_with fail
        go_roundw
        case rel => first | exact ⟨n + 1, u0', u1', x0', x1', by omega, by go_num, HP6, HB6, HK6⟩ | ((repeat apply Exists.intro); refine ⟨?_, rfl⟩; exact ⟨n + 1, u0', u1', x0', x1', by omega, by go_num, HP6, HB6, HK6⟩)
        case measure => first | (simp [intOf]; omega) | ((show 110 - ((n : Int) + 1).toNat < 110 - (n : Int).toNat); omega)
      · have HKQ : QueT lo (.slice (some ⟨g, o + 1, none⟩) r.length (cu - 1)) r wr := by
         rcases Nat.lt_or_ge (r.length + 1) cu with hz | hz
         · exact hk1 hz
         · exact (hk2 om_).1
        have hcz : ¬ cu - 1 = 0 := by omega
        have hg5 : GL [Pb] wr (wr.setCell ⟨Pb, 5, none⟩ (.slice (some ⟨g, o + 1, none⟩) r.length (cu - 1))).drew := gl_drew (gl_seti (p := ⟨Pb, 5, none⟩) si_ (gl_refl _ _) _)
        have HP5 := Lib.hid (pair_gl (pair_pop1 hP.out rfl (HKQ) rfl) (gl_drew (gl_refl [] _)))
        have HB5 := Lib.hid (hB.out.trans (gl_low hg5 (fun r hr => by simp at hr; have := hP.out.low; omega) (by have := hB.out.size; omega)))
        have HG5 := Lib.hid (gok_gl HG2.out hg5 (fun r hr => by simp at hr; have := hP.out.low; omega))
        have HK5 := Lib.hid (keepsF_trans hK.out (show KeepsF Pb X0 X1 Y0 Y1 _ _ u0 (.slice (some ⟨g, o + 1, none⟩) r.length (cu - 1)) wr (wr.setCell ⟨Pb, 5, none⟩ (.slice (some ⟨g, o + 1, none⟩) r.length (cu - 1))).drew from fun S ob hf hS => ⟨keep_gl hg5 hS (by have := hf.1; simp; omega), hf⟩))
        clear hk1 hk2 hg5 HKQ
        go_wp2_with fail
        go_region
        clear f0 f1 f2 z0 z1 z2
        clear hcl hP hB hK HG2
        generalize (wr.setCell ⟨Pb, 5, none⟩ (.slice (some ⟨g, o + 1, none⟩) r.length (cu - 1))).drew = w5 at *
        go_wp2_with fail
        refine (lHear1 t0 om_ lo Pb X0 X1 Y0 Y1 _ _ _ _ (m + n) _ HP5.out om_ HG5.out).mono ?_
        rintro e w6 ⟨rfl, hb6, u0', u1', x0', x1', hp6, hk6⟩
        have HP6 := Lib.hid hp6
        have HK6 := Lib.hid (keepsF_trans HK5.out hk6)
        have HB6 := Lib.hid (HB5.out.trans hb6)
        clear hp6 hk6 hb6 HP5 HK5 HB5 HG5
        go_wp2_with fail
        go_roundw
        case rel => first | exact ⟨n + 1, u0', u1', x0', x1', by omega, by go_num, HP6, HB6, HK6⟩ | ((repeat apply Exists.intro); refine ⟨?_, rfl⟩; exact ⟨n + 1, u0', u1', x0', x1', by omega, by go_num, HP6, HB6, HK6⟩)
        case measure => first | (simp [intOf]; omega) | ((show 110 - ((n : Int) + 1).toNat < 110 - (n : Int).toNat); omega)
  · have ble : decide ((n : Int) ≤ pt) = false := by simpa using hle
    go_wp2_with fail
    go_ret
    exact ⟨by first | rfl | (simp; done), HBE.out, _, _, _, _, HPE.out, HKE.out⟩
end Go.Proofs.YtaaiaahkakkleaaGreatDoor
