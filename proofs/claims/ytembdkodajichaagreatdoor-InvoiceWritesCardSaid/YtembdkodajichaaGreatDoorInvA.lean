/- The program's invoices: amounts written. -/
import Derived.Test.YtembdkodajichaaGreatDoorAmtP
import Derived.Test.YtembdkodajichaaGreatDoorMTerm
import Derived.Test.YtembdkodajichaaGreatDoorShelfI
set_option maxRecDepth 100000
set_option maxHeartbeats 4000000
set_option linter.unusedSimpArgs false
set_option linter.unusedVariables false
namespace Go.Proofs.YtembdkodajichaaGreatDoor
open Go.RowKit
def unitC : Array Value := #[.string (bs []), .int .i64 100000000000, .string (bs [109]), .int .i64 100000000, .string (bs [117]), .int .i64 100000, .string (bs [110]), .int .i64 100]
def UnitsOk (w : World) : Prop := ∀ j, j < 8 → w.cell? ⟨0, j, none⟩ = unitC[j]?
theorem units_gl {w w' : World} {rs : List Nat} (h : UnitsOk w) (hg : GL rs w w') (hr : 0 ∉ rs) : UnitsOk w' := by
 intro j hj
 have h1 := h j hj
 obtain ⟨v, hv⟩ : ∃ v, unitC[j]? = some v := ⟨_, Array.getElem?_eq_getElem (by simpa [unitC] using hj)⟩
 rw [hv] at h1 ⊢
 have hlt := World.block_lt_of_cell? _ _ h1
 simp only [World.cell?, hg.block _ hlt hr] at h1 ⊢
 exact h1
theorem amountT_no {m : Int} (h : m < 0 ∨ 2100000000000000000 < m) : amountT m = [] ∧ amountE m = 40 := by
 constructor
 · unfold amountT; rw [if_pos (by unfold maxMoney; omega)]
 · unfold amountE; rw [if_pos (by unfold maxMoney; omega)]
theorem amountE_ok {m : Int} (h0 : 0 ≤ m) (h1 : m ≤ 2100000000000000000) : amountE m = 0 := by unfold amountE; rw [if_neg (by unfold maxMoney; omega)]
theorem amountT_go {m : Nat} (h0 : 0 < m) (h1 : m ≤ 2100000000000000000) : amountT (m : Int) = amtGo m unitL := by
 unfold amountT
 rw [if_neg (by unfold maxMoney; omega)]
 rfl
theorem tFormatN (N : Int) (k : Nat) (hN : N = k) (hk : k ≤ 9223372036854775807) (w : World) (hG : GOk w) :
  Calls Tryz.prog 27 #[.int .i64 N, .int .i64 10] w fun e w' => e = .returned (.string (bs (Lib.decDigits k))) ∧ Below w.heap.size w w' := by
 subst hN
 exact (tFormatInt k om_ om_ w hG).mono fun e w' ⟨h1, h2⟩ => ⟨by rw [h1, Int.toNat_natCast], h2⟩
theorem Tryz.sizeUnit : (Tryz.prog.info? 53).map (·.size) = some 2 := by kernel_rfl
theorem index_unit (w : World) (i : Nat) (nm : List UInt8) (u : Int) (hi : i < 4) (h0 : unitC[2 * i]? = some (.string (bs nm))) (h1 : unitC[2 * i + 1]? = some (.int .i64 u)) : (Instr.index 54 (.agg unitC) (.int .i64 (i : Int))).run Tryz.prog w = .ok (.agg #[.string (bs nm), .int .i64 u]) w := by
 have h2 : (0 : Int) ≤ (i : Int) ∧ (i : Int) < 4 := by omega
 obtain ⟨j, hj, hjs⟩ := Option.map_eq_some_iff.1 Tryz.sizeUnit
 have hext : unitC.extract (i * 2) (i * 2 + 2) = #[.string (bs nm), .int .i64 u] := by
  rcases (by omega : i = 0 ∨ i = 1 ∨ i = 2 ∨ i = 3) with rfl | rfl | rfl | rfl
  all_goals
   simp [unitC] at h0 h1
   simp [unitC]
   exact ⟨h0, h1⟩
 simp [Instr.index, run_underlying Tryz.underlying54, asIntOf, sizeOf, typeInfo, hj, hjs, part, h2]
 rw [if_pos hi, hext]
theorem amt_yes {n u : Nat} {nm : List UInt8} {r : List (List UInt8 × Nat)} (h : n % u = 0) : amtGo n ((nm, u) :: r) = Lib.decDigits (n / u) ++ nm := by rw [amtGo, if_pos h]
theorem amt_no {n u : Nat} {nm : List UInt8} {r : List (List UInt8 × Nat)} (h : ¬ n % u = 0) : amtGo n ((nm, u) :: r) = amtGo n r := by rw [amtGo, if_neg h]
theorem iAmount (m : Int) (hm0 : -9223372036854775808 ≤ m) (hm1 : m ≤ 9223372036854775807) (w : World) (hG : GOk w) (hU : UnitsOk w) :
  Calls Tryz.prog 10 #[.int .i64 m] w fun e w' => e = .returned (.tuple #[.string (bs (amountT m)), .int .i64 (amountE m)]) ∧ Below w.heap.size w w' := by
 by_cases hbad : m < 0 ∨ 2100000000000000000 < m
 · have HA := Lib.hid (amountT_no hbad)
   rcases hbad with h | h
   · go_enter Tryz.func10, Tryz.ntmps10
     go_wp2_with fail
     exact bodyPost_ret (v := .tuple #[.string (bs []), .int .i64 40]) (by simp [results, Tryz.results10, go_sem]) rfl ⟨by rw [HA.out.1, HA.out.2], bl_⟩
   · go_enter Tryz.func10, Tryz.ntmps10
     go_wp2_with fail
     exact bodyPost_ret (v := .tuple #[.string (bs []), .int .i64 40]) (by simp [results, Tryz.results10, go_sem]) rfl ⟨by rw [HA.out.1, HA.out.2], bl_⟩
 · by_cases hz : m = 0
   · subst hz
     go_enter Tryz.func10, Tryz.ntmps10
     go_wp2_with fail
     go_ret2
     exact ⟨rfl, bl_⟩
   · obtain ⟨n, rfl⟩ : ∃ n : Nat, m = n := ⟨m.toNat, by omega⟩
     have hn0 : 0 < n := by omega
     have hn1 : n ≤ 2100000000000000000 := by omega
     have HE := Lib.hid (amountE_ok om_ om_ : amountE (n : Int) = 0)
     have HT := Lib.hid (amountT_go hn0 hn1)
     have p0 : (0 : Int) < n := by omega
     have p1 : (n : Int) ≤ 2100000000000000000 := by omega
     have u0 := hU 0 om_
     have u1 := hU 1 om_
     have u2 := hU 2 om_
     have u3 := hU 3 om_
     have u4 := hU 4 om_
     have u5 := hU 5 om_
     have u6 := hU 6 om_
     have u7 := hU 7 om_
     have HG := Lib.hid hG
     clear hbad hz hU hG hm0 hm1
     simp only [unitC, List.getElem?_toArray] at u0 u1 u2 u3 u4 u5 u6 u7
     go_enter Tryz.func10, Tryz.ntmps10
     go_wp2_with fail
     go_loopw [5, 17] (fun _ iv wr => ∃ i : Nat, i ≤ 4 ∧ iv = .int .i64 i ∧ Hid (amtGo n unitL = amtGo n (unitL.drop i)) ∧ Hid (GL [] w wr)) (fun _ iv _ => 4 - (intOf iv).toNat)
     case atStart => exact ⟨0, by omega, rfl, Lib.hid rfl, Lib.hid (gl_refl _ _)⟩
     case round =>
      obtain ⟨i, hi, rfl, hgo, hgr⟩ := hrel
      have HGR : Hid (GOk wr) := Lib.hid (gok_gl HG.out hgr.out si_)
      have HGR : Hid (GOk wr) := Lib.hid (gok_gl HG.out hgr.out si_)
      rcases (by omega : i = 0 ∨ i = 1 ∨ i = 2 ∨ i = 3 ∨ i = 4) with rfl | rfl | rfl | rfl | rfl
      · have hix : (Instr.index 54 (.agg #[.string (bs []), .int .i64 100000000000, .string (bs [109]), .int .i64 100000000, .string (bs [117]), .int .i64 100000, .string (bs [110]), .int .i64 100]) (.int .i64 0)).run Tryz.prog wr = .ok (.agg #[.string (bs []), .int .i64 100000000000]) wr := index_unit wr 0 _ _ om_ rfl rfl
        have HN := Lib.hid (blk_new wr (.cells #[.string (bs []), .int .i64 100000000000] 53))
        have HG2 : Hid (GL [] w (wr.alloc (.cells #[.string (bs []), .int .i64 100000000000] 53))) := Lib.hid (gl_alloc hgr.out _)
        by_cases hd : n % 100000000000 = 0
        · have HTX : Hid (amountT (n : Int) = Lib.decDigits (n / 100000000000) ++ []) := Lib.hid (by rw [HT.out, hgo.out]; exact amt_yes hd)
          have hdl : (Lib.decDigits (n / 100000000000)).length ≤ 20 := dec_len20 _ om_
          rw [List.append_nil] at HTX
          go_wp2_with fail
          go_region_with (go_at_call 27; refine (tFormatN _ (n / 100000000000) (by rw [IntKind.wrap_i64]; omega) om_ _ (gok_drew (gok_alloc HGR.out _))).mono ?_; rintro e w2 ⟨rfl, hb2⟩; have k0 := blk_cell (blk_below (blk_drew HN.out) hb2 (blk_lt (blk_drew HN.out))) 0)
          all_goals go_wp2_with fail
          all_goals exact bodyPost_ret (v := .tuple #[.string (bs (Lib.decDigits (n / 100000000000))), .int .i64 0]) (by simp [results, Tryz.results10, go_sem]) rfl ⟨by rw [HTX.out, HE.out], gl_to_below (gl_below hb2 (gl_drew HG2.out))⟩
        · have HTX : Hid (amtGo n unitL = amtGo n (unitL.drop 1)) := Lib.hid (by rw [hgo.out]; exact amt_no hd)
          go_wp2_with fail
          exact ⟨⟨1, by omega, by first | rfl | (simp; done), HTX, HG2⟩, by first | (simp [intOf]; done) | (simp [intOf]; omega)⟩
      · have hix : (Instr.index 54 (.agg #[.string (bs []), .int .i64 100000000000, .string (bs [109]), .int .i64 100000000, .string (bs [117]), .int .i64 100000, .string (bs [110]), .int .i64 100]) (.int .i64 1)).run Tryz.prog wr = .ok (.agg #[.string (bs [109]), .int .i64 100000000]) wr := index_unit wr 1 _ _ om_ rfl rfl
        have HN := Lib.hid (blk_new wr (.cells #[.string (bs [109]), .int .i64 100000000] 53))
        have HG2 : Hid (GL [] w (wr.alloc (.cells #[.string (bs [109]), .int .i64 100000000] 53))) := Lib.hid (gl_alloc hgr.out _)
        by_cases hd : n % 100000000 = 0
        · have HTX : Hid (amountT (n : Int) = Lib.decDigits (n / 100000000) ++ [109]) := Lib.hid (by rw [HT.out, hgo.out]; exact amt_yes hd)
          have hdl : (Lib.decDigits (n / 100000000)).length ≤ 20 := dec_len20 _ om_
          go_wp2_with fail
          go_region_with (go_at_call 27; refine (tFormatN _ (n / 100000000) (by rw [IntKind.wrap_i64]; omega) om_ _ (gok_drew (gok_alloc HGR.out _))).mono ?_; rintro e w2 ⟨rfl, hb2⟩; have k0 := blk_cell (blk_below (blk_drew HN.out) hb2 (blk_lt (blk_drew HN.out))) 0)
          all_goals go_wp2_with fail
          all_goals exact bodyPost_ret (v := .tuple #[.string (bs (Lib.decDigits (n / 100000000) ++ [109])), .int .i64 0]) (by simp [results, Tryz.results10, go_sem]) rfl ⟨by rw [HTX.out, HE.out], gl_to_below (gl_below hb2 (gl_drew HG2.out))⟩
        · have HTX : Hid (amtGo n unitL = amtGo n (unitL.drop 2)) := Lib.hid (by rw [hgo.out]; exact amt_no hd)
          go_wp2_with fail
          exact ⟨⟨2, by omega, by first | rfl | (simp; done), HTX, HG2⟩, by first | (simp [intOf]; done) | (simp [intOf]; omega)⟩
      · have hix : (Instr.index 54 (.agg #[.string (bs []), .int .i64 100000000000, .string (bs [109]), .int .i64 100000000, .string (bs [117]), .int .i64 100000, .string (bs [110]), .int .i64 100]) (.int .i64 2)).run Tryz.prog wr = .ok (.agg #[.string (bs [117]), .int .i64 100000]) wr := index_unit wr 2 _ _ om_ rfl rfl
        have HN := Lib.hid (blk_new wr (.cells #[.string (bs [117]), .int .i64 100000] 53))
        have HG2 : Hid (GL [] w (wr.alloc (.cells #[.string (bs [117]), .int .i64 100000] 53))) := Lib.hid (gl_alloc hgr.out _)
        by_cases hd : n % 100000 = 0
        · have HTX : Hid (amountT (n : Int) = Lib.decDigits (n / 100000) ++ [117]) := Lib.hid (by rw [HT.out, hgo.out]; exact amt_yes hd)
          have hdl : (Lib.decDigits (n / 100000)).length ≤ 20 := dec_len20 _ om_
          go_wp2_with fail
          go_region_with (go_at_call 27; refine (tFormatN _ (n / 100000) (by rw [IntKind.wrap_i64]; omega) om_ _ (gok_drew (gok_alloc HGR.out _))).mono ?_; rintro e w2 ⟨rfl, hb2⟩; have k0 := blk_cell (blk_below (blk_drew HN.out) hb2 (blk_lt (blk_drew HN.out))) 0)
          all_goals go_wp2_with fail
          all_goals exact bodyPost_ret (v := .tuple #[.string (bs (Lib.decDigits (n / 100000) ++ [117])), .int .i64 0]) (by simp [results, Tryz.results10, go_sem]) rfl ⟨by rw [HTX.out, HE.out], gl_to_below (gl_below hb2 (gl_drew HG2.out))⟩
        · have HTX : Hid (amtGo n unitL = amtGo n (unitL.drop 3)) := Lib.hid (by rw [hgo.out]; exact amt_no hd)
          go_wp2_with fail
          exact ⟨⟨3, by omega, by first | rfl | (simp; done), HTX, HG2⟩, by first | (simp [intOf]; done) | (simp [intOf]; omega)⟩
      · have hix : (Instr.index 54 (.agg #[.string (bs []), .int .i64 100000000000, .string (bs [109]), .int .i64 100000000, .string (bs [117]), .int .i64 100000, .string (bs [110]), .int .i64 100]) (.int .i64 3)).run Tryz.prog wr = .ok (.agg #[.string (bs [110]), .int .i64 100]) wr := index_unit wr 3 _ _ om_ rfl rfl
        have HN := Lib.hid (blk_new wr (.cells #[.string (bs [110]), .int .i64 100] 53))
        have HG2 : Hid (GL [] w (wr.alloc (.cells #[.string (bs [110]), .int .i64 100] 53))) := Lib.hid (gl_alloc hgr.out _)
        by_cases hd : n % 100 = 0
        · have HTX : Hid (amountT (n : Int) = Lib.decDigits (n / 100) ++ [110]) := Lib.hid (by rw [HT.out, hgo.out]; exact amt_yes hd)
          have hdl : (Lib.decDigits (n / 100)).length ≤ 20 := dec_len20 _ om_
          go_wp2_with fail
          go_region_with (go_at_call 27; refine (tFormatN _ (n / 100) (by rw [IntKind.wrap_i64]; omega) om_ _ (gok_drew (gok_alloc HGR.out _))).mono ?_; rintro e w2 ⟨rfl, hb2⟩; have k0 := blk_cell (blk_below (blk_drew HN.out) hb2 (blk_lt (blk_drew HN.out))) 0)
          all_goals go_wp2_with fail
          all_goals exact bodyPost_ret (v := .tuple #[.string (bs (Lib.decDigits (n / 100) ++ [110])), .int .i64 0]) (by simp [results, Tryz.results10, go_sem]) rfl ⟨by rw [HTX.out, HE.out], gl_to_below (gl_below hb2 (gl_drew HG2.out))⟩
        · have HTX : Hid (amtGo n unitL = amtGo n (unitL.drop 4)) := Lib.hid (by rw [hgo.out]; exact amt_no hd)
          go_wp2_with fail
          exact ⟨⟨4, by omega, by first | rfl | (simp; done), HTX, HG2⟩, by first | (simp [intOf]; done) | (simp [intOf]; omega)⟩
      · have HTX : Hid (amountT (n : Int) = Lib.decDigits n ++ [48, 112]) := Lib.hid (by rw [HT.out, hgo.out]; rfl)
        have hdl : (Lib.decDigits n).length ≤ 20 := dec_len20 _ om_
        clear hgo
        go_wp2_with fail
        refine (tFormatN _ n rfl om_ _ HGR.out).mono ?_
        rintro e w2 ⟨rfl, hb2⟩
        go_wp2_with fail
        exact bodyPost_ret (v := .tuple #[.string (bs (Lib.decDigits n ++ [48, 112])), .int .i64 0]) (by simp [results, Tryz.results10, go_sem]) rfl ⟨by rw [HTX.out, HE.out], gl_to_below (gl_below hb2 hgr.out)⟩
end Go.Proofs.YtembdkodajichaaGreatDoor
