/- .. and back. -/
import Derived.Test.YtembdkodajichaaGreatDoorBitsA
set_option maxRecDepth 100000
set_option maxHeartbeats 4000000
set_option linter.unusedSimpArgs false
set_option linter.unusedVariables false
namespace Go.Proofs.YtembdkodajichaaGreatDoor
open Go.RowKit
theorem bBits58 (l : List UInt8) (bv : Value) (w : World) (hin : InAt bv l w) (hll : l.length ≤ 100000000)  :
  Calls Tryz.prog 88 #[bv, .int .i64 5, .int .i64 8, .bool false] w fun e w' =>
   BitsO w.heap.size (bitsP 5 8 false l) e w' ∧ Below w.heap.size w w' := by
 obtain ⟨ad, cc, rfl, hby⟩ : ∃ ad cc, bv = .slice ad l.length cc ∧ (l ≠ [] → ∃ G o, ad = some ⟨G, o, none⟩ ∧ BytesAt G o l w) := by
  obtain ⟨G, o, c, h1, h2, h3⟩ := hin
  rcases h1 with ⟨h1, ad, cc, h⟩ | ⟨h1, h⟩
  · exact ⟨ad, cc, by rw [h, ← h1], fun h => absurd (List.eq_nil_of_length_eq_zero h1.symm) h⟩
  · exact ⟨some ⟨G, o, none⟩, c, by simpa using h, fun hl => ⟨G, o, rfl, h3 hl⟩⟩
 have HBY := Lib.hid hby
 clear hin hby
 go_enter Tryz.func88, Tryz.ntmps88
 go_wp2
 go_loopw [10, 11, 12, 14, 31] (fun ov hv nv _ iv wr => ∃ k : Nat, k ≤ l.length ∧ iv = .int .i64 k ∧ hv = .int .i64 (valB 32 (l.take k) % 2 ^ (5 * k % 8) : Nat) ∧ nv = .int .i64 ((5 * k % 8 : Nat) : Int) ∧ Hid (∀ x ∈ l.take k, x.toNat < 32) ∧ Hid (OwnB w.heap.size ov (digB 256 (5 * k / 8) (valB 32 (l.take k) / 2 ^ (5 * k % 8))) wr) ∧ Hid (GL [] w wr)) (fun _ _ _ _ iv _ => l.length - (intOf iv).toNat)
 case atStart => exact ⟨0, by omega, rfl, rfl, rfl, Lib.hid si_, Lib.hid (ownB_nil _ _), Lib.hid (gl_refl _ _)⟩
 case round =>
  obtain ⟨k, hk, rfl, rfl, rfl, hxr, hor, hgr⟩ := hrel
  by_cases hlt : k < l.length
  · obtain ⟨G, o, rfl, hbw⟩ := HBY.out (fun e => by subst e; simp at hlt)
    have ck := (bytesAt_gl hbw hgr.out si_).2 k hlt
    have hk1 : (k : Int) < l.length := by omega
    have hx8 := (l.getD k 0).toNat_lt
    have hvt : valB 32 (l.take (k + 1)) = valB 32 (l.take k) * 2 ^ 5 + (l.getD k 0).toNat := valB_take 32 l k hlt
    have HXK : Hid (l.take (k + 1) = l.take k ++ [l.getD k 0]) := Lib.hid (by rw [List.take_add_one, List.getElem?_eq_getElem hlt, Option.toList_some, List.getD_eq_getElem?_getD, List.getElem?_eq_getElem hlt]; rfl)
    obtain ⟨va, vm, vc, rfl⟩ := own_slice hor.out
    generalize hxg : (l.getD k 0).toNat = x at *
    by_cases hx32 : x < 32
    rotate_left
    · have hxz : (0 : Int) < (x : Int) / 32 := by omega
      have hnone : bitsP 5 8 false l = none := if_pos (List.any_eq_true.2 ⟨l.getD k 0, by rw [List.getD_eq_getElem?_getD, List.getElem?_eq_getElem hlt]; exact List.getElem_mem hlt, by rw [decide_eq_true_eq]; omega⟩)
      have HB0 := Lib.hid (gl_to_below hgr.out)
      have HN0 := Lib.hid hnone
      clear hnone
      go_wp2
      exact bodyPost_ret (v := .tuple #[.slice none 0 0, .int .i64 50]) (by simp [results, Tryz.results88, go_sem]) rfl ⟨bitsO_none HN0.out, HB0.out⟩
    have hxz : (x : Int) / 32 = 0 := by omega
    generalize hVg : valB 32 (l.take k) = V at *
    have hNlt : 5 * k % 8 < 8 := Nat.mod_lt _ om_
    have hHlt : V % 2 ^ (5 * k % 8) < 2 ^ (5 * k % 8) := Nat.mod_lt _ (Nat.two_pow_pos _)
    have hpw : 2 ^ (5 * k % 8) ≤ 2 ^ 8 := Nat.pow_le_pow_right om_ om_
    have hor1 : bits .or .i64 (((V % 2 ^ (5 * k % 8) : Nat) : Int) * 32) (x : Int) = (((V * 2 ^ 5 + x) % 2 ^ (5 * k % 8 + 5) : Nat) : Int) := by
     rw [← mod_mul_add V _ 5 x om_, ← or_shift _ x 5 om_, ← or_i64 _ _ om_ om_]
     rfl
    have hHN : Hid ((V * 2 ^ 5 + x) / 2 ^ (5 * k % 8 + 5) = V / 2 ^ (5 * k % 8)) := Lib.hid (div_pow_add V x _ 5 om_)
    generalize hVn : V * 2 ^ 5 + x = V2 at *
    generalize hhv : V2 % 2 ^ (5 * k % 8 + 5) = hv at *
    have hNg0 : 8 * (5 * k / 8) + 5 * k % 8 = 5 * k := Nat.div_add_mod _ _
    generalize hMg : 5 * k / 8 = m0 at *
    generalize hNg : 5 * k % 8 = N at *
    generalize hHg : V % 2 ^ N = H at *
    have hHb : H < 2 ^ 8 := by omega
    have hvlt : hv < 2 ^ (N + 5) := by rw [← hhv]; exact Nat.mod_lt _ (Nat.two_pow_pos _)
    have hvb : hv < 2 ^ 12 := Nat.lt_of_lt_of_le hvlt (Nat.pow_le_pow_right om_ om_)
    have HXG := Lib.hid hxg
    have HHV := Lib.hid hhv
    have HVT := Lib.hid hvt
    have HO1 : Hid (OwnB w.heap.size (.slice va vm vc) (digB 256 m0 (V2 / 2 ^ (N + 5))) wr) := Lib.hid (by rw [hHN.out]; exact hor.out)
    have HG1 := Lib.hid hgr.out
    clear hbw hHlt hpw hhv hvt hor hgr hVg hVn hHg hHN hvlt hxg
    go_wp2
    go_loopw [10, 12] (fun ov nv wr => ∃ m nn : Nat, 8 * m + nn = 5 * (k + 1) ∧ nn ≤ N + 5 ∧ nv = .int .i64 nn ∧ Hid (OwnB w.heap.size ov (digB 256 m (V2 / 2 ^ nn)) wr) ∧ Hid (GL [] w wr)) (fun _ nv _ => (intOf nv).toNat)
    case atStart => exact ⟨m0, N + 5, by omega, by omega, by first | rfl | (simp; done), HO1, HG1⟩
    case round =>
     obtain ⟨m, nn, hmn, hnn, rfl, hor, hgr⟩ := hrel
     obtain ⟨oa, om, oc, rfl⟩ := own_slice hor.out
     have hol : om = m := by have := own_len hor.out; rw [digB_len] at this; exact this
     subst hol
     by_cases hge : 8 ≤ nn
     · have HST := Lib.hid (digB_step 8 om nn V2 hge)
       have hml : om ≤ 1000000000 := by omega
       rcases (by omega : nn = 8 ∨ nn = 9 ∨ nn = 10 ∨ nn = 11 ∨ nn = 12) with rfl | rfl | rfl | rfl | rfl
       · have hy : hv / 2 ^ 0 % 2 ^ 8 = V2 / 2 ^ 0 % 2 ^ 8 := by rw [← HHV.out]; exact mod_div_mod V2 (N + 5) 0 8 om_
         have hX : bits .and .i64 (hv : Int) 255 = ((V2 / 2 ^ 0 % 2 ^ 8 : Nat) : Int) := by
          rw [← hy, ← and_i64 (hv / 2 ^ 0) 8 om_ om_ 255 de_]; rw [Nat.pow_zero, Nat.div_one]
         have hylt : V2 / 2 ^ 0 % 2 ^ 8 < 256 := Nat.mod_lt _ om_
         have HST2 : Hid (digB 256 (om + 1) (V2 / 2 ^ 0) = digB 256 om (V2 / 2 ^ 8) ++ [UInt8.ofNat (V2 / 2 ^ 0 % 2 ^ 8)]) := HST
         generalize V2 / 2 ^ 0 % 2 ^ 8 = y at *
         have hyI : (y : Int) < 256 := by omega
         obtain ⟨g, cap, w4, hrun, hown4, hgr4, hat, hlt4⟩ := run_appB1 w.heap.size (.slice oa om oc) _ (UInt8.ofNat y) (y : Int) (by rw [UInt8.toNat_ofNat']; omega) wr _ (.inl rfl) hor.out (by rw [digB_len]; omega) hgr.out.size
         rw [digB_len] at hrun hown4
         have HRUN := Lib.hid hrun
         clear hrun
         have hwd : IntKind.i64.wrap 0 = 0 := by decide
         have hwe : IntKind.i64.wrap 256 = 256 := by decide
         have hwf : IntKind.i64.wrap 255 = 255 := by decide
         have hwy : IntKind.u8.wrap (y : Int) = y := by simp only [IntKind.wrap_u8]; omega
         go_wp2
         go_region_law (refine wp_append_run _ (.tmp 55) (.tmp 66) 47 47 rfl _ _ (by simp [Act.eval, Act.put]) (by simp [Act.eval, Act.put]) HRUN.out ?_)
         go_wp2
         go_roundw
         case rel =>
          refine ⟨om + 1, 0, by omega, by omega, by first | rfl | (simp; done), Lib.hid ?_, Lib.hid (gl_step hgr4 hgr.out (fun r hr => ?_))⟩
          · rw [HST2.out]; exact hown4
          · exact .inr (ownB_blk hor.out r (by simpa using hr)).1
         case measure => first | (simp [intOf]; done) | (simp [intOf]; omega)
       · have hy : hv / 2 ^ 1 % 2 ^ 8 = V2 / 2 ^ 1 % 2 ^ 8 := by rw [← HHV.out]; exact mod_div_mod V2 (N + 5) 1 8 om_
         have hX : bits .and .i64 ((hv : Int) / 2) 255 = ((V2 / 2 ^ 1 % 2 ^ 8 : Nat) : Int) := by
          rw [show ((hv : Int) / 2) = ((hv / 2 ^ 1 : Nat) : Int) by omega]; rw [← hy, ← and_i64 (hv / 2 ^ 1) 8 om_ om_ 255 de_]
         have hylt : V2 / 2 ^ 1 % 2 ^ 8 < 256 := Nat.mod_lt _ om_
         have HST2 : Hid (digB 256 (om + 1) (V2 / 2 ^ 1) = digB 256 om (V2 / 2 ^ 9) ++ [UInt8.ofNat (V2 / 2 ^ 1 % 2 ^ 8)]) := HST
         generalize V2 / 2 ^ 1 % 2 ^ 8 = y at *
         have hyI : (y : Int) < 256 := by omega
         obtain ⟨g, cap, w4, hrun, hown4, hgr4, hat, hlt4⟩ := run_appB1 w.heap.size (.slice oa om oc) _ (UInt8.ofNat y) (y : Int) (by rw [UInt8.toNat_ofNat']; omega) wr _ (.inl rfl) hor.out (by rw [digB_len]; omega) hgr.out.size
         rw [digB_len] at hrun hown4
         have HRUN := Lib.hid hrun
         clear hrun
         have hwd : IntKind.i64.wrap 1 = 1 := by decide
         have hwe : IntKind.i64.wrap 256 = 256 := by decide
         have hwf : IntKind.i64.wrap 255 = 255 := by decide
         have hwy : IntKind.u8.wrap (y : Int) = y := by simp only [IntKind.wrap_u8]; omega
         go_wp2
         go_region_law (refine wp_append_run _ (.tmp 55) (.tmp 66) 47 47 rfl _ _ (by simp [Act.eval, Act.put]) (by simp [Act.eval, Act.put]) HRUN.out ?_)
         go_wp2
         go_roundw
         case rel =>
          refine ⟨om + 1, 1, by omega, by omega, by first | rfl | (simp; done), Lib.hid ?_, Lib.hid (gl_step hgr4 hgr.out (fun r hr => ?_))⟩
          · rw [HST2.out]; exact hown4
          · exact .inr (ownB_blk hor.out r (by simpa using hr)).1
         case measure => first | (simp [intOf]; done) | (simp [intOf]; omega)
       · have hy : hv / 2 ^ 2 % 2 ^ 8 = V2 / 2 ^ 2 % 2 ^ 8 := by rw [← HHV.out]; exact mod_div_mod V2 (N + 5) 2 8 om_
         have hX : bits .and .i64 ((hv : Int) / 4) 255 = ((V2 / 2 ^ 2 % 2 ^ 8 : Nat) : Int) := by
          rw [show ((hv : Int) / 4) = ((hv / 2 ^ 2 : Nat) : Int) by omega]; rw [← hy, ← and_i64 (hv / 2 ^ 2) 8 om_ om_ 255 de_]
         have hylt : V2 / 2 ^ 2 % 2 ^ 8 < 256 := Nat.mod_lt _ om_
         have HST2 : Hid (digB 256 (om + 1) (V2 / 2 ^ 2) = digB 256 om (V2 / 2 ^ 10) ++ [UInt8.ofNat (V2 / 2 ^ 2 % 2 ^ 8)]) := HST
         generalize V2 / 2 ^ 2 % 2 ^ 8 = y at *
         have hyI : (y : Int) < 256 := by omega
         obtain ⟨g, cap, w4, hrun, hown4, hgr4, hat, hlt4⟩ := run_appB1 w.heap.size (.slice oa om oc) _ (UInt8.ofNat y) (y : Int) (by rw [UInt8.toNat_ofNat']; omega) wr _ (.inl rfl) hor.out (by rw [digB_len]; omega) hgr.out.size
         rw [digB_len] at hrun hown4
         have HRUN := Lib.hid hrun
         clear hrun
         have hwd : IntKind.i64.wrap 2 = 2 := by decide
         have hwe : IntKind.i64.wrap 256 = 256 := by decide
         have hwf : IntKind.i64.wrap 255 = 255 := by decide
         have hwy : IntKind.u8.wrap (y : Int) = y := by simp only [IntKind.wrap_u8]; omega
         go_wp2
         go_region_law (refine wp_append_run _ (.tmp 55) (.tmp 66) 47 47 rfl _ _ (by simp [Act.eval, Act.put]) (by simp [Act.eval, Act.put]) HRUN.out ?_)
         go_wp2
         go_roundw
         case rel =>
          refine ⟨om + 1, 2, by omega, by omega, by first | rfl | (simp; done), Lib.hid ?_, Lib.hid (gl_step hgr4 hgr.out (fun r hr => ?_))⟩
          · rw [HST2.out]; exact hown4
          · exact .inr (ownB_blk hor.out r (by simpa using hr)).1
         case measure => first | (simp [intOf]; done) | (simp [intOf]; omega)
       · have hy : hv / 2 ^ 3 % 2 ^ 8 = V2 / 2 ^ 3 % 2 ^ 8 := by rw [← HHV.out]; exact mod_div_mod V2 (N + 5) 3 8 om_
         have hX : bits .and .i64 ((hv : Int) / 8) 255 = ((V2 / 2 ^ 3 % 2 ^ 8 : Nat) : Int) := by
          rw [show ((hv : Int) / 8) = ((hv / 2 ^ 3 : Nat) : Int) by omega]; rw [← hy, ← and_i64 (hv / 2 ^ 3) 8 om_ om_ 255 de_]
         have hylt : V2 / 2 ^ 3 % 2 ^ 8 < 256 := Nat.mod_lt _ om_
         have HST2 : Hid (digB 256 (om + 1) (V2 / 2 ^ 3) = digB 256 om (V2 / 2 ^ 11) ++ [UInt8.ofNat (V2 / 2 ^ 3 % 2 ^ 8)]) := HST
         generalize V2 / 2 ^ 3 % 2 ^ 8 = y at *
         have hyI : (y : Int) < 256 := by omega
         obtain ⟨g, cap, w4, hrun, hown4, hgr4, hat, hlt4⟩ := run_appB1 w.heap.size (.slice oa om oc) _ (UInt8.ofNat y) (y : Int) (by rw [UInt8.toNat_ofNat']; omega) wr _ (.inl rfl) hor.out (by rw [digB_len]; omega) hgr.out.size
         rw [digB_len] at hrun hown4
         have HRUN := Lib.hid hrun
         clear hrun
         have hwd : IntKind.i64.wrap 3 = 3 := by decide
         have hwe : IntKind.i64.wrap 256 = 256 := by decide
         have hwf : IntKind.i64.wrap 255 = 255 := by decide
         have hwy : IntKind.u8.wrap (y : Int) = y := by simp only [IntKind.wrap_u8]; omega
         go_wp2
         go_region_law (refine wp_append_run _ (.tmp 55) (.tmp 66) 47 47 rfl _ _ (by simp [Act.eval, Act.put]) (by simp [Act.eval, Act.put]) HRUN.out ?_)
         go_wp2
         go_roundw
         case rel =>
          refine ⟨om + 1, 3, by omega, by omega, by first | rfl | (simp; done), Lib.hid ?_, Lib.hid (gl_step hgr4 hgr.out (fun r hr => ?_))⟩
          · rw [HST2.out]; exact hown4
          · exact .inr (ownB_blk hor.out r (by simpa using hr)).1
         case measure => first | (simp [intOf]; done) | (simp [intOf]; omega)
       · have hy : hv / 2 ^ 4 % 2 ^ 8 = V2 / 2 ^ 4 % 2 ^ 8 := by rw [← HHV.out]; exact mod_div_mod V2 (N + 5) 4 8 om_
         have hX : bits .and .i64 ((hv : Int) / 16) 255 = ((V2 / 2 ^ 4 % 2 ^ 8 : Nat) : Int) := by
          rw [show ((hv : Int) / 16) = ((hv / 2 ^ 4 : Nat) : Int) by omega]; rw [← hy, ← and_i64 (hv / 2 ^ 4) 8 om_ om_ 255 de_]
         have hylt : V2 / 2 ^ 4 % 2 ^ 8 < 256 := Nat.mod_lt _ om_
         have HST2 : Hid (digB 256 (om + 1) (V2 / 2 ^ 4) = digB 256 om (V2 / 2 ^ 12) ++ [UInt8.ofNat (V2 / 2 ^ 4 % 2 ^ 8)]) := HST
         generalize V2 / 2 ^ 4 % 2 ^ 8 = y at *
         have hyI : (y : Int) < 256 := by omega
         obtain ⟨g, cap, w4, hrun, hown4, hgr4, hat, hlt4⟩ := run_appB1 w.heap.size (.slice oa om oc) _ (UInt8.ofNat y) (y : Int) (by rw [UInt8.toNat_ofNat']; omega) wr _ (.inl rfl) hor.out (by rw [digB_len]; omega) hgr.out.size
         rw [digB_len] at hrun hown4
         have HRUN := Lib.hid hrun
         clear hrun
         have hwd : IntKind.i64.wrap 4 = 4 := by decide
         have hwe : IntKind.i64.wrap 256 = 256 := by decide
         have hwf : IntKind.i64.wrap 255 = 255 := by decide
         have hwy : IntKind.u8.wrap (y : Int) = y := by simp only [IntKind.wrap_u8]; omega
         go_wp2
         go_region_law (refine wp_append_run _ (.tmp 55) (.tmp 66) 47 47 rfl _ _ (by simp [Act.eval, Act.put]) (by simp [Act.eval, Act.put]) HRUN.out ?_)
         go_wp2
         go_roundw
         case rel =>
          refine ⟨om + 1, 4, by omega, by omega, by first | rfl | (simp; done), Lib.hid ?_, Lib.hid (gl_step hgr4 hgr.out (fun r hr => ?_))⟩
          · rw [HST2.out]; exact hown4
          · exact .inr (ownB_blk hor.out r (by simpa using hr)).1
         case measure => first | (simp [intOf]; done) | (simp [intOf]; omega)
     · have hm1 : om = 5 * (k + 1) / 8 := by omega
       have hn1 : nn = 5 * (k + 1) % 8 := by omega
       have HM1 := Lib.hid hm1
       have HN1 := Lib.hid hn1
       clear hm1 hn1
       rcases (by omega : nn = 0 ∨ nn = 1 ∨ nn = 2 ∨ nn = 3 ∨ nn = 4 ∨ nn = 5 ∨ nn = 6 ∨ nn = 7) with rfl | rfl | rfl | rfl | rfl | rfl | rfl | rfl
       · have hy : hv % 2 ^ 0 = V2 % 2 ^ 0 := by rw [← HHV.out]; exact Nat.mod_mod_of_dvd _ (Nat.pow_dvd_pow 2 om_)
         have hX : bits .and .i64 (hv : Int) 0 = ((V2 % 2 ^ 0 : Nat) : Int) := by rw [← hy]; exact and_i64 hv 0 om_ om_ _ de_
         go_wp2
         go_roundw
         case rel =>
          refine ⟨k + 1, by omega, by go_num, ?_, ?_, ?_, ?_, hgr⟩
          · rw [HVT.out, ← HN1.out] <;> first | rfl | (congr 1; omega) | (simp; done)
          · rw [← HN1.out] <;> first | rfl | (congr 1; omega) | (simp; done)
          · exact Lib.hid (fun z hz => by
             rw [HXK.out] at hz
             rcases List.mem_append.1 hz with h | h
             · exact hxr.out z h
             · rw [List.mem_singleton.1 h, HXG.out]; exact hx32)
          · rw [HVT.out, ← HN1.out, ← HM1.out]; exact hor
         case measure => first | (simp [intOf]; done) | (simp [intOf]; omega)
       · have hy : hv % 2 ^ 1 = V2 % 2 ^ 1 := by rw [← HHV.out]; exact Nat.mod_mod_of_dvd _ (Nat.pow_dvd_pow 2 om_)
         have hX : bits .and .i64 (hv : Int) 1 = ((V2 % 2 ^ 1 : Nat) : Int) := by rw [← hy]; exact and_i64 hv 1 om_ om_ _ de_
         go_wp2
         go_roundw
         case rel =>
          refine ⟨k + 1, by omega, by go_num, ?_, ?_, ?_, ?_, hgr⟩
          · rw [HVT.out, ← HN1.out] <;> first | rfl | (congr 1; omega) | (simp; done)
          · rw [← HN1.out] <;> first | rfl | (congr 1; omega) | (simp; done)
          · exact Lib.hid (fun z hz => by
             rw [HXK.out] at hz
             rcases List.mem_append.1 hz with h | h
             · exact hxr.out z h
             · rw [List.mem_singleton.1 h, HXG.out]; exact hx32)
          · rw [HVT.out, ← HN1.out, ← HM1.out]; exact hor
         case measure => first | (simp [intOf]; done) | (simp [intOf]; omega)
       · have hy : hv % 2 ^ 2 = V2 % 2 ^ 2 := by rw [← HHV.out]; exact Nat.mod_mod_of_dvd _ (Nat.pow_dvd_pow 2 om_)
         have hX : bits .and .i64 (hv : Int) 3 = ((V2 % 2 ^ 2 : Nat) : Int) := by rw [← hy]; exact and_i64 hv 2 om_ om_ _ de_
         go_wp2
         go_roundw
         case rel =>
          refine ⟨k + 1, by omega, by go_num, ?_, ?_, ?_, ?_, hgr⟩
          · rw [HVT.out, ← HN1.out] <;> first | rfl | (congr 1; omega) | (simp; done)
          · rw [← HN1.out] <;> first | rfl | (congr 1; omega) | (simp; done)
          · exact Lib.hid (fun z hz => by
             rw [HXK.out] at hz
             rcases List.mem_append.1 hz with h | h
             · exact hxr.out z h
             · rw [List.mem_singleton.1 h, HXG.out]; exact hx32)
          · rw [HVT.out, ← HN1.out, ← HM1.out]; exact hor
         case measure => first | (simp [intOf]; done) | (simp [intOf]; omega)
       · have hy : hv % 2 ^ 3 = V2 % 2 ^ 3 := by rw [← HHV.out]; exact Nat.mod_mod_of_dvd _ (Nat.pow_dvd_pow 2 om_)
         have hX : bits .and .i64 (hv : Int) 7 = ((V2 % 2 ^ 3 : Nat) : Int) := by rw [← hy]; exact and_i64 hv 3 om_ om_ _ de_
         go_wp2
         go_roundw
         case rel =>
          refine ⟨k + 1, by omega, by go_num, ?_, ?_, ?_, ?_, hgr⟩
          · rw [HVT.out, ← HN1.out] <;> first | rfl | (congr 1; omega) | (simp; done)
          · rw [← HN1.out] <;> first | rfl | (congr 1; omega) | (simp; done)
          · exact Lib.hid (fun z hz => by
             rw [HXK.out] at hz
             rcases List.mem_append.1 hz with h | h
             · exact hxr.out z h
             · rw [List.mem_singleton.1 h, HXG.out]; exact hx32)
          · rw [HVT.out, ← HN1.out, ← HM1.out]; exact hor
         case measure => first | (simp [intOf]; done) | (simp [intOf]; omega)
       · have hy : hv % 2 ^ 4 = V2 % 2 ^ 4 := by rw [← HHV.out]; exact Nat.mod_mod_of_dvd _ (Nat.pow_dvd_pow 2 om_)
         have hX : bits .and .i64 (hv : Int) 15 = ((V2 % 2 ^ 4 : Nat) : Int) := by rw [← hy]; exact and_i64 hv 4 om_ om_ _ de_
         go_wp2
         go_roundw
         case rel =>
          refine ⟨k + 1, by omega, by go_num, ?_, ?_, ?_, ?_, hgr⟩
          · rw [HVT.out, ← HN1.out] <;> first | rfl | (congr 1; omega) | (simp; done)
          · rw [← HN1.out] <;> first | rfl | (congr 1; omega) | (simp; done)
          · exact Lib.hid (fun z hz => by
             rw [HXK.out] at hz
             rcases List.mem_append.1 hz with h | h
             · exact hxr.out z h
             · rw [List.mem_singleton.1 h, HXG.out]; exact hx32)
          · rw [HVT.out, ← HN1.out, ← HM1.out]; exact hor
         case measure => first | (simp [intOf]; done) | (simp [intOf]; omega)
       · have hy : hv % 2 ^ 5 = V2 % 2 ^ 5 := by rw [← HHV.out]; exact Nat.mod_mod_of_dvd _ (Nat.pow_dvd_pow 2 om_)
         have hX : bits .and .i64 (hv : Int) 31 = ((V2 % 2 ^ 5 : Nat) : Int) := by rw [← hy]; exact and_i64 hv 5 om_ om_ _ de_
         go_wp2
         go_roundw
         case rel =>
          refine ⟨k + 1, by omega, by go_num, ?_, ?_, ?_, ?_, hgr⟩
          · rw [HVT.out, ← HN1.out] <;> first | rfl | (congr 1; omega) | (simp; done)
          · rw [← HN1.out] <;> first | rfl | (congr 1; omega) | (simp; done)
          · exact Lib.hid (fun z hz => by
             rw [HXK.out] at hz
             rcases List.mem_append.1 hz with h | h
             · exact hxr.out z h
             · rw [List.mem_singleton.1 h, HXG.out]; exact hx32)
          · rw [HVT.out, ← HN1.out, ← HM1.out]; exact hor
         case measure => first | (simp [intOf]; done) | (simp [intOf]; omega)
       · have hy : hv % 2 ^ 6 = V2 % 2 ^ 6 := by rw [← HHV.out]; exact Nat.mod_mod_of_dvd _ (Nat.pow_dvd_pow 2 om_)
         have hX : bits .and .i64 (hv : Int) 63 = ((V2 % 2 ^ 6 : Nat) : Int) := by rw [← hy]; exact and_i64 hv 6 om_ om_ _ de_
         go_wp2
         go_roundw
         case rel =>
          refine ⟨k + 1, by omega, by go_num, ?_, ?_, ?_, ?_, hgr⟩
          · rw [HVT.out, ← HN1.out] <;> first | rfl | (congr 1; omega) | (simp; done)
          · rw [← HN1.out] <;> first | rfl | (congr 1; omega) | (simp; done)
          · exact Lib.hid (fun z hz => by
             rw [HXK.out] at hz
             rcases List.mem_append.1 hz with h | h
             · exact hxr.out z h
             · rw [List.mem_singleton.1 h, HXG.out]; exact hx32)
          · rw [HVT.out, ← HN1.out, ← HM1.out]; exact hor
         case measure => first | (simp [intOf]; done) | (simp [intOf]; omega)
       · have hy : hv % 2 ^ 7 = V2 % 2 ^ 7 := by rw [← HHV.out]; exact Nat.mod_mod_of_dvd _ (Nat.pow_dvd_pow 2 om_)
         have hX : bits .and .i64 (hv : Int) 127 = ((V2 % 2 ^ 7 : Nat) : Int) := by rw [← hy]; exact and_i64 hv 7 om_ om_ _ de_
         go_wp2
         go_roundw
         case rel =>
          refine ⟨k + 1, by omega, by go_num, ?_, ?_, ?_, ?_, hgr⟩
          · rw [HVT.out, ← HN1.out] <;> first | rfl | (congr 1; omega) | (simp; done)
          · rw [← HN1.out] <;> first | rfl | (congr 1; omega) | (simp; done)
          · exact Lib.hid (fun z hz => by
             rw [HXK.out] at hz
             rcases List.mem_append.1 hz with h | h
             · exact hxr.out z h
             · rw [List.mem_singleton.1 h, HXG.out]; exact hx32)
          · rw [HVT.out, ← HN1.out, ← HM1.out]; exact hor
         case measure => first | (simp [intOf]; done) | (simp [intOf]; omega)
  · obtain rfl : k = l.length := by omega
    rw [List.take_length] at *
    obtain ⟨oa, om, oc, rfl⟩ := own_slice hor.out
    have hol : om = 5 * l.length / 8 := by have := own_len hor.out; rw [digB_len] at this; exact this
    have HBP : Hid (bitsP 5 8 false l = if 5 ≤ 5 * l.length % 8 ∨ valB 32 l % 2 ^ (5 * l.length % 8) ≠ 0 then none else some (digB 256 (5 * l.length / 8) (valB 32 l / 2 ^ (5 * l.length % 8)))) := Lib.hid (by unfold bitsP; rw [if_neg (by rw [any_of hxr.out]; simp), if_neg si_])
    have hNlt : 5 * l.length % 8 < 8 := Nat.mod_lt _ om_
    have hMlt : 5 * l.length / 8 ≤ 900000000 := by omega
    generalize 5 * l.length / 8 = M at *
    generalize 5 * l.length % 8 = N at *
    generalize valB 32 l = V at *
    subst hol
    clear hk hlt hxr
    rcases (by omega : N = 0 ∨ N = 1 ∨ N = 2 ∨ N = 3 ∨ N = 4 ∨ N = 5 ∨ N = 6 ∨ N = 7) with rfl | rfl | rfl | rfl | rfl | rfl | rfl | rfl
    · have HO : Hid (OwnB w.heap.size (.slice oa om oc) (digB 256 om V) wr) := Lib.hid (by have := hor.out; rwa [Nat.pow_zero, Nat.div_one] at this)
      have HN0 : Hid (bitsP 5 8 false l = some (digB 256 om V)) := Lib.hid (by rw [HBP.out]; rw [if_neg (by rw [Nat.pow_zero, Nat.mod_one]; omega), Nat.pow_zero, Nat.div_one])
      have HB0 := Lib.hid (gl_to_below hgr.out)
      rw [Nat.pow_zero, Nat.mod_one]
      clear hor hgr HBP
      go_wp2
      exact bodyPost_ret (v := .tuple #[.slice oa om oc, .int .i64 0]) (by simp [results, Tryz.results88, go_sem]) rfl ⟨bitsO_some HN0.out HO.out, HB0.out⟩
    · by_cases hh : V % 2 ^ 1 = 0
      · have HO : Hid (OwnB w.heap.size (.slice oa om oc) (digB 256 om (V / 2 ^ 1)) wr) := Lib.hid hor.out
        have HN0 : Hid (bitsP 5 8 false l = some (digB 256 om (V / 2 ^ 1))) := Lib.hid (by rw [HBP.out, if_neg om_])
        have HB0 := Lib.hid (gl_to_below hgr.out)
        rw [hh]
        clear hor hgr HBP hh
        go_wp2
        exact bodyPost_ret (v := .tuple #[.slice oa om oc, .int .i64 0]) (by simp [results, Tryz.results88, go_sem]) rfl ⟨bitsO_some HN0.out HO.out, HB0.out⟩
      · have HN0 : Hid (bitsP 5 8 false l = none) := Lib.hid (by rw [HBP.out, if_pos (.inr hh)])
        have HB0 := Lib.hid (gl_to_below hgr.out)
        clear hor hgr HBP
        generalize V % 2 ^ 1 = h at *
        have hh1 : (((h : Nat) : Int) == 0) = false := by simp; omega
        have hh2 : (((h : Nat) : Int) != 0) = true := by simp; omega
        go_wp2
        exact bodyPost_ret (v := .tuple #[.slice none 0 0, .int .i64 50]) (by simp [results, Tryz.results88, go_sem]) rfl ⟨bitsO_none HN0.out, HB0.out⟩
    · by_cases hh : V % 2 ^ 2 = 0
      · have HO : Hid (OwnB w.heap.size (.slice oa om oc) (digB 256 om (V / 2 ^ 2)) wr) := Lib.hid hor.out
        have HN0 : Hid (bitsP 5 8 false l = some (digB 256 om (V / 2 ^ 2))) := Lib.hid (by rw [HBP.out, if_neg om_])
        have HB0 := Lib.hid (gl_to_below hgr.out)
        rw [hh]
        clear hor hgr HBP hh
        go_wp2
        exact bodyPost_ret (v := .tuple #[.slice oa om oc, .int .i64 0]) (by simp [results, Tryz.results88, go_sem]) rfl ⟨bitsO_some HN0.out HO.out, HB0.out⟩
      · have HN0 : Hid (bitsP 5 8 false l = none) := Lib.hid (by rw [HBP.out, if_pos (.inr hh)])
        have HB0 := Lib.hid (gl_to_below hgr.out)
        clear hor hgr HBP
        generalize V % 2 ^ 2 = h at *
        have hh1 : (((h : Nat) : Int) == 0) = false := by simp; omega
        have hh2 : (((h : Nat) : Int) != 0) = true := by simp; omega
        go_wp2
        exact bodyPost_ret (v := .tuple #[.slice none 0 0, .int .i64 50]) (by simp [results, Tryz.results88, go_sem]) rfl ⟨bitsO_none HN0.out, HB0.out⟩
    · by_cases hh : V % 2 ^ 3 = 0
      · have HO : Hid (OwnB w.heap.size (.slice oa om oc) (digB 256 om (V / 2 ^ 3)) wr) := Lib.hid hor.out
        have HN0 : Hid (bitsP 5 8 false l = some (digB 256 om (V / 2 ^ 3))) := Lib.hid (by rw [HBP.out, if_neg om_])
        have HB0 := Lib.hid (gl_to_below hgr.out)
        rw [hh]
        clear hor hgr HBP hh
        go_wp2
        exact bodyPost_ret (v := .tuple #[.slice oa om oc, .int .i64 0]) (by simp [results, Tryz.results88, go_sem]) rfl ⟨bitsO_some HN0.out HO.out, HB0.out⟩
      · have HN0 : Hid (bitsP 5 8 false l = none) := Lib.hid (by rw [HBP.out, if_pos (.inr hh)])
        have HB0 := Lib.hid (gl_to_below hgr.out)
        clear hor hgr HBP
        generalize V % 2 ^ 3 = h at *
        have hh1 : (((h : Nat) : Int) == 0) = false := by simp; omega
        have hh2 : (((h : Nat) : Int) != 0) = true := by simp; omega
        go_wp2
        exact bodyPost_ret (v := .tuple #[.slice none 0 0, .int .i64 50]) (by simp [results, Tryz.results88, go_sem]) rfl ⟨bitsO_none HN0.out, HB0.out⟩
    · by_cases hh : V % 2 ^ 4 = 0
      · have HO : Hid (OwnB w.heap.size (.slice oa om oc) (digB 256 om (V / 2 ^ 4)) wr) := Lib.hid hor.out
        have HN0 : Hid (bitsP 5 8 false l = some (digB 256 om (V / 2 ^ 4))) := Lib.hid (by rw [HBP.out, if_neg om_])
        have HB0 := Lib.hid (gl_to_below hgr.out)
        rw [hh]
        clear hor hgr HBP hh
        go_wp2
        exact bodyPost_ret (v := .tuple #[.slice oa om oc, .int .i64 0]) (by simp [results, Tryz.results88, go_sem]) rfl ⟨bitsO_some HN0.out HO.out, HB0.out⟩
      · have HN0 : Hid (bitsP 5 8 false l = none) := Lib.hid (by rw [HBP.out, if_pos (.inr hh)])
        have HB0 := Lib.hid (gl_to_below hgr.out)
        clear hor hgr HBP
        generalize V % 2 ^ 4 = h at *
        have hh1 : (((h : Nat) : Int) == 0) = false := by simp; omega
        have hh2 : (((h : Nat) : Int) != 0) = true := by simp; omega
        go_wp2
        exact bodyPost_ret (v := .tuple #[.slice none 0 0, .int .i64 50]) (by simp [results, Tryz.results88, go_sem]) rfl ⟨bitsO_none HN0.out, HB0.out⟩
    · have HN0 : Hid (bitsP 5 8 false l = none) := Lib.hid (by rw [HBP.out, if_pos (.inl om_)])
      have HB0 := Lib.hid (gl_to_below hgr.out)
      clear hor hgr HBP
      generalize V % 2 ^ 5 = h at *
      go_wp2
      exact bodyPost_ret (v := .tuple #[.slice none 0 0, .int .i64 50]) (by simp [results, Tryz.results88, go_sem]) rfl ⟨bitsO_none HN0.out, HB0.out⟩
    · have HN0 : Hid (bitsP 5 8 false l = none) := Lib.hid (by rw [HBP.out, if_pos (.inl om_)])
      have HB0 := Lib.hid (gl_to_below hgr.out)
      clear hor hgr HBP
      generalize V % 2 ^ 6 = h at *
      go_wp2
      exact bodyPost_ret (v := .tuple #[.slice none 0 0, .int .i64 50]) (by simp [results, Tryz.results88, go_sem]) rfl ⟨bitsO_none HN0.out, HB0.out⟩
    · have HN0 : Hid (bitsP 5 8 false l = none) := Lib.hid (by rw [HBP.out, if_pos (.inl om_)])
      have HB0 := Lib.hid (gl_to_below hgr.out)
      clear hor hgr HBP
      generalize V % 2 ^ 7 = h at *
      go_wp2
      exact bodyPost_ret (v := .tuple #[.slice none 0 0, .int .i64 50]) (by simp [results, Tryz.results88, go_sem]) rfl ⟨bitsO_none HN0.out, HB0.out⟩
end Go.Proofs.YtembdkodajichaaGreatDoor
