/- The program's invoices: numbers and texts read. -/
import Derived.Test.YtembdkodajichaaGreatDoorBitsA
import Derived.Test.YtembdkodajichaaGreatDoorRegI
import Derived.WalkLawsBesides
import Derived.RegionDies
set_option maxRecDepth 100000
set_option maxHeartbeats 4000000
set_option linter.unusedSimpArgs false
set_option linter.unusedVariables false
namespace Go.Proofs.YtembdkodajichaaGreatDoor
open Go.RowKit
theorem zoR_ (l : List UInt8) (bv : Value) (w : World) (hin : x8_ bv l w) (hll : l.length ≤ 100000000)  :
  Calls Tryz.prog 88 #[bv, .int .i64 5, .int .i64 8, .bool false] w fun e w' =>
   zd0_ w.heap.size (w7_ 5 8 false l) e w' ∧ Below w.heap.size w w' := by
 obtain ⟨ad, cc, rfl, hby⟩ : ∃ ad cc, bv = .slice ad l.length cc ∧ (l ≠ [] → ∃ G o, ad = some ⟨G, o, none⟩ ∧ zbs_ G o l w) := by
  obtain ⟨G, o, c, h1, h2, h3⟩ := hin
  rcases h1 with ⟨h1, ad, cc, h⟩ | ⟨h1, h⟩
  · exact ⟨ad, cc, by rw [h, ← h1], fun h => absurd (List.eq_nil_of_length_eq_zero h1.symm) h⟩
  · exact ⟨some ⟨G, o, none⟩, c, by simpa using h, fun hl => ⟨G, o, rfl, h3 hl⟩⟩
 have HBY := Lib.hid hby
 clear hin hby
 go_enter Tryz.func88, Tryz.ntmps88
 go_wp2
 go_loopw [10, 11, 12, 14, 31] (fun ov hv nv _ iv wr => ∃ k : Nat, k ≤ l.length ∧ iv = .int .i64 k ∧ hv = .int .i64 (y3_ 32 (l.take k) % 2 ^ (5 * k % 8) : Nat) ∧ nv = .int .i64 ((5 * k % 8 : Nat) : Int) ∧ Hid (∀ x ∈ l.take k, x.toNat < 32) ∧ Hid (x1_ w.heap.size ov (z1_ 256 (5 * k / 8) (y3_ 32 (l.take k) / 2 ^ (5 * k % 8))) wr) ∧ Hid (GL [] w wr)) (fun _ _ _ _ iv _ => l.length - (intOf iv).toNat)
 case atStart => exact ⟨0, by omega, rfl, rfl, rfl, Lib.hid si_, Lib.hid (zbN_ _ _), Lib.hid (y1_ _ _)⟩
 case round =>
  obtain ⟨k, hk, rfl, rfl, rfl, hxr, hor, hgr⟩ := hrel
  by_cases hlt : k < l.length
  · obtain ⟨G, o, rfl, hbw⟩ := HBY.out (fun e => by subst e; simp at hlt)
    have ck := (zbf_ hbw hgr.out si_).2 k hlt
    have hk1 : (k : Int) < l.length := by omega
    have hx8 := (l.getD k 0).toNat_lt
    have hvt : y3_ 32 (l.take (k + 1)) = y3_ 32 (l.take k) * 2 ^ 5 + (l.getD k 0).toNat := zeF_ 32 l k hlt
    have HXK : Hid (l.take (k + 1) = l.take k ++ [l.getD k 0]) := Lib.hid (by rw [List.take_add_one, List.getElem?_eq_getElem hlt, Option.toList_some, List.getD_eq_getElem?_getD, List.getElem?_eq_getElem hlt]; rfl)
    obtain ⟨va, vm, vc, rfl⟩ := za4_ hor.out
    generalize hxg : (l.getD k 0).toNat = x at *
    by_cases hx32 : x < 32
    rotate_left
    · have hxz : (0 : Int) < (x : Int) / 32 := by omega
      have hnone : w7_ 5 8 false l = none := if_pos (List.any_eq_true.2 ⟨l.getD k 0, by rw [List.getD_eq_getElem?_getD, List.getElem?_eq_getElem hlt]; exact List.getElem_mem hlt, by rw [decide_eq_true_eq]; omega⟩)
      have HB0 := Lib.hid (y0_ hgr.out)
      have HN0 := Lib.hid hnone
      clear hnone
      go_wp2
      exact bodyPost_ret (v := .tuple #[.slice none 0 0, .int .i64 50]) (by simp [results, Tryz.results88, go_sem]) rfl ⟨zcf_ HN0.out, HB0.out⟩
    have hxz : (x : Int) / 32 = 0 := by omega
    generalize hVg : y3_ 32 (l.take k) = V at *
    have hNlt : 5 * k % 8 < 8 := Nat.mod_lt _ om_
    have hHlt : V % 2 ^ (5 * k % 8) < 2 ^ (5 * k % 8) := Nat.mod_lt _ (Nat.two_pow_pos _)
    have hpw : 2 ^ (5 * k % 8) ≤ 2 ^ 8 := Nat.pow_le_pow_right om_ om_
    have hor1 : bits .or .i64 (((V % 2 ^ (5 * k % 8) : Nat) : Int) * 32) (x : Int) = (((V * 2 ^ 5 + x) % 2 ^ (5 * k % 8 + 5) : Nat) : Int) := by
     rw [← zjp_ V _ 5 x om_, ← zfC_ _ x 5 om_, ← zfB_ _ _ om_ om_]
     rfl
    have hHN : Hid ((V * 2 ^ 5 + x) / 2 ^ (5 * k % 8 + 5) = V / 2 ^ (5 * k % 8)) := Lib.hid (zjq_ V x _ 5 om_)
    generalize hVn : V * 2 ^ 5 + x = V2 at *
    generalize hhv : V2 % 2 ^ (5 * k % 8 + 5) = hv at *
    have hNg0 : 8 * (5 * k / 8) + 5 * k % 8 = 5 * k := Nat.div_add_mod _ _
    generalize hMg : 5 * k / 8 = m0 at *
    generalize hNg : 5 * k % 8 = N at *
    generalize hHg : V % 2 ^ N = H at *
    have hHb : H < 2 ^ 8 := by omega
    have hvlt : hv < 2 ^ (N + 5) := by rw [← hhv]; exact Nat.mod_lt _ (Nat.two_pow_pos _)
    have hvb : hv < 2 ^ 12 := Nat.lt_of_lt_of_le hvlt (Nat.pow_le_pow_right om_ om_)
    have HXG := Lib.hid hxg
    have HHV := Lib.hid hhv
    have HVT := Lib.hid hvt
    have HO1 : Hid (x1_ w.heap.size (.slice va vm vc) (z1_ 256 m0 (V2 / 2 ^ (N + 5))) wr) := Lib.hid (by rw [hHN.out]; exact hor.out)
    have HG1 := Lib.hid hgr.out
    clear hbw hHlt hpw hhv hvt hor hgr hVg hVn hHg hHN hvlt hxg
    go_wp2
    go_loopw [10, 12] (fun ov nv wr => ∃ m nn : Nat, 8 * m + nn = 5 * (k + 1) ∧ nn ≤ N + 5 ∧ nv = .int .i64 nn ∧ Hid (x1_ w.heap.size ov (z1_ 256 m (V2 / 2 ^ nn)) wr) ∧ Hid (GL [] w wr)) (fun _ nv _ => (intOf nv).toNat)
    case atStart => exact ⟨m0, N + 5, by omega, by omega, by first | rfl | (simp; done), HO1, HG1⟩
    case round =>
     obtain ⟨m, nn, hmn, hnn, rfl, hor, hgr⟩ := hrel
     obtain ⟨oa, om, oc, rfl⟩ := za4_ hor.out
     have hol : om = m := by have := zbS_ hor.out; rw [y9_] at this; exact this
     subst hol
     by_cases hge : 8 ≤ nn
     · have HST := Lib.hid (zeG_ 8 om nn V2 hge)
       have hml : om ≤ 1000000000 := by omega
       rcases (by omega : nn = 8 ∨ nn = 9 ∨ nn = 10 ∨ nn = 11 ∨ nn = 12) with rfl | rfl | rfl | rfl | rfl
       · have hy : hv / 2 ^ 0 % 2 ^ 8 = V2 / 2 ^ 0 % 2 ^ 8 := by rw [← HHV.out]; exact zb0_ V2 (N + 5) 0 8 om_
         have hX : bits .and .i64 (hv : Int) 255 = ((V2 / 2 ^ 0 % 2 ^ 8 : Nat) : Int) := by
          rw [← hy, ← zap_ (hv / 2 ^ 0) 8 om_ om_ 255 de_]; rw [Nat.pow_zero, Nat.div_one]
         have hylt : V2 / 2 ^ 0 % 2 ^ 8 < 256 := Nat.mod_lt _ om_
         have HST2 : Hid (z1_ 256 (om + 1) (V2 / 2 ^ 0) = z1_ 256 om (V2 / 2 ^ 8) ++ [UInt8.ofNat (V2 / 2 ^ 0 % 2 ^ 8)]) := HST
         generalize V2 / 2 ^ 0 % 2 ^ 8 = y at *
         have hyI : (y : Int) < 256 := by omega
         obtain ⟨g, cap, w4, hrun, hown4, hgr4, hat, hlt4⟩ := k7_ w.heap.size (.slice oa om oc) _ (UInt8.ofNat y) (y : Int) (by rw [UInt8.toNat_ofNat']; omega) wr _ (.inl rfl) hor.out (by rw [y9_]; omega) hgr.out.size
         rw [y9_] at hrun hown4
         have HRUN := Lib.hid hrun
         clear hrun
         have hwd : IntKind.i64.wrap 0 = 0 := by decide
         have hwe : IntKind.i64.wrap 256 = 256 := by decide
         have hwf : IntKind.i64.wrap 255 = 255 := by decide
         have hwy : IntKind.u8.wrap (y : Int) = y := by simp only [IntKind.wrap_u8]; omega
         go_wp2
         go_region_law (refine zbA_ _ (.tmp 55) (.tmp 66) 47 47 rfl _ _ (by simp [Act.eval, Act.put]) (by simp [Act.eval, Act.put]) HRUN.out ?_)
         go_wp2
         go_roundw
         case rel =>
          refine ⟨om + 1, 0, by omega, by omega, by first | rfl | (simp; done), Lib.hid ?_, Lib.hid (y7_ hgr4 hgr.out (fun r hr => ?_))⟩
          · rw [HST2.out]; exact hown4
          · exact .inr (v4_ hor.out r (by simpa using hr)).1
         case measure => first | (simp [intOf]; done) | (simp [intOf]; omega)
       · have hy : hv / 2 ^ 1 % 2 ^ 8 = V2 / 2 ^ 1 % 2 ^ 8 := by rw [← HHV.out]; exact zb0_ V2 (N + 5) 1 8 om_
         have hX : bits .and .i64 ((hv : Int) / 2) 255 = ((V2 / 2 ^ 1 % 2 ^ 8 : Nat) : Int) := by
          rw [show ((hv : Int) / 2) = ((hv / 2 ^ 1 : Nat) : Int) by omega]; rw [← hy, ← zap_ (hv / 2 ^ 1) 8 om_ om_ 255 de_]
         have hylt : V2 / 2 ^ 1 % 2 ^ 8 < 256 := Nat.mod_lt _ om_
         have HST2 : Hid (z1_ 256 (om + 1) (V2 / 2 ^ 1) = z1_ 256 om (V2 / 2 ^ 9) ++ [UInt8.ofNat (V2 / 2 ^ 1 % 2 ^ 8)]) := HST
         generalize V2 / 2 ^ 1 % 2 ^ 8 = y at *
         have hyI : (y : Int) < 256 := by omega
         obtain ⟨g, cap, w4, hrun, hown4, hgr4, hat, hlt4⟩ := k7_ w.heap.size (.slice oa om oc) _ (UInt8.ofNat y) (y : Int) (by rw [UInt8.toNat_ofNat']; omega) wr _ (.inl rfl) hor.out (by rw [y9_]; omega) hgr.out.size
         rw [y9_] at hrun hown4
         have HRUN := Lib.hid hrun
         clear hrun
         have hwd : IntKind.i64.wrap 1 = 1 := by decide
         have hwe : IntKind.i64.wrap 256 = 256 := by decide
         have hwf : IntKind.i64.wrap 255 = 255 := by decide
         have hwy : IntKind.u8.wrap (y : Int) = y := by simp only [IntKind.wrap_u8]; omega
         go_wp2
         go_region_law (refine zbA_ _ (.tmp 55) (.tmp 66) 47 47 rfl _ _ (by simp [Act.eval, Act.put]) (by simp [Act.eval, Act.put]) HRUN.out ?_)
         go_wp2
         go_roundw
         case rel =>
          refine ⟨om + 1, 1, by omega, by omega, by first | rfl | (simp; done), Lib.hid ?_, Lib.hid (y7_ hgr4 hgr.out (fun r hr => ?_))⟩
          · rw [HST2.out]; exact hown4
          · exact .inr (v4_ hor.out r (by simpa using hr)).1
         case measure => first | (simp [intOf]; done) | (simp [intOf]; omega)
       · have hy : hv / 2 ^ 2 % 2 ^ 8 = V2 / 2 ^ 2 % 2 ^ 8 := by rw [← HHV.out]; exact zb0_ V2 (N + 5) 2 8 om_
         have hX : bits .and .i64 ((hv : Int) / 4) 255 = ((V2 / 2 ^ 2 % 2 ^ 8 : Nat) : Int) := by
          rw [show ((hv : Int) / 4) = ((hv / 2 ^ 2 : Nat) : Int) by omega]; rw [← hy, ← zap_ (hv / 2 ^ 2) 8 om_ om_ 255 de_]
         have hylt : V2 / 2 ^ 2 % 2 ^ 8 < 256 := Nat.mod_lt _ om_
         have HST2 : Hid (z1_ 256 (om + 1) (V2 / 2 ^ 2) = z1_ 256 om (V2 / 2 ^ 10) ++ [UInt8.ofNat (V2 / 2 ^ 2 % 2 ^ 8)]) := HST
         generalize V2 / 2 ^ 2 % 2 ^ 8 = y at *
         have hyI : (y : Int) < 256 := by omega
         obtain ⟨g, cap, w4, hrun, hown4, hgr4, hat, hlt4⟩ := k7_ w.heap.size (.slice oa om oc) _ (UInt8.ofNat y) (y : Int) (by rw [UInt8.toNat_ofNat']; omega) wr _ (.inl rfl) hor.out (by rw [y9_]; omega) hgr.out.size
         rw [y9_] at hrun hown4
         have HRUN := Lib.hid hrun
         clear hrun
         have hwd : IntKind.i64.wrap 2 = 2 := by decide
         have hwe : IntKind.i64.wrap 256 = 256 := by decide
         have hwf : IntKind.i64.wrap 255 = 255 := by decide
         have hwy : IntKind.u8.wrap (y : Int) = y := by simp only [IntKind.wrap_u8]; omega
         go_wp2
         go_region_law (refine zbA_ _ (.tmp 55) (.tmp 66) 47 47 rfl _ _ (by simp [Act.eval, Act.put]) (by simp [Act.eval, Act.put]) HRUN.out ?_)
         go_wp2
         go_roundw
         case rel =>
          refine ⟨om + 1, 2, by omega, by omega, by first | rfl | (simp; done), Lib.hid ?_, Lib.hid (y7_ hgr4 hgr.out (fun r hr => ?_))⟩
          · rw [HST2.out]; exact hown4
          · exact .inr (v4_ hor.out r (by simpa using hr)).1
         case measure => first | (simp [intOf]; done) | (simp [intOf]; omega)
       · have hy : hv / 2 ^ 3 % 2 ^ 8 = V2 / 2 ^ 3 % 2 ^ 8 := by rw [← HHV.out]; exact zb0_ V2 (N + 5) 3 8 om_
         have hX : bits .and .i64 ((hv : Int) / 8) 255 = ((V2 / 2 ^ 3 % 2 ^ 8 : Nat) : Int) := by
          rw [show ((hv : Int) / 8) = ((hv / 2 ^ 3 : Nat) : Int) by omega]; rw [← hy, ← zap_ (hv / 2 ^ 3) 8 om_ om_ 255 de_]
         have hylt : V2 / 2 ^ 3 % 2 ^ 8 < 256 := Nat.mod_lt _ om_
         have HST2 : Hid (z1_ 256 (om + 1) (V2 / 2 ^ 3) = z1_ 256 om (V2 / 2 ^ 11) ++ [UInt8.ofNat (V2 / 2 ^ 3 % 2 ^ 8)]) := HST
         generalize V2 / 2 ^ 3 % 2 ^ 8 = y at *
         have hyI : (y : Int) < 256 := by omega
         obtain ⟨g, cap, w4, hrun, hown4, hgr4, hat, hlt4⟩ := k7_ w.heap.size (.slice oa om oc) _ (UInt8.ofNat y) (y : Int) (by rw [UInt8.toNat_ofNat']; omega) wr _ (.inl rfl) hor.out (by rw [y9_]; omega) hgr.out.size
         rw [y9_] at hrun hown4
         have HRUN := Lib.hid hrun
         clear hrun
         have hwd : IntKind.i64.wrap 3 = 3 := by decide
         have hwe : IntKind.i64.wrap 256 = 256 := by decide
         have hwf : IntKind.i64.wrap 255 = 255 := by decide
         have hwy : IntKind.u8.wrap (y : Int) = y := by simp only [IntKind.wrap_u8]; omega
         go_wp2
         go_region_law (refine zbA_ _ (.tmp 55) (.tmp 66) 47 47 rfl _ _ (by simp [Act.eval, Act.put]) (by simp [Act.eval, Act.put]) HRUN.out ?_)
         go_wp2
         go_roundw
         case rel =>
          refine ⟨om + 1, 3, by omega, by omega, by first | rfl | (simp; done), Lib.hid ?_, Lib.hid (y7_ hgr4 hgr.out (fun r hr => ?_))⟩
          · rw [HST2.out]; exact hown4
          · exact .inr (v4_ hor.out r (by simpa using hr)).1
         case measure => first | (simp [intOf]; done) | (simp [intOf]; omega)
       · have hy : hv / 2 ^ 4 % 2 ^ 8 = V2 / 2 ^ 4 % 2 ^ 8 := by rw [← HHV.out]; exact zb0_ V2 (N + 5) 4 8 om_
         have hX : bits .and .i64 ((hv : Int) / 16) 255 = ((V2 / 2 ^ 4 % 2 ^ 8 : Nat) : Int) := by
          rw [show ((hv : Int) / 16) = ((hv / 2 ^ 4 : Nat) : Int) by omega]; rw [← hy, ← zap_ (hv / 2 ^ 4) 8 om_ om_ 255 de_]
         have hylt : V2 / 2 ^ 4 % 2 ^ 8 < 256 := Nat.mod_lt _ om_
         have HST2 : Hid (z1_ 256 (om + 1) (V2 / 2 ^ 4) = z1_ 256 om (V2 / 2 ^ 12) ++ [UInt8.ofNat (V2 / 2 ^ 4 % 2 ^ 8)]) := HST
         generalize V2 / 2 ^ 4 % 2 ^ 8 = y at *
         have hyI : (y : Int) < 256 := by omega
         obtain ⟨g, cap, w4, hrun, hown4, hgr4, hat, hlt4⟩ := k7_ w.heap.size (.slice oa om oc) _ (UInt8.ofNat y) (y : Int) (by rw [UInt8.toNat_ofNat']; omega) wr _ (.inl rfl) hor.out (by rw [y9_]; omega) hgr.out.size
         rw [y9_] at hrun hown4
         have HRUN := Lib.hid hrun
         clear hrun
         have hwd : IntKind.i64.wrap 4 = 4 := by decide
         have hwe : IntKind.i64.wrap 256 = 256 := by decide
         have hwf : IntKind.i64.wrap 255 = 255 := by decide
         have hwy : IntKind.u8.wrap (y : Int) = y := by simp only [IntKind.wrap_u8]; omega
         go_wp2
         go_region_law (refine zbA_ _ (.tmp 55) (.tmp 66) 47 47 rfl _ _ (by simp [Act.eval, Act.put]) (by simp [Act.eval, Act.put]) HRUN.out ?_)
         go_wp2
         go_roundw
         case rel =>
          refine ⟨om + 1, 4, by omega, by omega, by first | rfl | (simp; done), Lib.hid ?_, Lib.hid (y7_ hgr4 hgr.out (fun r hr => ?_))⟩
          · rw [HST2.out]; exact hown4
          · exact .inr (v4_ hor.out r (by simpa using hr)).1
         case measure => first | (simp [intOf]; done) | (simp [intOf]; omega)
     · have hm1 : om = 5 * (k + 1) / 8 := by omega
       have hn1 : nn = 5 * (k + 1) % 8 := by omega
       have HM1 := Lib.hid hm1
       have HN1 := Lib.hid hn1
       clear hm1 hn1
       rcases (by omega : nn = 0 ∨ nn = 1 ∨ nn = 2 ∨ nn = 3 ∨ nn = 4 ∨ nn = 5 ∨ nn = 6 ∨ nn = 7) with rfl | rfl | rfl | rfl | rfl | rfl | rfl | rfl
       · have hy : hv % 2 ^ 0 = V2 % 2 ^ 0 := by rw [← HHV.out]; exact Nat.mod_mod_of_dvd _ (Nat.pow_dvd_pow 2 om_)
         have hX : bits .and .i64 (hv : Int) 0 = ((V2 % 2 ^ 0 : Nat) : Int) := by rw [← hy]; exact zap_ hv 0 om_ om_ _ de_
         go_wp2
         go_roundw
         case rel =>
          refine ⟨k + 1, by omega, by go_num, ?_, ?_, ?_, ?_, hgr⟩
          · rw [HVT.out, ← HN1.out] <;> first | rfl | (congr 1; omega) | (simp; done)
          · rw [← HN1.out] <;> first | rfl | (congr 1; omega) | (simp; done)
          · exact Lib.hid (fun z hz => by
             rw [HXK.out] at hz
             rcases List.mem_append.1 hz with h | h
             · exact hxr.out z h
             · rw [List.mem_singleton.1 h, HXG.out]; exact hx32)
          · rw [HVT.out, ← HN1.out, ← HM1.out]; exact hor
         case measure => first | (simp [intOf]; done) | (simp [intOf]; omega)
       · have hy : hv % 2 ^ 1 = V2 % 2 ^ 1 := by rw [← HHV.out]; exact Nat.mod_mod_of_dvd _ (Nat.pow_dvd_pow 2 om_)
         have hX : bits .and .i64 (hv : Int) 1 = ((V2 % 2 ^ 1 : Nat) : Int) := by rw [← hy]; exact zap_ hv 1 om_ om_ _ de_
         go_wp2
         go_roundw
         case rel =>
          refine ⟨k + 1, by omega, by go_num, ?_, ?_, ?_, ?_, hgr⟩
          · rw [HVT.out, ← HN1.out] <;> first | rfl | (congr 1; omega) | (simp; done)
          · rw [← HN1.out] <;> first | rfl | (congr 1; omega) | (simp; done)
          · exact Lib.hid (fun z hz => by
             rw [HXK.out] at hz
             rcases List.mem_append.1 hz with h | h
             · exact hxr.out z h
             · rw [List.mem_singleton.1 h, HXG.out]; exact hx32)
          · rw [HVT.out, ← HN1.out, ← HM1.out]; exact hor
         case measure => first | (simp [intOf]; done) | (simp [intOf]; omega)
       · have hy : hv % 2 ^ 2 = V2 % 2 ^ 2 := by rw [← HHV.out]; exact Nat.mod_mod_of_dvd _ (Nat.pow_dvd_pow 2 om_)
         have hX : bits .and .i64 (hv : Int) 3 = ((V2 % 2 ^ 2 : Nat) : Int) := by rw [← hy]; exact zap_ hv 2 om_ om_ _ de_
         go_wp2
         go_roundw
         case rel =>
          refine ⟨k + 1, by omega, by go_num, ?_, ?_, ?_, ?_, hgr⟩
          · rw [HVT.out, ← HN1.out] <;> first | rfl | (congr 1; omega) | (simp; done)
          · rw [← HN1.out] <;> first | rfl | (congr 1; omega) | (simp; done)
          · exact Lib.hid (fun z hz => by
             rw [HXK.out] at hz
             rcases List.mem_append.1 hz with h | h
             · exact hxr.out z h
             · rw [List.mem_singleton.1 h, HXG.out]; exact hx32)
          · rw [HVT.out, ← HN1.out, ← HM1.out]; exact hor
         case measure => first | (simp [intOf]; done) | (simp [intOf]; omega)
       · have hy : hv % 2 ^ 3 = V2 % 2 ^ 3 := by rw [← HHV.out]; exact Nat.mod_mod_of_dvd _ (Nat.pow_dvd_pow 2 om_)
         have hX : bits .and .i64 (hv : Int) 7 = ((V2 % 2 ^ 3 : Nat) : Int) := by rw [← hy]; exact zap_ hv 3 om_ om_ _ de_
         go_wp2
         go_roundw
         case rel =>
          refine ⟨k + 1, by omega, by go_num, ?_, ?_, ?_, ?_, hgr⟩
          · rw [HVT.out, ← HN1.out] <;> first | rfl | (congr 1; omega) | (simp; done)
          · rw [← HN1.out] <;> first | rfl | (congr 1; omega) | (simp; done)
          · exact Lib.hid (fun z hz => by
             rw [HXK.out] at hz
             rcases List.mem_append.1 hz with h | h
             · exact hxr.out z h
             · rw [List.mem_singleton.1 h, HXG.out]; exact hx32)
          · rw [HVT.out, ← HN1.out, ← HM1.out]; exact hor
         case measure => first | (simp [intOf]; done) | (simp [intOf]; omega)
       · have hy : hv % 2 ^ 4 = V2 % 2 ^ 4 := by rw [← HHV.out]; exact Nat.mod_mod_of_dvd _ (Nat.pow_dvd_pow 2 om_)
         have hX : bits .and .i64 (hv : Int) 15 = ((V2 % 2 ^ 4 : Nat) : Int) := by rw [← hy]; exact zap_ hv 4 om_ om_ _ de_
         go_wp2
         go_roundw
         case rel =>
          refine ⟨k + 1, by omega, by go_num, ?_, ?_, ?_, ?_, hgr⟩
          · rw [HVT.out, ← HN1.out] <;> first | rfl | (congr 1; omega) | (simp; done)
          · rw [← HN1.out] <;> first | rfl | (congr 1; omega) | (simp; done)
          · exact Lib.hid (fun z hz => by
             rw [HXK.out] at hz
             rcases List.mem_append.1 hz with h | h
             · exact hxr.out z h
             · rw [List.mem_singleton.1 h, HXG.out]; exact hx32)
          · rw [HVT.out, ← HN1.out, ← HM1.out]; exact hor
         case measure => first | (simp [intOf]; done) | (simp [intOf]; omega)
       · have hy : hv % 2 ^ 5 = V2 % 2 ^ 5 := by rw [← HHV.out]; exact Nat.mod_mod_of_dvd _ (Nat.pow_dvd_pow 2 om_)
         have hX : bits .and .i64 (hv : Int) 31 = ((V2 % 2 ^ 5 : Nat) : Int) := by rw [← hy]; exact zap_ hv 5 om_ om_ _ de_
         go_wp2
         go_roundw
         case rel =>
          refine ⟨k + 1, by omega, by go_num, ?_, ?_, ?_, ?_, hgr⟩
          · rw [HVT.out, ← HN1.out] <;> first | rfl | (congr 1; omega) | (simp; done)
          · rw [← HN1.out] <;> first | rfl | (congr 1; omega) | (simp; done)
          · exact Lib.hid (fun z hz => by
             rw [HXK.out] at hz
             rcases List.mem_append.1 hz with h | h
             · exact hxr.out z h
             · rw [List.mem_singleton.1 h, HXG.out]; exact hx32)
          · rw [HVT.out, ← HN1.out, ← HM1.out]; exact hor
         case measure => first | (simp [intOf]; done) | (simp [intOf]; omega)
       · have hy : hv % 2 ^ 6 = V2 % 2 ^ 6 := by rw [← HHV.out]; exact Nat.mod_mod_of_dvd _ (Nat.pow_dvd_pow 2 om_)
         have hX : bits .and .i64 (hv : Int) 63 = ((V2 % 2 ^ 6 : Nat) : Int) := by rw [← hy]; exact zap_ hv 6 om_ om_ _ de_
         go_wp2
         go_roundw
         case rel =>
          refine ⟨k + 1, by omega, by go_num, ?_, ?_, ?_, ?_, hgr⟩
          · rw [HVT.out, ← HN1.out] <;> first | rfl | (congr 1; omega) | (simp; done)
          · rw [← HN1.out] <;> first | rfl | (congr 1; omega) | (simp; done)
          · exact Lib.hid (fun z hz => by
             rw [HXK.out] at hz
             rcases List.mem_append.1 hz with h | h
             · exact hxr.out z h
             · rw [List.mem_singleton.1 h, HXG.out]; exact hx32)
          · rw [HVT.out, ← HN1.out, ← HM1.out]; exact hor
         case measure => first | (simp [intOf]; done) | (simp [intOf]; omega)
       · have hy : hv % 2 ^ 7 = V2 % 2 ^ 7 := by rw [← HHV.out]; exact Nat.mod_mod_of_dvd _ (Nat.pow_dvd_pow 2 om_)
         have hX : bits .and .i64 (hv : Int) 127 = ((V2 % 2 ^ 7 : Nat) : Int) := by rw [← hy]; exact zap_ hv 7 om_ om_ _ de_
         go_wp2
         go_roundw
         case rel =>
          refine ⟨k + 1, by omega, by go_num, ?_, ?_, ?_, ?_, hgr⟩
          · rw [HVT.out, ← HN1.out] <;> first | rfl | (congr 1; omega) | (simp; done)
          · rw [← HN1.out] <;> first | rfl | (congr 1; omega) | (simp; done)
          · exact Lib.hid (fun z hz => by
             rw [HXK.out] at hz
             rcases List.mem_append.1 hz with h | h
             · exact hxr.out z h
             · rw [List.mem_singleton.1 h, HXG.out]; exact hx32)
          · rw [HVT.out, ← HN1.out, ← HM1.out]; exact hor
         case measure => first | (simp [intOf]; done) | (simp [intOf]; omega)
  · obtain rfl : k = l.length := by omega
    rw [List.take_length] at *
    obtain ⟨oa, om, oc, rfl⟩ := za4_ hor.out
    have hol : om = 5 * l.length / 8 := by have := zbS_ hor.out; rw [y9_] at this; exact this
    have HBP : Hid (w7_ 5 8 false l = if 5 ≤ 5 * l.length % 8 ∨ y3_ 32 l % 2 ^ (5 * l.length % 8) ≠ 0 then none else some (z1_ 256 (5 * l.length / 8) (y3_ 32 l / 2 ^ (5 * l.length % 8)))) := Lib.hid (by unfold w7_; rw [if_neg (by rw [zcS_ hxr.out]; simp), if_neg si_])
    have hNlt : 5 * l.length % 8 < 8 := Nat.mod_lt _ om_
    have hMlt : 5 * l.length / 8 ≤ 900000000 := by omega
    generalize 5 * l.length / 8 = M at *
    generalize 5 * l.length % 8 = N at *
    generalize y3_ 32 l = V at *
    subst hol
    clear hk hlt hxr
    rcases (by omega : N = 0 ∨ N = 1 ∨ N = 2 ∨ N = 3 ∨ N = 4 ∨ N = 5 ∨ N = 6 ∨ N = 7) with rfl | rfl | rfl | rfl | rfl | rfl | rfl | rfl
    · have HO : Hid (x1_ w.heap.size (.slice oa om oc) (z1_ 256 om V) wr) := Lib.hid (by have := hor.out; rwa [Nat.pow_zero, Nat.div_one] at this)
      have HN0 : Hid (w7_ 5 8 false l = some (z1_ 256 om V)) := Lib.hid (by rw [HBP.out]; rw [if_neg (by rw [Nat.pow_zero, Nat.mod_one]; omega), Nat.pow_zero, Nat.div_one])
      have HB0 := Lib.hid (y0_ hgr.out)
      rw [Nat.pow_zero, Nat.mod_one]
      clear hor hgr HBP
      go_wp2
      exact bodyPost_ret (v := .tuple #[.slice oa om oc, .int .i64 0]) (by simp [results, Tryz.results88, go_sem]) rfl ⟨zb1_ HN0.out HO.out, HB0.out⟩
    · by_cases hh : V % 2 ^ 1 = 0
      · have HO : Hid (x1_ w.heap.size (.slice oa om oc) (z1_ 256 om (V / 2 ^ 1)) wr) := Lib.hid hor.out
        have HN0 : Hid (w7_ 5 8 false l = some (z1_ 256 om (V / 2 ^ 1))) := Lib.hid (by rw [HBP.out, if_neg om_])
        have HB0 := Lib.hid (y0_ hgr.out)
        rw [hh]
        clear hor hgr HBP hh
        go_wp2
        exact bodyPost_ret (v := .tuple #[.slice oa om oc, .int .i64 0]) (by simp [results, Tryz.results88, go_sem]) rfl ⟨zb1_ HN0.out HO.out, HB0.out⟩
      · have HN0 : Hid (w7_ 5 8 false l = none) := Lib.hid (by rw [HBP.out, if_pos (.inr hh)])
        have HB0 := Lib.hid (y0_ hgr.out)
        clear hor hgr HBP
        generalize V % 2 ^ 1 = h at *
        have hh1 : (((h : Nat) : Int) == 0) = false := by simp; omega
        have hh2 : (((h : Nat) : Int) != 0) = true := by simp; omega
        go_wp2
        exact bodyPost_ret (v := .tuple #[.slice none 0 0, .int .i64 50]) (by simp [results, Tryz.results88, go_sem]) rfl ⟨zcf_ HN0.out, HB0.out⟩
    · by_cases hh : V % 2 ^ 2 = 0
      · have HO : Hid (x1_ w.heap.size (.slice oa om oc) (z1_ 256 om (V / 2 ^ 2)) wr) := Lib.hid hor.out
        have HN0 : Hid (w7_ 5 8 false l = some (z1_ 256 om (V / 2 ^ 2))) := Lib.hid (by rw [HBP.out, if_neg om_])
        have HB0 := Lib.hid (y0_ hgr.out)
        rw [hh]
        clear hor hgr HBP hh
        go_wp2
        exact bodyPost_ret (v := .tuple #[.slice oa om oc, .int .i64 0]) (by simp [results, Tryz.results88, go_sem]) rfl ⟨zb1_ HN0.out HO.out, HB0.out⟩
      · have HN0 : Hid (w7_ 5 8 false l = none) := Lib.hid (by rw [HBP.out, if_pos (.inr hh)])
        have HB0 := Lib.hid (y0_ hgr.out)
        clear hor hgr HBP
        generalize V % 2 ^ 2 = h at *
        have hh1 : (((h : Nat) : Int) == 0) = false := by simp; omega
        have hh2 : (((h : Nat) : Int) != 0) = true := by simp; omega
        go_wp2
        exact bodyPost_ret (v := .tuple #[.slice none 0 0, .int .i64 50]) (by simp [results, Tryz.results88, go_sem]) rfl ⟨zcf_ HN0.out, HB0.out⟩
    · by_cases hh : V % 2 ^ 3 = 0
      · have HO : Hid (x1_ w.heap.size (.slice oa om oc) (z1_ 256 om (V / 2 ^ 3)) wr) := Lib.hid hor.out
        have HN0 : Hid (w7_ 5 8 false l = some (z1_ 256 om (V / 2 ^ 3))) := Lib.hid (by rw [HBP.out, if_neg om_])
        have HB0 := Lib.hid (y0_ hgr.out)
        rw [hh]
        clear hor hgr HBP hh
        go_wp2
        exact bodyPost_ret (v := .tuple #[.slice oa om oc, .int .i64 0]) (by simp [results, Tryz.results88, go_sem]) rfl ⟨zb1_ HN0.out HO.out, HB0.out⟩
      · have HN0 : Hid (w7_ 5 8 false l = none) := Lib.hid (by rw [HBP.out, if_pos (.inr hh)])
        have HB0 := Lib.hid (y0_ hgr.out)
        clear hor hgr HBP
        generalize V % 2 ^ 3 = h at *
        have hh1 : (((h : Nat) : Int) == 0) = false := by simp; omega
        have hh2 : (((h : Nat) : Int) != 0) = true := by simp; omega
        go_wp2
        exact bodyPost_ret (v := .tuple #[.slice none 0 0, .int .i64 50]) (by simp [results, Tryz.results88, go_sem]) rfl ⟨zcf_ HN0.out, HB0.out⟩
    · by_cases hh : V % 2 ^ 4 = 0
      · have HO : Hid (x1_ w.heap.size (.slice oa om oc) (z1_ 256 om (V / 2 ^ 4)) wr) := Lib.hid hor.out
        have HN0 : Hid (w7_ 5 8 false l = some (z1_ 256 om (V / 2 ^ 4))) := Lib.hid (by rw [HBP.out, if_neg om_])
        have HB0 := Lib.hid (y0_ hgr.out)
        rw [hh]
        clear hor hgr HBP hh
        go_wp2
        exact bodyPost_ret (v := .tuple #[.slice oa om oc, .int .i64 0]) (by simp [results, Tryz.results88, go_sem]) rfl ⟨zb1_ HN0.out HO.out, HB0.out⟩
      · have HN0 : Hid (w7_ 5 8 false l = none) := Lib.hid (by rw [HBP.out, if_pos (.inr hh)])
        have HB0 := Lib.hid (y0_ hgr.out)
        clear hor hgr HBP
        generalize V % 2 ^ 4 = h at *
        have hh1 : (((h : Nat) : Int) == 0) = false := by simp; omega
        have hh2 : (((h : Nat) : Int) != 0) = true := by simp; omega
        go_wp2
        exact bodyPost_ret (v := .tuple #[.slice none 0 0, .int .i64 50]) (by simp [results, Tryz.results88, go_sem]) rfl ⟨zcf_ HN0.out, HB0.out⟩
    · have HN0 : Hid (w7_ 5 8 false l = none) := Lib.hid (by rw [HBP.out, if_pos (.inl om_)])
      have HB0 := Lib.hid (y0_ hgr.out)
      clear hor hgr HBP
      generalize V % 2 ^ 5 = h at *
      go_wp2
      exact bodyPost_ret (v := .tuple #[.slice none 0 0, .int .i64 50]) (by simp [results, Tryz.results88, go_sem]) rfl ⟨zcf_ HN0.out, HB0.out⟩
    · have HN0 : Hid (w7_ 5 8 false l = none) := Lib.hid (by rw [HBP.out, if_pos (.inl om_)])
      have HB0 := Lib.hid (y0_ hgr.out)
      clear hor hgr HBP
      generalize V % 2 ^ 6 = h at *
      go_wp2
      exact bodyPost_ret (v := .tuple #[.slice none 0 0, .int .i64 50]) (by simp [results, Tryz.results88, go_sem]) rfl ⟨zcf_ HN0.out, HB0.out⟩
    · have HN0 : Hid (w7_ 5 8 false l = none) := Lib.hid (by rw [HBP.out, if_pos (.inl om_)])
      have HB0 := Lib.hid (y0_ hgr.out)
      clear hor hgr HBP
      generalize V % 2 ^ 7 = h at *
      go_wp2
      exact bodyPost_ret (v := .tuple #[.slice none 0 0, .int .i64 50]) (by simp [results, Tryz.results88, go_sem]) rfl ⟨zcf_ HN0.out, HB0.out⟩
def oddP : PanicEntry := { v := .iface 76 (.agg #[]), recovered := false }
def RAt (R : Nat) (l : List UInt8) (w : World) : Prop := ∃ ad c, w.heap[R]? = some (.cells #[.slice ad l.length c] 80 (0, 0)) ∧ x8_ (.slice ad l.length c) l w
def zfD_ (R : Nat) (o : Option (List UInt8 × List UInt8)) (w : World) (e : Ending) (w' : World) : Prop :=
 GL [R] w w' ∧ match o with
 | none => e = .panicked [oddP]
 | some (a, r) => ∃ ad c, e = .returned (.slice ad a.length c) ∧ x8_ (.slice ad a.length c) a w' ∧ RAt R r w'
theorem zfE_ {R : Nat} {o : Option (List UInt8 × List UInt8)} {w w' : World} (h : o = none) (hg : GL [R] w w') : zfD_ R o w (.panicked [oddP]) w' := by
 subst h; exact ⟨hg, rfl⟩
theorem zgW_ {R : Nat} {o : Option (List UInt8 × List UInt8)} {w w' : World} {a r : List UInt8} {ad : Option Addr} {n c : Nat} (h : o = some (a, r)) (hg : GL [R] w w') (hn : n = a.length) (h1 : x8_ (.slice ad n c) a w') (h2 : RAt R r w') : zfD_ R o w (.returned (.slice ad n c)) w' := by
 subst h hn; exact ⟨hg, ad, c, rfl, h1, h2⟩
theorem zd1_ (R n : Nat) (N : Int) (hN : N = n) (l : List UInt8) (w : World) (h : RAt R l w) (hl : l.length ≤ 1000000000) (hn : n ≤ 1000000000) :
  Calls Tryz.prog 103 #[.pointer (some ⟨R, 0, none⟩), .int .i64 N] w (zfD_ R (q8_ n l) w) := by
 subst hN
 obtain ⟨ad, c, hR, hin⟩ := h
 have HR := Lib.hid hR
 have HIN := Lib.hid hin
 have f0 := z0_ hR 0
 have e0 := z8_ hR 0
 have hc : l.length ≤ c := by
  obtain ⟨a', c', e, hc', _⟩ := j6_ hin
  injection e with _ _ e3
  omega
 have HNE := Lib.hid (zgV_ hin hR si_)
 clear hin hR
 by_cases hn2 : n ≤ l.length
 · have HT : Hid (q8_ n l = some (l.take n, l.drop n)) := Lib.hid (by unfold q8_; rw [if_pos hn2])
   have n1 : (n : Int) ≤ l.length := by omega
   have n2 : (n : Int) ≤ c := by omega
   have HI2 := Lib.hid (zdH_ (c2 := n) HIN.out hn2 (Nat.le_refl _))
   have HI3 := Lib.hid (zgU_ HIN.out hn2)
   go_enter Tryz.func103, Tryz.ntmps103
   by_cases hcn : c = n
   · subst hcn
     obtain rfl : c = l.length := by omega
     rw [show l.length - l.length = 0 by omega, if_pos rfl] at HI3
     go_wp2_with fail
     refine bodyPost_ret (v := .slice ad l.length l.length) (by simp [results, Tryz.results103, go_sem]) rfl ?_
     have hg : GL [R] w (w.setCell ⟨R, 0, none⟩ (.slice ad 0 0)) := z2_ (y1_ _ _) (.inl si_) _
     refine zgW_ HT.out hg si_ (zcX_ HI2.out hg (fun G o c e hne => ?_)) ⟨ad, 0, ?_, ?_⟩
     · injection e with e1 _ e3
       subst e1
       exact HNE.out G o _ rfl (fun h0 => hne (by rw [h0]; simp))
     · have := z3_ HR.out 0 (.slice ad 0 0)
       simpa using this
     · rw [List.drop_length]
       exact zbQ_ rfl (Nat.le_refl _) (fun h => absurd rfl h)
   · rw [if_neg hcn] at HI3
     go_wp2_with fail
     refine bodyPost_ret (v := .slice ad n n) (by simp [results, Tryz.results103, go_sem]) rfl ?_
     have hg : GL [R] w (w.setCell ⟨R, 0, none⟩ (.slice (Option.map (fun x => x.add n) ad) (l.length - n) (c - n))) := z2_ (y1_ _ _) (.inl si_) _
     refine zgW_ HT.out hg (by rw [List.length_take]; omega) (zcX_ HI2.out hg (fun G o c e hne => ?_)) ⟨Option.map (fun x => x.add n) ad, c - n, ?_, ?_⟩
     · injection e with e1 _ e3
       subst e1
       exact HNE.out G o _ rfl (fun h0 => hne (by rw [h0]; simp))
     · have := z3_ HR.out 0 (.slice (Option.map (fun x => x.add n) ad) (l.length - n) (c - n))
       rw [List.length_drop]
       simpa using this
     · rw [List.length_drop]
       refine zcX_ HI3.out hg (fun G o c2 e hne => ?_)
       injection e with e1 _ e3
       obtain ⟨⟨G2, o2, s2⟩, rfl, e2⟩ := Option.map_eq_some_iff.1 e1
       have hs2 : s2 = none := by
        obtain ⟨a', c', e', hc', hb⟩ := j6_ HIN.out
        injection e' with e1'
        obtain ⟨G', o', e2', _⟩ := hb (fun h0 => hne (by rw [h0]; simp))
        rw [← e1'] at e2'
        simp at e2'
        exact e2'.2.2
       subst hs2
       have hG2 : G2 = G := by
        unfold Addr.add at e2
        split at e2 <;> simp_all
       subst hG2
       exact HNE.out G2 o2 c rfl (fun h0 => hne (by rw [h0]; simp))
 · have HT : Hid (q8_ n l = none) := Lib.hid (by unfold q8_; rw [if_neg hn2])
   have n1 : (l.length : Int) < n := by omega
   go_enter Tryz.func103, Tryz.ntmps103
   go_wp2_with fail
   exact ⟨rfl, zfE_ HT.out (y1_ _ _)⟩
theorem zd2_ {ad : Option Addr} {n c : Nat} {l : List UInt8} {w : World} (h : x8_ (.slice ad n c) l w) (h0 : l ≠ []) : ∃ G o, ad = some ⟨G, o, none⟩ ∧ n = l.length ∧ ∀ j, j < l.length → w.cell? ⟨G, o + j, none⟩ = some (.int .u8 (l.getD j 0).toNat) := by
 obtain ⟨a', c', e, hc', hb⟩ := j6_ h
 injection e with e1 e2 e3
 subst e1 e2 e3
 obtain ⟨G, o, hA, hB, hj⟩ := hb h0
 exact ⟨G, o, hA, rfl, hj⟩
theorem zgX_ {n : Nat} {l a r : List UInt8} (h : q8_ n l = some (a, r)) : a.length = n ∧ r.length ≤ l.length ∧ l = a ++ r := by
 obtain ⟨h1, h2⟩ := zff_ h
 subst h1
 exact ⟨h2, by simp, rfl⟩
theorem zjr_ (x y : Nat) (hx : x < 256) (hy : y < 32) : bits .or .i64 (IntKind.i64.wrap (IntKind.i64.wrap (x : Int) * 32)) (IntKind.i64.wrap (y : Int)) = ((x * 32 + y : Nat) : Int) := by
 have h := zfB_ (x * 32) y om_ om_
 have e := zfC_ x y 5 om_
 rw [show x * 2 ^ 5 = x * 32 by omega] at e
 rw [e] at h
 have e1 : IntKind.i64.wrap (x : Int) = x := by rw [IntKind.wrap_i64]; omega
 have e2 : IntKind.i64.wrap ((x : Int) * 32) = ((x * 32 : Nat) : Int) := by rw [IntKind.wrap_i64]; omega
 have e3 : IntKind.i64.wrap (y : Int) = y := by rw [IntKind.wrap_i64]; omega
 rw [e1, e2, e3, h]
theorem zfF_ {R : Nat} {l : List UInt8} {w w' : World} (h : RAt R l w) (hg : GL [] w w') : RAt R l w' := by
 obtain ⟨ad, c, h1, h2⟩ := h
 exact ⟨ad, c, x6_ h1 hg si_, za1_ h2 hg⟩
theorem zfG_ (R : Nat) (tag : UInt8) (l : List UInt8) (w : World) (h : RAt R l w) (hl : l.length ≤ 1000000000) (h32 : ∀ x ∈ l, x.toNat < 32) :
  Calls Tryz.prog 141 #[.pointer (some ⟨R, 0, none⟩), .int .u8 tag.toNat] w (zfD_ R (zaH_ tag l) w) := by
 have HH := Lib.hid h
 clear h
 cases ht : q8_ 3 l with
 | none =>
   have HT := Lib.hid ht
   have HF : Hid (zaH_ tag l = none) := Lib.hid (by unfold zaH_; rw [ht]; rfl)
   clear ht
   go_enter Tryz.func141, Tryz.ntmps141
   go_wp2_with fail
   refine (zd1_ R 3 3 rfl l _ HH.out hl om_).mono ?_
   rintro e w1 ⟨hg, hp⟩
   rw [HT.out] at hp
   have hp : e = .panicked [oddP] := hp
   subst hp
   go_wp2_with fail
   exact ⟨rfl, zfE_ HF.out hg⟩
 | some ar =>
   obtain ⟨a, r⟩ := ar
   obtain ⟨h1, h2, h3⟩ := zgX_ ht
   obtain ⟨t, u, v, rfl⟩ : ∃ t u v, a = [t, u, v] := by
    match a, h1 with
    | [t, u, v], _ => exact ⟨t, u, v, rfl⟩
   have hu := h32 u (by rw [h3]; simp)
   have hv := h32 v (by rw [h3]; simp)
   have HT := Lib.hid ht
   have HF : Hid (zaH_ tag l = if t = tag then q8_ (u.toNat * 32 + v.toNat) r else none) := Lib.hid (by unfold zaH_; rw [ht]; rfl)
   clear ht h3 h1
   go_enter Tryz.func141, Tryz.ntmps141
   go_wp2_with fail
   refine (zd1_ R 3 3 rfl l _ HH.out hl om_).mono ?_
   rintro e w1 ⟨hg, hp⟩
   rw [HT.out] at hp
   obtain ⟨ad, c, rfl, hin, hr⟩ := hp
   obtain ⟨G, o, rfl, _, hj⟩ := zd2_ hin si_
   have c0 := hj 0 si_
   have c1 := hj 1 si_
   have c2 := hj 2 si_
   have HG := Lib.hid hg
   have HR := Lib.hid hr
   have hr2 : r.length ≤ 1000000000 := by omega
   clear hin hj hg hr
   simp only [List.getD_cons_zero, List.getD_cons_succ] at c0 c1 c2
   rw [Nat.add_zero] at c0
   by_cases htt : t = tag
   · subst htt
     rw [if_pos rfl] at HF
     have hut := u.toNat_lt
     have hkl : u.toNat * 32 + v.toNat ≤ 1000000000 := by omega
     cases hq : q8_ (u.toNat * 32 + v.toNat) r with
     | none =>
       have HQ := Lib.hid hq
       clear hq
       go_wp2_with fail
       go_region_dies
       all_goals (refine (zd1_ R (u.toNat * 32 + v.toNat) _ (zjr_ _ _ hut hv) r _ (zfF_ HR.out (x9_ (y1_ _ _))) hr2 hkl).mono ?_; rintro e w2 ⟨hg2, hp2⟩; rw [HQ.out] at hp2; (have hp2 : e = .panicked [oddP] := hp2); subst hp2; go_wp2_with fail)
       all_goals exact ⟨rfl, zfE_ (HF.out.trans HQ.out) (y7_ hg2 (x9_ HG.out) si_)⟩
     | some ar =>
       obtain ⟨a, r2⟩ := ar
       have HQ := Lib.hid hq
       clear hq
       go_wp2_with fail
       go_region_with (go_at_call 103; refine (zd1_ R (u.toNat * 32 + v.toNat) _ (zjr_ _ _ hut hv) r _ (zfF_ HR.out (x9_ (y1_ _ _))) hr2 hkl).mono ?_; rintro e w2 ⟨hg2, hp2⟩; rw [HQ.out] at hp2; obtain ⟨ad2, c2, rfl, hin2, hr3⟩ := hp2)
       all_goals go_wp2_with fail
       all_goals exact bodyPost_ret (v := .slice ad2 a.length c2) (by simp [results, Tryz.results141, go_sem]) rfl (zgW_ (HF.out.trans HQ.out) (y7_ hg2 (x9_ HG.out) si_) rfl hin2 hr3)
   · rw [if_neg htt] at HF
     have hne : ((t.toNat : Nat) : Int) ≠ tag.toNat := fun h => htt (UInt8.toNat_inj.1 om_)
     have hne1 : (((t.toNat : Nat) : Int) != tag.toNat) = true := by simp; omega
     have hne2 : (((t.toNat : Nat) : Int) == tag.toNat) = false := by simp; omega
     clear htt hne
     go_wp2_with fail
     exact ⟨rfl, zfE_ HF.out HG.out⟩
def NumO (l : List UInt8) (w : World) (e : Ending) (w' : World) : Prop := w' = w ∧ e = if 7 < l.length then .panicked [oddP] else .returned (.int .i64 (y3_ 32 l : Nat))
theorem zoS_ (V x : Nat) (hV : V < 1073741824) (hx : x < 32) : bits .or .i64 ((V : Int) * 32) (x : Int) = ((V * 32 + x : Nat) : Int) := by
 have h := zfB_ (V * 32) x om_ om_
 have e := zfC_ V x 5 om_
 rw [show V * 2 ^ 5 = V * 32 by omega] at e
 rw [e] at h
 rw [← h]
 congr 1
theorem zgZ_ (l : List UInt8) (p : Option Addr) (ad : Option Addr) (n c : Nat) (w : World) (hin : x8_ (.slice ad n c) l w) (h32 : ∀ x ∈ l, x.toNat < 32) (hl : l.length ≤ 1000000000) :
  Calls Tryz.prog 102 #[.pointer p, .slice ad n c] w (NumO l w) := by
 have hn : n = l.length := by
  obtain ⟨a', c', e, hc', hb⟩ := j6_ hin
  injection e
 subst hn
 by_cases h7 : 7 < l.length
 · have HE : Hid (∀ w' e, w' = w → e = .panicked [oddP] → NumO l w e w') := Lib.hid (fun w' e h1 h2 => ⟨h1, by rw [if_pos h7]; exact h2⟩)
   have n1 : (7 : Int) < l.length := by omega
   clear h7 hin
   go_enter Tryz.func102, Tryz.ntmps102
   go_wp2_with fail
   exact ⟨rfl, HE.out _ _ rfl rfl⟩
 · have HE : Hid (∀ w' v, w' = w → v = (y3_ 32 l : Nat) → NumO l w (.returned (.int .i64 v)) w') := Lib.hid (fun w' e h1 h2 => ⟨h1, by rw [if_neg h7, h2]⟩)
   have n1 : (l.length : Int) ≤ 7 := by omega
   have HIN := Lib.hid hin
   clear h7 hin
   go_enter Tryz.func102, Tryz.ntmps102
   go_wp2_with fail
   go_loopw [4, 6, 14] (fun nv _ iv wr => ∃ i : Nat, i ≤ l.length ∧ iv = .int .i64 i ∧ nv = .int .i64 (y3_ 32 (l.take i) : Nat) ∧ Hid (wr = w)) (fun _ _ iv _ => l.length - (intOf iv).toNat)
   case atStart => exact ⟨0, by omega, rfl, by simp [ze9_], Lib.hid rfl⟩
   case round =>
    obtain ⟨i, hi, rfl, rfl, hw⟩ := hrel
    have hww := hw.out
    subst hww
    by_cases hlt : i < l.length
    · have i1 : (i : Int) < l.length := by omega
      obtain ⟨G, o, rfl, _, hj⟩ := zd2_ HIN.out (by intro h; rw [h] at hlt; simp at hlt)
      have hx := h32 (l.getD i 0) (by rw [List.getD_eq_getElem?_getD, List.getElem?_eq_getElem hlt]; exact List.getElem_mem hlt)
      have cj := hj i hlt
      have HV := Lib.hid (zeF_ 32 l i hlt)
      have hV : y3_ 32 (l.take i) < 1073741824 := by
       have := zcR_ (b := 32) (l.take i) (fun x hx => h32 x (List.mem_of_mem_take hx))
       have h2 : (l.take i).length ≤ 6 := by rw [List.length_take]; omega
       exact Nat.lt_of_lt_of_le this (Nat.le_trans (Nat.pow_le_pow_right om_ h2) de_)
      have hor := zoS_ _ _ hV hx
      generalize y3_ 32 (l.take i) = V at *
      generalize (l.getD i 0).toNat = x at *
      clear hj
      go_wp2_with fail
      exact ⟨⟨i + 1, by omega, by go_num, by rw [HV.out]; go_num, Lib.hid trivial⟩, by simp [intOf]; omega⟩
    · obtain rfl : i = l.length := by omega
      have HT : Hid (y3_ 32 (l.take l.length) = y3_ 32 l) := Lib.hid (by rw [List.take_length])
      generalize y3_ 32 (l.take l.length) = V at *
      clear hlt
      go_wp2_with fail
      exact bodyPost_ret (v := .int .i64 (V : Nat)) (by simp [results, Tryz.results102, go_sem]) rfl (HE.out _ _ rfl (by rw [HT.out]))
def DgtO (R : Nat) (o : Option (Nat × List UInt8)) (w : World) (e : Ending) (w' : World) : Prop :=
 GL [R] w w' ∧ match o with
 | none => e = .panicked [oddP]
 | some (n, r) => e = .returned (.int .i64 (n : Nat)) ∧ RAt R r w'
theorem zg1_ {R : Nat} {o : Option (Nat × List UInt8)} {w w' : World} (h : o = none) (hg : GL [R] w w') : DgtO R o w (.panicked [oddP]) w' := by
 subst h; exact ⟨hg, rfl⟩
theorem zjs_ {R : Nat} {o : Option (Nat × List UInt8)} {w w' : World} {n : Nat} {r : List UInt8} {v : Int} (h : o = some (n, r)) (hg : GL [R] w w') (hv : v = n) (h2 : RAt R r w') : DgtO R o w (.returned (.int .i64 v)) w' := by
 subst h hv; exact ⟨hg, rfl, h2⟩
theorem zjt_ (l : List UInt8) (h : l ≠ []) : (l.head? = some 0) = ((l.getD 0 0).toNat = 0) := by
 cases l with
 | nil => exact absurd rfl h
 | cons a r =>
   simp only [List.head?_cons, Option.some.injEq, List.getD_cons_zero, eq_iff_iff]
   constructor
   · rintro rfl; rfl
   · intro h; exact UInt8.toNat_inj.1 (by simpa using h)
theorem zfH_ {tag : UInt8} {l a r : List UInt8} (h : zaH_ tag l = some (a, r)) (h32 : ∀ x ∈ l, x.toNat < 32) : a.length + r.length ≤ l.length ∧ (∀ x ∈ a, x.toNat < 32) ∧ (∀ x ∈ r, x.toNat < 32) := by
 obtain ⟨rfl, _⟩ := zgs_ h h32
 refine ⟨by simp [y5_]; omega, fun x hx => h32 x ?_, fun x hx => h32 x ?_⟩ <;> simp [y5_, hx]
theorem zfI_ (R : Nat) (tag : UInt8) (T : Int) (hT : T = tag.toNat) (l : List UInt8) (w : World) (h : RAt R l w) (hl : l.length ≤ 1000000000) (h32 : ∀ x ∈ l, x.toNat < 32) :
  Calls Tryz.prog 105 #[.pointer (some ⟨R, 0, none⟩), .int .u8 T] w (DgtO R (k5_ tag l) w) := by
 subst hT
 have HH := Lib.hid h
 clear h
 cases hf : zaH_ tag l with
 | none =>
   have HF := Lib.hid hf
   have HD : Hid (k5_ tag l = none) := Lib.hid (by unfold k5_; rw [hf]; rfl)
   clear hf
   go_enter Tryz.func105, Tryz.ntmps105
   go_wp2_with fail
   refine (zfG_ R tag l _ HH.out hl h32).mono ?_
   rintro e w1 ⟨hg, hp⟩
   rw [HF.out] at hp
   have hp : e = .panicked [oddP] := hp
   subst hp
   go_wp2_with fail
   exact ⟨rfl, zg1_ HD.out hg⟩
 | some ar =>
   obtain ⟨a, r⟩ := ar
   obtain ⟨h1, h2, h3⟩ := zfH_ hf h32
   have HF := Lib.hid hf
   have HD : Hid (k5_ tag l = if a.head? = some 0 ∨ 7 < a.length then none else some (y3_ 32 a, r)) := Lib.hid (by unfold k5_; rw [hf]; rfl)
   have hal : a.length ≤ 1000000000 := by omega
   clear hf
   go_enter Tryz.func105, Tryz.ntmps105
   go_wp2_with fail
   refine (zfG_ R tag l _ HH.out hl h32).mono ?_
   rintro e w1 ⟨hg, hp⟩
   rw [HF.out] at hp
   obtain ⟨ad, c, rfl, hin, hr⟩ := hp
   have HG := Lib.hid hg
   have HR := Lib.hid hr
   have HIN := Lib.hid hin
   clear hg hr hin
   by_cases ha : a = []
   · subst ha
     rw [if_neg si_] at HD
     go_wp2_with fail
     refine (zgZ_ [] _ _ _ _ _ HIN.out si_ si_).mono ?_
     rintro e w2 ⟨rfl, he⟩
     rw [if_neg si_] at he
     subst he
     go_wp2_with fail
     exact bodyPost_ret (v := .int .i64 (y3_ 32 [] : Nat)) (by simp [results, Tryz.results105, go_sem]) rfl (zjs_ HD.out HG.out rfl HR.out)
   · obtain ⟨G, o, rfl, _, hj⟩ := zd2_ HIN.out ha
     have hpos := List.length_pos_iff.2 ha
     have c0 := hj 0 hpos
     rw [Nat.add_zero] at c0
     have a1 : (0 : Int) < a.length := by omega
     have HD : Hid (k5_ tag l = if (a.getD 0 0).toNat = 0 ∨ 7 < a.length then none else some (y3_ 32 a, r)) := Lib.hid (by rw [HD.out]; simp only [zjt_ a ha])
     generalize (a.getD 0 0).toNat = x at *
     clear hj
     by_cases hx : x = 0
     · subst hx
       rw [if_pos (.inl rfl)] at HD
       go_wp2_with fail
       exact ⟨rfl, zg1_ HD.out HG.out⟩
     · have hx1 : (((x : Nat) : Int) == 0) = false := by simp; omega
       have HX : Hid (x ≠ 0) := Lib.hid hx
       clear hx
       go_wp2_with fail
       refine (zgZ_ a _ _ _ _ _ HIN.out h2 hal).mono ?_
       rintro e w2 ⟨rfl, he⟩
       by_cases h7 : 7 < a.length
       · rw [if_pos h7] at he
         rw [if_pos (.inr h7)] at HD
         subst he
         clear h7
         go_wp2_with fail
         exact ⟨rfl, zg1_ HD.out HG.out⟩
       · rw [if_neg h7] at he
         rw [if_neg (by simp only [not_or]; exact ⟨HX.out, h7⟩)] at HD
         subst he
         clear h7
         go_wp2_with fail
         exact bodyPost_ret (v := .int .i64 (y3_ 32 a : Nat)) (by simp [results, Tryz.results105, go_sem]) rfl (zjs_ HD.out HG.out rfl HR.out)
def TxtO (R : Nat) (o : Option (List UInt8 × List UInt8)) (w : World) (e : Ending) (w' : World) : Prop :=
 GL [R] w w' ∧ match o with
 | none => e = .panicked [oddP]
 | some (n, r) => e = .returned (.string (bs n)) ∧ RAt R r w'
theorem zju_ {R : Nat} {o : Option (List UInt8 × List UInt8)} {w w' : World} (h : o = none) (hg : GL [R] w w') : TxtO R o w (.panicked [oddP]) w' := by
 subst h; exact ⟨hg, rfl⟩
theorem zoT_ {R : Nat} {o : Option (List UInt8 × List UInt8)} {w w' : World} {n r : List UInt8} (h : o = some (n, r)) (hg : GL [R] w w') (h2 : RAt R r w') : TxtO R o w (.returned (.string (bs n))) w' := by
 subst h; exact ⟨hg, rfl, h2⟩
theorem zoU_ {R : Nat} {l : List UInt8} {w w' : World} (h : RAt R l w) (hg : Below w.heap.size w w') : RAt R l w' := zfF_ h (y6_ hg (y1_ _ _))
theorem zdl_ (R : Nat) (tag : UInt8) (T : Int) (hT : T = tag.toNat) (l : List UInt8) (w : World) (h : RAt R l w) (hl : l.length ≤ 100000000) (h32 : ∀ x ∈ l, x.toNat < 32) :
  Calls Tryz.prog 104 #[.pointer (some ⟨R, 0, none⟩), .int .u8 T] w (TxtO R (v2_ tag l) w) := by
 subst hT
 have HH := Lib.hid h
 clear h
 cases hf : zaH_ tag l with
 | none =>
   have HF := Lib.hid hf
   have HD : Hid (v2_ tag l = none) := Lib.hid (by unfold v2_; rw [hf]; rfl)
   clear hf
   go_enter Tryz.func104, Tryz.ntmps104
   go_wp2_with fail
   refine (zfG_ R tag l _ HH.out om_ h32).mono ?_
   rintro e w1 ⟨hg, hp⟩
   rw [HF.out] at hp
   have hp : e = .panicked [oddP] := hp
   subst hp
   go_wp2_with fail
   exact ⟨rfl, zju_ HD.out hg⟩
 | some ar =>
   obtain ⟨a, r⟩ := ar
   obtain ⟨h1, h2, h3⟩ := zfH_ hf h32
   have HF := Lib.hid hf
   have HD : Hid (v2_ tag l = (w7_ 5 8 false a).bind fun b => some (b, r)) := Lib.hid (by unfold v2_; rw [hf]; rfl)
   have hal : a.length ≤ 100000000 := by omega
   clear hf
   go_enter Tryz.func104, Tryz.ntmps104
   go_wp2_with fail
   refine (zfG_ R tag l _ HH.out om_ h32).mono ?_
   rintro e w1 ⟨hg, hp⟩
   rw [HF.out] at hp
   obtain ⟨ad, c, rfl, hin, hr⟩ := hp
   have HG := Lib.hid hg
   have HR := Lib.hid hr
   have HIN := Lib.hid hin
   clear hg hr hin
   go_wp2_with fail
   refine (zoR_ a _ _ HIN.out hal).mono ?_
   rintro e w2 ⟨he, hb⟩
   have HG2 : Hid (GL [R] w w2) := Lib.hid (y6_ hb HG.out)
   have HR2 := Lib.hid (zoU_ HR.out hb)
   cases hq : w7_ 5 8 false a with
   | none =>
     rw [hq] at he HD
     have he : e = .returned (.tuple #[.slice none 0 0, .int .i64 50]) := he
     subst he
     clear hq hb
     go_wp2_with fail
     exact ⟨rfl, zju_ HD.out HG2.out⟩
   | some b =>
     rw [hq] at he HD
     obtain ⟨ad2, c2, rfl, hown⟩ := he
     have hcv := zeE_ 9 Tryz.underlying9 _ b w2 (zaT_ hown).1
     clear hq hb hown
     go_wp2_with fail
     exact bodyPost_ret (v := .string (bs b)) (by simp [results, Tryz.results104, go_sem]) rfl (zoT_ HD.out HG2.out HR2.out)
end Go.Proofs.YtembdkodajichaaGreatDoor
