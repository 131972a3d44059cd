/- The reference of layer 7: amounts read. -/
import Derived.Test.YtembdkodajichaaGreatDoorR7W
set_option maxRecDepth 100000
set_option maxHeartbeats 4000000
set_option linter.unusedSimpArgs false
set_option linter.unusedVariables false
namespace Go.Proofs.YtembdkodajichaaGreatDoor
open Go.RowKit
theorem zc4_ {d : List UInt8} {U i : Nat} (hi : i < d.length) (h : k6_ / U / 10 < x2_ (d.take i)) : k6_ / U < x2_ d := by
 have h1 := zcE_ hi
 have h2 := zkf_ d (i + 1)
 omega
theorem zc5_ {d : List UInt8} {U i : Nat} (h : k6_ / U < x2_ (d.take (i + 1))) : k6_ / U < x2_ d := by
 have h2 := zkf_ d (i + 1)
 omega
theorem zc6_ {d : List UInt8} (h : d.all x7_ = true) {i : Nat} (hi : i < d.length) : 48 ≤ (d[i]).toNat ∧ (d[i]).toNat ≤ 57 := by
 have := List.all_eq_true.1 h d[i] (List.getElem_mem hi)
 simpa [x7_] using this
theorem zaQ_ {s d : List UInt8} {c : UInt8} (h : s = d ++ [c]) : (1 : Int) ≤ s.length ∧ s.isEmpty = false ∧ s.take (s.length - 1) = d ∧ d.length ≤ s.length ∧
  ∀ W, (Instr.index 9 (.string (bs s)) (.int .i64 ((s.length : Int) - 1))).run Tryz.prog W = .ok (.int .u8 (c.toNat : Nat)) W := by
 subst h
 refine ⟨by simp; omega, by simp, by simp, by simp, fun W => ?_⟩
 have h := zag_ W .i64 (d ++ [c]) d.length si_
 rw [show (((d ++ [c]).length : Int) - 1) = (d.length : Int) by simp, h]
 simp
theorem zf1_ {d : List UInt8} (h : d ≠ []) : (1 : Int) ≤ d.length ∧ ∀ W, (Instr.index 9 (.string (bs d)) (.int .i64 ((d.length : Int) - 1))).run Tryz.prog W = .ok (.int .u8 ((d.getD (d.length - 1) 0).toNat : Nat)) W := by
 have hlen : 0 < d.length := List.length_pos_iff.2 h
 refine ⟨by omega, fun W => ?_⟩
 have h := zag_ W .i64 d (d.length - 1) om_
 rw [show ((d.length - 1 : Nat) : Int) = (d.length : Int) - 1 by omega] at h
 exact h
theorem zso_ (s d : List UInt8) (hs : s.length ≤ 1000000) (HS : Hid (s = d ++ [109])) (HX : Hid (z5_ s = (0, 70))) (HWW : Hid (q3_ d = false)) (w : World) :
  Calls Tryz.prog 13 #[.string (bs s)] w fun e w' => e = .returned (.tuple #[.int .i64 (z5_ s).1, .int .i64 (z5_ s).2]) ∧ w' = w := by
 obtain ⟨hlen1, hem, hdl0, hdl1, hix⟩ := zaQ_ HS.out
 have HDL := Lib.hid hdl0
 have hdl : d.length ≤ 1000000 := by omega
 rw [show (((109 : UInt8).toNat : Nat) : Int) = 109 from rfl] at hix
 clear hdl0 hdl1
 go_enter Tryz.func13, Tryz.ntmps13
 go_wp2_with fail
 rw [HDL.out]
 refine (zal_ d hdl w).mono ?_
 rintro e w1 ⟨rfl, rfl⟩
 rw [HWW.out]
 go_wp2_with fail
 exact bodyPost_ret (v := .tuple #[.int .i64 0, .int .i64 70]) (by simp [results, Tryz.results13, go_sem]) rfl ⟨by rw [HX.out], rfl⟩
theorem zsp_ (s d : List UInt8) (hs : s.length ≤ 1000000) (HS : Hid (s = d ++ [109])) (HX : Hid (z5_ s = (0, 70))) (HWW : Hid (q3_ d = true)) (h3 : 3 < d.length) (H0 : Hid (d.drop (d.length - 3) = [48, 48, 48])) (w : World) :
  Calls Tryz.prog 13 #[.string (bs s)] w fun e w' => e = .returned (.tuple #[.int .i64 (z5_ s).1, .int .i64 (z5_ s).2]) ∧ w' = w := by
 obtain ⟨hlen1, hem, hdl0, hdl1, hix⟩ := zaQ_ HS.out
 have HDL := Lib.hid hdl0
 have hdl : d.length ≤ 1000000 := by omega
 rw [show (((109 : UInt8).toNat : Nat) : Int) = 109 from rfl] at hix
 clear hdl0 hdl1
 have h31 : decide ((3 : Int) < d.length) = true := by simp; omega
 have h32 : (3 : Int) < d.length := by omega
 have hz2 : List.take (d.length - (d.length - 3)) (List.drop (d.length - 3) d) = [48, 48, 48] := by rw [H0.out]; exact List.take_of_length_le so_
 have hz : (List.take (d.length - (d.length - 3)) (List.drop (d.length - 3) d) == [48, 48, 48]) = true := by rw [hz2]; rfl
 go_enter Tryz.func13, Tryz.ntmps13
 go_wp2_with fail
 rw [HDL.out]
 refine (zal_ d hdl w).mono ?_
 rintro e w1 ⟨rfl, rfl⟩
 rw [HWW.out]
 go_wp2_with fail
 exact bodyPost_ret (v := .tuple #[.int .i64 0, .int .i64 70]) (by simp [results, Tryz.results13, go_sem]) rfl ⟨by rw [HX.out], rfl⟩
theorem zsq_ (s d : List UInt8) (hs : s.length ≤ 1000000) (HS : Hid (s = d ++ [109])) (HWW : Hid (q3_ d = true)) (h3 : 3 < d.length) (H0 : Hid (d.drop (d.length - 3) ≠ [48, 48, 48])) (HV : Hid (z5_ s = zaZ_ 100000000 d)) (w : World) :
  Calls Tryz.prog 13 #[.string (bs s)] w fun e w' => e = .returned (.tuple #[.int .i64 (z5_ s).1, .int .i64 (z5_ s).2]) ∧ w' = w := by
 obtain ⟨hlen1, hem, hdl0, hdl1, hix⟩ := zaQ_ HS.out
 have HDL := Lib.hid hdl0
 have hdl : d.length ≤ 1000000 := by omega
 rw [show (((109 : UInt8).toNat : Nat) : Int) = 109 from rfl] at hix
 clear hdl0 hdl1
 have h31 : decide ((3 : Int) < d.length) = true := by simp; omega
 have h32 : (3 : Int) < d.length := by omega
 have hz3 : List.take (d.length - (d.length - 3)) (List.drop (d.length - 3) d) = d.drop (d.length - 3) := List.take_of_length_le si_
 have hz2 : ¬ List.take (d.length - (d.length - 3)) (List.drop (d.length - 3) d) = [48, 48, 48] := by rw [hz3]; exact H0.out
 have hz : (List.take (d.length - (d.length - 3)) (List.drop (d.length - 3) d) == [48, 48, 48]) = false := by simpa using hz2
 clear hz3
 have HWD := HWW
 go_enter Tryz.func13, Tryz.ntmps13
 go_wp2_with fail
 rw [HDL.out]
 refine (zal_ d hdl w).mono ?_
 rintro e w1 ⟨rfl, rfl⟩
 rw [HWW.out]
 go_wp2_with fail
 refine (zal_ d hdl w1).mono ?_
 rintro e w2 ⟨rfl, rfl⟩
 rw [HWD.out]
 have HAL := Lib.hid (za9_ HWD.out).2.1
 go_wp2_with fail
 go_loopw [7, 8] (fun nv iv wr => ∃ (i N : Nat), i ≤ d.length ∧ iv = .int .i64 i ∧ nv = .int .i64 N ∧ N ≤ 21000000000 ∧ Hid (N = x2_ (d.take i)) ∧ Hid (wr = w2)) (fun _ iv _ => d.length - (intOf iv).toNat)
 case atStart => exact ⟨0, 0, by omega, rfl, rfl, by omega, Lib.hid rfl, Lib.hid rfl⟩
 case round =>
  obtain ⟨i, N, hi, rfl, rfl, hN, HN, hw⟩ := hrel
  obtain rfl := hw.out
  clear hw
  have hi0 : (0 : Int) ≤ i := by omega
  by_cases hlt : i < d.length
  · have hix : ∀ W, (Instr.index 9 (.string (bs d)) (.int .i64 (i : Int))).run Tryz.prog W = .ok (.int .u8 ((d[i]).toNat : Nat)) W := fun W => by rw [zag_ W .i64 d i hlt, zak_ hlt]
    obtain ⟨g0, g1⟩ := zc6_ HAL.out hlt
    have HT := Lib.hid (zcE_ hlt)
    by_cases hb : 2100000000 < N
    · have HX : Hid (z5_ s = (0, 40)) := Lib.hid (by rw [HV.out]; exact if_pos (zc4_ hlt (by rw [← HN.out]; exact hb)))
      have hb1 : decide ((2100000000 : Int) < N) = true := by simp; omega
      clear HT HN
      go_wp2_with fail
      exact bodyPost_ret (v := .tuple #[.int .i64 0, .int .i64 40]) (by simp [results, Tryz.results13, go_sem]) rfl ⟨by rw [HX.out], rfl⟩
    · have hb1 : decide ((2100000000 : Int) < N) = false := by simp; omega
      have hb3 : (N : Int) ≤ 2100000000 := by omega
      rw [← HN.out] at HT
      have g2 : (48 : Int) ≤ (d[i]).toNat := by omega
      have g3 : ((d[i]).toNat : Int) ≤ 57 := by omega
      by_cases hb2 : 21000000000 < N * 10 + ((d[i]).toNat - 48)
      · have HX : Hid (z5_ s = (0, 40)) := Lib.hid (by rw [HV.out]; exact if_pos (zc5_ (i := i) (by rw [HT.out]; exact hb2)))
        have hb4 : decide ((21000000000 : Int) < (N : Int) * 10 + (((d[i]).toNat : Int) - 48)) = true := by simp; omega
        clear HT HN
        generalize (d[i]).toNat = c1 at *
        go_wp2_with fail
        exact bodyPost_ret (v := .tuple #[.int .i64 0, .int .i64 40]) (by simp [results, Tryz.results13, go_sem]) rfl ⟨by rw [HX.out], rfl⟩
      · have HN2 : Hid (N * 10 + ((d[i]).toNat - 48) = x2_ (d.take (i + 1))) := Lib.hid HT.out.symm
        have hb4 : decide ((21000000000 : Int) < (N : Int) * 10 + (((d[i]).toNat : Int) - 48)) = false := by simp; omega
        clear HT HN
        generalize (d[i]).toNat = c1 at *
        go_wp2_with fail
        exact ⟨⟨i + 1, N * 10 + (c1 - 48), by omega, by go_num, by go_num, by omega, HN2, by first | exact Lib.hid rfl | exact Lib.hid trivial⟩, by simp [intOf]; omega⟩
  · obtain rfl : i = d.length := by omega
    have HX : Hid (z5_ s = (((N * 100000000 : Nat) : Int), 0)) := Lib.hid (by
     have h := HN.out
     rw [List.take_length] at h
     rw [HV.out]
     unfold zaZ_
     rw [← h]
     exact if_neg (by rw [show k6_ / 100000000 = 21000000000 by decide]; omega))
    clear HN HAL HWD HV
    go_wp2_with fail
    exact bodyPost_ret (v := .tuple #[.int .i64 ((N : Int) * 100000000), .int .i64 0]) (by simp [results, Tryz.results13, go_sem]) rfl ⟨by rw [HX.out]; simp, rfl⟩
theorem zsr_ (s d : List UInt8) (hs : s.length ≤ 1000000) (HS : Hid (s = d ++ [109])) (HWW : Hid (q3_ d = true)) (h3 : ¬ 3 < d.length) (HV : Hid (z5_ s = zaZ_ 100000000 d)) (w : World) :
  Calls Tryz.prog 13 #[.string (bs s)] w fun e w' => e = .returned (.tuple #[.int .i64 (z5_ s).1, .int .i64 (z5_ s).2]) ∧ w' = w := by
 obtain ⟨hlen1, hem, hdl0, hdl1, hix⟩ := zaQ_ HS.out
 have HDL := Lib.hid hdl0
 have hdl : d.length ≤ 1000000 := by omega
 rw [show (((109 : UInt8).toNat : Nat) : Int) = 109 from rfl] at hix
 clear hdl0 hdl1
 have h31 : decide ((3 : Int) < d.length) = false := by simp; omega
 have h32 : ¬ (3 : Int) < d.length := by omega
 have HWD := HWW
 go_enter Tryz.func13, Tryz.ntmps13
 go_wp2_with fail
 rw [HDL.out]
 refine (zal_ d hdl w).mono ?_
 rintro e w1 ⟨rfl, rfl⟩
 rw [HWW.out]
 go_wp2_with fail
 refine (zal_ d hdl w1).mono ?_
 rintro e w2 ⟨rfl, rfl⟩
 rw [HWD.out]
 have HAL := Lib.hid (za9_ HWD.out).2.1
 go_wp2_with fail
 go_loopw [7, 8] (fun nv iv wr => ∃ (i N : Nat), i ≤ d.length ∧ iv = .int .i64 i ∧ nv = .int .i64 N ∧ N ≤ 21000000000 ∧ Hid (N = x2_ (d.take i)) ∧ Hid (wr = w2)) (fun _ iv _ => d.length - (intOf iv).toNat)
 case atStart => exact ⟨0, 0, by omega, rfl, rfl, by omega, Lib.hid rfl, Lib.hid rfl⟩
 case round =>
  obtain ⟨i, N, hi, rfl, rfl, hN, HN, hw⟩ := hrel
  obtain rfl := hw.out
  clear hw
  have hi0 : (0 : Int) ≤ i := by omega
  by_cases hlt : i < d.length
  · have hix : ∀ W, (Instr.index 9 (.string (bs d)) (.int .i64 (i : Int))).run Tryz.prog W = .ok (.int .u8 ((d[i]).toNat : Nat)) W := fun W => by rw [zag_ W .i64 d i hlt, zak_ hlt]
    obtain ⟨g0, g1⟩ := zc6_ HAL.out hlt
    have HT := Lib.hid (zcE_ hlt)
    by_cases hb : 2100000000 < N
    · have HX : Hid (z5_ s = (0, 40)) := Lib.hid (by rw [HV.out]; exact if_pos (zc4_ hlt (by rw [← HN.out]; exact hb)))
      have hb1 : decide ((2100000000 : Int) < N) = true := by simp; omega
      clear HT HN
      go_wp2_with fail
      exact bodyPost_ret (v := .tuple #[.int .i64 0, .int .i64 40]) (by simp [results, Tryz.results13, go_sem]) rfl ⟨by rw [HX.out], rfl⟩
    · have hb1 : decide ((2100000000 : Int) < N) = false := by simp; omega
      have hb3 : (N : Int) ≤ 2100000000 := by omega
      rw [← HN.out] at HT
      have g2 : (48 : Int) ≤ (d[i]).toNat := by omega
      have g3 : ((d[i]).toNat : Int) ≤ 57 := by omega
      by_cases hb2 : 21000000000 < N * 10 + ((d[i]).toNat - 48)
      · have HX : Hid (z5_ s = (0, 40)) := Lib.hid (by rw [HV.out]; exact if_pos (zc5_ (i := i) (by rw [HT.out]; exact hb2)))
        have hb4 : decide ((21000000000 : Int) < (N : Int) * 10 + (((d[i]).toNat : Int) - 48)) = true := by simp; omega
        clear HT HN
        generalize (d[i]).toNat = c1 at *
        go_wp2_with fail
        exact bodyPost_ret (v := .tuple #[.int .i64 0, .int .i64 40]) (by simp [results, Tryz.results13, go_sem]) rfl ⟨by rw [HX.out], rfl⟩
      · have HN2 : Hid (N * 10 + ((d[i]).toNat - 48) = x2_ (d.take (i + 1))) := Lib.hid HT.out.symm
        have hb4 : decide ((21000000000 : Int) < (N : Int) * 10 + (((d[i]).toNat : Int) - 48)) = false := by simp; omega
        clear HT HN
        generalize (d[i]).toNat = c1 at *
        go_wp2_with fail
        exact ⟨⟨i + 1, N * 10 + (c1 - 48), by omega, by go_num, by go_num, by omega, HN2, by first | exact Lib.hid rfl | exact Lib.hid trivial⟩, by simp [intOf]; omega⟩
  · obtain rfl : i = d.length := by omega
    have HX : Hid (z5_ s = (((N * 100000000 : Nat) : Int), 0)) := Lib.hid (by
     have h := HN.out
     rw [List.take_length] at h
     rw [HV.out]
     unfold zaZ_
     rw [← h]
     exact if_neg (by rw [show k6_ / 100000000 = 21000000000 by decide]; omega))
    clear HN HAL HWD HV
    go_wp2_with fail
    exact bodyPost_ret (v := .tuple #[.int .i64 ((N : Int) * 100000000), .int .i64 0]) (by simp [results, Tryz.results13, go_sem]) rfl ⟨by rw [HX.out]; simp, rfl⟩
theorem zss_ (s d : List UInt8) (hs : s.length ≤ 1000000) (HS : Hid (s = d ++ [117])) (HX : Hid (z5_ s = (0, 70))) (HWW : Hid (q3_ d = false)) (w : World) :
  Calls Tryz.prog 13 #[.string (bs s)] w fun e w' => e = .returned (.tuple #[.int .i64 (z5_ s).1, .int .i64 (z5_ s).2]) ∧ w' = w := by
 obtain ⟨hlen1, hem, hdl0, hdl1, hix⟩ := zaQ_ HS.out
 have HDL := Lib.hid hdl0
 have hdl : d.length ≤ 1000000 := by omega
 rw [show (((117 : UInt8).toNat : Nat) : Int) = 117 from rfl] at hix
 clear hdl0 hdl1
 go_enter Tryz.func13, Tryz.ntmps13
 go_wp2_with fail
 rw [HDL.out]
 refine (zal_ d hdl w).mono ?_
 rintro e w1 ⟨rfl, rfl⟩
 rw [HWW.out]
 go_wp2_with fail
 exact bodyPost_ret (v := .tuple #[.int .i64 0, .int .i64 70]) (by simp [results, Tryz.results13, go_sem]) rfl ⟨by rw [HX.out], rfl⟩
theorem zst_ (s d : List UInt8) (hs : s.length ≤ 1000000) (HS : Hid (s = d ++ [117])) (HX : Hid (z5_ s = (0, 70))) (HWW : Hid (q3_ d = true)) (h3 : 3 < d.length) (H0 : Hid (d.drop (d.length - 3) = [48, 48, 48])) (w : World) :
  Calls Tryz.prog 13 #[.string (bs s)] w fun e w' => e = .returned (.tuple #[.int .i64 (z5_ s).1, .int .i64 (z5_ s).2]) ∧ w' = w := by
 obtain ⟨hlen1, hem, hdl0, hdl1, hix⟩ := zaQ_ HS.out
 have HDL := Lib.hid hdl0
 have hdl : d.length ≤ 1000000 := by omega
 rw [show (((117 : UInt8).toNat : Nat) : Int) = 117 from rfl] at hix
 clear hdl0 hdl1
 have h31 : decide ((3 : Int) < d.length) = true := by simp; omega
 have h32 : (3 : Int) < d.length := by omega
 have hz2 : List.take (d.length - (d.length - 3)) (List.drop (d.length - 3) d) = [48, 48, 48] := by rw [H0.out]; exact List.take_of_length_le so_
 have hz : (List.take (d.length - (d.length - 3)) (List.drop (d.length - 3) d) == [48, 48, 48]) = true := by rw [hz2]; rfl
 go_enter Tryz.func13, Tryz.ntmps13
 go_wp2_with fail
 rw [HDL.out]
 refine (zal_ d hdl w).mono ?_
 rintro e w1 ⟨rfl, rfl⟩
 rw [HWW.out]
 go_wp2_with fail
 exact bodyPost_ret (v := .tuple #[.int .i64 0, .int .i64 70]) (by simp [results, Tryz.results13, go_sem]) rfl ⟨by rw [HX.out], rfl⟩
theorem zsu_ (s d : List UInt8) (hs : s.length ≤ 1000000) (HS : Hid (s = d ++ [117])) (HWW : Hid (q3_ d = true)) (h3 : 3 < d.length) (H0 : Hid (d.drop (d.length - 3) ≠ [48, 48, 48])) (HV : Hid (z5_ s = zaZ_ 100000 d)) (w : World) :
  Calls Tryz.prog 13 #[.string (bs s)] w fun e w' => e = .returned (.tuple #[.int .i64 (z5_ s).1, .int .i64 (z5_ s).2]) ∧ w' = w := by
 obtain ⟨hlen1, hem, hdl0, hdl1, hix⟩ := zaQ_ HS.out
 have HDL := Lib.hid hdl0
 have hdl : d.length ≤ 1000000 := by omega
 rw [show (((117 : UInt8).toNat : Nat) : Int) = 117 from rfl] at hix
 clear hdl0 hdl1
 have h31 : decide ((3 : Int) < d.length) = true := by simp; omega
 have h32 : (3 : Int) < d.length := by omega
 have hz3 : List.take (d.length - (d.length - 3)) (List.drop (d.length - 3) d) = d.drop (d.length - 3) := List.take_of_length_le si_
 have hz2 : ¬ List.take (d.length - (d.length - 3)) (List.drop (d.length - 3) d) = [48, 48, 48] := by rw [hz3]; exact H0.out
 have hz : (List.take (d.length - (d.length - 3)) (List.drop (d.length - 3) d) == [48, 48, 48]) = false := by simpa using hz2
 clear hz3
 have HWD := HWW
 go_enter Tryz.func13, Tryz.ntmps13
 go_wp2_with fail
 rw [HDL.out]
 refine (zal_ d hdl w).mono ?_
 rintro e w1 ⟨rfl, rfl⟩
 rw [HWW.out]
 go_wp2_with fail
 refine (zal_ d hdl w1).mono ?_
 rintro e w2 ⟨rfl, rfl⟩
 rw [HWD.out]
 have HAL := Lib.hid (za9_ HWD.out).2.1
 go_wp2_with fail
 go_loopw [7, 8] (fun nv iv wr => ∃ (i N : Nat), i ≤ d.length ∧ iv = .int .i64 i ∧ nv = .int .i64 N ∧ N ≤ 21000000000000 ∧ Hid (N = x2_ (d.take i)) ∧ Hid (wr = w2)) (fun _ iv _ => d.length - (intOf iv).toNat)
 case atStart => exact ⟨0, 0, by omega, rfl, rfl, by omega, Lib.hid rfl, Lib.hid rfl⟩
 case round =>
  obtain ⟨i, N, hi, rfl, rfl, hN, HN, hw⟩ := hrel
  obtain rfl := hw.out
  clear hw
  have hi0 : (0 : Int) ≤ i := by omega
  by_cases hlt : i < d.length
  · have hix : ∀ W, (Instr.index 9 (.string (bs d)) (.int .i64 (i : Int))).run Tryz.prog W = .ok (.int .u8 ((d[i]).toNat : Nat)) W := fun W => by rw [zag_ W .i64 d i hlt, zak_ hlt]
    obtain ⟨g0, g1⟩ := zc6_ HAL.out hlt
    have HT := Lib.hid (zcE_ hlt)
    by_cases hb : 2100000000000 < N
    · have HX : Hid (z5_ s = (0, 40)) := Lib.hid (by rw [HV.out]; exact if_pos (zc4_ hlt (by rw [← HN.out]; exact hb)))
      have hb1 : decide ((2100000000000 : Int) < N) = true := by simp; omega
      clear HT HN
      go_wp2_with fail
      exact bodyPost_ret (v := .tuple #[.int .i64 0, .int .i64 40]) (by simp [results, Tryz.results13, go_sem]) rfl ⟨by rw [HX.out], rfl⟩
    · have hb1 : decide ((2100000000000 : Int) < N) = false := by simp; omega
      have hb3 : (N : Int) ≤ 2100000000000 := by omega
      rw [← HN.out] at HT
      have g2 : (48 : Int) ≤ (d[i]).toNat := by omega
      have g3 : ((d[i]).toNat : Int) ≤ 57 := by omega
      by_cases hb2 : 21000000000000 < N * 10 + ((d[i]).toNat - 48)
      · have HX : Hid (z5_ s = (0, 40)) := Lib.hid (by rw [HV.out]; exact if_pos (zc5_ (i := i) (by rw [HT.out]; exact hb2)))
        have hb4 : decide ((21000000000000 : Int) < (N : Int) * 10 + (((d[i]).toNat : Int) - 48)) = true := by simp; omega
        clear HT HN
        generalize (d[i]).toNat = c1 at *
        go_wp2_with fail
        exact bodyPost_ret (v := .tuple #[.int .i64 0, .int .i64 40]) (by simp [results, Tryz.results13, go_sem]) rfl ⟨by rw [HX.out], rfl⟩
      · have HN2 : Hid (N * 10 + ((d[i]).toNat - 48) = x2_ (d.take (i + 1))) := Lib.hid HT.out.symm
        have hb4 : decide ((21000000000000 : Int) < (N : Int) * 10 + (((d[i]).toNat : Int) - 48)) = false := by simp; omega
        clear HT HN
        generalize (d[i]).toNat = c1 at *
        go_wp2_with fail
        exact ⟨⟨i + 1, N * 10 + (c1 - 48), by omega, by go_num, by go_num, by omega, HN2, by first | exact Lib.hid rfl | exact Lib.hid trivial⟩, by simp [intOf]; omega⟩
  · obtain rfl : i = d.length := by omega
    have HX : Hid (z5_ s = (((N * 100000 : Nat) : Int), 0)) := Lib.hid (by
     have h := HN.out
     rw [List.take_length] at h
     rw [HV.out]
     unfold zaZ_
     rw [← h]
     exact if_neg (by rw [show k6_ / 100000 = 21000000000000 by decide]; omega))
    clear HN HAL HWD HV
    go_wp2_with fail
    exact bodyPost_ret (v := .tuple #[.int .i64 ((N : Int) * 100000), .int .i64 0]) (by simp [results, Tryz.results13, go_sem]) rfl ⟨by rw [HX.out]; simp, rfl⟩
theorem zsv_ (s d : List UInt8) (hs : s.length ≤ 1000000) (HS : Hid (s = d ++ [117])) (HWW : Hid (q3_ d = true)) (h3 : ¬ 3 < d.length) (HV : Hid (z5_ s = zaZ_ 100000 d)) (w : World) :
  Calls Tryz.prog 13 #[.string (bs s)] w fun e w' => e = .returned (.tuple #[.int .i64 (z5_ s).1, .int .i64 (z5_ s).2]) ∧ w' = w := by
 obtain ⟨hlen1, hem, hdl0, hdl1, hix⟩ := zaQ_ HS.out
 have HDL := Lib.hid hdl0
 have hdl : d.length ≤ 1000000 := by omega
 rw [show (((117 : UInt8).toNat : Nat) : Int) = 117 from rfl] at hix
 clear hdl0 hdl1
 have h31 : decide ((3 : Int) < d.length) = false := by simp; omega
 have h32 : ¬ (3 : Int) < d.length := by omega
 have HWD := HWW
 go_enter Tryz.func13, Tryz.ntmps13
 go_wp2_with fail
 rw [HDL.out]
 refine (zal_ d hdl w).mono ?_
 rintro e w1 ⟨rfl, rfl⟩
 rw [HWW.out]
 go_wp2_with fail
 refine (zal_ d hdl w1).mono ?_
 rintro e w2 ⟨rfl, rfl⟩
 rw [HWD.out]
 have HAL := Lib.hid (za9_ HWD.out).2.1
 go_wp2_with fail
 go_loopw [7, 8] (fun nv iv wr => ∃ (i N : Nat), i ≤ d.length ∧ iv = .int .i64 i ∧ nv = .int .i64 N ∧ N ≤ 21000000000000 ∧ Hid (N = x2_ (d.take i)) ∧ Hid (wr = w2)) (fun _ iv _ => d.length - (intOf iv).toNat)
 case atStart => exact ⟨0, 0, by omega, rfl, rfl, by omega, Lib.hid rfl, Lib.hid rfl⟩
 case round =>
  obtain ⟨i, N, hi, rfl, rfl, hN, HN, hw⟩ := hrel
  obtain rfl := hw.out
  clear hw
  have hi0 : (0 : Int) ≤ i := by omega
  by_cases hlt : i < d.length
  · have hix : ∀ W, (Instr.index 9 (.string (bs d)) (.int .i64 (i : Int))).run Tryz.prog W = .ok (.int .u8 ((d[i]).toNat : Nat)) W := fun W => by rw [zag_ W .i64 d i hlt, zak_ hlt]
    obtain ⟨g0, g1⟩ := zc6_ HAL.out hlt
    have HT := Lib.hid (zcE_ hlt)
    by_cases hb : 2100000000000 < N
    · have HX : Hid (z5_ s = (0, 40)) := Lib.hid (by rw [HV.out]; exact if_pos (zc4_ hlt (by rw [← HN.out]; exact hb)))
      have hb1 : decide ((2100000000000 : Int) < N) = true := by simp; omega
      clear HT HN
      go_wp2_with fail
      exact bodyPost_ret (v := .tuple #[.int .i64 0, .int .i64 40]) (by simp [results, Tryz.results13, go_sem]) rfl ⟨by rw [HX.out], rfl⟩
    · have hb1 : decide ((2100000000000 : Int) < N) = false := by simp; omega
      have hb3 : (N : Int) ≤ 2100000000000 := by omega
      rw [← HN.out] at HT
      have g2 : (48 : Int) ≤ (d[i]).toNat := by omega
      have g3 : ((d[i]).toNat : Int) ≤ 57 := by omega
      by_cases hb2 : 21000000000000 < N * 10 + ((d[i]).toNat - 48)
      · have HX : Hid (z5_ s = (0, 40)) := Lib.hid (by rw [HV.out]; exact if_pos (zc5_ (i := i) (by rw [HT.out]; exact hb2)))
        have hb4 : decide ((21000000000000 : Int) < (N : Int) * 10 + (((d[i]).toNat : Int) - 48)) = true := by simp; omega
        clear HT HN
        generalize (d[i]).toNat = c1 at *
        go_wp2_with fail
        exact bodyPost_ret (v := .tuple #[.int .i64 0, .int .i64 40]) (by simp [results, Tryz.results13, go_sem]) rfl ⟨by rw [HX.out], rfl⟩
      · have HN2 : Hid (N * 10 + ((d[i]).toNat - 48) = x2_ (d.take (i + 1))) := Lib.hid HT.out.symm
        have hb4 : decide ((21000000000000 : Int) < (N : Int) * 10 + (((d[i]).toNat : Int) - 48)) = false := by simp; omega
        clear HT HN
        generalize (d[i]).toNat = c1 at *
        go_wp2_with fail
        exact ⟨⟨i + 1, N * 10 + (c1 - 48), by omega, by go_num, by go_num, by omega, HN2, by first | exact Lib.hid rfl | exact Lib.hid trivial⟩, by simp [intOf]; omega⟩
  · obtain rfl : i = d.length := by omega
    have HX : Hid (z5_ s = (((N * 100000 : Nat) : Int), 0)) := Lib.hid (by
     have h := HN.out
     rw [List.take_length] at h
     rw [HV.out]
     unfold zaZ_
     rw [← h]
     exact if_neg (by rw [show k6_ / 100000 = 21000000000000 by decide]; omega))
    clear HN HAL HWD HV
    go_wp2_with fail
    exact bodyPost_ret (v := .tuple #[.int .i64 ((N : Int) * 100000), .int .i64 0]) (by simp [results, Tryz.results13, go_sem]) rfl ⟨by rw [HX.out]; simp, rfl⟩
theorem zsw_ (s d : List UInt8) (hs : s.length ≤ 1000000) (HS : Hid (s = d ++ [110])) (HX : Hid (z5_ s = (0, 70))) (HWW : Hid (q3_ d = false)) (w : World) :
  Calls Tryz.prog 13 #[.string (bs s)] w fun e w' => e = .returned (.tuple #[.int .i64 (z5_ s).1, .int .i64 (z5_ s).2]) ∧ w' = w := by
 obtain ⟨hlen1, hem, hdl0, hdl1, hix⟩ := zaQ_ HS.out
 have HDL := Lib.hid hdl0
 have hdl : d.length ≤ 1000000 := by omega
 rw [show (((110 : UInt8).toNat : Nat) : Int) = 110 from rfl] at hix
 clear hdl0 hdl1
 go_enter Tryz.func13, Tryz.ntmps13
 go_wp2_with fail
 rw [HDL.out]
 refine (zal_ d hdl w).mono ?_
 rintro e w1 ⟨rfl, rfl⟩
 rw [HWW.out]
 go_wp2_with fail
 exact bodyPost_ret (v := .tuple #[.int .i64 0, .int .i64 70]) (by simp [results, Tryz.results13, go_sem]) rfl ⟨by rw [HX.out], rfl⟩
theorem zsx_ (s d : List UInt8) (hs : s.length ≤ 1000000) (HS : Hid (s = d ++ [110])) (HX : Hid (z5_ s = (0, 70))) (HWW : Hid (q3_ d = true)) (h3 : 3 < d.length) (H0 : Hid (d.drop (d.length - 3) = [48, 48, 48])) (w : World) :
  Calls Tryz.prog 13 #[.string (bs s)] w fun e w' => e = .returned (.tuple #[.int .i64 (z5_ s).1, .int .i64 (z5_ s).2]) ∧ w' = w := by
 obtain ⟨hlen1, hem, hdl0, hdl1, hix⟩ := zaQ_ HS.out
 have HDL := Lib.hid hdl0
 have hdl : d.length ≤ 1000000 := by omega
 rw [show (((110 : UInt8).toNat : Nat) : Int) = 110 from rfl] at hix
 clear hdl0 hdl1
 have h31 : decide ((3 : Int) < d.length) = true := by simp; omega
 have h32 : (3 : Int) < d.length := by omega
 have hz2 : List.take (d.length - (d.length - 3)) (List.drop (d.length - 3) d) = [48, 48, 48] := by rw [H0.out]; exact List.take_of_length_le so_
 have hz : (List.take (d.length - (d.length - 3)) (List.drop (d.length - 3) d) == [48, 48, 48]) = true := by rw [hz2]; rfl
 go_enter Tryz.func13, Tryz.ntmps13
 go_wp2_with fail
 rw [HDL.out]
 refine (zal_ d hdl w).mono ?_
 rintro e w1 ⟨rfl, rfl⟩
 rw [HWW.out]
 go_wp2_with fail
 exact bodyPost_ret (v := .tuple #[.int .i64 0, .int .i64 70]) (by simp [results, Tryz.results13, go_sem]) rfl ⟨by rw [HX.out], rfl⟩
theorem zsy_ (s d : List UInt8) (hs : s.length ≤ 1000000) (HS : Hid (s = d ++ [110])) (HWW : Hid (q3_ d = true)) (h3 : 3 < d.length) (H0 : Hid (d.drop (d.length - 3) ≠ [48, 48, 48])) (HV : Hid (z5_ s = zaZ_ 100 d)) (w : World) :
  Calls Tryz.prog 13 #[.string (bs s)] w fun e w' => e = .returned (.tuple #[.int .i64 (z5_ s).1, .int .i64 (z5_ s).2]) ∧ w' = w := by
 obtain ⟨hlen1, hem, hdl0, hdl1, hix⟩ := zaQ_ HS.out
 have HDL := Lib.hid hdl0
 have hdl : d.length ≤ 1000000 := by omega
 rw [show (((110 : UInt8).toNat : Nat) : Int) = 110 from rfl] at hix
 clear hdl0 hdl1
 have h31 : decide ((3 : Int) < d.length) = true := by simp; omega
 have h32 : (3 : Int) < d.length := by omega
 have hz3 : List.take (d.length - (d.length - 3)) (List.drop (d.length - 3) d) = d.drop (d.length - 3) := List.take_of_length_le si_
 have hz2 : ¬ List.take (d.length - (d.length - 3)) (List.drop (d.length - 3) d) = [48, 48, 48] := by rw [hz3]; exact H0.out
 have hz : (List.take (d.length - (d.length - 3)) (List.drop (d.length - 3) d) == [48, 48, 48]) = false := by simpa using hz2
 clear hz3
 have HWD := HWW
 go_enter Tryz.func13, Tryz.ntmps13
 go_wp2_with fail
 rw [HDL.out]
 refine (zal_ d hdl w).mono ?_
 rintro e w1 ⟨rfl, rfl⟩
 rw [HWW.out]
 go_wp2_with fail
 refine (zal_ d hdl w1).mono ?_
 rintro e w2 ⟨rfl, rfl⟩
 rw [HWD.out]
 have HAL := Lib.hid (za9_ HWD.out).2.1
 go_wp2_with fail
 go_loopw [7, 8] (fun nv iv wr => ∃ (i N : Nat), i ≤ d.length ∧ iv = .int .i64 i ∧ nv = .int .i64 N ∧ N ≤ 21000000000000000 ∧ Hid (N = x2_ (d.take i)) ∧ Hid (wr = w2)) (fun _ iv _ => d.length - (intOf iv).toNat)
 case atStart => exact ⟨0, 0, by omega, rfl, rfl, by omega, Lib.hid rfl, Lib.hid rfl⟩
 case round =>
  obtain ⟨i, N, hi, rfl, rfl, hN, HN, hw⟩ := hrel
  obtain rfl := hw.out
  clear hw
  have hi0 : (0 : Int) ≤ i := by omega
  by_cases hlt : i < d.length
  · have hix : ∀ W, (Instr.index 9 (.string (bs d)) (.int .i64 (i : Int))).run Tryz.prog W = .ok (.int .u8 ((d[i]).toNat : Nat)) W := fun W => by rw [zag_ W .i64 d i hlt, zak_ hlt]
    obtain ⟨g0, g1⟩ := zc6_ HAL.out hlt
    have HT := Lib.hid (zcE_ hlt)
    by_cases hb : 2100000000000000 < N
    · have HX : Hid (z5_ s = (0, 40)) := Lib.hid (by rw [HV.out]; exact if_pos (zc4_ hlt (by rw [← HN.out]; exact hb)))
      have hb1 : decide ((2100000000000000 : Int) < N) = true := by simp; omega
      clear HT HN
      go_wp2_with fail
      exact bodyPost_ret (v := .tuple #[.int .i64 0, .int .i64 40]) (by simp [results, Tryz.results13, go_sem]) rfl ⟨by rw [HX.out], rfl⟩
    · have hb1 : decide ((2100000000000000 : Int) < N) = false := by simp; omega
      have hb3 : (N : Int) ≤ 2100000000000000 := by omega
      rw [← HN.out] at HT
      have g2 : (48 : Int) ≤ (d[i]).toNat := by omega
      have g3 : ((d[i]).toNat : Int) ≤ 57 := by omega
      by_cases hb2 : 21000000000000000 < N * 10 + ((d[i]).toNat - 48)
      · have HX : Hid (z5_ s = (0, 40)) := Lib.hid (by rw [HV.out]; exact if_pos (zc5_ (i := i) (by rw [HT.out]; exact hb2)))
        have hb4 : decide ((21000000000000000 : Int) < (N : Int) * 10 + (((d[i]).toNat : Int) - 48)) = true := by simp; omega
        clear HT HN
        generalize (d[i]).toNat = c1 at *
        go_wp2_with fail
        exact bodyPost_ret (v := .tuple #[.int .i64 0, .int .i64 40]) (by simp [results, Tryz.results13, go_sem]) rfl ⟨by rw [HX.out], rfl⟩
      · have HN2 : Hid (N * 10 + ((d[i]).toNat - 48) = x2_ (d.take (i + 1))) := Lib.hid HT.out.symm
        have hb4 : decide ((21000000000000000 : Int) < (N : Int) * 10 + (((d[i]).toNat : Int) - 48)) = false := by simp; omega
        clear HT HN
        generalize (d[i]).toNat = c1 at *
        go_wp2_with fail
        exact ⟨⟨i + 1, N * 10 + (c1 - 48), by omega, by go_num, by go_num, by omega, HN2, by first | exact Lib.hid rfl | exact Lib.hid trivial⟩, by simp [intOf]; omega⟩
  · obtain rfl : i = d.length := by omega
    have HX : Hid (z5_ s = (((N * 100 : Nat) : Int), 0)) := Lib.hid (by
     have h := HN.out
     rw [List.take_length] at h
     rw [HV.out]
     unfold zaZ_
     rw [← h]
     exact if_neg (by rw [show k6_ / 100 = 21000000000000000 by decide]; omega))
    clear HN HAL HWD HV
    go_wp2_with fail
    exact bodyPost_ret (v := .tuple #[.int .i64 ((N : Int) * 100), .int .i64 0]) (by simp [results, Tryz.results13, go_sem]) rfl ⟨by rw [HX.out]; simp, rfl⟩
theorem zsz_ (s d : List UInt8) (hs : s.length ≤ 1000000) (HS : Hid (s = d ++ [110])) (HWW : Hid (q3_ d = true)) (h3 : ¬ 3 < d.length) (HV : Hid (z5_ s = zaZ_ 100 d)) (w : World) :
  Calls Tryz.prog 13 #[.string (bs s)] w fun e w' => e = .returned (.tuple #[.int .i64 (z5_ s).1, .int .i64 (z5_ s).2]) ∧ w' = w := by
 obtain ⟨hlen1, hem, hdl0, hdl1, hix⟩ := zaQ_ HS.out
 have HDL := Lib.hid hdl0
 have hdl : d.length ≤ 1000000 := by omega
 rw [show (((110 : UInt8).toNat : Nat) : Int) = 110 from rfl] at hix
 clear hdl0 hdl1
 have h31 : decide ((3 : Int) < d.length) = false := by simp; omega
 have h32 : ¬ (3 : Int) < d.length := by omega
 have HWD := HWW
 go_enter Tryz.func13, Tryz.ntmps13
 go_wp2_with fail
 rw [HDL.out]
 refine (zal_ d hdl w).mono ?_
 rintro e w1 ⟨rfl, rfl⟩
 rw [HWW.out]
 go_wp2_with fail
 refine (zal_ d hdl w1).mono ?_
 rintro e w2 ⟨rfl, rfl⟩
 rw [HWD.out]
 have HAL := Lib.hid (za9_ HWD.out).2.1
 go_wp2_with fail
 go_loopw [7, 8] (fun nv iv wr => ∃ (i N : Nat), i ≤ d.length ∧ iv = .int .i64 i ∧ nv = .int .i64 N ∧ N ≤ 21000000000000000 ∧ Hid (N = x2_ (d.take i)) ∧ Hid (wr = w2)) (fun _ iv _ => d.length - (intOf iv).toNat)
 case atStart => exact ⟨0, 0, by omega, rfl, rfl, by omega, Lib.hid rfl, Lib.hid rfl⟩
 case round =>
  obtain ⟨i, N, hi, rfl, rfl, hN, HN, hw⟩ := hrel
  obtain rfl := hw.out
  clear hw
  have hi0 : (0 : Int) ≤ i := by omega
  by_cases hlt : i < d.length
  · have hix : ∀ W, (Instr.index 9 (.string (bs d)) (.int .i64 (i : Int))).run Tryz.prog W = .ok (.int .u8 ((d[i]).toNat : Nat)) W := fun W => by rw [zag_ W .i64 d i hlt, zak_ hlt]
    obtain ⟨g0, g1⟩ := zc6_ HAL.out hlt
    have HT := Lib.hid (zcE_ hlt)
    by_cases hb : 2100000000000000 < N
    · have HX : Hid (z5_ s = (0, 40)) := Lib.hid (by rw [HV.out]; exact if_pos (zc4_ hlt (by rw [← HN.out]; exact hb)))
      have hb1 : decide ((2100000000000000 : Int) < N) = true := by simp; omega
      clear HT HN
      go_wp2_with fail
      exact bodyPost_ret (v := .tuple #[.int .i64 0, .int .i64 40]) (by simp [results, Tryz.results13, go_sem]) rfl ⟨by rw [HX.out], rfl⟩
    · have hb1 : decide ((2100000000000000 : Int) < N) = false := by simp; omega
      have hb3 : (N : Int) ≤ 2100000000000000 := by omega
      rw [← HN.out] at HT
      have g2 : (48 : Int) ≤ (d[i]).toNat := by omega
      have g3 : ((d[i]).toNat : Int) ≤ 57 := by omega
      by_cases hb2 : 21000000000000000 < N * 10 + ((d[i]).toNat - 48)
      · have HX : Hid (z5_ s = (0, 40)) := Lib.hid (by rw [HV.out]; exact if_pos (zc5_ (i := i) (by rw [HT.out]; exact hb2)))
        have hb4 : decide ((21000000000000000 : Int) < (N : Int) * 10 + (((d[i]).toNat : Int) - 48)) = true := by simp; omega
        clear HT HN
        generalize (d[i]).toNat = c1 at *
        go_wp2_with fail
        exact bodyPost_ret (v := .tuple #[.int .i64 0, .int .i64 40]) (by simp [results, Tryz.results13, go_sem]) rfl ⟨by rw [HX.out], rfl⟩
      · have HN2 : Hid (N * 10 + ((d[i]).toNat - 48) = x2_ (d.take (i + 1))) := Lib.hid HT.out.symm
        have hb4 : decide ((21000000000000000 : Int) < (N : Int) * 10 + (((d[i]).toNat : Int) - 48)) = false := by simp; omega
        clear HT HN
        generalize (d[i]).toNat = c1 at *
        go_wp2_with fail
        exact ⟨⟨i + 1, N * 10 + (c1 - 48), by omega, by go_num, by go_num, by omega, HN2, by first | exact Lib.hid rfl | exact Lib.hid trivial⟩, by simp [intOf]; omega⟩
  · obtain rfl : i = d.length := by omega
    have HX : Hid (z5_ s = (((N * 100 : Nat) : Int), 0)) := Lib.hid (by
     have h := HN.out
     rw [List.take_length] at h
     rw [HV.out]
     unfold zaZ_
     rw [← h]
     exact if_neg (by rw [show k6_ / 100 = 21000000000000000 by decide]; omega))
    clear HN HAL HWD HV
    go_wp2_with fail
    exact bodyPost_ret (v := .tuple #[.int .i64 ((N : Int) * 100), .int .i64 0]) (by simp [results, Tryz.results13, go_sem]) rfl ⟨by rw [HX.out]; simp, rfl⟩
theorem zsA_ (s d : List UInt8) (hs : s.length ≤ 1000000) (HS : Hid (s = d ++ [112])) (HX : Hid (z5_ s = (0, 70))) (HWW : Hid (q3_ d = false)) (w : World) :
  Calls Tryz.prog 13 #[.string (bs s)] w fun e w' => e = .returned (.tuple #[.int .i64 (z5_ s).1, .int .i64 (z5_ s).2]) ∧ w' = w := by
 obtain ⟨hlen1, hem, hdl0, hdl1, hix⟩ := zaQ_ HS.out
 have HDL := Lib.hid hdl0
 have hdl : d.length ≤ 1000000 := by omega
 rw [show (((112 : UInt8).toNat : Nat) : Int) = 112 from rfl] at hix
 clear hdl0 hdl1
 go_enter Tryz.func13, Tryz.ntmps13
 go_wp2_with fail
 rw [HDL.out]
 refine (zal_ d hdl w).mono ?_
 rintro e w1 ⟨rfl, rfl⟩
 rw [HWW.out]
 go_wp2_with fail
 exact bodyPost_ret (v := .tuple #[.int .i64 0, .int .i64 70]) (by simp [results, Tryz.results13, go_sem]) rfl ⟨by rw [HX.out], rfl⟩
theorem zsB_ (s d : List UInt8) (hs : s.length ≤ 1000000) (HS : Hid (s = d ++ [112])) (HX : Hid (z5_ s = (0, 70))) (HWW : Hid (q3_ d = true)) (h3 : 3 < d.length) (H0 : Hid (d.drop (d.length - 3) = [48, 48, 48])) (w : World) :
  Calls Tryz.prog 13 #[.string (bs s)] w fun e w' => e = .returned (.tuple #[.int .i64 (z5_ s).1, .int .i64 (z5_ s).2]) ∧ w' = w := by
 obtain ⟨hlen1, hem, hdl0, hdl1, hix⟩ := zaQ_ HS.out
 have HDL := Lib.hid hdl0
 have hdl : d.length ≤ 1000000 := by omega
 rw [show (((112 : UInt8).toNat : Nat) : Int) = 112 from rfl] at hix
 clear hdl0 hdl1
 have h31 : decide ((3 : Int) < d.length) = true := by simp; omega
 have h32 : (3 : Int) < d.length := by omega
 have hz2 : List.take (d.length - (d.length - 3)) (List.drop (d.length - 3) d) = [48, 48, 48] := by rw [H0.out]; exact List.take_of_length_le so_
 have hz : (List.take (d.length - (d.length - 3)) (List.drop (d.length - 3) d) == [48, 48, 48]) = true := by rw [hz2]; rfl
 go_enter Tryz.func13, Tryz.ntmps13
 go_wp2_with fail
 rw [HDL.out]
 refine (zal_ d hdl w).mono ?_
 rintro e w1 ⟨rfl, rfl⟩
 rw [HWW.out]
 go_wp2_with fail
 exact bodyPost_ret (v := .tuple #[.int .i64 0, .int .i64 70]) (by simp [results, Tryz.results13, go_sem]) rfl ⟨by rw [HX.out], rfl⟩
theorem zsC_ (s d : List UInt8) (hs : s.length ≤ 1000000) (HS : Hid (s = d ++ [112])) (HX : Hid (z5_ s = (0, 70))) (HWW : Hid (q3_ d = true)) (h3 : 3 < d.length) (H0 : Hid (d.drop (d.length - 3) ≠ [48, 48, 48])) (hl : (d.getD (d.length - 1) 0).toNat ≠ 48) (w : World) :
  Calls Tryz.prog 13 #[.string (bs s)] w fun e w' => e = .returned (.tuple #[.int .i64 (z5_ s).1, .int .i64 (z5_ s).2]) ∧ w' = w := by
 obtain ⟨hlen1, hem, hdl0, hdl1, hix⟩ := zaQ_ HS.out
 have HDL := Lib.hid hdl0
 have hdl : d.length ≤ 1000000 := by omega
 rw [show (((112 : UInt8).toNat : Nat) : Int) = 112 from rfl] at hix
 clear hdl0 hdl1
 have h31 : decide ((3 : Int) < d.length) = true := by simp; omega
 have h32 : (3 : Int) < d.length := by omega
 have hz3 : List.take (d.length - (d.length - 3)) (List.drop (d.length - 3) d) = d.drop (d.length - 3) := List.take_of_length_le si_
 have hz2 : ¬ List.take (d.length - (d.length - 3)) (List.drop (d.length - 3) d) = [48, 48, 48] := by rw [hz3]; exact H0.out
 have hz : (List.take (d.length - (d.length - 3)) (List.drop (d.length - 3) d) == [48, 48, 48]) = false := by simpa using hz2
 clear hz3
 obtain ⟨hd1, hixd⟩ := zf1_ (za9_ HWW.out).1
 generalize (d.getD (d.length - 1) 0).toNat = lc at *
 have hl1 : ((lc : Int) != 48) = true := by rw [bne_iff_ne]; omega
 go_enter Tryz.func13, Tryz.ntmps13
 go_wp2_with fail
 rw [HDL.out]
 refine (zal_ d hdl w).mono ?_
 rintro e w1 ⟨rfl, rfl⟩
 rw [HWW.out]
 go_wp2_with fail
 exact bodyPost_ret (v := .tuple #[.int .i64 0, .int .i64 70]) (by simp [results, Tryz.results13, go_sem]) rfl ⟨by rw [HX.out], rfl⟩
theorem zsD_ (s d : List UInt8) (hs : s.length ≤ 1000000) (HS : Hid (s = d ++ [112])) (HWW : Hid (q3_ d = true)) (h3 : 3 < d.length) (H0 : Hid (d.drop (d.length - 3) ≠ [48, 48, 48])) (hl : (d.getD (d.length - 1) 0).toNat = 48) (d2 : List UInt8) (HC : Hid (d.dropLast = d2)) (HWD : Hid (q3_ d2 = true)) (HV : Hid (z5_ s = zaZ_ 1 d2)) (w : World) :
  Calls Tryz.prog 13 #[.string (bs s)] w fun e w' => e = .returned (.tuple #[.int .i64 (z5_ s).1, .int .i64 (z5_ s).2]) ∧ w' = w := by
 obtain ⟨hlen1, hem, hdl0, hdl1, hix⟩ := zaQ_ HS.out
 have HDL := Lib.hid hdl0
 have hdl : d.length ≤ 1000000 := by omega
 rw [show (((112 : UInt8).toNat : Nat) : Int) = 112 from rfl] at hix
 clear hdl0 hdl1
 have h31 : decide ((3 : Int) < d.length) = true := by simp; omega
 have h32 : (3 : Int) < d.length := by omega
 have hz3 : List.take (d.length - (d.length - 3)) (List.drop (d.length - 3) d) = d.drop (d.length - 3) := List.take_of_length_le si_
 have hz2 : ¬ List.take (d.length - (d.length - 3)) (List.drop (d.length - 3) d) = [48, 48, 48] := by rw [hz3]; exact H0.out
 have hz : (List.take (d.length - (d.length - 3)) (List.drop (d.length - 3) d) == [48, 48, 48]) = false := by simpa using hz2
 clear hz3
 obtain ⟨hd1, hixd⟩ := zf1_ (za9_ HWW.out).1
 generalize (d.getD (d.length - 1) 0).toNat = lc at *
 have HD2 : Hid (d.take (d.length - 1) = d2) := Lib.hid (by rw [← HC.out]; exact (List.dropLast_eq_take (l := d)).symm)
 have hd2l : d2.length ≤ 1000000 := by rw [← HC.out, List.length_dropLast]; omega
 have hl1 : ((lc : Int) != 48) = false := by rw [bne_eq_false_iff_eq]; omega
 go_enter Tryz.func13, Tryz.ntmps13
 go_wp2_with fail
 rw [HDL.out]
 refine (zal_ d hdl w).mono ?_
 rintro e w1 ⟨rfl, rfl⟩
 rw [HWW.out]
 go_wp2_with fail
 rw [HD2.out]
 refine (zal_ d2 hd2l w1).mono ?_
 rintro e w2 ⟨rfl, rfl⟩
 rw [HWD.out]
 have HAL := Lib.hid (za9_ HWD.out).2.1
 go_wp2_with fail
 go_loopw [7, 8] (fun nv iv wr => ∃ (i N : Nat), i ≤ d2.length ∧ iv = .int .i64 i ∧ nv = .int .i64 N ∧ N ≤ 2100000000000000000 ∧ Hid (N = x2_ (d2.take i)) ∧ Hid (wr = w2)) (fun _ iv _ => d2.length - (intOf iv).toNat)
 case atStart => exact ⟨0, 0, by omega, rfl, rfl, by omega, Lib.hid rfl, Lib.hid rfl⟩
 case round =>
  obtain ⟨i, N, hi, rfl, rfl, hN, HN, hw⟩ := hrel
  obtain rfl := hw.out
  clear hw
  have hi0 : (0 : Int) ≤ i := by omega
  by_cases hlt : i < d2.length
  · have hix : ∀ W, (Instr.index 9 (.string (bs d2)) (.int .i64 (i : Int))).run Tryz.prog W = .ok (.int .u8 ((d2[i]).toNat : Nat)) W := fun W => by rw [zag_ W .i64 d2 i hlt, zak_ hlt]
    obtain ⟨g0, g1⟩ := zc6_ HAL.out hlt
    have HT := Lib.hid (zcE_ hlt)
    by_cases hb : 210000000000000000 < N
    · have HX : Hid (z5_ s = (0, 40)) := Lib.hid (by rw [HV.out]; exact if_pos (zc4_ hlt (by rw [← HN.out]; exact hb)))
      have hb1 : decide ((210000000000000000 : Int) < N) = true := by simp; omega
      clear HT HN
      go_wp2_with fail
      exact bodyPost_ret (v := .tuple #[.int .i64 0, .int .i64 40]) (by simp [results, Tryz.results13, go_sem]) rfl ⟨by rw [HX.out], rfl⟩
    · have hb1 : decide ((210000000000000000 : Int) < N) = false := by simp; omega
      have hb3 : (N : Int) ≤ 210000000000000000 := by omega
      rw [← HN.out] at HT
      have g2 : (48 : Int) ≤ (d2[i]).toNat := by omega
      have g3 : ((d2[i]).toNat : Int) ≤ 57 := by omega
      by_cases hb2 : 2100000000000000000 < N * 10 + ((d2[i]).toNat - 48)
      · have HX : Hid (z5_ s = (0, 40)) := Lib.hid (by rw [HV.out]; exact if_pos (zc5_ (i := i) (by rw [HT.out]; exact hb2)))
        have hb4 : decide ((2100000000000000000 : Int) < (N : Int) * 10 + (((d2[i]).toNat : Int) - 48)) = true := by simp; omega
        clear HT HN
        generalize (d2[i]).toNat = c1 at *
        go_wp2_with fail
        exact bodyPost_ret (v := .tuple #[.int .i64 0, .int .i64 40]) (by simp [results, Tryz.results13, go_sem]) rfl ⟨by rw [HX.out], rfl⟩
      · have HN2 : Hid (N * 10 + ((d2[i]).toNat - 48) = x2_ (d2.take (i + 1))) := Lib.hid HT.out.symm
        have hb4 : decide ((2100000000000000000 : Int) < (N : Int) * 10 + (((d2[i]).toNat : Int) - 48)) = false := by simp; omega
        clear HT HN
        generalize (d2[i]).toNat = c1 at *
        go_wp2_with fail
        exact ⟨⟨i + 1, N * 10 + (c1 - 48), by omega, by go_num, by go_num, by omega, HN2, by first | exact Lib.hid rfl | exact Lib.hid trivial⟩, by simp [intOf]; omega⟩
  · obtain rfl : i = d2.length := by omega
    have HX : Hid (z5_ s = (((N * 1 : Nat) : Int), 0)) := Lib.hid (by
     have h := HN.out
     rw [List.take_length] at h
     rw [HV.out]
     unfold zaZ_
     rw [← h]
     exact if_neg (by rw [show k6_ / 1 = 2100000000000000000 by decide]; omega))
    clear HN HAL HWD HV
    go_wp2_with fail
    exact bodyPost_ret (v := .tuple #[.int .i64 ((N : Int) * 1), .int .i64 0]) (by simp [results, Tryz.results13, go_sem]) rfl ⟨by rw [HX.out]; simp, rfl⟩
theorem zsE_ (s d : List UInt8) (hs : s.length ≤ 1000000) (HS : Hid (s = d ++ [112])) (HX : Hid (z5_ s = (0, 70))) (HWW : Hid (q3_ d = true)) (h3 : ¬ 3 < d.length) (hl : (d.getD (d.length - 1) 0).toNat ≠ 48) (w : World) :
  Calls Tryz.prog 13 #[.string (bs s)] w fun e w' => e = .returned (.tuple #[.int .i64 (z5_ s).1, .int .i64 (z5_ s).2]) ∧ w' = w := by
 obtain ⟨hlen1, hem, hdl0, hdl1, hix⟩ := zaQ_ HS.out
 have HDL := Lib.hid hdl0
 have hdl : d.length ≤ 1000000 := by omega
 rw [show (((112 : UInt8).toNat : Nat) : Int) = 112 from rfl] at hix
 clear hdl0 hdl1
 have h31 : decide ((3 : Int) < d.length) = false := by simp; omega
 have h32 : ¬ (3 : Int) < d.length := by omega
 obtain ⟨hd1, hixd⟩ := zf1_ (za9_ HWW.out).1
 generalize (d.getD (d.length - 1) 0).toNat = lc at *
 have hl1 : ((lc : Int) != 48) = true := by rw [bne_iff_ne]; omega
 go_enter Tryz.func13, Tryz.ntmps13
 go_wp2_with fail
 rw [HDL.out]
 refine (zal_ d hdl w).mono ?_
 rintro e w1 ⟨rfl, rfl⟩
 rw [HWW.out]
 go_wp2_with fail
 exact bodyPost_ret (v := .tuple #[.int .i64 0, .int .i64 70]) (by simp [results, Tryz.results13, go_sem]) rfl ⟨by rw [HX.out], rfl⟩
theorem zsF_ (s d : List UInt8) (hs : s.length ≤ 1000000) (HS : Hid (s = d ++ [112])) (HWW : Hid (q3_ d = true)) (h3 : ¬ 3 < d.length) (hl : (d.getD (d.length - 1) 0).toNat = 48) (d2 : List UInt8) (HC : Hid (d.dropLast = d2)) (HWD : Hid (q3_ d2 = true)) (HV : Hid (z5_ s = zaZ_ 1 d2)) (w : World) :
  Calls Tryz.prog 13 #[.string (bs s)] w fun e w' => e = .returned (.tuple #[.int .i64 (z5_ s).1, .int .i64 (z5_ s).2]) ∧ w' = w := by
 obtain ⟨hlen1, hem, hdl0, hdl1, hix⟩ := zaQ_ HS.out
 have HDL := Lib.hid hdl0
 have hdl : d.length ≤ 1000000 := by omega
 rw [show (((112 : UInt8).toNat : Nat) : Int) = 112 from rfl] at hix
 clear hdl0 hdl1
 have h31 : decide ((3 : Int) < d.length) = false := by simp; omega
 have h32 : ¬ (3 : Int) < d.length := by omega
 obtain ⟨hd1, hixd⟩ := zf1_ (za9_ HWW.out).1
 generalize (d.getD (d.length - 1) 0).toNat = lc at *
 have HD2 : Hid (d.take (d.length - 1) = d2) := Lib.hid (by rw [← HC.out]; exact (List.dropLast_eq_take (l := d)).symm)
 have hd2l : d2.length ≤ 1000000 := by rw [← HC.out, List.length_dropLast]; omega
 have hl1 : ((lc : Int) != 48) = false := by rw [bne_eq_false_iff_eq]; omega
 go_enter Tryz.func13, Tryz.ntmps13
 go_wp2_with fail
 rw [HDL.out]
 refine (zal_ d hdl w).mono ?_
 rintro e w1 ⟨rfl, rfl⟩
 rw [HWW.out]
 go_wp2_with fail
 rw [HD2.out]
 refine (zal_ d2 hd2l w1).mono ?_
 rintro e w2 ⟨rfl, rfl⟩
 rw [HWD.out]
 have HAL := Lib.hid (za9_ HWD.out).2.1
 go_wp2_with fail
 go_loopw [7, 8] (fun nv iv wr => ∃ (i N : Nat), i ≤ d2.length ∧ iv = .int .i64 i ∧ nv = .int .i64 N ∧ N ≤ 2100000000000000000 ∧ Hid (N = x2_ (d2.take i)) ∧ Hid (wr = w2)) (fun _ iv _ => d2.length - (intOf iv).toNat)
 case atStart => exact ⟨0, 0, by omega, rfl, rfl, by omega, Lib.hid rfl, Lib.hid rfl⟩
 case round =>
  obtain ⟨i, N, hi, rfl, rfl, hN, HN, hw⟩ := hrel
  obtain rfl := hw.out
  clear hw
  have hi0 : (0 : Int) ≤ i := by omega
  by_cases hlt : i < d2.length
  · have hix : ∀ W, (Instr.index 9 (.string (bs d2)) (.int .i64 (i : Int))).run Tryz.prog W = .ok (.int .u8 ((d2[i]).toNat : Nat)) W := fun W => by rw [zag_ W .i64 d2 i hlt, zak_ hlt]
    obtain ⟨g0, g1⟩ := zc6_ HAL.out hlt
    have HT := Lib.hid (zcE_ hlt)
    by_cases hb : 210000000000000000 < N
    · have HX : Hid (z5_ s = (0, 40)) := Lib.hid (by rw [HV.out]; exact if_pos (zc4_ hlt (by rw [← HN.out]; exact hb)))
      have hb1 : decide ((210000000000000000 : Int) < N) = true := by simp; omega
      clear HT HN
      go_wp2_with fail
      exact bodyPost_ret (v := .tuple #[.int .i64 0, .int .i64 40]) (by simp [results, Tryz.results13, go_sem]) rfl ⟨by rw [HX.out], rfl⟩
    · have hb1 : decide ((210000000000000000 : Int) < N) = false := by simp; omega
      have hb3 : (N : Int) ≤ 210000000000000000 := by omega
      rw [← HN.out] at HT
      have g2 : (48 : Int) ≤ (d2[i]).toNat := by omega
      have g3 : ((d2[i]).toNat : Int) ≤ 57 := by omega
      by_cases hb2 : 2100000000000000000 < N * 10 + ((d2[i]).toNat - 48)
      · have HX : Hid (z5_ s = (0, 40)) := Lib.hid (by rw [HV.out]; exact if_pos (zc5_ (i := i) (by rw [HT.out]; exact hb2)))
        have hb4 : decide ((2100000000000000000 : Int) < (N : Int) * 10 + (((d2[i]).toNat : Int) - 48)) = true := by simp; omega
        clear HT HN
        generalize (d2[i]).toNat = c1 at *
        go_wp2_with fail
        exact bodyPost_ret (v := .tuple #[.int .i64 0, .int .i64 40]) (by simp [results, Tryz.results13, go_sem]) rfl ⟨by rw [HX.out], rfl⟩
      · have HN2 : Hid (N * 10 + ((d2[i]).toNat - 48) = x2_ (d2.take (i + 1))) := Lib.hid HT.out.symm
        have hb4 : decide ((2100000000000000000 : Int) < (N : Int) * 10 + (((d2[i]).toNat : Int) - 48)) = false := by simp; omega
        clear HT HN
        generalize (d2[i]).toNat = c1 at *
        go_wp2_with fail
        exact ⟨⟨i + 1, N * 10 + (c1 - 48), by omega, by go_num, by go_num, by omega, HN2, by first | exact Lib.hid rfl | exact Lib.hid trivial⟩, by simp [intOf]; omega⟩
  · obtain rfl : i = d2.length := by omega
    have HX : Hid (z5_ s = (((N * 1 : Nat) : Int), 0)) := Lib.hid (by
     have h := HN.out
     rw [List.take_length] at h
     rw [HV.out]
     unfold zaZ_
     rw [← h]
     exact if_neg (by rw [show k6_ / 1 = 2100000000000000000 by decide]; omega))
    clear HN HAL HWD HV
    go_wp2_with fail
    exact bodyPost_ret (v := .tuple #[.int .i64 ((N : Int) * 1), .int .i64 0]) (by simp [results, Tryz.results13, go_sem]) rfl ⟨by rw [HX.out]; simp, rfl⟩
theorem zsG_ (s d : List UInt8) (c : UInt8) (hs : s.length ≤ 1000000) (HS : Hid (s = d ++ [c])) (hc : 48 ≤ c.toNat ∧ c.toNat ≤ 57) (HX : Hid (z5_ s = (0, 70))) (HWW : Hid (q3_ s = false)) (w : World) :
  Calls Tryz.prog 13 #[.string (bs s)] w fun e w' => e = .returned (.tuple #[.int .i64 (z5_ s).1, .int .i64 (z5_ s).2]) ∧ w' = w := by
 obtain ⟨hlen1, hem, hdl0, hdl1, hix⟩ := zaQ_ HS.out
 have HDL := Lib.hid hdl0
 have hdl : d.length ≤ 1000000 := by omega
 clear hdl0 hdl1
 have h1 : decide ((c.toNat : Int) < 48) = false := by simp; omega
 have h2 : decide ((57 : Int) < c.toNat) = false := by simp; omega
 generalize c.toNat = cn at *
 go_enter Tryz.func13, Tryz.ntmps13
 go_wp2_with fail
 refine (zal_ s hs w).mono ?_
 rintro e w1 ⟨rfl, rfl⟩
 rw [HWW.out]
 go_wp2_with fail
 exact bodyPost_ret (v := .tuple #[.int .i64 0, .int .i64 70]) (by simp [results, Tryz.results13, go_sem]) rfl ⟨by rw [HX.out], rfl⟩
theorem zsH_ (s d : List UInt8) (c : UInt8) (hs : s.length ≤ 1000000) (HS : Hid (s = d ++ [c])) (hc : 48 ≤ c.toNat ∧ c.toNat ≤ 57) (HV : Hid (z5_ s = zaZ_ 100000000000 s)) (HWD : Hid (q3_ s = true)) (w : World) :
  Calls Tryz.prog 13 #[.string (bs s)] w fun e w' => e = .returned (.tuple #[.int .i64 (z5_ s).1, .int .i64 (z5_ s).2]) ∧ w' = w := by
 obtain ⟨hlen1, hem, hdl0, hdl1, hix⟩ := zaQ_ HS.out
 have HDL := Lib.hid hdl0
 have hdl : d.length ≤ 1000000 := by omega
 clear hdl0 hdl1
 have h1 : decide ((c.toNat : Int) < 48) = false := by simp; omega
 have h2 : decide ((57 : Int) < c.toNat) = false := by simp; omega
 generalize c.toNat = cn at *
 go_enter Tryz.func13, Tryz.ntmps13
 go_wp2_with fail
 refine (zal_ s hs w).mono ?_
 rintro e w1 ⟨rfl, rfl⟩
 rw [HWD.out]
 have HAL := Lib.hid (za9_ HWD.out).2.1
 go_wp2_with fail
 go_loopw [7, 8] (fun nv iv wr => ∃ (i N : Nat), i ≤ s.length ∧ iv = .int .i64 i ∧ nv = .int .i64 N ∧ N ≤ 21000000 ∧ Hid (N = x2_ (s.take i)) ∧ Hid (wr = w1)) (fun _ iv _ => s.length - (intOf iv).toNat)
 case atStart => exact ⟨0, 0, by omega, rfl, rfl, by omega, Lib.hid rfl, Lib.hid rfl⟩
 case round =>
  obtain ⟨i, N, hi, rfl, rfl, hN, HN, hw⟩ := hrel
  obtain rfl := hw.out
  clear hw
  have hi0 : (0 : Int) ≤ i := by omega
  by_cases hlt : i < s.length
  · have hix : ∀ W, (Instr.index 9 (.string (bs s)) (.int .i64 (i : Int))).run Tryz.prog W = .ok (.int .u8 ((s[i]).toNat : Nat)) W := fun W => by rw [zag_ W .i64 s i hlt, zak_ hlt]
    obtain ⟨g0, g1⟩ := zc6_ HAL.out hlt
    have HT := Lib.hid (zcE_ hlt)
    by_cases hb : 2100000 < N
    · have HX : Hid (z5_ s = (0, 40)) := Lib.hid (by rw [HV.out]; exact if_pos (zc4_ hlt (by rw [← HN.out]; exact hb)))
      have hb1 : decide ((2100000 : Int) < N) = true := by simp; omega
      clear HT HN
      go_wp2_with fail
      exact bodyPost_ret (v := .tuple #[.int .i64 0, .int .i64 40]) (by simp [results, Tryz.results13, go_sem]) rfl ⟨by rw [HX.out], rfl⟩
    · have hb1 : decide ((2100000 : Int) < N) = false := by simp; omega
      have hb3 : (N : Int) ≤ 2100000 := by omega
      rw [← HN.out] at HT
      have g2 : (48 : Int) ≤ (s[i]).toNat := by omega
      have g3 : ((s[i]).toNat : Int) ≤ 57 := by omega
      by_cases hb2 : 21000000 < N * 10 + ((s[i]).toNat - 48)
      · have HX : Hid (z5_ s = (0, 40)) := Lib.hid (by rw [HV.out]; exact if_pos (zc5_ (i := i) (by rw [HT.out]; exact hb2)))
        have hb4 : decide ((21000000 : Int) < (N : Int) * 10 + (((s[i]).toNat : Int) - 48)) = true := by simp; omega
        clear HT HN
        generalize (s[i]).toNat = c1 at *
        go_wp2_with fail
        exact bodyPost_ret (v := .tuple #[.int .i64 0, .int .i64 40]) (by simp [results, Tryz.results13, go_sem]) rfl ⟨by rw [HX.out], rfl⟩
      · have HN2 : Hid (N * 10 + ((s[i]).toNat - 48) = x2_ (s.take (i + 1))) := Lib.hid HT.out.symm
        have hb4 : decide ((21000000 : Int) < (N : Int) * 10 + (((s[i]).toNat : Int) - 48)) = false := by simp; omega
        clear HT HN
        generalize (s[i]).toNat = c1 at *
        go_wp2_with fail
        exact ⟨⟨i + 1, N * 10 + (c1 - 48), by omega, by go_num, by go_num, by omega, HN2, by first | exact Lib.hid rfl | exact Lib.hid trivial⟩, by simp [intOf]; omega⟩
  · obtain rfl : i = s.length := by omega
    have HX : Hid (z5_ s = (((N * 100000000000 : Nat) : Int), 0)) := Lib.hid (by
     have h := HN.out
     rw [List.take_length] at h
     rw [HV.out]
     unfold zaZ_
     rw [← h]
     exact if_neg (by rw [show k6_ / 100000000000 = 21000000 by decide]; omega))
    clear HN HAL HWD HV
    go_wp2_with fail
    exact bodyPost_ret (v := .tuple #[.int .i64 ((N : Int) * 100000000000), .int .i64 0]) (by simp [results, Tryz.results13, go_sem]) rfl ⟨by rw [HX.out]; simp, rfl⟩
theorem zsI_ (s d : List UInt8) (c : UInt8) (hs : s.length ≤ 1000000) (HS : Hid (s = d ++ [c])) (hc : c.toNat < 48) (k1 : c.toNat ≠ 109) (k2 : c.toNat ≠ 117) (k3 : c.toNat ≠ 110) (k4 : c.toNat ≠ 112) (HX : Hid (z5_ s = (0, 70))) (w : World) :
  Calls Tryz.prog 13 #[.string (bs s)] w fun e w' => e = .returned (.tuple #[.int .i64 (z5_ s).1, .int .i64 (z5_ s).2]) ∧ w' = w := by
 obtain ⟨hlen1, hem, hdl0, hdl1, hix⟩ := zaQ_ HS.out
 have HDL := Lib.hid hdl0
 have hdl : d.length ≤ 1000000 := by omega
 clear hdl0 hdl1
 have h1 : decide ((c.toNat : Int) < 48) = true := by simp; omega
 have h2 : decide ((57 : Int) < c.toNat) = false := by simp; omega
 have q1 : ((c.toNat : Int) == 109) = false := by rw [beq_eq_false_iff_ne]; omega
 have q2 : ((c.toNat : Int) == 117) = false := by rw [beq_eq_false_iff_ne]; omega
 have q3 : ((c.toNat : Int) == 110) = false := by rw [beq_eq_false_iff_ne]; omega
 have q4 : ((c.toNat : Int) == 112) = false := by rw [beq_eq_false_iff_ne]; omega
 clear k1 k2 k3 k4
 generalize c.toNat = cn at *
 go_enter Tryz.func13, Tryz.ntmps13
 go_wp2_with fail
 exact bodyPost_ret (v := .tuple #[.int .i64 0, .int .i64 70]) (by simp [results, Tryz.results13, go_sem]) rfl ⟨by rw [HX.out], rfl⟩
theorem zsJ_ (s d : List UInt8) (c : UInt8) (hs : s.length ≤ 1000000) (HS : Hid (s = d ++ [c])) (hc : 57 < c.toNat) (k1 : c.toNat ≠ 109) (k2 : c.toNat ≠ 117) (k3 : c.toNat ≠ 110) (k4 : c.toNat ≠ 112) (HX : Hid (z5_ s = (0, 70))) (w : World) :
  Calls Tryz.prog 13 #[.string (bs s)] w fun e w' => e = .returned (.tuple #[.int .i64 (z5_ s).1, .int .i64 (z5_ s).2]) ∧ w' = w := by
 obtain ⟨hlen1, hem, hdl0, hdl1, hix⟩ := zaQ_ HS.out
 have HDL := Lib.hid hdl0
 have hdl : d.length ≤ 1000000 := by omega
 clear hdl0 hdl1
 have h1 : decide ((c.toNat : Int) < 48) = false := by simp; omega
 have h2 : decide ((57 : Int) < c.toNat) = true := by simp; omega
 have q1 : ((c.toNat : Int) == 109) = false := by rw [beq_eq_false_iff_ne]; omega
 have q2 : ((c.toNat : Int) == 117) = false := by rw [beq_eq_false_iff_ne]; omega
 have q3 : ((c.toNat : Int) == 110) = false := by rw [beq_eq_false_iff_ne]; omega
 have q4 : ((c.toNat : Int) == 112) = false := by rw [beq_eq_false_iff_ne]; omega
 clear k1 k2 k3 k4
 generalize c.toNat = cn at *
 go_enter Tryz.func13, Tryz.ntmps13
 go_wp2_with fail
 exact bodyPost_ret (v := .tuple #[.int .i64 0, .int .i64 70]) (by simp [results, Tryz.results13, go_sem]) rfl ⟨by rw [HX.out], rfl⟩
theorem zsK_ (s : List UInt8) (hs : s.length ≤ 1000000) (w : World) :
  Calls Tryz.prog 13 #[.string (bs s)] w fun e w' => e = .returned (.tuple #[.int .i64 (z5_ s).1, .int .i64 (z5_ s).2]) ∧ w' = w := by
 by_cases h0 : s = []
 · subst h0
   go_enter Tryz.func13, Tryz.ntmps13
   go_wp2_with fail
   exact bodyPost_ret (v := .tuple #[.int .i64 0, .int .i64 0]) (by simp [results, Tryz.results13, go_sem]) rfl ⟨rfl, rfl⟩
 · obtain ⟨d, c, HS⟩ : ∃ d c, s = d ++ [c] := ⟨s.dropLast, s.getLast h0, (List.dropLast_concat_getLast h0).symm⟩
   have HSH := Lib.hid HS
   cases hc : x7_ c with
   | true =>
     have HR := zqo_ d c hc
     rw [← HS] at HR
     have hcc : 48 ≤ c.toNat ∧ c.toNat ≤ 57 := by simpa [x7_] using hc
     cases hw : q3_ s with
     | false => exact zsG_ s d c hs HSH hcc (Lib.hid (by rw [HR, hw]; rfl)) (Lib.hid hw) w
     | true => exact zsH_ s d c hs HSH hcc (Lib.hid (by rw [HR, hw]; rfl)) (Lib.hid hw) w
   | false =>
     by_cases hk109 : c = 109
     · subst hk109
       have HR := zfP_ d 109 rfl
       rw [← HS] at HR
       cases hw : q3_ d with
       | false => exact zso_ s d hs HSH (Lib.hid (by rw [HR, if_pos (by simp [bad3, hw])])) (Lib.hid hw) w
       | true =>
         by_cases h3 : 3 < d.length
         · by_cases h4 : d.drop (d.length - 3) = [48, 48, 48]
           · exact zsp_ s d hs HSH (Lib.hid (by rw [HR, if_pos (by simp [bad3, hw, h3, h4])])) (Lib.hid hw) h3 (Lib.hid h4) w
           · exact zsq_ s d hs HSH (Lib.hid hw) h3 (Lib.hid h4) (Lib.hid (by rw [HR, if_neg (by simp [bad3, hw, h3, h4])]; rfl)) w
         · exact zsr_ s d hs HSH (Lib.hid hw) h3 (Lib.hid (by rw [HR, if_neg (by simp [bad3, hw, h3])]; rfl)) w
     by_cases hk117 : c = 117
     · subst hk117
       have HR := zfP_ d 117 rfl
       rw [← HS] at HR
       cases hw : q3_ d with
       | false => exact zss_ s d hs HSH (Lib.hid (by rw [HR, if_pos (by simp [bad3, hw])])) (Lib.hid hw) w
       | true =>
         by_cases h3 : 3 < d.length
         · by_cases h4 : d.drop (d.length - 3) = [48, 48, 48]
           · exact zst_ s d hs HSH (Lib.hid (by rw [HR, if_pos (by simp [bad3, hw, h3, h4])])) (Lib.hid hw) h3 (Lib.hid h4) w
           · exact zsu_ s d hs HSH (Lib.hid hw) h3 (Lib.hid h4) (Lib.hid (by rw [HR, if_neg (by simp [bad3, hw, h3, h4])]; rfl)) w
         · exact zsv_ s d hs HSH (Lib.hid hw) h3 (Lib.hid (by rw [HR, if_neg (by simp [bad3, hw, h3])]; rfl)) w
     by_cases hk110 : c = 110
     · subst hk110
       have HR := zfP_ d 110 rfl
       rw [← HS] at HR
       cases hw : q3_ d with
       | false => exact zsw_ s d hs HSH (Lib.hid (by rw [HR, if_pos (by simp [bad3, hw])])) (Lib.hid hw) w
       | true =>
         by_cases h3 : 3 < d.length
         · by_cases h4 : d.drop (d.length - 3) = [48, 48, 48]
           · exact zsx_ s d hs HSH (Lib.hid (by rw [HR, if_pos (by simp [bad3, hw, h3, h4])])) (Lib.hid hw) h3 (Lib.hid h4) w
           · exact zsy_ s d hs HSH (Lib.hid hw) h3 (Lib.hid h4) (Lib.hid (by rw [HR, if_neg (by simp [bad3, hw, h3, h4])]; rfl)) w
         · exact zsz_ s d hs HSH (Lib.hid hw) h3 (Lib.hid (by rw [HR, if_neg (by simp [bad3, hw, h3])]; rfl)) w
     by_cases hk112 : c = 112
     · subst hk112
       have HR := zfP_ d 112 rfl
       rw [← HS] at HR
       cases hw : q3_ d with
       | false => exact zsA_ s d hs HSH (Lib.hid (by rw [HR, if_pos (by simp [bad3, hw])])) (Lib.hid hw) w
       | true =>
         by_cases h3 : 3 < d.length
         · by_cases h4 : d.drop (d.length - 3) = [48, 48, 48]
           · exact zsB_ s d hs HSH (Lib.hid (by rw [HR, if_pos (by simp [bad3, hw, h3, h4])])) (Lib.hid hw) h3 (Lib.hid h4) w
           · by_cases h5 : d.getD (d.length - 1) 0 = 48
             · have hb : bad3 d 112 = false := by unfold bad3; rw [hw, h5]; simp [h3, h4]
               exact zsD_ s d hs HSH (Lib.hid hw) h3 (Lib.hid h4) (by rw [h5]; rfl) d.dropLast (Lib.hid rfl) (Lib.hid (zki_ hb).2) (Lib.hid (by rw [HR, hb]; rfl)) w
             · have h6 : (d.getD (d.length - 1) 0 != 48) = true := by simpa using h5
               exact zsC_ s d hs HSH (Lib.hid (by rw [HR, if_pos (by unfold bad3; rw [hw, h6]; simp)])) (Lib.hid hw) h3 (Lib.hid h4) (fun e => h5 (UInt8.toNat_inj.1 e)) w
         · by_cases h5 : d.getD (d.length - 1) 0 = 48
           · have hb : bad3 d 112 = false := by unfold bad3; rw [hw, h5]; simp [h3]
             exact zsF_ s d hs HSH (Lib.hid hw) h3 (by rw [h5]; rfl) d.dropLast (Lib.hid rfl) (Lib.hid (zki_ hb).2) (Lib.hid (by rw [HR, hb]; rfl)) w
           · have h6 : (d.getD (d.length - 1) 0 != 48) = true := by simpa using h5
             exact zsE_ s d hs HSH (Lib.hid (by rw [HR, if_pos (by unfold bad3; rw [hw, h6]; simp)])) (Lib.hid hw) h3 (fun e => h5 (UInt8.toNat_inj.1 e)) w
     have hodd := zqp_ d c hc (by simp [nmB, hk109, hk117, hk110, hk112])
     rw [← HS] at hodd
     have k1 : c.toNat ≠ 109 := fun e => hk109 (UInt8.toNat_inj.1 e)
     have k2 : c.toNat ≠ 117 := fun e => hk117 (UInt8.toNat_inj.1 e)
     have k3 : c.toNat ≠ 110 := fun e => hk110 (UInt8.toNat_inj.1 e)
     have k4 : c.toNat ≠ 112 := fun e => hk112 (UInt8.toNat_inj.1 e)
     have hcc : c.toNat < 48 ∨ 57 < c.toNat := by
      unfold x7_ at hc
      simp only [Bool.and_eq_false_iff, decide_eq_false_iff_not] at hc
      omega
     rcases hcc with h | h
     · exact zsI_ s d c hs HSH h k1 k2 k3 k4 (Lib.hid hodd) w
     · exact zsJ_ s d c hs HSH h k1 k2 k3 k4 (Lib.hid hodd) w
end Go.Proofs.YtembdkodajichaaGreatDoor
