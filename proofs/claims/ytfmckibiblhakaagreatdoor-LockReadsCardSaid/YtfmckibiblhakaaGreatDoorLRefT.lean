/- The reference's locks: a term's end. -/
import Derived.Test.YtfmckibiblhakaaGreatDoorLRefD
set_option linter.unusedSimpArgs false
set_option linter.unusedVariables false
namespace Go.Proofs.YtfmckibiblhakaaGreatDoor
open Go.RowKit

set_option maxRecDepth 100000 in
set_option maxHeartbeats 4000000 in
theorem rlTerm (s : List UInt8) (a : Nat) (ha : a ≤ s.length) (hs : s.length ≤ 1000000000000) (w : World) :
    Calls Tryz.prog 113 #[.string (bs s), .int .i64 a] w fun en w' => en = .returned (termRV (termRF (s.drop a) (min (s.length - a) 16384) 1) a) ∧ Below w.heap.size w w' := by
  obtain ⟨tot, htot⟩ : ∃ tot, termRF (s.drop a) (min (s.length - a) 16384) 1 = tot := ⟨_, rfl⟩
  obtain ⟨m, hm⟩ : ∃ m, min (s.length - a) 16384 = m := ⟨_, rfl⟩
  rw [htot]
  rw [hm] at htot
  have hm1 : m ≤ s.length - a := by omega
  have hm2 : m ≤ 16384 := by omega
  have hm3 : m = s.length - a ∨ m = 16384 := by omega
  have HM := Lib.hid hm3
  have HTOT := Lib.hid htot
  clear hm hm3 htot
  go_enter Tryz.func113, Tryz.ntmps113
  go_wp2
  go_loopw [5] (fun iv wr => ∃ (k : Nat), 1 ≤ k ∧ k ≤ m + 1 ∧ iv = .int .i64 (a + k : Nat) ∧ Hid (termRF (s.drop a) (m + 1 - k) k = tot) ∧ Hid (GL [] w wr)) (fun iv _ => s.length + 1 - (intOf iv).toNat)
  case atStart => exact ⟨1, by omega, by omega, rfl, HTOT, Lib.hid (gl_refl _ _)⟩
  case round =>
    obtain ⟨k, hk1, hkm, rfl, ht, hgr⟩ := hrel
    by_cases hlt : k ≤ m
    · have i1 : (a : Int) + k ≤ s.length := by omega
      have i2 : (k : Int) ≤ 16384 := by omega
      obtain ⟨f, hf⟩ : ∃ f, m + 1 - k = f + 1 := ⟨m - k, by omega⟩
      have hsk : m + 1 - (k + 1) = f := by omega
      have htt := ht.out
      rw [hf, termRF, List.drop_drop] at htt
      have hkl : ((s.drop a).take k).length ≤ 9000000000000000000 := by simp; omega
      have hrt := fun (W : World) => refRight ((s.drop a).take k) hkl W
      have HSK := Lib.hid hsk
      have HT := Lib.hid htt
      have HRT := Lib.hid hrt
      clear htt ht hsk hf hrt hkl
      cases hr : right ((s.drop a).take k) with
      | true =>
        have HRU := Lib.hid hr
        clear hr
        by_cases hl : a + k = s.length
        · have b3 : ((a : Int) + k == s.length) = true := by simp; omega
          have hl2 : s.length ≤ a + k := by omega
          clear hl
          have HI : Hid (tot = some k) := by
            show tot = some k
            have h := HT.out
            rw [HRU.out, List.drop_eq_nil_of_le (by omega)] at h
            simpa [endsB] using h.symm
          clear HT
          go_wp2_with fail
          refine (HRT.out _).mono ?_
          rintro e w2 ⟨rfl, hb2⟩
          rw [HRU.out]
          go_wp2_with fail
          go_ret
          exact ⟨by rw [HI.out]; rfl, gl_to_below (gl_below hb2 hgr.out)⟩
        · have hlt2 : a + k < s.length := by omega
          have b3 : ((a : Int) + k == s.length) = false := by simp; omega
          have i4 : (a : Int) + k < s.length := by omega
          have HD : Hid (s.drop (a + k) = s[a + k] :: s.drop (a + k + 1)) := List.drop_eq_getElem_cons hlt2
          clear hl
          cases hec : endsC s[a + k] with
          | true =>
            have HEC := Lib.hid hec
            clear hec
            have HI : Hid (tot = some k) := by
              show tot = some k
              have h := HT.out
              rw [HRU.out, HD.out] at h
              have he : endsB (s[a + k] :: s.drop (a + k + 1)) = true := HEC.out
              rw [he] at h
              simpa [endsB] using h.symm
            clear HT
            go_wp2_with fail
            refine (rlEnds _ _).mono ?_
            rintro e w1 ⟨rfl, rfl⟩
            rw [HEC.out]
            go_wp2_with fail
            refine (HRT.out _).mono ?_
            rintro e w2 ⟨rfl, hb2⟩
            rw [HRU.out]
            go_wp2_with fail
            go_ret
            exact ⟨by rw [HI.out]; rfl, gl_to_below (gl_below hb2 hgr.out)⟩
          | false =>
            have HEC := Lib.hid hec
            clear hec
            have HI : Hid (termRF (s.drop a) f (k + 1) = tot) := by
              show termRF (s.drop a) f (k + 1) = tot
              have h := HT.out
              rw [HRU.out, HD.out] at h
              have he : endsB (s[a + k] :: s.drop (a + k + 1)) = false := HEC.out
              rw [he] at h
              simpa [endsB] using h
            clear HT
            go_wp2_with fail
            refine (rlEnds _ _).mono ?_
            rintro e w1 ⟨rfl, rfl⟩
            rw [HEC.out]
            go_wp2_with fail
            go_roundw
            case rel => exact ⟨k + 1, by omega, by omega, by go_num, Lib.hid (by rw [HSK.out]; exact HI.out), Lib.hid (hgr.out)⟩
            case measure => simp [intOf]; omega
      | false =>
        have HRU := Lib.hid hr
        clear hr
        by_cases hl : a + k = s.length
        · have b3 : ((a : Int) + k == s.length) = true := by simp; omega
          have hl2 : s.length ≤ a + k := by omega
          clear hl
          have HI : Hid (termRF (s.drop a) f (k + 1) = tot) := by
            show termRF (s.drop a) f (k + 1) = tot
            have h := HT.out
            rw [HRU.out] at h
            simpa [endsB] using h
          clear HT
          go_wp2_with fail
          refine (HRT.out _).mono ?_
          rintro e w2 ⟨rfl, hb2⟩
          rw [HRU.out]
          go_wp2_with fail
          go_roundw
          case rel => exact ⟨k + 1, by omega, by omega, by go_num, Lib.hid (by rw [HSK.out]; exact HI.out), Lib.hid (gl_below hb2 hgr.out)⟩
          case measure => simp [intOf]; omega
        · have hlt2 : a + k < s.length := by omega
          have b3 : ((a : Int) + k == s.length) = false := by simp; omega
          have i4 : (a : Int) + k < s.length := by omega
          have HD : Hid (s.drop (a + k) = s[a + k] :: s.drop (a + k + 1)) := List.drop_eq_getElem_cons hlt2
          clear hl
          cases hec : endsC s[a + k] with
          | true =>
            have HEC := Lib.hid hec
            clear hec
            have HI : Hid (termRF (s.drop a) f (k + 1) = tot) := by
              show termRF (s.drop a) f (k + 1) = tot
              have h := HT.out
              rw [HRU.out, HD.out] at h
              have he : endsB (s[a + k] :: s.drop (a + k + 1)) = true := HEC.out
              rw [he] at h
              simpa [endsB] using h
            clear HT
            go_wp2_with fail
            refine (rlEnds _ _).mono ?_
            rintro e w1 ⟨rfl, rfl⟩
            rw [HEC.out]
            go_wp2_with fail
            refine (HRT.out _).mono ?_
            rintro e w2 ⟨rfl, hb2⟩
            rw [HRU.out]
            go_wp2_with fail
            go_roundw
            case rel => exact ⟨k + 1, by omega, by omega, by go_num, Lib.hid (by rw [HSK.out]; exact HI.out), Lib.hid (gl_below hb2 hgr.out)⟩
            case measure => simp [intOf]; omega
          | false =>
            have HEC := Lib.hid hec
            clear hec
            have HI : Hid (termRF (s.drop a) f (k + 1) = tot) := by
              show termRF (s.drop a) f (k + 1) = tot
              have h := HT.out
              rw [HRU.out, HD.out] at h
              have he : endsB (s[a + k] :: s.drop (a + k + 1)) = false := HEC.out
              rw [he] at h
              simpa [endsB] using h
            clear HT
            go_wp2_with fail
            refine (rlEnds _ _).mono ?_
            rintro e w1 ⟨rfl, rfl⟩
            rw [HEC.out]
            go_wp2_with fail
            go_roundw
            case rel => exact ⟨k + 1, by omega, by omega, by go_num, Lib.hid (by rw [HSK.out]; exact HI.out), Lib.hid (hgr.out)⟩
            case measure => simp [intOf]; omega
    · have hke : k = m + 1 := by omega
      have HI : Hid (tot = none) := by
        show tot = _
        have h := ht.out
        rw [hke, show m + 1 - (m + 1) = 0 by omega, termRF] at h
        exact h.symm
      clear ht
      have hmm := HM.out
      by_cases hl : s.length < a + k
      · have i1 : decide ((a : Int) + k ≤ s.length) = false := by simp; omega
        clear hmm HM hke hl hlt
        go_wp2
        go_ret
        exact ⟨by rw [HI.out]; rfl, gl_to_below hgr.out⟩
      · have i0 : (a : Int) + k ≤ s.length := by omega
        have i1 : decide ((k : Int) ≤ 16384) = false := by simp; omega
        have i2 : decide ((a : Int) + k ≤ (a : Int) + 16384) = false := by simp; omega
        clear hmm HM hke hl hlt
        go_wp2
        go_ret
        exact ⟨by rw [HI.out]; rfl, gl_to_below hgr.out⟩

theorem rlTermI (s : List UInt8) (a : Int) (h0 : 0 ≤ a) (ha : a ≤ s.length) (hs : s.length ≤ 1000000000000) (w : World) :
    Calls Tryz.prog 113 #[.string (bs s), .int .i64 a] w fun en w' => en = .returned (termRV (termRF (s.drop a.toNat) (min (s.length - a.toNat) 16384) 1) a.toNat) ∧ Below w.heap.size w w' := by
  obtain ⟨i, rfl⟩ := Int.eq_ofNat_of_zero_le h0
  simpa using rlTerm s i (by omega) hs w

end Go.Proofs.YtfmckibiblhakaaGreatDoor
