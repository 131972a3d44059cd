/- The program's bech: the last 1, letters made small. -/
import Derived.Test.YtembdkodajichaaGreatDoorBechF
set_option maxRecDepth 100000
set_option maxHeartbeats 4000000
set_option linter.unusedSimpArgs false
set_option linter.unusedVariables false
namespace Go.Proofs.YtembdkodajichaaGreatDoor
open Go.RowKit
def placeI (s : List UInt8) : Int := match lastOne s with | some k => (k : Int) | none => -1
theorem lastIdx_one (s : List UInt8) : ∀ k, k ≤ s.length → Lib.lastIdx (bs s) 49 k = placeI (s.take k)
 | 0, _ => by rw [List.take_zero]; rfl
 | k + 1, h => by
   have ih := lastIdx_one s k om_
   have hg : (bs s).data[k]! = s[k] := by
    show s.toArray[k]! = s[k]
    simp [show k < s.length by omega]
   unfold Lib.lastIdx
   rw [ih, List.take_add_one, List.getElem?_eq_getElem om_, Option.toList_some, hg]
   unfold placeI
   rw [lastOne_app]
   by_cases h49 : s[k] = 49
   · rw [if_pos (by rw [h49]; rfl)]
     have h1 : lastOne [s[k]] = some 0 := by rw [h49]; rfl
     rw [h1]
     simp
     omega
   · rw [if_neg (by
      intro h2
      exact h49 (UInt8.toNat_inj.1 (by show s[k].toNat = 49; omega)))]
     have h1 : lastOne [s[k]] = none := by simp [lastOne, h49]
     rw [h1]
theorem lastIdxB (s : List UInt8) : Lib.lastIndexByte (bs s) 49 = placeI s := by
 unfold Lib.lastIndexByte
 rw [bs_size, lastIdx_one s s.length (Nat.le_refl _), List.take_length]
theorem bLast (s : List UInt8) (hl : s.length ≤ 1000000000) (w : World) :
  Calls Tryz.prog 94 #[.string (bs s), .int .u8 49] w fun e w' => e = .returned (.int .i64 (placeI s)) ∧ w' = w := by
 have h := Tryz.strings_LastIndexByte (bs s) 49 (by rw [bs_size]; omega) w
 rw [lastIdxB] at h
 exact h
theorem lower_eq (l : List UInt8) : Lib.toLowerA l = l.map lowB := by
 unfold Lib.toLowerA
 refine List.map_congr_left fun c _ => ?_
 have : ∀ c : Fin 256, Lib.lowerB (UInt8.ofNat c.val) = lowB (UInt8.ofNat c.val) := by decide +kernel
 exact all_u8 (p := fun c => Lib.lowerB c = lowB c) this c
theorem bLower (s : List UInt8) (hl : s.length ≤ 1000000000) (ha : s.any badC = false) (w : World) :
  Calls Tryz.prog 99 #[.string (bs s)] w fun e w' => e = .returned (.string (bs (s.map lowB))) ∧ Below w.heap.size w w' := by
 refine (Tryz.strings_ToLower_ascii (bs s) w (by rw [bs_size]; omega) (fun j b hb => ?_)).mono ?_
 · have hm : b ∈ s := List.mem_of_getElem? (by simpa using hb)
   by_cases h : b.toNat < 128
   · exact h
   · exfalso
     have h2 : s.any badC = true := List.any_eq_true.2 ⟨b, hm, by unfold badC; simp; omega⟩
     rw [ha] at h2
     cases h2
 · rintro e w' ⟨rfl, hb⟩
   refine ⟨?_, hb⟩
   rw [lower_eq]
   rfl
def farI (v : Int) (n : Nat) : Bool := decide (v < 1) || decide (83 < v) || decide ((n : Int) - v ≤ 6)
theorem far_eq (s : List UInt8) : farI (placeI s) s.length = (match lastOne s with | none => true | some k => decide (k < 1) || decide (83 < k) || decide (s.length ≤ k + 6)) := by
 unfold farI placeI
 cases lastOne s with
 | none => rfl
 | some k =>
   rw [Bool.eq_iff_iff]
   simp only [Bool.or_eq_true, decide_eq_true_eq]
   omega
theorem bFar (v : Int) (s : List UInt8) (S K : Nat) (w : World) (hv : -1 ≤ v ∧ v ≤ 1000000000) (hS : w.cell? ⟨S, 0, none⟩ = some (.string (bs s))) (hK : w.cell? ⟨K, 0, none⟩ = some (.int .i64 v)) (hl : s.length ≤ 1000000000) :
  Calls Tryz.prog 98 #[.pointer (some ⟨K, 0, none⟩), .pointer (some ⟨S, 0, none⟩)] w fun e w' => e = .returned (.bool (farI v s.length)) ∧ w' = w := by
 by_cases h1 : v < 1
 · have H : Hid (farI v s.length = true) := Lib.hid (by simp [farI, h1])
   go_enter Tryz.func98, Tryz.ntmps98
   go_wp2_with fail
   exact bodyPost_ret (v := .bool true) (by simp [results, Tryz.results98, go_sem]) rfl ⟨by rw [H.out], rfl⟩
 · have h1' : 1 ≤ v := by omega
   by_cases h2 : 83 < v
   · have H : Hid (farI v s.length = true) := Lib.hid (by simp [farI, h2])
     clear h1
     go_enter Tryz.func98, Tryz.ntmps98
     go_wp2_with fail
     exact bodyPost_ret (v := .bool true) (by simp [results, Tryz.results98, go_sem]) rfl ⟨by rw [H.out], rfl⟩
   · have h2' : v ≤ 83 := by omega
     by_cases h3 : (s.length : Int) - v ≤ 6
     · have H : Hid (farI v s.length = true) := Lib.hid (by simp [farI, h3])
       clear h1 h2
       go_enter Tryz.func98, Tryz.ntmps98
       go_wp2_with fail
       exact bodyPost_ret (v := .bool true) (by simp [results, Tryz.results98, go_sem]) rfl ⟨by rw [H.out], rfl⟩
     · have H : Hid (farI v s.length = false) := Lib.hid (by unfold farI; rw [decide_eq_false h1, decide_eq_false h2, decide_eq_false h3]; rfl)
       have h3' : (6 : Int) < (s.length : Int) - v := by omega
       clear h1 h2 h3
       go_enter Tryz.func98, Tryz.ntmps98
       go_wp2_with fail
       exact bodyPost_ret (v := .bool false) (by simp [results, Tryz.results98, go_sem]; omega) rfl ⟨by rw [H.out], rfl⟩
end Go.Proofs.YtembdkodajichaaGreatDoor
