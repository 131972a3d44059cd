/- The program's bech: what may not stand in words read. -/
import Derived.Test.YtembdkodajichaaGreatDoorBechE
set_option maxRecDepth 100000
set_option maxHeartbeats 4000000
set_option linter.unusedSimpArgs false
set_option linter.unusedVariables false
namespace Go.Proofs.YtembdkodajichaaGreatDoor
open Go.RowKit
def inR (lo hi : Nat) (c : UInt8) : Bool := decide (lo ≤ c.toNat) && decide (c.toNat ≤ hi)
theorem inR_false {lo hi : Nat} {c : UInt8} {x : Nat} (hx : x = c.toNat) (h : x < lo ∨ hi < x) : inR lo hi c = false := by
 unfold inR
 rw [Bool.and_eq_false_iff, decide_eq_false_iff_not, decide_eq_false_iff_not]
 omega
theorem any_badC (s : List UInt8) : s.any badC = (s.any (inR 0 32) || s.any (inR 127 255)) := by
 rw [Bool.eq_iff_iff]
 simp only [List.any_eq_true, Bool.or_eq_true, badC, inR, Bool.and_eq_true, decide_eq_true_eq]
 constructor
 · rintro ⟨x, hx, h⟩
   have := x.toNat_lt
   rcases h with h | h
   · exact .inl ⟨x, hx, by omega, h⟩
   · exact .inr ⟨x, hx, h, by omega⟩
 · rintro (⟨x, hx, h⟩ | ⟨x, hx, h⟩)
   · exact ⟨x, hx, .inl h.2⟩
   · exact ⟨x, hx, .inr h.1⟩
theorem inR_low : inR 97 122 = isLow := by funext c; unfold inR isLow; rw [← Bool.decide_and]
theorem inR_up : inR 65 90 = isUp := by funext c; unfold inR isUp; rw [← Bool.decide_and]
theorem bHas (lo hi : Nat) (hlo : lo < 256) (hhi : hi < 256) (s : List UInt8) (S : Nat) (w : World) (hS : w.cell? ⟨S, 0, none⟩ = some (.string (bs s))) (hl : s.length ≤ 1000000000) :
  Calls Tryz.prog 95 #[.int .u8 lo, .int .u8 hi, .pointer (some ⟨S, 0, none⟩)] w fun e w' => e = .returned (.bool (s.any (inR lo hi))) ∧ w' = w := by
 go_enter Tryz.func95, Tryz.ntmps95
 go_wp2_with fail
 go_loopw [6, 9] (fun _ iv wr => ∃ i : Nat, i ≤ s.length ∧ iv = .int .i64 i ∧ Hid ((s.take i).any (inR lo hi) = false) ∧ Hid (wr = w)) (fun _ iv _ => s.length - (intOf iv).toNat)
 case atStart => exact ⟨0, by omega, rfl, Lib.hid si_, Lib.hid rfl⟩
 case round =>
  obtain ⟨i, hi2, rfl, hno, hw⟩ := hrel
  have hww := hw.out
  subst hww
  by_cases hlt : i < s.length
  · have i1 : (i : Int) < s.length := by omega
    have hix := index_strK wr .i64 s i hlt
    have hmem : s.getD i 0 ∈ s := by rw [List.getD_eq_getElem?_getD, List.getElem?_eq_getElem hlt]; exact List.getElem_mem hlt
    have HXK : Hid (s.take (i + 1) = s.take i ++ [s.getD i 0]) := Lib.hid (by rw [List.take_add_one, List.getElem?_eq_getElem hlt, Option.toList_some, List.getD_eq_getElem?_getD, List.getElem?_eq_getElem hlt]; rfl)
    obtain ⟨x, hxd⟩ : ∃ x, x = (s.getD i 0).toNat := ⟨_, rfl⟩
    rw [← hxd] at hix
    by_cases hbad : x < lo ∨ hi < x
    · have HN : Hid ((s.take (i + 1)).any (inR lo hi) = false) := Lib.hid (by rw [HXK.out, List.any_append, hno.out, List.any_cons, inR_false hxd hbad]; rfl)
      clear hmem hxd HXK hno
      by_cases hb1 : x < lo
      · have x1 : (x : Int) < lo := by omega
        clear hbad
        go_wp2_with fail
        go_roundw
        case rel => exact ⟨i + 1, by omega, by go_num, HN, by first | exact hw | exact Lib.hid trivial⟩
        case measure => simp [intOf]; omega
      · have x1 : (lo : Int) ≤ x := by omega
        have x2 : (hi : Int) < x := by omega
        clear hbad
        go_wp2_with fail
        go_roundw
        case rel => exact ⟨i + 1, by omega, by go_num, HN, by first | exact hw | exact Lib.hid trivial⟩
        case measure => simp [intOf]; omega
    · have x1 : (lo : Int) ≤ x := by omega
      have x2 : (x : Int) ≤ hi := by omega
      have HT : Hid (s.any (inR lo hi) = true) := Lib.hid (List.any_eq_true.2 ⟨_, hmem, by unfold inR; rw [← hxd]; simp; omega⟩)
      clear hmem hxd HXK hno hbad
      go_wp2_with fail
      exact bodyPost_ret (v := .bool true) (by simp [results, Tryz.results95, go_sem]) rfl ⟨by rw [HT.out], rfl⟩
  · obtain rfl : i = s.length := by omega
    have HF : Hid (s.any (inR lo hi) = false) := Lib.hid (by have := hno.out; rwa [List.take_length] at this)
    clear hno
    go_wp2_with fail
    exact bodyPost_ret (v := .bool false) (by simp [results, Tryz.results95, go_sem]) rfl ⟨by rw [HF.out], rfl⟩
theorem bBad (s : List UInt8) (S F : Nat) (w : World) (hS : w.cell? ⟨S, 0, none⟩ = some (.string (bs s))) (hF : w.cell? ⟨F, 0, none⟩ = some (.func (.func 95) #[] #[.pointer (some ⟨S, 0, none⟩)])) (hl : s.length ≤ 1000000000) :
  Calls Tryz.prog 96 #[.pointer (some ⟨F, 0, none⟩)] w fun e w' => e = .returned (.bool (s.any badC)) ∧ w' = w := by
 have HX : Hid ((s.any badC) = (s.any (inR 0 32) || s.any (inR 127 255))) := Lib.hid (by exact any_badC s)
 cases h1 : s.any (inR 0 32) with
 | true =>
   have H1 := Lib.hid h1
   clear h1
   go_enter Tryz.func96, Tryz.ntmps96
   go_wp2_with fail
   refine (bHas 0 32 om_ om_ s S w hS hl).mono ?_
   rintro e w1 ⟨rfl, rfl⟩
   rw [H1.out]
   go_wp2_with fail
   exact bodyPost_ret (v := .bool true) (by simp [results, Tryz.results96, go_sem]) rfl ⟨by rw [HX.out, H1.out]; simp, rfl⟩
 | false =>
   have H1 := Lib.hid h1
   clear h1
   go_enter Tryz.func96, Tryz.ntmps96
   go_wp2_with fail
   refine (bHas 0 32 om_ om_ s S w hS hl).mono ?_
   rintro e w1 ⟨rfl, rfl⟩
   rw [H1.out]
   go_wp2_with fail
   refine (bHas 127 255 om_ om_ s S w1 hS hl).mono ?_
   rintro e w2 ⟨rfl, rfl⟩
   generalize hb : s.any (inR 127 255) = b2
   have HB := Lib.hid hb
   clear hb
   go_wp2_with fail
   exact bodyPost_ret (v := .bool b2) (by simp [results, Tryz.results96, go_sem]) rfl ⟨by rw [HX.out, H1.out, HB.out]; simp, rfl⟩
theorem bMixed (s : List UInt8) (S F : Nat) (w : World) (hS : w.cell? ⟨S, 0, none⟩ = some (.string (bs s))) (hF : w.cell? ⟨F, 0, none⟩ = some (.func (.func 95) #[] #[.pointer (some ⟨S, 0, none⟩)])) (hl : s.length ≤ 1000000000) :
  Calls Tryz.prog 97 #[.pointer (some ⟨F, 0, none⟩)] w fun e w' => e = .returned (.bool (s.any isLow && s.any isUp)) ∧ w' = w := by
 have HX : Hid ((s.any isLow && s.any isUp) = (s.any (inR 97 122) && s.any (inR 65 90))) := Lib.hid (by rw [inR_low, inR_up])
 cases h1 : s.any (inR 97 122) with
 | false =>
   have H1 := Lib.hid h1
   clear h1
   go_enter Tryz.func97, Tryz.ntmps97
   go_wp2_with fail
   refine (bHas 97 122 om_ om_ s S w hS hl).mono ?_
   rintro e w1 ⟨rfl, rfl⟩
   rw [H1.out]
   go_wp2_with fail
   exact bodyPost_ret (v := .bool false) (by simp [results, Tryz.results97, go_sem]) rfl ⟨by rw [HX.out, H1.out]; simp, rfl⟩
 | true =>
   have H1 := Lib.hid h1
   clear h1
   go_enter Tryz.func97, Tryz.ntmps97
   go_wp2_with fail
   refine (bHas 97 122 om_ om_ s S w hS hl).mono ?_
   rintro e w1 ⟨rfl, rfl⟩
   rw [H1.out]
   go_wp2_with fail
   refine (bHas 65 90 om_ om_ s S w1 hS hl).mono ?_
   rintro e w2 ⟨rfl, rfl⟩
   generalize hb : s.any (inR 65 90) = b2
   have HB := Lib.hid hb
   clear hb
   go_wp2_with fail
   exact bodyPost_ret (v := .bool b2) (by simp [results, Tryz.results97, go_sem]) rfl ⟨by rw [HX.out, H1.out, HB.out]; simp, rfl⟩
end Go.Proofs.YtembdkodajichaaGreatDoor
