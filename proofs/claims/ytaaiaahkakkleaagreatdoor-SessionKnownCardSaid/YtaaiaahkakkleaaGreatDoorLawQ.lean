/- The laws of layer 21: what is said, a few words. -/
import Derived.Test.YtaaiaahkakkleaaGreatDoorLawO
set_option maxRecDepth 100000
set_option maxHeartbeats 1000000
set_option linter.unusedSimpArgs false
set_option linter.unusedVariables false
namespace Go.Proofs.YtaaiaahkakkleaaGreatDoor
open Go.RowKit
def WordsAt (lv : Value) (ws : List (Bool × List UInt8)) (w : World) : Prop :=
 (∃ (ad : Option Addr) (c : Nat), lv = .slice ad 0 c ∧ ws = []) ∨ ∃ (b o c : Nat), lv = .slice (some ⟨b, o, none⟩) ws.length c ∧ b < w.heap.size ∧
   ∀ (k : Nat) (sd : Bool) (tx : List UInt8), ws[k]? = some (sd, tx) → w.cell? ⟨b, o + k * 2, none⟩ = some (.bool sd) ∧ w.cell? ⟨b, o + k * 2 + 1, none⟩ = some (.string (bs tx))
def fewB (ws : List (Bool × List UInt8)) : Bool := ws.all (fun x => decide (x.2.length ≤ 200)) && decide (ws.length ≤ 12)
def pickZ (i n : Int) : Int := if n ≤ 0 then 0 else (i.tmod n + n).tmod n
theorem lFew (lv : Value) (ws : List (Bool × List UInt8)) (w : World) (h : WordsAt lv ws w) (hn : ws.length ≤ 9223372036854775807) (ht : ∀ x ∈ ws, x.2.length ≤ 9223372036854775807) :
  Calls Tryz.prog 17 #[lv] w fun e w' => e = .returned (.bool (fewB ws)) ∧ w = w' := by
 rcases h with ⟨ad, c, rfl, rfl⟩ | ⟨b, o, c, rfl, hb, hc⟩
 · go_enter Tryz.func17, Tryz.ntmps17
   go_wp2
   go_loop [3] (fun iv => iv = .int .i64 0) (fun _ => 0)
   case atStart => rfl
   case round =>
    subst hrel
    go_wp2
    go_ret
    exact ⟨rfl, rfl⟩
 · have HC := Lib.hid hc
   have HT := Lib.hid ht
   clear hc ht
   go_enter Tryz.func17, Tryz.ntmps17
   go_wp2
   go_loop [3] (fun iv => ∃ k : Nat, k ≤ ws.length ∧ iv = .int .i64 k ∧ Hid (∀ j x, j < k → ws[j]? = some x → x.2.length ≤ 200)) (fun iv => ws.length - (intOf iv).toNat)
   case atStart => exact ⟨0, by omega, rfl, fun j x hj => absurd hj om_⟩
   case round =>
    obtain ⟨k, hk, rfl, hz⟩ := hrel
    by_cases hlt : k < ws.length
    · have i1 : (k : Int) < ws.length := by omega
      obtain ⟨x, hx⟩ : ∃ x, ws[k]? = some x := ⟨ws[k], by simp [hlt]⟩
      obtain ⟨sd, tx⟩ := x
      obtain ⟨c0, c1⟩ := HC.out k sd tx hx
      have htl := HT.out _ (List.mem_of_getElem? hx)
      simp only at htl
      have HX := Lib.hid hx
      clear hx c0
      by_cases h2 : tx.length ≤ 200
      · have hi : (tx.length : Int) ≤ 200 := by omega
        go_wp2
        go_round
        case rel => exact ⟨k + 1, by omega, by go_num, fun j y hj hy => by
         by_cases hjk : j < k
         · exact hz.out j y hjk hy
         · obtain rfl : j = k := by omega
           obtain rfl := Option.some.inj (HX.out.symm.trans hy)
           exact h2⟩
        case measure => simp [intOf]; omega
      · have hi : (200 : Int) < tx.length := by omega
        go_wp2
        go_ret
        refine ⟨?_, rfl⟩
        have : fewB ws = false := by
         unfold fewB
         rw [Bool.and_eq_false_iff]
         left
         rw [List.all_eq_false]
         exact ⟨(sd, tx), List.mem_of_getElem? HX.out, by simpa using h2⟩
        rw [this]; rfl
    · obtain rfl : k = ws.length := by omega
      have hall : ws.all (fun x => decide (x.2.length ≤ 200)) = true := by
       rw [List.all_eq_true]
       intro x hx
       obtain ⟨j, hj⟩ := List.getElem?_of_mem hx
       have := hz.out j x (List.getElem?_eq_some_iff.1 hj).1 hj
       simpa using this
      by_cases h12 : ws.length ≤ 12
      · have hi : (ws.length : Int) ≤ 12 := by omega
        go_wp2
        go_ret
        refine ⟨?_, rfl⟩
        have : fewB ws = true := by simp [fewB, hall, h12]
        rw [this]; first | rfl | (simp [h12]; done) | (simp [h12]; omega)
      · have hi : (12 : Int) < ws.length := by omega
        go_wp2
        go_ret
        refine ⟨?_, rfl⟩
        have : fewB ws = false := by simp [fewB, hall, h12]
        rw [this]; first | rfl | (simp [h12]; done) | (simp [h12]; omega)
end Go.Proofs.YtaaiaahkakkleaaGreatDoor
