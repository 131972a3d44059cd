/- The laws of layer 21: whoever heard all: names that are none, or alike. -/
import Derived.Test.YtaaiaahkakkleaaGreatDoorLawN
import Derived.Test.YtaaiaahkakkleaaGreatDoorLawQ
set_option maxRecDepth 100000
set_option maxHeartbeats 40000000
set_option linter.unusedSimpArgs false
set_option linter.unusedVariables false
namespace Go.Proofs.YtaaiaahkakkleaaGreatDoor
open Go.RowKit
def Four (i e s f : Int) (ws : List (Bool × List UInt8)) (ms : List (List UInt8)) (tr : List UInt8) : Prop := 0 ≤ i ∧ 0 ≤ e ∧ 0 ≤ s ∧ 0 ≤ f ∧ fewB ws = true ∧ i ≠ e ∧ i ≠ s ∧ i ≠ f ∧ e ≠ s ∧ e ≠ f ∧ s ≠ f ∧ ms.length ≤ 5 ∧ tr.length ≤ 100
theorem lForgesNo (i e s f : Int) (ad : Option Addr) (c : Nat) (ws : List (Bool × List UInt8)) (ad2 : Option Addr) (c2 : Nat) (ms : List (List UInt8)) (tr : List UInt8) (ri : -9223372036854775808 ≤ i) (ri2 : i ≤ 9223372036854775807) (re : -9223372036854775808 ≤ e) (re2 : e ≤ 9223372036854775807) (rs : -9223372036854775808 ≤ s) (rs2 : s ≤ 9223372036854775807) (rf : -9223372036854775808 ≤ f) (rf2 : f ≤ 9223372036854775807) (hws : ws.length ≤ 9223372036854775807) (hwt : ∀ x ∈ ws, x.2.length ≤ 9223372036854775807) (hml : ms.length ≤ 9000000000000000000) (htl : tr.length ≤ 9000000000000000000) (hno : ¬ Four i e s f ws ms tr) (w : World) (hW : WordsAt (.slice ad ws.length c) ws w) (hG : GOk w) :
  Calls Tryz.prog 6 #[.int .i64 i, .int .i64 e, .int .i64 s, .int .i64 f, .slice ad ws.length c, .slice ad2 ms.length c2, .string (bs tr)] w fun en w' => en = .returned (.bool true) ∧ Below w.heap.size w w' := by
 have HG := Lib.hid hG
 have HWD := Lib.hid hW
 have HWT := Lib.hid hwt
 clear hG hW hwt
 by_cases h0 : i < 0
 · have b0 : decide (i < 0) = true := by simpa using h0
   clear h0 hno
   go_enter Tryz.func6, Tryz.ntmps6
   go_wp2_with fail
   refine (lWorks21 _ HG.out).mono ?_
   rintro en w1 ⟨rfl, hb1⟩
   go_wp2_with fail
   go_ret
   exact ⟨rfl, hb1⟩
 have b0 : decide (i < 0) = false := by simpa using h0
 by_cases h1 : e < 0
 · have b1 : decide (e < 0) = true := by simpa using h1
   clear h1 hno
   go_enter Tryz.func6, Tryz.ntmps6
   go_wp2_with fail
   refine (lWorks21 _ HG.out).mono ?_
   rintro en w1 ⟨rfl, hb1⟩
   go_wp2_with fail
   go_ret
   exact ⟨rfl, hb1⟩
 have b1 : decide (e < 0) = false := by simpa using h1
 by_cases h2 : s < 0
 · have b2 : decide (s < 0) = true := by simpa using h2
   clear h2 hno
   go_enter Tryz.func6, Tryz.ntmps6
   go_wp2_with fail
   refine (lWorks21 _ HG.out).mono ?_
   rintro en w1 ⟨rfl, hb1⟩
   go_wp2_with fail
   go_ret
   exact ⟨rfl, hb1⟩
 have b2 : decide (s < 0) = false := by simpa using h2
 by_cases h3 : f < 0
 · have b3 : decide (f < 0) = true := by simpa using h3
   clear h3 hno
   go_enter Tryz.func6, Tryz.ntmps6
   go_wp2_with fail
   refine (lWorks21 _ HG.out).mono ?_
   rintro en w1 ⟨rfl, hb1⟩
   go_wp2_with fail
   go_ret
   exact ⟨rfl, hb1⟩
 have b3 : decide (f < 0) = false := by simpa using h3
 by_cases hfw : fewB ws = false
 · have HFEW := Lib.hid hfw
   clear hfw hno h0 h1 h2 h3
   go_enter Tryz.func6, Tryz.ntmps6
   go_wp2_with fail
   refine (lFew _ ws _ HWD.out hws HWT.out).mono ?_
   rintro en w0 ⟨rfl, rfl⟩
   rw [HFEW.out]
   go_wp2_with fail
   refine (lWorks21 _ HG.out).mono ?_
   rintro en w1 ⟨rfl, hb1⟩
   go_wp2_with fail
   go_ret
   exact ⟨rfl, hb1⟩
 have hfb : fewB ws = true := by
  cases hq : fewB ws with
  | false => exact absurd hq hfw
  | true => rfl
 have HFEW := Lib.hid hfb
 clear hfw hfb
 by_cases h4 : i = e
 · have b4 : (i == e) = true := by simpa using h4
   clear h0 h1 h2 h3 h4 hno
   go_enter Tryz.func6, Tryz.ntmps6
   go_wp2_with fail
   refine (lFew _ ws _ HWD.out hws HWT.out).mono ?_
   rintro en w0 ⟨rfl, rfl⟩
   rw [HFEW.out]
   go_wp2_with fail
   refine (lWorks21 _ HG.out).mono ?_
   rintro en w1 ⟨rfl, hb1⟩
   go_wp2_with fail
   go_ret
   exact ⟨rfl, hb1⟩
 have b4 : (i == e) = false := by simpa using h4
 by_cases h5 : i = s
 · have b5 : (i == s) = true := by simpa using h5
   clear h0 h1 h2 h3 h4 h5 hno
   go_enter Tryz.func6, Tryz.ntmps6
   go_wp2_with fail
   refine (lFew _ ws _ HWD.out hws HWT.out).mono ?_
   rintro en w0 ⟨rfl, rfl⟩
   rw [HFEW.out]
   go_wp2_with fail
   refine (lWorks21 _ HG.out).mono ?_
   rintro en w1 ⟨rfl, hb1⟩
   go_wp2_with fail
   go_ret
   exact ⟨rfl, hb1⟩
 have b5 : (i == s) = false := by simpa using h5
 by_cases h6 : i = f
 · have b6 : (i == f) = true := by simpa using h6
   clear h0 h1 h2 h3 h4 h5 h6 hno
   go_enter Tryz.func6, Tryz.ntmps6
   go_wp2_with fail
   refine (lFew _ ws _ HWD.out hws HWT.out).mono ?_
   rintro en w0 ⟨rfl, rfl⟩
   rw [HFEW.out]
   go_wp2_with fail
   refine (lWorks21 _ HG.out).mono ?_
   rintro en w1 ⟨rfl, hb1⟩
   go_wp2_with fail
   go_ret
   exact ⟨rfl, hb1⟩
 have b6 : (i == f) = false := by simpa using h6
 by_cases h7 : e = s
 · have b7 : (e == s) = true := by simpa using h7
   clear h0 h1 h2 h3 h4 h5 h6 h7 hno
   go_enter Tryz.func6, Tryz.ntmps6
   go_wp2_with fail
   refine (lFew _ ws _ HWD.out hws HWT.out).mono ?_
   rintro en w0 ⟨rfl, rfl⟩
   rw [HFEW.out]
   go_wp2_with fail
   refine (lWorks21 _ HG.out).mono ?_
   rintro en w1 ⟨rfl, hb1⟩
   go_wp2_with fail
   go_ret
   exact ⟨rfl, hb1⟩
 have b7 : (e == s) = false := by simpa using h7
 by_cases h8 : e = f
 · have b8 : (e == f) = true := by simpa using h8
   clear h0 h1 h2 h3 h4 h5 h6 h7 h8 hno
   go_enter Tryz.func6, Tryz.ntmps6
   go_wp2_with fail
   refine (lFew _ ws _ HWD.out hws HWT.out).mono ?_
   rintro en w0 ⟨rfl, rfl⟩
   rw [HFEW.out]
   go_wp2_with fail
   refine (lWorks21 _ HG.out).mono ?_
   rintro en w1 ⟨rfl, hb1⟩
   go_wp2_with fail
   go_ret
   exact ⟨rfl, hb1⟩
 have b8 : (e == f) = false := by simpa using h8
 by_cases h9 : s = f
 · have b9 : (s == f) = true := by simpa using h9
   clear h0 h1 h2 h3 h4 h5 h6 h7 h8 h9 hno
   go_enter Tryz.func6, Tryz.ntmps6
   go_wp2_with fail
   refine (lFew _ ws _ HWD.out hws HWT.out).mono ?_
   rintro en w0 ⟨rfl, rfl⟩
   rw [HFEW.out]
   go_wp2_with fail
   refine (lWorks21 _ HG.out).mono ?_
   rintro en w1 ⟨rfl, hb1⟩
   go_wp2_with fail
   go_ret
   exact ⟨rfl, hb1⟩
 have b9 : (s == f) = false := by simpa using h9
 by_cases h10 : 5 < ms.length
 · have b10 : decide ((5 : Int) < ms.length) = true := by simp; omega
   clear h0 h1 h2 h3 h4 h5 h6 h7 h8 h9 h10 hno
   go_enter Tryz.func6, Tryz.ntmps6
   go_wp2_with fail
   refine (lFew _ ws _ HWD.out hws HWT.out).mono ?_
   rintro en w0 ⟨rfl, rfl⟩
   rw [HFEW.out]
   go_wp2_with fail
   refine (lWorks21 _ HG.out).mono ?_
   rintro en w1 ⟨rfl, hb1⟩
   go_wp2_with fail
   go_ret
   exact ⟨rfl, hb1⟩
 have b10 : decide ((5 : Int) < ms.length) = false := by simp; omega
 by_cases h11 : 100 < tr.length
 · have b11 : decide ((100 : Int) < tr.length) = true := by simp; omega
   clear h0 h1 h2 h3 h4 h5 h6 h7 h8 h9 h10 h11 hno
   go_enter Tryz.func6, Tryz.ntmps6
   go_wp2_with fail
   refine (lFew _ ws _ HWD.out hws HWT.out).mono ?_
   rintro en w0 ⟨rfl, rfl⟩
   rw [HFEW.out]
   go_wp2_with fail
   refine (lWorks21 _ HG.out).mono ?_
   rintro en w1 ⟨rfl, hb1⟩
   go_wp2_with fail
   go_ret
   exact ⟨rfl, hb1⟩
 have b11 : decide ((100 : Int) < tr.length) = false := by simp; omega
 exact absurd ⟨by omega, by omega, by omega, by omega, HFEW.out, h4, h5, h6, h7, h8, h9, by omega, by omega⟩ hno
end Go.Proofs.YtaaiaahkakkleaaGreatDoor
