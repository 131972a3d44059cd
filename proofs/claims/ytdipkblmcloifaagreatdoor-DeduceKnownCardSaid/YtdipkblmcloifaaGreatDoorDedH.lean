/- The laws of layer 3: works; a mind that is not there. -/
import Derived.Test.YtdipkblmcloifaaGreatDoorDedG
import Derived.Test.YtdipkblmcloifaaGreatDoorDedL
set_option linter.unusedSimpArgs false
set_option linter.unusedVariables false
namespace Go.Proofs.YtdipkblmcloifaaGreatDoor
open Go.RowKit

/-- Is a list taken apart? -/
def apartB (l : List (List UInt8)) : Bool := l.all fun t => match rt t with
  | none => true
  | some x => (x.op.toNat != 84 || x.kids.all l.contains) && (x.op.toNat != 66 || !kn l.contains (x.kids.getD 0 []) || l.contains (x.kids.getD 1 []))
theorem apart_list {l : List (List UInt8)} (h : apartB l = true) : Apart l.contains := by
  intro t x ht hx
  have := List.all_eq_true.1 h t (by simpa using ht)
  rw [hx] at this
  simp only [Bool.and_eq_true, Bool.or_eq_true] at this
  obtain ⟨h1, h2⟩ := this
  refine ⟨fun ho k hk => ?_, fun ho hk => ?_⟩
  · rcases h1 with h1 | h1
    · simp [ho] at h1
    · exact List.all_eq_true.1 h1 k hk
  · rcases h2 with (h2 | h2) | h2
    · simp [ho] at h2
    · rw [hk] at h2; cases h2
    · exact h2
theorem least_list {H S : List UInt8 → Bool} {l : List (List UInt8)} (hL : Least H S) (hH : ∀ t, H t = true → l.contains t = true) (hA : apartB l = true) (hS : ∀ t ∈ l, S t = true) : S = l.contains := by
  funext t
  cases hq : S t with
  | true => exact (hL.2.2 _ hH (apart_list hA) t hq).symm
  | false =>
    cases hc : l.contains t with
    | false => rfl
    | true => rw [hS t (by simpa using hc)] at hq; cases hq
theorem learn_bad {H : List UInt8 → Bool} {n : Nat} {t : List UInt8} (h : right t = false) : learnH H n t = H ∧ learnN H n t = n ∧ learnC H n t = 10 := by
  unfold learnH learnN learnC
  rw [h]; simp
def tB : List UInt8 := [66, 110, 49, 59, 110, 50, 59]
def n1 : List UInt8 := [110, 49, 59]
def n2 : List UInt8 := [110, 50, 59]
theorem works_one : right tB = true ∧ right n1 = true ∧ right n2 = true ∧ right [110] = false ∧ apartB [tB] = true ∧ apartB [tB, n1, n2] = true ∧ (right n2 && kn ([tB] : List (List UInt8)).contains n2) = false := by decide +kernel
theorem works_two : (right n2 && kn ([tB, n1, n2] : List (List UInt8)).contains n2) = true ∧ (right [80, 110, 50, 59] && kn ([tB, n1, n2] : List (List UInt8)).contains [80, 110, 50, 59]) = true ∧ (right [116, 49, 58, 97] && kn ([tB, n1, n2] : List (List UInt8)).contains [116, 49, 58, 97]) = true ∧ (right [110, 51, 59] && kn ([tB, n1, n2] : List (List UInt8)).contains [110, 51, 59]) = false := by decide +kernel
theorem held3 {ks : List (List UInt8)} (hd : ks.Pairwise (fun a b => a ≠ b)) (hk : ∀ t, t ∈ ks ↔ ([tB, n1, n2] : List (List UInt8)).contains t = true) : ks.length = 3 := by
  have : ks.Perm [tB, n1, n2] := (List.perm_ext_iff_of_nodup hd (show ([tB, n1, n2] : List (List UInt8)).Nodup by decide +kernel)).2 (fun x => by rw [hk x]; simp)
  simpa using this.length_eq

set_option maxRecDepth 100000 in
set_option maxHeartbeats 4000000 in
theorem lWorks03 (w : World) (hG : GOk w) : Calls Tryz.prog 17 #[] w fun e w' => e = .returned (.bool true) ∧ Below w.heap.size w w' := by
  have HG := Lib.hid hG
  clear hG
  obtain ⟨rB, r1, r2, rbad, ap1, ap3, k0⟩ := works_one
  obtain ⟨k1, k2, k3, k4⟩ := works_two
  have K0 := Lib.hid k0
  have K1 := Lib.hid k1
  have K2 := Lib.hid k2
  have K3 := Lib.hid k3
  have K4 := Lib.hid k4
  have RB := Lib.hid rB
  have R1 := Lib.hid r1
  have R2 := Lib.hid r2
  have RBD := Lib.hid rbad
  have AP1 := Lib.hid ap1
  have AP3 := Lib.hid ap3
  clear k0 k1 k2 k3 k4 rB r1 r2 rbad ap1 ap3
  go_enter Tryz.func17, Tryz.ntmps17
  go_wp2_with fail
  refine (dNew _ HG.out).mono ?_
  rintro e w1 ⟨M, bh, be, rfl, hM1, hq1, hq2, hq3, hb1⟩
  have HM1 := Lib.hid hM1
  have HG1 := Lib.hid (gok_below HG.out hb1)
  have hg1 : GL [] w w1 := gl_below hb1 (gl_refl _ _)
  have hrs : ∀ r ∈ [bh, be], r ∈ ([] : List Nat) ∨ w.heap.size ≤ r := fun r hr => .inr (by simp at hr; rcases hr with rfl | rfl <;> assumption)
  have HRS := Lib.hid hrs
  clear hM1 hb1 hrs
  go_wp2_with fail
  refine (dLearn M bh be 0 _ _ [66, 110, 49, 59, 110, 50, 59] (by simp) _ HG1.out HM1.out).mono ?_
  rintro e w2 ⟨S2, rfl, hM2, hg2⟩
  have hlow := hM2.low
  have hlo : ∀ r ∈ [bh, be], gN ≤ r := fun r hr => by simp at hr; rcases hr with rfl | rfl; exact hlow.2.1; exact hlow.2.2
  have HLO := Lib.hid hlo
  have HG2 := Lib.hid (gok_gl HG1.out hg2 HLO.out)
  have hgw2 : GL [] w w2 := gl_step hg2 hg1 HRS.out
  have hc1 : learnC (fun _ => false) 0 [66, 110, 49, 59, 110, 50, 59] = 0 := by rw [learnC_few _ _ _ (by omega), if_pos (show right [66, 110, 49, 59, 110, 50, 59] = true from RB.out)]
  have hHB : ∀ t, learnH (fun _ => false) 0 tB t = true ↔ t = tB := fun t => ⟨fun h => by rcases learnH_inv h with h | h; cases h; exact h, fun h => by rw [h]; exact learnH_has RB.out (by omega)⟩
  have e2 : S2 = ([tB] : List (List UInt8)).contains := least_list hM2.least (fun t ht => by rw [(hHB t).1 ht]; simp) AP1.out (fun t ht => by
    simp at ht; subst ht; exact hM2.least.1 _ ((hHB tB).2 rfl))
  subst e2
  rw [hc1]
  have HHB := Lib.hid hHB
  have HM2 := Lib.hid hM2
  have hn2 := (learnN_le (fun _ => false) 0 [66, 110, 49, 59, 110, 50, 59]).2.1
  clear hM2 hHB hg2 hlo hc1 hlow
  generalize learnN (fun _ => false) 0 [66, 110, 49, 59, 110, 50, 59] = nA at *
  have HM2b : Hid (MindAt w2 M bh be (learnH (fun _ => false) 0 tB) ([tB] : List (List UInt8)).contains nA) := HM2
  clear HM2
  generalize learnH (fun _ => false) 0 tB = H1 at *
  go_wp2_with fail
  refine (dKnows M bh be _ _ _ [110, 50, 59] (by simp) _ HG2.out HM2b.out).mono ?_
  rintro e w3 ⟨rfl, hb3⟩
  rw [show (right [110, 50, 59] && kn ([tB] : List (List UInt8)).contains [110, 50, 59]) = false from K0.out]
  have HM3 := Lib.hid (mind_below HM2b.out hb3)
  have HG3 := Lib.hid (gok_below HG2.out hb3)
  have hgw3 : GL [] w w3 := gl_below hb3 hgw2
  clear hb3
  go_wp2_with fail
  refine (dLearn M bh be nA _ _ [110] (by simp) _ HG3.out HM3.out).mono ?_
  rintro e w4 ⟨S4, rfl, hM4, hg4⟩
  obtain ⟨q1, q2, q3⟩ := learn_bad (H := H1) (n := nA) RBD.out
  rw [q1, q2] at hM4
  rw [q3]
  have e4 : S4 = ([tB] : List (List UInt8)).contains := least_one hM4.least HM3.out.least
  subst e4
  have HM4 := Lib.hid hM4
  have HG4 := Lib.hid (gok_gl HG3.out hg4 HLO.out)
  have hgw4 : GL [] w w4 := gl_step hg4 hgw3 HRS.out
  clear hM4 hg4 q1 q2 q3
  go_wp2_with fail
  refine (dLearn M bh be nA _ _ [110, 49, 59] (by simp) _ HG4.out HM4.out).mono ?_
  rintro e w5 ⟨S5, rfl, hM5, hg5⟩
  have hc5 : learnC H1 nA [110, 49, 59] = 0 := by rw [learnC_few _ _ _ (by omega), if_pos (show right [110, 49, 59] = true from R1.out)]
  rw [hc5]
  have hB5 : learnH H1 nA n1 tB = true := learnH_old ((HHB.out tB).2 rfl)
  have hN5 : learnH H1 nA n1 n1 = true := learnH_has R1.out (by omega)
  have hM5b : MindAt w5 M bh be (learnH H1 nA n1) S5 (learnN H1 nA n1) := hM5
  have e5 : S5 = ([tB, n1, n2] : List (List UInt8)).contains := least_list hM5b.least (fun t ht => by
      rcases learnH_inv ht with h | h
      · rw [(HHB.out t).1 h]; simp
      · rw [h]; simp) AP3.out (fun t ht => by
    have hSB := hM5b.least.1 _ hB5
    have hS1 := hM5b.least.1 _ hN5
    simp at ht
    rcases ht with rfl | rfl | rfl
    · exact hSB
    · exact hS1
    · obtain ⟨x, hx⟩ := right_some RB.out
      obtain ⟨o1, o2⟩ := rt_two_is (c := 66) (a := n1) (b := n2) hx rfl R1.out
      have := (hM5b.least.2.1 tB x hSB hx).2 (by rw [o1]; rfl) (by rw [o2]; exact kn_held R1.out hS1)
      rw [o2] at this
      exact this)
  subst e5
  have HM5 := Lib.hid hM5b
  have HG5 := Lib.hid (gok_gl HG4.out hg5 HLO.out)
  have hgw5 : GL [] w w5 := gl_step hg5 hgw4 HRS.out
  clear hM5 hM5b hg5 hB5 hN5 hc5
  generalize learnH H1 nA n1 = H5 at *
  generalize learnN H1 nA n1 = n5 at *
  go_wp2_with fail
  refine (dKnows M bh be _ _ _ [110, 50, 59] (by simp) _ HG5.out HM5.out).mono ?_
  rintro e w6 ⟨rfl, hb6⟩
  rw [show (right [110, 50, 59] && kn ([tB, n1, n2] : List (List UInt8)).contains [110, 50, 59]) = true from K1.out]
  have HM6 := Lib.hid (mind_below HM5.out hb6)
  have HG6 := Lib.hid (gok_below HG5.out hb6)
  have hgw6 : GL [] w w6 := gl_below hb6 hgw5
  clear hb6
  go_wp2_with fail
  refine (dKnows M bh be _ _ _ [80, 110, 50, 59] (by simp) _ HG6.out HM6.out).mono ?_
  rintro e w7 ⟨rfl, hb7⟩
  rw [show (right [80, 110, 50, 59] && kn ([tB, n1, n2] : List (List UInt8)).contains [80, 110, 50, 59]) = true from K2.out]
  have HM7 := Lib.hid (mind_below HM6.out hb7)
  have HG7 := Lib.hid (gok_below HG6.out hb7)
  have hgw7 : GL [] w w7 := gl_below hb7 hgw6
  clear hb7
  go_wp2_with fail
  refine (dKnows M bh be _ _ _ [116, 49, 58, 97] (by simp) _ HG7.out HM7.out).mono ?_
  rintro e w8 ⟨rfl, hb8⟩
  rw [show (right [116, 49, 58, 97] && kn ([tB, n1, n2] : List (List UInt8)).contains [116, 49, 58, 97]) = true from K3.out]
  have HM8 := Lib.hid (mind_below HM7.out hb8)
  have HG8 := Lib.hid (gok_below HG7.out hb8)
  have hgw8 : GL [] w w8 := gl_below hb8 hgw7
  clear hb8
  go_wp2_with fail
  refine (dKnows M bh be _ _ _ [110, 51, 59] (by simp) _ HG8.out HM8.out).mono ?_
  rintro e w9 ⟨rfl, hb9⟩
  rw [show (right [110, 51, 59] && kn ([tB, n1, n2] : List (List UInt8)).contains [110, 51, 59]) = false from K4.out]
  have HM9 := Lib.hid (mind_below HM8.out hb9)
  have HG9 := Lib.hid (gok_below HG8.out hb9)
  have hgw9 : GL [] w w9 := gl_below hb9 hgw8
  clear hb9
  go_wp2_with fail
  refine (dHeld M bh be _ _ _ _ HM9.out).mono ?_
  rintro e w10 ⟨v, ks, rfl, hd, hk, hl, hown, hb10⟩
  have h3 := held3 hd hk
  obtain ⟨ad, kn, kc, hv⟩ := own_slice hown
  subst hv
  have hkn := own_len hown
  rw [h3] at hkn
  clear hd hk hown h3
  subst hkn
  go_wp2_with fail
  go_ret
  exact ⟨by first | rfl | (simp; done), gl_to_below (gl_below hb10 hgw9)⟩
end Go.Proofs.YtdipkblmcloifaaGreatDoor
