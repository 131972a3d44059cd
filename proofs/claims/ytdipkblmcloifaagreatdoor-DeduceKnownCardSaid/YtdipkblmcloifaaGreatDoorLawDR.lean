/- The laws of layer 3: who has heard any terms knows just what can be made of them, and holds just what can be taken apart. -/
import Derived.Test.YtdipkblmcloifaaGreatDoorLawDB
import Derived.Test.YtdipkblmcloifaaGreatDoorR3G
import Derived.Test.YtdipkblmcloifaaGreatDoorRegI
set_option linter.unusedSimpArgs false
set_option linter.unusedVariables false
namespace Go.Proofs.YtdipkblmcloifaaGreatDoor
open Go.RowKit

theorem dHeldT (M bh be n : Nat) (H S : List UInt8 → Bool) (w : World) (hM : MindAt w M bh be H S n) :
    Calls Tryz.prog 14 #[.pointer (some ⟨M, 0, none⟩)] w fun e w' => ∃ (v : Value) (ks : List (List UInt8)), e = .returned v ∧ ks.Pairwise (fun a b => a ≠ b) ∧ (∀ t, t ∈ ks ↔ S t = true) ∧ (ks.mergeSort leS).length ≤ 16777216 ∧ OwnT w.heap.size v (ks.mergeSort leS) w' ∧ Below w.heap.size w w' :=
  (dHeld M bh be n H S w hM).mono fun e w' ⟨v, ks, h1, h2, h3, h4, h5, h6⟩ => ⟨v, ks, h1, h2, h3, by rw [List.length_mergeSort]; exact h4, by unfold OwnT; rw [List.length_mergeSort]; exact h5, h6⟩
theorem held_same {S : List UInt8 → Bool} {ks l out : List (List UInt8)} (h1 : ks.Pairwise (fun a b => a ≠ b)) (h2 : ∀ t, t ∈ ks ↔ S t = true) (h3 : out.Pairwise (fun a b => leS a b = true)) (h4 : out.Perm l) (h5 : l.Pairwise (fun a b => a ≠ b)) (h6 : ∀ t, t ∈ l ↔ S t = true) : ks.mergeSort leS = out :=
  sort_perm h3 (h4.trans (perm_of_mem h5 h1 (fun x => (h6 x).trans (h2 x).symm)))
theorem heard_memK (L : List (List UInt8)) (t : List UInt8) : heardP L t = true ↔ t ∈ L.filter right := by
  unfold heardP
  rw [Bool.and_eq_true, decide_eq_true_eq, List.mem_filter]
  exact And.comm
set_option maxRecDepth 100000 in
set_option maxHeartbeats 4000000 in
theorem r3Same (xs : List (List UInt8)) (hn : xs.length ≤ 9000000000000000000) (u v : Value) (w : World) (hu : TermsAt u xs w) (hv : TermsAt v xs w) :
    Calls Tryz.prog 15 #[u, v] w fun e w' => e = .returned (.bool true) ∧ Below w.heap.size w w' := by
  obtain ⟨xa, xc, rfl, hx⟩ := termsAt_sp hu
  obtain ⟨ya, yc, rfl, hy⟩ := termsAt_sp hv
  have HX := Lib.hid hx
  have HY := Lib.hid hy
  clear hx hy hu hv
  go_enter Tryz.func15, Tryz.ntmps15
  go_wp2
  go_loopw [5] (fun iv wr => ∃ (j : Nat), j ≤ xs.length ∧ iv = .int .i64 j ∧ Hid (GL [] w wr)) (fun iv _ => xs.length - (intOf iv).toNat)
  case atStart => exact ⟨0, by omega, rfl, Lib.hid (gl_refl _ _)⟩
  case round =>
    obtain ⟨j, hj, rfl, hgr⟩ := hrel
    by_cases hlt : j < xs.length
    · have i3 : (j : Int) < xs.length := by omega
      rcases HX.out with h0 | ⟨b, o, rfl, hb, hc1⟩
      · subst h0; simp at hlt
      rcases HY.out with h0 | ⟨b2, o2, rfl, hb2, hc2⟩
      · subst h0; simp at hlt
      have d1 := cell_glx (hc1 j xs[j] (List.getElem?_eq_getElem hlt)) hgr.out (by simp)
      have d2 := cell_glx (hc2 j xs[j] (List.getElem?_eq_getElem hlt)) hgr.out (by simp)
      clear HX HY hc1 hc2
      generalize xs[j] = xj at *
      go_wp2
      go_quiet (fail)
      go_wp2
      go_roundw
      case rel => exact ⟨j + 1, by omega, by go_num, Lib.hid (by have := hgr.out; (repeat' (first | with_reducible exact gl_refl _ _ | with_reducible assumption | with_reducible refine gl_alloc ?_ _ | with_reducible refine gl_drewN ?_ _ | with_reducible refine gl_drew ?_ | (with_reducible refine gl_setn ?_ ?_ _; · (first | exact Nat.le_refl _ | (simp; done) | (simp; omega) | omega)) | (with_reducible refine gl_seti ?_ ?_ _; · (simp; done)) | with_reducible refine gl_below (by with_reducible assumption) ?_ | with_reducible refine gl_step (by with_reducible assumption) ?_ (by first | (simp; done) | (simp; omega)) | with_reducible refine gl_grown (by with_reducible assumption) ?_ (by first | (simp; done) | (simp; omega)))))⟩
      case measure => simp [intOf]; omega
    · obtain rfl : j = xs.length := by omega
      have i4 : decide ((xs.length : Int) < xs.length) = false := by simp
      go_wp2
      go_ret
      exact ⟨by first | rfl | (simp; done), gl_to_below (by have := hgr.out; (repeat' (first | with_reducible exact gl_refl _ _ | with_reducible assumption | with_reducible refine gl_alloc ?_ _ | with_reducible refine gl_drewN ?_ _ | with_reducible refine gl_drew ?_ | (with_reducible refine gl_setn ?_ ?_ _; · (first | exact Nat.le_refl _ | (simp; done) | (simp; omega) | omega)) | (with_reducible refine gl_seti ?_ ?_ _; · (simp; done)) | with_reducible refine gl_below (by with_reducible assumption) ?_ | with_reducible refine gl_step (by with_reducible assumption) ?_ (by first | (simp; done) | (simp; omega)) | with_reducible refine gl_grown (by with_reducible assumption) ?_ (by first | (simp; done) | (simp; omega)))))⟩
/-- A row that is written over. -/
def Spo (v : Value) (n : Nat) (w wr : World) : Prop :=
  GL v.ownBlock.toList w wr ∧ (n = 0 ∨ ∃ (g c : Nat) (cur : Array Value), v = .slice (some ⟨g, 0, none⟩) n c ∧ n ≤ c ∧ cur.size = c ∧ wr.heap[g]? = some (.cells cur 28 (0, 0)))
theorem spo_start {lo : Nat} {v : Value} {xs : List (List UInt8)} {w : World} (h : OwnT lo v xs w) : Spo v xs.length w w := by
  refine ⟨gl_refl _ _, ?_⟩
  rcases h.2 with ⟨_, h⟩ | ⟨g, cap, cur, h1, _, h3, h4, _, h6, _⟩
  · exact .inl h
  · exact .inr ⟨g, cap, cur, h1, h4, by rw [h6]; omega, h3⟩

def k9DS : List (Option Nat) := [some 32, some 33, some 34, some 35, some 36, some 37, some 38, some 39, some 40, some 41, some 42, some 43, some 44]
def k9GS (M g o n uc i xn xc : Nat) (xa : Option Addr) (t : List UInt8) (b1 : Bool) : List (Option Value) := [some (.pointer (some ⟨M, 0, none⟩)), some (.slice (some ⟨g, o, none⟩) n uc), some (.int .i64 i), some (.pointer (some ⟨g, o + i, none⟩)), some (.string (bs t)), some (.bool b1), some (.slice xa xn xc), some (.slice (some ⟨g, o, none⟩) n uc), some (.int .i64 i), some (.pointer (some ⟨g, o + i, none⟩)), some (.string (bs t)), some (.bool b1), some (.bool false)]
section
variable {ops : Array Oper} {Q : Exit → Act → World → Prop} {a0 : Act} {I : World → Prop} {af : Array Edge} {ty : Nat} {pos : String} {at_ : Array TypeId} {M g o n uc i xn xc : Nat} {xa : Option Addr} {t : List UInt8} {b1 : Bool}
set_option maxRecDepth 100000 in
set_option maxHeartbeats 1000000 in
theorem k932 (o5 : a0.tmps[5]? = some (.pointer (some ⟨M, 0, none⟩))) : StepI Tryz.prog ops Q a0 k9DS I (GV (k9GS M g o n uc i xn xc xa t b1)) 0 { dst := some 32, op := .move (.tmp 5), type := ty, pos := pos, after := af, guard := none } := by
  intro a w hout hI hdep K hK
  rw [if_pos (by simp [Region.wanted])]
  have o5w := (hout 5 (by decide)).trans o5
  clear hout hdep
  clear o5
  go_simp
  exact hK _ _ (gv_of rfl (by first | rfl | (simp; done))) hI
set_option maxRecDepth 100000 in
set_option maxHeartbeats 1000000 in
theorem k933 (o1 : a0.tmps[1]? = some (.slice (some ⟨g, o, none⟩) n uc)) : StepI Tryz.prog ops Q a0 k9DS I (GV (k9GS M g o n uc i xn xc xa t b1)) 1 { dst := some 33, op := .move (.tmp 1), type := ty, pos := pos, after := af, guard := none } := by
  intro a w hout hI hdep K hK
  rw [if_pos (by simp [Region.wanted])]
  have o1w := (hout 1 (by decide)).trans o1
  clear hout hdep
  clear o1
  go_simp
  exact hK _ _ (gv_of rfl (by first | rfl | (simp; done))) hI
set_option maxRecDepth 100000 in
set_option maxHeartbeats 1000000 in
theorem k934 (o7 : a0.tmps[7]? = some (.int .i64 i)) : StepI Tryz.prog ops Q a0 k9DS I (GV (k9GS M g o n uc i xn xc xa t b1)) 2 { dst := some 34, op := .move (.tmp 7), type := ty, pos := pos, after := af, guard := none } := by
  intro a w hout hI hdep K hK
  rw [if_pos (by simp [Region.wanted])]
  have o7w := (hout 7 (by decide)).trans o7
  clear hout hdep
  clear o7
  go_simp
  exact hK _ _ (gv_of rfl (by first | rfl | (simp; done))) hI
set_option maxRecDepth 100000 in
set_option maxHeartbeats 1000000 in
theorem k935 (h33 : (⟨1, .data⟩ : Edge) ∈ af.toList) (h34 : (⟨2, .data⟩ : Edge) ∈ af.toList) (hlt : (i : Int) < (n : Int)) : StepI Tryz.prog ops Q a0 k9DS I (GV (k9GS M g o n uc i xn xc xa t b1)) 3 { dst := some 35, op := .indexAddr 22 (.tmp 33) (.tmp 34), type := ty, pos := pos, after := af, guard := none } := by
  intro a w hout hI hdep K hK
  rw [if_pos (by simp [Region.wanted])]
  obtain ⟨v33, g33, e33⟩ := hdep ⟨1, .data⟩ h33 rfl
  have e33 := e33 33 rfl
  have g33 := g33 _ rfl
  subst g33
  obtain ⟨v34, g34, e34⟩ := hdep ⟨2, .data⟩ h34 rfl
  have e34 := e34 34 rfl
  have g34 := g34 _ rfl
  subst g34
  clear hout hdep
  go_simp
  exact hK _ _ (gv_of rfl (by first | rfl | (simp; done))) hI
set_option maxRecDepth 100000 in
set_option maxHeartbeats 1000000 in
theorem k936 (h35 : (⟨3, .data⟩ : Edge) ∈ af.toList) (hL : ∀ w, I w → w.cell? ⟨g, o + i, none⟩ = some (.string (bs t))) : StepI Tryz.prog ops Q a0 k9DS I (GV (k9GS M g o n uc i xn xc xa t b1)) 4 { dst := some 36, op := .load 28 (.tmp 35), type := ty, pos := pos, after := af, guard := none } := by
  intro a w hout hI hdep K hK
  rw [if_pos (by simp [Region.wanted])]
  obtain ⟨v35, g35, e35⟩ := hdep ⟨3, .data⟩ h35 rfl
  have e35 := e35 35 rfl
  have g35 := g35 _ rfl
  subst g35
  have hLw := hL w hI
  clear hout hdep
  go_simp
  exact hK _ _ (gv_of rfl (by first | rfl | (simp; done))) hI
set_option maxRecDepth 100000 in
set_option maxHeartbeats 1000000 in
theorem k937 (h32 : (⟨0, .data⟩ : Edge) ∈ af.toList) (h36 : (⟨4, .data⟩ : Edge) ∈ af.toList) (hC : ∀ w, I w → Calls Tryz.prog 12 #[.pointer (some ⟨M, 0, none⟩), .string (bs t)] w fun e w' => e = .returned (.bool b1) ∧ I w') : StepI Tryz.prog ops Q a0 k9DS I (GV (k9GS M g o n uc i xn xc xa t b1)) 5 { dst := some 37, op := .call { callee := .value (.func 12), args := #[.tmp 32, .tmp 36], argTypes := at_ }, type := ty, pos := pos, after := af, guard := none } := by
  intro a w hout hI hdep K hK
  rw [if_pos (by simp [Region.wanted])]
  obtain ⟨v32, g32, e32⟩ := hdep ⟨0, .data⟩ h32 rfl
  have e32 := e32 32 rfl
  have g32 := g32 _ rfl
  subst g32
  obtain ⟨v36, g36, e36⟩ := hdep ⟨4, .data⟩ h36 rfl
  have e36 := e36 36 rfl
  have g36 := g36 _ rfl
  subst g36
  clear hout hdep
  go_simp
  refine (hC w hI).mono ?_
  rintro e w1 ⟨rfl, hI1⟩
  exact hK _ _ (gv_of rfl rfl) hI1
set_option maxRecDepth 100000 in
set_option maxHeartbeats 1000000 in
theorem k938 (o6 : a0.tmps[6]? = some (.slice xa xn xc)) : StepI Tryz.prog ops Q a0 k9DS I (GV (k9GS M g o n uc i xn xc xa t b1)) 6 { dst := some 38, op := .move (.tmp 6), type := ty, pos := pos, after := af, guard := none } := by
  intro a w hout hI hdep K hK
  rw [if_pos (by simp [Region.wanted])]
  have o6w := (hout 6 (by decide)).trans o6
  clear hout hdep
  clear o6
  go_simp
  exact hK _ _ (gv_of rfl (by first | rfl | (simp; done))) hI
set_option maxRecDepth 100000 in
set_option maxHeartbeats 1000000 in
theorem k939 (o1 : a0.tmps[1]? = some (.slice (some ⟨g, o, none⟩) n uc)) : StepI Tryz.prog ops Q a0 k9DS I (GV (k9GS M g o n uc i xn xc xa t b1)) 7 { dst := some 39, op := .move (.tmp 1), type := ty, pos := pos, after := af, guard := none } := by
  intro a w hout hI hdep K hK
  rw [if_pos (by simp [Region.wanted])]
  have o1w := (hout 1 (by decide)).trans o1
  clear hout hdep
  clear o1
  go_simp
  exact hK _ _ (gv_of rfl (by first | rfl | (simp; done))) hI
set_option maxRecDepth 100000 in
set_option maxHeartbeats 1000000 in
theorem k940 (o7 : a0.tmps[7]? = some (.int .i64 i)) : StepI Tryz.prog ops Q a0 k9DS I (GV (k9GS M g o n uc i xn xc xa t b1)) 8 { dst := some 40, op := .move (.tmp 7), type := ty, pos := pos, after := af, guard := none } := by
  intro a w hout hI hdep K hK
  rw [if_pos (by simp [Region.wanted])]
  have o7w := (hout 7 (by decide)).trans o7
  clear hout hdep
  clear o7
  go_simp
  exact hK _ _ (gv_of rfl (by first | rfl | (simp; done))) hI
set_option maxRecDepth 100000 in
set_option maxHeartbeats 1000000 in
theorem k941 (h39 : (⟨7, .data⟩ : Edge) ∈ af.toList) (h40 : (⟨8, .data⟩ : Edge) ∈ af.toList) (hlt : (i : Int) < (n : Int)) : StepI Tryz.prog ops Q a0 k9DS I (GV (k9GS M g o n uc i xn xc xa t b1)) 9 { dst := some 41, op := .indexAddr 22 (.tmp 39) (.tmp 40), type := ty, pos := pos, after := af, guard := none } := by
  intro a w hout hI hdep K hK
  rw [if_pos (by simp [Region.wanted])]
  obtain ⟨v39, g39, e39⟩ := hdep ⟨7, .data⟩ h39 rfl
  have e39 := e39 39 rfl
  have g39 := g39 _ rfl
  subst g39
  obtain ⟨v40, g40, e40⟩ := hdep ⟨8, .data⟩ h40 rfl
  have e40 := e40 40 rfl
  have g40 := g40 _ rfl
  subst g40
  clear hout hdep
  go_simp
  exact hK _ _ (gv_of rfl (by first | rfl | (simp; done))) hI
set_option maxRecDepth 100000 in
set_option maxHeartbeats 1000000 in
theorem k942 (h41 : (⟨9, .data⟩ : Edge) ∈ af.toList) (hL : ∀ w, I w → w.cell? ⟨g, o + i, none⟩ = some (.string (bs t))) : StepI Tryz.prog ops Q a0 k9DS I (GV (k9GS M g o n uc i xn xc xa t b1)) 10 { dst := some 42, op := .load 28 (.tmp 41), type := ty, pos := pos, after := af, guard := none } := by
  intro a w hout hI hdep K hK
  rw [if_pos (by simp [Region.wanted])]
  obtain ⟨v41, g41, e41⟩ := hdep ⟨9, .data⟩ h41 rfl
  have e41 := e41 41 rfl
  have g41 := g41 _ rfl
  subst g41
  have hLw := hL w hI
  clear hout hdep
  go_simp
  exact hK _ _ (gv_of rfl (by first | rfl | (simp; done))) hI
set_option maxRecDepth 100000 in
set_option maxHeartbeats 1000000 in
theorem k943 (h38 : (⟨6, .data⟩ : Edge) ∈ af.toList) (h42 : (⟨10, .data⟩ : Edge) ∈ af.toList) (hC : ∀ w, I w → Calls Tryz.prog 13 #[.slice xa xn xc, .string (bs t)] w fun e w' => e = .returned (.bool b1) ∧ I w') : StepI Tryz.prog ops Q a0 k9DS I (GV (k9GS M g o n uc i xn xc xa t b1)) 11 { dst := some 43, op := .call { callee := .value (.func 13), args := #[.tmp 38, .tmp 42], argTypes := at_ }, type := ty, pos := pos, after := af, guard := none } := by
  intro a w hout hI hdep K hK
  rw [if_pos (by simp [Region.wanted])]
  obtain ⟨v38, g38, e38⟩ := hdep ⟨6, .data⟩ h38 rfl
  have e38 := e38 38 rfl
  have g38 := g38 _ rfl
  subst g38
  obtain ⟨v42, g42, e42⟩ := hdep ⟨10, .data⟩ h42 rfl
  have e42 := e42 42 rfl
  have g42 := g42 _ rfl
  subst g42
  clear hout hdep
  go_simp
  refine (hC w hI).mono ?_
  rintro e w1 ⟨rfl, hI1⟩
  exact hK _ _ (gv_of rfl rfl) hI1
set_option maxRecDepth 100000 in
set_option maxHeartbeats 1000000 in
theorem k944 (h37 : (⟨5, .data⟩ : Edge) ∈ af.toList) (h43 : (⟨11, .data⟩ : Edge) ∈ af.toList) : StepI Tryz.prog ops Q a0 k9DS I (GV (k9GS M g o n uc i xn xc xa t b1)) 12 { dst := some 44, op := .binOp .neq 4 (.tmp 37) (.tmp 43) 4, type := ty, pos := pos, after := af, guard := none } := by
  intro a w hout hI hdep K hK
  rw [if_pos (by simp [Region.wanted])]
  obtain ⟨v37, g37, e37⟩ := hdep ⟨5, .data⟩ h37 rfl
  have e37 := e37 37 rfl
  have g37 := g37 _ rfl
  subst g37
  obtain ⟨v43, g43, e43⟩ := hdep ⟨11, .data⟩ h43 rfl
  have e43 := e43 43 rfl
  have g43 := g43 _ rfl
  subst g43
  clear hout hdep
  go_simp
  exact hK _ _ (gv_of rfl (by first | rfl | (simp; done))) hI
end
set_option maxRecDepth 100000 in
set_option maxHeartbeats 8000000 in
theorem lDeduceKnows (l1 l2 : List (List UInt8)) (v1 v2 : Value) (w : World) (hv1 : TermsAt v1 l1 w) (hv2 : TermsAt v2 l2 w)
    (hn1 : l1.length ≤ 9000000000000000000) (hn2 : l2.length ≤ 9000000000000000000) (ht1 : ∀ t ∈ l1, t.length ≤ 9000000000000000000) (ht2 : ∀ t ∈ l2, t.length ≤ 9000000000000000000) (hG : GOk w) :
    Calls Tryz.prog 3 #[v1, v2] w fun e w' => e = .returned (.bool true) ∧ Below w.heap.size w w' := by
  obtain ⟨a1, c1, hl1, hd1⟩ := termsAt_sp hv1
  obtain ⟨a2, c2, hl2, hd2⟩ := termsAt_sp hv2
  have HV1 := Lib.hid hv1
  have HD1 := Lib.hid hd1
  have HT1 := Lib.hid ht1
  have HV2 := Lib.hid hv2
  have HD2 := Lib.hid hd2
  have HT2 := Lib.hid ht2
  have HG := Lib.hid hG
  clear hv1 hv2 ht1 ht2 hG hd1 hd2
  subst hl1 hl2
  go_enter Tryz.func3, Tryz.ntmps3
  go_wp2_with fail
  refine (lSmall l1 hn1 HT1.out _ _ HV1.out).mono ?_
  rintro e z1 ⟨b1, rfl, hb1, hz1⟩
  have hz1 := hz1.symm
  subst hz1
  cases b1 with
  | false =>
    go_wp2_with fail
    go_ret
    exact ⟨by first | rfl | (simp; done), Below.refl _ _⟩
  | true =>
  have h41 := hb1 rfl
  clear hb1
  go_wp2_with fail
  refine (lSmall l2 hn2 HT2.out _ _ HV2.out).mono ?_
  rintro e z2 ⟨b2, rfl, hb2, hz2⟩
  have hz2 := hz2.symm
  subst hz2
  cases b2 with
  | false =>
    go_wp2_with fail
    go_ret
    exact ⟨by first | rfl | (simp; done), Below.refl _ _⟩
  | true =>
  have h42 := hb2 rfl
  clear hb2
  go_wp2_with fail
  refine (lMindO l1 h41 HT1.out _ _ HV1.out HG.out).mono ?_
  rintro e w1 ⟨M, bh, be, k, S, hd, B, rfl, hM1, hk, hO1, hq1, hq2, hq3, hB1, hB2, hB3, hb1⟩
  have hO1 : OwnT B hd (l1.filter right) w1 := hO1
  obtain ⟨xa, xc, rfl⟩ := ownT_form hO1
  have HM1 := Lib.hid hM1
  have HO1 := Lib.hid hO1
  have hg1 : GL [] w w1 := gl_below hb1 (gl_refl _ _)
  have hml := mind_lt hM1
  have hsz1 := hb1.size
  have hfl : (l1.filter right).length ≤ 40 := by have := List.length_filter_le right l1; omega
  have HXR := Lib.hid (show (∀ t ∈ l1.filter right, right t = true) ∧ ∀ t, heardP l1 t = true ↔ t ∈ l1.filter right from ⟨fun t ht => (List.mem_filter.1 ht).2, fun t => heard_memK _ t⟩)
  clear hM1 hO1 hb1
  generalize heardP l1 = H at *
  generalize l1.filter right = X at *
  go_wp2_with fail
  go_loopw [7] (fun iv wr => ∃ i : Nat, i ≤ l2.length ∧ iv = .int .i64 i ∧ Hid (GL [] w1 wr)) (fun iv _ => l2.length - (intOf iv).toNat)
  case atStart => exact ⟨0, by omega, rfl, Lib.hid (gl_refl _ _)⟩
  case round =>
    obtain ⟨i, hi, rfl, hgr⟩ := hrel
    by_cases hlt : i < l2.length
    · have i1 : (i : Int) < l2.length := by omega
      rcases HD2.out with h0 | ⟨g, o, rfl, hgl, hcc⟩
      · rw [h0] at hlt; simp at hlt
      have hx : l2[i]? = some l2[i] := List.getElem?_eq_getElem hlt
      have c0 := cell_glx (cell_glx (hcc i _ hx) hg1 (by simp)) hgr.out (by simp)
      have hl := HT2.out _ (List.getElem_mem hlt)
      clear hcc hx
      generalize l2[i] = t at *
      have hK1 : ∀ W, GL [] wr W → Calls Tryz.prog 12 #[.pointer (some ⟨M, 0, none⟩), .string (bs t)] W fun e W' => e = .returned (.bool (right t && kn S t)) ∧ GL [] wr W' := fun W hW => (dKnows M bh be k H S t hl W (gok_gl HG.out (gl_step (gl_step hW hgr.out (by simp)) hg1 (by simp)) (by simp)) (mind_gl HM1.out (gl_step hW hgr.out (by simp)) (by simp) (by simp) (by simp))).mono (fun e W' h => ⟨h.1, gl_below h.2 hW⟩)
      have hR1 : ∀ W, GL [] wr W → Calls Tryz.prog 13 #[.slice xa X.length xc, .string (bs t)] W fun e W' => e = .returned (.bool (right t && kn S t)) ∧ GL [] wr W' := fun W hW => (r3Knows H S HM1.out.least X (by omega) HXR.out.1 HXR.out.2 t hl _ W (ownT_at (ownT_gl HO1.out (gl_step hW hgr.out (by simp)) (by simp)))).mono (fun e W' h => ⟨h.1, gl_below h.2 hW⟩)
      generalize (right t && kn S t) = b1 at *
      go_upto_region 9 with fail
      refine wp_region_I (ds := k9DS) (I := (fun W => GL [] wr W)) (G := GV (k9GS M g o l2.length c2 i X.length xc xa t b1)) rfl rfl (distinct_of _ (by decide +kernel)) ?_ (by kernel_rfl) (gl_drew (gl_refl [] _)) ?_ ?_
      · intro d hd
        exact Nat.lt_of_lt_of_le (ltB_of (n := 71) k9DS (by decide +kernel) d hd) (by simp)
      · exact ⟨k932 (by simp), k933 (by simp), k934 (by simp), k935 (by simp) (by simp) i1, k936 (by simp) (fun w h => cell_glx c0 h (by simp)), k937 (by simp) (by simp) hK1, k938 (by simp), k939 (by simp), k940 (by simp), k941 (by simp) (by simp) i1, k942 (by simp) (fun w h => cell_glx c0 h (by simp)), k943 (by simp) (by simp) hR1, k944 (by simp) (by simp), trivial⟩
      · intro vs w' hl hv hI
        have hl0 : vs.length = 13 := hl
        clear hl
        obtain ⟨x0, r0, rfl, hl1⟩ := cons_of hl0
        clear hl0
        obtain ⟨x1, r1, rfl, hl2⟩ := cons_of hl1
        clear hl1
        obtain ⟨x2, r2, rfl, hl3⟩ := cons_of hl2
        clear hl2
        obtain ⟨x3, r3, rfl, hl4⟩ := cons_of hl3
        clear hl3
        obtain ⟨x4, r4, rfl, hl5⟩ := cons_of hl4
        clear hl4
        obtain ⟨x5, r5, rfl, hl6⟩ := cons_of hl5
        clear hl5
        obtain ⟨x6, r6, rfl, hl7⟩ := cons_of hl6
        clear hl6
        obtain ⟨x7, r7, rfl, hl8⟩ := cons_of hl7
        clear hl7
        obtain ⟨x8, r8, rfl, hl9⟩ := cons_of hl8
        clear hl8
        obtain ⟨x9, r9, rfl, hl10⟩ := cons_of hl9
        clear hl9
        obtain ⟨x10, r10, rfl, hl11⟩ := cons_of hl10
        clear hl10
        obtain ⟨x11, r11, rfl, hl12⟩ := cons_of hl11
        clear hl11
        obtain ⟨x12, r12, rfl, hl13⟩ := cons_of hl12
        clear hl12
        have e12 : x12 = .bool false := hv 12 x12 (by simp) _ rfl
        subst e12
        obtain rfl : r12 = [] := List.eq_nil_of_length_eq_zero hl13
        clear hv
        simp only [k9DS, setAll, List.setIfInBounds_toArray, List.set_cons_zero, List.set_cons_succ]
        have hgw := gl_step hI hgr.out (by simp)
        clear hI hK1 hR1 c0
        go_wp2_with fail
        go_roundw
        case rel => exact ⟨i + 1, by omega, by go_num, Lib.hid hgw⟩
        case measure => simp [intOf]; omega
    · obtain rfl : i = l2.length := by omega
      have hszA := hgr.out.size
      go_wp2_with fail
      refine (dHeldT M bh be k H S _ (mind_gl HM1.out hgr.out (by simp) (by simp) (by simp))).mono ?_
      rintro e w2 ⟨v, ks, rfl, hk1, hk2, hk3, hO2, hb2⟩
      obtain ⟨mm, hmm⟩ : ∃ mm, mm = ks.mergeSort leS := ⟨_, rfl⟩
      rw [← hmm] at hk3 hO2
      have HMM := Lib.hid hmm
      clear hmm
      obtain ⟨va, vc, rfl⟩ := ownT_form hO2
      have HO2 := Lib.hid hO2
      have HKS := Lib.hid (And.intro hk1 hk2)
      have hg2 : GL [] w1 w2 := gl_below hb2 hgr.out
      have hsz2 := hb2.size
      clear hO2 hk1 hk2 hb2
      go_wp2_with fail
      refine (r3Held H S HM1.out.least X (by omega) HXR.out.1 HXR.out.2 _ _ (ownT_at (ownT_gl HO1.out hg2 (by simp)))).mono ?_
      rintro e w3 ⟨u, out, l, rfl, hO3, hs1, hs2, hs3, hs4, hs5, hb3⟩
      obtain ⟨ua, uc, rfl⟩ := ownT_form hO3
      have he : out = mm := (HMM.out.trans (held_same HKS.out.1 HKS.out.2 hs1 hs2 hs3 hs4)).symm
      have HO3 := Lib.hid hO3
      have HO23 := Lib.hid (ownT_below HO2.out hb3)
      have hg3 : GL [] w1 w3 := gl_below hb3 hg2
      have hsz3 := hb3.size
      clear hO3 hs1 hs2 hs3 hs4 hb3 HO2
      clear HMM
      subst he
      go_wp2_with fail
      refine (r3Same out (by omega) _ _ _ (ownT_at HO23.out) (ownT_at HO3.out)).mono ?_
      rintro e w4 ⟨rfl, hb4⟩
      have HO4 := Lib.hid (ownT_below HO23.out hb4)
      have hg4 : GL [] w1 w4 := gl_below hb4 hg3
      have HSP := Lib.hid (spo_start HO4.out)
      have HVB := Lib.hid (fun r hr => (ownT_blk HO4.out r hr).1)
      have hsz4 := hb4.size
      clear hb4 HO23 HO3 HO4
      go_wp2_with fail
      go_loopw [10] (fun iv wr => ∃ i : Nat, i ≤ out.length ∧ iv = .int .i64 i ∧ Hid (Spo (.slice va out.length vc) out.length w4 wr)) (fun iv _ => out.length - (intOf iv).toNat)
      case atStart => exact ⟨0, by omega, rfl, HSP⟩
      case round =>
        clear hi HSP
        obtain ⟨i, hi, rfl, HS⟩ := hrel
        by_cases hlt : i < out.length
        · have i1 : (i : Int) < out.length := by omega
          obtain ⟨hgs, h0 | ⟨g, c, cur, hv, hnc, hcs, hcur⟩⟩ := HS.out
          · omega
          injection hv with hv1 hv2 hv3
          subst hv1 hv3
          have hic : i < cur.size := by omega
          have hcell : wr.cell? ⟨g, i, none⟩ = some cur[i] := by rw [blk_cell hcur i]; exact Array.getElem?_eq_getElem hic
          have hfree := blk_free hcur i
          have hglt := blk_lt hcur
          have HCU := Lib.hid hcur
          have HGS := Lib.hid hgs
          have hgg : g ∈ (Value.slice (some ⟨g, 0, none⟩) out.length vc).ownBlock.toList := by simp [Value.ownBlock]
          clear hcur hgs HS hv2
          generalize cur[i] = x0 at *
          go_wp2_with fail
          go_roundw
          case rel => exact ⟨i + 1, by omega, by go_num, Lib.hid ⟨gl_seti hgg HGS.out _, .inr ⟨g, vc, cur.setIfInBounds i _, rfl, hnc, by rw [Array.size_setIfInBounds]; exact hcs, blk_set HCU.out i _⟩⟩⟩
          case measure => simp [intOf]; omega
        · obtain rfl : i = out.length := by omega
          have hgs := HS.out.1
          have hnv : ∀ q, q < w1.heap.size → q ∉ (Value.slice va out.length vc).ownBlock.toList := fun q hq hm => by have := HVB.out q (by simpa using hm); omega
          have hM5 : MindAt wr M bh be H S k := mind_gl (mind_gl HM1.out hg4 (by simp) (by simp) (by simp)) hgs (hnv _ hml.1) (hnv _ hml.2.1) (hnv _ hml.2.2)
          have HM5 := Lib.hid hM5
          have HX5 := Lib.hid (ownT_gl (ownT_gl HO1.out hg4 (by simp)) hgs (fun r hr he => hnv r (ownT_blk HO1.out r he).2 hr))
          have hg5 : GL [] w wr := gl_step (gl_step hgs hg4 (fun r hr => .inr (by have := HVB.out r (by simpa using hr); omega))) hg1 (by simp)
          clear hgs hnv hM5 HS
          go_wp2_with fail
          refine (dHeldT M bh be k H S _ HM5.out).mono ?_
          rintro e w6 ⟨v6, ks6, rfl, hk1, hk2, hk6, hO6, hb6⟩
          obtain ⟨mm6, hmm⟩ : ∃ mm, mm = ks6.mergeSort leS := ⟨_, rfl⟩
          rw [← hmm] at hk6 hO6
          have HMM := Lib.hid hmm
          clear hmm
          obtain ⟨va6, vc6, rfl⟩ := ownT_form hO6
          have HO6 := Lib.hid hO6
          have HKS6 := Lib.hid (And.intro hk1 hk2)
          have hg6 : GL [] w w6 := gl_below hb6 hg5
          have HX6 := Lib.hid (ownT_below HX5.out hb6)
          clear hO6 hk1 hk2 hb6
          go_wp2_with fail
          refine (r3Held H S HM5.out.least X (by omega) HXR.out.1 HXR.out.2 _ _ (ownT_at HX6.out)).mono ?_
          rintro e w7 ⟨u7, out7, l7, rfl, hO7, hs1, hs2, hs3, hs4, hs57, hb7⟩
          obtain ⟨ua7, uc7, rfl⟩ := ownT_form hO7
          have he : out7 = mm6 := (HMM.out.trans (held_same HKS6.out.1 HKS6.out.2 hs1 hs2 hs3 hs4)).symm
          have HO7 := Lib.hid hO7
          have HO67 := Lib.hid (ownT_below HO6.out hb7)
          have hg7 : GL [] w w7 := gl_below hb7 hg6
          clear hO7 hs1 hs2 hs3 hs4 hb7 HO6
          clear HMM
          subst he
          go_wp2_with fail
          refine (r3Same out7 (by omega) _ _ _ (ownT_at HO67.out) (ownT_at HO7.out)).mono ?_
          rintro e w8 ⟨rfl, hb8⟩
          have hg8 : GL [] w w8 := gl_below hb8 hg7
          clear hb8
          go_wp2_with fail
          refine (lWorks03 _ (gok_gl HG.out hg8 (by simp))).mono ?_
          rintro e w9 ⟨rfl, hb9⟩
          go_wp2_with fail
          go_ret
          exact ⟨by first | rfl | (simp; done), gl_to_below (gl_below hb9 hg8)⟩
end Go.Proofs.YtdipkblmcloifaaGreatDoor
