/- Invoices' laws: size, small. -/
import Derived.Test.YtembdkodajichaaGreatDoorRegI
import Derived.Test.YtembdkodajichaaGreatDoorInvE
import Derived.Test.YtembdkodajichaaGreatDoorBitsA
set_option maxRecDepth 100000
set_option maxHeartbeats 4000000
set_option linter.unusedSimpArgs false
set_option linter.unusedVariables false
namespace Go.Proofs.YtembdkodajichaaGreatDoor
open Go.RowKit
theorem zpy_ : zcr_ sampleI := by
 have h := (zes_ zbr_).2
 exact ⟨by decide, by decide, by decide, by decide, by decide, by decide, by decide, by decide, by decide, by decide, by decide, by show (83 :: ([110, 53, 59] ++ bodyT zbr_)).length ≤ 1000000; simp; omega⟩
theorem zj3_ (w : World) (hI : IOk w) :
  Calls Tryz.prog 24 #[] w fun e w' => e = .returned (invV sampleI) ∧ Below w.heap.size w w' := by
 have HI := Lib.hid hI
 have HS := Lib.hid zmk_
 have hql := (zes_ zbr_).2
 have HB := Lib.hid (zeL_ (x := zbr_) de_ zio_)
 have HOK0 : Hid (zcr_ zbr_) := Lib.hid ⟨by decide, by decide, by decide, by decide, by decide, by decide, by decide, by decide, by decide, by decide, by decide, by decide⟩
 clear hI
 go_enter Tryz.func24, Tryz.ntmps24
 go_wp2_with fail
 have HX0 : Hid (((w.alloc (.cells #[.int .i64 0, .int .i64 0, .string (bs []), .string (bs []), .string (bs []), .int .i64 0, .int .i64 0, .string (bs [])] 31)).alloc (.cells #[.int .i64 250000000, .int .i64 1700000000, .string (bs [72, 110, 55, 59]), .string (bs [80, 110, 53, 59]), .string (bs [116, 101, 97]), .int .i64 3600, .int .i64 40, .string (bs [])] 31)).heap[w.heap.size]? = some (.cells #[.int .i64 0, .int .i64 0, .string (bs []), .string (bs []), .string (bs []), .int .i64 0, .int .i64 0, .string (bs [])] 31 (0, 0))) := Lib.hid (x3_ (y8_ _ _) _)
 have HY0 : Hid (((w.alloc (.cells #[.int .i64 0, .int .i64 0, .string (bs []), .string (bs []), .string (bs []), .int .i64 0, .int .i64 0, .string (bs [])] 31)).alloc (.cells #[.int .i64 250000000, .int .i64 1700000000, .string (bs [72, 110, 55, 59]), .string (bs [80, 110, 53, 59]), .string (bs [116, 101, 97]), .int .i64 3600, .int .i64 40, .string (bs [])] 31)).heap[w.heap.size + 1]? = some (.cells #[.int .i64 250000000, .int .i64 1700000000, .string (bs [72, 110, 55, 59]), .string (bs [80, 110, 53, 59]), .string (bs [116, 101, 97]), .int .i64 3600, .int .i64 40, .string (bs [])] 31 (0, 0))) := Lib.hid (by have := y8_ (w.alloc (.cells #[.int .i64 0, .int .i64 0, .string (bs []), .string (bs []), .string (bs []), .int .i64 0, .int .i64 0, .string (bs [])] 31)) (.cells #[.int .i64 250000000, .int .i64 1700000000, .string (bs [72, 110, 55, 59]), .string (bs [80, 110, 53, 59]), .string (bs [116, 101, 97]), .int .i64 3600, .int .i64 40, .string (bs [])] 31); rwa [World.size_alloc] at this)
 have HL0 : Hid (GL [] w ((w.alloc (.cells #[.int .i64 0, .int .i64 0, .string (bs []), .string (bs []), .string (bs []), .int .i64 0, .int .i64 0, .string (bs [])] 31)).alloc (.cells #[.int .i64 250000000, .int .i64 1700000000, .string (bs [72, 110, 55, 59]), .string (bs [80, 110, 53, 59]), .string (bs [116, 101, 97]), .int .i64 3600, .int .i64 40, .string (bs [])] 31))) := Lib.hid (y2_ (y2_ (y1_ _ _) _) _)
 generalize ((w.alloc (.cells #[.int .i64 0, .int .i64 0, .string (bs []), .string (bs []), .string (bs []), .int .i64 0, .int .i64 0, .string (bs [])] 31)).alloc (.cells #[.int .i64 250000000, .int .i64 1700000000, .string (bs [72, 110, 55, 59]), .string (bs [80, 110, 53, 59]), .string (bs [116, 101, 97]), .int .i64 3600, .int .i64 40, .string (bs [])] 31)) = w0 at *
 have HI0 := Lib.hid (zct_ HI.out HL0.out)
 refine (show Calls Tryz.prog 15 #[invV zbr_] w0 _ from zhb_ zbr_ HOK0.out w0 HI0.out).mono ?_
 rintro e w1 ⟨rfl, hb1⟩
 rw [HB.out.1, HB.out.2]
 have HX1 := Lib.hid (x0_ HX0.out hb1 (z4_ HX0.out))
 have HY1 := Lib.hid (x0_ HY0.out hb1 (z4_ HY0.out))
 have HL1 : Hid (GL [] w w1) := Lib.hid (y6_ hb1 HL0.out)
 have HI1 := Lib.hid (zbt_ HI0.out hb1)
 have HE : Hid (invV sampleI = .agg #[.int .i64 250000000, .int .i64 1700000000, .string (bs [72, 110, 55, 59]), .string (bs [80, 110, 53, 59]), .string (bs [116, 101, 97]), .int .i64 3600, .int .i64 40, .string (bs sampleI.sig)]) := Lib.hid rfl
 clear hb1 HX0 HY0 HL0 HI0
 generalize bodyT zbr_ = bt at *
 generalize sampleI.sig = sg at *
 go_wp2_with fail
 refine (zop_ [110, 53, 59] bt si_ om_ w1 HI1.out.g).mono ?_
 rintro e w2 ⟨rfl, hb2⟩
 rw [HS.out]
 have HX2 := Lib.hid (x0_ HX1.out hb2 (z4_ HX1.out))
 have HY2 := Lib.hid (x0_ HY1.out hb2 (z4_ HY1.out))
 have HL2 : Hid (GL [] w w2) := Lib.hid (y6_ hb2 HL1.out)
 clear hb2 HX1 HY1 HL1 HI1
 have fx := z0_ HX2.out
 have ex := z8_ HX2.out
 have fy := z0_ HY2.out
 have ey := z8_ HY2.out
 have hy := z4_ HY2.out
 go_wp2_with fail
 have hB : (((((((((w2.setCell ⟨w.heap.size + 1, 7, none⟩ (.string (bs sg))).setCell ⟨w.heap.size, 0, none⟩ (.int .i64 250000000)).setCell ⟨w.heap.size, 1, none⟩ (.int .i64 1700000000)).setCell ⟨w.heap.size, 2, none⟩ (.string (bs [72, 110, 55, 59]))).setCell ⟨w.heap.size, 3, none⟩ (.string (bs [80, 110, 53, 59]))).setCell ⟨w.heap.size, 4, none⟩ (.string (bs [116, 101, 97]))).setCell ⟨w.heap.size, 5, none⟩ (.int .i64 3600)).setCell ⟨w.heap.size, 6, none⟩ (.int .i64 40)).setCell ⟨w.heap.size, 7, none⟩ (.string (bs sg))).heap[w.heap.size]? = some (.cells #[.int .i64 250000000, .int .i64 1700000000, .string (bs [72, 110, 55, 59]), .string (bs [80, 110, 53, 59]), .string (bs [116, 101, 97]), .int .i64 3600, .int .i64 40, .string (bs sg)] 31 (0, 0)) := (z3_ (z3_ (z3_ (z3_ (z3_ (z3_ (z3_ (z3_ (v0_ HX2.out si_ _) 0 (.int .i64 250000000)) 1 (.int .i64 1700000000)) 2 (.string (bs [72, 110, 55, 59]))) 3 (.string (bs [80, 110, 53, 59]))) 4 (.string (bs [116, 101, 97]))) 5 (.int .i64 3600)) 6 (.int .i64 40)) 7 (.string (bs sg)))
 have HF : Hid (GL [] w (((((((((w2.setCell ⟨w.heap.size + 1, 7, none⟩ (.string (bs sg))).setCell ⟨w.heap.size, 0, none⟩ (.int .i64 250000000)).setCell ⟨w.heap.size, 1, none⟩ (.int .i64 1700000000)).setCell ⟨w.heap.size, 2, none⟩ (.string (bs [72, 110, 55, 59]))).setCell ⟨w.heap.size, 3, none⟩ (.string (bs [80, 110, 53, 59]))).setCell ⟨w.heap.size, 4, none⟩ (.string (bs [116, 101, 97]))).setCell ⟨w.heap.size, 5, none⟩ (.int .i64 3600)).setCell ⟨w.heap.size, 6, none⟩ (.int .i64 40)).setCell ⟨w.heap.size, 7, none⟩ (.string (bs sg)))) := Lib.hid (z2_ (z2_ (z2_ (z2_ (z2_ (z2_ (z2_ (z2_ (z2_ HL2.out (.inr si_) _) (.inr (Nat.le_refl _)) (.int .i64 250000000)) (.inr (Nat.le_refl _)) (.int .i64 1700000000)) (.inr (Nat.le_refl _)) (.string (bs [72, 110, 55, 59]))) (.inr (Nat.le_refl _)) (.string (bs [80, 110, 53, 59]))) (.inr (Nat.le_refl _)) (.string (bs [116, 101, 97]))) (.inr (Nat.le_refl _)) (.int .i64 3600)) (.inr (Nat.le_refl _)) (.int .i64 40)) (.inr (Nat.le_refl _)) (.string (bs sg)))
 generalize (((((((((w2.setCell ⟨w.heap.size + 1, 7, none⟩ (.string (bs sg))).setCell ⟨w.heap.size, 0, none⟩ (.int .i64 250000000)).setCell ⟨w.heap.size, 1, none⟩ (.int .i64 1700000000)).setCell ⟨w.heap.size, 2, none⟩ (.string (bs [72, 110, 55, 59]))).setCell ⟨w.heap.size, 3, none⟩ (.string (bs [80, 110, 53, 59]))).setCell ⟨w.heap.size, 4, none⟩ (.string (bs [116, 101, 97]))).setCell ⟨w.heap.size, 5, none⟩ (.int .i64 3600)).setCell ⟨w.heap.size, 6, none⟩ (.int .i64 40)).setCell ⟨w.heap.size, 7, none⟩ (.string (bs sg))) = w3 at *
 have f3 := z0_ hB
 clear hB fx ex fy ey
 exact bodyPost_ret (v := .agg #[.int .i64 250000000, .int .i64 1700000000, .string (bs [72, 110, 55, 59]), .string (bs [80, 110, 53, 59]), .string (bs [116, 101, 97]), .int .i64 3600, .int .i64 40, .string (bs sg)]) (by simp [results, Tryz.results24, go_sem, f3]) rfl ⟨by rw [HE.out], y0_ HF.out⟩
def wIDS : List (Option Nat) := [some 15, some 16, some 17, some 18, some 19, some 20, some 21, some 22, some 23, some 24, some 25, some 26, some 27, some 28, some 29, some 30, some 31, some 32, some 33, some 34, some 35, some 0]
def wIGS (T : Nat) (tx sg : List UInt8) : List (Option Value) := [some (.int .i64 0), some (.bool true), some (.bool true), some (.int .i64 0), some (.bool true), some (.bool true), some (.bool true), some (.agg #[.int .i64 250000000, .int .i64 1700000000, .string (bs [72, 110, 55, 59]), .string (bs [80, 110, 53, 59]), .string (bs [116, 101, 97]), .int .i64 3600, .int .i64 40, .string (bs sg)]), some (.agg #[.int .i64 250000000, .int .i64 1700000000, .string (bs [72, 110, 55, 59]), .string (bs [80, 110, 53, 59]), .string (bs [116, 101, 97]), .int .i64 3600, .int .i64 40, .string (bs sg)]), some (.bool true), some (.bool true), some (.bool true), some (.string (bs tx)), some (.int .i64 tx.length), some (.bool true), some (.bool true), some (.bool true), some (.string (bs tx)), some (.string (bs (tx.take 9))), some (.bool true), some (.bool true), some (.bool true)]
section
variable {ops : Array Oper} {Q : Exit → Act → World → Prop} {a0 : Act} {I : World → Prop} {af : Array Edge} {ty : Nat} {pos : String} {at_ : Array TypeId} {T : Nat} {tx sg : List UInt8}
theorem wI15 (o2 : a0.tmps[2]? = some (.int .i64 0)) : y4_ Tryz.prog ops Q a0 wIDS I (GV (wIGS T tx sg)) 0 { dst := some 15, op := .move (.tmp 2), type := ty, pos := pos, after := af, guard := none } := by
 intro a w hout hI hdep K hK
 rw [if_pos (by simp [Region.wanted])]
 have o2w := (hout 2 de_).trans o2
 clear hout hdep
 clear o2
 go_simp
 exact hK _ _ (z7_ rfl rs_) hI
theorem wI16 (h15 : (⟨0, .data⟩ : Edge) ∈ af.toList) : y4_ Tryz.prog ops Q a0 wIDS I (GV (wIGS T tx sg)) 1 { dst := some 16, op := .binOp .eql 23 (.tmp 15) (.const (.int .i64 0)) 23, type := ty, pos := pos, after := af, guard := none } := by
 intro a w hout hI hdep K hK
 rw [if_pos (by simp [Region.wanted])]
 obtain ⟨v15, g15, e15⟩ := hdep ⟨0, .data⟩ h15 rfl
 have e15 := e15 15 rfl
 have g15 := g15 _ rfl
 subst g15
 clear hout hdep
 go_simp
 exact hK _ _ (z7_ rfl rs_) hI
theorem wI17 (h16 : (⟨1, .data⟩ : Edge) ∈ af.toList) : y4_ Tryz.prog ops Q a0 wIDS I (GV (wIGS T tx sg)) 2 { dst := some 17, op := .move (.tmp 16), type := ty, pos := pos, after := af, guard := none } := by
 intro a w hout hI hdep K hK
 rw [if_pos (by simp [Region.wanted])]
 obtain ⟨v16, g16, e16⟩ := hdep ⟨1, .data⟩ h16 rfl
 have e16 := e16 16 rfl
 have g16 := g16 _ rfl
 subst g16
 clear hout hdep
 go_simp
 exact hK _ _ (z7_ rfl rs_) hI
theorem wI18 (hg : (⟨2, .guard⟩ : Edge) ∈ af.toList) (hgo : ops[2]?.bind (·.dst) = some 17) (o4 : a0.tmps[4]? = some (.int .i64 0)) : y4_ Tryz.prog ops Q a0 wIDS I (GV (wIGS T tx sg)) 3 { dst := some 18, op := .move (.tmp 4), type := ty, pos := pos, after := af, guard := some (2, true) } := by
 intro a w hout hI hdep K hK
 obtain ⟨vg, gg, eg⟩ := hdep ⟨2, .guard⟩ hg rfl
 have eg := eg 17 rfl
 have gg := gg _ rfl
 subst gg
 have hy := zcp_ hgo eg
 rw [if_pos (by simp [Region.wanted, hy])]
 have o4w := (hout 4 de_).trans o4
 clear hout hdep hy
 clear o4
 go_simp
 exact hK _ _ (z7_ rfl rs_) hI
theorem wI19 (hg : (⟨2, .guard⟩ : Edge) ∈ af.toList) (hgo : ops[2]?.bind (·.dst) = some 17) (h18 : (⟨3, .data⟩ : Edge) ∈ af.toList) : y4_ Tryz.prog ops Q a0 wIDS I (GV (wIGS T tx sg)) 4 { dst := some 19, op := .binOp .eql 23 (.tmp 18) (.const (.int .i64 0)) 23, type := ty, pos := pos, after := af, guard := some (2, true) } := by
 intro a w hout hI hdep K hK
 obtain ⟨vg, gg, eg⟩ := hdep ⟨2, .guard⟩ hg rfl
 have eg := eg 17 rfl
 have gg := gg _ rfl
 subst gg
 have hy := zcp_ hgo eg
 rw [if_pos (by simp [Region.wanted, hy])]
 obtain ⟨v18, g18, e18⟩ := hdep ⟨3, .data⟩ h18 rfl
 have e18 := e18 18 rfl
 have g18 := g18 _ rfl
 subst g18
 clear hout hdep hy
 go_simp
 exact hK _ _ (z7_ rfl rs_) hI
theorem wI20 (h17 : (⟨2, .data⟩ : Edge) ∈ af.toList) (h19 : (⟨4, .data⟩ : Edge) ∈ af.toList) : y4_ Tryz.prog ops Q a0 wIDS I (GV (wIGS T tx sg)) 5 { dst := some 20, op := .pick (.tmp 17) (.tmp 19) (.const (.bool false)), type := ty, pos := pos, after := af, guard := none } := by
 intro a w hout hI hdep K hK
 rw [if_pos (by simp [Region.wanted])]
 obtain ⟨v17, g17, e17⟩ := hdep ⟨2, .data⟩ h17 rfl
 have e17 := e17 17 rfl
 have g17 := g17 _ rfl
 subst g17
 obtain ⟨v19, g19, e19⟩ := hdep ⟨4, .data⟩ h19 rfl
 have e19 := e19 19 rfl
 have g19 := g19 _ rfl
 subst g19
 clear hout hdep
 go_simp
 exact hK _ _ (z7_ rfl rs_) hI
theorem wI21 (h20 : (⟨5, .data⟩ : Edge) ∈ af.toList) : y4_ Tryz.prog ops Q a0 wIDS I (GV (wIGS T tx sg)) 6 { dst := some 21, op := .move (.tmp 20), type := ty, pos := pos, after := af, guard := none } := by
 intro a w hout hI hdep K hK
 rw [if_pos (by simp [Region.wanted])]
 obtain ⟨v20, g20, e20⟩ := hdep ⟨5, .data⟩ h20 rfl
 have e20 := e20 20 rfl
 have g20 := g20 _ rfl
 subst g20
 clear hout hdep
 go_simp
 exact hK _ _ (z7_ rfl rs_) hI
theorem wI22 (hg : (⟨6, .guard⟩ : Edge) ∈ af.toList) (hgo : ops[6]?.bind (·.dst) = some 21) (o3 : a0.tmps[3]? = some (.pointer (some ⟨T, 0, none⟩))) (hL : ∀ w, I w → w.heap[T]? = some (.cells #[.int .i64 250000000, .int .i64 1700000000, .string (bs [72, 110, 55, 59]), .string (bs [80, 110, 53, 59]), .string (bs [116, 101, 97]), .int .i64 3600, .int .i64 40, .string (bs sg)] 31 (0, 0))) : y4_ Tryz.prog ops Q a0 wIDS I (GV (wIGS T tx sg)) 7 { dst := some 22, op := .load 31 (.tmp 3), type := ty, pos := pos, after := af, guard := some (6, true) } := by
 intro a w hout hI hdep K hK
 obtain ⟨vg, gg, eg⟩ := hdep ⟨6, .guard⟩ hg rfl
 have eg := eg 21 rfl
 have gg := gg _ rfl
 subst gg
 have hy := zcp_ hgo eg
 rw [if_pos (by simp [Region.wanted, hy])]
 have o3w := (hout 3 de_).trans o3
 have hLw := hL w hI
 clear hout hdep hy
 clear o3
 have fa := z0_ hLw
 clear hLw
 go_simp
 exact hK _ _ (z7_ rfl rs_) hI
theorem wI23 (hg : (⟨6, .guard⟩ : Edge) ∈ af.toList) (hgo : ops[6]?.bind (·.dst) = some 21) (hC : ∀ w, I w → Calls Tryz.prog 24 #[] w fun e w' => e = .returned (.agg #[.int .i64 250000000, .int .i64 1700000000, .string (bs [72, 110, 55, 59]), .string (bs [80, 110, 53, 59]), .string (bs [116, 101, 97]), .int .i64 3600, .int .i64 40, .string (bs sg)]) ∧ I w') : y4_ Tryz.prog ops Q a0 wIDS I (GV (wIGS T tx sg)) 8 { dst := some 23, op := .call { callee := .value (.func 24), args := #[], argTypes := at_ }, type := ty, pos := pos, after := af, guard := some (6, true) } := by
 intro a w hout hI hdep K hK
 obtain ⟨vg, gg, eg⟩ := hdep ⟨6, .guard⟩ hg rfl
 have eg := eg 21 rfl
 have gg := gg _ rfl
 subst gg
 have hy := zcp_ hgo eg
 rw [if_pos (by simp [Region.wanted, hy])]
 clear hout hdep hy
 go_simp
 refine (hC w hI).mono ?_
 rintro e w1 ⟨rfl, hI1⟩
 exact hK _ _ (z7_ rfl rfl) hI1
theorem wI24 (hg : (⟨6, .guard⟩ : Edge) ∈ af.toList) (hgo : ops[6]?.bind (·.dst) = some 21) (h22 : (⟨7, .data⟩ : Edge) ∈ af.toList) (h23 : (⟨8, .data⟩ : Edge) ∈ af.toList) (hL : ∀ w, I w → (binOp .eql 31 (.agg #[.int .i64 250000000, .int .i64 1700000000, .string (bs [72, 110, 55, 59]), .string (bs [80, 110, 53, 59]), .string (bs [116, 101, 97]), .int .i64 3600, .int .i64 40, .string (bs sg)]) (.agg #[.int .i64 250000000, .int .i64 1700000000, .string (bs [72, 110, 55, 59]), .string (bs [80, 110, 53, 59]), .string (bs [116, 101, 97]), .int .i64 3600, .int .i64 40, .string (bs sg)])).run Tryz.prog w = .ok (.bool true) w) : y4_ Tryz.prog ops Q a0 wIDS I (GV (wIGS T tx sg)) 9 { dst := some 24, op := .binOp .eql 31 (.tmp 22) (.tmp 23) 31, type := ty, pos := pos, after := af, guard := some (6, true) } := by
 intro a w hout hI hdep K hK
 obtain ⟨vg, gg, eg⟩ := hdep ⟨6, .guard⟩ hg rfl
 have eg := eg 21 rfl
 have gg := gg _ rfl
 subst gg
 have hy := zcp_ hgo eg
 rw [if_pos (by simp [Region.wanted, hy])]
 obtain ⟨v22, g22, e22⟩ := hdep ⟨7, .data⟩ h22 rfl
 have e22 := e22 22 rfl
 have g22 := g22 _ rfl
 subst g22
 obtain ⟨v23, g23, e23⟩ := hdep ⟨8, .data⟩ h23 rfl
 have e23 := e23 23 rfl
 have g23 := g23 _ rfl
 subst g23
 have hLw := hL w hI
 clear hout hdep hy
 go_simp
 exact hK _ _ (z7_ rfl rs_) hI
theorem wI25 (h21 : (⟨6, .data⟩ : Edge) ∈ af.toList) (h24 : (⟨9, .data⟩ : Edge) ∈ af.toList) : y4_ Tryz.prog ops Q a0 wIDS I (GV (wIGS T tx sg)) 10 { dst := some 25, op := .pick (.tmp 21) (.tmp 24) (.const (.bool false)), type := ty, pos := pos, after := af, guard := none } := by
 intro a w hout hI hdep K hK
 rw [if_pos (by simp [Region.wanted])]
 obtain ⟨v21, g21, e21⟩ := hdep ⟨6, .data⟩ h21 rfl
 have e21 := e21 21 rfl
 have g21 := g21 _ rfl
 subst g21
 obtain ⟨v24, g24, e24⟩ := hdep ⟨9, .data⟩ h24 rfl
 have e24 := e24 24 rfl
 have g24 := g24 _ rfl
 subst g24
 clear hout hdep
 go_simp
 exact hK _ _ (z7_ rfl rs_) hI
theorem wI26 (h25 : (⟨10, .data⟩ : Edge) ∈ af.toList) : y4_ Tryz.prog ops Q a0 wIDS I (GV (wIGS T tx sg)) 11 { dst := some 26, op := .move (.tmp 25), type := ty, pos := pos, after := af, guard := none } := by
 intro a w hout hI hdep K hK
 rw [if_pos (by simp [Region.wanted])]
 obtain ⟨v25, g25, e25⟩ := hdep ⟨10, .data⟩ h25 rfl
 have e25 := e25 25 rfl
 have g25 := g25 _ rfl
 subst g25
 clear hout hdep
 go_simp
 exact hK _ _ (z7_ rfl rs_) hI
theorem wI27 (hg : (⟨11, .guard⟩ : Edge) ∈ af.toList) (hgo : ops[11]?.bind (·.dst) = some 26) (o1 : a0.tmps[1]? = some (.string (bs tx))) : y4_ Tryz.prog ops Q a0 wIDS I (GV (wIGS T tx sg)) 12 { dst := some 27, op := .move (.tmp 1), type := ty, pos := pos, after := af, guard := some (11, true) } := by
 intro a w hout hI hdep K hK
 obtain ⟨vg, gg, eg⟩ := hdep ⟨11, .guard⟩ hg rfl
 have eg := eg 26 rfl
 have gg := gg _ rfl
 subst gg
 have hy := zcp_ hgo eg
 rw [if_pos (by simp [Region.wanted, hy])]
 have o1w := (hout 1 de_).trans o1
 clear hout hdep hy
 clear o1
 go_simp
 exact hK _ _ (z7_ rfl rs_) hI
theorem wI28 (hg : (⟨11, .guard⟩ : Edge) ∈ af.toList) (hgo : ops[11]?.bind (·.dst) = some 26) (h27 : (⟨12, .data⟩ : Edge) ∈ af.toList) : y4_ Tryz.prog ops Q a0 wIDS I (GV (wIGS T tx sg)) 13 { dst := some 28, op := .call { callee := .builtin .len, args := #[.tmp 27], argTypes := #[9] }, type := ty, pos := pos, after := af, guard := some (11, true) } := by
 intro a w hout hI hdep K hK
 obtain ⟨vg, gg, eg⟩ := hdep ⟨11, .guard⟩ hg rfl
 have eg := eg 26 rfl
 have gg := gg _ rfl
 subst gg
 have hy := zcp_ hgo eg
 rw [if_pos (by simp [Region.wanted, hy])]
 obtain ⟨v27, g27, e27⟩ := hdep ⟨12, .data⟩ h27 rfl
 have e27 := e27 27 rfl
 have g27 := g27 _ rfl
 subst g27
 clear hout hdep hy
 go_simp
 exact hK _ _ (z7_ rfl rs_) hI
theorem wI29 (hg : (⟨11, .guard⟩ : Edge) ∈ af.toList) (hgo : ops[11]?.bind (·.dst) = some 26) (h28 : (⟨13, .data⟩ : Edge) ∈ af.toList) (h9 : decide ((9 : Int) < tx.length) = true) : y4_ Tryz.prog ops Q a0 wIDS I (GV (wIGS T tx sg)) 14 { dst := some 29, op := .binOp .gtr 3 (.tmp 28) (.const (.int .i64 9)) 3, type := ty, pos := pos, after := af, guard := some (11, true) } := by
 intro a w hout hI hdep K hK
 obtain ⟨vg, gg, eg⟩ := hdep ⟨11, .guard⟩ hg rfl
 have eg := eg 26 rfl
 have gg := gg _ rfl
 subst gg
 have hy := zcp_ hgo eg
 rw [if_pos (by simp [Region.wanted, hy])]
 obtain ⟨v28, g28, e28⟩ := hdep ⟨13, .data⟩ h28 rfl
 have e28 := e28 28 rfl
 have g28 := g28 _ rfl
 subst g28
 clear hout hdep hy
 go_simp
 exact hK _ _ (z7_ rfl rs_) hI
theorem wI30 (h26 : (⟨11, .data⟩ : Edge) ∈ af.toList) (h29 : (⟨14, .data⟩ : Edge) ∈ af.toList) : y4_ Tryz.prog ops Q a0 wIDS I (GV (wIGS T tx sg)) 15 { dst := some 30, op := .pick (.tmp 26) (.tmp 29) (.const (.bool false)), type := ty, pos := pos, after := af, guard := none } := by
 intro a w hout hI hdep K hK
 rw [if_pos (by simp [Region.wanted])]
 obtain ⟨v26, g26, e26⟩ := hdep ⟨11, .data⟩ h26 rfl
 have e26 := e26 26 rfl
 have g26 := g26 _ rfl
 subst g26
 obtain ⟨v29, g29, e29⟩ := hdep ⟨14, .data⟩ h29 rfl
 have e29 := e29 29 rfl
 have g29 := g29 _ rfl
 subst g29
 clear hout hdep
 go_simp
 exact hK _ _ (z7_ rfl rs_) hI
theorem wI31 (h30 : (⟨15, .data⟩ : Edge) ∈ af.toList) : y4_ Tryz.prog ops Q a0 wIDS I (GV (wIGS T tx sg)) 16 { dst := some 31, op := .move (.tmp 30), type := ty, pos := pos, after := af, guard := none } := by
 intro a w hout hI hdep K hK
 rw [if_pos (by simp [Region.wanted])]
 obtain ⟨v30, g30, e30⟩ := hdep ⟨15, .data⟩ h30 rfl
 have e30 := e30 30 rfl
 have g30 := g30 _ rfl
 subst g30
 clear hout hdep
 go_simp
 exact hK _ _ (z7_ rfl rs_) hI
theorem wI32 (hg : (⟨16, .guard⟩ : Edge) ∈ af.toList) (hgo : ops[16]?.bind (·.dst) = some 31) (o1 : a0.tmps[1]? = some (.string (bs tx))) : y4_ Tryz.prog ops Q a0 wIDS I (GV (wIGS T tx sg)) 17 { dst := some 32, op := .move (.tmp 1), type := ty, pos := pos, after := af, guard := some (16, true) } := by
 intro a w hout hI hdep K hK
 obtain ⟨vg, gg, eg⟩ := hdep ⟨16, .guard⟩ hg rfl
 have eg := eg 31 rfl
 have gg := gg _ rfl
 subst gg
 have hy := zcp_ hgo eg
 rw [if_pos (by simp [Region.wanted, hy])]
 have o1w := (hout 1 de_).trans o1
 clear hout hdep hy
 clear o1
 go_simp
 exact hK _ _ (z7_ rfl rs_) hI
theorem wI33 (hg : (⟨16, .guard⟩ : Edge) ∈ af.toList) (hgo : ops[16]?.bind (·.dst) = some 31) (h32 : (⟨17, .data⟩ : Edge) ∈ af.toList) (h99 : (9 : Int) ≤ tx.length) : y4_ Tryz.prog ops Q a0 wIDS I (GV (wIGS T tx sg)) 18 { dst := some 33, op := .slice 9 (.tmp 32) none (some (.const (.int .i64 9))) none, type := ty, pos := pos, after := af, guard := some (16, true) } := by
 intro a w hout hI hdep K hK
 obtain ⟨vg, gg, eg⟩ := hdep ⟨16, .guard⟩ hg rfl
 have eg := eg 31 rfl
 have gg := gg _ rfl
 subst gg
 have hy := zcp_ hgo eg
 rw [if_pos (by simp [Region.wanted, hy])]
 obtain ⟨v32, g32, e32⟩ := hdep ⟨17, .data⟩ h32 rfl
 have e32 := e32 32 rfl
 have g32 := g32 _ rfl
 subst g32
 clear hout hdep hy
 go_simp
 exact hK _ _ (z7_ rfl rs_) hI
theorem wI34 (hg : (⟨16, .guard⟩ : Edge) ∈ af.toList) (hgo : ops[16]?.bind (·.dst) = some 31) (h33 : (⟨18, .data⟩ : Edge) ∈ af.toList) (ht9 : tx.take 9 = [108, 110, 115, 119, 50, 53, 48, 48, 117]) : y4_ Tryz.prog ops Q a0 wIDS I (GV (wIGS T tx sg)) 19 { dst := some 34, op := .binOp .eql 9 (.tmp 33) (.const (.string { data := #[108, 110, 115, 119, 50, 53, 48, 48, 117] })) 9, type := ty, pos := pos, after := af, guard := some (16, true) } := by
 intro a w hout hI hdep K hK
 obtain ⟨vg, gg, eg⟩ := hdep ⟨16, .guard⟩ hg rfl
 have eg := eg 31 rfl
 have gg := gg _ rfl
 subst gg
 have hy := zcp_ hgo eg
 rw [if_pos (by simp [Region.wanted, hy])]
 obtain ⟨v33, g33, e33⟩ := hdep ⟨18, .data⟩ h33 rfl
 have e33 := e33 33 rfl
 have g33 := g33 _ rfl
 subst g33
 clear hout hdep hy
 go_simp
 exact hK _ _ (z7_ rfl rs_) hI
theorem wI35 (h31 : (⟨16, .data⟩ : Edge) ∈ af.toList) (h34 : (⟨19, .data⟩ : Edge) ∈ af.toList) : y4_ Tryz.prog ops Q a0 wIDS I (GV (wIGS T tx sg)) 20 { dst := some 35, op := .pick (.tmp 31) (.tmp 34) (.const (.bool false)), type := ty, pos := pos, after := af, guard := none } := by
 intro a w hout hI hdep K hK
 rw [if_pos (by simp [Region.wanted])]
 obtain ⟨v31, g31, e31⟩ := hdep ⟨16, .data⟩ h31 rfl
 have e31 := e31 31 rfl
 have g31 := g31 _ rfl
 subst g31
 obtain ⟨v34, g34, e34⟩ := hdep ⟨19, .data⟩ h34 rfl
 have e34 := e34 34 rfl
 have g34 := g34 _ rfl
 subst g34
 clear hout hdep
 go_simp
 exact hK _ _ (z7_ rfl rs_) hI
theorem wI0 (h35 : (⟨20, .data⟩ : Edge) ∈ af.toList) : y4_ Tryz.prog ops Q a0 wIDS I (GV (wIGS T tx sg)) 21 { dst := some 0, op := .assign (.tmp 35), type := ty, pos := pos, after := af, guard := none } := by
 intro a w hout hI hdep K hK
 rw [if_pos (by simp [Region.wanted])]
 obtain ⟨v35, g35, e35⟩ := hdep ⟨20, .data⟩ h35 rfl
 have e35 := e35 35 rfl
 have g35 := g35 _ rfl
 subst g35
 clear hout hdep
 go_simp
 exact hK _ _ (z7_ rfl rs_) hI
end
theorem zj4_ (w : World) (hI : IOk w) :
  Calls Tryz.prog 9 #[] w fun e w' => e = .returned (.bool true) ∧ Below w.heap.size w w' := by
 have HI := Lib.hid hI
 have HE0 := Lib.hid zfi_
 have HR : Hid (zc0_ sampleI = zby_ sampleI) := Lib.hid (by unfold zc0_; rw [if_pos zfi_])
 have HD := Lib.hid (zmg_ sampleI zfi_)
 obtain ⟨hl1, hl2, hl3⟩ := zmm_
 have HT9 := Lib.hid hl3
 clear hI hl3
 go_enter Tryz.func9, Tryz.ntmps9
 go_wp2_with fail
 refine (zj3_ w HI.out).mono ?_
 rintro e w1 ⟨rfl, hb1⟩
 have HI1 := Lib.hid (zbt_ HI.out hb1)
 have HL1 : Hid (GL [] w w1) := Lib.hid (y6_ hb1 (y1_ _ _))
 clear hb1
 go_wp2_with fail
 refine (zo8_ sampleI zpy_ w1 HI1.out).mono ?_
 rintro e w2 ⟨rfl, hb2⟩
 rw [HE0.out, HR.out]
 have HI2 := Lib.hid (zbt_ HI1.out hb2)
 have HL2 : Hid (GL [] w w2) := Lib.hid (y6_ hb2 HL1.out)
 clear hb2 HI1 HL1
 go_wp2_with fail
 refine (zj0_ (zby_ sampleI) om_ w2 HI2.out).mono ?_
 rintro e w3 ⟨rfl, hb3⟩
 rw [HD.out]
 have HI3 := Lib.hid (zbt_ HI2.out hb3)
 have HL3 : Hid (GL [] w w3) := Lib.hid (y6_ hb3 HL2.out)
 clear hb3 HI2 HL2
 have HSV : Hid (invV sampleI = .agg #[.int .i64 250000000, .int .i64 1700000000, .string (bs [72, 110, 55, 59]), .string (bs [80, 110, 53, 59]), .string (bs [116, 101, 97]), .int .i64 3600, .int .i64 40, .string (bs sampleI.sig)]) := Lib.hid rfl
 show (match (Ending.returned (Value.tuple #[invV sampleI, .int .i64 0])), w3 with | _, _ => _)
 rw [HSV.out]
 have HEQ : Hid (∀ w, (binOp .eql 31 (.agg #[.int .i64 250000000, .int .i64 1700000000, .string (bs [72, 110, 55, 59]), .string (bs [80, 110, 53, 59]), .string (bs [116, 101, 97]), .int .i64 3600, .int .i64 40, .string (bs sampleI.sig)]) (.agg #[.int .i64 250000000, .int .i64 1700000000, .string (bs [72, 110, 55, 59]), .string (bs [80, 110, 53, 59]), .string (bs [116, 101, 97]), .int .i64 3600, .int .i64 40, .string (bs sampleI.sig)])).run Tryz.prog w = .ok (.bool true) w) := Lib.hid (fun w => (zj2_ sampleI sampleI w).trans (by rw [(zj1_ sampleI sampleI).2 rfl]))
 generalize zby_ sampleI = tx at *
 generalize sampleI.sig = sg at *
 go_wp2_with fail
 have HB4 := Lib.hid (y8_ w3 (.cells #[.int .i64 250000000, .int .i64 1700000000, .string (bs [72, 110, 55, 59]), .string (bs [80, 110, 53, 59]), .string (bs [116, 101, 97]), .int .i64 3600, .int .i64 40, .string (bs sg)] 31))
 have HI4 : Hid (IOk (w3.alloc (.cells #[.int .i64 250000000, .int .i64 1700000000, .string (bs [72, 110, 55, 59]), .string (bs [80, 110, 53, 59]), .string (bs [116, 101, 97]), .int .i64 3600, .int .i64 40, .string (bs sg)] 31))) := Lib.hid (zct_ HI3.out (y2_ (y1_ _ _) _))
 have HL4 : Hid (GL [] w (w3.alloc (.cells #[.int .i64 250000000, .int .i64 1700000000, .string (bs [72, 110, 55, 59]), .string (bs [80, 110, 53, 59]), .string (bs [116, 101, 97]), .int .i64 3600, .int .i64 40, .string (bs sg)] 31))) := Lib.hid (y2_ HL3.out _)
 generalize w3.alloc (.cells #[.int .i64 250000000, .int .i64 1700000000, .string (bs [72, 110, 55, 59]), .string (bs [80, 110, 53, 59]), .string (bs [116, 101, 97]), .int .i64 3600, .int .i64 40, .string (bs sg)] 31) = w4 at *
 generalize w3.heap.size = T at *
 have h9 : decide ((9 : Int) < tx.length) = true := by rw [decide_eq_true_eq]; omega
 have h99 : (9 : Int) ≤ tx.length := by omega
 have ht9 := HT9.out
 clear HI3 HL3
 have HC : Hid (∀ W, (IOk W ∧ W.heap[T]? = some (.cells #[.int .i64 250000000, .int .i64 1700000000, .string (bs [72, 110, 55, 59]), .string (bs [80, 110, 53, 59]), .string (bs [116, 101, 97]), .int .i64 3600, .int .i64 40, .string (bs sg)] 31 (0, 0)) ∧ GL [] w W) → Calls Tryz.prog 24 #[] W fun e W' => e = .returned (.agg #[.int .i64 250000000, .int .i64 1700000000, .string (bs [72, 110, 55, 59]), .string (bs [80, 110, 53, 59]), .string (bs [116, 101, 97]), .int .i64 3600, .int .i64 40, .string (bs sg)]) ∧ (IOk W' ∧ W'.heap[T]? = some (.cells #[.int .i64 250000000, .int .i64 1700000000, .string (bs [72, 110, 55, 59]), .string (bs [80, 110, 53, 59]), .string (bs [116, 101, 97]), .int .i64 3600, .int .i64 40, .string (bs sg)] 31 (0, 0)) ∧ GL [] w W')) := Lib.hid (fun W h => (zj3_ W h.1).mono fun e W' q => ⟨q.1.trans (by rw [HSV.out]), zbt_ h.1 q.2, x0_ h.2.1 q.2 (z4_ h.2.1), y6_ q.2 h.2.2⟩)
 refine zfm_ (ds := wIDS) (I := (fun W => IOk W ∧ W.heap[T]? = some (.cells #[.int .i64 250000000, .int .i64 1700000000, .string (bs [72, 110, 55, 59]), .string (bs [80, 110, 53, 59]), .string (bs [116, 101, 97]), .int .i64 3600, .int .i64 40, .string (bs sg)] 31 (0, 0)) ∧ GL [] w W)) (G := GV (wIGS T tx sg)) rfl rfl (zdf_ _ (by decide +kernel)) ?_ (by kernel_rfl) (⟨zct_ HI4.out (x9_ (y1_ _ _)), w1_ HB4.out, x9_ HL4.out⟩) ?_ ?_
 · intro d hd
   exact Nat.lt_of_lt_of_le (zdg_ (n := 36) wIDS (by decide +kernel) d hd) si_
 · exact ⟨wI15 si_, wI16 si_, wI17 si_, wI18 si_ rfl si_, wI19 si_ rfl si_, wI20 si_ si_, wI21 si_, wI22 si_ rfl si_ (fun w h => h.2.1), wI23 si_ rfl HC.out, wI24 si_ rfl si_ si_ (fun w _ => HEQ.out w), wI25 si_ si_, wI26 si_, wI27 si_ rfl si_, wI28 si_ rfl si_, wI29 si_ rfl si_ h9, wI30 si_ si_, wI31 si_, wI32 si_ rfl si_, wI33 si_ rfl si_ h99, wI34 si_ rfl si_ ht9, wI35 si_ si_, wI0 si_, trivial⟩
 · intro vs w' hl hv hI
   have hl0 : vs.length = 22 := hl
   clear hl
   obtain ⟨x0, r0, rfl, hl1⟩ := z6_ hl0
   clear hl0
   obtain ⟨x1, r1, rfl, hl2⟩ := z6_ hl1
   clear hl1
   obtain ⟨x2, r2, rfl, hl3⟩ := z6_ hl2
   clear hl2
   obtain ⟨x3, r3, rfl, hl4⟩ := z6_ hl3
   clear hl3
   obtain ⟨x4, r4, rfl, hl5⟩ := z6_ hl4
   clear hl4
   obtain ⟨x5, r5, rfl, hl6⟩ := z6_ hl5
   clear hl5
   obtain ⟨x6, r6, rfl, hl7⟩ := z6_ hl6
   clear hl6
   obtain ⟨x7, r7, rfl, hl8⟩ := z6_ hl7
   clear hl7
   obtain ⟨x8, r8, rfl, hl9⟩ := z6_ hl8
   clear hl8
   obtain ⟨x9, r9, rfl, hl10⟩ := z6_ hl9
   clear hl9
   obtain ⟨x10, r10, rfl, hl11⟩ := z6_ hl10
   clear hl10
   obtain ⟨x11, r11, rfl, hl12⟩ := z6_ hl11
   clear hl11
   obtain ⟨x12, r12, rfl, hl13⟩ := z6_ hl12
   clear hl12
   obtain ⟨x13, r13, rfl, hl14⟩ := z6_ hl13
   clear hl13
   obtain ⟨x14, r14, rfl, hl15⟩ := z6_ hl14
   clear hl14
   obtain ⟨x15, r15, rfl, hl16⟩ := z6_ hl15
   clear hl15
   obtain ⟨x16, r16, rfl, hl17⟩ := z6_ hl16
   clear hl16
   obtain ⟨x17, r17, rfl, hl18⟩ := z6_ hl17
   clear hl17
   obtain ⟨x18, r18, rfl, hl19⟩ := z6_ hl18
   clear hl18
   obtain ⟨x19, r19, rfl, hl20⟩ := z6_ hl19
   clear hl19
   obtain ⟨x20, r20, rfl, hl21⟩ := z6_ hl20
   clear hl20
   obtain ⟨x21, r21, rfl, hl22⟩ := z6_ hl21
   clear hl21
   have e21 : x21 = .bool true := hv 21 x21 si_ _ rfl
   subst e21
   obtain rfl : r21 = [] := List.eq_nil_of_length_eq_zero hl22
   clear hv
   simp only [wIDS, q0_, List.setIfInBounds_toArray, List.set_cons_zero, List.set_cons_succ]
   go_wp2_with fail
   exact bodyPost_ret (v := .bool true) (by simp [results, Tryz.results9, go_sem]) rfl ⟨rfl, y0_ hI.2.2⟩
end Go.Proofs.YtembdkodajichaaGreatDoor
