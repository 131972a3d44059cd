/- Bits row by row, plain: what the document's way gives is what one number gives. -/
import Derived.Test.YtembdkodajichaaGreatDoorRegT
import Derived.Test.YtembdkodajichaaGreatDoorBechB
import Derived.Test.YtembdkodajichaaGreatDoorDigP
set_option maxRecDepth 100000
set_option maxHeartbeats 4000000
set_option linter.unusedSimpArgs false
set_option linter.unusedVariables false
namespace Go.Proofs.YtembdkodajichaaGreatDoor
open Go.RowKit
theorem zqx_ (k : Nat) (l : List UInt8) (hl : l.length = 64) (h : k < 16) : (zad_ l).take (k + 1) = (zad_ l).take k ++ [zcn_ (l.getD (4 * k) 0).toNat (l.getD (4 * k + 1) 0).toNat (l.getD (4 * k + 2) 0).toNat (l.getD (4 * k + 3) 0).toNat] := by
 have hn : (zad_ l).length = 16 := zdi_ 16 l om_
 have hg := zgE_ k l om_
 rw [List.take_succ_eq_append_getElem om_]
 rw [List.getD_eq_getElem?_getD, List.getElem?_eq_getElem om_] at hg
 rw [← hg]
 rfl
theorem zqy_ {v : Value} {l : List UInt8} {w : World} (h : x8_ v l w) (h0 : l ≠ []) : ∃ G o c, v = .slice (some ⟨G, o, none⟩) l.length c ∧ l.length ≤ c ∧ G < w.heap.size ∧ ∀ j, j < l.length → w.cell? ⟨G, o + j, none⟩ = some (.int .u8 (l.getD j 0).toNat) := by
 obtain ⟨a, c, rfl, hc, hb⟩ := j6_ h
 obtain ⟨G, o, rfl, hB⟩ := hb h0
 exact ⟨G, o, c, rfl, hc, hB.1, hB.2⟩
theorem zbF_ {w W : World} {G j : Nat} {v : Value} (hG : G < w.heap.size) (h : w.cell? ⟨G, j, none⟩ = some v) (hg : GL [] w W) : W.cell? ⟨G, j, none⟩ = some v := by
 simp only [World.cell?, hg.block _ hG si_] at h ⊢
 exact h
theorem zks_ (w W : World) (lo : Nat) (v : Value) (l : List Int) (X : Int) (b : Nat) (hown : OwnW lo v l W) (hb : W.heap[b]? = some (.cells #[.int .u32 X] 121 (0, 0))) (hlen : l.length ≤ 100000) (hlo : w.heap.size ≤ lo) (hlo2 : lo ≤ W.heap.size) (hg : GL [] w W) :
  ∃ v' w', (Builtin.append_ #[166, 166] 166 #[v, .slice (some ⟨b, 0, none⟩) 1 1]).run Tryz.prog W = .ok v' w' ∧ GL [] w w' ∧ OwnW lo v' (l ++ [X]) w' := by
 obtain ⟨t0, ht0, ht1, ht2, ht3⟩ := info_parts Tryz.infoW4
 obtain ⟨g, cap, w', h1, h2, h3, h4, h5⟩ := run_append_lies (P := Tryz.prog) (w := W) 166 166 lo 121 t0 (.int .u32 0) 1 4 Tryz.underlying166 ht0 ht1 ht2 ht3 rfl de_ v l.length (wL l) hown ⟨b, 0, none⟩ 1 1 (wL [X]) (by rw [zqh_]; rfl) (fun j u hj => by
  have h0 : j < 1 := by
   have := (List.getElem?_eq_some_iff.1 hj).1
   simpa [wL] using this
  obtain rfl : j = 0 := by omega
  simp [wL] at hj
  subst hj
  exact z0_ hb 0) (fun x hx => by
  unfold wL at hx
  obtain ⟨y, _, rfl⟩ := List.mem_map.1 hx
  rfl) om_ (by unfold maxLen; omega) om_ hlo2 _ rfl
 refine ⟨_, w', h1, zcu_ h3 hg (fun r hr => .inr (Nat.le_trans hlo (World.ownsRow.lt hown r hr).1)), ?_⟩
 unfold OwnW
 rw [List.length_append]
 have e : wL (l ++ [X]) = wL l ++ wL [X] := by simp [wL]
 rw [e]
 exact h2
theorem zfT_ {lo g n cp j : Nat} {x : Int} {m : List Int} {W : World} (h : OwnW lo (.slice (some ⟨g, 0, none⟩) n cp) m W) (hj : j < m.length) (hx : m.getD j 0 = x) : W.cell? ⟨g, j, none⟩ = some (.int .u32 x) := by
 obtain ⟨g', c', hv, _, _, hcell⟩ := zhp_ h (fun e => by rw [e] at hj; simp at hj)
 injection hv with h1 _ _
 injection h1 with h1
 injection h1 with h1
 subst h1
 rw [hcell j hj, ← hx, List.getD_eq_getElem?_getD, List.getElem?_eq_getElem hj]
 rfl
def j3_ : List (Option Nat) := [some 14, some 15, some 16, some 17, some 18, some 19, some 20, some 21, some 22, some 23, some 24, some 25, some 26, some 27, some 28, some 29, some 30, some 31, some 32, some 33, some 34, some 35, some 36, some 37, some 38, some 39, some 40, some 41, some 42, some 43, some 44, some 45]
def j9_ (ad : Option Addr) (n cp G o c i b0 b1 b2 b3 : Nat) : List (Option Value) := [some (.slice ad n cp), some (.slice (some ⟨G, o, none⟩) 64 c), some (.int .i64 (i : Int)), some (.pointer (some ⟨G, o + i, none⟩)), some (.int .u8 (b0 : Int)), some (.int .u32 (b0 : Int)), some (.int .u32 (IntKind.u32.wrap ((b0 : Int) * 16777216))), some (.slice (some ⟨G, o, none⟩) 64 c), some (.int .i64 (i : Int)), some (.int .i64 ((i : Int) + 1)), some (.pointer (some ⟨G, o + (i + 1), none⟩)), some (.int .u8 (b1 : Int)), some (.int .u32 (b1 : Int)), some (.int .u32 (IntKind.u32.wrap ((b1 : Int) * 65536))), some (.int .u32 (bits .or .u32 (IntKind.u32.wrap ((b0 : Int) * 16777216)) (IntKind.u32.wrap ((b1 : Int) * 65536)))), some (.slice (some ⟨G, o, none⟩) 64 c), some (.int .i64 (i : Int)), some (.int .i64 ((i : Int) + 2)), some (.pointer (some ⟨G, o + (i + 2), none⟩)), some (.int .u8 (b2 : Int)), some (.int .u32 (b2 : Int)), some (.int .u32 (IntKind.u32.wrap ((b2 : Int) * 256))), some (.int .u32 (bits .or .u32 (bits .or .u32 (IntKind.u32.wrap ((b0 : Int) * 16777216)) (IntKind.u32.wrap ((b1 : Int) * 65536))) (IntKind.u32.wrap ((b2 : Int) * 256)))), some (.slice (some ⟨G, o, none⟩) 64 c), some (.int .i64 (i : Int)), some (.int .i64 ((i : Int) + 3)), some (.pointer (some ⟨G, o + (i + 3), none⟩)), some (.int .u8 (b3 : Int)), some (.int .u32 (b3 : Int)), some (.int .u32 (zcn_ b0 b1 b2 b3)), none, none]
section
variable {ops : Array Oper} {Q : Exit → Act → World → Prop} {a0 : Act} {I R : World → Prop} {af : Array Edge} {ty : Nat} {pos : String} {at_ : Array TypeId} {ad : Option Addr} {n cp G o c i b0 b1 b2 b3 : Nat}
theorem wA14 (o3 : a0.tmps[3]? = some (.slice ad n cp)) : v6_ Tryz.prog ops Q a0 j3_ I R false (GV (j9_ ad n cp G o c i b0 b1 b2 b3)) 0 { dst := some 14, op := .move (.tmp 3), type := ty, pos := pos, after := af, guard := none } := by
 intro a w hout hI hE hdep K hK
 rw [if_pos (by simp [Region.wanted])]
 have o3w := (hout 3 de_).trans o3
 clear hout hE hdep
 clear o3
 go_simp
 exact hK _ (z7_ rfl rs_)
theorem wA15 (o0 : a0.tmps[0]? = some (.slice (some ⟨G, o, none⟩) 64 c)) : v6_ Tryz.prog ops Q a0 j3_ I R false (GV (j9_ ad n cp G o c i b0 b1 b2 b3)) 1 { dst := some 15, op := .move (.tmp 0), type := ty, pos := pos, after := af, guard := none } := by
 intro a w hout hI hE hdep K hK
 rw [if_pos (by simp [Region.wanted])]
 have o0w := (hout 0 de_).trans o0
 clear hout hE hdep
 clear o0
 go_simp
 exact hK _ (z7_ rfl rs_)
theorem wA16 (o4 : a0.tmps[4]? = some (.int .i64 (i : Int))) : v6_ Tryz.prog ops Q a0 j3_ I R false (GV (j9_ ad n cp G o c i b0 b1 b2 b3)) 2 { dst := some 16, op := .move (.tmp 4), type := ty, pos := pos, after := af, guard := none } := by
 intro a w hout hI hE hdep K hK
 rw [if_pos (by simp [Region.wanted])]
 have o4w := (hout 4 de_).trans o4
 clear hout hE hdep
 clear o4
 go_simp
 exact hK _ (z7_ rfl rs_)
theorem wA17 (h15 : (⟨1, .data⟩ : Edge) ∈ af.toList) (h16 : (⟨2, .data⟩ : Edge) ∈ af.toList) (hi : i + 3 < 64) : v6_ Tryz.prog ops Q a0 j3_ I R false (GV (j9_ ad n cp G o c i b0 b1 b2 b3)) 3 { dst := some 17, op := .indexAddr 47 (.tmp 15) (.tmp 16), type := ty, pos := pos, after := af, guard := none } := by
 intro a w hout hI hE hdep K hK
 rw [if_pos (by simp [Region.wanted])]
 obtain ⟨v15, g15, e15⟩ := hdep ⟨1, .data⟩ h15 rfl
 have e15 := e15 15 rfl
 have g15 := g15 _ rfl
 subst g15
 obtain ⟨v16, g16, e16⟩ := hdep ⟨2, .data⟩ h16 rfl
 have e16 := e16 16 rfl
 have g16 := g16 _ rfl
 subst g16
 clear hout hE hdep
 have z0 : (0 : Int) ≤ (i : Int) ∧ (i : Int) < 64 := by omega
 go_simp
 exact hK _ (z7_ rfl rs_)
theorem wA18 (h17 : (⟨3, .data⟩ : Edge) ∈ af.toList) (hL : ∀ w, I w → w.cell? ⟨G, o + i, none⟩ = some (.int .u8 (b0 : Int))) : v6_ Tryz.prog ops Q a0 j3_ I R false (GV (j9_ ad n cp G o c i b0 b1 b2 b3)) 4 { dst := some 18, op := .load 5 (.tmp 17), type := ty, pos := pos, after := af, guard := none } := by
 intro a w hout hI hE hdep K hK
 rw [if_pos (by simp [Region.wanted])]
 obtain ⟨v17, g17, e17⟩ := hdep ⟨3, .data⟩ h17 rfl
 have e17 := e17 17 rfl
 have g17 := g17 _ rfl
 subst g17
 have hLw := hL w hI
 clear hout hE hdep
 go_simp
 exact hK _ (z7_ rfl rs_)
theorem wA19 (h18 : (⟨4, .data⟩ : Edge) ∈ af.toList) (hb : b0 < 256) : v6_ Tryz.prog ops Q a0 j3_ I R false (GV (j9_ ad n cp G o c i b0 b1 b2 b3)) 5 { dst := some 19, op := .convert 5 121 (.tmp 18), type := ty, pos := pos, after := af, guard := none } := by
 intro a w hout hI hE hdep K hK
 rw [if_pos (by simp [Region.wanted])]
 obtain ⟨v18, g18, e18⟩ := hdep ⟨4, .data⟩ h18 rfl
 have e18 := e18 18 rfl
 have g18 := g18 _ rfl
 subst g18
 clear hout hE hdep
 have v : IntKind.u32.wrap (b0 : Int) = b0 := by rw [IntKind.wrap_u32]; omega
 go_simp
 exact hK _ (z7_ rfl rs_)
theorem wA20 (h19 : (⟨5, .data⟩ : Edge) ∈ af.toList) : v6_ Tryz.prog ops Q a0 j3_ I R false (GV (j9_ ad n cp G o c i b0 b1 b2 b3)) 6 { dst := some 20, op := .binOp .shl 121 (.tmp 19) (.const (.int .u64 24)) 49, type := ty, pos := pos, after := af, guard := none } := by
 intro a w hout hI hE hdep K hK
 rw [if_pos (by simp [Region.wanted])]
 obtain ⟨v19, g19, e19⟩ := hdep ⟨5, .data⟩ h19 rfl
 have e19 := e19 19 rfl
 have g19 := g19 _ rfl
 subst g19
 clear hout hE hdep
 go_simp
 exact hK _ (z7_ rfl rs_)
theorem wA21 (o0 : a0.tmps[0]? = some (.slice (some ⟨G, o, none⟩) 64 c)) : v6_ Tryz.prog ops Q a0 j3_ I R false (GV (j9_ ad n cp G o c i b0 b1 b2 b3)) 7 { dst := some 21, op := .move (.tmp 0), type := ty, pos := pos, after := af, guard := none } := by
 intro a w hout hI hE hdep K hK
 rw [if_pos (by simp [Region.wanted])]
 have o0w := (hout 0 de_).trans o0
 clear hout hE hdep
 clear o0
 go_simp
 exact hK _ (z7_ rfl rs_)
theorem wA22 (o4 : a0.tmps[4]? = some (.int .i64 (i : Int))) : v6_ Tryz.prog ops Q a0 j3_ I R false (GV (j9_ ad n cp G o c i b0 b1 b2 b3)) 8 { dst := some 22, op := .move (.tmp 4), type := ty, pos := pos, after := af, guard := none } := by
 intro a w hout hI hE hdep K hK
 rw [if_pos (by simp [Region.wanted])]
 have o4w := (hout 4 de_).trans o4
 clear hout hE hdep
 clear o4
 go_simp
 exact hK _ (z7_ rfl rs_)
theorem wA23 (h22 : (⟨8, .data⟩ : Edge) ∈ af.toList) (hi : i + 3 < 64) : v6_ Tryz.prog ops Q a0 j3_ I R false (GV (j9_ ad n cp G o c i b0 b1 b2 b3)) 9 { dst := some 23, op := .binOp .add 3 (.tmp 22) (.const (.int .i64 1)) 3, type := ty, pos := pos, after := af, guard := none } := by
 intro a w hout hI hE hdep K hK
 rw [if_pos (by simp [Region.wanted])]
 obtain ⟨v22, g22, e22⟩ := hdep ⟨8, .data⟩ h22 rfl
 have e22 := e22 22 rfl
 have g22 := g22 _ rfl
 subst g22
 clear hout hE hdep
 have q1 : IntKind.i64.wrap ((i : Int) + 1) = (i : Int) + 1 := IntWalk.i64_in _ om_
 go_simp
 exact hK _ (z7_ rfl rs_)
theorem wA24 (h21 : (⟨7, .data⟩ : Edge) ∈ af.toList) (h23 : (⟨9, .data⟩ : Edge) ∈ af.toList) (hi : i + 3 < 64) : v6_ Tryz.prog ops Q a0 j3_ I R false (GV (j9_ ad n cp G o c i b0 b1 b2 b3)) 10 { dst := some 24, op := .indexAddr 47 (.tmp 21) (.tmp 23), type := ty, pos := pos, after := af, guard := none } := by
 intro a w hout hI hE hdep K hK
 rw [if_pos (by simp [Region.wanted])]
 obtain ⟨v21, g21, e21⟩ := hdep ⟨7, .data⟩ h21 rfl
 have e21 := e21 21 rfl
 have g21 := g21 _ rfl
 subst g21
 obtain ⟨v23, g23, e23⟩ := hdep ⟨9, .data⟩ h23 rfl
 have e23 := e23 23 rfl
 have g23 := g23 _ rfl
 subst g23
 clear hout hE hdep
 have z1 : (0 : Int) ≤ (i : Int) + 1 ∧ (i : Int) + 1 < 64 := by omega
 have t1 : ((i : Int) + 1).toNat = i + 1 := by omega
 go_simp
 exact hK _ (z7_ rfl rs_)
theorem wA25 (h24 : (⟨10, .data⟩ : Edge) ∈ af.toList) (hL : ∀ w, I w → w.cell? ⟨G, o + (i + 1), none⟩ = some (.int .u8 (b1 : Int))) : v6_ Tryz.prog ops Q a0 j3_ I R false (GV (j9_ ad n cp G o c i b0 b1 b2 b3)) 11 { dst := some 25, op := .load 5 (.tmp 24), type := ty, pos := pos, after := af, guard := none } := by
 intro a w hout hI hE hdep K hK
 rw [if_pos (by simp [Region.wanted])]
 obtain ⟨v24, g24, e24⟩ := hdep ⟨10, .data⟩ h24 rfl
 have e24 := e24 24 rfl
 have g24 := g24 _ rfl
 subst g24
 have hLw := hL w hI
 clear hout hE hdep
 go_simp
 exact hK _ (z7_ rfl rs_)
theorem wA26 (h25 : (⟨11, .data⟩ : Edge) ∈ af.toList) (hb : b1 < 256) : v6_ Tryz.prog ops Q a0 j3_ I R false (GV (j9_ ad n cp G o c i b0 b1 b2 b3)) 12 { dst := some 26, op := .convert 5 121 (.tmp 25), type := ty, pos := pos, after := af, guard := none } := by
 intro a w hout hI hE hdep K hK
 rw [if_pos (by simp [Region.wanted])]
 obtain ⟨v25, g25, e25⟩ := hdep ⟨11, .data⟩ h25 rfl
 have e25 := e25 25 rfl
 have g25 := g25 _ rfl
 subst g25
 clear hout hE hdep
 have v : IntKind.u32.wrap (b1 : Int) = b1 := by rw [IntKind.wrap_u32]; omega
 go_simp
 exact hK _ (z7_ rfl rs_)
theorem wA27 (h26 : (⟨12, .data⟩ : Edge) ∈ af.toList) : v6_ Tryz.prog ops Q a0 j3_ I R false (GV (j9_ ad n cp G o c i b0 b1 b2 b3)) 13 { dst := some 27, op := .binOp .shl 121 (.tmp 26) (.const (.int .u64 16)) 49, type := ty, pos := pos, after := af, guard := none } := by
 intro a w hout hI hE hdep K hK
 rw [if_pos (by simp [Region.wanted])]
 obtain ⟨v26, g26, e26⟩ := hdep ⟨12, .data⟩ h26 rfl
 have e26 := e26 26 rfl
 have g26 := g26 _ rfl
 subst g26
 clear hout hE hdep
 go_simp
 exact hK _ (z7_ rfl rs_)
theorem wA28 (h20 : (⟨6, .data⟩ : Edge) ∈ af.toList) (h27 : (⟨13, .data⟩ : Edge) ∈ af.toList) : v6_ Tryz.prog ops Q a0 j3_ I R false (GV (j9_ ad n cp G o c i b0 b1 b2 b3)) 14 { dst := some 28, op := .binOp .or 121 (.tmp 20) (.tmp 27) 121, type := ty, pos := pos, after := af, guard := none } := by
 intro a w hout hI hE hdep K hK
 rw [if_pos (by simp [Region.wanted])]
 obtain ⟨v20, g20, e20⟩ := hdep ⟨6, .data⟩ h20 rfl
 have e20 := e20 20 rfl
 have g20 := g20 _ rfl
 subst g20
 obtain ⟨v27, g27, e27⟩ := hdep ⟨13, .data⟩ h27 rfl
 have e27 := e27 27 rfl
 have g27 := g27 _ rfl
 subst g27
 clear hout hE hdep
 go_simp
 exact hK _ (z7_ rfl rs_)
theorem wA29 (o0 : a0.tmps[0]? = some (.slice (some ⟨G, o, none⟩) 64 c)) : v6_ Tryz.prog ops Q a0 j3_ I R false (GV (j9_ ad n cp G o c i b0 b1 b2 b3)) 15 { dst := some 29, op := .move (.tmp 0), type := ty, pos := pos, after := af, guard := none } := by
 intro a w hout hI hE hdep K hK
 rw [if_pos (by simp [Region.wanted])]
 have o0w := (hout 0 de_).trans o0
 clear hout hE hdep
 clear o0
 go_simp
 exact hK _ (z7_ rfl rs_)
theorem wA30 (o4 : a0.tmps[4]? = some (.int .i64 (i : Int))) : v6_ Tryz.prog ops Q a0 j3_ I R false (GV (j9_ ad n cp G o c i b0 b1 b2 b3)) 16 { dst := some 30, op := .move (.tmp 4), type := ty, pos := pos, after := af, guard := none } := by
 intro a w hout hI hE hdep K hK
 rw [if_pos (by simp [Region.wanted])]
 have o4w := (hout 4 de_).trans o4
 clear hout hE hdep
 clear o4
 go_simp
 exact hK _ (z7_ rfl rs_)
theorem wA31 (h30 : (⟨16, .data⟩ : Edge) ∈ af.toList) (hi : i + 3 < 64) : v6_ Tryz.prog ops Q a0 j3_ I R false (GV (j9_ ad n cp G o c i b0 b1 b2 b3)) 17 { dst := some 31, op := .binOp .add 3 (.tmp 30) (.const (.int .i64 2)) 3, type := ty, pos := pos, after := af, guard := none } := by
 intro a w hout hI hE hdep K hK
 rw [if_pos (by simp [Region.wanted])]
 obtain ⟨v30, g30, e30⟩ := hdep ⟨16, .data⟩ h30 rfl
 have e30 := e30 30 rfl
 have g30 := g30 _ rfl
 subst g30
 clear hout hE hdep
 have q2 : IntKind.i64.wrap ((i : Int) + 2) = (i : Int) + 2 := IntWalk.i64_in _ om_
 go_simp
 exact hK _ (z7_ rfl rs_)
theorem wA32 (h29 : (⟨15, .data⟩ : Edge) ∈ af.toList) (h31 : (⟨17, .data⟩ : Edge) ∈ af.toList) (hi : i + 3 < 64) : v6_ Tryz.prog ops Q a0 j3_ I R false (GV (j9_ ad n cp G o c i b0 b1 b2 b3)) 18 { dst := some 32, op := .indexAddr 47 (.tmp 29) (.tmp 31), type := ty, pos := pos, after := af, guard := none } := by
 intro a w hout hI hE hdep K hK
 rw [if_pos (by simp [Region.wanted])]
 obtain ⟨v29, g29, e29⟩ := hdep ⟨15, .data⟩ h29 rfl
 have e29 := e29 29 rfl
 have g29 := g29 _ rfl
 subst g29
 obtain ⟨v31, g31, e31⟩ := hdep ⟨17, .data⟩ h31 rfl
 have e31 := e31 31 rfl
 have g31 := g31 _ rfl
 subst g31
 clear hout hE hdep
 have z2 : (0 : Int) ≤ (i : Int) + 2 ∧ (i : Int) + 2 < 64 := by omega
 have t2 : ((i : Int) + 2).toNat = i + 2 := by omega
 go_simp
 exact hK _ (z7_ rfl rs_)
theorem wA33 (h32 : (⟨18, .data⟩ : Edge) ∈ af.toList) (hL : ∀ w, I w → w.cell? ⟨G, o + (i + 2), none⟩ = some (.int .u8 (b2 : Int))) : v6_ Tryz.prog ops Q a0 j3_ I R false (GV (j9_ ad n cp G o c i b0 b1 b2 b3)) 19 { dst := some 33, op := .load 5 (.tmp 32), type := ty, pos := pos, after := af, guard := none } := by
 intro a w hout hI hE hdep K hK
 rw [if_pos (by simp [Region.wanted])]
 obtain ⟨v32, g32, e32⟩ := hdep ⟨18, .data⟩ h32 rfl
 have e32 := e32 32 rfl
 have g32 := g32 _ rfl
 subst g32
 have hLw := hL w hI
 clear hout hE hdep
 go_simp
 exact hK _ (z7_ rfl rs_)
theorem wA34 (h33 : (⟨19, .data⟩ : Edge) ∈ af.toList) (hb : b2 < 256) : v6_ Tryz.prog ops Q a0 j3_ I R false (GV (j9_ ad n cp G o c i b0 b1 b2 b3)) 20 { dst := some 34, op := .convert 5 121 (.tmp 33), type := ty, pos := pos, after := af, guard := none } := by
 intro a w hout hI hE hdep K hK
 rw [if_pos (by simp [Region.wanted])]
 obtain ⟨v33, g33, e33⟩ := hdep ⟨19, .data⟩ h33 rfl
 have e33 := e33 33 rfl
 have g33 := g33 _ rfl
 subst g33
 clear hout hE hdep
 have v : IntKind.u32.wrap (b2 : Int) = b2 := by rw [IntKind.wrap_u32]; omega
 go_simp
 exact hK _ (z7_ rfl rs_)
theorem wA35 (h34 : (⟨20, .data⟩ : Edge) ∈ af.toList) : v6_ Tryz.prog ops Q a0 j3_ I R false (GV (j9_ ad n cp G o c i b0 b1 b2 b3)) 21 { dst := some 35, op := .binOp .shl 121 (.tmp 34) (.const (.int .u64 8)) 49, type := ty, pos := pos, after := af, guard := none } := by
 intro a w hout hI hE hdep K hK
 rw [if_pos (by simp [Region.wanted])]
 obtain ⟨v34, g34, e34⟩ := hdep ⟨20, .data⟩ h34 rfl
 have e34 := e34 34 rfl
 have g34 := g34 _ rfl
 subst g34
 clear hout hE hdep
 go_simp
 exact hK _ (z7_ rfl rs_)
theorem wA36 (h28 : (⟨14, .data⟩ : Edge) ∈ af.toList) (h35 : (⟨21, .data⟩ : Edge) ∈ af.toList) : v6_ Tryz.prog ops Q a0 j3_ I R false (GV (j9_ ad n cp G o c i b0 b1 b2 b3)) 22 { dst := some 36, op := .binOp .or 121 (.tmp 28) (.tmp 35) 121, type := ty, pos := pos, after := af, guard := none } := by
 intro a w hout hI hE hdep K hK
 rw [if_pos (by simp [Region.wanted])]
 obtain ⟨v28, g28, e28⟩ := hdep ⟨14, .data⟩ h28 rfl
 have e28 := e28 28 rfl
 have g28 := g28 _ rfl
 subst g28
 obtain ⟨v35, g35, e35⟩ := hdep ⟨21, .data⟩ h35 rfl
 have e35 := e35 35 rfl
 have g35 := g35 _ rfl
 subst g35
 clear hout hE hdep
 go_simp
 exact hK _ (z7_ rfl rs_)
theorem wA37 (o0 : a0.tmps[0]? = some (.slice (some ⟨G, o, none⟩) 64 c)) : v6_ Tryz.prog ops Q a0 j3_ I R false (GV (j9_ ad n cp G o c i b0 b1 b2 b3)) 23 { dst := some 37, op := .move (.tmp 0), type := ty, pos := pos, after := af, guard := none } := by
 intro a w hout hI hE hdep K hK
 rw [if_pos (by simp [Region.wanted])]
 have o0w := (hout 0 de_).trans o0
 clear hout hE hdep
 clear o0
 go_simp
 exact hK _ (z7_ rfl rs_)
theorem wA38 (o4 : a0.tmps[4]? = some (.int .i64 (i : Int))) : v6_ Tryz.prog ops Q a0 j3_ I R false (GV (j9_ ad n cp G o c i b0 b1 b2 b3)) 24 { dst := some 38, op := .move (.tmp 4), type := ty, pos := pos, after := af, guard := none } := by
 intro a w hout hI hE hdep K hK
 rw [if_pos (by simp [Region.wanted])]
 have o4w := (hout 4 de_).trans o4
 clear hout hE hdep
 clear o4
 go_simp
 exact hK _ (z7_ rfl rs_)
theorem wA39 (h38 : (⟨24, .data⟩ : Edge) ∈ af.toList) (hi : i + 3 < 64) : v6_ Tryz.prog ops Q a0 j3_ I R false (GV (j9_ ad n cp G o c i b0 b1 b2 b3)) 25 { dst := some 39, op := .binOp .add 3 (.tmp 38) (.const (.int .i64 3)) 3, type := ty, pos := pos, after := af, guard := none } := by
 intro a w hout hI hE hdep K hK
 rw [if_pos (by simp [Region.wanted])]
 obtain ⟨v38, g38, e38⟩ := hdep ⟨24, .data⟩ h38 rfl
 have e38 := e38 38 rfl
 have g38 := g38 _ rfl
 subst g38
 clear hout hE hdep
 have q3 : IntKind.i64.wrap ((i : Int) + 3) = (i : Int) + 3 := IntWalk.i64_in _ om_
 go_simp
 exact hK _ (z7_ rfl rs_)
theorem wA40 (h37 : (⟨23, .data⟩ : Edge) ∈ af.toList) (h39 : (⟨25, .data⟩ : Edge) ∈ af.toList) (hi : i + 3 < 64) : v6_ Tryz.prog ops Q a0 j3_ I R false (GV (j9_ ad n cp G o c i b0 b1 b2 b3)) 26 { dst := some 40, op := .indexAddr 47 (.tmp 37) (.tmp 39), type := ty, pos := pos, after := af, guard := none } := by
 intro a w hout hI hE hdep K hK
 rw [if_pos (by simp [Region.wanted])]
 obtain ⟨v37, g37, e37⟩ := hdep ⟨23, .data⟩ h37 rfl
 have e37 := e37 37 rfl
 have g37 := g37 _ rfl
 subst g37
 obtain ⟨v39, g39, e39⟩ := hdep ⟨25, .data⟩ h39 rfl
 have e39 := e39 39 rfl
 have g39 := g39 _ rfl
 subst g39
 clear hout hE hdep
 have z3 : (0 : Int) ≤ (i : Int) + 3 ∧ (i : Int) + 3 < 64 := by omega
 have t3 : ((i : Int) + 3).toNat = i + 3 := by omega
 go_simp
 exact hK _ (z7_ rfl rs_)
theorem wA41 (h40 : (⟨26, .data⟩ : Edge) ∈ af.toList) (hL : ∀ w, I w → w.cell? ⟨G, o + (i + 3), none⟩ = some (.int .u8 (b3 : Int))) : v6_ Tryz.prog ops Q a0 j3_ I R false (GV (j9_ ad n cp G o c i b0 b1 b2 b3)) 27 { dst := some 41, op := .load 5 (.tmp 40), type := ty, pos := pos, after := af, guard := none } := by
 intro a w hout hI hE hdep K hK
 rw [if_pos (by simp [Region.wanted])]
 obtain ⟨v40, g40, e40⟩ := hdep ⟨26, .data⟩ h40 rfl
 have e40 := e40 40 rfl
 have g40 := g40 _ rfl
 subst g40
 have hLw := hL w hI
 clear hout hE hdep
 go_simp
 exact hK _ (z7_ rfl rs_)
theorem wA42 (h41 : (⟨27, .data⟩ : Edge) ∈ af.toList) (hb : b3 < 256) : v6_ Tryz.prog ops Q a0 j3_ I R false (GV (j9_ ad n cp G o c i b0 b1 b2 b3)) 28 { dst := some 42, op := .convert 5 121 (.tmp 41), type := ty, pos := pos, after := af, guard := none } := by
 intro a w hout hI hE hdep K hK
 rw [if_pos (by simp [Region.wanted])]
 obtain ⟨v41, g41, e41⟩ := hdep ⟨27, .data⟩ h41 rfl
 have e41 := e41 41 rfl
 have g41 := g41 _ rfl
 subst g41
 clear hout hE hdep
 have v : IntKind.u32.wrap (b3 : Int) = b3 := by rw [IntKind.wrap_u32]; omega
 go_simp
 exact hK _ (z7_ rfl rs_)
theorem wA43 (h36 : (⟨22, .data⟩ : Edge) ∈ af.toList) (h42 : (⟨28, .data⟩ : Edge) ∈ af.toList) : v6_ Tryz.prog ops Q a0 j3_ I R false (GV (j9_ ad n cp G o c i b0 b1 b2 b3)) 29 { dst := some 43, op := .binOp .or 121 (.tmp 36) (.tmp 42) 121, type := ty, pos := pos, after := af, guard := none } := by
 intro a w hout hI hE hdep K hK
 rw [if_pos (by simp [Region.wanted])]
 obtain ⟨v36, g36, e36⟩ := hdep ⟨22, .data⟩ h36 rfl
 have e36 := e36 36 rfl
 have g36 := g36 _ rfl
 subst g36
 obtain ⟨v42, g42, e42⟩ := hdep ⟨28, .data⟩ h42 rfl
 have e42 := e42 42 rfl
 have g42 := g42 _ rfl
 subst g42
 clear hout hE hdep
 go_simp
 exact hK _ (z7_ rfl rs_)
end
def wBDS : List (Option Nat) := [some 76, some 77, some 78, some 79, some 80, some 81, some 82, some 83, some 84, some 85, some 86, some 87, some 88, some 89, some 90, some 91, some 92, some 93]
def wBGS (g n cp t j16 j7 : Nat) (x16 x7 s0 s1 : Int) : List (Option Value) := [some (.slice (some ⟨g, 0, none⟩) n cp), some (.slice (some ⟨g, 0, none⟩) n cp), some (.int .i64 (t : Int)), some (.int .i64 (j16 : Int)), some (.pointer (some ⟨g, j16, none⟩)), some (.int .u32 x16), some (.int .u32 s0), some (.int .u32 (IntKind.u32.wrap (x16 + s0))), some (.slice (some ⟨g, 0, none⟩) n cp), some (.int .i64 (t : Int)), some (.int .i64 (j7 : Int)), some (.pointer (some ⟨g, j7, none⟩)), some (.int .u32 x7), some (.int .u32 (IntKind.u32.wrap ((IntKind.u32.wrap (x16 + s0)) + x7))), some (.int .u32 s1), some (.int .u32 (IntKind.u32.wrap ((IntKind.u32.wrap ((IntKind.u32.wrap (x16 + s0)) + x7)) + s1))), none, none]
section
variable {ops : Array Oper} {Q : Exit → Act → World → Prop} {a0 : Act} {I R : World → Prop} {af : Array Edge} {ty : Nat} {pos : String} {at_ : Array TypeId} {g n cp t j16 j7 : Nat} {x16 x7 s0 s1 : Int}
theorem wB76 (o3 : a0.tmps[3]? = some (.slice (some ⟨g, 0, none⟩) n cp)) : v6_ Tryz.prog ops Q a0 wBDS I R false (GV (wBGS g n cp t j16 j7 x16 x7 s0 s1)) 0 { dst := some 76, op := .move (.tmp 3), type := ty, pos := pos, after := af, guard := none } := by
 intro a w hout hI hE hdep K hK
 rw [if_pos (by simp [Region.wanted])]
 have o3w := (hout 3 de_).trans o3
 clear hout hE hdep
 clear o3
 go_simp
 exact hK _ (z7_ rfl rs_)
theorem wB77 (o3 : a0.tmps[3]? = some (.slice (some ⟨g, 0, none⟩) n cp)) : v6_ Tryz.prog ops Q a0 wBDS I R false (GV (wBGS g n cp t j16 j7 x16 x7 s0 s1)) 1 { dst := some 77, op := .move (.tmp 3), type := ty, pos := pos, after := af, guard := none } := by
 intro a w hout hI hE hdep K hK
 rw [if_pos (by simp [Region.wanted])]
 have o3w := (hout 3 de_).trans o3
 clear hout hE hdep
 clear o3
 go_simp
 exact hK _ (z7_ rfl rs_)
theorem wB78 (o5 : a0.tmps[5]? = some (.int .i64 (t : Int))) : v6_ Tryz.prog ops Q a0 wBDS I R false (GV (wBGS g n cp t j16 j7 x16 x7 s0 s1)) 2 { dst := some 78, op := .move (.tmp 5), type := ty, pos := pos, after := af, guard := none } := by
 intro a w hout hI hE hdep K hK
 rw [if_pos (by simp [Region.wanted])]
 have o5w := (hout 5 de_).trans o5
 clear hout hE hdep
 clear o5
 go_simp
 exact hK _ (z7_ rfl rs_)
theorem wB79 (h78 : (⟨2, .data⟩ : Edge) ∈ af.toList) (hq : IntKind.i64.wrap ((t : Int) - 16) = (j16 : Int)) : v6_ Tryz.prog ops Q a0 wBDS I R false (GV (wBGS g n cp t j16 j7 x16 x7 s0 s1)) 3 { dst := some 79, op := .binOp .sub 3 (.tmp 78) (.const (.int .i64 16)) 3, type := ty, pos := pos, after := af, guard := none } := by
 intro a w hout hI hE hdep K hK
 rw [if_pos (by simp [Region.wanted])]
 obtain ⟨v78, g78, e78⟩ := hdep ⟨2, .data⟩ h78 rfl
 have e78 := e78 78 rfl
 have g78 := g78 _ rfl
 subst g78
 clear hout hE hdep
 go_simp
 exact hK _ (z7_ rfl rs_)
theorem wB80 (h77 : (⟨1, .data⟩ : Edge) ∈ af.toList) (h79 : (⟨3, .data⟩ : Edge) ∈ af.toList) (hj : (0 : Int) ≤ (j16 : Int) ∧ (j16 : Int) < n) : v6_ Tryz.prog ops Q a0 wBDS I R false (GV (wBGS g n cp t j16 j7 x16 x7 s0 s1)) 4 { dst := some 80, op := .indexAddr 166 (.tmp 77) (.tmp 79), type := ty, pos := pos, after := af, guard := none } := by
 intro a w hout hI hE hdep K hK
 rw [if_pos (by simp [Region.wanted])]
 obtain ⟨v77, g77, e77⟩ := hdep ⟨1, .data⟩ h77 rfl
 have e77 := e77 77 rfl
 have g77 := g77 _ rfl
 subst g77
 obtain ⟨v79, g79, e79⟩ := hdep ⟨3, .data⟩ h79 rfl
 have e79 := e79 79 rfl
 have g79 := g79 _ rfl
 subst g79
 clear hout hE hdep
 go_simp
 exact hK _ (z7_ rfl rs_)
theorem wB81 (h80 : (⟨4, .data⟩ : Edge) ∈ af.toList) (hL : ∀ w, R w → w.cell? ⟨g, j16, none⟩ = some (.int .u32 x16)) : v6_ Tryz.prog ops Q a0 wBDS I R true (GV (wBGS g n cp t j16 j7 x16 x7 s0 s1)) 5 { dst := some 81, op := .load 121 (.tmp 80), type := ty, pos := pos, after := af, guard := none } := by
 intro a w hout hI hE hdep K hK
 rw [if_pos (by simp [Region.wanted])]
 obtain ⟨v80, g80, e80⟩ := hdep ⟨4, .data⟩ h80 rfl
 have e80 := e80 80 rfl
 have g80 := g80 _ rfl
 subst g80
 have hLw := hL w (hE rfl)
 clear hout hE hdep
 go_simp
 exact hK _ (z7_ rfl rs_)
theorem wB82 (o8 : a0.tmps[8]? = some (.int .u32 s0)) : v6_ Tryz.prog ops Q a0 wBDS I R false (GV (wBGS g n cp t j16 j7 x16 x7 s0 s1)) 6 { dst := some 82, op := .move (.tmp 8), type := ty, pos := pos, after := af, guard := none } := by
 intro a w hout hI hE hdep K hK
 rw [if_pos (by simp [Region.wanted])]
 have o8w := (hout 8 de_).trans o8
 clear hout hE hdep
 clear o8
 go_simp
 exact hK _ (z7_ rfl rs_)
theorem wB83 (h81 : (⟨5, .data⟩ : Edge) ∈ af.toList) (h82 : (⟨6, .data⟩ : Edge) ∈ af.toList) : v6_ Tryz.prog ops Q a0 wBDS I R false (GV (wBGS g n cp t j16 j7 x16 x7 s0 s1)) 7 { dst := some 83, op := .binOp .add 121 (.tmp 81) (.tmp 82) 121, type := ty, pos := pos, after := af, guard := none } := by
 intro a w hout hI hE hdep K hK
 rw [if_pos (by simp [Region.wanted])]
 obtain ⟨v81, g81, e81⟩ := hdep ⟨5, .data⟩ h81 rfl
 have e81 := e81 81 rfl
 have g81 := g81 _ rfl
 subst g81
 obtain ⟨v82, g82, e82⟩ := hdep ⟨6, .data⟩ h82 rfl
 have e82 := e82 82 rfl
 have g82 := g82 _ rfl
 subst g82
 clear hout hE hdep
 go_simp
 exact hK _ (z7_ rfl rs_)
theorem wB84 (o3 : a0.tmps[3]? = some (.slice (some ⟨g, 0, none⟩) n cp)) : v6_ Tryz.prog ops Q a0 wBDS I R false (GV (wBGS g n cp t j16 j7 x16 x7 s0 s1)) 8 { dst := some 84, op := .move (.tmp 3), type := ty, pos := pos, after := af, guard := none } := by
 intro a w hout hI hE hdep K hK
 rw [if_pos (by simp [Region.wanted])]
 have o3w := (hout 3 de_).trans o3
 clear hout hE hdep
 clear o3
 go_simp
 exact hK _ (z7_ rfl rs_)
theorem wB85 (o5 : a0.tmps[5]? = some (.int .i64 (t : Int))) : v6_ Tryz.prog ops Q a0 wBDS I R false (GV (wBGS g n cp t j16 j7 x16 x7 s0 s1)) 9 { dst := some 85, op := .move (.tmp 5), type := ty, pos := pos, after := af, guard := none } := by
 intro a w hout hI hE hdep K hK
 rw [if_pos (by simp [Region.wanted])]
 have o5w := (hout 5 de_).trans o5
 clear hout hE hdep
 clear o5
 go_simp
 exact hK _ (z7_ rfl rs_)
theorem wB86 (h85 : (⟨9, .data⟩ : Edge) ∈ af.toList) (hq : IntKind.i64.wrap ((t : Int) - 7) = (j7 : Int)) : v6_ Tryz.prog ops Q a0 wBDS I R false (GV (wBGS g n cp t j16 j7 x16 x7 s0 s1)) 10 { dst := some 86, op := .binOp .sub 3 (.tmp 85) (.const (.int .i64 7)) 3, type := ty, pos := pos, after := af, guard := none } := by
 intro a w hout hI hE hdep K hK
 rw [if_pos (by simp [Region.wanted])]
 obtain ⟨v85, g85, e85⟩ := hdep ⟨9, .data⟩ h85 rfl
 have e85 := e85 85 rfl
 have g85 := g85 _ rfl
 subst g85
 clear hout hE hdep
 go_simp
 exact hK _ (z7_ rfl rs_)
theorem wB87 (h84 : (⟨8, .data⟩ : Edge) ∈ af.toList) (h86 : (⟨10, .data⟩ : Edge) ∈ af.toList) (hj : (0 : Int) ≤ (j7 : Int) ∧ (j7 : Int) < n) : v6_ Tryz.prog ops Q a0 wBDS I R false (GV (wBGS g n cp t j16 j7 x16 x7 s0 s1)) 11 { dst := some 87, op := .indexAddr 166 (.tmp 84) (.tmp 86), type := ty, pos := pos, after := af, guard := none } := by
 intro a w hout hI hE hdep K hK
 rw [if_pos (by simp [Region.wanted])]
 obtain ⟨v84, g84, e84⟩ := hdep ⟨8, .data⟩ h84 rfl
 have e84 := e84 84 rfl
 have g84 := g84 _ rfl
 subst g84
 obtain ⟨v86, g86, e86⟩ := hdep ⟨10, .data⟩ h86 rfl
 have e86 := e86 86 rfl
 have g86 := g86 _ rfl
 subst g86
 clear hout hE hdep
 go_simp
 exact hK _ (z7_ rfl rs_)
theorem wB88 (h87 : (⟨11, .data⟩ : Edge) ∈ af.toList) (hL : ∀ w, R w → w.cell? ⟨g, j7, none⟩ = some (.int .u32 x7)) : v6_ Tryz.prog ops Q a0 wBDS I R true (GV (wBGS g n cp t j16 j7 x16 x7 s0 s1)) 12 { dst := some 88, op := .load 121 (.tmp 87), type := ty, pos := pos, after := af, guard := none } := by
 intro a w hout hI hE hdep K hK
 rw [if_pos (by simp [Region.wanted])]
 obtain ⟨v87, g87, e87⟩ := hdep ⟨11, .data⟩ h87 rfl
 have e87 := e87 87 rfl
 have g87 := g87 _ rfl
 subst g87
 have hLw := hL w (hE rfl)
 clear hout hE hdep
 go_simp
 exact hK _ (z7_ rfl rs_)
theorem wB89 (h83 : (⟨7, .data⟩ : Edge) ∈ af.toList) (h88 : (⟨12, .data⟩ : Edge) ∈ af.toList) : v6_ Tryz.prog ops Q a0 wBDS I R false (GV (wBGS g n cp t j16 j7 x16 x7 s0 s1)) 13 { dst := some 89, op := .binOp .add 121 (.tmp 83) (.tmp 88) 121, type := ty, pos := pos, after := af, guard := none } := by
 intro a w hout hI hE hdep K hK
 rw [if_pos (by simp [Region.wanted])]
 obtain ⟨v83, g83, e83⟩ := hdep ⟨7, .data⟩ h83 rfl
 have e83 := e83 83 rfl
 have g83 := g83 _ rfl
 subst g83
 obtain ⟨v88, g88, e88⟩ := hdep ⟨12, .data⟩ h88 rfl
 have e88 := e88 88 rfl
 have g88 := g88 _ rfl
 subst g88
 clear hout hE hdep
 go_simp
 exact hK _ (z7_ rfl rs_)
theorem wB90 (o9 : a0.tmps[9]? = some (.int .u32 s1)) : v6_ Tryz.prog ops Q a0 wBDS I R false (GV (wBGS g n cp t j16 j7 x16 x7 s0 s1)) 14 { dst := some 90, op := .move (.tmp 9), type := ty, pos := pos, after := af, guard := none } := by
 intro a w hout hI hE hdep K hK
 rw [if_pos (by simp [Region.wanted])]
 have o9w := (hout 9 de_).trans o9
 clear hout hE hdep
 clear o9
 go_simp
 exact hK _ (z7_ rfl rs_)
theorem wB91 (h89 : (⟨13, .data⟩ : Edge) ∈ af.toList) (h90 : (⟨14, .data⟩ : Edge) ∈ af.toList) : v6_ Tryz.prog ops Q a0 wBDS I R false (GV (wBGS g n cp t j16 j7 x16 x7 s0 s1)) 15 { dst := some 91, op := .binOp .add 121 (.tmp 89) (.tmp 90) 121, type := ty, pos := pos, after := af, guard := none } := by
 intro a w hout hI hE hdep K hK
 rw [if_pos (by simp [Region.wanted])]
 obtain ⟨v89, g89, e89⟩ := hdep ⟨13, .data⟩ h89 rfl
 have e89 := e89 89 rfl
 have g89 := g89 _ rfl
 subst g89
 obtain ⟨v90, g90, e90⟩ := hdep ⟨14, .data⟩ h90 rfl
 have e90 := e90 90 rfl
 have g90 := g90 _ rfl
 subst g90
 clear hout hE hdep
 go_simp
 exact hK _ (z7_ rfl rs_)
end
theorem zrj_ (l : List UInt8) (hl : l.length = 64) (bv : Value) (w : World) (hin : x8_ bv l w) :
  Calls Tryz.prog 162 #[bv] w fun e w' => ∃ v, e = .returned v ∧ OwnW w.heap.size v (zam_ l) w' ∧ Below w.heap.size w w' := by
 obtain ⟨G, o, c, rfl, hc, hG, hcell⟩ := zqy_ hin (by intro h; subst h; simp at hl)
 have HW : Hid (∀ k, k < 16 → _) := Lib.hid (fun k hk => zqx_ k l hl hk)
 have HC := Lib.hid hcell
 clear hcell hin
 rw [hl]
 go_enter Tryz.func162, Tryz.ntmps162
 go_wp2_with fail
 go_loopw [3, 4] (fun v iv wr => ∃ (k i : Nat), k ≤ 16 ∧ i = 4 * k ∧ iv = .int .i64 (i : Int) ∧ Hid (OwnW w.heap.size v ((zad_ l).take k) wr) ∧ Hid (GL [] w wr)) (fun _ iv _ => 64 - (intOf iv).toNat)
 case atStart => exact ⟨0, 0, by omega, rfl, rfl, Lib.hid (zqi_ _ _), Lib.hid (y1_ _ _)⟩
 case round =>
  obtain ⟨k, i, hk, hik, rfl, HO, HL⟩ := hrel
  obtain ⟨ad, cp, hv⟩ := zqj_ HO.out
  subst hv
  by_cases hlt : k < 16
  · have c0 := HC.out i om_
    have c1 := HC.out (i + 1) om_
    have c2 := HC.out (i + 2) om_
    have c3 := HC.out (i + 3) om_
    have HT := Lib.hid (HW.out k hlt)
    rw [← hik] at HT
    have HIK := Lib.hid hik
    have hi0 : (0 : Int) ≤ i := by omega
    have hi4 : i + 3 < 64 := by omega
    have hi5 : decide ((i : Int) < 64) = true := by simp; omega
    have hi6 : (i : Int) < 64 := by omega
    clear hik
    have d0 := (l.getD i 0).toNat_lt
    have d1 := (l.getD (i + 1) 0).toNat_lt
    have d2 := (l.getD (i + 2) 0).toNat_lt
    have d3 := (l.getD (i + 3) 0).toNat_lt
    generalize (l.getD i 0).toNat = b0 at *
    generalize (l.getD (i + 1) 0).toNat = b1 at *
    generalize (l.getD (i + 2) 0).toNat = b2 at *
    generalize (l.getD (i + 3) 0).toNat = b3 at *
    have hkl : ((zad_ l).take k).length = k := by rw [List.length_take, zdi_ 16 l om_]; omega
    have hkm : ((zad_ l).take k).length ≤ 100000 := by omega
    generalize ((zad_ l).take k) = m at *
    have HRUN : Hid (∀ W b, GL [] w W → OwnW w.heap.size (.slice ad m.length cp) m W → W.heap[b]? = some (.cells #[.int .u32 (zcn_ b0 b1 b2 b3)] 121 (0, 0)) → ∃ v' w', (Builtin.append_ #[166, 166] 166 #[.slice ad m.length cp, .slice (some ⟨b, 0, none⟩) 1 1]).run Tryz.prog W = .ok v' w' ∧ GL [] w w' ∧ OwnW w.heap.size v' (m ++ [zcn_ b0 b1 b2 b3]) w') := Lib.hid (fun W b hg ho hb => zks_ w W w.heap.size _ m _ b ho hb hkm (Nat.le_refl _) hg.size hg)
    go_upto_region 5 with fail
    refine zko_ (ds := j3_) (I := (fun W => GL [] w W)) (R := (fun W => OwnW w.heap.size (.slice ad m.length cp) m W)) (B := (OneB (.int .u32 (zcn_ b0 b1 b2 b3)) 121)) (D := (fun v' W => OwnW w.heap.size v' (m ++ [zcn_ b0 b1 b2 b3]) W)) (G := GV (j9_ ad m.length cp G o c i b0 b1 b2 b3)) 32 3 30 31 _ _ de_ de_ (fun v => zfn_ rfl) (fun v => zfn_ rfl) (by kernel_rfl) [false, false, false, false, false, false, false, false, false, false, false, false, false, false, false, false, false, false, false, false, false, false, false, false, false, false, false, false, false, false, false, false] (by kernel_rfl) rfl (by kernel_rfl) rfl rfl rfl rfl rfl rfl rfl (zdf_ _ (by decide +kernel)) ?_ (by kernel_rfl) (x9_ HL.out) (HO.out.drew) ?_ ?_
    · intro d hd
      exact Nat.lt_of_lt_of_le (zdg_ (n := 95) j3_ (by decide +kernel) d hd) si_
    · exact ⟨wA14 si_, wA15 si_, wA16 si_, wA17 si_ si_ hi4, wA18 si_ (fun W h => zbF_ hG c0 h), wA19 si_ d0, wA20 si_, wA21 si_, wA22 si_, wA23 si_ hi4, wA24 si_ si_ hi4, wA25 si_ (fun W h => zbF_ hG c1 h), wA26 si_ d1, wA27 si_, wA28 si_ si_, wA29 si_, wA30 si_, wA31 si_ hi4, wA32 si_ si_ hi4, wA33 si_ (fun W h => zbF_ hG c2 h), wA34 si_ d2, wA35 si_, wA36 si_ si_, wA37 si_, wA38 si_, wA39 si_ hi4, wA40 si_ si_ hi4, wA41 si_ (fun W h => zbF_ hG c3 h), wA42 si_ d3, wA43 si_ si_, zkp_ (j := 29) (zkr_ _) (fun W o h => y2_ h o) (fun W o h => zbT_ h o) si_ rfl (fun v hv => hv _ rfl), zkq_ (j1 := 0) rfl HRUN.out si_ rfl (fun v hv => hv _ rfl), trivial⟩
    · intro vs w' u hl hv hI hua hD
      have hl0 : vs.length = 32 := hl
      clear hl
      obtain ⟨x0, r0, rfl, hl1⟩ := z6_ hl0
      clear hl0
      obtain ⟨x1, r1, rfl, hl2⟩ := z6_ hl1
      clear hl1
      obtain ⟨x2, r2, rfl, hl3⟩ := z6_ hl2
      clear hl2
      obtain ⟨x3, r3, rfl, hl4⟩ := z6_ hl3
      clear hl3
      obtain ⟨x4, r4, rfl, hl5⟩ := z6_ hl4
      clear hl4
      obtain ⟨x5, r5, rfl, hl6⟩ := z6_ hl5
      clear hl5
      obtain ⟨x6, r6, rfl, hl7⟩ := z6_ hl6
      clear hl6
      obtain ⟨x7, r7, rfl, hl8⟩ := z6_ hl7
      clear hl7
      obtain ⟨x8, r8, rfl, hl9⟩ := z6_ hl8
      clear hl8
      obtain ⟨x9, r9, rfl, hl10⟩ := z6_ hl9
      clear hl9
      obtain ⟨x10, r10, rfl, hl11⟩ := z6_ hl10
      clear hl10
      obtain ⟨x11, r11, rfl, hl12⟩ := z6_ hl11
      clear hl11
      obtain ⟨x12, r12, rfl, hl13⟩ := z6_ hl12
      clear hl12
      obtain ⟨x13, r13, rfl, hl14⟩ := z6_ hl13
      clear hl13
      obtain ⟨x14, r14, rfl, hl15⟩ := z6_ hl14
      clear hl14
      obtain ⟨x15, r15, rfl, hl16⟩ := z6_ hl15
      clear hl15
      obtain ⟨x16, r16, rfl, hl17⟩ := z6_ hl16
      clear hl16
      obtain ⟨x17, r17, rfl, hl18⟩ := z6_ hl17
      clear hl17
      obtain ⟨x18, r18, rfl, hl19⟩ := z6_ hl18
      clear hl18
      obtain ⟨x19, r19, rfl, hl20⟩ := z6_ hl19
      clear hl19
      obtain ⟨x20, r20, rfl, hl21⟩ := z6_ hl20
      clear hl20
      obtain ⟨x21, r21, rfl, hl22⟩ := z6_ hl21
      clear hl21
      obtain ⟨x22, r22, rfl, hl23⟩ := z6_ hl22
      clear hl22
      obtain ⟨x23, r23, rfl, hl24⟩ := z6_ hl23
      clear hl23
      obtain ⟨x24, r24, rfl, hl25⟩ := z6_ hl24
      clear hl24
      obtain ⟨x25, r25, rfl, hl26⟩ := z6_ hl25
      clear hl25
      obtain ⟨x26, r26, rfl, hl27⟩ := z6_ hl26
      clear hl26
      obtain ⟨x27, r27, rfl, hl28⟩ := z6_ hl27
      clear hl27
      obtain ⟨x28, r28, rfl, hl29⟩ := z6_ hl28
      clear hl28
      obtain ⟨x29, r29, rfl, hl30⟩ := z6_ hl29
      clear hl29
      obtain ⟨x30, r30, rfl, hl31⟩ := z6_ hl30
      clear hl30
      obtain ⟨x31, r31, rfl, hl32⟩ := z6_ hl31
      clear hl31
      have hua2 : x31 = u := by simpa using hua
      subst hua2
      obtain rfl : r31 = [] := List.eq_nil_of_length_eq_zero hl32
      clear hv hua
      simp only [j3_, q0_, List.setIfInBounds_toArray, List.set_cons_zero, List.set_cons_succ]
      go_wp2_with fail
      exact ⟨⟨k + 1, i + 4, by omega, by have := HIK.out; omega, by go_num, Lib.hid (by rw [HT.out]; exact hD), Lib.hid hI⟩, by simp [intOf]; omega⟩
  · obtain rfl : k = 16 := by omega
    obtain rfl : i = 64 := by omega
    have hk16 : (List.take 16 (zad_ l)).length = 16 := by rw [List.length_take, zdi_ 16 l om_]; rfl
    rw [hk16] at HO ⊢
    rw [List.take_of_length_le (by rw [zdi_ 16 l om_]; omega)] at HO
    clear hk16
    have HL16 := Lib.hid (zdi_ 16 l om_)
    clear hlt HC HW
    go_wp2_with fail
    go_loopw [3, 5] (fun v iv wq => ∃ (t : Nat), 16 ≤ t ∧ t ≤ 64 ∧ iv = .int .i64 (t : Int) ∧ Hid (OwnW w.heap.size v (zbJ_ (t - 16) (zad_ l)) wq) ∧ Hid (GL [] w wq)) (fun _ iv _ => 64 - (intOf iv).toNat)
    case atStart => exact ⟨16, by omega, by omega, rfl, HO, HL⟩
    case round =>
     obtain ⟨t, ht1, ht2, rfl, HO2, HL2⟩ := hrel
     have hml : (zbJ_ (t - 16) (zad_ l)).length = t := by rw [zej_, HL16.out]; omega
     obtain ⟨g, cp, hv, hcp, hgl, hcell⟩ := zhp_ HO2.out (fun e => by rw [e] at hml; simp at hml; omega)
     subst hv
     rw [hml] at hcp HO2
     rw [hml]
     clear hcell
     by_cases hlt : t < 64
     · have hT := zie_ (t - 16) (zad_ l)
       rw [show t - 16 + 1 = t + 1 - 16 by omega] at hT
       simp only [hml] at hT
       generalize zbJ_ (t - 16) (zad_ l) = m at *
       obtain ⟨j16, e16⟩ : ∃ j : Nat, j = t - 16 := ⟨_, rfl⟩
       obtain ⟨j15, e15⟩ : ∃ j : Nat, j = t - 15 := ⟨_, rfl⟩
       obtain ⟨j7, e7⟩ : ∃ j : Nat, j = t - 7 := ⟨_, rfl⟩
       obtain ⟨j2, e2⟩ : ∃ j : Nat, j = t - 2 := ⟨_, rfl⟩
       rw [← e16, ← e15, ← e7, ← e2] at hT
       have q16 : IntKind.i64.wrap ((t : Int) - 16) = (j16 : Int) := by rw [IntWalk.i64_in _ om_]; omega
       have q15 : IntKind.i64.wrap ((t : Int) - 15) = (j15 : Int) := by rw [IntWalk.i64_in _ om_]; omega
       have q7 : IntKind.i64.wrap ((t : Int) - 7) = (j7 : Int) := by rw [IntWalk.i64_in _ om_]; omega
       have q2 : IntKind.i64.wrap ((t : Int) - 2) = (j2 : Int) := by rw [IntWalk.i64_in _ om_]; omega
       have l16 : (0 : Int) ≤ (j16 : Int) ∧ (j16 : Int) < t := by omega
       have l15 : (0 : Int) ≤ (j15 : Int) ∧ (j15 : Int) < t := by omega
       have l7 : (0 : Int) ≤ (j7 : Int) ∧ (j7 : Int) < t := by omega
       have l2 : (0 : Int) ≤ (j2 : Int) ∧ (j2 : Int) < t := by omega
       have hj16 : j16 < m.length := by omega
       have hj15 : j15 < m.length := by omega
       have hj7 : j7 < m.length := by omega
       have hj2 : j2 < m.length := by omega
       have hml2 : m.length ≤ 100000 := by omega
       obtain ⟨x16, h16⟩ : ∃ x, m.getD j16 0 = x := ⟨_, rfl⟩
       obtain ⟨x15, h15⟩ : ∃ x, m.getD j15 0 = x := ⟨_, rfl⟩
       obtain ⟨x7, h7⟩ : ∃ x, m.getD j7 0 = x := ⟨_, rfl⟩
       obtain ⟨x2, h2⟩ : ∃ x, m.getD j2 0 = x := ⟨_, rfl⟩
       rw [h16, h15, h7, h2] at hT
       have HT := Lib.hid hT
       clear hT
       have c15 := zfT_ HO2.out hj15 h15
       have c2 := zfT_ HO2.out hj2 h2
       have L16 := Lib.hid (And.intro hj16 h16)
       have L7 := Lib.hid (And.intro hj7 h7)
       have hML := Lib.hid hml
       clear hj16 hj15 hj7 hj2 h16 h15 h7 h2 e16 e15 e7 e2 hml
       have hi5 : decide ((t : Int) < 64) = true := by simp; omega
       have hi6 : (t : Int) < 64 := by omega
       go_wp2_with fail
       go_region
       clear c15 c2
       have HO3 : Hid (OwnW w.heap.size (.slice (some ⟨g, 0, none⟩) t cp) m wr.drew) := Lib.hid HO2.out.drew
       have HL3 : Hid (GL [] w wr.drew) := Lib.hid (x9_ HL2.out)
       clear HO2 HL2
       generalize wr.drew = w3 at *
       go_wp2_with fail
       refine (zdr_ 7 7 rfl om_ om_ x15 _).mono ?_
       rintro e v0 ⟨rfl, rfl⟩
       go_wp2_with fail
       refine (zdr_ 18 18 rfl om_ om_ x15 _).mono ?_
       rintro e v1 ⟨rfl, rfl⟩
       go_wp2_with fail
       refine (zdr_ 17 17 rfl om_ om_ x2 _).mono ?_
       rintro e v2 ⟨rfl, rfl⟩
       go_wp2_with fail
       refine (zdr_ 19 19 rfl om_ om_ x2 _).mono ?_
       rintro e v3 ⟨rfl, rfl⟩
       go_upto_region 12 with fail
       generalize hg0 : bits .xor .u32 (bits .xor .u32 (rotr 7 x15) (rotr 18 x15)) (x15 / 8) = s0
       generalize hg1 : bits .xor .u32 (bits .xor .u32 (rotr 17 x2) (rotr 19 x2)) (x2 / 1024) = s1
       have HNX : Hid (zdQ_ x16 x15 x7 x2 = IntKind.u32.wrap (IntKind.u32.wrap (IntKind.u32.wrap (x16 + s0) + x7) + s1)) := Lib.hid (by rw [← hg0, ← hg1]; rfl)
       clear hg0 hg1
       have HO4 : Hid (OwnW w.heap.size (.slice (some ⟨g, 0, none⟩) t cp) m w3.drew.drew.drew.drew) := Lib.hid HO3.out.drew.drew.drew.drew
       have HL4 : Hid (GL [] w w3.drew.drew.drew.drew) := Lib.hid (x9_ (x9_ (x9_ (x9_ HL3.out))))
       clear HO3 HL3
       generalize w3.drew.drew.drew.drew = w4 at *
       have HRUN : Hid (∀ W b, GL [] w W → OwnW w.heap.size (.slice (some ⟨g, 0, none⟩) t cp) m W → W.heap[b]? = some (.cells #[.int .u32 (IntKind.u32.wrap (IntKind.u32.wrap (IntKind.u32.wrap (x16 + s0) + x7) + s1))] 121 (0, 0)) → ∃ v' w', (Builtin.append_ #[166, 166] 166 #[.slice (some ⟨g, 0, none⟩) t cp, .slice (some ⟨b, 0, none⟩) 1 1]).run Tryz.prog W = .ok v' w' ∧ GL [] w w' ∧ OwnW w.heap.size v' (m ++ [IntKind.u32.wrap (IntKind.u32.wrap (IntKind.u32.wrap (x16 + s0) + x7) + s1)]) w') := Lib.hid (fun W b hg ho hb => zks_ w W w.heap.size _ m _ b ho hb hml2 (Nat.le_refl _) hg.size hg)
       refine zko_ (ds := wBDS) (I := (fun W => GL [] w W)) (R := (fun W => OwnW w.heap.size (.slice (some ⟨g, 0, none⟩) t cp) m W)) (B := (OneB (.int .u32 (IntKind.u32.wrap (IntKind.u32.wrap (IntKind.u32.wrap (x16 + s0) + x7) + s1))) 121)) (D := (fun v' W => OwnW w.heap.size v' (m ++ [IntKind.u32.wrap (IntKind.u32.wrap (IntKind.u32.wrap (x16 + s0) + x7) + s1)]) W)) (G := GV (wBGS g t cp t j16 j7 x16 x7 s0 s1)) 18 3 16 17 _ _ de_ de_ (fun v => zfn_ rfl) (fun v => zfn_ rfl) (by kernel_rfl) [false, false, false, false, false, true, false, false, false, false, false, false, true, false, false, false, false, false] (by kernel_rfl) rfl (by kernel_rfl) rfl rfl rfl rfl rfl rfl rfl (zdf_ _ (by decide +kernel)) ?_ (by kernel_rfl) (x9_ HL4.out) (HO4.out.drew) ?_ ?_
       · intro d hd
         exact Nat.lt_of_lt_of_le (zdg_ (n := 95) wBDS (by decide +kernel) d hd) si_
       · exact ⟨wB76 si_, wB77 si_, wB78 si_, wB79 si_ q16, wB80 si_ si_ l16, wB81 si_ (fun W h => zfT_ h L16.out.1 L16.out.2), wB82 si_, wB83 si_ si_, wB84 si_, wB85 si_, wB86 si_ q7, wB87 si_ si_ l7, wB88 si_ (fun W h => zfT_ h L7.out.1 L7.out.2), wB89 si_ si_, wB90 si_, wB91 si_ si_, zkp_ (j := 15) (zkr_ _) (fun W o h => y2_ h o) (fun W o h => zbT_ h o) si_ rfl (fun v hv => hv _ rfl), zkq_ (j1 := 0) rfl HRUN.out si_ rfl (fun v hv => hv _ rfl), trivial⟩
       · intro vs w' u hl hv hI hua hD
         have hl0 : vs.length = 18 := hl
         clear hl
         obtain ⟨x0, r0, rfl, hl1⟩ := z6_ hl0
         clear hl0
         obtain ⟨x1, r1, rfl, hl2⟩ := z6_ hl1
         clear hl1
         obtain ⟨x2, r2, rfl, hl3⟩ := z6_ hl2
         clear hl2
         obtain ⟨x3, r3, rfl, hl4⟩ := z6_ hl3
         clear hl3
         obtain ⟨x4, r4, rfl, hl5⟩ := z6_ hl4
         clear hl4
         obtain ⟨x5, r5, rfl, hl6⟩ := z6_ hl5
         clear hl5
         obtain ⟨x6, r6, rfl, hl7⟩ := z6_ hl6
         clear hl6
         obtain ⟨x7, r7, rfl, hl8⟩ := z6_ hl7
         clear hl7
         obtain ⟨x8, r8, rfl, hl9⟩ := z6_ hl8
         clear hl8
         obtain ⟨x9, r9, rfl, hl10⟩ := z6_ hl9
         clear hl9
         obtain ⟨x10, r10, rfl, hl11⟩ := z6_ hl10
         clear hl10
         obtain ⟨x11, r11, rfl, hl12⟩ := z6_ hl11
         clear hl11
         obtain ⟨x12, r12, rfl, hl13⟩ := z6_ hl12
         clear hl12
         obtain ⟨x13, r13, rfl, hl14⟩ := z6_ hl13
         clear hl13
         obtain ⟨x14, r14, rfl, hl15⟩ := z6_ hl14
         clear hl14
         obtain ⟨x15, r15, rfl, hl16⟩ := z6_ hl15
         clear hl15
         obtain ⟨x16, r16, rfl, hl17⟩ := z6_ hl16
         clear hl16
         obtain ⟨x17, r17, rfl, hl18⟩ := z6_ hl17
         clear hl17
         have hua2 : x17 = u := by simpa using hua
         subst hua2
         obtain rfl : r17 = [] := List.eq_nil_of_length_eq_zero hl18
         clear hv hua
         simp only [wBDS, q0_, List.setIfInBounds_toArray, List.set_cons_zero, List.set_cons_succ]
         go_wp2_with fail
         exact ⟨⟨t + 1, by omega, by omega, by go_num, Lib.hid (by rw [HT.out, HNX.out]; exact hD), Lib.hid hI⟩, by simp [intOf]; omega⟩
     · obtain rfl : t = 64 := by omega
       go_wp2_with fail
       exact bodyPost_ret (v := .slice (some ⟨g, 0, none⟩) 64 cp) (by simp [results, Tryz.results162, go_sem]) rfl ⟨_, rfl, HO2.out, y0_ HL2.out⟩
theorem zkt_ : wL kTab = [.int .u32 0x428a2f98, .int .u32 0x71374491, .int .u32 0xb5c0fbcf, .int .u32 0xe9b5dba5, .int .u32 0x3956c25b, .int .u32 0x59f111f1, .int .u32 0x923f82a4, .int .u32 0xab1c5ed5, .int .u32 0xd807aa98, .int .u32 0x12835b01, .int .u32 0x243185be, .int .u32 0x550c7dc3, .int .u32 0x72be5d74, .int .u32 0x80deb1fe, .int .u32 0x9bdc06a7, .int .u32 0xc19bf174, .int .u32 0xe49b69c1, .int .u32 0xefbe4786, .int .u32 0x0fc19dc6, .int .u32 0x240ca1cc, .int .u32 0x2de92c6f, .int .u32 0x4a7484aa, .int .u32 0x5cb0a9dc, .int .u32 0x76f988da, .int .u32 0x983e5152, .int .u32 0xa831c66d, .int .u32 0xb00327c8, .int .u32 0xbf597fc7, .int .u32 0xc6e00bf3, .int .u32 0xd5a79147, .int .u32 0x06ca6351, .int .u32 0x14292967, .int .u32 0x27b70a85, .int .u32 0x2e1b2138, .int .u32 0x4d2c6dfc, .int .u32 0x53380d13, .int .u32 0x650a7354, .int .u32 0x766a0abb, .int .u32 0x81c2c92e, .int .u32 0x92722c85, .int .u32 0xa2bfe8a1, .int .u32 0xa81a664b, .int .u32 0xc24b8b70, .int .u32 0xc76c51a3, .int .u32 0xd192e819, .int .u32 0xd6990624, .int .u32 0xf40e3585, .int .u32 0x106aa070, .int .u32 0x19a4c116, .int .u32 0x1e376c08, .int .u32 0x2748774c, .int .u32 0x34b0bcb5, .int .u32 0x391c0cb3, .int .u32 0x4ed8aa4a, .int .u32 0x5b9cca4f, .int .u32 0x682e6ff3, .int .u32 0x748f82ee, .int .u32 0x78a5636f, .int .u32 0x84c87814, .int .u32 0x8cc70208, .int .u32 0x90befffa, .int .u32 0xa4506ceb, .int .u32 0xbef9a3f7, .int .u32 0xc67178f2] := rfl
theorem zhy_ {g c T : Nat} {l : List Int} {W : World} (hb : W.heap[g]? = some (.cells (wL l).toArray T (0, 0))) (hc : l.length ≤ c) : InW (.slice (some ⟨g, 0, none⟩) l.length c) l W := by
 refine ⟨g, c, rfl, hc, z4_ hb, fun j hj => ?_⟩
 rw [z0_ hb]
 simp [wL, hj]
theorem zrk_ (w : World) :
  Calls Tryz.prog 161 #[] w fun e w' => ∃ v, e = .returned v ∧ InW v kTab w' ∧ Below w.heap.size w w' := by
 go_enter Tryz.func161, Tryz.ntmps161
 go_wp2_with fail
 have hb := y8_ w (.cells (wL kTab).toArray 121)
 rw [zkt_] at hb
 refine bodyPost_ret (v := .slice (some ⟨w.heap.size, 0, none⟩) 64 64) (by simp [results, Tryz.results161, go_sem]) rfl ⟨_, rfl, ?_, bl_⟩
 refine zhy_ (l := kTab) (T := 121) ?_ de_
 rw [zkt_]
 exact hb
def turnI : List Int := [996825010, 642813549, 513874426, 1027748829, 705979059]
theorem zrl_ : ∀ k : Fin 5, turnI.getD k.val 0 = ((turnK.getD k.val 0 : Nat) : Int) := by decide
theorem zrm_ : ∀ k : Fin 5, turnK.getD k.val 0 < 1073741824 := by decide
theorem zrn_ : wL turnI = [.int .u32 996825010, .int .u32 642813549, .int .u32 513874426, .int .u32 1027748829, .int .u32 705979059] := rfl
theorem zro_ (l : List UInt8) (hl : l.length ≤ 1000000000) (bv : Value) (w : World) (hin : x8_ bv l w) :
  Calls Tryz.prog 93 #[bv] w fun e w' => e = .returned (.int .u32 ((poly 1 l : Nat) : Int)) ∧ Below w.heap.size w w' := by
 obtain ⟨ba, bc, hbv, hbc, hb0⟩ := j6_ hin
 subst hbv
 have HIN := Lib.hid hin
 have HB0 := Lib.hid hb0
 clear hin hb0
 go_enter Tryz.func93, Tryz.ntmps93
 go_wp2_with fail
 go_loopw [3, 4] (fun cv iv wr => ∃ i P : Nat, i ≤ l.length ∧ P < 1073741824 ∧ iv = .int .i64 (i : Int) ∧ cv = .int .u32 (P : Int) ∧ Hid (P = poly 1 (l.take i)) ∧ Hid (GL [] w wr)) (fun _ iv _ => l.length - (intOf iv).toNat)
 case atStart => exact ⟨0, 1, by omega, by omega, rfl, rfl, Lib.hid rfl, Lib.hid (y1_ _ _)⟩
 case round =>
  obtain ⟨i, P, hi, hP, rfl, rfl, HP, HL⟩ := hrel
  by_cases hlt : i < l.length
  · obtain ⟨G, o, hba, hbt⟩ := HB0.out (by intro e; subst e; simp at hlt)
    subst hba
    have fc : wr.cell? ⟨G, o + i, none⟩ = some (.int .u8 (l.getD i 0).toNat) := zbF_ hbt.1 (hbt.2 i hlt) HL.out
    have hc := (l.getD i 0).toNat_lt
    have HS : Hid (poly 1 (l.take (i + 1)) = zbw_ turnK (P / 2 ^ 25) (((P % 2 ^ 25) * 32) ^^^ (l.getD i 0).toNat)) := Lib.hid (by
     rw [List.take_succ_eq_append_getElem hlt, zcN_, ← HP.out, zak_ hlt]
     rfl)
    have hfe := ziT_ P (l.getD i 0).toNat om_ om_
    have hs0 : (((P % 2 ^ 25) * 32) ^^^ (l.getD i 0).toNat) < 2 ^ 30 := Nat.xor_lt_two_pow om_ om_
    generalize (l.getD i 0).toNat = x at *
    generalize hS0 : ((P % 2 ^ 25) * 32) ^^^ x = s0 at *
    clear hS0
    have hx1 : IntKind.u32.wrap (x : Int) = x := by rw [IntKind.wrap_u32]; omega
    have hi0 : (0 : Int) ≤ i := by omega
    have hi1 : (i : Int) < l.length := by omega
    have hlb : decide ((i : Int) < l.length) = true := by simp; omega
    obtain ⟨t, ht⟩ : ∃ t : Nat, t = P / 2 ^ 25 := ⟨_, rfl⟩
    rw [← ht] at HS
    have ht2 : (P : Int) / 33554432 = (t : Int) := by omega
    have ht3 : t < 32 := by omega
    have HT := Lib.hid ht
    clear ht
    go_wp2_with fail
    have hb5 := y8_ wr (.cells (wL turnI).toArray 121)
    rw [zrn_] at hb5
    have HL5 : Hid (GL [] w (wr.alloc (.cells #[.int .u32 996825010, .int .u32 642813549, .int .u32 513874426, .int .u32 1027748829, .int .u32 705979059] 121))) := Lib.hid (y2_ HL.out _)
    have HB5 : Hid ((wr.alloc (.cells #[.int .u32 996825010, .int .u32 642813549, .int .u32 513874426, .int .u32 1027748829, .int .u32 705979059] 121)).heap[wr.heap.size]? = some (.cells (wL turnI).toArray 121 (0, 0))) := Lib.hid hb5
    clear hb5 fc HL
    generalize wr.alloc (.cells #[.int .u32 996825010, .int .u32 642813549, .int .u32 513874426, .int .u32 1027748829, .int .u32 705979059] 121) = w5 at *
    generalize wr.heap.size = T at *
    go_loopw [3, 7] (fun cv kv wq => ∃ k A : Nat, k ≤ 5 ∧ A < 1073741824 ∧ kv = .int .i64 (k : Int) ∧ cv = .int .u32 (A : Int) ∧ Hid (A = zax_ k t s0) ∧ Hid (wq = w5)) (fun _ kv _ => 5 - (intOf kv).toNat)
    case atStart => exact ⟨0, s0, by omega, by omega, rfl, by first | rfl | (simp; done), Lib.hid rfl, Lib.hid rfl⟩
    case round =>
     obtain ⟨k, A, hk, hA, rfl, rfl, HA, hw⟩ := hrel
     have hw2 := hw.out
     subst hw2
     by_cases hk5 : k < 5
     · have hk0 : (0 : Int) ≤ k := by omega
       have hk1 : (k : Int) < 5 := by omega
       have hk2 : decide ((k : Int) < 5) = true := by simp; omega
       have hst := zgG_ k t s0 hk5
       rw [← HA.out] at hst
       have HST := Lib.hid hst
       have htk : t / 2 ^ k < 4294967296 := Nat.lt_of_le_of_lt (Nat.div_le_self _ _) om_
       have hand : bits .and .u32 ((t : Int) / 2 ^ k) 1 = ((t / 2 ^ k % 2 : Nat) : Int) := by
        have := ziU_ (t / 2 ^ k) htk
        rw [← this]
        push_cast
        rfl
       have hK := zrm_ ⟨k, hk5⟩
       have fk : wr.cell? ⟨T, k, none⟩ = some (.int .u32 ((turnK.getD k 0 : Nat) : Int)) := by
        rw [z0_ HB5.out]
        have h1 : k < turnI.length := hk5
        have h2 := zrl_ ⟨k, hk5⟩
        simp only at h2
        rw [← h2, List.getElem?_toArray]
        unfold wL
        rw [List.getElem?_map, List.getElem?_eq_getElem h1, List.getD_eq_getElem?_getD, List.getElem?_eq_getElem h1]
        rfl
       simp only at hK
       generalize turnK.getD k 0 = Kk at *
       clear hst
       by_cases hbit : t / 2 ^ k % 2 = 1
       · have hbb : (bits .and .u32 ((t : Int) / 2 ^ k) 1 == 1) = true := by rw [hand, hbit]; rfl
         have hxo := zey_ A Kk om_ om_
         have HA2 : Hid (A ^^^ Kk = zax_ (k + 1) t s0) := Lib.hid (by rw [HST.out, if_pos hbit])
         have hlt2 : A ^^^ Kk < 1073741824 := by
          rw [HA2.out]
          exact ziW_ (k + 1) t s0 om_ hs0
         clear hand hbit
         go_wp2_with fail
         exact ⟨⟨k + 1, A ^^^ Kk, by omega, hlt2, by go_num, by first | rfl | rw [hxo], HA2, by first | exact Lib.hid rfl | exact Lib.hid trivial⟩, by simp [intOf]; omega⟩
       · have hbb : (bits .and .u32 ((t : Int) / 2 ^ k) 1 == 1) = false := by rw [hand, beq_eq_false_iff_ne]; omega
         have HA2 : Hid (A = zax_ (k + 1) t s0) := Lib.hid (by rw [HST.out, if_neg hbit, Nat.xor_zero])
         clear hand hbit
         go_wp2_with fail
         exact ⟨⟨k + 1, A, by omega, hA, by go_num, rfl, HA2, by first | exact Lib.hid rfl | exact Lib.hid trivial⟩, by simp [intOf]; omega⟩
     · obtain rfl : k = 5 := by omega
       have HAE : Hid (A = poly 1 (l.take (i + 1))) := Lib.hid (by rw [HA.out, ziV_, HS.out])
       go_wp2_with fail
       exact ⟨⟨i + 1, A, by omega, hA, by go_num, rfl, HAE, HL5⟩, by simp [intOf]; omega⟩
  · obtain rfl : i = l.length := by omega
    have HPE : Hid (poly 1 l = P) := Lib.hid (by rw [HP.out, List.take_length])
    clear hlt
    go_wp2_with fail
    exact bodyPost_ret (v := .int .u32 (P : Int)) (by simp [results, Tryz.results93, go_sem]) rfl ⟨by rw [HPE.out], y0_ HL.out⟩
theorem zhz_ (b a : Nat) : ∀ (c v : Nat), z1_ b (a + c) v = z1_ b a (v / b ^ c) ++ z1_ b c v
 | 0, v => by rw [Nat.pow_zero, Nat.div_one, Nat.add_zero]; exact (List.append_nil _).symm
 | c + 1, v => by
   rw [← Nat.add_assoc, z1_, zhz_ b a c (v / b), z1_, ← List.append_assoc, Nat.div_div_eq_div_mul, Nat.pow_succ, Nat.mul_comm]
theorem zeT_ {b : Nat} (hb : b ≤ 256) (hb0 : 0 < b) : ∀ (n v : Nat), y3_ b (z1_ b n v) = v % b ^ n
 | 0, v => by rw [Nat.pow_zero, Nat.mod_one]; rfl
 | n + 1, v => by
   rw [z1_, zcy_, zeT_ hb hb0 n (v / b)]
   have h1 := Nat.mod_lt v hb0
   rw [UInt8.toNat_ofNat', Nat.mod_eq_of_lt (a := v % b) om_, Nat.pow_succ, Nat.mul_comm (b ^ n) b, Nat.mod_mul, Nat.mul_comm]
   omega
theorem zku_ (b a c v : Nat) : (z1_ b (a + c) v).take a = z1_ b a (v / b ^ c) := by
 rw [zhz_, List.take_left' (y9_ _ _ _)]
theorem zkv_ (b a c v : Nat) : (z1_ b (a + c) v).drop a = z1_ b c v := by
 rw [zhz_, List.drop_left' (y9_ _ _ _)]
theorem zkw_ (m V nn : Nat) (h : 1 ≤ nn) : z1_ 2 (m + 1) (V / 2 ^ (nn - 1)) = z1_ 2 m (V / 2 ^ nn) ++ [UInt8.ofNat (V / 2 ^ (nn - 1) % 2)] := by
 rw [z1_, Nat.div_div_eq_div_mul, ← Nat.pow_succ, show (nn - 1).succ = nn by omega]
theorem zkx_ (V x f k : Nat) (hk : k < f) : (V * 2 ^ f + x) / 2 ^ k % 2 = x / 2 ^ k % 2 := by
 have h : 2 ^ f = 2 ^ k * (2 * 2 ^ (f - 1 - k)) := by rw [← Nat.pow_succ', ← Nat.pow_add]; congr 1; omega
 rw [h, show V * (2 ^ k * (2 * 2 ^ (f - 1 - k))) + x = x + 2 ^ k * (V * (2 * 2 ^ (f - 1 - k))) by rw [Nat.mul_left_comm]; omega, Nat.add_mul_div_left _ _ (Nat.two_pow_pos k)]
 rw [show V * (2 * 2 ^ (f - 1 - k)) = 2 * (V * 2 ^ (f - 1 - k)) by rw [Nat.mul_left_comm]]
 omega
theorem zky_ (m V : Nat) : ∀ k, z1_ 2 m V ++ List.replicate k 0 = z1_ 2 (m + k) (V * 2 ^ k)
 | 0 => by simp
 | k + 1 => by
   rw [List.replicate_succ', ← List.append_assoc, zky_ m V k, ← Nat.add_assoc, z1_, Nat.pow_succ, ← Nat.mul_assoc, Nat.mul_div_cancel _ om_, Nat.mul_mod_left]
   rfl
theorem zrp_ (t q V r : Nat) (hr : r ≤ t) : z1_ (2 ^ t) (q + 1) (V * 2 ^ (t - r)) = z1_ (2 ^ t) q (V / 2 ^ r) ++ [UInt8.ofNat (V * 2 ^ (t - r) % 2 ^ t)] := by
 rw [z1_]
 congr 2
 rw [show 2 ^ t = 2 ^ r * 2 ^ (t - r) by rw [← Nat.pow_add]; congr 1; omega, Nat.mul_div_mul_right _ _ (Nat.two_pow_pos _)]
end Go.Proofs.YtembdkodajichaaGreatDoor
