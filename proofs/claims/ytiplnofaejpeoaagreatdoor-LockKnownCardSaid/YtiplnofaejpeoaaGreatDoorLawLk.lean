/- The law of layer 11, LockKnown. -/
import Derived.Test.YtiplnofaejpeoaaGreatDoorAppN
import Derived.Test.YtiplnofaejpeoaaGreatDoorRegO
import Derived.Test.YtiplnofaejpeoaaGreatDoorLawX
import Derived.Test.YtiplnofaejpeoaaGreatDoorLawM
set_option maxRecDepth 100000
set_option maxHeartbeats 200000000
set_option linter.unusedSimpArgs false
set_option linter.unusedVariables false
namespace Go.Proofs.YtiplnofaejpeoaaGreatDoor
open Go.RowKit
def lkBad : List (List UInt8) := [[], [97, 48, 55, 59], [97, 59], [97, 45, 49, 59], [97, 49, 48, 55, 51, 55, 52, 49, 56, 50, 51, 59], [97, 49, 48, 55, 51, 55, 52, 49, 56, 50, 52, 59], [97, 57, 57, 57, 57, 57, 57, 57, 57, 57, 57, 57, 59], [38, 48, 58], [38, 49, 58], [38, 57, 58, 97, 49, 59, 97, 49, 59, 97, 49, 59, 97, 49, 59, 97, 49, 59, 97, 49, 59, 97, 49, 59, 97, 49, 59, 97, 49, 59], [38, 48, 49, 58, 97, 49, 59], [115, 110, 49, 59], [112, 80, 110, 49, 59], [97, 49, 59, 97, 50, 59], [115], [115, 80, 110], [112, 72, 116, 49, 58, 97], [112, 72, 84, 49, 58, 116, 50, 58, 38, 124], [124, 50, 58, 112, 72, 84, 50, 58, 110, 49, 59, 116, 48, 58, 111, 49, 59], [120], [38, 49, 58, 38, 49, 58], [111, 48, 59], [115, 80, 84, 49, 58], [38, 50, 58, 97, 49, 59]]
theorem zot_ : ∀ x ∈ lkBad, x.length ≤ 100 := by decide
def lkS : List (List UInt8) := [[83, 110, 49, 59, 116, 49, 58, 120], [110, 49, 59], [83, 110, 50, 59, 116, 49, 58, 120]]
def lkP : List (List UInt8) := [[110, 50, 59], [110, 49, 59], []]
theorem zis_ : ∀ s ∈ lkS, s.length ≤ 9000000000000000000 := by decide
theorem zit_ : ∀ s ∈ lkP, s.length ≤ 9000000000000000000 := by decide
theorem zbC_ {w w' : World} {a : Addr} {v : Value} {rs : List Nat} (h : w.cell? a = some v) (hg : GL rs w w') (hr : a.block ∉ rs) : w'.cell? a = some v := by
 have hlt := World.block_lt_of_cell? _ _ h
 obtain ⟨b, o, s⟩ := a
 simp only [World.cell?, hg.block b hlt hr] at h ⊢
 exact h
theorem zez_ {w : World} {g : Nat} {x : List UInt8} {T : TypeId} (h : w.heap[g]? = some (.cells #[.string (bs x)] T (0, 0))) : x5_ (.slice (some ⟨g, 0, none⟩) 1 1) [x] w := .inr ⟨g, 0, 1, rfl, z0_ h, fun k t hk => by
 match k, hk with
 | 0, hk => simp at hk; subst hk; exact z2_ h 0
 | k + 1, hk => simp at hk⟩
def laDS : List (Option Nat) := [some 126, some 127, some 128, some 129, some 130, some 131, some 132, some 133, some 134, some 135, some 136, some 137, some 138, some 139, some 140, some 141, some 142, some 143, some 144, some 145, some 146, some 147, some 148, some 149, some 150, some 151, some 152, some 153, some 154, some 155, some 156]
def laGS (L i j : Nat) (xk yk : Int) (xt yt : List UInt8) (xn yn : Int) (xa ya : Option Addr) (xm ym xc yc : Nat) : List (Value → World → Prop) := [fun v _ => v = .slice (some ⟨L, 0, none⟩) 37 37, fun v _ => v = .int .i64 ((i : Nat) : Int), fun v _ => v = .pointer (some ⟨L, i * 4, none⟩), fun v _ => v = .agg #[.int .u8 xk, .string (bs xt), .int .i64 xn, .slice xa xm xc], fun v _ => v = .bool true, fun v _ => v = .bool false, fun v _ => v = .bool false, fun v _ => v = .int .i64 ((i : Nat) : Int), fun v _ => v = .slice (some ⟨L, 0, none⟩) 37 37, fun v _ => v = .int .i64 ((i : Nat) : Int), fun v _ => v = .int .i64 (min ((i : Nat) : Int) 9), fun v _ => v = .slice (some ⟨L, 0, none⟩) (min ((i : Nat) : Int) 9).toNat 37, fun v _ => v = .bool true, fun v _ => v = .bool false, fun v _ => v = .bool false, fun v _ => v = .bool false, fun v _ => v = .slice (some ⟨L, 0, none⟩) 37 37, fun v _ => v = .int .i64 ((i : Nat) : Int), fun v _ => v = .pointer (some ⟨L, i * 4, none⟩), fun v _ => v = .agg #[.int .u8 xk, .string (bs xt), .int .i64 xn, .slice xa xm xc], fun v _ => v = .slice (some ⟨L, 0, none⟩) 37 37, fun v _ => v = .int .i64 ((i : Nat) : Int), fun v _ => v = .int .i64 (((i : Nat) : Int) + 3), fun v _ => v = .slice (some ⟨L, 0, none⟩) 37 37, fun v _ => v = .int .i64 37, fun v _ => v = .int .i64 ((j : Nat) : Int), fun v _ => v = .pointer (some ⟨L, j * 4, none⟩), fun v _ => v = .agg #[.int .u8 yk, .string (bs yt), .int .i64 yn, .slice ya ym yc], fun v _ => v = .bool true, fun v _ => v = .bool false, fun v _ => v = .bool false]
theorem lamono {L i j : Nat} {xk yk : Int} {xt yt : List UInt8} {xn yn : Int} {xa ya : Option Addr} {xm ym xc yc : Nat} : ∀ p ∈ (laGS L i j xk yk xt yt xn yn xa ya xm ym xc yc), ∀ v w w', p v w → GL [] w w' → p v w' := by
 intro p hp
 simp only [laGS, List.mem_cons, List.not_mem_nil, or_false] at hp
 rcases hp with rfl | rfl | rfl | rfl | rfl | rfl | rfl | rfl | rfl | rfl | rfl | rfl | rfl | rfl | rfl | rfl | rfl | rfl | rfl | rfl | rfl | rfl | rfl | rfl | rfl | rfl | rfl | rfl | rfl | rfl | rfl <;> try exact fun _ _ _ h _ => h
section
variable {ops : Array Oper} {Q : Exit → Act → World → Prop} {a0 : Act} {I : World → Prop} {af : Array Edge} {ty : Nat} {pos : String} {at_ : Array TypeId} {L i j : Nat} {xk yk : Int} {xt yt : List UInt8} {xn yn : Int} {xa ya : Option Addr} {xm ym xc yc : Nat}
theorem zou_ (h126 : (⟨0, .data⟩ : Edge) ∈ af.toList) (h127 : (⟨1, .data⟩ : Edge) ∈ af.toList) (hix : i < 37) : x9_ Tryz.prog ops Q a0 laDS I (laGS L i j xk yk xt yt xn yn xa ya xm ym xc yc) 2 { dst := some 128, op := .indexAddr 23 (.tmp 126) (.tmp 127), type := ty, pos := pos, after := af, guard := none } := by
 intro a w hout hI hdep K hK
 rw [if_pos (by simp [Region.wanted])]
 obtain ⟨v126, g126, e126⟩ := hdep ⟨0, .data⟩ h126 rfl
 have e126 := e126 126 rfl
 have g126 : v126 = .slice (some ⟨L, 0, none⟩) 37 37 := g126 _ rfl
 subst g126
 obtain ⟨v127, g127, e127⟩ := hdep ⟨1, .data⟩ h127 rfl
 have e127 := e127 127 rfl
 have g127 : v127 = .int .i64 ((i : Nat) : Int) := g127 _ rfl
 subst g127
 clear hout hdep
 have hixI : ((i : Nat) : Int) < 37 := by omega
 go_simp
 exact hK _ _ (z1_ _ _) (w9_ rfl rs_)
theorem zov_ (h128 : (⟨2, .data⟩ : Edge) ∈ af.toList) (hL : ∀ w, I w → w.cell? ⟨L, i * 4, none⟩ = some (.int .u8 xk) ∧ w.cell? ⟨L, i * 4 + 1, none⟩ = some (.string (bs xt)) ∧ w.cell? ⟨L, i * 4 + 2, none⟩ = some (.int .i64 xn) ∧ w.cell? ⟨L, i * 4 + 3, none⟩ = some (.slice xa xm xc)) : x9_ Tryz.prog ops Q a0 laDS I (laGS L i j xk yk xt yt xn yn xa ya xm ym xc yc) 3 { dst := some 129, op := .load 25 (.tmp 128), type := ty, pos := pos, after := af, guard := none } := by
 intro a w hout hI hdep K hK
 rw [if_pos (by simp [Region.wanted])]
 obtain ⟨v128, g128, e128⟩ := hdep ⟨2, .data⟩ h128 rfl
 have e128 := e128 128 rfl
 have g128 : v128 = .pointer (some ⟨L, i * 4, none⟩) := g128 _ rfl
 subst g128
 have hLw := hL w hI
 clear hout hdep
 obtain ⟨qa, qb, qc, qd⟩ := hLw
 go_simp
 exact hK _ _ (z1_ _ _) (w9_ rfl rs_)
theorem zow_ (hg : (⟨6, .guard⟩ : Edge) ∈ af.toList) (hgo : ops[6]?.bind (·.dst) = some 132) (h135 : (⟨9, .data⟩ : Edge) ∈ af.toList) : x9_ Tryz.prog ops Q a0 laDS I (laGS L i j xk yk xt yt xn yn xa ya xm ym xc yc) 10 { dst := some 136, op := .call { callee := .builtin .min, args := #[.tmp 135, .const (.int .i64 9)], argTypes := #[3, 3] }, type := ty, pos := pos, after := af, guard := some (6, false) } := by
 intro a w hout hI hdep K hK
 obtain ⟨vg, gg, eg⟩ := hdep ⟨6, .guard⟩ hg rfl
 have eg := eg 132 rfl
 have gg : vg = .bool false := gg _ rfl
 subst gg
 have hy := q0_ hgo eg
 rw [if_pos (by simp [Region.wanted, hy])]
 obtain ⟨v135, g135, e135⟩ := hdep ⟨9, .data⟩ h135 rfl
 have e135 := e135 135 rfl
 have g135 : v135 = .int .i64 ((i : Nat) : Int) := g135 _ rfl
 subst g135
 clear hout hdep hy
 go_simp
 exact hK _ _ (z1_ _ _) (w9_ rfl (by first | (simp; done) | (simp; split <;> omega)))
theorem zox_ (hg : (⟨6, .guard⟩ : Edge) ∈ af.toList) (hgo : ops[6]?.bind (·.dst) = some 132) (h134 : (⟨8, .data⟩ : Edge) ∈ af.toList) (h136 : (⟨10, .data⟩ : Edge) ∈ af.toList) (hr : i < 40) : x9_ Tryz.prog ops Q a0 laDS I (laGS L i j xk yk xt yt xn yn xa ya xm ym xc yc) 11 { dst := some 137, op := .slice 23 (.tmp 134) none (some (.tmp 136)) none, type := ty, pos := pos, after := af, guard := some (6, false) } := by
 intro a w hout hI hdep K hK
 obtain ⟨vg, gg, eg⟩ := hdep ⟨6, .guard⟩ hg rfl
 have eg := eg 132 rfl
 have gg : vg = .bool false := gg _ rfl
 subst gg
 have hy := q0_ hgo eg
 rw [if_pos (by simp [Region.wanted, hy])]
 obtain ⟨v134, g134, e134⟩ := hdep ⟨8, .data⟩ h134 rfl
 have e134 := e134 134 rfl
 have g134 : v134 = .slice (some ⟨L, 0, none⟩) 37 37 := g134 _ rfl
 subst g134
 obtain ⟨v136, g136, e136⟩ := hdep ⟨10, .data⟩ h136 rfl
 have e136 := e136 136 rfl
 have g136 : v136 = .int .i64 (min ((i : Nat) : Int) 9) := g136 _ rfl
 subst g136
 clear hout hdep hy
 have hm0 : (0 : Int) ≤ min ((i : Nat) : Int) 9 := by omega
 have hm9 : min ((i : Nat) : Int) 9 ≤ 37 := by omega
 go_simp
 exact hK _ _ (z1_ _ _) (w9_ rfl rs_)
theorem zoy_ (hg : (⟨15, .guard⟩ : Edge) ∈ af.toList) (hgo : ops[15]?.bind (·.dst) = some 141) (h142 : (⟨16, .data⟩ : Edge) ∈ af.toList) (h143 : (⟨17, .data⟩ : Edge) ∈ af.toList) (hix : i < 37) : x9_ Tryz.prog ops Q a0 laDS I (laGS L i j xk yk xt yt xn yn xa ya xm ym xc yc) 18 { dst := some 144, op := .indexAddr 23 (.tmp 142) (.tmp 143), type := ty, pos := pos, after := af, guard := some (15, false) } := by
 intro a w hout hI hdep K hK
 obtain ⟨vg, gg, eg⟩ := hdep ⟨15, .guard⟩ hg rfl
 have eg := eg 141 rfl
 have gg : vg = .bool false := gg _ rfl
 subst gg
 have hy := q0_ hgo eg
 rw [if_pos (by simp [Region.wanted, hy])]
 obtain ⟨v142, g142, e142⟩ := hdep ⟨16, .data⟩ h142 rfl
 have e142 := e142 142 rfl
 have g142 : v142 = .slice (some ⟨L, 0, none⟩) 37 37 := g142 _ rfl
 subst g142
 obtain ⟨v143, g143, e143⟩ := hdep ⟨17, .data⟩ h143 rfl
 have e143 := e143 143 rfl
 have g143 : v143 = .int .i64 ((i : Nat) : Int) := g143 _ rfl
 subst g143
 clear hout hdep hy
 have hixI : ((i : Nat) : Int) < 37 := by omega
 go_simp
 exact hK _ _ (z1_ _ _) (w9_ rfl rs_)
theorem zoz_ (hg : (⟨15, .guard⟩ : Edge) ∈ af.toList) (hgo : ops[15]?.bind (·.dst) = some 141) (h144 : (⟨18, .data⟩ : Edge) ∈ af.toList) (hL : ∀ w, I w → w.cell? ⟨L, i * 4, none⟩ = some (.int .u8 xk) ∧ w.cell? ⟨L, i * 4 + 1, none⟩ = some (.string (bs xt)) ∧ w.cell? ⟨L, i * 4 + 2, none⟩ = some (.int .i64 xn) ∧ w.cell? ⟨L, i * 4 + 3, none⟩ = some (.slice xa xm xc)) : x9_ Tryz.prog ops Q a0 laDS I (laGS L i j xk yk xt yt xn yn xa ya xm ym xc yc) 19 { dst := some 145, op := .load 25 (.tmp 144), type := ty, pos := pos, after := af, guard := some (15, false) } := by
 intro a w hout hI hdep K hK
 obtain ⟨vg, gg, eg⟩ := hdep ⟨15, .guard⟩ hg rfl
 have eg := eg 141 rfl
 have gg : vg = .bool false := gg _ rfl
 subst gg
 have hy := q0_ hgo eg
 rw [if_pos (by simp [Region.wanted, hy])]
 obtain ⟨v144, g144, e144⟩ := hdep ⟨18, .data⟩ h144 rfl
 have e144 := e144 144 rfl
 have g144 : v144 = .pointer (some ⟨L, i * 4, none⟩) := g144 _ rfl
 subst g144
 have hLw := hL w hI
 clear hout hdep hy
 obtain ⟨qa, qb, qc, qd⟩ := hLw
 go_simp
 exact hK _ _ (z1_ _ _) (w9_ rfl rs_)
theorem zoA_ (hg : (⟨15, .guard⟩ : Edge) ∈ af.toList) (hgo : ops[15]?.bind (·.dst) = some 141) (h147 : (⟨21, .data⟩ : Edge) ∈ af.toList) (hr : i < 40) : x9_ Tryz.prog ops Q a0 laDS I (laGS L i j xk yk xt yt xn yn xa ya xm ym xc yc) 22 { dst := some 148, op := .binOp .add 3 (.tmp 147) (.const (.int .i64 3)) 3, type := ty, pos := pos, after := af, guard := some (15, false) } := by
 intro a w hout hI hdep K hK
 obtain ⟨vg, gg, eg⟩ := hdep ⟨15, .guard⟩ hg rfl
 have eg := eg 141 rfl
 have gg : vg = .bool false := gg _ rfl
 subst gg
 have hy := q0_ hgo eg
 rw [if_pos (by simp [Region.wanted, hy])]
 obtain ⟨v147, g147, e147⟩ := hdep ⟨21, .data⟩ h147 rfl
 have e147 := e147 147 rfl
 have g147 : v147 = .int .i64 ((i : Nat) : Int) := g147 _ rfl
 subst g147
 clear hout hdep hy
 have hrI : ((i : Nat) : Int) < 40 := by omega
 have hrJ : (0 : Int) ≤ ((i : Nat) : Int) := by omega
 go_simp
 exact hK _ _ (z1_ _ _) (w9_ rfl (by first | rfl | (simp; done) | (congr 1; rw [IntKind.wrap_i64]; omega) | (simp [IntKind.wrap_i64]; omega)))
theorem zoB_ (hg : (⟨15, .guard⟩ : Edge) ∈ af.toList) (hgo : ops[15]?.bind (·.dst) = some 141) (h149 : (⟨23, .data⟩ : Edge) ∈ af.toList) : x9_ Tryz.prog ops Q a0 laDS I (laGS L i j xk yk xt yt xn yn xa ya xm ym xc yc) 24 { dst := some 150, op := .call { callee := .builtin .len, args := #[.tmp 149], argTypes := #[23] }, type := ty, pos := pos, after := af, guard := some (15, false) } := by
 intro a w hout hI hdep K hK
 obtain ⟨vg, gg, eg⟩ := hdep ⟨15, .guard⟩ hg rfl
 have eg := eg 141 rfl
 have gg : vg = .bool false := gg _ rfl
 subst gg
 have hy := q0_ hgo eg
 rw [if_pos (by simp [Region.wanted, hy])]
 obtain ⟨v149, g149, e149⟩ := hdep ⟨23, .data⟩ h149 rfl
 have e149 := e149 149 rfl
 have g149 : v149 = .slice (some ⟨L, 0, none⟩) 37 37 := g149 _ rfl
 subst g149
 clear hout hdep hy
 go_simp
 exact hK _ _ (z1_ _ _) (w9_ rfl rs_)
theorem zoC_ (hg : (⟨15, .guard⟩ : Edge) ∈ af.toList) (hgo : ops[15]?.bind (·.dst) = some 141) (h148 : (⟨22, .data⟩ : Edge) ∈ af.toList) (h150 : (⟨24, .data⟩ : Edge) ∈ af.toList) (hj1 : Int.tmod (((i : Nat) : Int) + 3) 37 = ((j : Nat) : Int)) (hj2 : (((i : Nat) : Int) + 3) % 37 = ((j : Nat) : Int)) : x9_ Tryz.prog ops Q a0 laDS I (laGS L i j xk yk xt yt xn yn xa ya xm ym xc yc) 25 { dst := some 151, op := .binOp .rem 3 (.tmp 148) (.tmp 150) 3, type := ty, pos := pos, after := af, guard := some (15, false) } := by
 intro a w hout hI hdep K hK
 obtain ⟨vg, gg, eg⟩ := hdep ⟨15, .guard⟩ hg rfl
 have eg := eg 141 rfl
 have gg : vg = .bool false := gg _ rfl
 subst gg
 have hy := q0_ hgo eg
 rw [if_pos (by simp [Region.wanted, hy])]
 obtain ⟨v148, g148, e148⟩ := hdep ⟨22, .data⟩ h148 rfl
 have e148 := e148 148 rfl
 have g148 : v148 = .int .i64 (((i : Nat) : Int) + 3) := g148 _ rfl
 subst g148
 obtain ⟨v150, g150, e150⟩ := hdep ⟨24, .data⟩ h150 rfl
 have e150 := e150 150 rfl
 have g150 : v150 = .int .i64 37 := g150 _ rfl
 subst g150
 clear hout hdep hy
 go_simp
 exact hK _ _ (z1_ _ _) (w9_ rfl (by first | rfl | (simp [hj1]; done) | (simp [hj2]; done) | (simp; omega)))
theorem zoD_ (hg : (⟨15, .guard⟩ : Edge) ∈ af.toList) (hgo : ops[15]?.bind (·.dst) = some 141) (h146 : (⟨20, .data⟩ : Edge) ∈ af.toList) (h151 : (⟨25, .data⟩ : Edge) ∈ af.toList) (hix : j < 37) : x9_ Tryz.prog ops Q a0 laDS I (laGS L i j xk yk xt yt xn yn xa ya xm ym xc yc) 26 { dst := some 152, op := .indexAddr 23 (.tmp 146) (.tmp 151), type := ty, pos := pos, after := af, guard := some (15, false) } := by
 intro a w hout hI hdep K hK
 obtain ⟨vg, gg, eg⟩ := hdep ⟨15, .guard⟩ hg rfl
 have eg := eg 141 rfl
 have gg : vg = .bool false := gg _ rfl
 subst gg
 have hy := q0_ hgo eg
 rw [if_pos (by simp [Region.wanted, hy])]
 obtain ⟨v146, g146, e146⟩ := hdep ⟨20, .data⟩ h146 rfl
 have e146 := e146 146 rfl
 have g146 : v146 = .slice (some ⟨L, 0, none⟩) 37 37 := g146 _ rfl
 subst g146
 obtain ⟨v151, g151, e151⟩ := hdep ⟨25, .data⟩ h151 rfl
 have e151 := e151 151 rfl
 have g151 : v151 = .int .i64 ((j : Nat) : Int) := g151 _ rfl
 subst g151
 clear hout hdep hy
 have hixI : ((j : Nat) : Int) < 37 := by omega
 go_simp
 exact hK _ _ (z1_ _ _) (w9_ rfl rs_)
theorem zoE_ (hg : (⟨15, .guard⟩ : Edge) ∈ af.toList) (hgo : ops[15]?.bind (·.dst) = some 141) (h152 : (⟨26, .data⟩ : Edge) ∈ af.toList) (hL : ∀ w, I w → w.cell? ⟨L, j * 4, none⟩ = some (.int .u8 yk) ∧ w.cell? ⟨L, j * 4 + 1, none⟩ = some (.string (bs yt)) ∧ w.cell? ⟨L, j * 4 + 2, none⟩ = some (.int .i64 yn) ∧ w.cell? ⟨L, j * 4 + 3, none⟩ = some (.slice ya ym yc)) : x9_ Tryz.prog ops Q a0 laDS I (laGS L i j xk yk xt yt xn yn xa ya xm ym xc yc) 27 { dst := some 153, op := .load 25 (.tmp 152), type := ty, pos := pos, after := af, guard := some (15, false) } := by
 intro a w hout hI hdep K hK
 obtain ⟨vg, gg, eg⟩ := hdep ⟨15, .guard⟩ hg rfl
 have eg := eg 141 rfl
 have gg : vg = .bool false := gg _ rfl
 subst gg
 have hy := q0_ hgo eg
 rw [if_pos (by simp [Region.wanted, hy])]
 obtain ⟨v152, g152, e152⟩ := hdep ⟨26, .data⟩ h152 rfl
 have e152 := e152 152 rfl
 have g152 : v152 = .pointer (some ⟨L, j * 4, none⟩) := g152 _ rfl
 subst g152
 have hLw := hL w hI
 clear hout hdep hy
 obtain ⟨qa, qb, qc, qd⟩ := hLw
 go_simp
 exact hK _ _ (z1_ _ _) (w9_ rfl rs_)
end
def lbDS : List (Option Nat) := [some 161, some 162, some 163, some 164, some 165, some 166, some 167, some 168, some 169, some 170, some 171, some 172, some 173, some 174, some 175, some 176, some 177, some 178, some 179, some 180, some 181, some 182, some 183, some 184, some 185, some 186, some 187, some 188, some 189, some 190, some 191, some 192, some 193, some 194, some 195, some 196, some 197, some 198, some 199, some 200, some 201]
def lbGS (L i j n Wb S Pp : Nat) (xk yk : Int) (xt yt : List UInt8) (xn yn : Int) (xa ya : Option Addr) (xm ym xc yc : Nat) : List (Value → World → Prop) := [fun v _ => v = .slice (some ⟨L, 0, none⟩) 37 37, fun v _ => v = .int .i64 ((i : Nat) : Int), fun v _ => v = .pointer (some ⟨L, i * 4, none⟩), fun v _ => v = .agg #[.int .u8 xk, .string (bs xt), .int .i64 xn, .slice xa xm xc], fun v _ => v = .agg #[.slice (some ⟨S, 0, none⟩) 3 3, .slice (some ⟨Pp, 0, none⟩) 3 3], fun v _ => v = .int .i64 ((n : Nat) : Int), fun v _ => v = .int .i64 ((n : Nat) : Int), fun v _ => v = .int .i64 (8 - ((n : Nat) : Int)), fun v _ => v = .bool true, fun v _ => v = .bool false, fun v _ => v = .bool false, fun v _ => v = .slice (some ⟨L, 0, none⟩) 37 37, fun v _ => v = .int .i64 ((i : Nat) : Int), fun v _ => v = .pointer (some ⟨L, i * 4, none⟩), fun v _ => v = .agg #[.int .u8 xk, .string (bs xt), .int .i64 xn, .slice xa xm xc], fun v _ => v = .agg #[.slice none 0 0, .slice none 0 0], fun v _ => v = .int .i64 ((n : Nat) : Int), fun v _ => v = .int .i64 ((n : Nat) : Int), fun v _ => v = .bool true, fun v _ => v = .bool false, fun v _ => v = .bool false, fun v _ => v = .bool false, fun v _ => v = .slice (some ⟨L, 0, none⟩) 37 37, fun v _ => v = .int .i64 ((i : Nat) : Int), fun v _ => v = .pointer (some ⟨L, i * 4, none⟩), fun v _ => v = .agg #[.int .u8 xk, .string (bs xt), .int .i64 xn, .slice xa xm xc], fun v _ => v = .slice (some ⟨L, 0, none⟩) 37 37, fun v _ => v = .int .i64 ((i : Nat) : Int), fun v _ => v = .int .i64 ((n : Nat) : Int), fun v _ => v = .int .i64 (((i : Nat) : Int) + ((n : Nat) : Int)), fun v _ => v = .slice (some ⟨L, 0, none⟩) 37 37, fun v _ => v = .int .i64 37, fun v _ => v = .int .i64 ((j : Nat) : Int), fun v _ => v = .pointer (some ⟨L, j * 4, none⟩), fun v _ => v = .agg #[.int .u8 yk, .string (bs yt), .int .i64 yn, .slice ya ym yc], fun v _ => v = .agg #[.slice (some ⟨S, 0, none⟩) 3 3, .slice (some ⟨Pp, 0, none⟩) 3 3], fun v _ => v = .int .i64 ((n : Nat) : Int), fun v _ => v = .int .i64 ((n : Nat) : Int), fun v _ => v = .bool true, fun v _ => v = .bool false, fun v _ => v = .bool false]
theorem lbmono {L i j n Wb S Pp : Nat} {xk yk : Int} {xt yt : List UInt8} {xn yn : Int} {xa ya : Option Addr} {xm ym xc yc : Nat} : ∀ p ∈ (lbGS L i j n Wb S Pp xk yk xt yt xn yn xa ya xm ym xc yc), ∀ v w w', p v w → GL [] w w' → p v w' := by
 intro p hp
 simp only [lbGS, List.mem_cons, List.not_mem_nil, or_false] at hp
 rcases hp with rfl | rfl | rfl | rfl | rfl | rfl | rfl | rfl | rfl | rfl | rfl | rfl | rfl | rfl | rfl | rfl | rfl | rfl | rfl | rfl | rfl | rfl | rfl | rfl | rfl | rfl | rfl | rfl | rfl | rfl | rfl | rfl | rfl | rfl | rfl | rfl | rfl | rfl | rfl | rfl | rfl <;> try exact fun _ _ _ h _ => h
section
variable {ops : Array Oper} {Q : Exit → Act → World → Prop} {a0 : Act} {I : World → Prop} {af : Array Edge} {ty : Nat} {pos : String} {at_ : Array TypeId} {L i j n Wb S Pp : Nat} {xk yk : Int} {xt yt : List UInt8} {xn yn : Int} {xa ya : Option Addr} {xm ym xc yc : Nat}
theorem zoF_ (h161 : (⟨0, .data⟩ : Edge) ∈ af.toList) (h162 : (⟨1, .data⟩ : Edge) ∈ af.toList) (hix : i < 37) : x9_ Tryz.prog ops Q a0 lbDS I (lbGS L i j n Wb S Pp xk yk xt yt xn yn xa ya xm ym xc yc) 2 { dst := some 163, op := .indexAddr 23 (.tmp 161) (.tmp 162), type := ty, pos := pos, after := af, guard := none } := by
 intro a w hout hI hdep K hK
 rw [if_pos (by simp [Region.wanted])]
 obtain ⟨v161, g161, e161⟩ := hdep ⟨0, .data⟩ h161 rfl
 have e161 := e161 161 rfl
 have g161 : v161 = .slice (some ⟨L, 0, none⟩) 37 37 := g161 _ rfl
 subst g161
 obtain ⟨v162, g162, e162⟩ := hdep ⟨1, .data⟩ h162 rfl
 have e162 := e162 162 rfl
 have g162 : v162 = .int .i64 ((i : Nat) : Int) := g162 _ rfl
 subst g162
 clear hout hdep
 have hixI : ((i : Nat) : Int) < 37 := by omega
 go_simp
 exact hK _ _ (z1_ _ _) (w9_ rfl rs_)
theorem zoG_ (h163 : (⟨2, .data⟩ : Edge) ∈ af.toList) (hL : ∀ w, I w → w.cell? ⟨L, i * 4, none⟩ = some (.int .u8 xk) ∧ w.cell? ⟨L, i * 4 + 1, none⟩ = some (.string (bs xt)) ∧ w.cell? ⟨L, i * 4 + 2, none⟩ = some (.int .i64 xn) ∧ w.cell? ⟨L, i * 4 + 3, none⟩ = some (.slice xa xm xc)) : x9_ Tryz.prog ops Q a0 lbDS I (lbGS L i j n Wb S Pp xk yk xt yt xn yn xa ya xm ym xc yc) 3 { dst := some 164, op := .load 25 (.tmp 163), type := ty, pos := pos, after := af, guard := none } := by
 intro a w hout hI hdep K hK
 rw [if_pos (by simp [Region.wanted])]
 obtain ⟨v163, g163, e163⟩ := hdep ⟨2, .data⟩ h163 rfl
 have e163 := e163 163 rfl
 have g163 : v163 = .pointer (some ⟨L, i * 4, none⟩) := g163 _ rfl
 subst g163
 have hLw := hL w hI
 clear hout hdep
 obtain ⟨qa, qb, qc, qd⟩ := hLw
 go_simp
 exact hK _ _ (z1_ _ _) (w9_ rfl rs_)
theorem zoH_ (o6 : a0.tmps[6]? = some (.pointer (some ⟨Wb, 0, none⟩))) (hL : ∀ w, I w → w.heap[Wb]? = some (.cells #[.slice (some ⟨S, 0, none⟩) 3 3, .slice (some ⟨Pp, 0, none⟩) 3 3] 31 (0, 0))) : x9_ Tryz.prog ops Q a0 lbDS I (lbGS L i j n Wb S Pp xk yk xt yt xn yn xa ya xm ym xc yc) 4 { dst := some 165, op := .load 31 (.tmp 6), type := ty, pos := pos, after := af, guard := none } := by
 intro a w hout hI hdep K hK
 rw [if_pos (by simp [Region.wanted])]
 have o6w := (hout 6 de_).trans o6
 have hLw := hL w hI
 clear hout hdep
 clear o6
 have fa := z2_ hLw
 have fb := z5_ hLw
 have fl := z0_ hLw
 clear hLw
 go_simp
 exact hK _ _ (z1_ _ _) (w9_ rfl rs_)
theorem zoI_ (h167 : (⟨6, .data⟩ : Edge) ∈ af.toList) (hr : i < 40) (hn : n < 20) : x9_ Tryz.prog ops Q a0 lbDS I (lbGS L i j n Wb S Pp xk yk xt yt xn yn xa ya xm ym xc yc) 7 { dst := some 168, op := .binOp .sub 3 (.const (.int .i64 8)) (.tmp 167) 3, type := ty, pos := pos, after := af, guard := none } := by
 intro a w hout hI hdep K hK
 rw [if_pos (by simp [Region.wanted])]
 obtain ⟨v167, g167, e167⟩ := hdep ⟨6, .data⟩ h167 rfl
 have e167 := e167 167 rfl
 have g167 : v167 = .int .i64 ((n : Nat) : Int) := g167 _ rfl
 subst g167
 clear hout hdep
 have hrI : ((i : Nat) : Int) < 40 := by omega
 have hrN : ((n : Nat) : Int) < 20 := by omega
 go_simp
 exact hK _ _ (z1_ _ _) (w9_ rfl (by first | rfl | (simp; done) | (congr 1; rw [IntKind.wrap_i64]; omega) | (simp [IntKind.wrap_i64]; omega)))
theorem zoJ_ (hg : (⟨10, .guard⟩ : Edge) ∈ af.toList) (hgo : ops[10]?.bind (·.dst) = some 171) (h172 : (⟨11, .data⟩ : Edge) ∈ af.toList) (h173 : (⟨12, .data⟩ : Edge) ∈ af.toList) (hix : i < 37) : x9_ Tryz.prog ops Q a0 lbDS I (lbGS L i j n Wb S Pp xk yk xt yt xn yn xa ya xm ym xc yc) 13 { dst := some 174, op := .indexAddr 23 (.tmp 172) (.tmp 173), type := ty, pos := pos, after := af, guard := some (10, false) } := by
 intro a w hout hI hdep K hK
 obtain ⟨vg, gg, eg⟩ := hdep ⟨10, .guard⟩ hg rfl
 have eg := eg 171 rfl
 have gg : vg = .bool false := gg _ rfl
 subst gg
 have hy := q0_ hgo eg
 rw [if_pos (by simp [Region.wanted, hy])]
 obtain ⟨v172, g172, e172⟩ := hdep ⟨11, .data⟩ h172 rfl
 have e172 := e172 172 rfl
 have g172 : v172 = .slice (some ⟨L, 0, none⟩) 37 37 := g172 _ rfl
 subst g172
 obtain ⟨v173, g173, e173⟩ := hdep ⟨12, .data⟩ h173 rfl
 have e173 := e173 173 rfl
 have g173 : v173 = .int .i64 ((i : Nat) : Int) := g173 _ rfl
 subst g173
 clear hout hdep hy
 have hixI : ((i : Nat) : Int) < 37 := by omega
 go_simp
 exact hK _ _ (z1_ _ _) (w9_ rfl rs_)
theorem zoK_ (hg : (⟨10, .guard⟩ : Edge) ∈ af.toList) (hgo : ops[10]?.bind (·.dst) = some 171) (h174 : (⟨13, .data⟩ : Edge) ∈ af.toList) (hL : ∀ w, I w → w.cell? ⟨L, i * 4, none⟩ = some (.int .u8 xk) ∧ w.cell? ⟨L, i * 4 + 1, none⟩ = some (.string (bs xt)) ∧ w.cell? ⟨L, i * 4 + 2, none⟩ = some (.int .i64 xn) ∧ w.cell? ⟨L, i * 4 + 3, none⟩ = some (.slice xa xm xc)) : x9_ Tryz.prog ops Q a0 lbDS I (lbGS L i j n Wb S Pp xk yk xt yt xn yn xa ya xm ym xc yc) 14 { dst := some 175, op := .load 25 (.tmp 174), type := ty, pos := pos, after := af, guard := some (10, false) } := by
 intro a w hout hI hdep K hK
 obtain ⟨vg, gg, eg⟩ := hdep ⟨10, .guard⟩ hg rfl
 have eg := eg 171 rfl
 have gg : vg = .bool false := gg _ rfl
 subst gg
 have hy := q0_ hgo eg
 rw [if_pos (by simp [Region.wanted, hy])]
 obtain ⟨v174, g174, e174⟩ := hdep ⟨13, .data⟩ h174 rfl
 have e174 := e174 174 rfl
 have g174 : v174 = .pointer (some ⟨L, i * 4, none⟩) := g174 _ rfl
 subst g174
 have hLw := hL w hI
 clear hout hdep hy
 obtain ⟨qa, qb, qc, qd⟩ := hLw
 go_simp
 exact hK _ _ (z1_ _ _) (w9_ rfl rs_)
theorem zoL_ (hg : (⟨10, .guard⟩ : Edge) ∈ af.toList) (hgo : ops[10]?.bind (·.dst) = some 171) : x9_ Tryz.prog ops Q a0 lbDS I (lbGS L i j n Wb S Pp xk yk xt yt xn yn xa ya xm ym xc yc) 15 { dst := some 176, op := .build 31 #[], type := ty, pos := pos, after := af, guard := some (10, false) } := by
 intro a w hout hI hdep K hK
 obtain ⟨vg, gg, eg⟩ := hdep ⟨10, .guard⟩ hg rfl
 have eg := eg 171 rfl
 have gg : vg = .bool false := gg _ rfl
 subst gg
 have hy := q0_ hgo eg
 rw [if_pos (by simp [Region.wanted, hy])]
 clear hout hdep hy
 go_simp
 exact hK _ _ (z1_ _ _) (w9_ rfl rs_)
theorem zoM_ (hg : (⟨21, .guard⟩ : Edge) ∈ af.toList) (hgo : ops[21]?.bind (·.dst) = some 182) (h183 : (⟨22, .data⟩ : Edge) ∈ af.toList) (h184 : (⟨23, .data⟩ : Edge) ∈ af.toList) (hix : i < 37) : x9_ Tryz.prog ops Q a0 lbDS I (lbGS L i j n Wb S Pp xk yk xt yt xn yn xa ya xm ym xc yc) 24 { dst := some 185, op := .indexAddr 23 (.tmp 183) (.tmp 184), type := ty, pos := pos, after := af, guard := some (21, false) } := by
 intro a w hout hI hdep K hK
 obtain ⟨vg, gg, eg⟩ := hdep ⟨21, .guard⟩ hg rfl
 have eg := eg 182 rfl
 have gg : vg = .bool false := gg _ rfl
 subst gg
 have hy := q0_ hgo eg
 rw [if_pos (by simp [Region.wanted, hy])]
 obtain ⟨v183, g183, e183⟩ := hdep ⟨22, .data⟩ h183 rfl
 have e183 := e183 183 rfl
 have g183 : v183 = .slice (some ⟨L, 0, none⟩) 37 37 := g183 _ rfl
 subst g183
 obtain ⟨v184, g184, e184⟩ := hdep ⟨23, .data⟩ h184 rfl
 have e184 := e184 184 rfl
 have g184 : v184 = .int .i64 ((i : Nat) : Int) := g184 _ rfl
 subst g184
 clear hout hdep hy
 have hixI : ((i : Nat) : Int) < 37 := by omega
 go_simp
 exact hK _ _ (z1_ _ _) (w9_ rfl rs_)
theorem zoN_ (hg : (⟨21, .guard⟩ : Edge) ∈ af.toList) (hgo : ops[21]?.bind (·.dst) = some 182) (h185 : (⟨24, .data⟩ : Edge) ∈ af.toList) (hL : ∀ w, I w → w.cell? ⟨L, i * 4, none⟩ = some (.int .u8 xk) ∧ w.cell? ⟨L, i * 4 + 1, none⟩ = some (.string (bs xt)) ∧ w.cell? ⟨L, i * 4 + 2, none⟩ = some (.int .i64 xn) ∧ w.cell? ⟨L, i * 4 + 3, none⟩ = some (.slice xa xm xc)) : x9_ Tryz.prog ops Q a0 lbDS I (lbGS L i j n Wb S Pp xk yk xt yt xn yn xa ya xm ym xc yc) 25 { dst := some 186, op := .load 25 (.tmp 185), type := ty, pos := pos, after := af, guard := some (21, false) } := by
 intro a w hout hI hdep K hK
 obtain ⟨vg, gg, eg⟩ := hdep ⟨21, .guard⟩ hg rfl
 have eg := eg 182 rfl
 have gg : vg = .bool false := gg _ rfl
 subst gg
 have hy := q0_ hgo eg
 rw [if_pos (by simp [Region.wanted, hy])]
 obtain ⟨v185, g185, e185⟩ := hdep ⟨24, .data⟩ h185 rfl
 have e185 := e185 185 rfl
 have g185 : v185 = .pointer (some ⟨L, i * 4, none⟩) := g185 _ rfl
 subst g185
 have hLw := hL w hI
 clear hout hdep hy
 obtain ⟨qa, qb, qc, qd⟩ := hLw
 go_simp
 exact hK _ _ (z1_ _ _) (w9_ rfl rs_)
theorem zoO_ (hg : (⟨21, .guard⟩ : Edge) ∈ af.toList) (hgo : ops[21]?.bind (·.dst) = some 182) (h188 : (⟨27, .data⟩ : Edge) ∈ af.toList) (h189 : (⟨28, .data⟩ : Edge) ∈ af.toList) (hr : i < 40) (hn : n < 20) : x9_ Tryz.prog ops Q a0 lbDS I (lbGS L i j n Wb S Pp xk yk xt yt xn yn xa ya xm ym xc yc) 29 { dst := some 190, op := .binOp .add 3 (.tmp 188) (.tmp 189) 3, type := ty, pos := pos, after := af, guard := some (21, false) } := by
 intro a w hout hI hdep K hK
 obtain ⟨vg, gg, eg⟩ := hdep ⟨21, .guard⟩ hg rfl
 have eg := eg 182 rfl
 have gg : vg = .bool false := gg _ rfl
 subst gg
 have hy := q0_ hgo eg
 rw [if_pos (by simp [Region.wanted, hy])]
 obtain ⟨v188, g188, e188⟩ := hdep ⟨27, .data⟩ h188 rfl
 have e188 := e188 188 rfl
 have g188 : v188 = .int .i64 ((i : Nat) : Int) := g188 _ rfl
 subst g188
 obtain ⟨v189, g189, e189⟩ := hdep ⟨28, .data⟩ h189 rfl
 have e189 := e189 189 rfl
 have g189 : v189 = .int .i64 ((n : Nat) : Int) := g189 _ rfl
 subst g189
 clear hout hdep hy
 have hrI : ((i : Nat) : Int) < 40 := by omega
 have hrN : ((n : Nat) : Int) < 20 := by omega
 go_simp
 exact hK _ _ (z1_ _ _) (w9_ rfl (by first | rfl | (simp; done) | (congr 1; rw [IntKind.wrap_i64]; omega) | (simp [IntKind.wrap_i64]; omega)))
theorem zoP_ (hg : (⟨21, .guard⟩ : Edge) ∈ af.toList) (hgo : ops[21]?.bind (·.dst) = some 182) (h191 : (⟨30, .data⟩ : Edge) ∈ af.toList) : x9_ Tryz.prog ops Q a0 lbDS I (lbGS L i j n Wb S Pp xk yk xt yt xn yn xa ya xm ym xc yc) 31 { dst := some 192, op := .call { callee := .builtin .len, args := #[.tmp 191], argTypes := #[23] }, type := ty, pos := pos, after := af, guard := some (21, false) } := by
 intro a w hout hI hdep K hK
 obtain ⟨vg, gg, eg⟩ := hdep ⟨21, .guard⟩ hg rfl
 have eg := eg 182 rfl
 have gg : vg = .bool false := gg _ rfl
 subst gg
 have hy := q0_ hgo eg
 rw [if_pos (by simp [Region.wanted, hy])]
 obtain ⟨v191, g191, e191⟩ := hdep ⟨30, .data⟩ h191 rfl
 have e191 := e191 191 rfl
 have g191 : v191 = .slice (some ⟨L, 0, none⟩) 37 37 := g191 _ rfl
 subst g191
 clear hout hdep hy
 go_simp
 exact hK _ _ (z1_ _ _) (w9_ rfl rs_)
theorem zoQ_ (hg : (⟨21, .guard⟩ : Edge) ∈ af.toList) (hgo : ops[21]?.bind (·.dst) = some 182) (h190 : (⟨29, .data⟩ : Edge) ∈ af.toList) (h192 : (⟨31, .data⟩ : Edge) ∈ af.toList) (hj1 : Int.tmod (((i : Nat) : Int) + ((n : Nat) : Int)) 37 = ((j : Nat) : Int)) (hj2 : (((i : Nat) : Int) + ((n : Nat) : Int)) % 37 = ((j : Nat) : Int)) : x9_ Tryz.prog ops Q a0 lbDS I (lbGS L i j n Wb S Pp xk yk xt yt xn yn xa ya xm ym xc yc) 32 { dst := some 193, op := .binOp .rem 3 (.tmp 190) (.tmp 192) 3, type := ty, pos := pos, after := af, guard := some (21, false) } := by
 intro a w hout hI hdep K hK
 obtain ⟨vg, gg, eg⟩ := hdep ⟨21, .guard⟩ hg rfl
 have eg := eg 182 rfl
 have gg : vg = .bool false := gg _ rfl
 subst gg
 have hy := q0_ hgo eg
 rw [if_pos (by simp [Region.wanted, hy])]
 obtain ⟨v190, g190, e190⟩ := hdep ⟨29, .data⟩ h190 rfl
 have e190 := e190 190 rfl
 have g190 : v190 = .int .i64 (((i : Nat) : Int) + ((n : Nat) : Int)) := g190 _ rfl
 subst g190
 obtain ⟨v192, g192, e192⟩ := hdep ⟨31, .data⟩ h192 rfl
 have e192 := e192 192 rfl
 have g192 : v192 = .int .i64 37 := g192 _ rfl
 subst g192
 clear hout hdep hy
 go_simp
 exact hK _ _ (z1_ _ _) (w9_ rfl (by first | rfl | (simp [hj1]; done) | (simp [hj2]; done) | (simp; omega)))
theorem zoR_ (hg : (⟨21, .guard⟩ : Edge) ∈ af.toList) (hgo : ops[21]?.bind (·.dst) = some 182) (h187 : (⟨26, .data⟩ : Edge) ∈ af.toList) (h193 : (⟨32, .data⟩ : Edge) ∈ af.toList) (hix : j < 37) : x9_ Tryz.prog ops Q a0 lbDS I (lbGS L i j n Wb S Pp xk yk xt yt xn yn xa ya xm ym xc yc) 33 { dst := some 194, op := .indexAddr 23 (.tmp 187) (.tmp 193), type := ty, pos := pos, after := af, guard := some (21, false) } := by
 intro a w hout hI hdep K hK
 obtain ⟨vg, gg, eg⟩ := hdep ⟨21, .guard⟩ hg rfl
 have eg := eg 182 rfl
 have gg : vg = .bool false := gg _ rfl
 subst gg
 have hy := q0_ hgo eg
 rw [if_pos (by simp [Region.wanted, hy])]
 obtain ⟨v187, g187, e187⟩ := hdep ⟨26, .data⟩ h187 rfl
 have e187 := e187 187 rfl
 have g187 : v187 = .slice (some ⟨L, 0, none⟩) 37 37 := g187 _ rfl
 subst g187
 obtain ⟨v193, g193, e193⟩ := hdep ⟨32, .data⟩ h193 rfl
 have e193 := e193 193 rfl
 have g193 : v193 = .int .i64 ((j : Nat) : Int) := g193 _ rfl
 subst g193
 clear hout hdep hy
 have hixI : ((j : Nat) : Int) < 37 := by omega
 go_simp
 exact hK _ _ (z1_ _ _) (w9_ rfl rs_)
theorem zoS_ (hg : (⟨21, .guard⟩ : Edge) ∈ af.toList) (hgo : ops[21]?.bind (·.dst) = some 182) (h194 : (⟨33, .data⟩ : Edge) ∈ af.toList) (hL : ∀ w, I w → w.cell? ⟨L, j * 4, none⟩ = some (.int .u8 yk) ∧ w.cell? ⟨L, j * 4 + 1, none⟩ = some (.string (bs yt)) ∧ w.cell? ⟨L, j * 4 + 2, none⟩ = some (.int .i64 yn) ∧ w.cell? ⟨L, j * 4 + 3, none⟩ = some (.slice ya ym yc)) : x9_ Tryz.prog ops Q a0 lbDS I (lbGS L i j n Wb S Pp xk yk xt yt xn yn xa ya xm ym xc yc) 34 { dst := some 195, op := .load 25 (.tmp 194), type := ty, pos := pos, after := af, guard := some (21, false) } := by
 intro a w hout hI hdep K hK
 obtain ⟨vg, gg, eg⟩ := hdep ⟨21, .guard⟩ hg rfl
 have eg := eg 182 rfl
 have gg : vg = .bool false := gg _ rfl
 subst gg
 have hy := q0_ hgo eg
 rw [if_pos (by simp [Region.wanted, hy])]
 obtain ⟨v194, g194, e194⟩ := hdep ⟨33, .data⟩ h194 rfl
 have e194 := e194 194 rfl
 have g194 : v194 = .pointer (some ⟨L, j * 4, none⟩) := g194 _ rfl
 subst g194
 have hLw := hL w hI
 clear hout hdep hy
 obtain ⟨qa, qb, qc, qd⟩ := hLw
 go_simp
 exact hK _ _ (z1_ _ _) (w9_ rfl rs_)
theorem zoT_ (hg : (⟨21, .guard⟩ : Edge) ∈ af.toList) (hgo : ops[21]?.bind (·.dst) = some 182) (o6 : a0.tmps[6]? = some (.pointer (some ⟨Wb, 0, none⟩))) (hL : ∀ w, I w → w.heap[Wb]? = some (.cells #[.slice (some ⟨S, 0, none⟩) 3 3, .slice (some ⟨Pp, 0, none⟩) 3 3] 31 (0, 0))) : x9_ Tryz.prog ops Q a0 lbDS I (lbGS L i j n Wb S Pp xk yk xt yt xn yn xa ya xm ym xc yc) 35 { dst := some 196, op := .load 31 (.tmp 6), type := ty, pos := pos, after := af, guard := some (21, false) } := by
 intro a w hout hI hdep K hK
 obtain ⟨vg, gg, eg⟩ := hdep ⟨21, .guard⟩ hg rfl
 have eg := eg 182 rfl
 have gg : vg = .bool false := gg _ rfl
 subst gg
 have hy := q0_ hgo eg
 rw [if_pos (by simp [Region.wanted, hy])]
 have o6w := (hout 6 de_).trans o6
 have hLw := hL w hI
 clear hout hdep hy
 clear o6
 have fa := z2_ hLw
 have fb := z5_ hLw
 have fl := z0_ hLw
 clear hLw
 go_simp
 exact hK _ _ (z1_ _ _) (w9_ rfl rs_)
end
def ldDS : List (Option Nat) := [some 221, some 222, some 223, some 224, some 225, some 226, some 227, some 228, some 229, some 230, some 231, some 232, some 233, some 234, some 235, some 236, some 237, some 238, some 239, some 240, some 241, some 242, some 243, some 244, some 245, some 246, some 247, some 248, some 249, some 250, some 251, some 252, some 253, some 254, some 255, some 256, some 257]
def ldGS (y : List UInt8) (k : Nat) : List (Value → World → Prop) := [fun v _ => v = .string (bs y), fun v _ => v = .int .i64 ((k : Nat) : Int), fun v _ => v = .string (bs (y.take k)), fun v _ => v = .bool true, fun v _ => v = .bool false, fun v _ => v = .bool false, fun v _ => v = .string (bs y), fun v _ => v = .int .i64 ((k : Nat) : Int), fun v _ => v = .string (bs (y.drop k)), fun v _ => v = .bool true, fun v _ => v = .bool false, fun v _ => v = .bool false, fun v _ => v = .bool false, fun v _ => v = .string (bs y), fun v _ => v = .int .i64 ((k : Nat) : Int), fun v _ => v = .string (bs (y.take k)), fun v _ => v = .string (bs (y.take k ++ [49])), fun v _ => v = .string (bs y), fun v _ => v = .int .i64 ((k : Nat) : Int), fun v _ => v = .string (bs (y.drop k)), fun v _ => v = .string (bs (y.take k ++ 49 :: y.drop k)), fun v _ => v = .bool true, fun v _ => v = .bool false, fun v _ => v = .bool false, fun v _ => v = .bool false, fun v _ => v = .string (bs y), fun v _ => v = .int .i64 ((k : Nat) : Int), fun v _ => v = .string (bs (y.take k)), fun v _ => v = .string (bs (y.take k ++ [48])), fun v _ => v = .string (bs y), fun v _ => v = .int .i64 ((k : Nat) : Int), fun v _ => v = .int .i64 (((k + 1 : Nat) : Int)), fun v _ => v = .string (bs (y.drop (k + 1))), fun v _ => v = .string (bs (y.take k ++ 48 :: y.drop (k + 1))), fun v _ => v = .bool true, fun v _ => v = .bool false, fun v _ => v = .bool false]
theorem ldmono {y : List UInt8} {k : Nat} : ∀ p ∈ (ldGS y k), ∀ v w w', p v w → GL [] w w' → p v w' := by
 intro p hp
 simp only [ldGS, List.mem_cons, List.not_mem_nil, or_false] at hp
 rcases hp with rfl | rfl | rfl | rfl | rfl | rfl | rfl | rfl | rfl | rfl | rfl | rfl | rfl | rfl | rfl | rfl | rfl | rfl | rfl | rfl | rfl | rfl | rfl | rfl | rfl | rfl | rfl | rfl | rfl | rfl | rfl | rfl | rfl | rfl | rfl | rfl | rfl <;> try exact fun _ _ _ h _ => h
section
variable {ops : Array Oper} {Q : Exit → Act → World → Prop} {a0 : Act} {I : World → Prop} {af : Array Edge} {ty : Nat} {pos : String} {at_ : Array TypeId} {y : List UInt8} {k : Nat}
theorem zoU_ (h221 : (⟨0, .data⟩ : Edge) ∈ af.toList) (h222 : (⟨1, .data⟩ : Edge) ∈ af.toList) (hk : k < y.length) (hy : y.length ≤ 100000000) : x9_ Tryz.prog ops Q a0 ldDS I (ldGS y k) 2 { dst := some 223, op := .slice 9 (.tmp 221) none (some (.tmp 222)) none, type := ty, pos := pos, after := af, guard := none } := by
 intro a w hout hI hdep K hK
 rw [if_pos (by simp [Region.wanted])]
 obtain ⟨v221, g221, e221⟩ := hdep ⟨0, .data⟩ h221 rfl
 have e221 := e221 221 rfl
 have g221 : v221 = .string (bs y) := g221 _ rfl
 subst g221
 obtain ⟨v222, g222, e222⟩ := hdep ⟨1, .data⟩ h222 rfl
 have e222 := e222 222 rfl
 have g222 : v222 = .int .i64 ((k : Nat) : Int) := g222 _ rfl
 subst g222
 clear hout hdep
 have hkI : ((k : Nat) : Int) < y.length := by omega
 have hyI : (y.length : Int) ≤ 100000000 := by omega
 have hkN : k ≤ y.length := by omega
 have hkM : k + 1 ≤ y.length := by omega
 have hkJ : ((k : Nat) : Int) + 1 ≤ y.length := by omega
 go_simp
 exact hK _ _ (z1_ _ _) (w9_ rfl (by first | rfl | (simp; done) | (simp [zcv_, zaJ_]; done) | (congr 2; simp; omega)))
theorem zoV_ (hg : (⟨5, .guard⟩ : Edge) ∈ af.toList) (hgo : ops[5]?.bind (·.dst) = some 226) (h227 : (⟨6, .data⟩ : Edge) ∈ af.toList) (h228 : (⟨7, .data⟩ : Edge) ∈ af.toList) (hk : k < y.length) (hy : y.length ≤ 100000000) : x9_ Tryz.prog ops Q a0 ldDS I (ldGS y k) 8 { dst := some 229, op := .slice 9 (.tmp 227) (some (.tmp 228)) none none, type := ty, pos := pos, after := af, guard := some (5, false) } := by
 intro a w hout hI hdep K hK
 obtain ⟨vg, gg, eg⟩ := hdep ⟨5, .guard⟩ hg rfl
 have eg := eg 226 rfl
 have gg : vg = .bool false := gg _ rfl
 subst gg
 have hy := q0_ hgo eg
 rw [if_pos (by simp [Region.wanted, hy])]
 obtain ⟨v227, g227, e227⟩ := hdep ⟨6, .data⟩ h227 rfl
 have e227 := e227 227 rfl
 have g227 : v227 = .string (bs y) := g227 _ rfl
 subst g227
 obtain ⟨v228, g228, e228⟩ := hdep ⟨7, .data⟩ h228 rfl
 have e228 := e228 228 rfl
 have g228 : v228 = .int .i64 ((k : Nat) : Int) := g228 _ rfl
 subst g228
 clear hout hdep hy
 have hkI : ((k : Nat) : Int) < y.length := by omega
 have hyI : (y.length : Int) ≤ 100000000 := by omega
 have hkN : k ≤ y.length := by omega
 have hkM : k + 1 ≤ y.length := by omega
 have hkJ : ((k : Nat) : Int) + 1 ≤ y.length := by omega
 go_simp
 exact hK _ _ (z1_ _ _) (w9_ rfl (by first | rfl | (rw [List.take_of_length_le si_]; done) | (rw [List.take_of_length_le si_]; rfl) | (simp [List.take_of_length_le]; done)))
theorem zoW_ (hg : (⟨12, .guard⟩ : Edge) ∈ af.toList) (hgo : ops[12]?.bind (·.dst) = some 233) (h234 : (⟨13, .data⟩ : Edge) ∈ af.toList) (h235 : (⟨14, .data⟩ : Edge) ∈ af.toList) (hk : k < y.length) (hy : y.length ≤ 100000000) : x9_ Tryz.prog ops Q a0 ldDS I (ldGS y k) 15 { dst := some 236, op := .slice 9 (.tmp 234) none (some (.tmp 235)) none, type := ty, pos := pos, after := af, guard := some (12, false) } := by
 intro a w hout hI hdep K hK
 obtain ⟨vg, gg, eg⟩ := hdep ⟨12, .guard⟩ hg rfl
 have eg := eg 233 rfl
 have gg : vg = .bool false := gg _ rfl
 subst gg
 have hy := q0_ hgo eg
 rw [if_pos (by simp [Region.wanted, hy])]
 obtain ⟨v234, g234, e234⟩ := hdep ⟨13, .data⟩ h234 rfl
 have e234 := e234 234 rfl
 have g234 : v234 = .string (bs y) := g234 _ rfl
 subst g234
 obtain ⟨v235, g235, e235⟩ := hdep ⟨14, .data⟩ h235 rfl
 have e235 := e235 235 rfl
 have g235 : v235 = .int .i64 ((k : Nat) : Int) := g235 _ rfl
 subst g235
 clear hout hdep hy
 have hkI : ((k : Nat) : Int) < y.length := by omega
 have hyI : (y.length : Int) ≤ 100000000 := by omega
 have hkN : k ≤ y.length := by omega
 have hkM : k + 1 ≤ y.length := by omega
 have hkJ : ((k : Nat) : Int) + 1 ≤ y.length := by omega
 go_simp
 exact hK _ _ (z1_ _ _) (w9_ rfl (by first | rfl | (simp; done) | (simp [zcv_, zaJ_]; done) | (congr 2; simp; omega)))
theorem zoX_ (hg : (⟨12, .guard⟩ : Edge) ∈ af.toList) (hgo : ops[12]?.bind (·.dst) = some 233) (h236 : (⟨15, .data⟩ : Edge) ∈ af.toList) (hk : k < y.length) (hy : y.length ≤ 100000000) : x9_ Tryz.prog ops Q a0 ldDS I (ldGS y k) 16 { dst := some 237, op := .binOp .add 9 (.tmp 236) (.const (.string { data := #[49] })) 9, type := ty, pos := pos, after := af, guard := some (12, false) } := by
 intro a w hout hI hdep K hK
 obtain ⟨vg, gg, eg⟩ := hdep ⟨12, .guard⟩ hg rfl
 have eg := eg 233 rfl
 have gg : vg = .bool false := gg _ rfl
 subst gg
 have hy := q0_ hgo eg
 rw [if_pos (by simp [Region.wanted, hy])]
 obtain ⟨v236, g236, e236⟩ := hdep ⟨15, .data⟩ h236 rfl
 have e236 := e236 236 rfl
 have g236 : v236 = .string (bs (y.take k)) := g236 _ rfl
 subst g236
 clear hout hdep hy
 have hq1 : ¬ 9223372036854775807 < min k y.length + 1 := by omega
 have hq2 : ¬ 9223372036854775807 < min k y.length + 1 + (y.length - k) := by omega
 have hq3 : ¬ 9223372036854775807 < min k y.length + 1 + (y.length - (k + 1)) := by omega
 go_simp
 exact hK _ _ (z1_ _ _) (w9_ rfl (by first | rfl | (simp; done) | (simp [zcv_, zaJ_]; done) | (congr 2; simp; omega)))
theorem zoY_ (hg : (⟨12, .guard⟩ : Edge) ∈ af.toList) (hgo : ops[12]?.bind (·.dst) = some 233) (h238 : (⟨17, .data⟩ : Edge) ∈ af.toList) (h239 : (⟨18, .data⟩ : Edge) ∈ af.toList) (hk : k < y.length) (hy : y.length ≤ 100000000) : x9_ Tryz.prog ops Q a0 ldDS I (ldGS y k) 19 { dst := some 240, op := .slice 9 (.tmp 238) (some (.tmp 239)) none none, type := ty, pos := pos, after := af, guard := some (12, false) } := by
 intro a w hout hI hdep K hK
 obtain ⟨vg, gg, eg⟩ := hdep ⟨12, .guard⟩ hg rfl
 have eg := eg 233 rfl
 have gg : vg = .bool false := gg _ rfl
 subst gg
 have hy := q0_ hgo eg
 rw [if_pos (by simp [Region.wanted, hy])]
 obtain ⟨v238, g238, e238⟩ := hdep ⟨17, .data⟩ h238 rfl
 have e238 := e238 238 rfl
 have g238 : v238 = .string (bs y) := g238 _ rfl
 subst g238
 obtain ⟨v239, g239, e239⟩ := hdep ⟨18, .data⟩ h239 rfl
 have e239 := e239 239 rfl
 have g239 : v239 = .int .i64 ((k : Nat) : Int) := g239 _ rfl
 subst g239
 clear hout hdep hy
 have hkI : ((k : Nat) : Int) < y.length := by omega
 have hyI : (y.length : Int) ≤ 100000000 := by omega
 have hkN : k ≤ y.length := by omega
 have hkM : k + 1 ≤ y.length := by omega
 have hkJ : ((k : Nat) : Int) + 1 ≤ y.length := by omega
 go_simp
 exact hK _ _ (z1_ _ _) (w9_ rfl (by first | rfl | (rw [List.take_of_length_le si_]; done) | (rw [List.take_of_length_le si_]; rfl) | (simp [List.take_of_length_le]; done)))
theorem zoZ_ (hg : (⟨12, .guard⟩ : Edge) ∈ af.toList) (hgo : ops[12]?.bind (·.dst) = some 233) (h237 : (⟨16, .data⟩ : Edge) ∈ af.toList) (h240 : (⟨19, .data⟩ : Edge) ∈ af.toList) (hk : k < y.length) (hy : y.length ≤ 100000000) : x9_ Tryz.prog ops Q a0 ldDS I (ldGS y k) 20 { dst := some 241, op := .binOp .add 9 (.tmp 237) (.tmp 240) 9, type := ty, pos := pos, after := af, guard := some (12, false) } := by
 intro a w hout hI hdep K hK
 obtain ⟨vg, gg, eg⟩ := hdep ⟨12, .guard⟩ hg rfl
 have eg := eg 233 rfl
 have gg : vg = .bool false := gg _ rfl
 subst gg
 have hy := q0_ hgo eg
 rw [if_pos (by simp [Region.wanted, hy])]
 obtain ⟨v237, g237, e237⟩ := hdep ⟨16, .data⟩ h237 rfl
 have e237 := e237 237 rfl
 have g237 : v237 = .string (bs (y.take k ++ [49])) := g237 _ rfl
 subst g237
 obtain ⟨v240, g240, e240⟩ := hdep ⟨19, .data⟩ h240 rfl
 have e240 := e240 240 rfl
 have g240 : v240 = .string (bs (y.drop k)) := g240 _ rfl
 subst g240
 clear hout hdep hy
 have hq1 : ¬ 9223372036854775807 < min k y.length + 1 := by omega
 have hq2 : ¬ 9223372036854775807 < min k y.length + 1 + (y.length - k) := by omega
 have hq3 : ¬ 9223372036854775807 < min k y.length + 1 + (y.length - (k + 1)) := by omega
 go_simp
 exact hK _ _ (z1_ _ _) (w9_ rfl (by first | rfl | (simp; done) | (simp [zcv_, zaJ_]; done) | (congr 2; simp; omega)))
theorem zo0_ (hg : (⟨24, .guard⟩ : Edge) ∈ af.toList) (hgo : ops[24]?.bind (·.dst) = some 245) (h246 : (⟨25, .data⟩ : Edge) ∈ af.toList) (h247 : (⟨26, .data⟩ : Edge) ∈ af.toList) (hk : k < y.length) (hy : y.length ≤ 100000000) : x9_ Tryz.prog ops Q a0 ldDS I (ldGS y k) 27 { dst := some 248, op := .slice 9 (.tmp 246) none (some (.tmp 247)) none, type := ty, pos := pos, after := af, guard := some (24, false) } := by
 intro a w hout hI hdep K hK
 obtain ⟨vg, gg, eg⟩ := hdep ⟨24, .guard⟩ hg rfl
 have eg := eg 245 rfl
 have gg : vg = .bool false := gg _ rfl
 subst gg
 have hy := q0_ hgo eg
 rw [if_pos (by simp [Region.wanted, hy])]
 obtain ⟨v246, g246, e246⟩ := hdep ⟨25, .data⟩ h246 rfl
 have e246 := e246 246 rfl
 have g246 : v246 = .string (bs y) := g246 _ rfl
 subst g246
 obtain ⟨v247, g247, e247⟩ := hdep ⟨26, .data⟩ h247 rfl
 have e247 := e247 247 rfl
 have g247 : v247 = .int .i64 ((k : Nat) : Int) := g247 _ rfl
 subst g247
 clear hout hdep hy
 have hkI : ((k : Nat) : Int) < y.length := by omega
 have hyI : (y.length : Int) ≤ 100000000 := by omega
 have hkN : k ≤ y.length := by omega
 have hkM : k + 1 ≤ y.length := by omega
 have hkJ : ((k : Nat) : Int) + 1 ≤ y.length := by omega
 go_simp
 exact hK _ _ (z1_ _ _) (w9_ rfl (by first | rfl | (simp; done) | (simp [zcv_, zaJ_]; done) | (congr 2; simp; omega)))
theorem zo1_ (hg : (⟨24, .guard⟩ : Edge) ∈ af.toList) (hgo : ops[24]?.bind (·.dst) = some 245) (h248 : (⟨27, .data⟩ : Edge) ∈ af.toList) (hk : k < y.length) (hy : y.length ≤ 100000000) : x9_ Tryz.prog ops Q a0 ldDS I (ldGS y k) 28 { dst := some 249, op := .binOp .add 9 (.tmp 248) (.const (.string { data := #[48] })) 9, type := ty, pos := pos, after := af, guard := some (24, false) } := by
 intro a w hout hI hdep K hK
 obtain ⟨vg, gg, eg⟩ := hdep ⟨24, .guard⟩ hg rfl
 have eg := eg 245 rfl
 have gg : vg = .bool false := gg _ rfl
 subst gg
 have hy := q0_ hgo eg
 rw [if_pos (by simp [Region.wanted, hy])]
 obtain ⟨v248, g248, e248⟩ := hdep ⟨27, .data⟩ h248 rfl
 have e248 := e248 248 rfl
 have g248 : v248 = .string (bs (y.take k)) := g248 _ rfl
 subst g248
 clear hout hdep hy
 have hq1 : ¬ 9223372036854775807 < min k y.length + 1 := by omega
 have hq2 : ¬ 9223372036854775807 < min k y.length + 1 + (y.length - k) := by omega
 have hq3 : ¬ 9223372036854775807 < min k y.length + 1 + (y.length - (k + 1)) := by omega
 go_simp
 exact hK _ _ (z1_ _ _) (w9_ rfl (by first | rfl | (simp; done) | (simp [zcv_, zaJ_]; done) | (congr 2; simp; omega)))
theorem zo2_ (hg : (⟨24, .guard⟩ : Edge) ∈ af.toList) (hgo : ops[24]?.bind (·.dst) = some 245) (h251 : (⟨30, .data⟩ : Edge) ∈ af.toList) (hk : k < y.length) (hy : y.length ≤ 100000000) : x9_ Tryz.prog ops Q a0 ldDS I (ldGS y k) 31 { dst := some 252, op := .binOp .add 3 (.tmp 251) (.const (.int .i64 1)) 3, type := ty, pos := pos, after := af, guard := some (24, false) } := by
 intro a w hout hI hdep K hK
 obtain ⟨vg, gg, eg⟩ := hdep ⟨24, .guard⟩ hg rfl
 have eg := eg 245 rfl
 have gg : vg = .bool false := gg _ rfl
 subst gg
 have hy := q0_ hgo eg
 rw [if_pos (by simp [Region.wanted, hy])]
 obtain ⟨v251, g251, e251⟩ := hdep ⟨30, .data⟩ h251 rfl
 have e251 := e251 251 rfl
 have g251 : v251 = .int .i64 ((k : Nat) : Int) := g251 _ rfl
 subst g251
 clear hout hdep hy
 have hkI : ((k : Nat) : Int) < y.length := by omega
 have hyI : (y.length : Int) ≤ 100000000 := by omega
 have hkN : k ≤ y.length := by omega
 have hkM : k + 1 ≤ y.length := by omega
 have hkJ : ((k : Nat) : Int) + 1 ≤ y.length := by omega
 go_simp
 exact hK _ _ (z1_ _ _) (w9_ rfl (by first | rfl | (simp; done) | (congr 1; rw [IntKind.wrap_i64]; omega)))
theorem zo3_ (hg : (⟨24, .guard⟩ : Edge) ∈ af.toList) (hgo : ops[24]?.bind (·.dst) = some 245) (h250 : (⟨29, .data⟩ : Edge) ∈ af.toList) (h252 : (⟨31, .data⟩ : Edge) ∈ af.toList) (hk : k < y.length) (hy : y.length ≤ 100000000) : x9_ Tryz.prog ops Q a0 ldDS I (ldGS y k) 32 { dst := some 253, op := .slice 9 (.tmp 250) (some (.tmp 252)) none none, type := ty, pos := pos, after := af, guard := some (24, false) } := by
 intro a w hout hI hdep K hK
 obtain ⟨vg, gg, eg⟩ := hdep ⟨24, .guard⟩ hg rfl
 have eg := eg 245 rfl
 have gg : vg = .bool false := gg _ rfl
 subst gg
 have hy := q0_ hgo eg
 rw [if_pos (by simp [Region.wanted, hy])]
 obtain ⟨v250, g250, e250⟩ := hdep ⟨29, .data⟩ h250 rfl
 have e250 := e250 250 rfl
 have g250 : v250 = .string (bs y) := g250 _ rfl
 subst g250
 obtain ⟨v252, g252, e252⟩ := hdep ⟨31, .data⟩ h252 rfl
 have e252 := e252 252 rfl
 have g252 : v252 = .int .i64 (((k + 1 : Nat) : Int)) := g252 _ rfl
 subst g252
 clear hout hdep hy
 have hkI : ((k : Nat) : Int) < y.length := by omega
 have hyI : (y.length : Int) ≤ 100000000 := by omega
 have hkN : k ≤ y.length := by omega
 have hkM : k + 1 ≤ y.length := by omega
 have hkJ : ((k : Nat) : Int) + 1 ≤ y.length := by omega
 go_simp
 exact hK _ _ (z1_ _ _) (w9_ rfl (by first | rfl | (rw [List.take_of_length_le si_]; done) | (rw [List.take_of_length_le si_]; rfl) | (simp [List.take_of_length_le]; done)))
theorem zo4_ (hg : (⟨24, .guard⟩ : Edge) ∈ af.toList) (hgo : ops[24]?.bind (·.dst) = some 245) (h249 : (⟨28, .data⟩ : Edge) ∈ af.toList) (h253 : (⟨32, .data⟩ : Edge) ∈ af.toList) (hk : k < y.length) (hy : y.length ≤ 100000000) : x9_ Tryz.prog ops Q a0 ldDS I (ldGS y k) 33 { dst := some 254, op := .binOp .add 9 (.tmp 249) (.tmp 253) 9, type := ty, pos := pos, after := af, guard := some (24, false) } := by
 intro a w hout hI hdep K hK
 obtain ⟨vg, gg, eg⟩ := hdep ⟨24, .guard⟩ hg rfl
 have eg := eg 245 rfl
 have gg : vg = .bool false := gg _ rfl
 subst gg
 have hy := q0_ hgo eg
 rw [if_pos (by simp [Region.wanted, hy])]
 obtain ⟨v249, g249, e249⟩ := hdep ⟨28, .data⟩ h249 rfl
 have e249 := e249 249 rfl
 have g249 : v249 = .string (bs (y.take k ++ [48])) := g249 _ rfl
 subst g249
 obtain ⟨v253, g253, e253⟩ := hdep ⟨32, .data⟩ h253 rfl
 have e253 := e253 253 rfl
 have g253 : v253 = .string (bs (y.drop (k + 1))) := g253 _ rfl
 subst g253
 clear hout hdep hy
 have hq1 : ¬ 9223372036854775807 < min k y.length + 1 := by omega
 have hq2 : ¬ 9223372036854775807 < min k y.length + 1 + (y.length - k) := by omega
 have hq3 : ¬ 9223372036854775807 < min k y.length + 1 + (y.length - (k + 1)) := by omega
 go_simp
 exact hK _ _ (z1_ _ _) (w9_ rfl (by first | rfl | (simp; done) | (simp [zcv_, zaJ_]; done) | (congr 2; simp; omega)))
end
def lzDS : List (Option Nat) := [some 291, some 292, some 293, some 294, some 295, some 296, some 297, some 298, some 299, some 300, some 301, some 302, some 303, some 304, some 305, some 306, some 307, some 308, some 309, some 310, some 311, some 312, some 313, some 314, some 315, some 316, some 317, some 318, some 319, some 320, some 321, some 322, some 0]
def lzGS (M F m mc : Nat) : List (Value → World → Prop) := [fun v _ => v = .agg #[.int .u8 1, .string (bs [80, 110, 49, 59]), .int .i64 0, .slice none 0 0], fun v _ => v = .agg #[.slice (some ⟨m, 0, none⟩) 17 mc, .slice none 0 0], fun v _ => v = .bool true, fun v _ => v = .bool true, fun v _ => v = .agg #[.int .u8 1, .string (bs [80, 110, 49, 59]), .int .i64 0, .slice none 0 0], fun v _ => v = .agg #[.slice (some ⟨m, 0, none⟩) 16 mc, .slice none 0 0], fun v _ => v = .bool true, fun v _ => v = .bool true, fun v _ => v = .bool true, fun v _ => v = .agg #[.int .u8 1, .string (bs [80, 110, 49, 59]), .int .i64 0, .slice none 0 0], fun v _ => v = .pointer (some ⟨F, 0, none⟩), fun v _ => v = .slice (some ⟨m, 0, none⟩) 16 mc, fun v _ => v = .pointer (some ⟨M, 0, none⟩), fun v _ => v = .slice (some ⟨m, 0, none⟩) 17 mc, fun v _ => v = .agg #[.slice (some ⟨m, 0, none⟩) 16 mc, .slice (some ⟨m, 0, none⟩) 17 mc], fun v _ => v = .bool true, fun v _ => v = .bool true, fun v _ => v = .bool true, fun v w => ∃ g : Nat, v = .slice (some ⟨g, 0, none⟩) 1 1 ∧ x5_ v [[83, 110, 49, 59, 116, 49, 58, 109]] w, fun v w => ∃ g : Nat, v = .slice (some ⟨g, 0, none⟩) 1 1 ∧ x5_ v [[110, 50, 59]] w, fun v w => ∃ g h : Nat, v = .agg #[.slice (some ⟨g, 0, none⟩) 1 1, .slice (some ⟨h, 0, none⟩) 1 1] ∧ x5_ (.slice (some ⟨g, 0, none⟩) 1 1) [[83, 110, 49, 59, 116, 49, 58, 109]] w ∧ x5_ (.slice (some ⟨h, 0, none⟩) 1 1) [[110, 50, 59]] w, fun v _ => v = .bool true, fun v _ => v = .bool true, fun v _ => v = .bool true, fun v w => ∃ g : Nat, v = .slice (some ⟨g, 0, none⟩) 1 1 ∧ x5_ v [[83, 110, 49, 59, 116, 49, 58, 109]] w, fun v w => ∃ g : Nat, v = .slice (some ⟨g, 0, none⟩) 1 1 ∧ x5_ v [[110, 50, 59]] w, fun v w => ∃ g h : Nat, v = .agg #[.slice (some ⟨g, 0, none⟩) 1 1, .slice (some ⟨h, 0, none⟩) 1 1] ∧ x5_ (.slice (some ⟨g, 0, none⟩) 1 1) [[83, 110, 49, 59, 116, 49, 58, 109]] w ∧ x5_ (.slice (some ⟨h, 0, none⟩) 1 1) [[110, 50, 59]] w, fun v _ => v = .bool true, fun v _ => v = .bool true, fun v _ => v = .bool true, fun v _ => v = .bool true, fun v _ => v = .bool true, fun v _ => v = .bool true]
theorem lzmono {M F m mc : Nat} : ∀ p ∈ (lzGS M F m mc), ∀ v w w', p v w → GL [] w w' → p v w' := by
 intro p hp
 simp only [lzGS, List.mem_cons, List.not_mem_nil, or_false] at hp
 rcases hp with rfl | rfl | rfl | rfl | rfl | rfl | rfl | rfl | rfl | rfl | rfl | rfl | rfl | rfl | rfl | rfl | rfl | rfl | rfl | rfl | rfl | rfl | rfl | rfl | rfl | rfl | rfl | rfl | rfl | rfl | rfl | rfl | rfl <;> try exact fun _ _ _ h _ => h
 · exact fun v w w' ⟨g, e, h⟩ hg => ⟨g, e, y4_ h hg⟩
 · exact fun v w w' ⟨g, e, h⟩ hg => ⟨g, e, y4_ h hg⟩
 · exact fun v w w' ⟨g, h, e, h1, h2⟩ hg => ⟨g, h, e, y4_ h1 hg, y4_ h2 hg⟩
 · exact fun v w w' ⟨g, e, h⟩ hg => ⟨g, e, y4_ h hg⟩
 · exact fun v w w' ⟨g, e, h⟩ hg => ⟨g, e, y4_ h hg⟩
 · exact fun v w w' ⟨g, h, e, h1, h2⟩ hg => ⟨g, h, e, y4_ h1 hg, y4_ h2 hg⟩
section
variable {ops : Array Oper} {Q : Exit → Act → World → Prop} {a0 : Act} {I : World → Prop} {af : Array Edge} {ty : Nat} {pos : String} {at_ : Array TypeId} {M F m mc : Nat}
theorem zo5_ (o14 : a0.tmps[14]? = some (.pointer (some ⟨M, 0, none⟩))) (hL : ∀ w, I w → w.heap[M]? = some (.cells #[.slice (some ⟨m, 0, none⟩) 17 mc, .slice none 0 0] 31 (0, 0))) : x9_ Tryz.prog ops Q a0 lzDS I (lzGS M F m mc) 1 { dst := some 292, op := .load 31 (.tmp 14), type := ty, pos := pos, after := af, guard := none } := by
 intro a w hout hI hdep K hK
 rw [if_pos (by simp [Region.wanted])]
 have o14w := (hout 14 de_).trans o14
 have hLw := hL w hI
 clear hout hdep
 clear o14
 have fa := z2_ hLw
 have fb := z5_ hLw
 have fl := z0_ hLw
 clear hLw
 go_simp
 exact hK _ _ (z1_ _ _) (w9_ rfl rs_)
theorem zo6_ (hg : (⟨3, .guard⟩ : Edge) ∈ af.toList) (hgo : ops[3]?.bind (·.dst) = some 294) (o16 : a0.tmps[16]? = some (.pointer (some ⟨F, 0, none⟩))) (hL : ∀ w, I w → w.heap[F]? = some (.cells #[.slice (some ⟨m, 0, none⟩) 16 mc, .slice none 0 0] 31 (0, 0))) : x9_ Tryz.prog ops Q a0 lzDS I (lzGS M F m mc) 5 { dst := some 296, op := .load 31 (.tmp 16), type := ty, pos := pos, after := af, guard := some (3, true) } := by
 intro a w hout hI hdep K hK
 obtain ⟨vg, gg, eg⟩ := hdep ⟨3, .guard⟩ hg rfl
 have eg := eg 294 rfl
 have gg : vg = .bool true := gg _ rfl
 subst gg
 have hy := q0_ hgo eg
 rw [if_pos (by simp [Region.wanted, hy])]
 have o16w := (hout 16 de_).trans o16
 have hLw := hL w hI
 clear hout hdep hy
 clear o16
 have fa := z2_ hLw
 have fb := z5_ hLw
 have fl := z0_ hLw
 clear hLw
 go_simp
 exact hK _ _ (z1_ _ _) (w9_ rfl rs_)
theorem zo7_ (hg : (⟨8, .guard⟩ : Edge) ∈ af.toList) (hgo : ops[8]?.bind (·.dst) = some 299) (o16 : a0.tmps[16]? = some (.pointer (some ⟨F, 0, none⟩))) : x9_ Tryz.prog ops Q a0 lzDS I (lzGS M F m mc) 10 { dst := some 301, op := .fieldAddr 31 (.tmp 16) 0, type := ty, pos := pos, after := af, guard := some (8, true) } := by
 intro a w hout hI hdep K hK
 obtain ⟨vg, gg, eg⟩ := hdep ⟨8, .guard⟩ hg rfl
 have eg := eg 299 rfl
 have gg : vg = .bool true := gg _ rfl
 subst gg
 have hy := q0_ hgo eg
 rw [if_pos (by simp [Region.wanted, hy])]
 have o16w := (hout 16 de_).trans o16
 clear hout hdep hy
 clear o16
 go_simp
 exact hK _ _ (z1_ _ _) (w9_ rfl rs_)
theorem zo8_ (hg : (⟨8, .guard⟩ : Edge) ∈ af.toList) (hgo : ops[8]?.bind (·.dst) = some 299) (h301 : (⟨10, .data⟩ : Edge) ∈ af.toList) (hL : ∀ w, I w → w.heap[F]? = some (.cells #[.slice (some ⟨m, 0, none⟩) 16 mc, .slice none 0 0] 31 (0, 0))) : x9_ Tryz.prog ops Q a0 lzDS I (lzGS M F m mc) 11 { dst := some 302, op := .load 29 (.tmp 301), type := ty, pos := pos, after := af, guard := some (8, true) } := by
 intro a w hout hI hdep K hK
 obtain ⟨vg, gg, eg⟩ := hdep ⟨8, .guard⟩ hg rfl
 have eg := eg 299 rfl
 have gg : vg = .bool true := gg _ rfl
 subst gg
 have hy := q0_ hgo eg
 rw [if_pos (by simp [Region.wanted, hy])]
 obtain ⟨v301, g301, e301⟩ := hdep ⟨10, .data⟩ h301 rfl
 have e301 := e301 301 rfl
 have g301 : v301 = .pointer (some ⟨F, 0, none⟩) := g301 _ rfl
 subst g301
 have hLw := hL w hI
 clear hout hdep hy
 have fa := z2_ hLw
 have fb := z5_ hLw
 have fl := z0_ hLw
 clear hLw
 go_simp
 exact hK _ _ (z1_ _ _) (w9_ rfl rs_)
theorem zo9_ (hg : (⟨8, .guard⟩ : Edge) ∈ af.toList) (hgo : ops[8]?.bind (·.dst) = some 299) (o14 : a0.tmps[14]? = some (.pointer (some ⟨M, 0, none⟩))) : x9_ Tryz.prog ops Q a0 lzDS I (lzGS M F m mc) 12 { dst := some 303, op := .fieldAddr 31 (.tmp 14) 0, type := ty, pos := pos, after := af, guard := some (8, true) } := by
 intro a w hout hI hdep K hK
 obtain ⟨vg, gg, eg⟩ := hdep ⟨8, .guard⟩ hg rfl
 have eg := eg 299 rfl
 have gg : vg = .bool true := gg _ rfl
 subst gg
 have hy := q0_ hgo eg
 rw [if_pos (by simp [Region.wanted, hy])]
 have o14w := (hout 14 de_).trans o14
 clear hout hdep hy
 clear o14
 go_simp
 exact hK _ _ (z1_ _ _) (w9_ rfl rs_)
theorem zpa_ (hg : (⟨8, .guard⟩ : Edge) ∈ af.toList) (hgo : ops[8]?.bind (·.dst) = some 299) (h303 : (⟨12, .data⟩ : Edge) ∈ af.toList) (hL : ∀ w, I w → w.heap[M]? = some (.cells #[.slice (some ⟨m, 0, none⟩) 17 mc, .slice none 0 0] 31 (0, 0))) : x9_ Tryz.prog ops Q a0 lzDS I (lzGS M F m mc) 13 { dst := some 304, op := .load 29 (.tmp 303), type := ty, pos := pos, after := af, guard := some (8, true) } := by
 intro a w hout hI hdep K hK
 obtain ⟨vg, gg, eg⟩ := hdep ⟨8, .guard⟩ hg rfl
 have eg := eg 299 rfl
 have gg : vg = .bool true := gg _ rfl
 subst gg
 have hy := q0_ hgo eg
 rw [if_pos (by simp [Region.wanted, hy])]
 obtain ⟨v303, g303, e303⟩ := hdep ⟨12, .data⟩ h303 rfl
 have e303 := e303 303 rfl
 have g303 : v303 = .pointer (some ⟨M, 0, none⟩) := g303 _ rfl
 subst g303
 have hLw := hL w hI
 clear hout hdep hy
 have fa := z2_ hLw
 have fb := z5_ hLw
 have fl := z0_ hLw
 clear hLw
 go_simp
 exact hK _ _ (z1_ _ _) (w9_ rfl rs_)
theorem zpb_ (hg : (⟨8, .guard⟩ : Edge) ∈ af.toList) (hgo : ops[8]?.bind (·.dst) = some 299) (h302 : (⟨11, .data⟩ : Edge) ∈ af.toList) (h304 : (⟨13, .data⟩ : Edge) ∈ af.toList) : x9_ Tryz.prog ops Q a0 lzDS I (lzGS M F m mc) 14 { dst := some 305, op := .build 31 #[(0, .tmp 302), (1, .tmp 304)], type := ty, pos := pos, after := af, guard := some (8, true) } := by
 intro a w hout hI hdep K hK
 obtain ⟨vg, gg, eg⟩ := hdep ⟨8, .guard⟩ hg rfl
 have eg := eg 299 rfl
 have gg : vg = .bool true := gg _ rfl
 subst gg
 have hy := q0_ hgo eg
 rw [if_pos (by simp [Region.wanted, hy])]
 obtain ⟨v302, g302, e302⟩ := hdep ⟨11, .data⟩ h302 rfl
 have e302 := e302 302 rfl
 have g302 : v302 = .slice (some ⟨m, 0, none⟩) 16 mc := g302 _ rfl
 subst g302
 obtain ⟨v304, g304, e304⟩ := hdep ⟨13, .data⟩ h304 rfl
 have e304 := e304 304 rfl
 have g304 : v304 = .slice (some ⟨m, 0, none⟩) 17 mc := g304 _ rfl
 subst g304
 clear hout hdep hy
 go_simp
 exact hK _ _ (z1_ _ _) (w9_ rfl rs_)
theorem zpc_ (hg : (⟨17, .guard⟩ : Edge) ∈ af.toList) (hgo : ops[17]?.bind (·.dst) = some 308) : x9_ Tryz.prog ops Q a0 lzDS I (lzGS M F m mc) 18 { dst := some 309, op := .buildSlice 29 1 #[(0, .const (.string { data := #[83, 110, 49, 59, 116, 49, 58, 109] }))], type := ty, pos := pos, after := af, guard := some (17, true) } := by
 intro a w hout hI hdep K hK
 obtain ⟨vg, gg, eg⟩ := hdep ⟨17, .guard⟩ hg rfl
 have eg := eg 308 rfl
 have gg : vg = .bool true := gg _ rfl
 subst gg
 have hy := q0_ hgo eg
 rw [if_pos (by simp [Region.wanted, hy])]
 clear hout hdep hy
 go_simp
 exact hK _ _ (z6_ (z1_ _ _) _) (w9_ rfl ⟨_, rfl, zez_ (z3_ _ _)⟩)
theorem zpd_ (hg : (⟨17, .guard⟩ : Edge) ∈ af.toList) (hgo : ops[17]?.bind (·.dst) = some 308) : x9_ Tryz.prog ops Q a0 lzDS I (lzGS M F m mc) 19 { dst := some 310, op := .buildSlice 29 1 #[(0, .const (.string { data := #[110, 50, 59] }))], type := ty, pos := pos, after := af, guard := some (17, true) } := by
 intro a w hout hI hdep K hK
 obtain ⟨vg, gg, eg⟩ := hdep ⟨17, .guard⟩ hg rfl
 have eg := eg 308 rfl
 have gg : vg = .bool true := gg _ rfl
 subst gg
 have hy := q0_ hgo eg
 rw [if_pos (by simp [Region.wanted, hy])]
 clear hout hdep hy
 go_simp
 exact hK _ _ (z6_ (z1_ _ _) _) (w9_ rfl ⟨_, rfl, zez_ (z3_ _ _)⟩)
theorem zpe_ (hg : (⟨17, .guard⟩ : Edge) ∈ af.toList) (hgo : ops[17]?.bind (·.dst) = some 308) (h309 : (⟨18, .data⟩ : Edge) ∈ af.toList) (h310 : (⟨19, .data⟩ : Edge) ∈ af.toList) : x9_ Tryz.prog ops Q a0 lzDS I (lzGS M F m mc) 20 { dst := some 311, op := .build 31 #[(0, .tmp 309), (1, .tmp 310)], type := ty, pos := pos, after := af, guard := some (17, true) } := by
 intro a w hout hI hdep K hK
 obtain ⟨vg, gg, eg⟩ := hdep ⟨17, .guard⟩ hg rfl
 have eg := eg 308 rfl
 have gg : vg = .bool true := gg _ rfl
 subst gg
 have hy := q0_ hgo eg
 rw [if_pos (by simp [Region.wanted, hy])]
 obtain ⟨v309, g309, e309⟩ := hdep ⟨18, .data⟩ h309 rfl
 have e309 := e309 309 rfl
 have g309 := g309 _ rfl
 obtain ⟨b309, rfl, ht309⟩ := g309
 obtain ⟨v310, g310, e310⟩ := hdep ⟨19, .data⟩ h310 rfl
 have e310 := e310 310 rfl
 have g310 := g310 _ rfl
 obtain ⟨b310, rfl, ht310⟩ := g310
 clear hout hdep hy
 go_simp
 exact hK _ _ (z1_ _ _) (w9_ rfl ⟨b309, b310, rfl, ht309, ht310⟩)
theorem zpf_ (hg : (⟨17, .guard⟩ : Edge) ∈ af.toList) (hgo : ops[17]?.bind (·.dst) = some 308) (h311 : (⟨20, .data⟩ : Edge) ∈ af.toList) (hC : ∀ w, I w → ∀ g h : Nat, x5_ (.slice (some ⟨g, 0, none⟩) 1 1) [[83, 110, 49, 59, 116, 49, 58, 109]] w → x5_ (.slice (some ⟨h, 0, none⟩) 1 1) [[110, 50, 59]] w → Calls Tryz.prog 18 #[.int .i64 0, .int .i64 1, .int .i64 9, .agg #[.slice (some ⟨g, 0, none⟩) 1 1, .slice (some ⟨h, 0, none⟩) 1 1], .int .i64 9, .int .i64 4] w fun e w' => e = .returned (.bool true) ∧ Below w.heap.size w w') : x9_ Tryz.prog ops Q a0 lzDS I (lzGS M F m mc) 21 { dst := some 312, op := .call { callee := .value (.func 18), args := #[.const (.int .i64 0), .const (.int .i64 1), .const (.int .i64 9), .tmp 311, .const (.int .i64 9), .const (.int .i64 4)], argTypes := at_ }, type := ty, pos := pos, after := af, guard := some (17, true) } := by
 intro a w hout hI hdep K hK
 obtain ⟨vg, gg, eg⟩ := hdep ⟨17, .guard⟩ hg rfl
 have eg := eg 308 rfl
 have gg : vg = .bool true := gg _ rfl
 subst gg
 have hy := q0_ hgo eg
 rw [if_pos (by simp [Region.wanted, hy])]
 obtain ⟨v311, g311, e311⟩ := hdep ⟨20, .data⟩ h311 rfl
 have e311 := e311 311 rfl
 have g311 := g311 _ rfl
 obtain ⟨b311, c311, rfl, hs311, hp311⟩ := g311
 clear hout hdep hy
 go_simp
 refine (hC w hI b311 c311 hs311 hp311).mono ?_
 rintro e w1 ⟨rfl, hb1⟩
 exact hK _ _ (z4_ hb1 (z1_ _ _)) (w9_ rfl rfl)
theorem zpg_ (hg : (⟨23, .guard⟩ : Edge) ∈ af.toList) (hgo : ops[23]?.bind (·.dst) = some 314) : x9_ Tryz.prog ops Q a0 lzDS I (lzGS M F m mc) 24 { dst := some 315, op := .buildSlice 29 1 #[(0, .const (.string { data := #[83, 110, 49, 59, 116, 49, 58, 109] }))], type := ty, pos := pos, after := af, guard := some (23, true) } := by
 intro a w hout hI hdep K hK
 obtain ⟨vg, gg, eg⟩ := hdep ⟨23, .guard⟩ hg rfl
 have eg := eg 314 rfl
 have gg : vg = .bool true := gg _ rfl
 subst gg
 have hy := q0_ hgo eg
 rw [if_pos (by simp [Region.wanted, hy])]
 clear hout hdep hy
 go_simp
 exact hK _ _ (z6_ (z1_ _ _) _) (w9_ rfl ⟨_, rfl, zez_ (z3_ _ _)⟩)
theorem zph_ (hg : (⟨23, .guard⟩ : Edge) ∈ af.toList) (hgo : ops[23]?.bind (·.dst) = some 314) : x9_ Tryz.prog ops Q a0 lzDS I (lzGS M F m mc) 25 { dst := some 316, op := .buildSlice 29 1 #[(0, .const (.string { data := #[110, 50, 59] }))], type := ty, pos := pos, after := af, guard := some (23, true) } := by
 intro a w hout hI hdep K hK
 obtain ⟨vg, gg, eg⟩ := hdep ⟨23, .guard⟩ hg rfl
 have eg := eg 314 rfl
 have gg : vg = .bool true := gg _ rfl
 subst gg
 have hy := q0_ hgo eg
 rw [if_pos (by simp [Region.wanted, hy])]
 clear hout hdep hy
 go_simp
 exact hK _ _ (z6_ (z1_ _ _) _) (w9_ rfl ⟨_, rfl, zez_ (z3_ _ _)⟩)
theorem zpi_ (hg : (⟨23, .guard⟩ : Edge) ∈ af.toList) (hgo : ops[23]?.bind (·.dst) = some 314) (h315 : (⟨24, .data⟩ : Edge) ∈ af.toList) (h316 : (⟨25, .data⟩ : Edge) ∈ af.toList) : x9_ Tryz.prog ops Q a0 lzDS I (lzGS M F m mc) 26 { dst := some 317, op := .build 31 #[(0, .tmp 315), (1, .tmp 316)], type := ty, pos := pos, after := af, guard := some (23, true) } := by
 intro a w hout hI hdep K hK
 obtain ⟨vg, gg, eg⟩ := hdep ⟨23, .guard⟩ hg rfl
 have eg := eg 314 rfl
 have gg : vg = .bool true := gg _ rfl
 subst gg
 have hy := q0_ hgo eg
 rw [if_pos (by simp [Region.wanted, hy])]
 obtain ⟨v315, g315, e315⟩ := hdep ⟨24, .data⟩ h315 rfl
 have e315 := e315 315 rfl
 have g315 := g315 _ rfl
 obtain ⟨b315, rfl, ht315⟩ := g315
 obtain ⟨v316, g316, e316⟩ := hdep ⟨25, .data⟩ h316 rfl
 have e316 := e316 316 rfl
 have g316 := g316 _ rfl
 obtain ⟨b316, rfl, ht316⟩ := g316
 clear hout hdep hy
 go_simp
 exact hK _ _ (z1_ _ _) (w9_ rfl ⟨b315, b316, rfl, ht315, ht316⟩)
theorem zpj_ (hg : (⟨23, .guard⟩ : Edge) ∈ af.toList) (hgo : ops[23]?.bind (·.dst) = some 314) (h317 : (⟨26, .data⟩ : Edge) ∈ af.toList) (hC : ∀ w, I w → ∀ g h : Nat, x5_ (.slice (some ⟨g, 0, none⟩) 1 1) [[83, 110, 49, 59, 116, 49, 58, 109]] w → x5_ (.slice (some ⟨h, 0, none⟩) 1 1) [[110, 50, 59]] w → Calls Tryz.prog 18 #[.int .i64 0, .int .i64 1, .int .i64 9, .agg #[.slice (some ⟨g, 0, none⟩) 1 1, .slice (some ⟨h, 0, none⟩) 1 1], .int .i64 8, .int .i64 4] w fun e w' => e = .returned (.bool true) ∧ Below w.heap.size w w') : x9_ Tryz.prog ops Q a0 lzDS I (lzGS M F m mc) 27 { dst := some 318, op := .call { callee := .value (.func 18), args := #[.const (.int .i64 0), .const (.int .i64 1), .const (.int .i64 9), .tmp 317, .const (.int .i64 8), .const (.int .i64 4)], argTypes := at_ }, type := ty, pos := pos, after := af, guard := some (23, true) } := by
 intro a w hout hI hdep K hK
 obtain ⟨vg, gg, eg⟩ := hdep ⟨23, .guard⟩ hg rfl
 have eg := eg 314 rfl
 have gg : vg = .bool true := gg _ rfl
 subst gg
 have hy := q0_ hgo eg
 rw [if_pos (by simp [Region.wanted, hy])]
 obtain ⟨v317, g317, e317⟩ := hdep ⟨26, .data⟩ h317 rfl
 have e317 := e317 317 rfl
 have g317 := g317 _ rfl
 obtain ⟨b317, c317, rfl, hs317, hp317⟩ := g317
 clear hout hdep hy
 go_simp
 refine (hC w hI b317 c317 hs317 hp317).mono ?_
 rintro e w1 ⟨rfl, hb1⟩
 exact hK _ _ (z4_ hb1 (z1_ _ _)) (w9_ rfl rfl)
theorem lz0 (h322 : (⟨31, .data⟩ : Edge) ∈ af.toList) : x9_ Tryz.prog ops Q a0 lzDS I (lzGS M F m mc) 32 { dst := some 0, op := .assign (.tmp 322), type := ty, pos := pos, after := af, guard := none } := by
 intro a w hout hI hdep K hK
 rw [if_pos (by simp [Region.wanted])]
 obtain ⟨v322, g322, e322⟩ := hdep ⟨31, .data⟩ h322 rfl
 have e322 := e322 322 rfl
 have g322 : v322 = .bool true := g322 _ rfl
 subst g322
 clear hout hdep
 go_simp
 exact hK _ _ (z1_ _ _) (w9_ rfl rs_)
end
theorem ziu_ {w : World} {N n m : Nat} {x : List UInt8} (h : ∀ j v, (List.replicate N (Value.string (bs x)))[j]? = some v → w.cell? ⟨m, j, none⟩ = some v) (hb : m < w.heap.size) (hn : n ≤ N) (c : Nat) : x5_ (.slice (some ⟨m, 0, none⟩) n c) (List.replicate n x) w := .inr ⟨m, 0, c, by rw [List.length_replicate], hb, fun k t hk => by
 obtain ⟨h1, rfl⟩ : k < n ∧ t = x := by
  rw [List.getElem?_replicate] at hk
  split at hk
  · rename_i h1; exact ⟨h1, (Option.some.inj hk).symm⟩
  · cases hk
 rw [Nat.zero_add]
 exact h k _ (by rw [List.getElem?_replicate, if_pos om_])⟩
theorem zeA_ {x : List UInt8} (n : Nat) (h : x.length ≤ 9000000000000000000) : ∀ s ∈ List.replicate n x, s.length ≤ 9000000000000000000 := fun s hs => by rw [List.eq_of_mem_replicate hs]; exact h
theorem zpk_ (x : LT) : ∃ (y : List UInt8) (ee : Int), k1_ x = .tuple #[.string (bs y), .int .i64 ee] ∧ y.length ≤ 2000000 := by
 unfold k1_
 split
 · rename_i h
   refine ⟨_, _, rfl, ?_⟩
   unfold w7_ at h
   rw [Bool.and_eq_true] at h
   have h1 := zda_ x (by first | exact h.1 | exact h.2)
   have h2 : x3_ x ≤ 64 := by first | (simpa using h.1) | (simpa using h.2)
   omega
 · exact ⟨_, _, rfl, by simp⟩
theorem ziv_ {w : World} {g : Nat} {x y z : List UInt8} {T : TypeId} (h : w.heap[g]? = some (.cells #[.string (bs x), .string (bs y), .string (bs z)] T (0, 0))) : x5_ (.slice (some ⟨g, 0, none⟩) 3 3) [x, y, z] w := .inr ⟨g, 0, 3, rfl, z0_ h, fun k t hk => by
 match k, hk with
 | 0, hk => simp at hk; subst hk; exact z2_ h 0
 | 1, hk => simp at hk; subst hk; exact z2_ h 1
 | 2, hk => simp at hk; subst hk; exact z2_ h 2
 | k + 3, hk => simp at hk⟩
def zpl_ (w0 : World) (s5 : Value) (wx : World) : Prop := ∃ (ls : List LT) (L : Nat), s5 = .slice (some ⟨L, 0, none⟩) 37 37 ∧ ls.length = 37 ∧ L < wx.heap.size ∧ x2_ (fun _ => True) wx ls L 0 ∧ GL [] w0 wx
theorem zpm_ {w : World} {base e s n c m : Nat} {a : Option Addr} {xs : List Value} (h : w.ownsRow base e s (.slice a n c) m xs) (hm : 0 < m) : m ≤ c := by
 rcases h.2 with ⟨h1, h2⟩ | ⟨g, cap, cur, h1, _, _, h2, _⟩
 · omega
 · injection h1 with h3 h4 h5
   omega
theorem zpn_ {W : World} {a b c d : Value} {e n : Nat} (h : n = W.heap.size) : ∀ (j : Nat) (u : Value), [a, b, c, d][j]? = some u → (W.alloc (.cells #[a, b, c, d] e)).cell? ((⟨n, 0, none⟩ : Addr).add j) = some u := by
 subst h
 intro j u hj
 rw [Addr.add_lit, Nat.zero_add, z2_ (z3_ W _) j, ← hj]
 simp
theorem zpo_ (w : World) (hG : GOk w) : Calls Tryz.prog 3 #[] w fun e w' => e = .returned (.bool true) ∧ Below w.heap.size w w' := by
 have HG0 := Lib.hid hG
 clear hG
 go_enter Tryz.func3, Tryz.ntmps3
 obtain ⟨i0, hi0, hi1, hi2, hi3⟩ := info_parts Tryz.infoLock
 go_wp2_with fail
 refine (zco_ 7 _).mono ?_
 rintro e w1 ⟨rfl, hb1⟩
 go_wp2_with fail
 have HA2 := Lib.hid (z3_ w1 (.cells #[.int .u8 3, .string (bs []), .int .i64 7, .slice none 0 0] 25))
 have hg2 : GL [] w (w1.alloc (.cells #[.int .u8 3, .string (bs []), .int .i64 7, .slice none 0 0] 25)) := z6_ (z4_ hb1 (z1_ _ _)) _
 clear hb1
 generalize (w1.alloc (.cells #[.int .u8 3, .string (bs []), .int .i64 7, .slice none 0 0] 25)) = w2 at *
 generalize w1.heap.size = A at *
 have hs2 : w2.heap.size ≤ w2.heap.size := Nat.le_refl _
 go_loopw [2, 3] (fun nv iv wr => ∃ i : Nat, i ≤ 9 ∧ iv = .int .i64 i ∧ Hid (wr.ownsRow w2.heap.size 25 4 nv i (repC i)) ∧ Hid (GL [] w2 wr)) (fun _ iv _ => 9 - (intOf iv).toNat)
 case atStart => exact ⟨0, by omega, rfl, Lib.hid (World.ownsRow_nil _ _ _ _), Lib.hid (z1_ _ _)⟩
 case round =>
  obtain ⟨i, hi9, rfl, hown, hgr⟩ := hrel
  have hAr := y7_ HA2.out hgr.out si_
  have a1 := z2_ hAr
  have a2 := z5_ hAr
  have a3 := z0_ hAr
  have hle := hgr.out.size
  clear hAr
  by_cases hlt : i < 9
  · go_wp2_with (at_builtin; go_must (refine wpList_append_own _ rfl _ _ 23 rfl w2.heap.size 25 i0 (.agg #[.int .u8 0, .string ByteArray.empty, .int .i64 0, .slice none 0 0]) 4 56 Tryz.underlying23 hi0 hi1 hi2 hi3 rfl de_ _ i _ rfl (zar_ hown.out _) ⟨wr.heap.size, 0, none⟩ 1 1 [.int .u8 3, .string (bs []), .int .i64 7, .slice none 0 0] rfl rfl ?c1 ?c2 ?c3 ?c4 ?c5 ?_; (case c1 => exact zpn_ rfl); (case c2 => (intro u hu; simp at hu; rcases hu with rfl | rfl | rfl | rfl <;> rfl)); (case c3 => (unfold maxLen; omega)); (case c4 => omega); (case c5 => (simp; omega)); (intro v4 w4 hown4 hgr4 _); (have HO4 := Lib.hid hown4); (have hg4 := Lib.hid (zaL_ hgr4 (z6_ hgr.out _) (fun r hr => .inr (zal_ hown.out r hr))); clear hgr4 hown4)))
    go_roundw
    case rel => exact ⟨i + 1, by omega, by go_num, HO4, hg4⟩
    case measure => simp [intOf]; omega
  · obtain rfl : i = 9 := by omega
    obtain ⟨N, cN, hv, hN0, hN3, hrowN⟩ := zc1_ (l := y1_ 9) hown.out om_ (zcr_ 9) (zhK_ wr 9)
    subst hv
    have hcap := zpm_ hown.out om_
    have hcap2 : (9 : Int) ≤ cN := by omega
    have HN3 := Lib.hid hrowN
    have HA3 := Lib.hid (y7_ HA2.out hgr.out si_)
    have hg3 : GL [] w wr := x1_ hgr.out hg2 si_
    clear hown hrowN hgr hle hN0
    obtain ⟨w3, hw3⟩ : ∃ w3, w3 = wr := ⟨_, rfl⟩
    subst hw3
    have hrow : x2_ (fun _ => True) w3 (y1_ 8) N 0 := zej_ (y1_ 9) 8 _ _ HN3.out
    have HC := Lib.hid (zb7_ (y1_ 8) N 0 cN (fun _ => True) (by simp [zcr_]) (by simp [zcr_]) _ hN3 hrow)
    clear hrow
    go_wp2_with fail
    refine (HC.out).mono ?_
    rintro e w4 ⟨hb4, v4, rfl, hl4⟩
    have hs4 : GL [] w3 w4 := z4_ hb4 (z1_ _ _)
    have HA4 := Lib.hid (y7_ HA3.out hs4 si_)
    have HN4 := Lib.hid (zbL_ hs4 _ _ _ hN3 HN3.out)
    have hN4 := Nat.lt_of_lt_of_le hN3 hs4.size
    clear hb4 a1 a2 a3
    have a1 := z2_ HA4.out
    have a2 := z5_ HA4.out
    have a3 := z0_ HA4.out
    clear HC
    obtain ⟨ad4, cp4, hv4, _⟩ := y3_ hl4
    rw [zcr_] at hv4
    subst hv4
    have HL4 := Lib.hid (q9_ (q := fun _ => True) (fun _ _ _ => trivial) _ _ hl4)
    clear hl4
    have hs5 : GL [] w4 (w4.alloc (.cells #[.int .u8 5, .string (bs []), .int .i64 0, .slice ad4 8 cp4] 25)) := z6_ (z1_ _ _) _
    have HD5 : Hid ((w4.alloc (.cells #[.int .u8 5, .string (bs []), .int .i64 0, .slice ad4 8 cp4] 25)).heap[w4.heap.size]? = some (.cells #[.int .u8 5, .string (bs []), .int .i64 0, .slice ad4 8 cp4] 25 (0, 0))) := z3_ w4 (.cells #[.int .u8 5, .string (bs []), .int .i64 0, .slice ad4 8 cp4] 25)
    go_upto_region 8 with fail
    skip
    generalize (w4.alloc (.cells #[.int .u8 5, .string (bs []), .int .i64 0, .slice ad4 8 cp4] 25)) = w5 at *
    have HA5 := Lib.hid (y7_ HA4.out hs5 si_)
    have HN5 := Lib.hid (zbL_ hs5 _ _ _ hN4 HN4.out)
    have hN5 := Nat.lt_of_lt_of_le hN4 hs5.size
    have HX5 := Lib.hid (z7_ hs5 _ _ HL4.out)
    clear a1 a2 a3
    have a1 := z2_ HA5.out
    have a2 := z5_ HA5.out
    have a3 := z0_ HA5.out
    have d1 := z2_ HD5.out
    have d2 := z5_ HD5.out
    have d3 := z0_ HD5.out
    go_cut [5] from 29 to 116 (fun s5 wx => zpl_ w s5 wx)
    case first =>
     have hg0 : GL [] w5 w5.drew := zam_ (z1_ _ _)
     have hN9 : N < w5.drew.heap.size := hN5
     have hr9 : x2_ (fun _ => True) w5.drew (y1_ 9) N 0 := zbL_ hg0 _ _ _ hN5 HN5.out
     have hA9 : w5.drew.heap[A]? = some (.cells #[.int .u8 3, .string (bs []), .int .i64 7, .slice none 0 0] 25 (0, 0)) := HA5.out
     have hD9 : w5.drew.heap[w4.heap.size]? = some (.cells #[.int .u8 5, .string (bs []), .int .i64 0, .slice ad4 8 cp4] 25 (0, 0)) := HD5.out
     have hX9 : y2_ (fun _ => True) w5.drew (.mk 5 [] 0 (y1_ 8)) (.agg #[.int .u8 5, .string (bs []), .int .i64 0, .slice ad4 8 cp4]) := z7_ hg0 _ _ HX5.out
     have hg5 : GL [] w w5 := x1_ (x1_ hs5 hs4 si_) hg3 si_
     refine zlz_ (ds := kDS) (G := k9_ (kGS N cN)) rfl rfl (zcD_ _ (by decide +kernel)) ?_ ?_ (fun i v w w' h hg g hgi => zlN_ (h g hgi) hg) ?_ ?_
     · intro d hd
       exact Nat.lt_of_lt_of_le (zcE_ (n := 117) kDS (by decide +kernel) d hd) si_
     · exact zfj_ (by kernel_rfl)
     · refine zly_ ?_
       refine ⟨?_, ?_, ?_, ?_, ?_, ?_, ?_, ?_, ?_, ?_, ?_, ?_, ?_, ?_, ?_, ?_, ?_, ?_, ?_, ?_, ?_, ?_, ?_, ?_, ?_, ?_, ?_, ?_, ?_, ?_, ?_, ?_, ?_, ?_, ?_, ?_, ?_, ?_, ?_, ?_, ?_, ?_, ?_, ?_, ?_, ?_, ?_, ?_, ?_, ?_, ?_, ?_, ?_, ?_, ?_, ?_, ?_, ?_, ?_, ?_, ?_, ?_, ?_, ?_, ?_, ?_, ?_, ?_, ?_, ?_, ?_, ?_, ?_, ?_, ?_, ?_, ?_, ?_, ?_, ?_, ?_, ?_, ?_, ?_, ?_, ?_, ?_, ?_, ?_, trivial⟩
       · exact zlP_
       · exact zlQ_
       · exact zax_ rfl (fun w => rfl) (fun w => (zbv_ _ w).mono fun e w' h => ⟨_, h.1, zaO_ _ si_ _ _, h.2⟩)
       · exact zax_ rfl (fun w => rfl) (fun w => (zbv_ _ w).mono fun e w' h => ⟨_, h.1, zaO_ _ si_ _ _, h.2⟩)
       · exact zax_ rfl (fun w => rfl) (fun w => (zbv_ _ w).mono fun e w' h => ⟨_, h.1, zaO_ _ si_ _ _, h.2⟩)
       · exact zax_ rfl (fun w => rfl) (fun w => (zbv_ _ w).mono fun e w' h => ⟨_, h.1, zaO_ _ si_ _ _, h.2⟩)
       · exact zax_ rfl (fun w => rfl) (fun w => (zbv_ _ w).mono fun e w' h => ⟨_, h.1, zaO_ _ si_ _ _, h.2⟩)
       · exact zax_ rfl (fun w => rfl) (fun w => (zbv_ _ w).mono fun e w' h => ⟨_, h.1, zaO_ _ si_ _ _, h.2⟩)
       · exact zax_ rfl (fun w => rfl) (fun w => (zcn_ _ w).mono fun e w' h => ⟨_, h.1, zbH_ _ si_ _ _, h.2⟩)
       · exact zax_ rfl (fun w => rfl) (fun w => (zcn_ _ w).mono fun e w' h => ⟨_, h.1, zbH_ _ si_ _ _, h.2⟩)
       · exact zax_ rfl (fun w => rfl) (fun w => (zcn_ _ w).mono fun e w' h => ⟨_, h.1, zbH_ _ si_ _ _, h.2⟩)
       · exact j7_ rfl de_ si_ hA9 (zaG_ 7 om_ om_ _ _)
       · exact zax_ rfl (fun w => rfl) (fun w => (zco_ (-1) w).mono fun e w' h => ⟨_, h.1, zaG_ (-1) om_ om_ _ _, h.2⟩)
       · exact zax_ rfl (fun w => rfl) (fun w => (zco_ (1073741823) w).mono fun e w' h => ⟨_, h.1, zaG_ (1073741823) om_ om_ _ _, h.2⟩)
       · exact zax_ rfl (fun w => rfl) (fun w => (zco_ (1073741824) w).mono fun e w' h => ⟨_, h.1, zaG_ (1073741824) om_ om_ _ _, h.2⟩)
       · exact zax_ rfl (fun w => rfl) (fun w => (zcp_ (0) w).mono fun e w' h => ⟨_, h.1, zbI_ (0) om_ om_ _ _, h.2⟩)
       · exact zax_ rfl (fun w => rfl) (fun w => (zcp_ (1073741824) w).mono fun e w' h => ⟨_, h.1, zbI_ (1073741824) om_ om_ _ _, h.2⟩)
       · exact zlR_
       · exact zlS_
       · exact j7_ rfl de_ si_ hA9 (zaG_ 7 om_ om_ _ _)
       · exact zlT_ si_
       · exact zcI_ (j := 20) (q := 49) rfl si_ rfl rfl (fun w N c => rfl) (fun N c w h1 h2 => zb7_ _ N 0 c (fun _ => True) si_ si_ w h1 h2)
       · exact j7_ rfl de_ si_ hA9 (zaG_ 7 om_ om_ _ _)
       · exact zax_ rfl (fun w => rfl) (fun w => (zcp_ (2) w).mono fun e w' h => ⟨_, h.1, zbI_ (2) om_ om_ _ _, h.2⟩)
       · exact zlU_ si_ si_
       · exact zcI_ (j := 24) (q := 53) rfl si_ rfl rfl (fun w N c => rfl) (fun N c w h1 h2 => zde_ _ N 0 c (fun _ => True) si_ si_ w h1 h2)
       · exact j7_ rfl de_ si_ hD9 hX9
       · exact zhL_ rfl de_ si_
       · exact zhM_ (j := 27) (q := 56) om_ rfl si_ rfl rfl (fun w => rfl) (fun w h1 h2 => zde_ _ N 0 cN (fun _ => True) (by simp [zcr_]) (by simp [zcr_]) w h1 h2) hN9 hr9
       · exact j7_ rfl de_ si_ hD9 hX9
       · exact j7_ rfl de_ si_ hD9 hX9
       · exact j7_ rfl de_ si_ hD9 hX9
       · exact j7_ rfl de_ si_ hD9 hX9
       · exact j7_ rfl de_ si_ hD9 hX9
       · exact j7_ rfl de_ si_ hD9 hX9
       · exact j7_ rfl de_ si_ hD9 hX9
       · exact j7_ rfl de_ si_ hD9 hX9
       · exact zlV_ si_ si_ si_ si_ si_ si_ si_ si_
       · exact zcI_ (j := 37) (q := 66) rfl si_ rfl rfl (fun w N c => rfl) (fun N c w h1 h2 => zb7_ _ N 0 c (fun _ => True) si_ si_ w h1 h2)
       · exact j7_ rfl de_ si_ hD9 hX9
       · exact j7_ rfl de_ si_ hD9 hX9
       · exact j7_ rfl de_ si_ hD9 hX9
       · exact j7_ rfl de_ si_ hD9 hX9
       · exact j7_ rfl de_ si_ hD9 hX9
       · exact j7_ rfl de_ si_ hD9 hX9
       · exact zhL_ rfl de_ si_
       · exact zlW_ si_ hcap2
       · exact zhM_ (j := 46) (q := 75) om_ rfl si_ rfl rfl (fun w => rfl) (fun w h1 h2 => zb7_ _ N 0 cN (fun _ => True) (by simp [zcr_]) (by simp [zcr_]) w h1 h2) hN9 hr9
       · exact zlX_ si_ si_ si_ si_ si_ si_ si_
       · exact zcI_ (j := 48) (q := 77) rfl si_ rfl rfl (fun w N c => rfl) (fun N c w h1 h2 => zb7_ _ N 0 c (fun _ => True) si_ si_ w h1 h2)
       · exact j7_ rfl de_ si_ hD9 hX9
       · exact j7_ rfl de_ si_ hD9 hX9
       · exact j7_ rfl de_ si_ hD9 hX9
       · exact j7_ rfl de_ si_ hD9 hX9
       · exact j7_ rfl de_ si_ hD9 hX9
       · exact j7_ rfl de_ si_ hD9 hX9
       · exact j7_ rfl de_ si_ hD9 hX9
       · exact zlY_ si_ si_ si_ si_ si_ si_ si_
       · exact zcI_ (j := 57) (q := 86) rfl si_ rfl rfl (fun w N c => rfl) (fun N c w h1 h2 => zb7_ _ N 0 c (fun _ => True) si_ si_ w h1 h2)
       · exact j7_ rfl de_ si_ hD9 hX9
       · exact zlZ_
       · exact zl0_ si_ si_
       · exact zcI_ (j := 61) (q := 90) rfl si_ rfl rfl (fun w N c => rfl) (fun N c w h1 h2 => zb7_ _ N 0 c (fun _ => True) si_ si_ w h1 h2)
       · exact zl1_
       · exact zl2_
       · exact j7_ rfl de_ si_ hA9 (zaG_ 7 om_ om_ _ _)
       · exact zl3_ si_
       · exact zl4_ si_
       · exact j7_ rfl de_ si_ hA9 (zaG_ 7 om_ om_ _ _)
       · exact zl5_ si_
       · exact zl6_ si_
       · exact j7_ rfl de_ si_ hA9 (zaG_ 7 om_ om_ _ _)
       · exact zl7_ si_
       · exact zl8_ si_
       · exact j7_ rfl de_ si_ hA9 (zaG_ 7 om_ om_ _ _)
       · exact zl9_ si_
       · exact zma_ si_
       · exact zax_ rfl (fun w => rfl) (fun w => (zft_ 63 om_ om_ w).mono fun e w' ⟨hb, v, he, hl⟩ => ⟨v, he, hl, hb⟩)
       · exact zax_ rfl (fun w => rfl) (fun w => (zft_ 64 om_ om_ w).mono fun e w' ⟨hb, v, he, hl⟩ => ⟨v, he, hl, hb⟩)
       · exact zax_ rfl (fun w => rfl) (fun w => (zft_ 65 om_ om_ w).mono fun e w' ⟨hb, v, he, hl⟩ => ⟨v, he, hl, hb⟩)
       · exact zax_ rfl (fun w => rfl) (fun w => (zbv_ _ w).mono fun e w' h => ⟨_, h.1, zaO_ _ si_ _ _, h.2⟩)
       · exact zax_ rfl (fun w => rfl) (fun w => (zcn_ _ w).mono fun e w' h => ⟨_, h.1, zbH_ _ si_ _ _, h.2⟩)
       · exact zax_ rfl (fun w => rfl) (fun w => (zcp_ (6) w).mono fun e w' h => ⟨_, h.1, zbI_ (6) om_ om_ _ _, h.2⟩)
       · exact zmb_ si_ si_
       · exact zcI_ (j := 83) (q := 112) rfl si_ rfl rfl (fun w N c => rfl) (fun N c w h1 h2 => zb7_ _ N 0 c (fun _ => True) si_ si_ w h1 h2)
       · exact zmc_ si_ si_
       · exact zcI_ (j := 85) (q := 114) rfl si_ rfl rfl (fun w N c => rfl) (fun N c w h1 h2 => zde_ _ N 0 c (fun _ => True) si_ si_ w h1 h2)
       · exact zmd_ si_ si_ si_ si_ si_ si_ si_ si_ si_ si_ si_ si_ si_ si_ si_ si_ si_ si_ si_ si_ si_ si_ si_ si_ si_ si_ si_ si_ si_ si_ si_ si_ si_ si_ si_ si_ si_
       · exact kst5 si_
     · intro vs w' hl hv hg
       have hl0 : vs.length = 89 := hl
       clear hl
       obtain ⟨v, hv1, hG⟩ := hv 88 si_
       obtain ⟨N5, rfl, hN5b, hr5⟩ := hG _ rfl
       clear hv
       obtain ⟨x0, r0, rfl, hl1⟩ := y0_ hl0
       clear hl0
       obtain ⟨x1, r1, rfl, hl2⟩ := y0_ hl1
       clear hl1
       obtain ⟨x2, r2, rfl, hl3⟩ := y0_ hl2
       clear hl2
       obtain ⟨x3, r3, rfl, hl4⟩ := y0_ hl3
       clear hl3
       obtain ⟨x4, r4, rfl, hl5⟩ := y0_ hl4
       clear hl4
       obtain ⟨x5, r5, rfl, hl6⟩ := y0_ hl5
       clear hl5
       obtain ⟨x6, r6, rfl, hl7⟩ := y0_ hl6
       clear hl6
       obtain ⟨x7, r7, rfl, hl8⟩ := y0_ hl7
       clear hl7
       obtain ⟨x8, r8, rfl, hl9⟩ := y0_ hl8
       clear hl8
       obtain ⟨x9, r9, rfl, hl10⟩ := y0_ hl9
       clear hl9
       obtain ⟨x10, r10, rfl, hl11⟩ := y0_ hl10
       clear hl10
       obtain ⟨x11, r11, rfl, hl12⟩ := y0_ hl11
       clear hl11
       obtain ⟨x12, r12, rfl, hl13⟩ := y0_ hl12
       clear hl12
       obtain ⟨x13, r13, rfl, hl14⟩ := y0_ hl13
       clear hl13
       obtain ⟨x14, r14, rfl, hl15⟩ := y0_ hl14
       clear hl14
       obtain ⟨x15, r15, rfl, hl16⟩ := y0_ hl15
       clear hl15
       obtain ⟨x16, r16, rfl, hl17⟩ := y0_ hl16
       clear hl16
       obtain ⟨x17, r17, rfl, hl18⟩ := y0_ hl17
       clear hl17
       obtain ⟨x18, r18, rfl, hl19⟩ := y0_ hl18
       clear hl18
       obtain ⟨x19, r19, rfl, hl20⟩ := y0_ hl19
       clear hl19
       obtain ⟨x20, r20, rfl, hl21⟩ := y0_ hl20
       clear hl20
       obtain ⟨x21, r21, rfl, hl22⟩ := y0_ hl21
       clear hl21
       obtain ⟨x22, r22, rfl, hl23⟩ := y0_ hl22
       clear hl22
       obtain ⟨x23, r23, rfl, hl24⟩ := y0_ hl23
       clear hl23
       obtain ⟨x24, r24, rfl, hl25⟩ := y0_ hl24
       clear hl24
       obtain ⟨x25, r25, rfl, hl26⟩ := y0_ hl25
       clear hl25
       obtain ⟨x26, r26, rfl, hl27⟩ := y0_ hl26
       clear hl26
       obtain ⟨x27, r27, rfl, hl28⟩ := y0_ hl27
       clear hl27
       obtain ⟨x28, r28, rfl, hl29⟩ := y0_ hl28
       clear hl28
       obtain ⟨x29, r29, rfl, hl30⟩ := y0_ hl29
       clear hl29
       obtain ⟨x30, r30, rfl, hl31⟩ := y0_ hl30
       clear hl30
       obtain ⟨x31, r31, rfl, hl32⟩ := y0_ hl31
       clear hl31
       obtain ⟨x32, r32, rfl, hl33⟩ := y0_ hl32
       clear hl32
       obtain ⟨x33, r33, rfl, hl34⟩ := y0_ hl33
       clear hl33
       obtain ⟨x34, r34, rfl, hl35⟩ := y0_ hl34
       clear hl34
       obtain ⟨x35, r35, rfl, hl36⟩ := y0_ hl35
       clear hl35
       obtain ⟨x36, r36, rfl, hl37⟩ := y0_ hl36
       clear hl36
       obtain ⟨x37, r37, rfl, hl38⟩ := y0_ hl37
       clear hl37
       obtain ⟨x38, r38, rfl, hl39⟩ := y0_ hl38
       clear hl38
       obtain ⟨x39, r39, rfl, hl40⟩ := y0_ hl39
       clear hl39
       obtain ⟨x40, r40, rfl, hl41⟩ := y0_ hl40
       clear hl40
       obtain ⟨x41, r41, rfl, hl42⟩ := y0_ hl41
       clear hl41
       obtain ⟨x42, r42, rfl, hl43⟩ := y0_ hl42
       clear hl42
       obtain ⟨x43, r43, rfl, hl44⟩ := y0_ hl43
       clear hl43
       obtain ⟨x44, r44, rfl, hl45⟩ := y0_ hl44
       clear hl44
       obtain ⟨x45, r45, rfl, hl46⟩ := y0_ hl45
       clear hl45
       obtain ⟨x46, r46, rfl, hl47⟩ := y0_ hl46
       clear hl46
       obtain ⟨x47, r47, rfl, hl48⟩ := y0_ hl47
       clear hl47
       obtain ⟨x48, r48, rfl, hl49⟩ := y0_ hl48
       clear hl48
       obtain ⟨x49, r49, rfl, hl50⟩ := y0_ hl49
       clear hl49
       obtain ⟨x50, r50, rfl, hl51⟩ := y0_ hl50
       clear hl50
       obtain ⟨x51, r51, rfl, hl52⟩ := y0_ hl51
       clear hl51
       obtain ⟨x52, r52, rfl, hl53⟩ := y0_ hl52
       clear hl52
       obtain ⟨x53, r53, rfl, hl54⟩ := y0_ hl53
       clear hl53
       obtain ⟨x54, r54, rfl, hl55⟩ := y0_ hl54
       clear hl54
       obtain ⟨x55, r55, rfl, hl56⟩ := y0_ hl55
       clear hl55
       obtain ⟨x56, r56, rfl, hl57⟩ := y0_ hl56
       clear hl56
       obtain ⟨x57, r57, rfl, hl58⟩ := y0_ hl57
       clear hl57
       obtain ⟨x58, r58, rfl, hl59⟩ := y0_ hl58
       clear hl58
       obtain ⟨x59, r59, rfl, hl60⟩ := y0_ hl59
       clear hl59
       obtain ⟨x60, r60, rfl, hl61⟩ := y0_ hl60
       clear hl60
       obtain ⟨x61, r61, rfl, hl62⟩ := y0_ hl61
       clear hl61
       obtain ⟨x62, r62, rfl, hl63⟩ := y0_ hl62
       clear hl62
       obtain ⟨x63, r63, rfl, hl64⟩ := y0_ hl63
       clear hl63
       obtain ⟨x64, r64, rfl, hl65⟩ := y0_ hl64
       clear hl64
       obtain ⟨x65, r65, rfl, hl66⟩ := y0_ hl65
       clear hl65
       obtain ⟨x66, r66, rfl, hl67⟩ := y0_ hl66
       clear hl66
       obtain ⟨x67, r67, rfl, hl68⟩ := y0_ hl67
       clear hl67
       obtain ⟨x68, r68, rfl, hl69⟩ := y0_ hl68
       clear hl68
       obtain ⟨x69, r69, rfl, hl70⟩ := y0_ hl69
       clear hl69
       obtain ⟨x70, r70, rfl, hl71⟩ := y0_ hl70
       clear hl70
       obtain ⟨x71, r71, rfl, hl72⟩ := y0_ hl71
       clear hl71
       obtain ⟨x72, r72, rfl, hl73⟩ := y0_ hl72
       clear hl72
       obtain ⟨x73, r73, rfl, hl74⟩ := y0_ hl73
       clear hl73
       obtain ⟨x74, r74, rfl, hl75⟩ := y0_ hl74
       clear hl74
       obtain ⟨x75, r75, rfl, hl76⟩ := y0_ hl75
       clear hl75
       obtain ⟨x76, r76, rfl, hl77⟩ := y0_ hl76
       clear hl76
       obtain ⟨x77, r77, rfl, hl78⟩ := y0_ hl77
       clear hl77
       obtain ⟨x78, r78, rfl, hl79⟩ := y0_ hl78
       clear hl78
       obtain ⟨x79, r79, rfl, hl80⟩ := y0_ hl79
       clear hl79
       obtain ⟨x80, r80, rfl, hl81⟩ := y0_ hl80
       clear hl80
       obtain ⟨x81, r81, rfl, hl82⟩ := y0_ hl81
       clear hl81
       obtain ⟨x82, r82, rfl, hl83⟩ := y0_ hl82
       clear hl82
       obtain ⟨x83, r83, rfl, hl84⟩ := y0_ hl83
       clear hl83
       obtain ⟨x84, r84, rfl, hl85⟩ := y0_ hl84
       clear hl84
       obtain ⟨x85, r85, rfl, hl86⟩ := y0_ hl85
       clear hl85
       obtain ⟨x86, r86, rfl, hl87⟩ := y0_ hl86
       clear hl86
       obtain ⟨x87, r87, rfl, hl88⟩ := y0_ hl87
       clear hl87
       obtain ⟨x88, r88, rfl, hl89⟩ := y0_ hl88
       clear hl88
       have hv2 : x88 = .slice (some ⟨N5, 0, none⟩) 37 37 := by simpa using hv1
       subst hv2
       have HR5 := Lib.hid hr5
       clear hr5 hl89 hv1 a1 a2 a3 d1 d2 d3
       simp only [kDS, v2_, List.setIfInBounds_toArray, List.set_cons_zero, List.set_cons_succ]
       go_wp2_with fail
       go_meet
       exact ⟨_, N5, rfl, rfl, hN5b, HR5.out, x1_ (x1_ hg hg0 si_) hg5 si_⟩
    case rest =>
     obtain ⟨ls, L, rfl, hll, hL0, hrl, hgl⟩ := hcut
     have HR := Lib.hid hrl
     have HG5 := Lib.hid (x4_ HG0.out hgl si_)
     clear hrl a1 a2 a3 d1 d2 d3 HA2 HA3 HA4 HA5 HN3 HN4 HN5 HX5 HD5 HL4 hs4 hs5 hN3 hN4 hN5 hg3 hs2 hg2 hi0 hi1 hi2 hi3 hcap hcap2
     obtain ⟨wx, hwx⟩ : ∃ x : World, x = wc := ⟨_, rfl⟩
     subst hwx
     go_wp2_with fail
     have HS1 : Hid (x5_ (.slice (some ⟨wx.heap.size, 0, none⟩) 3 3) [[83, 110, 49, 59, 116, 49, 58, 120], [110, 49, 59], [83, 110, 50, 59, 116, 49, 58, 120]] (((wx.alloc (.cells #[.string (bs [83, 110, 49, 59, 116, 49, 58, 120]), .string (bs [110, 49, 59]), .string (bs [83, 110, 50, 59, 116, 49, 58, 120])] 22)).alloc (.cells #[.string (bs [110, 50, 59]), .string (bs [110, 49, 59]), .string (bs [])] 22)).alloc (.cells #[.slice (some ⟨wx.heap.size, 0, none⟩) 3 3, .slice (some ⟨(wx.heap.size + 1), 0, none⟩) 3 3] 31))) := ziv_ (z8_ (z8_ (z3_ wx (.cells #[.string (bs [83, 110, 49, 59, 116, 49, 58, 120]), .string (bs [110, 49, 59]), .string (bs [83, 110, 50, 59, 116, 49, 58, 120])] 22)) (.cells #[.string (bs [110, 50, 59]), .string (bs [110, 49, 59]), .string (bs [])] 22)) _)
     have HP1 : Hid (x5_ (.slice (some ⟨wx.heap.size + 1, 0, none⟩) 3 3) [[110, 50, 59], [110, 49, 59], []] (((wx.alloc (.cells #[.string (bs [83, 110, 49, 59, 116, 49, 58, 120]), .string (bs [110, 49, 59]), .string (bs [83, 110, 50, 59, 116, 49, 58, 120])] 22)).alloc (.cells #[.string (bs [110, 50, 59]), .string (bs [110, 49, 59]), .string (bs [])] 22)).alloc (.cells #[.slice (some ⟨wx.heap.size, 0, none⟩) 3 3, .slice (some ⟨(wx.heap.size + 1), 0, none⟩) 3 3] 31))) := ziv_ (z8_ (by have h := z3_ (wx.alloc (.cells #[.string (bs [83, 110, 49, 59, 116, 49, 58, 120]), .string (bs [110, 49, 59]), .string (bs [83, 110, 50, 59, 116, 49, 58, 120])] 22)) (.cells #[.string (bs [110, 50, 59]), .string (bs [110, 49, 59]), .string (bs [])] 22); rw [show (wx.alloc (.cells #[.string (bs [83, 110, 49, 59, 116, 49, 58, 120]), .string (bs [110, 49, 59]), .string (bs [83, 110, 50, 59, 116, 49, 58, 120])] 22)).heap.size = wx.heap.size + 1 by simp] at h; exact h) _)
     have hZ_ := z3_ ((wx.alloc (.cells #[.string (bs [83, 110, 49, 59, 116, 49, 58, 120]), .string (bs [110, 49, 59]), .string (bs [83, 110, 50, 59, 116, 49, 58, 120])] 22)).alloc (.cells #[.string (bs [110, 50, 59]), .string (bs [110, 49, 59]), .string (bs [])] 22)) (.cells #[.slice (some ⟨wx.heap.size, 0, none⟩) 3 3, .slice (some ⟨(wx.heap.size + 1), 0, none⟩) 3 3] 31)
     rw [show ((wx.alloc (.cells #[.string (bs [83, 110, 49, 59, 116, 49, 58, 120]), .string (bs [110, 49, 59]), .string (bs [83, 110, 50, 59, 116, 49, 58, 120])] 22)).alloc (.cells #[.string (bs [110, 50, 59]), .string (bs [110, 49, 59]), .string (bs [])] 22)).heap.size = wx.heap.size + 1 + 1 by simp] at hZ_
     have HW1 := Lib.hid (hZ_)
     clear hZ_
     have hgA : GL [] wx (((wx.alloc (.cells #[.string (bs [83, 110, 49, 59, 116, 49, 58, 120]), .string (bs [110, 49, 59]), .string (bs [83, 110, 50, 59, 116, 49, 58, 120])] 22)).alloc (.cells #[.string (bs [110, 50, 59]), .string (bs [110, 49, 59]), .string (bs [])] 22)).alloc (.cells #[.slice (some ⟨wx.heap.size, 0, none⟩) 3 3, .slice (some ⟨(wx.heap.size + 1), 0, none⟩) 3 3] 31)) := z6_ (z6_ (z6_ (z1_ _ _) _) _) _
     generalize (((wx.alloc (.cells #[.string (bs [83, 110, 49, 59, 116, 49, 58, 120]), .string (bs [110, 49, 59]), .string (bs [83, 110, 50, 59, 116, 49, 58, 120])] 22)).alloc (.cells #[.string (bs [110, 50, 59]), .string (bs [110, 49, 59]), .string (bs [])] 22)).alloc (.cells #[.slice (some ⟨wx.heap.size, 0, none⟩) 3 3, .slice (some ⟨(wx.heap.size + 1), 0, none⟩) 3 3] 31)) = wA at *
     generalize wx.heap.size + 1 + 1 = Wb at *
     generalize wx.heap.size + 1 = Pp at *
     obtain ⟨S, hS⟩ : ∃ S, S = wx.heap.size := ⟨_, rfl⟩
     rw [← hS]
     rw [← hS] at HS1 HW1
     clear hS
     have HWA := Lib.hid (x1_ hgA hgl si_)
     have HRA := Lib.hid (zbL_ hgA _ _ _ hL0 HR.out)
     have hLA := Nat.lt_of_lt_of_le hL0 hgA.size
     clear HR hgA hgl HG5 hL0
     go_loopw [7] (fun iv wr => ∃ i : Nat, i ≤ 37 ∧ iv = .int .i64 i ∧ Hid (GL [] wA wr)) (fun iv _ => 37 - (intOf iv).toNat)
     case atStart => exact ⟨0, by omega, rfl, Lib.hid (z1_ _ _)⟩
     case round =>
      obtain ⟨i, hi, rfl, hgr⟩ := hrel
      obtain ⟨v0, hv0⟩ : ∃ x : World, x = wr := ⟨_, rfl⟩
      subst hv0
      by_cases hlt : i < 37
      · have i1 : (i : Int) < 37 := by omega
        have HRr := Lib.hid (zbL_ hgr.out _ _ _ hLA HRA.out)
        obtain ⟨X, hX⟩ : ∃ X, ls[i]? = some X := ⟨_, List.getElem?_eq_getElem om_⟩
        obtain ⟨c0, c1, c2, c3, hx, q0, q1, q2, q3⟩ := zao_ ls L 0 i X HRr.out hX
        obtain ⟨j, hj⟩ : ∃ j, (i + 3) % 37 = j := ⟨_, rfl⟩
        have hj37 : j < 37 := by omega
        have hjI : ((i : Int) + 3) % 37 = j := by omega
        have hjT : ((i : Int) + 3).tmod 37 = j := by rw [Int.tmod_eq_emod_of_nonneg om_]; exact hjI
        obtain ⟨Y, hY⟩ : ∃ Y, ls[j]? = some Y := ⟨_, List.getElem?_eq_getElem om_⟩
        obtain ⟨d0, d1, d2, d3, hy, r0, r1, r2, r3⟩ := zao_ ls L 0 j Y HRr.out hY
        simp only [Nat.zero_add] at q0 q1 q2 q3 r0 r1 r2 r3
        have HX := Lib.hid hx
        have HY := Lib.hid hy
        clear hx hy hj hX hY
        skip
        obtain ⟨xk, xn, xt, xa, xm, xc, rfl, rfl, rfl, rfl⟩ := zaA_ HX.out
        obtain ⟨yk, yn, yt, ya, ym, yc, rfl, rfl, rfl, rfl⟩ := zaA_ HY.out
        have hQX : ∀ w, GL [] v0 w → w.cell? ⟨L, i * 4, none⟩ = some (.int .u8 xk) ∧ w.cell? ⟨L, i * 4 + 1, none⟩ = some (.string (bs xt)) ∧ w.cell? ⟨L, i * 4 + 2, none⟩ = some (.int .i64 xn) ∧ w.cell? ⟨L, i * 4 + 3, none⟩ = some (.slice xa xm xc) := fun W hW => ⟨zbC_ q0 hW si_, zbC_ q1 hW si_, zbC_ q2 hW si_, zbC_ q3 hW si_⟩
        have hQY : ∀ w, GL [] v0 w → w.cell? ⟨L, j * 4, none⟩ = some (.int .u8 yk) ∧ w.cell? ⟨L, j * 4 + 1, none⟩ = some (.string (bs yt)) ∧ w.cell? ⟨L, j * 4 + 2, none⟩ = some (.int .i64 yn) ∧ w.cell? ⟨L, j * 4 + 3, none⟩ = some (.slice ya ym yc) := fun W hW => ⟨zbC_ r0 hW si_, zbC_ r1 hW si_, zbC_ r2 hW si_, zbC_ r3 hW si_⟩
        clear r0 r1 r2 r3 q0 q1 q2 q3
        have hGG : ∀ W, GL [] v0 W → GOk W := fun W hW => x4_ HG0.out (x1_ hW (x1_ hgr.out HWA.out si_) si_) si_
        have hC1 : ∀ W, GL [] v0 W → Calls Tryz.prog 11 #[.agg #[.int .u8 xk, .string (bs xt), .int .i64 xn, .slice xa xm xc]] W fun e W' => e = .returned (.bool true) ∧ Below W.heap.size W W' := fun W hW => znB_ _ _ _ W (z7_ hW _ _ HX.out) (hGG W hW)
        have hC2 : ∀ W, GL [] v0 W → Calls Tryz.prog 12 #[.string (bs [80, 110, 49, 59]), .int .i64 ((i : Nat) : Int), .slice (some ⟨L, 0, none⟩) (min ((i : Nat) : Int) 9).toNat 37] W fun e W' => e = .returned (.bool true) ∧ Below W.heap.size W W' := fun W hW => by
         have h := zoo_ [80, 110, 49, 59] ((i : Nat) : Int) om_ (ls.take (min ((i : Nat) : Int) 9).toNat) (some ⟨L, 0, none⟩) 37 W ?_ (hGG W hW)
         · rw [List.length_take, show min (min ((i : Nat) : Int) 9).toNat ls.length = (min ((i : Nat) : Int) 9).toNat by omega] at h
           exact h
         · unfold y2_
           refine ⟨by omega, by omega, by simp, by rw [List.length_take]; omega, _, rfl, .inr ⟨L, 0, 37, rfl, Nat.lt_of_lt_of_le hLA (Nat.le_trans hgr.out.size hW.size), trivial, ?_⟩⟩
           exact zbL_ hW _ _ _ (Nat.lt_of_lt_of_le hLA hgr.out.size) (zej_ ls _ L 0 HRr.out)
        have hC3 : ∀ W, GL [] v0 W → Calls Tryz.prog 13 #[.agg #[.int .u8 xk, .string (bs xt), .int .i64 xn, .slice xa xm xc], .agg #[.int .u8 yk, .string (bs yt), .int .i64 yn, .slice ya ym yc], .string (bs [])] W fun e W' => e = .returned (.bool true) ∧ Below W.heap.size W W' := fun W hW => znZ_ _ _ _ _ [] si_ _ _ W (z7_ hW _ _ HX.out) (z7_ hW _ _ HY.out) (hGG W hW)
        go_wp2_with fail
        refine zey_ (ds := laDS) (I := fun W => GL [] v0 W) (gs := (laGS L i j xk yk xt yt xn yn xa ya xm ym xc yc)) rfl rfl (zcD_ _ (by decide +kernel)) ?_ (by kernel_rfl) lamono (fun _ _ a b => x1_ b a si_) (zam_ (z1_ _ _)) ?_ ?_
        · intro d hd
          exact Nat.lt_of_lt_of_le (zcE_ (n := 323) laDS (by decide +kernel) d hd) si_
        · refine ⟨?_, ?_, ?_, ?_, ?_, ?_, ?_, ?_, ?_, ?_, ?_, ?_, ?_, ?_, ?_, ?_, ?_, ?_, ?_, ?_, ?_, ?_, ?_, ?_, ?_, ?_, ?_, ?_, ?_, ?_, ?_, trivial⟩
          · with_reducible exact k2_ rfl si_ de_ zab_
          · with_reducible exact k2_ rfl si_ de_ zab_
          · with_reducible exact zou_ si_ si_ om_
          · with_reducible exact zov_ si_ hQX
          · with_reducible exact zaX_ (vs := [.agg #[.int .u8 xk, .string (bs xt), .int .i64 xn, .slice xa xm xc]]) rfl zab_ (aT (dp (j := 3) si_ rfl rfl) aN) (fun w => rfl) hC1
          · with_reducible exact oNot (b := true) rfl (dp (j := 4) si_ rfl rfl) zab_
          · with_reducible exact oMvD rfl (dp (j := 5) si_ rfl rfl) zab_
          · with_reducible exact k2_ rfl si_ de_ (v5_ si_ rfl rfl rfl)
          · with_reducible exact k2_ rfl si_ de_ (v5_ si_ rfl rfl rfl)
          · with_reducible exact k2_ rfl si_ de_ (v5_ si_ rfl rfl rfl)
          · with_reducible exact zow_ si_ rfl si_
          · with_reducible exact zox_ si_ rfl si_ si_ om_
          · with_reducible exact zaX_ (vs := [.string (bs [80, 110, 49, 59]), .int .i64 ((i : Nat) : Int), .slice (some ⟨L, 0, none⟩) (min ((i : Nat) : Int) 9).toNat 37]) rfl (v5_ si_ rfl rfl rfl) (aC rfl (aT (dp (j := 7) si_ rfl rfl) (aT (dp (j := 11) si_ rfl rfl) aN))) (fun w => rfl) hC2
          · with_reducible exact oNot (b := true) rfl (dp (j := 12) si_ rfl rfl) (v5_ si_ rfl rfl rfl)
          · with_reducible exact zcW_ rfl (dp (j := 6) si_ rfl rfl) (dp (j := 13) si_ rfl rfl)
          · with_reducible exact oMvD rfl (dp (j := 14) si_ rfl rfl) zab_
          · with_reducible exact k2_ rfl si_ de_ (v5_ si_ rfl rfl rfl)
          · with_reducible exact k2_ rfl si_ de_ (v5_ si_ rfl rfl rfl)
          · with_reducible exact zoy_ si_ rfl si_ si_ om_
          · with_reducible exact zoz_ si_ rfl si_ hQX
          · with_reducible exact k2_ rfl si_ de_ (v5_ si_ rfl rfl rfl)
          · with_reducible exact k2_ rfl si_ de_ (v5_ si_ rfl rfl rfl)
          · with_reducible exact zoA_ si_ rfl si_ om_
          · with_reducible exact k2_ rfl si_ de_ (v5_ si_ rfl rfl rfl)
          · with_reducible exact zoB_ si_ rfl si_
          · with_reducible exact zoC_ si_ rfl si_ si_ hjT hjI
          · with_reducible exact zoD_ si_ rfl si_ si_ om_
          · with_reducible exact zoE_ si_ rfl si_ hQY
          · with_reducible exact zaX_ (vs := [.agg #[.int .u8 xk, .string (bs xt), .int .i64 xn, .slice xa xm xc], .agg #[.int .u8 yk, .string (bs yt), .int .i64 yn, .slice ya ym yc], .string (bs [])]) rfl (v5_ si_ rfl rfl rfl) (aT (dp (j := 19) si_ rfl rfl) (aT (dp (j := 27) si_ rfl rfl) (aC rfl aN))) (fun w => rfl) hC3
          · with_reducible exact oNot (b := true) rfl (dp (j := 28) si_ rfl rfl) (v5_ si_ rfl rfl rfl)
          · with_reducible exact zcW_ rfl (dp (j := 15) si_ rfl rfl) (dp (j := 29) si_ rfl rfl)
        · intro vs w' hl hv hI
          have hl0 : vs.length = 31 := hl
          clear hl
          obtain ⟨x0, r0, rfl, hl1⟩ := y0_ hl0
          clear hl0
          obtain ⟨x1, r1, rfl, hl2⟩ := y0_ hl1
          clear hl1
          obtain ⟨x2, r2, rfl, hl3⟩ := y0_ hl2
          clear hl2
          obtain ⟨x3, r3, rfl, hl4⟩ := y0_ hl3
          clear hl3
          obtain ⟨x4, r4, rfl, hl5⟩ := y0_ hl4
          clear hl4
          obtain ⟨x5, r5, rfl, hl6⟩ := y0_ hl5
          clear hl5
          obtain ⟨x6, r6, rfl, hl7⟩ := y0_ hl6
          clear hl6
          obtain ⟨x7, r7, rfl, hl8⟩ := y0_ hl7
          clear hl7
          obtain ⟨x8, r8, rfl, hl9⟩ := y0_ hl8
          clear hl8
          obtain ⟨x9, r9, rfl, hl10⟩ := y0_ hl9
          clear hl9
          obtain ⟨x10, r10, rfl, hl11⟩ := y0_ hl10
          clear hl10
          obtain ⟨x11, r11, rfl, hl12⟩ := y0_ hl11
          clear hl11
          obtain ⟨x12, r12, rfl, hl13⟩ := y0_ hl12
          clear hl12
          obtain ⟨x13, r13, rfl, hl14⟩ := y0_ hl13
          clear hl13
          obtain ⟨x14, r14, rfl, hl15⟩ := y0_ hl14
          clear hl14
          obtain ⟨x15, r15, rfl, hl16⟩ := y0_ hl15
          clear hl15
          obtain ⟨x16, r16, rfl, hl17⟩ := y0_ hl16
          clear hl16
          obtain ⟨x17, r17, rfl, hl18⟩ := y0_ hl17
          clear hl17
          obtain ⟨x18, r18, rfl, hl19⟩ := y0_ hl18
          clear hl18
          obtain ⟨x19, r19, rfl, hl20⟩ := y0_ hl19
          clear hl19
          obtain ⟨x20, r20, rfl, hl21⟩ := y0_ hl20
          clear hl20
          obtain ⟨x21, r21, rfl, hl22⟩ := y0_ hl21
          clear hl21
          obtain ⟨x22, r22, rfl, hl23⟩ := y0_ hl22
          clear hl22
          obtain ⟨x23, r23, rfl, hl24⟩ := y0_ hl23
          clear hl23
          obtain ⟨x24, r24, rfl, hl25⟩ := y0_ hl24
          clear hl24
          obtain ⟨x25, r25, rfl, hl26⟩ := y0_ hl25
          clear hl25
          obtain ⟨x26, r26, rfl, hl27⟩ := y0_ hl26
          clear hl26
          obtain ⟨x27, r27, rfl, hl28⟩ := y0_ hl27
          clear hl27
          obtain ⟨x28, r28, rfl, hl29⟩ := y0_ hl28
          clear hl28
          obtain ⟨x29, r29, rfl, hl30⟩ := y0_ hl29
          clear hl29
          obtain ⟨x30, r30, rfl, hl31⟩ := y0_ hl30
          clear hl30
          have e30 : x30 = .bool false := hv 30 x30 _ si_ rfl
          subst e30
          obtain rfl : r30 = [] := List.eq_nil_of_length_eq_zero hl31
          clear hv
          simp only [laDS, v2_, List.setIfInBounds_toArray, List.set_cons_zero, List.set_cons_succ]
          clear hQY hC1 hC2 hC3 HY hjI hjT hj37
          go_wp2_with fail
          obtain ⟨v1, hv1⟩ : ∃ x : World, x = w' := ⟨_, rfl⟩
          subst hv1
          go_loopw [8] (fun nv wr => ∃ n : Nat, n ≤ 10 ∧ nv = .int .i64 n ∧ Hid (GL [] v1 wr)) (fun nv _ => 10 - (intOf nv).toNat)
          case atStart => exact ⟨0, by omega, rfl, Lib.hid (z1_ _ _)⟩
          case round =>
           obtain ⟨n, hn, rfl, hgn⟩ := hrel
           obtain ⟨v2, hv2⟩ : ∃ x : World, x = wr := ⟨_, rfl⟩
           subst hv2
           have hg02 : GL [] v0 v2 := x1_ hgn.out hI si_
           by_cases hltn : n < 9
           · have n1 : (n : Int) < 9 := by omega
             obtain ⟨j2, hj2⟩ : ∃ j, (i + n) % 37 = j := ⟨_, rfl⟩
             have hj37 : j2 < 37 := by omega
             have hjI : ((i : Int) + n) % 37 = j2 := by omega
             have hjT : ((i : Int) + n).tmod 37 = j2 := by rw [Int.tmod_eq_emod_of_nonneg om_]; exact hjI
             obtain ⟨Y2, hY2⟩ : ∃ Y, ls[j2]? = some Y := ⟨_, List.getElem?_eq_getElem om_⟩
             obtain ⟨d0, d1, d2, d3, hy, r0, r1, r2, r3⟩ := zao_ ls L 0 j2 Y2 HRr.out hY2
             simp only [Nat.zero_add] at r0 r1 r2 r3
             have HY2 := Lib.hid hy
             clear hy hj2 hY2
             obtain ⟨zk, zn, zt, za, zm, zc, rfl, rfl, rfl, rfl⟩ := zaA_ HY2.out
             have hQX2 : ∀ w, GL [] v2 w → w.cell? ⟨L, i * 4, none⟩ = some (.int .u8 xk) ∧ w.cell? ⟨L, i * 4 + 1, none⟩ = some (.string (bs xt)) ∧ w.cell? ⟨L, i * 4 + 2, none⟩ = some (.int .i64 xn) ∧ w.cell? ⟨L, i * 4 + 3, none⟩ = some (.slice xa xm xc) := fun W hW => hQX W (x1_ hW hg02 si_)
             have hQY2 : ∀ w, GL [] v2 w → w.cell? ⟨L, j2 * 4, none⟩ = some (.int .u8 zk) ∧ w.cell? ⟨L, j2 * 4 + 1, none⟩ = some (.string (bs zt)) ∧ w.cell? ⟨L, j2 * 4 + 2, none⟩ = some (.int .i64 zn) ∧ w.cell? ⟨L, j2 * 4 + 3, none⟩ = some (.slice za zm zc) := fun W hW => ⟨zbC_ r0 (x1_ hW hg02 si_) si_, zbC_ r1 (x1_ hW hg02 si_) si_, zbC_ r2 (x1_ hW hg02 si_) si_, zbC_ r3 (x1_ hW hg02 si_) si_⟩
             clear r0 r1 r2 r3
             have hA2 : ∀ W, GL [] v2 W → GL [] wA W := fun W hW => x1_ hW (x1_ hg02 hgr.out si_) si_
             have hW2 : ∀ w, GL [] v2 w → w.heap[Wb]? = some (.cells #[.slice (some ⟨S, 0, none⟩) 3 3, .slice (some ⟨Pp, 0, none⟩) 3 3] 31 (0, 0)) := fun W hW => y7_ HW1.out (hA2 W hW) si_
             have hD1 : ∀ W, GL [] v2 W → Calls Tryz.prog 14 #[.agg #[.int .u8 xk, .string (bs xt), .int .i64 xn, .slice xa xm xc], .agg #[.slice (some ⟨S, 0, none⟩) 3 3, .slice (some ⟨Pp, 0, none⟩) 3 3], .string (bs [116, 49, 58, 120]), .int .i64 ((n : Nat) : Int), .int .i64 (8 - ((n : Nat) : Int))] W fun e W' => e = .returned (.bool true) ∧ Below W.heap.size W W' := fun W hW => zdL_ X _ _ (some ⟨S, 0, none⟩) (some ⟨Pp, 0, none⟩) 3 3 lkS lkP [116, 49, 58, 120] _ _ si_ ⟨by omega, by omega⟩ ⟨by omega, by omega⟩ W (z7_ (x1_ hW hg02 si_) _ _ HX.out) (y4_ HS1.out (hA2 W hW)) (y4_ HP1.out (hA2 W hW)) de_ de_ zis_ zit_ (hGG W (x1_ hW hg02 si_))
             have hD2 : ∀ W, GL [] v2 W → Calls Tryz.prog 14 #[.agg #[.int .u8 xk, .string (bs xt), .int .i64 xn, .slice xa xm xc], .agg #[.slice none 0 0, .slice none 0 0], .string (bs [116, 49, 58, 120]), .int .i64 ((n : Nat) : Int), .int .i64 ((n : Nat) : Int)] W fun e W' => e = .returned (.bool true) ∧ Below W.heap.size W W' := fun W hW => zdL_ X _ _ none none 0 0 [] [] [116, 49, 58, 120] _ _ si_ ⟨by omega, by omega⟩ ⟨by omega, by omega⟩ W (z7_ (x1_ hW hg02 si_) _ _ HX.out) (.inl ⟨none, 0, rfl, rfl⟩) (.inl ⟨none, 0, rfl, rfl⟩) si_ si_ si_ si_ (hGG W (x1_ hW hg02 si_))
             have hD3 : ∀ W, GL [] v2 W → Calls Tryz.prog 15 #[.agg #[.int .u8 xk, .string (bs xt), .int .i64 xn, .slice xa xm xc], .agg #[.int .u8 zk, .string (bs zt), .int .i64 zn, .slice za zm zc], .agg #[.slice (some ⟨S, 0, none⟩) 3 3, .slice (some ⟨Pp, 0, none⟩) 3 3], .string (bs [116, 49, 58, 120]), .string (bs [110, 51, 59]), .int .i64 ((n : Nat) : Int), .int .i64 ((n : Nat) : Int), .int .i64 3] W fun e W' => e = .returned (.bool true) ∧ Below W.heap.size W W' := fun W hW => zos_ X Y2 _ _ _ _ (some ⟨S, 0, none⟩) (some ⟨Pp, 0, none⟩) 3 3 lkS lkP [116, 49, 58, 120] [110, 51, 59] _ _ 3 si_ si_ ⟨by omega, by omega⟩ ⟨by omega, by omega⟩ om_ om_ W (z7_ (x1_ hW hg02 si_) _ _ HX.out) (z7_ (x1_ hW hg02 si_) _ _ HY2.out) (y4_ HS1.out (hA2 W hW)) (y4_ HP1.out (hA2 W hW)) de_ de_ zis_ zit_ (hGG W (x1_ hW hg02 si_))
             clear hQX
             go_wp2_with fail
             refine zey_ (ds := lbDS) (I := fun W => GL [] v2 W) (gs := (lbGS L i j2 n Wb S Pp xk zk xt zt xn zn xa za xm zm xc zc)) rfl rfl (zcD_ _ (by decide +kernel)) ?_ (by kernel_rfl) lbmono (fun _ _ a b => x1_ b a si_) (zam_ (z1_ _ _)) ?_ ?_
             · intro d hd
               exact Nat.lt_of_lt_of_le (zcE_ (n := 323) lbDS (by decide +kernel) d hd) si_
             · refine ⟨?_, ?_, ?_, ?_, ?_, ?_, ?_, ?_, ?_, ?_, ?_, ?_, ?_, ?_, ?_, ?_, ?_, ?_, ?_, ?_, ?_, ?_, ?_, ?_, ?_, ?_, ?_, ?_, ?_, ?_, ?_, ?_, ?_, ?_, ?_, ?_, ?_, ?_, ?_, ?_, ?_, trivial⟩
               · with_reducible exact k2_ rfl si_ de_ zab_
               · with_reducible exact k2_ rfl si_ de_ zab_
               · with_reducible exact zoF_ si_ si_ om_
               · with_reducible exact zoG_ si_ hQX2
               · with_reducible exact zoH_ si_ hW2
               · with_reducible exact k2_ rfl si_ de_ zab_
               · with_reducible exact k2_ rfl si_ de_ zab_
               · with_reducible exact zoI_ si_ om_ om_
               · with_reducible exact zaX_ (vs := [.agg #[.int .u8 xk, .string (bs xt), .int .i64 xn, .slice xa xm xc], .agg #[.slice (some ⟨S, 0, none⟩) 3 3, .slice (some ⟨Pp, 0, none⟩) 3 3], .string (bs [116, 49, 58, 120]), .int .i64 ((n : Nat) : Int), .int .i64 (8 - ((n : Nat) : Int))]) rfl zab_ (aT (dp (j := 3) si_ rfl rfl) (aT (dp (j := 4) si_ rfl rfl) (aC rfl (aT (dp (j := 5) si_ rfl rfl) (aT (dp (j := 7) si_ rfl rfl) aN))))) (fun w => rfl) hD1
               · with_reducible exact oNot (b := true) rfl (dp (j := 8) si_ rfl rfl) zab_
               · with_reducible exact oMvD rfl (dp (j := 9) si_ rfl rfl) zab_
               · with_reducible exact k2_ rfl si_ de_ (v5_ si_ rfl rfl rfl)
               · with_reducible exact k2_ rfl si_ de_ (v5_ si_ rfl rfl rfl)
               · with_reducible exact zoJ_ si_ rfl si_ si_ om_
               · with_reducible exact zoK_ si_ rfl si_ hQX2
               · with_reducible exact zoL_ si_ rfl
               · with_reducible exact k2_ rfl si_ de_ (v5_ si_ rfl rfl rfl)
               · with_reducible exact k2_ rfl si_ de_ (v5_ si_ rfl rfl rfl)
               · with_reducible exact zaX_ (vs := [.agg #[.int .u8 xk, .string (bs xt), .int .i64 xn, .slice xa xm xc], .agg #[.slice none 0 0, .slice none 0 0], .string (bs [116, 49, 58, 120]), .int .i64 ((n : Nat) : Int), .int .i64 ((n : Nat) : Int)]) rfl (v5_ si_ rfl rfl rfl) (aT (dp (j := 14) si_ rfl rfl) (aT (dp (j := 15) si_ rfl rfl) (aC rfl (aT (dp (j := 16) si_ rfl rfl) (aT (dp (j := 17) si_ rfl rfl) aN))))) (fun w => rfl) hD2
               · with_reducible exact oNot (b := true) rfl (dp (j := 18) si_ rfl rfl) (v5_ si_ rfl rfl rfl)
               · with_reducible exact zcW_ rfl (dp (j := 10) si_ rfl rfl) (dp (j := 19) si_ rfl rfl)
               · with_reducible exact oMvD rfl (dp (j := 20) si_ rfl rfl) zab_
               · with_reducible exact k2_ rfl si_ de_ (v5_ si_ rfl rfl rfl)
               · with_reducible exact k2_ rfl si_ de_ (v5_ si_ rfl rfl rfl)
               · with_reducible exact zoM_ si_ rfl si_ si_ om_
               · with_reducible exact zoN_ si_ rfl si_ hQX2
               · with_reducible exact k2_ rfl si_ de_ (v5_ si_ rfl rfl rfl)
               · with_reducible exact k2_ rfl si_ de_ (v5_ si_ rfl rfl rfl)
               · with_reducible exact k2_ rfl si_ de_ (v5_ si_ rfl rfl rfl)
               · with_reducible exact zoO_ si_ rfl si_ si_ om_ om_
               · with_reducible exact k2_ rfl si_ de_ (v5_ si_ rfl rfl rfl)
               · with_reducible exact zoP_ si_ rfl si_
               · with_reducible exact zoQ_ si_ rfl si_ si_ hjT hjI
               · with_reducible exact zoR_ si_ rfl si_ si_ om_
               · with_reducible exact zoS_ si_ rfl si_ hQY2
               · with_reducible exact zoT_ si_ rfl si_ hW2
               · with_reducible exact k2_ rfl si_ de_ (v5_ si_ rfl rfl rfl)
               · with_reducible exact k2_ rfl si_ de_ (v5_ si_ rfl rfl rfl)
               · with_reducible exact zaX_ (vs := [.agg #[.int .u8 xk, .string (bs xt), .int .i64 xn, .slice xa xm xc], .agg #[.int .u8 zk, .string (bs zt), .int .i64 zn, .slice za zm zc], .agg #[.slice (some ⟨S, 0, none⟩) 3 3, .slice (some ⟨Pp, 0, none⟩) 3 3], .string (bs [116, 49, 58, 120]), .string (bs [110, 51, 59]), .int .i64 ((n : Nat) : Int), .int .i64 ((n : Nat) : Int), .int .i64 3]) rfl (v5_ si_ rfl rfl rfl) (aT (dp (j := 25) si_ rfl rfl) (aT (dp (j := 34) si_ rfl rfl) (aT (dp (j := 35) si_ rfl rfl) (aC rfl (aC rfl (aT (dp (j := 36) si_ rfl rfl) (aT (dp (j := 37) si_ rfl rfl) (aC rfl aN)))))))) (fun w => rfl) hD3
               · with_reducible exact oNot (b := true) rfl (dp (j := 38) si_ rfl rfl) (v5_ si_ rfl rfl rfl)
               · with_reducible exact zcW_ rfl (dp (j := 21) si_ rfl rfl) (dp (j := 39) si_ rfl rfl)
             · intro vs w' hl hv hI
               have hl0 : vs.length = 41 := hl
               clear hl
               obtain ⟨x0, r0, rfl, hl1⟩ := y0_ hl0
               clear hl0
               obtain ⟨x1, r1, rfl, hl2⟩ := y0_ hl1
               clear hl1
               obtain ⟨x2, r2, rfl, hl3⟩ := y0_ hl2
               clear hl2
               obtain ⟨x3, r3, rfl, hl4⟩ := y0_ hl3
               clear hl3
               obtain ⟨x4, r4, rfl, hl5⟩ := y0_ hl4
               clear hl4
               obtain ⟨x5, r5, rfl, hl6⟩ := y0_ hl5
               clear hl5
               obtain ⟨x6, r6, rfl, hl7⟩ := y0_ hl6
               clear hl6
               obtain ⟨x7, r7, rfl, hl8⟩ := y0_ hl7
               clear hl7
               obtain ⟨x8, r8, rfl, hl9⟩ := y0_ hl8
               clear hl8
               obtain ⟨x9, r9, rfl, hl10⟩ := y0_ hl9
               clear hl9
               obtain ⟨x10, r10, rfl, hl11⟩ := y0_ hl10
               clear hl10
               obtain ⟨x11, r11, rfl, hl12⟩ := y0_ hl11
               clear hl11
               obtain ⟨x12, r12, rfl, hl13⟩ := y0_ hl12
               clear hl12
               obtain ⟨x13, r13, rfl, hl14⟩ := y0_ hl13
               clear hl13
               obtain ⟨x14, r14, rfl, hl15⟩ := y0_ hl14
               clear hl14
               obtain ⟨x15, r15, rfl, hl16⟩ := y0_ hl15
               clear hl15
               obtain ⟨x16, r16, rfl, hl17⟩ := y0_ hl16
               clear hl16
               obtain ⟨x17, r17, rfl, hl18⟩ := y0_ hl17
               clear hl17
               obtain ⟨x18, r18, rfl, hl19⟩ := y0_ hl18
               clear hl18
               obtain ⟨x19, r19, rfl, hl20⟩ := y0_ hl19
               clear hl19
               obtain ⟨x20, r20, rfl, hl21⟩ := y0_ hl20
               clear hl20
               obtain ⟨x21, r21, rfl, hl22⟩ := y0_ hl21
               clear hl21
               obtain ⟨x22, r22, rfl, hl23⟩ := y0_ hl22
               clear hl22
               obtain ⟨x23, r23, rfl, hl24⟩ := y0_ hl23
               clear hl23
               obtain ⟨x24, r24, rfl, hl25⟩ := y0_ hl24
               clear hl24
               obtain ⟨x25, r25, rfl, hl26⟩ := y0_ hl25
               clear hl25
               obtain ⟨x26, r26, rfl, hl27⟩ := y0_ hl26
               clear hl26
               obtain ⟨x27, r27, rfl, hl28⟩ := y0_ hl27
               clear hl27
               obtain ⟨x28, r28, rfl, hl29⟩ := y0_ hl28
               clear hl28
               obtain ⟨x29, r29, rfl, hl30⟩ := y0_ hl29
               clear hl29
               obtain ⟨x30, r30, rfl, hl31⟩ := y0_ hl30
               clear hl30
               obtain ⟨x31, r31, rfl, hl32⟩ := y0_ hl31
               clear hl31
               obtain ⟨x32, r32, rfl, hl33⟩ := y0_ hl32
               clear hl32
               obtain ⟨x33, r33, rfl, hl34⟩ := y0_ hl33
               clear hl33
               obtain ⟨x34, r34, rfl, hl35⟩ := y0_ hl34
               clear hl34
               obtain ⟨x35, r35, rfl, hl36⟩ := y0_ hl35
               clear hl35
               obtain ⟨x36, r36, rfl, hl37⟩ := y0_ hl36
               clear hl36
               obtain ⟨x37, r37, rfl, hl38⟩ := y0_ hl37
               clear hl37
               obtain ⟨x38, r38, rfl, hl39⟩ := y0_ hl38
               clear hl38
               obtain ⟨x39, r39, rfl, hl40⟩ := y0_ hl39
               clear hl39
               obtain ⟨x40, r40, rfl, hl41⟩ := y0_ hl40
               clear hl40
               have e40 : x40 = .bool false := hv 40 x40 _ si_ rfl
               subst e40
               obtain rfl : r40 = [] := List.eq_nil_of_length_eq_zero hl41
               clear hv
               simp only [lbDS, v2_, List.setIfInBounds_toArray, List.set_cons_zero, List.set_cons_succ]
               have hgn2 := x1_ hI hgn.out si_
               clear hQX2 hQY2 hW2 hD1 hD2 hD3 hA2 HY2 hjI hjT hj37
               go_wp2_with fail
               go_roundw
               case rel => first | exact ⟨n + 2, by omega, by go_num, Lib.hid hgn2⟩ | ((repeat apply Exists.intro); refine ⟨?_, rfl⟩; exact ⟨n + 2, by omega, by go_num, Lib.hid hgn2⟩)
               case measure => simp [intOf]; omega
           · have n1 : ¬ (n : Int) < 9 := by omega
             obtain ⟨y, ee, hwv, hyl⟩ := zpk_ X
             have HWV := Lib.hid hwv
             clear hwv
             obtain ⟨q0, q1, q2, q3⟩ := hQX _ hg02
             go_wp2_with fail
             refine (zbx_ X _ _ _ (z7_ hg02 _ _ HX.out) (hGG _ hg02)).mono ?_
             rintro e v3 ⟨rfl, hb3⟩
             rw [HWV.out]
             have hg03 := z4_ hb3 hg02
             clear hb3 q0 q1 q2 q3 hgn hg02
             go_wp2_with fail
             go_loopw [11] (fun kv wr => ∃ k : Nat, k ≤ y.length ∧ kv = .int .i64 k ∧ Hid (GL [] v3 wr)) (fun kv _ => y.length - (intOf kv).toNat)
             case atStart => exact ⟨0, by omega, rfl, Lib.hid (z1_ _ _)⟩
             case round =>
              obtain ⟨k, hk, rfl, hgk⟩ := hrel
              obtain ⟨v4, hv4⟩ : ∃ x : World, x = wr := ⟨_, rfl⟩
              subst hv4
              have hg04 : GL [] v0 v4 := x1_ hgk.out hg03 si_
              have hRd0 : ∀ (l : List UInt8), l.length ≤ 9000000000000000000 → ∀ w, GL [] v4 w → Calls Tryz.prog 17 #[.string (bs l)] w fun e W' => e = .returned (.bool true) ∧ Below w.heap.size w W' := fun l hl W hW => zia_ l hl W (hGG W (x1_ hW hg04 si_))
              by_cases hk1 : k < y.length
              · have k1 : (k : Int) < y.length := by omega
                by_cases hk2 : y.length < 60
                · have k2 : (y.length : Int) < 60 := by omega
                  have hRd : ∀ (l : List UInt8), l.length ≤ 9000000000000000000 → ∀ w, GL [] v4 w → Calls Tryz.prog 17 #[.string (bs l)] w fun e W' => e = .returned (.bool true) ∧ Below w.heap.size w W' := hRd0
                  clear hRd0 hQX
                  go_wp2_with fail
                  refine zey_ (ds := ldDS) (I := fun W => GL [] v4 W) (gs := (ldGS y k)) rfl rfl (zcD_ _ (by decide +kernel)) ?_ (by kernel_rfl) ldmono (fun _ _ a b => x1_ b a si_) (zam_ (z1_ _ _)) ?_ ?_
                  · intro d hd
                    exact Nat.lt_of_lt_of_le (zcE_ (n := 323) ldDS (by decide +kernel) d hd) si_
                  · refine ⟨?_, ?_, ?_, ?_, ?_, ?_, ?_, ?_, ?_, ?_, ?_, ?_, ?_, ?_, ?_, ?_, ?_, ?_, ?_, ?_, ?_, ?_, ?_, ?_, ?_, ?_, ?_, ?_, ?_, ?_, ?_, ?_, ?_, ?_, ?_, ?_, ?_, trivial⟩
                    · with_reducible exact k2_ rfl si_ de_ zab_
                    · with_reducible exact k2_ rfl si_ de_ zab_
                    · with_reducible exact zoU_ si_ si_ hk1 om_
                    · with_reducible exact zaX_ (vs := [.string (bs (y.take k))]) rfl zab_ (aT (dp (j := 2) si_ rfl rfl) aN) (fun w => rfl) (hRd _ so_)
                    · with_reducible exact oNot (b := true) rfl (dp (j := 3) si_ rfl rfl) zab_
                    · with_reducible exact oMvD rfl (dp (j := 4) si_ rfl rfl) zab_
                    · with_reducible exact k2_ rfl si_ de_ (v5_ si_ rfl rfl rfl)
                    · with_reducible exact k2_ rfl si_ de_ (v5_ si_ rfl rfl rfl)
                    · with_reducible exact zoV_ si_ rfl si_ si_ hk1 om_
                    · with_reducible exact zaX_ (vs := [.string (bs (y.drop k))]) rfl (v5_ si_ rfl rfl rfl) (aT (dp (j := 8) si_ rfl rfl) aN) (fun w => rfl) (hRd _ so_)
                    · with_reducible exact oNot (b := true) rfl (dp (j := 9) si_ rfl rfl) (v5_ si_ rfl rfl rfl)
                    · with_reducible exact zcW_ rfl (dp (j := 5) si_ rfl rfl) (dp (j := 10) si_ rfl rfl)
                    · with_reducible exact oMvD rfl (dp (j := 11) si_ rfl rfl) zab_
                    · with_reducible exact k2_ rfl si_ de_ (v5_ si_ rfl rfl rfl)
                    · with_reducible exact k2_ rfl si_ de_ (v5_ si_ rfl rfl rfl)
                    · with_reducible exact zoW_ si_ rfl si_ si_ hk1 om_
                    · with_reducible exact zoX_ si_ rfl si_ hk1 om_
                    · with_reducible exact k2_ rfl si_ de_ (v5_ si_ rfl rfl rfl)
                    · with_reducible exact k2_ rfl si_ de_ (v5_ si_ rfl rfl rfl)
                    · with_reducible exact zoY_ si_ rfl si_ si_ hk1 om_
                    · with_reducible exact zoZ_ si_ rfl si_ si_ hk1 om_
                    · with_reducible exact zaX_ (vs := [.string (bs (y.take k ++ 49 :: y.drop k))]) rfl (v5_ si_ rfl rfl rfl) (aT (dp (j := 20) si_ rfl rfl) aN) (fun w => rfl) (hRd _ so_)
                    · with_reducible exact oNot (b := true) rfl (dp (j := 21) si_ rfl rfl) (v5_ si_ rfl rfl rfl)
                    · with_reducible exact zcW_ rfl (dp (j := 12) si_ rfl rfl) (dp (j := 22) si_ rfl rfl)
                    · with_reducible exact oMvD rfl (dp (j := 23) si_ rfl rfl) zab_
                    · with_reducible exact k2_ rfl si_ de_ (v5_ si_ rfl rfl rfl)
                    · with_reducible exact k2_ rfl si_ de_ (v5_ si_ rfl rfl rfl)
                    · with_reducible exact zo0_ si_ rfl si_ si_ hk1 om_
                    · with_reducible exact zo1_ si_ rfl si_ hk1 om_
                    · with_reducible exact k2_ rfl si_ de_ (v5_ si_ rfl rfl rfl)
                    · with_reducible exact k2_ rfl si_ de_ (v5_ si_ rfl rfl rfl)
                    · with_reducible exact zo2_ si_ rfl si_ hk1 om_
                    · with_reducible exact zo3_ si_ rfl si_ si_ hk1 om_
                    · with_reducible exact zo4_ si_ rfl si_ si_ hk1 om_
                    · with_reducible exact zaX_ (vs := [.string (bs (y.take k ++ 48 :: y.drop (k + 1)))]) rfl (v5_ si_ rfl rfl rfl) (aT (dp (j := 33) si_ rfl rfl) aN) (fun w => rfl) (hRd _ so_)
                    · with_reducible exact oNot (b := true) rfl (dp (j := 34) si_ rfl rfl) (v5_ si_ rfl rfl rfl)
                    · with_reducible exact zcW_ rfl (dp (j := 24) si_ rfl rfl) (dp (j := 35) si_ rfl rfl)
                  · intro vs w' hl hv hI
                    have hl0 : vs.length = 37 := hl
                    clear hl
                    obtain ⟨x0, r0, rfl, hl1⟩ := y0_ hl0
                    clear hl0
                    obtain ⟨x1, r1, rfl, hl2⟩ := y0_ hl1
                    clear hl1
                    obtain ⟨x2, r2, rfl, hl3⟩ := y0_ hl2
                    clear hl2
                    obtain ⟨x3, r3, rfl, hl4⟩ := y0_ hl3
                    clear hl3
                    obtain ⟨x4, r4, rfl, hl5⟩ := y0_ hl4
                    clear hl4
                    obtain ⟨x5, r5, rfl, hl6⟩ := y0_ hl5
                    clear hl5
                    obtain ⟨x6, r6, rfl, hl7⟩ := y0_ hl6
                    clear hl6
                    obtain ⟨x7, r7, rfl, hl8⟩ := y0_ hl7
                    clear hl7
                    obtain ⟨x8, r8, rfl, hl9⟩ := y0_ hl8
                    clear hl8
                    obtain ⟨x9, r9, rfl, hl10⟩ := y0_ hl9
                    clear hl9
                    obtain ⟨x10, r10, rfl, hl11⟩ := y0_ hl10
                    clear hl10
                    obtain ⟨x11, r11, rfl, hl12⟩ := y0_ hl11
                    clear hl11
                    obtain ⟨x12, r12, rfl, hl13⟩ := y0_ hl12
                    clear hl12
                    obtain ⟨x13, r13, rfl, hl14⟩ := y0_ hl13
                    clear hl13
                    obtain ⟨x14, r14, rfl, hl15⟩ := y0_ hl14
                    clear hl14
                    obtain ⟨x15, r15, rfl, hl16⟩ := y0_ hl15
                    clear hl15
                    obtain ⟨x16, r16, rfl, hl17⟩ := y0_ hl16
                    clear hl16
                    obtain ⟨x17, r17, rfl, hl18⟩ := y0_ hl17
                    clear hl17
                    obtain ⟨x18, r18, rfl, hl19⟩ := y0_ hl18
                    clear hl18
                    obtain ⟨x19, r19, rfl, hl20⟩ := y0_ hl19
                    clear hl19
                    obtain ⟨x20, r20, rfl, hl21⟩ := y0_ hl20
                    clear hl20
                    obtain ⟨x21, r21, rfl, hl22⟩ := y0_ hl21
                    clear hl21
                    obtain ⟨x22, r22, rfl, hl23⟩ := y0_ hl22
                    clear hl22
                    obtain ⟨x23, r23, rfl, hl24⟩ := y0_ hl23
                    clear hl23
                    obtain ⟨x24, r24, rfl, hl25⟩ := y0_ hl24
                    clear hl24
                    obtain ⟨x25, r25, rfl, hl26⟩ := y0_ hl25
                    clear hl25
                    obtain ⟨x26, r26, rfl, hl27⟩ := y0_ hl26
                    clear hl26
                    obtain ⟨x27, r27, rfl, hl28⟩ := y0_ hl27
                    clear hl27
                    obtain ⟨x28, r28, rfl, hl29⟩ := y0_ hl28
                    clear hl28
                    obtain ⟨x29, r29, rfl, hl30⟩ := y0_ hl29
                    clear hl29
                    obtain ⟨x30, r30, rfl, hl31⟩ := y0_ hl30
                    clear hl30
                    obtain ⟨x31, r31, rfl, hl32⟩ := y0_ hl31
                    clear hl31
                    obtain ⟨x32, r32, rfl, hl33⟩ := y0_ hl32
                    clear hl32
                    obtain ⟨x33, r33, rfl, hl34⟩ := y0_ hl33
                    clear hl33
                    obtain ⟨x34, r34, rfl, hl35⟩ := y0_ hl34
                    clear hl34
                    obtain ⟨x35, r35, rfl, hl36⟩ := y0_ hl35
                    clear hl35
                    obtain ⟨x36, r36, rfl, hl37⟩ := y0_ hl36
                    clear hl36
                    have e36 : x36 = .bool false := hv 36 x36 _ si_ rfl
                    subst e36
                    obtain rfl : r36 = [] := List.eq_nil_of_length_eq_zero hl37
                    clear hv
                    simp only [ldDS, v2_, List.setIfInBounds_toArray, List.set_cons_zero, List.set_cons_succ]
                    have hgk2 := x1_ hI hgk.out si_
                    clear hRd
                    go_wp2_with fail
                    go_roundw
                    case rel => first | exact ⟨k + 1, by omega, by go_num, Lib.hid hgk2⟩ | ((repeat apply Exists.intro); refine ⟨?_, rfl⟩; exact ⟨k + 1, by omega, by go_num, Lib.hid hgk2⟩)
                    case measure => simp [intOf]; omega
                · have k2 : ¬ (y.length : Int) < 60 := by omega
                  clear hQX
                  go_wp2_with fail
                  refine (hRd0 y om_ _ (z1_ _ _)).mono ?_
                  rintro e v5 ⟨rfl, hb5⟩
                  have hg45 := z4_ hb5 (z1_ [] v4)
                  clear hb5
                  have hq9 : ¬ 9223372036854775807 < y.length + y.length := by omega
                  go_wp2_with fail
                  refine (hRd0 (y ++ y) so_ _ hg45).mono ?_
                  rintro e v6 ⟨rfl, hb6⟩
                  have hgi2 := x1_ (x1_ (z4_ hb6 hg45) hg04 si_) hgr.out si_
                  clear hb6 hRd0
                  go_wp2_with fail
                  go_roundw
                  case rel => first | exact ⟨i + 1, by omega, by go_num, Lib.hid hgi2⟩ | ((repeat apply Exists.intro); refine ⟨?_, rfl⟩; exact ⟨i + 1, by omega, by go_num, Lib.hid hgi2⟩)
                  case measure => simp [intOf]; omega
              · have k1 : ¬ (k : Int) < y.length := by omega
                clear hQX
                go_wp2_with fail
                refine (hRd0 y om_ _ (z1_ _ _)).mono ?_
                rintro e v5 ⟨rfl, hb5⟩
                have hg45 := z4_ hb5 (z1_ [] v4)
                clear hb5
                have hq9 : ¬ 9223372036854775807 < y.length + y.length := by omega
                go_wp2_with fail
                refine (hRd0 (y ++ y) so_ _ hg45).mono ?_
                rintro e v6 ⟨rfl, hb6⟩
                have hgi2 := x1_ (x1_ (z4_ hb6 hg45) hg04 si_) hgr.out si_
                clear hb6 hRd0
                go_wp2_with fail
                go_roundw
                case rel => first | exact ⟨i + 1, by omega, by go_num, Lib.hid hgi2⟩ | ((repeat apply Exists.intro); refine ⟨?_, rfl⟩; exact ⟨i + 1, by omega, by go_num, Lib.hid hgi2⟩)
                case measure => simp [intOf]; omega
      · have i1 : ¬ (i : Int) < 37 := by omega
        have HWv := Lib.hid (x1_ hgr.out HWA.out si_)
        clear HRA HWA HS1 HP1 HW1 hgr hLA
        go_wp2_with fail
        have HZ := Lib.hid (show ∀ (k : Nat) (x : List UInt8), lkBad[k]? = some x → (v0.alloc (.cells #[.string (bs []), .string (bs [97, 48, 55, 59]), .string (bs [97, 59]), .string (bs [97, 45, 49, 59]), .string (bs [97, 49, 48, 55, 51, 55, 52, 49, 56, 50, 51, 59]), .string (bs [97, 49, 48, 55, 51, 55, 52, 49, 56, 50, 52, 59]), .string (bs [97, 57, 57, 57, 57, 57, 57, 57, 57, 57, 57, 57, 59]), .string (bs [38, 48, 58]), .string (bs [38, 49, 58]), .string (bs [38, 57, 58, 97, 49, 59, 97, 49, 59, 97, 49, 59, 97, 49, 59, 97, 49, 59, 97, 49, 59, 97, 49, 59, 97, 49, 59, 97, 49, 59]), .string (bs [38, 48, 49, 58, 97, 49, 59]), .string (bs [115, 110, 49, 59]), .string (bs [112, 80, 110, 49, 59]), .string (bs [97, 49, 59, 97, 50, 59]), .string (bs [115]), .string (bs [115, 80, 110]), .string (bs [112, 72, 116, 49, 58, 97]), .string (bs [112, 72, 84, 49, 58, 116, 50, 58, 38, 124]), .string (bs [124, 50, 58, 112, 72, 84, 50, 58, 110, 49, 59, 116, 48, 58, 111, 49, 59]), .string (bs [120]), .string (bs [38, 49, 58, 38, 49, 58]), .string (bs [111, 48, 59]), .string (bs [115, 80, 84, 49, 58]), .string (bs [38, 50, 58, 97, 49, 59])] 9)).cell? ⟨v0.heap.size, k, none⟩ = some (.string (bs x)) from fun k x hx => by
         refine (z2_ (z3_ v0 (.cells #[.string (bs []), .string (bs [97, 48, 55, 59]), .string (bs [97, 59]), .string (bs [97, 45, 49, 59]), .string (bs [97, 49, 48, 55, 51, 55, 52, 49, 56, 50, 51, 59]), .string (bs [97, 49, 48, 55, 51, 55, 52, 49, 56, 50, 52, 59]), .string (bs [97, 57, 57, 57, 57, 57, 57, 57, 57, 57, 57, 57, 59]), .string (bs [38, 48, 58]), .string (bs [38, 49, 58]), .string (bs [38, 57, 58, 97, 49, 59, 97, 49, 59, 97, 49, 59, 97, 49, 59, 97, 49, 59, 97, 49, 59, 97, 49, 59, 97, 49, 59, 97, 49, 59]), .string (bs [38, 48, 49, 58, 97, 49, 59]), .string (bs [115, 110, 49, 59]), .string (bs [112, 80, 110, 49, 59]), .string (bs [97, 49, 59, 97, 50, 59]), .string (bs [115]), .string (bs [115, 80, 110]), .string (bs [112, 72, 116, 49, 58, 97]), .string (bs [112, 72, 84, 49, 58, 116, 50, 58, 38, 124]), .string (bs [124, 50, 58, 112, 72, 84, 50, 58, 110, 49, 59, 116, 48, 58, 111, 49, 59]), .string (bs [120]), .string (bs [38, 49, 58, 38, 49, 58]), .string (bs [111, 48, 59]), .string (bs [115, 80, 84, 49, 58]), .string (bs [38, 50, 58, 97, 49, 59])] 9)) k).trans ?_
         rw [show (#[.string (bs []), .string (bs [97, 48, 55, 59]), .string (bs [97, 59]), .string (bs [97, 45, 49, 59]), .string (bs [97, 49, 48, 55, 51, 55, 52, 49, 56, 50, 51, 59]), .string (bs [97, 49, 48, 55, 51, 55, 52, 49, 56, 50, 52, 59]), .string (bs [97, 57, 57, 57, 57, 57, 57, 57, 57, 57, 57, 57, 59]), .string (bs [38, 48, 58]), .string (bs [38, 49, 58]), .string (bs [38, 57, 58, 97, 49, 59, 97, 49, 59, 97, 49, 59, 97, 49, 59, 97, 49, 59, 97, 49, 59, 97, 49, 59, 97, 49, 59, 97, 49, 59]), .string (bs [38, 48, 49, 58, 97, 49, 59]), .string (bs [115, 110, 49, 59]), .string (bs [112, 80, 110, 49, 59]), .string (bs [97, 49, 59, 97, 50, 59]), .string (bs [115]), .string (bs [115, 80, 110]), .string (bs [112, 72, 116, 49, 58, 97]), .string (bs [112, 72, 84, 49, 58, 116, 50, 58, 38, 124]), .string (bs [124, 50, 58, 112, 72, 84, 50, 58, 110, 49, 59, 116, 48, 58, 111, 49, 59]), .string (bs [120]), .string (bs [38, 49, 58, 38, 49, 58]), .string (bs [111, 48, 59]), .string (bs [115, 80, 84, 49, 58]), .string (bs [38, 50, 58, 97, 49, 59])] : Array Value) = (lkBad.map fun y => Value.string (bs y)).toArray from rfl, List.getElem?_toArray, List.getElem?_map, hx]
         rfl)
        have HWB := Lib.hid (z6_ HWv.out (.cells #[.string (bs []), .string (bs [97, 48, 55, 59]), .string (bs [97, 59]), .string (bs [97, 45, 49, 59]), .string (bs [97, 49, 48, 55, 51, 55, 52, 49, 56, 50, 51, 59]), .string (bs [97, 49, 48, 55, 51, 55, 52, 49, 56, 50, 52, 59]), .string (bs [97, 57, 57, 57, 57, 57, 57, 57, 57, 57, 57, 57, 59]), .string (bs [38, 48, 58]), .string (bs [38, 49, 58]), .string (bs [38, 57, 58, 97, 49, 59, 97, 49, 59, 97, 49, 59, 97, 49, 59, 97, 49, 59, 97, 49, 59, 97, 49, 59, 97, 49, 59, 97, 49, 59]), .string (bs [38, 48, 49, 58, 97, 49, 59]), .string (bs [115, 110, 49, 59]), .string (bs [112, 80, 110, 49, 59]), .string (bs [97, 49, 59, 97, 50, 59]), .string (bs [115]), .string (bs [115, 80, 110]), .string (bs [112, 72, 116, 49, 58, 97]), .string (bs [112, 72, 84, 49, 58, 116, 50, 58, 38, 124]), .string (bs [124, 50, 58, 112, 72, 84, 50, 58, 110, 49, 59, 116, 48, 58, 111, 49, 59]), .string (bs [120]), .string (bs [38, 49, 58, 38, 49, 58]), .string (bs [111, 48, 59]), .string (bs [115, 80, 84, 49, 58]), .string (bs [38, 50, 58, 97, 49, 59])] 9))
        obtain ⟨Zb, hZb⟩ : ∃ Z, Z = v0.heap.size := ⟨_, rfl⟩
        rw [← hZb]
        rw [← hZb] at HZ
        clear hZb HWv
        generalize v0.alloc (.cells #[.string (bs []), .string (bs [97, 48, 55, 59]), .string (bs [97, 59]), .string (bs [97, 45, 49, 59]), .string (bs [97, 49, 48, 55, 51, 55, 52, 49, 56, 50, 51, 59]), .string (bs [97, 49, 48, 55, 51, 55, 52, 49, 56, 50, 52, 59]), .string (bs [97, 57, 57, 57, 57, 57, 57, 57, 57, 57, 57, 57, 59]), .string (bs [38, 48, 58]), .string (bs [38, 49, 58]), .string (bs [38, 57, 58, 97, 49, 59, 97, 49, 59, 97, 49, 59, 97, 49, 59, 97, 49, 59, 97, 49, 59, 97, 49, 59, 97, 49, 59, 97, 49, 59]), .string (bs [38, 48, 49, 58, 97, 49, 59]), .string (bs [115, 110, 49, 59]), .string (bs [112, 80, 110, 49, 59]), .string (bs [97, 49, 59, 97, 50, 59]), .string (bs [115]), .string (bs [115, 80, 110]), .string (bs [112, 72, 116, 49, 58, 97]), .string (bs [112, 72, 84, 49, 58, 116, 50, 58, 38, 124]), .string (bs [124, 50, 58, 112, 72, 84, 50, 58, 110, 49, 59, 116, 48, 58, 111, 49, 59]), .string (bs [120]), .string (bs [38, 49, 58, 38, 49, 58]), .string (bs [111, 48, 59]), .string (bs [115, 80, 84, 49, 58]), .string (bs [38, 50, 58, 97, 49, 59])] 9) = wB at *
        go_loopw [270] (fun iv wr => ∃ i : Nat, i ≤ 24 ∧ iv = .int .i64 i ∧ Hid (GL [] wB wr)) (fun iv _ => 24 - (intOf iv).toNat)
        case atStart => exact ⟨0, by omega, rfl, Lib.hid (z1_ _ _)⟩
        case round =>
         obtain ⟨z, hz, rfl, hgz⟩ := hrel
         by_cases hltz : z < 24
         · have z1 : (z : Int) < 24 := by omega
           have hzL : z < lkBad.length := hltz
           have hx : lkBad[z]? = some lkBad[z] := List.getElem?_eq_getElem hzL
           have c0 := zbC_ (HZ.out z _ hx) hgz.out si_
           have hxl := zot_ lkBad[z] (List.getElem_mem _)
           clear hx
           generalize lkBad[z] = x at *
           have HGz := Lib.hid (x4_ HG0.out (x1_ hgz.out HWB.out si_) si_)
           go_wp2_with fail
           refine (zia_ x om_ _ HGz.out).mono ?_
           rintro e v5 ⟨rfl, hb5⟩
           have hgz2 := z4_ hb5 hgz.out
           clear hb5 c0
           go_wp2_with fail
           go_roundw
           case rel => first | exact ⟨z + 1, by omega, by go_num, Lib.hid hgz2⟩ | ((repeat apply Exists.intro); refine ⟨?_, rfl⟩; exact ⟨z + 1, by omega, by go_num, Lib.hid hgz2⟩)
           case measure => simp [intOf]; omega
         · have z1 : ¬ (z : Int) < 24 := by omega
           have HWC := Lib.hid (x1_ hgz.out HWB.out si_)
           obtain ⟨v5, hv5⟩ : ∃ x : World, x = wr := ⟨_, rfl⟩
           subst hv5
           clear HZ HWB hgz
           go_wp2_with fail
           have HM0 : Hid ((v5.alloc (.cells #[.slice none 0 0, .slice none 0 0] 31)).heap[v5.heap.size]? = some (.cells #[.slice none 0 0, .slice none 0 0] 31 (0, 0))) := z3_ v5 (.cells #[.slice none 0 0, .slice none 0 0] 31)
           have HWD := Lib.hid (z6_ HWC.out (.cells #[.slice none 0 0, .slice none 0 0] 31))
           have hszM : v5.heap.size + 1 = (v5.alloc (.cells #[.slice none 0 0, .slice none 0 0] 31)).heap.size := by simp
           have hwM : w.heap.size ≤ v5.heap.size := HWC.out.size
           obtain ⟨M, hM⟩ : ∃ M, M = v5.heap.size := ⟨_, rfl⟩
           rw [← hM]
           rw [← hM] at HM0 hszM hwM
           clear hM HWC
           generalize v5.alloc (.cells #[.slice none 0 0, .slice none 0 0] 31) = wM at *
           obtain ⟨t0, ht0, ht1, ht2, ht3⟩ := info_parts Tryz.infoTerm
           go_loopw [15] (fun iv wr => ∃ (i : Nat) (sv : Value), i ≤ 17 ∧ iv = .int .i64 i ∧ Hid (wr.heap[M]? = some (.cells #[sv, .slice none 0 0] 31 (0, 0))) ∧ Hid (wr.ownsRow (M + 1) 22 1 sv i (List.replicate i (.string (bs [83, 110, 49, 59, 116, 49, 58, 120])))) ∧ Hid (GL [M] wM wr)) (fun iv _ => 17 - (intOf iv).toNat)
           case atStart => exact ⟨0, _, by omega, rfl, HM0, Lib.hid (World.ownsRow_nil _ _ _ _), Lib.hid (z1_ _ _)⟩
           case round =>
            obtain ⟨z, sv, hz, rfl, HMr, ho, hgq⟩ := hrel
            obtain ⟨sa, sn, sc, hsv⟩ := zai_ ho.out
            subst hsv
            have a1 := z2_ HMr.out
            have a2 := z5_ HMr.out
            have a3 := z0_ HMr.out
            have hneM := j4_ ho.out HMr.out de_
            by_cases hltz : z < 17
            · have z1 : (z : Int) < 17 := by omega
              have hob := World.ownsRow.lt ho.out
              go_wp2_with (at_builtin; go_must (refine wpList_append_own_at _ rfl _ _ 29 rfl (M + 1) 22 t0 (.string ByteArray.empty) 1 16 Tryz.underlying29 ht0 ht1 ht2 ht3 rfl de_ _ z _ rfl (zar_ ho.out _) ⟨wr.heap.size, 0, none⟩ 1 1 [.string (bs [83, 110, 49, 59, 116, 49, 58, 120])] rfl rfl ?c1 ?c2 ?c3 ?c4 ?c5 ?_; (case c1 => exact zcw_ rfl); (case c2 => exact one1 rfl); (case c3 => (unfold maxLen; omega)); (case c4 => omega); (case c5 => (simp; omega)); (intro v7 w7 hown7 hgr7 _ _); (obtain ⟨ea, en, ec, hev⟩ := zai_ hown7); (subst hev); (have HM7 := Lib.hid (j1_ (z8_ HMr.out _) hgr7 hneM)); (have e1 := z2_ HM7.out); (have e2 := z5_ HM7.out); (have e3 := z0_ HM7.out)))
              have hon : (w7.setCell ⟨M, 0, none⟩ (.slice ea en ec)).ownsRow (M + 1) 22 1 (.slice ea en ec) (z + 1) (List.replicate (z + 1) (.string (bs [83, 110, 49, 59, 116, 49, 58, 120]))) := by rw [List.replicate_succ']; exact w3_ hown7 (j4_ hown7 HM7.out de_) _
              have hgn7 : GL [M] wM (w7.setCell ⟨M, 0, none⟩ (.slice ea en ec)) := x6_ (zaL_ hgr7 (z6_ hgq.out _) (fun r hr => .inr (by have := (hob r hr).1; omega))) (.inl si_) _
              have HM8 := Lib.hid (x7_ HM7.out 0 (.slice ea en ec))
              go_roundw
              case rel => first | exact ⟨z + 1, _, by omega, by go_num, HM8, Lib.hid hon, Lib.hid hgn7⟩ | ((repeat apply Exists.intro); refine ⟨?_, rfl⟩; exact ⟨z + 1, _, by omega, by go_num, HM8, Lib.hid hon, Lib.hid hgn7⟩)
              case measure => simp [intOf]; omega
            · have z1 : ¬ (z : Int) < 17 := by omega
              have hz17 : z = 17 := by omega
              obtain ⟨m, mc, hsv, hm1, hm2, hcap, hcap2, hcl⟩ := zaT_ ho.out om_
              injection hsv with f1 f2 f3
              subst f1 f2 f3 hz17
              have TM := Lib.hid hcl
              have hmc : (16 : Int) ≤ sc := by omega
              clear hcl ho hneM
              go_wp2_with fail
              have HF1 : Hid ((wr.alloc (.cells #[.slice (some ⟨m, 0, none⟩) 16 sc, .slice none 0 0] 31)).heap[wr.heap.size]? = some (.cells #[.slice (some ⟨m, 0, none⟩) 16 sc, .slice none 0 0] 31 (0, 0))) := z3_ wr (.cells #[.slice (some ⟨m, 0, none⟩) 16 sc, .slice none 0 0] 31)
              have HM1 := Lib.hid (z8_ HMr.out (.cells #[.slice (some ⟨m, 0, none⟩) 16 sc, .slice none 0 0] 31))
              have HG1 := Lib.hid (z6_ (x1_ hgq.out HWD.out (fun r hr => by simp at hr; right; omega)) (.cells #[.slice (some ⟨m, 0, none⟩) 16 sc, .slice none 0 0] 31))
              have T17 : Hid (x5_ (.slice (some ⟨m, 0, none⟩) 17 sc) (List.replicate 17 [83, 110, 49, 59, 116, 49, 58, 120]) (wr.alloc (.cells #[.slice (some ⟨m, 0, none⟩) 16 sc, .slice none 0 0] 31))) := Lib.hid (y4_ (ziu_ TM.out hm2 (Nat.le_refl 17) sc) (z6_ (z1_ _ _) _))
              have T16 : Hid (x5_ (.slice (some ⟨m, 0, none⟩) 16 sc) (List.replicate 16 [83, 110, 49, 59, 116, 49, 58, 120]) (wr.alloc (.cells #[.slice (some ⟨m, 0, none⟩) 16 sc, .slice none 0 0] 31))) := Lib.hid (y4_ (ziu_ TM.out hm2 om_ sc) (z6_ (z1_ _ _) _))
              clear TM a1 a2 a3 hgq HWD HM0 HMr
              obtain ⟨F, hF⟩ : ∃ F, F = wr.heap.size := ⟨_, rfl⟩
              rw [← hF]
              rw [← hF] at HF1
              clear hF
              generalize wr.alloc (.cells #[.slice (some ⟨m, 0, none⟩) 16 sc, .slice none 0 0] 31) = wF at *
              have hGG : ∀ W, GL [] wF W → GOk W := fun W hW => x4_ HG0.out (x1_ hW HG1.out si_) si_
              have hSig : ∀ W, GL [] wF W → Calls Tryz.prog 6 #[.string (bs [80, 110, 49, 59])] W fun e w' => e = .returned (.agg #[.int .u8 1, .string (bs [80, 110, 49, 59]), .int .i64 0, .slice none 0 0]) ∧ Below W.heap.size W w' := fun W hW => zbv_ _ W
              have hM : ∀ w, GL [] wF w → w.heap[M]? = some (.cells #[.slice (some ⟨m, 0, none⟩) 17 sc, .slice none 0 0] 31 (0, 0)) := fun W hW => y7_ HM1.out hW si_
              have hF : ∀ w, GL [] wF w → w.heap[F]? = some (.cells #[.slice (some ⟨m, 0, none⟩) 16 sc, .slice none 0 0] 31 (0, 0)) := fun W hW => y7_ HF1.out hW si_
              have hO1 : ∀ W, GL [] wF W → Calls Tryz.prog 14 #[.agg #[.int .u8 1, .string (bs [80, 110, 49, 59]), .int .i64 0, .slice none 0 0], .agg #[.slice (some ⟨m, 0, none⟩) 17 sc, .slice none 0 0], .string (bs [116, 49, 58, 120]), .int .i64 0, .int .i64 0] W fun e W' => e = .returned (.bool true) ∧ Below W.heap.size W W' := fun W hW => zdL_ (.mk 1 [80, 110, 49, 59] 0 []) _ _ (some ⟨m, 0, none⟩) none sc 0 (List.replicate 17 [83, 110, 49, 59, 116, 49, 58, 120]) [] [116, 49, 58, 120] 0 0 si_ ⟨by omega, by omega⟩ ⟨by omega, by omega⟩ W (zaO_ _ si_ (fun _ => True) W) (y4_ T17.out hW) (.inl ⟨none, 0, rfl, rfl⟩) si_ si_ (zeA_ _ de_) si_ (hGG W hW)
              have hO2 : ∀ W, GL [] wF W → Calls Tryz.prog 14 #[.agg #[.int .u8 1, .string (bs [80, 110, 49, 59]), .int .i64 0, .slice none 0 0], .agg #[.slice (some ⟨m, 0, none⟩) 16 sc, .slice none 0 0], .string (bs [116, 49, 58, 120]), .int .i64 0, .int .i64 0] W fun e W' => e = .returned (.bool true) ∧ Below W.heap.size W W' := fun W hW => zdL_ (.mk 1 [80, 110, 49, 59] 0 []) _ _ (some ⟨m, 0, none⟩) none sc 0 (List.replicate 16 [83, 110, 49, 59, 116, 49, 58, 120]) [] [116, 49, 58, 120] 0 0 si_ ⟨by omega, by omega⟩ ⟨by omega, by omega⟩ W (zaO_ _ si_ (fun _ => True) W) (y4_ T16.out hW) (.inl ⟨none, 0, rfl, rfl⟩) si_ si_ (zeA_ _ de_) si_ (hGG W hW)
              have hO3 : ∀ W, GL [] wF W → Calls Tryz.prog 14 #[.agg #[.int .u8 1, .string (bs [80, 110, 49, 59]), .int .i64 0, .slice none 0 0], .agg #[.slice (some ⟨m, 0, none⟩) 16 sc, .slice (some ⟨m, 0, none⟩) 17 sc], .string (bs [116, 49, 58, 120]), .int .i64 0, .int .i64 0] W fun e W' => e = .returned (.bool true) ∧ Below W.heap.size W W' := fun W hW => zdL_ (.mk 1 [80, 110, 49, 59] 0 []) _ _ (some ⟨m, 0, none⟩) (some ⟨m, 0, none⟩) sc sc (List.replicate 16 [83, 110, 49, 59, 116, 49, 58, 120]) (List.replicate 17 [83, 110, 49, 59, 116, 49, 58, 120]) [116, 49, 58, 120] 0 0 si_ ⟨by omega, by omega⟩ ⟨by omega, by omega⟩ W (zaO_ _ si_ (fun _ => True) W) (y4_ T16.out hW) (y4_ T17.out hW) si_ si_ (zeA_ _ de_) (zeA_ _ de_) (hGG W hW)
              have hNd : ∀ (age : Int), -9223372036854775808 ≤ age → age ≤ 9223372036854775807 → ∀ w, GL [] wF w → ∀ g h : Nat, x5_ (.slice (some ⟨g, 0, none⟩) 1 1) [[83, 110, 49, 59, 116, 49, 58, 109]] w → x5_ (.slice (some ⟨h, 0, none⟩) 1 1) [[110, 50, 59]] w → Calls Tryz.prog 18 #[.int .i64 0, .int .i64 1, .int .i64 9, .agg #[.slice (some ⟨g, 0, none⟩) 1 1, .slice (some ⟨h, 0, none⟩) 1 1], .int .i64 age, .int .i64 4] w fun e W' => e = .returned (.bool true) ∧ Below w.heap.size w W' := fun age ha hb W hW g h hs hp => zn0_ 0 1 9 ⟨by omega, by omega⟩ ⟨by omega, by omega⟩ ⟨by omega, by omega⟩ (some ⟨g, 0, none⟩) (some ⟨h, 0, none⟩) 1 1 [[83, 110, 49, 59, 116, 49, 58, 109]] [[110, 50, 59]] age 4 ⟨ha, hb⟩ ⟨by omega, by omega⟩ W hs hp si_ si_ si_ si_ (hGG W hW)
              have hWk : ∀ W, GL [] wF W → Calls Tryz.prog 19 #[] W fun e W' => e = .returned (.bool true) ∧ Below W.heap.size W W' := fun W hW => zak_ W (hGG W hW)
              skip
              refine zey_ (ds := lzDS) (I := fun W => GL [] wF W) (gs := (lzGS M F m sc)) rfl rfl (zcD_ _ (by decide +kernel)) ?_ (by kernel_rfl) lzmono (fun _ _ a b => x1_ b a si_) (zam_ (z1_ _ _)) ?_ ?_
              · intro d hd
                exact Nat.lt_of_lt_of_le (zcE_ (n := 323) lzDS (by decide +kernel) d hd) si_
              · refine ⟨?_, ?_, ?_, ?_, ?_, ?_, ?_, ?_, ?_, ?_, ?_, ?_, ?_, ?_, ?_, ?_, ?_, ?_, ?_, ?_, ?_, ?_, ?_, ?_, ?_, ?_, ?_, ?_, ?_, ?_, ?_, ?_, ?_, trivial⟩
                · with_reducible exact zaX_ (vs := [.string (bs [80, 110, 49, 59])]) rfl zab_ (aC rfl aN) (fun w => rfl) hSig
                · with_reducible exact zo5_ si_ hM
                · with_reducible exact zaX_ (vs := [.agg #[.int .u8 1, .string (bs [80, 110, 49, 59]), .int .i64 0, .slice none 0 0], .agg #[.slice (some ⟨m, 0, none⟩) 17 sc, .slice none 0 0], .string (bs [116, 49, 58, 120]), .int .i64 0, .int .i64 0]) rfl zab_ (aT (dp (j := 0) si_ rfl rfl) (aT (dp (j := 1) si_ rfl rfl) (aC rfl (aC rfl (aC rfl aN))))) (fun w => rfl) hO1
                · with_reducible exact oMvD rfl (dp (j := 2) si_ rfl rfl) zab_
                · with_reducible exact zaX_ (vs := [.string (bs [80, 110, 49, 59])]) rfl (v5_ si_ rfl rfl rfl) (aC rfl aN) (fun w => rfl) hSig
                · with_reducible exact zo6_ si_ rfl si_ hF
                · with_reducible exact zaX_ (vs := [.agg #[.int .u8 1, .string (bs [80, 110, 49, 59]), .int .i64 0, .slice none 0 0], .agg #[.slice (some ⟨m, 0, none⟩) 16 sc, .slice none 0 0], .string (bs [116, 49, 58, 120]), .int .i64 0, .int .i64 0]) rfl (v5_ si_ rfl rfl rfl) (aT (dp (j := 4) si_ rfl rfl) (aT (dp (j := 5) si_ rfl rfl) (aC rfl (aC rfl (aC rfl aN))))) (fun w => rfl) hO2
                · with_reducible exact zdM_ rfl (dp (j := 3) si_ rfl rfl) (dp (j := 6) si_ rfl rfl)
                · with_reducible exact oMvD rfl (dp (j := 7) si_ rfl rfl) zab_
                · with_reducible exact zaX_ (vs := [.string (bs [80, 110, 49, 59])]) rfl (v5_ si_ rfl rfl rfl) (aC rfl aN) (fun w => rfl) hSig
                · with_reducible exact zo7_ si_ rfl si_
                · with_reducible exact zo8_ si_ rfl si_ hF
                · with_reducible exact zo9_ si_ rfl si_
                · with_reducible exact zpa_ si_ rfl si_ hM
                · with_reducible exact zpb_ si_ rfl si_ si_
                · with_reducible exact zaX_ (vs := [.agg #[.int .u8 1, .string (bs [80, 110, 49, 59]), .int .i64 0, .slice none 0 0], .agg #[.slice (some ⟨m, 0, none⟩) 16 sc, .slice (some ⟨m, 0, none⟩) 17 sc], .string (bs [116, 49, 58, 120]), .int .i64 0, .int .i64 0]) rfl (v5_ si_ rfl rfl rfl) (aT (dp (j := 9) si_ rfl rfl) (aT (dp (j := 14) si_ rfl rfl) (aC rfl (aC rfl (aC rfl aN))))) (fun w => rfl) hO3
                · with_reducible exact zdM_ rfl (dp (j := 8) si_ rfl rfl) (dp (j := 15) si_ rfl rfl)
                · with_reducible exact oMvD rfl (dp (j := 16) si_ rfl rfl) zab_
                · exact zpc_ si_ rfl
                · exact zpd_ si_ rfl
                · with_reducible exact zpe_ si_ rfl si_ si_
                · with_reducible exact zpf_ si_ rfl si_ (hNd 9 om_ om_)
                · with_reducible exact zdM_ rfl (dp (j := 17) si_ rfl rfl) (dp (j := 21) si_ rfl rfl)
                · with_reducible exact oMvD rfl (dp (j := 22) si_ rfl rfl) zab_
                · exact zpg_ si_ rfl
                · exact zph_ si_ rfl
                · with_reducible exact zpi_ si_ rfl si_ si_
                · with_reducible exact zpj_ si_ rfl si_ (hNd 8 om_ om_)
                · with_reducible exact zdM_ rfl (dp (j := 23) si_ rfl rfl) (dp (j := 27) si_ rfl rfl)
                · with_reducible exact oMvD rfl (dp (j := 28) si_ rfl rfl) zab_
                · with_reducible exact zaX_ (vs := []) rfl (v5_ si_ rfl rfl rfl) aN (fun w => rfl) hWk
                · with_reducible exact zdM_ rfl (dp (j := 29) si_ rfl rfl) (dp (j := 30) si_ rfl rfl)
                · with_reducible exact lz0 si_
              · intro vs w' hl hv hI
                have hl0 : vs.length = 33 := hl
                clear hl
                obtain ⟨x0, r0, rfl, hl1⟩ := y0_ hl0
                clear hl0
                obtain ⟨x1, r1, rfl, hl2⟩ := y0_ hl1
                clear hl1
                obtain ⟨x2, r2, rfl, hl3⟩ := y0_ hl2
                clear hl2
                obtain ⟨x3, r3, rfl, hl4⟩ := y0_ hl3
                clear hl3
                obtain ⟨x4, r4, rfl, hl5⟩ := y0_ hl4
                clear hl4
                obtain ⟨x5, r5, rfl, hl6⟩ := y0_ hl5
                clear hl5
                obtain ⟨x6, r6, rfl, hl7⟩ := y0_ hl6
                clear hl6
                obtain ⟨x7, r7, rfl, hl8⟩ := y0_ hl7
                clear hl7
                obtain ⟨x8, r8, rfl, hl9⟩ := y0_ hl8
                clear hl8
                obtain ⟨x9, r9, rfl, hl10⟩ := y0_ hl9
                clear hl9
                obtain ⟨x10, r10, rfl, hl11⟩ := y0_ hl10
                clear hl10
                obtain ⟨x11, r11, rfl, hl12⟩ := y0_ hl11
                clear hl11
                obtain ⟨x12, r12, rfl, hl13⟩ := y0_ hl12
                clear hl12
                obtain ⟨x13, r13, rfl, hl14⟩ := y0_ hl13
                clear hl13
                obtain ⟨x14, r14, rfl, hl15⟩ := y0_ hl14
                clear hl14
                obtain ⟨x15, r15, rfl, hl16⟩ := y0_ hl15
                clear hl15
                obtain ⟨x16, r16, rfl, hl17⟩ := y0_ hl16
                clear hl16
                obtain ⟨x17, r17, rfl, hl18⟩ := y0_ hl17
                clear hl17
                obtain ⟨x18, r18, rfl, hl19⟩ := y0_ hl18
                clear hl18
                obtain ⟨x19, r19, rfl, hl20⟩ := y0_ hl19
                clear hl19
                obtain ⟨x20, r20, rfl, hl21⟩ := y0_ hl20
                clear hl20
                obtain ⟨x21, r21, rfl, hl22⟩ := y0_ hl21
                clear hl21
                obtain ⟨x22, r22, rfl, hl23⟩ := y0_ hl22
                clear hl22
                obtain ⟨x23, r23, rfl, hl24⟩ := y0_ hl23
                clear hl23
                obtain ⟨x24, r24, rfl, hl25⟩ := y0_ hl24
                clear hl24
                obtain ⟨x25, r25, rfl, hl26⟩ := y0_ hl25
                clear hl25
                obtain ⟨x26, r26, rfl, hl27⟩ := y0_ hl26
                clear hl26
                obtain ⟨x27, r27, rfl, hl28⟩ := y0_ hl27
                clear hl27
                obtain ⟨x28, r28, rfl, hl29⟩ := y0_ hl28
                clear hl28
                obtain ⟨x29, r29, rfl, hl30⟩ := y0_ hl29
                clear hl29
                obtain ⟨x30, r30, rfl, hl31⟩ := y0_ hl30
                clear hl30
                obtain ⟨x31, r31, rfl, hl32⟩ := y0_ hl31
                clear hl31
                obtain ⟨x32, r32, rfl, hl33⟩ := y0_ hl32
                clear hl32
                have e32 : x32 = .bool true := hv 32 x32 _ si_ rfl
                subst e32
                obtain rfl : r32 = [] := List.eq_nil_of_length_eq_zero hl33
                clear hv
                simp only [lzDS, v2_, List.setIfInBounds_toArray, List.set_cons_zero, List.set_cons_succ]
                have hfin := x1_ hI HG1.out si_
                clear hSig hM hF hO1 hO2 hO3 hNd hWk hGG HF1 HM1 HG1 T17 T16
                go_wp2_with fail
                go_ret
                exact ⟨by first | rfl | (simp; done), x0_ hfin⟩
end Go.Proofs.YtiplnofaejpeoaaGreatDoor
