/- The program: a term is put together; what was asked is remembered. -/
import Derived.Test.YtaaiaahkakkleaaGreatDoorDedB
import Derived.Test.YtaaiaahkakkleaaGreatDoorRegI
set_option maxRecDepth 100000
set_option maxHeartbeats 4000000
set_option linter.unusedSimpArgs false
set_option linter.unusedVariables false
namespace Go.Proofs.YtaaiaahkakkleaaGreatDoor
open Go.RowKit
theorem own_terms {w : World} {base n c : Nat} {ad : Option Addr} {ts : List (List UInt8)} (h : w.ownsRow base 22 1 (.slice ad n c) ts.length (ts.map fun y => .string (bs y))) : TermsAt (.slice ad n c) ts w ∧ n = ts.length ∧ ∀ b o c', Value.slice ad n c = .slice (some ⟨b, o, none⟩) ts.length c' → base ≤ b := by
 have hge : ∀ b o c', Value.slice ad n c = .slice (some ⟨b, o, none⟩) ts.length c' → base ≤ b := by
  intro b o c' e
  rcases h.2 with ⟨_, h2⟩ | ⟨g, cap, cur, h1, h2, _⟩
  · injection e with e1 _ _
    subst e1
    have := h.1
    rcases h with ⟨_, ⟨h3, h4⟩ | ⟨g, cap, cur, h1, h2, _⟩⟩
    · injection h3 with h5; cases h5
    · injection h1 with h5 _ _
      injection h5 with h5
      injection h5 with h6
      omega
  · injection e with e1 _ _
    injection h1 with h3 _ _
    rw [e1] at h3
    injection h3 with h3
    injection h3 with h4
    omega
 have hlen := own_len h
 refine ⟨?_, hlen, hge⟩
 by_cases hz : ts.length = 0
 · exact .inl ⟨ad, c, by rw [hlen, hz], List.eq_nil_of_length_eq_zero hz⟩
 · obtain ⟨g, cap, hv, hgb, hgw, _, _, hcell⟩ := own_cells h om_
   refine .inr ⟨g, 0, cap, hv, hgw, fun i u hi => ?_⟩
   rw [Nat.zero_add]
   exact hcell i _ (by simp [hi])
def AskZ (v : World) (A bh bt : Nat) (S : List UInt8 → Bool) (U : List (List UInt8)) (m : Nat) (f : List UInt8 → Option Bool) (W : World) : Prop :=
 ∃ f', AskAt W A bh bt S f' ∧ Ext U S m f f' ∧ GOk W ∧ GL [bt] v W
theorem cell_glx {w w' : World} {a : Addr} {v : Value} {rs : List Nat} (h : w.cell? a = some v) (hg : GL rs w w') (hr : a.block ∉ rs) : w'.cell? a = some v := by
 have hlt := World.block_lt_of_cell? _ _ h
 obtain ⟨b, o, s⟩ := a
 simp only [World.cell?, hg.block b hlt hr] at h ⊢
 exact h
theorem askZ_post {w v W : World} {A bh bt m : Nat} {S : List UInt8 → Bool} {U : List (List UInt8)} {f : List UInt8 → Option Bool} {b : Bool} {e : Ending} (hg : GL [bt] w v) (h : AskZ v A bh bt S U m f W) (he : e = .returned (.bool b)) : AskPost w A bh bt S U m f b e W := by
 obtain ⟨f', h1, h2, _, h4⟩ := h
 exact ⟨he, f', h1, h2, gl_step h4 hg (fun r hr => .inl hr)⟩
theorem dAgreesZ {U : List (List UInt8)} {n : Nat} (ih : KnN U n) (k j : List UInt8) (hrk : right k = true) (hku : k ∈ U) (hkn : k.length < n) (hrj : right j = true) (hjn : j.length + 1 < n) (hp : right (80 :: j) = true → 80 :: j ∈ U) (m : Nat) (hkm : k.length ≤ m) (hjm : j.length + 1 ≤ m)
  (A bh bt : Nat) (S : List UInt8 → Bool) (f : List UInt8 → Option Bool) (v : World) (hT : Tld U S m f) (W : World) (hZ : AskZ v A bh bt S U m f W) :
  Calls Tryz.prog 92 #[.pointer (some ⟨A, 0, none⟩), .string (bs k), .string (bs j)] W fun e W' => e = .returned (.bool (agrB (kn S) k j)) ∧ AskZ v A bh bt S U m f W' ∧ GL [bt] W W' := by
 obtain ⟨f', h1, h2, h3, h4⟩ := hZ
 refine (dAgrees ih k j hrk hku hkn hrj hjn hp m hkm hjm A bh bt S f' W h3 h1 (tld_ext hT h2)).mono ?_
 rintro e W' ⟨rfl, f5, hA5, hE5, hg5⟩
 exact ⟨rfl, ⟨f5, hA5, ext_trans h2 hE5, gok_bt h3 hg5 hA5.low, gl_step hg5 h4 (fun r hr => .inl hr)⟩, hg5⟩
theorem makes_some (K : List UInt8 → Bool) {t : List UInt8} {s : Sh} (hx : rt t = some s) : makesB K t = (if s.op.toNat = 110 then false else if s.op.toNat = 88 then agrB K (s.kids.getD 0 []) (s.kids.getD 1 []) || agrB K (s.kids.getD 1 []) (s.kids.getD 0 []) else if s.op.toNat = 80 ∨ s.op.toNat = 87 ∨ s.op.toNat = 76 then (match secT t with | some u => K u | none => false) || (s.op.toNat != 80 && s.kids.all K) else s.kids.all K) := by
 unfold makesB
 rw [hx]
 cases secT t <;> rfl
theorem yielded_is {ops : Array Oper} {tmps : Array Value} {j d : Nat} {b : Bool} (h : ops[j]?.bind (·.dst) = some d) (e : tmps[d]? = some (.bool b)) : yielded ops tmps j = some b := by
 unfold yielded
 rw [h]
 simp [e]
def GV (gs : List (Option Value)) (i : Nat) (v : Value) : Prop := ∀ u, gs[i]? = some (some u) → v = u
theorem gv_of {gs : List (Option Value)} {i : Nat} {v u : Value} (h : gs[i]? = some (some u)) (e : v = u) : GV gs i v := fun x hx => by rw [h] at hx; injection hx with hx; injection hx with hx; rw [e, hx]
theorem gv_none {gs : List (Option Value)} {i : Nat} {v : Value} (h : gs[i]? = some none) : GV gs i v := fun x hx => by rw [h] at hx; injection hx with hx; cases hx
def m6tDS : List (Option Nat) := [some 20, some 21, some 22, some 23, some 24, some 25, some 26, some 27, some 28, some 29, some 30, some 31, some 32, some 33, some 34, some 35, some 36, some 37, some 38, some 39, some 40, some 41, some 4]
def m6tGS (A B g o kc : Nat) (a b : List UInt8) (z2 : Bool) : List (Option Value) := [some (.pointer (some ⟨A, 0, none⟩)), some (.pointer (some ⟨B, 3, none⟩)), some (.slice (some ⟨g, o, none⟩) 2 kc), some (.pointer (some ⟨g, o, none⟩)), some (.string (bs a)), some (.pointer (some ⟨B, 3, none⟩)), some (.slice (some ⟨g, o, none⟩) 2 kc), some (.pointer (some ⟨g, o + 1, none⟩)), some (.string (bs b)), some (.bool true), some (.bool true), none, none, none, none, none, none, none, none, none, none, some (.bool true), some (.bool true)]
section
variable {ops : Array Oper} {Q : Exit → Act → World → Prop} {a0 : Act} {I : World → Prop} {af : Array Edge} {ty : Nat} {pos : String} {at_ : Array TypeId} {A B g o kc : Nat} {a b : List UInt8} {z2 : Bool}
theorem m6t20 (o0 : a0.tmps[0]? = some (.pointer (some ⟨A, 0, none⟩))) : StepI Tryz.prog ops Q a0 m6tDS I (GV (m6tGS A B g o kc a b z2)) 0 { dst := some 20, op := .move (.tmp 0), type := ty, pos := pos, after := af, guard := none } := by
 intro a w hout hI hdep K hK
 rw [if_pos (by simp [Region.wanted])]
 have o0w := (hout 0 de_).trans o0
 clear hout hdep
 clear o0
 go_simp
 exact hK _ _ (gv_of rfl rs_) hI
theorem m6t21 (o5 : a0.tmps[5]? = some (.pointer (some ⟨B, 0, none⟩))) : StepI Tryz.prog ops Q a0 m6tDS I (GV (m6tGS A B g o kc a b z2)) 1 { dst := some 21, op := .fieldAddr 98 (.tmp 5) 3, type := ty, pos := pos, after := af, guard := none } := by
 intro a w hout hI hdep K hK
 rw [if_pos (by simp [Region.wanted])]
 have o5w := (hout 5 de_).trans o5
 clear hout hdep
 clear o5
 go_simp
 exact hK _ _ (gv_of rfl rs_) hI
theorem m6t22 (h21 : (⟨1, .data⟩ : Edge) ∈ af.toList) (hL : ∀ w, I w → w.cell? ⟨B, 3, none⟩ = some (.slice (some ⟨g, o, none⟩) 2 kc)) : StepI Tryz.prog ops Q a0 m6tDS I (GV (m6tGS A B g o kc a b z2)) 2 { dst := some 22, op := .load 31 (.tmp 21), type := ty, pos := pos, after := af, guard := none } := by
 intro a w hout hI hdep K hK
 rw [if_pos (by simp [Region.wanted])]
 obtain ⟨v21, g21, e21⟩ := hdep ⟨1, .data⟩ h21 rfl
 have e21 := e21 21 rfl
 have g21 := g21 _ rfl
 subst g21
 have hLw := hL w hI
 clear hout hdep
 go_simp
 exact hK _ _ (gv_of rfl rs_) hI
theorem m6t23 (h22 : (⟨2, .data⟩ : Edge) ∈ af.toList) : StepI Tryz.prog ops Q a0 m6tDS I (GV (m6tGS A B g o kc a b z2)) 3 { dst := some 23, op := .indexAddr 31 (.tmp 22) (.const (.int .i64 0)), type := ty, pos := pos, after := af, guard := none } := by
 intro a w hout hI hdep K hK
 rw [if_pos (by simp [Region.wanted])]
 obtain ⟨v22, g22, e22⟩ := hdep ⟨2, .data⟩ h22 rfl
 have e22 := e22 22 rfl
 have g22 := g22 _ rfl
 subst g22
 clear hout hdep
 go_simp
 exact hK _ _ (gv_of rfl rs_) hI
theorem m6t24 (h23 : (⟨3, .data⟩ : Edge) ∈ af.toList) (hL : ∀ w, I w → w.cell? ⟨g, o, none⟩ = some (.string (bs a))) : StepI Tryz.prog ops Q a0 m6tDS I (GV (m6tGS A B g o kc a b z2)) 4 { dst := some 24, op := .load 22 (.tmp 23), type := ty, pos := pos, after := af, guard := none } := by
 intro a w hout hI hdep K hK
 rw [if_pos (by simp [Region.wanted])]
 obtain ⟨v23, g23, e23⟩ := hdep ⟨3, .data⟩ h23 rfl
 have e23 := e23 23 rfl
 have g23 := g23 _ rfl
 subst g23
 have hLw := hL w hI
 clear hout hdep
 go_simp
 exact hK _ _ (gv_of rfl rs_) hI
theorem m6t25 (o5 : a0.tmps[5]? = some (.pointer (some ⟨B, 0, none⟩))) : StepI Tryz.prog ops Q a0 m6tDS I (GV (m6tGS A B g o kc a b z2)) 5 { dst := some 25, op := .fieldAddr 98 (.tmp 5) 3, type := ty, pos := pos, after := af, guard := none } := by
 intro a w hout hI hdep K hK
 rw [if_pos (by simp [Region.wanted])]
 have o5w := (hout 5 de_).trans o5
 clear hout hdep
 clear o5
 go_simp
 exact hK _ _ (gv_of rfl rs_) hI
theorem m6t26 (h25 : (⟨5, .data⟩ : Edge) ∈ af.toList) (hL : ∀ w, I w → w.cell? ⟨B, 3, none⟩ = some (.slice (some ⟨g, o, none⟩) 2 kc)) : StepI Tryz.prog ops Q a0 m6tDS I (GV (m6tGS A B g o kc a b z2)) 6 { dst := some 26, op := .load 31 (.tmp 25), type := ty, pos := pos, after := af, guard := none } := by
 intro a w hout hI hdep K hK
 rw [if_pos (by simp [Region.wanted])]
 obtain ⟨v25, g25, e25⟩ := hdep ⟨5, .data⟩ h25 rfl
 have e25 := e25 25 rfl
 have g25 := g25 _ rfl
 subst g25
 have hLw := hL w hI
 clear hout hdep
 go_simp
 exact hK _ _ (gv_of rfl rs_) hI
theorem m6t27 (h26 : (⟨6, .data⟩ : Edge) ∈ af.toList) : StepI Tryz.prog ops Q a0 m6tDS I (GV (m6tGS A B g o kc a b z2)) 7 { dst := some 27, op := .indexAddr 31 (.tmp 26) (.const (.int .i64 1)), type := ty, pos := pos, after := af, guard := none } := by
 intro a w hout hI hdep K hK
 rw [if_pos (by simp [Region.wanted])]
 obtain ⟨v26, g26, e26⟩ := hdep ⟨6, .data⟩ h26 rfl
 have e26 := e26 26 rfl
 have g26 := g26 _ rfl
 subst g26
 clear hout hdep
 go_simp
 exact hK _ _ (gv_of rfl rs_) hI
theorem m6t28 (h27 : (⟨7, .data⟩ : Edge) ∈ af.toList) (hL : ∀ w, I w → w.cell? ⟨g, o + 1, none⟩ = some (.string (bs b))) : StepI Tryz.prog ops Q a0 m6tDS I (GV (m6tGS A B g o kc a b z2)) 8 { dst := some 28, op := .load 22 (.tmp 27), type := ty, pos := pos, after := af, guard := none } := by
 intro a w hout hI hdep K hK
 rw [if_pos (by simp [Region.wanted])]
 obtain ⟨v27, g27, e27⟩ := hdep ⟨7, .data⟩ h27 rfl
 have e27 := e27 27 rfl
 have g27 := g27 _ rfl
 subst g27
 have hLw := hL w hI
 clear hout hdep
 go_simp
 exact hK _ _ (gv_of rfl rs_) hI
theorem m6t29 (h20 : (⟨0, .data⟩ : Edge) ∈ af.toList) (h24 : (⟨4, .data⟩ : Edge) ∈ af.toList) (h28 : (⟨8, .data⟩ : Edge) ∈ af.toList) (hC : ∀ w, I w → Calls Tryz.prog 92 #[.pointer (some ⟨A, 0, none⟩), .string (bs a), .string (bs b)] w fun e w' => e = .returned (.bool true) ∧ I w') : StepI Tryz.prog ops Q a0 m6tDS I (GV (m6tGS A B g o kc a b z2)) 9 { dst := some 29, op := .call { callee := .value (.func 92), args := #[.tmp 20, .tmp 24, .tmp 28], argTypes := at_ }, type := ty, pos := pos, after := af, guard := none } := by
 intro a w hout hI hdep K hK
 rw [if_pos (by simp [Region.wanted])]
 obtain ⟨v20, g20, e20⟩ := hdep ⟨0, .data⟩ h20 rfl
 have e20 := e20 20 rfl
 have g20 := g20 _ rfl
 subst g20
 obtain ⟨v24, g24, e24⟩ := hdep ⟨4, .data⟩ h24 rfl
 have e24 := e24 24 rfl
 have g24 := g24 _ rfl
 subst g24
 obtain ⟨v28, g28, e28⟩ := hdep ⟨8, .data⟩ h28 rfl
 have e28 := e28 28 rfl
 have g28 := g28 _ rfl
 subst g28
 clear hout hdep
 go_simp
 refine (hC w hI).mono ?_
 rintro e w1 ⟨rfl, hI1⟩
 exact hK _ _ (gv_of rfl rfl) hI1
theorem m6t30 (h29 : (⟨9, .data⟩ : Edge) ∈ af.toList) : StepI Tryz.prog ops Q a0 m6tDS I (GV (m6tGS A B g o kc a b z2)) 10 { dst := some 30, op := .move (.tmp 29), type := ty, pos := pos, after := af, guard := none } := by
 intro a w hout hI hdep K hK
 rw [if_pos (by simp [Region.wanted])]
 obtain ⟨v29, g29, e29⟩ := hdep ⟨9, .data⟩ h29 rfl
 have e29 := e29 29 rfl
 have g29 := g29 _ rfl
 subst g29
 clear hout hdep
 go_simp
 exact hK _ _ (gv_of rfl rs_) hI
theorem m6t31 (hg : (⟨10, .guard⟩ : Edge) ∈ af.toList) (hgo : ops[10]?.bind (·.dst) = some 30) : StepI Tryz.prog ops Q a0 m6tDS I (GV (m6tGS A B g o kc a b z2)) 11 { dst := some 31, op := .move (.tmp 0), type := ty, pos := pos, after := af, guard := some (10, false) } := by
 intro a w hout hI hdep K hK
 obtain ⟨vg, gg, eg⟩ := hdep ⟨10, .guard⟩ hg rfl
 have eg := eg 30 rfl
 have gg := gg _ rfl
 subst gg
 have hy := yielded_is hgo eg
 rw [if_neg (by simp [Region.wanted, hy])]
 exact hK _ _ (gv_none rfl) hI
theorem m6t32 (hg : (⟨10, .guard⟩ : Edge) ∈ af.toList) (hgo : ops[10]?.bind (·.dst) = some 30) : StepI Tryz.prog ops Q a0 m6tDS I (GV (m6tGS A B g o kc a b z2)) 12 { dst := some 32, op := .fieldAddr 98 (.tmp 5) 3, type := ty, pos := pos, after := af, guard := some (10, false) } := by
 intro a w hout hI hdep K hK
 obtain ⟨vg, gg, eg⟩ := hdep ⟨10, .guard⟩ hg rfl
 have eg := eg 30 rfl
 have gg := gg _ rfl
 subst gg
 have hy := yielded_is hgo eg
 rw [if_neg (by simp [Region.wanted, hy])]
 exact hK _ _ (gv_none rfl) hI
theorem m6t33 (hg : (⟨10, .guard⟩ : Edge) ∈ af.toList) (hgo : ops[10]?.bind (·.dst) = some 30) : StepI Tryz.prog ops Q a0 m6tDS I (GV (m6tGS A B g o kc a b z2)) 13 { dst := some 33, op := .load 31 (.tmp 32), type := ty, pos := pos, after := af, guard := some (10, false) } := by
 intro a w hout hI hdep K hK
 obtain ⟨vg, gg, eg⟩ := hdep ⟨10, .guard⟩ hg rfl
 have eg := eg 30 rfl
 have gg := gg _ rfl
 subst gg
 have hy := yielded_is hgo eg
 rw [if_neg (by simp [Region.wanted, hy])]
 exact hK _ _ (gv_none rfl) hI
theorem m6t34 (hg : (⟨10, .guard⟩ : Edge) ∈ af.toList) (hgo : ops[10]?.bind (·.dst) = some 30) : StepI Tryz.prog ops Q a0 m6tDS I (GV (m6tGS A B g o kc a b z2)) 14 { dst := some 34, op := .indexAddr 31 (.tmp 33) (.const (.int .i64 1)), type := ty, pos := pos, after := af, guard := some (10, false) } := by
 intro a w hout hI hdep K hK
 obtain ⟨vg, gg, eg⟩ := hdep ⟨10, .guard⟩ hg rfl
 have eg := eg 30 rfl
 have gg := gg _ rfl
 subst gg
 have hy := yielded_is hgo eg
 rw [if_neg (by simp [Region.wanted, hy])]
 exact hK _ _ (gv_none rfl) hI
theorem m6t35 (hg : (⟨10, .guard⟩ : Edge) ∈ af.toList) (hgo : ops[10]?.bind (·.dst) = some 30) : StepI Tryz.prog ops Q a0 m6tDS I (GV (m6tGS A B g o kc a b z2)) 15 { dst := some 35, op := .load 22 (.tmp 34), type := ty, pos := pos, after := af, guard := some (10, false) } := by
 intro a w hout hI hdep K hK
 obtain ⟨vg, gg, eg⟩ := hdep ⟨10, .guard⟩ hg rfl
 have eg := eg 30 rfl
 have gg := gg _ rfl
 subst gg
 have hy := yielded_is hgo eg
 rw [if_neg (by simp [Region.wanted, hy])]
 exact hK _ _ (gv_none rfl) hI
theorem m6t36 (hg : (⟨10, .guard⟩ : Edge) ∈ af.toList) (hgo : ops[10]?.bind (·.dst) = some 30) : StepI Tryz.prog ops Q a0 m6tDS I (GV (m6tGS A B g o kc a b z2)) 16 { dst := some 36, op := .fieldAddr 98 (.tmp 5) 3, type := ty, pos := pos, after := af, guard := some (10, false) } := by
 intro a w hout hI hdep K hK
 obtain ⟨vg, gg, eg⟩ := hdep ⟨10, .guard⟩ hg rfl
 have eg := eg 30 rfl
 have gg := gg _ rfl
 subst gg
 have hy := yielded_is hgo eg
 rw [if_neg (by simp [Region.wanted, hy])]
 exact hK _ _ (gv_none rfl) hI
theorem m6t37 (hg : (⟨10, .guard⟩ : Edge) ∈ af.toList) (hgo : ops[10]?.bind (·.dst) = some 30) : StepI Tryz.prog ops Q a0 m6tDS I (GV (m6tGS A B g o kc a b z2)) 17 { dst := some 37, op := .load 31 (.tmp 36), type := ty, pos := pos, after := af, guard := some (10, false) } := by
 intro a w hout hI hdep K hK
 obtain ⟨vg, gg, eg⟩ := hdep ⟨10, .guard⟩ hg rfl
 have eg := eg 30 rfl
 have gg := gg _ rfl
 subst gg
 have hy := yielded_is hgo eg
 rw [if_neg (by simp [Region.wanted, hy])]
 exact hK _ _ (gv_none rfl) hI
theorem m6t38 (hg : (⟨10, .guard⟩ : Edge) ∈ af.toList) (hgo : ops[10]?.bind (·.dst) = some 30) : StepI Tryz.prog ops Q a0 m6tDS I (GV (m6tGS A B g o kc a b z2)) 18 { dst := some 38, op := .indexAddr 31 (.tmp 37) (.const (.int .i64 0)), type := ty, pos := pos, after := af, guard := some (10, false) } := by
 intro a w hout hI hdep K hK
 obtain ⟨vg, gg, eg⟩ := hdep ⟨10, .guard⟩ hg rfl
 have eg := eg 30 rfl
 have gg := gg _ rfl
 subst gg
 have hy := yielded_is hgo eg
 rw [if_neg (by simp [Region.wanted, hy])]
 exact hK _ _ (gv_none rfl) hI
theorem m6t39 (hg : (⟨10, .guard⟩ : Edge) ∈ af.toList) (hgo : ops[10]?.bind (·.dst) = some 30) : StepI Tryz.prog ops Q a0 m6tDS I (GV (m6tGS A B g o kc a b z2)) 19 { dst := some 39, op := .load 22 (.tmp 38), type := ty, pos := pos, after := af, guard := some (10, false) } := by
 intro a w hout hI hdep K hK
 obtain ⟨vg, gg, eg⟩ := hdep ⟨10, .guard⟩ hg rfl
 have eg := eg 30 rfl
 have gg := gg _ rfl
 subst gg
 have hy := yielded_is hgo eg
 rw [if_neg (by simp [Region.wanted, hy])]
 exact hK _ _ (gv_none rfl) hI
theorem m6t40 (hg : (⟨10, .guard⟩ : Edge) ∈ af.toList) (hgo : ops[10]?.bind (·.dst) = some 30) : StepI Tryz.prog ops Q a0 m6tDS I (GV (m6tGS A B g o kc a b z2)) 20 { dst := some 40, op := .call { callee := .value (.func 92), args := #[.tmp 31, .tmp 35, .tmp 39], argTypes := at_ }, type := ty, pos := pos, after := af, guard := some (10, false) } := by
 intro a w hout hI hdep K hK
 obtain ⟨vg, gg, eg⟩ := hdep ⟨10, .guard⟩ hg rfl
 have eg := eg 30 rfl
 have gg := gg _ rfl
 subst gg
 have hy := yielded_is hgo eg
 rw [if_neg (by simp [Region.wanted, hy])]
 exact hK _ _ (gv_none rfl) hI
theorem m6t41 (h30 : (⟨10, .data⟩ : Edge) ∈ af.toList) : StepI Tryz.prog ops Q a0 m6tDS I (GV (m6tGS A B g o kc a b z2)) 21 { dst := some 41, op := .pick (.tmp 30) (.const (.bool true)) (.tmp 40), type := ty, pos := pos, after := af, guard := none } := by
 intro a w hout hI hdep K hK
 rw [if_pos (by simp [Region.wanted])]
 obtain ⟨v30, g30, e30⟩ := hdep ⟨10, .data⟩ h30 rfl
 have e30 := e30 30 rfl
 have g30 := g30 _ rfl
 subst g30
 clear hout hdep
 go_simp
 exact hK _ _ (gv_of rfl rs_) hI
theorem m6t4 (h41 : (⟨21, .data⟩ : Edge) ∈ af.toList) : StepI Tryz.prog ops Q a0 m6tDS I (GV (m6tGS A B g o kc a b z2)) 22 { dst := some 4, op := .assign (.tmp 41), type := ty, pos := pos, after := af, guard := none } := by
 intro a w hout hI hdep K hK
 rw [if_pos (by simp [Region.wanted])]
 obtain ⟨v41, g41, e41⟩ := hdep ⟨21, .data⟩ h41 rfl
 have e41 := e41 41 rfl
 have g41 := g41 _ rfl
 subst g41
 clear hout hdep
 go_simp
 exact hK _ _ (gv_of rfl rs_) hI
end
def m6fDS : List (Option Nat) := [some 20, some 21, some 22, some 23, some 24, some 25, some 26, some 27, some 28, some 29, some 30, some 31, some 32, some 33, some 34, some 35, some 36, some 37, some 38, some 39, some 40, some 41, some 4]
def m6fGS (A B g o kc : Nat) (a b : List UInt8) (z2 : Bool) : List (Option Value) := [some (.pointer (some ⟨A, 0, none⟩)), some (.pointer (some ⟨B, 3, none⟩)), some (.slice (some ⟨g, o, none⟩) 2 kc), some (.pointer (some ⟨g, o, none⟩)), some (.string (bs a)), some (.pointer (some ⟨B, 3, none⟩)), some (.slice (some ⟨g, o, none⟩) 2 kc), some (.pointer (some ⟨g, o + 1, none⟩)), some (.string (bs b)), some (.bool false), some (.bool false), some (.pointer (some ⟨A, 0, none⟩)), some (.pointer (some ⟨B, 3, none⟩)), some (.slice (some ⟨g, o, none⟩) 2 kc), some (.pointer (some ⟨g, o + 1, none⟩)), some (.string (bs b)), some (.pointer (some ⟨B, 3, none⟩)), some (.slice (some ⟨g, o, none⟩) 2 kc), some (.pointer (some ⟨g, o, none⟩)), some (.string (bs a)), some (.bool z2), some (.bool z2), some (.bool z2)]
section
variable {ops : Array Oper} {Q : Exit → Act → World → Prop} {a0 : Act} {I : World → Prop} {af : Array Edge} {ty : Nat} {pos : String} {at_ : Array TypeId} {A B g o kc : Nat} {a b : List UInt8} {z2 : Bool}
theorem m6f20 (o0 : a0.tmps[0]? = some (.pointer (some ⟨A, 0, none⟩))) : StepI Tryz.prog ops Q a0 m6fDS I (GV (m6fGS A B g o kc a b z2)) 0 { dst := some 20, op := .move (.tmp 0), type := ty, pos := pos, after := af, guard := none } := by
 intro a w hout hI hdep K hK
 rw [if_pos (by simp [Region.wanted])]
 have o0w := (hout 0 de_).trans o0
 clear hout hdep
 clear o0
 go_simp
 exact hK _ _ (gv_of rfl rs_) hI
theorem m6f21 (o5 : a0.tmps[5]? = some (.pointer (some ⟨B, 0, none⟩))) : StepI Tryz.prog ops Q a0 m6fDS I (GV (m6fGS A B g o kc a b z2)) 1 { dst := some 21, op := .fieldAddr 98 (.tmp 5) 3, type := ty, pos := pos, after := af, guard := none } := by
 intro a w hout hI hdep K hK
 rw [if_pos (by simp [Region.wanted])]
 have o5w := (hout 5 de_).trans o5
 clear hout hdep
 clear o5
 go_simp
 exact hK _ _ (gv_of rfl rs_) hI
theorem m6f22 (h21 : (⟨1, .data⟩ : Edge) ∈ af.toList) (hL : ∀ w, I w → w.cell? ⟨B, 3, none⟩ = some (.slice (some ⟨g, o, none⟩) 2 kc)) : StepI Tryz.prog ops Q a0 m6fDS I (GV (m6fGS A B g o kc a b z2)) 2 { dst := some 22, op := .load 31 (.tmp 21), type := ty, pos := pos, after := af, guard := none } := by
 intro a w hout hI hdep K hK
 rw [if_pos (by simp [Region.wanted])]
 obtain ⟨v21, g21, e21⟩ := hdep ⟨1, .data⟩ h21 rfl
 have e21 := e21 21 rfl
 have g21 := g21 _ rfl
 subst g21
 have hLw := hL w hI
 clear hout hdep
 go_simp
 exact hK _ _ (gv_of rfl rs_) hI
theorem m6f23 (h22 : (⟨2, .data⟩ : Edge) ∈ af.toList) : StepI Tryz.prog ops Q a0 m6fDS I (GV (m6fGS A B g o kc a b z2)) 3 { dst := some 23, op := .indexAddr 31 (.tmp 22) (.const (.int .i64 0)), type := ty, pos := pos, after := af, guard := none } := by
 intro a w hout hI hdep K hK
 rw [if_pos (by simp [Region.wanted])]
 obtain ⟨v22, g22, e22⟩ := hdep ⟨2, .data⟩ h22 rfl
 have e22 := e22 22 rfl
 have g22 := g22 _ rfl
 subst g22
 clear hout hdep
 go_simp
 exact hK _ _ (gv_of rfl rs_) hI
theorem m6f24 (h23 : (⟨3, .data⟩ : Edge) ∈ af.toList) (hL : ∀ w, I w → w.cell? ⟨g, o, none⟩ = some (.string (bs a))) : StepI Tryz.prog ops Q a0 m6fDS I (GV (m6fGS A B g o kc a b z2)) 4 { dst := some 24, op := .load 22 (.tmp 23), type := ty, pos := pos, after := af, guard := none } := by
 intro a w hout hI hdep K hK
 rw [if_pos (by simp [Region.wanted])]
 obtain ⟨v23, g23, e23⟩ := hdep ⟨3, .data⟩ h23 rfl
 have e23 := e23 23 rfl
 have g23 := g23 _ rfl
 subst g23
 have hLw := hL w hI
 clear hout hdep
 go_simp
 exact hK _ _ (gv_of rfl rs_) hI
theorem m6f25 (o5 : a0.tmps[5]? = some (.pointer (some ⟨B, 0, none⟩))) : StepI Tryz.prog ops Q a0 m6fDS I (GV (m6fGS A B g o kc a b z2)) 5 { dst := some 25, op := .fieldAddr 98 (.tmp 5) 3, type := ty, pos := pos, after := af, guard := none } := by
 intro a w hout hI hdep K hK
 rw [if_pos (by simp [Region.wanted])]
 have o5w := (hout 5 de_).trans o5
 clear hout hdep
 clear o5
 go_simp
 exact hK _ _ (gv_of rfl rs_) hI
theorem m6f26 (h25 : (⟨5, .data⟩ : Edge) ∈ af.toList) (hL : ∀ w, I w → w.cell? ⟨B, 3, none⟩ = some (.slice (some ⟨g, o, none⟩) 2 kc)) : StepI Tryz.prog ops Q a0 m6fDS I (GV (m6fGS A B g o kc a b z2)) 6 { dst := some 26, op := .load 31 (.tmp 25), type := ty, pos := pos, after := af, guard := none } := by
 intro a w hout hI hdep K hK
 rw [if_pos (by simp [Region.wanted])]
 obtain ⟨v25, g25, e25⟩ := hdep ⟨5, .data⟩ h25 rfl
 have e25 := e25 25 rfl
 have g25 := g25 _ rfl
 subst g25
 have hLw := hL w hI
 clear hout hdep
 go_simp
 exact hK _ _ (gv_of rfl rs_) hI
theorem m6f27 (h26 : (⟨6, .data⟩ : Edge) ∈ af.toList) : StepI Tryz.prog ops Q a0 m6fDS I (GV (m6fGS A B g o kc a b z2)) 7 { dst := some 27, op := .indexAddr 31 (.tmp 26) (.const (.int .i64 1)), type := ty, pos := pos, after := af, guard := none } := by
 intro a w hout hI hdep K hK
 rw [if_pos (by simp [Region.wanted])]
 obtain ⟨v26, g26, e26⟩ := hdep ⟨6, .data⟩ h26 rfl
 have e26 := e26 26 rfl
 have g26 := g26 _ rfl
 subst g26
 clear hout hdep
 go_simp
 exact hK _ _ (gv_of rfl rs_) hI
theorem m6f28 (h27 : (⟨7, .data⟩ : Edge) ∈ af.toList) (hL : ∀ w, I w → w.cell? ⟨g, o + 1, none⟩ = some (.string (bs b))) : StepI Tryz.prog ops Q a0 m6fDS I (GV (m6fGS A B g o kc a b z2)) 8 { dst := some 28, op := .load 22 (.tmp 27), type := ty, pos := pos, after := af, guard := none } := by
 intro a w hout hI hdep K hK
 rw [if_pos (by simp [Region.wanted])]
 obtain ⟨v27, g27, e27⟩ := hdep ⟨7, .data⟩ h27 rfl
 have e27 := e27 27 rfl
 have g27 := g27 _ rfl
 subst g27
 have hLw := hL w hI
 clear hout hdep
 go_simp
 exact hK _ _ (gv_of rfl rs_) hI
theorem m6f29 (h20 : (⟨0, .data⟩ : Edge) ∈ af.toList) (h24 : (⟨4, .data⟩ : Edge) ∈ af.toList) (h28 : (⟨8, .data⟩ : Edge) ∈ af.toList) (hC : ∀ w, I w → Calls Tryz.prog 92 #[.pointer (some ⟨A, 0, none⟩), .string (bs a), .string (bs b)] w fun e w' => e = .returned (.bool false) ∧ I w') : StepI Tryz.prog ops Q a0 m6fDS I (GV (m6fGS A B g o kc a b z2)) 9 { dst := some 29, op := .call { callee := .value (.func 92), args := #[.tmp 20, .tmp 24, .tmp 28], argTypes := at_ }, type := ty, pos := pos, after := af, guard := none } := by
 intro a w hout hI hdep K hK
 rw [if_pos (by simp [Region.wanted])]
 obtain ⟨v20, g20, e20⟩ := hdep ⟨0, .data⟩ h20 rfl
 have e20 := e20 20 rfl
 have g20 := g20 _ rfl
 subst g20
 obtain ⟨v24, g24, e24⟩ := hdep ⟨4, .data⟩ h24 rfl
 have e24 := e24 24 rfl
 have g24 := g24 _ rfl
 subst g24
 obtain ⟨v28, g28, e28⟩ := hdep ⟨8, .data⟩ h28 rfl
 have e28 := e28 28 rfl
 have g28 := g28 _ rfl
 subst g28
 clear hout hdep
 go_simp
 refine (hC w hI).mono ?_
 rintro e w1 ⟨rfl, hI1⟩
 exact hK _ _ (gv_of rfl rfl) hI1
theorem m6f30 (h29 : (⟨9, .data⟩ : Edge) ∈ af.toList) : StepI Tryz.prog ops Q a0 m6fDS I (GV (m6fGS A B g o kc a b z2)) 10 { dst := some 30, op := .move (.tmp 29), type := ty, pos := pos, after := af, guard := none } := by
 intro a w hout hI hdep K hK
 rw [if_pos (by simp [Region.wanted])]
 obtain ⟨v29, g29, e29⟩ := hdep ⟨9, .data⟩ h29 rfl
 have e29 := e29 29 rfl
 have g29 := g29 _ rfl
 subst g29
 clear hout hdep
 go_simp
 exact hK _ _ (gv_of rfl rs_) hI
theorem m6f31 (hg : (⟨10, .guard⟩ : Edge) ∈ af.toList) (hgo : ops[10]?.bind (·.dst) = some 30) (o0 : a0.tmps[0]? = some (.pointer (some ⟨A, 0, none⟩))) : StepI Tryz.prog ops Q a0 m6fDS I (GV (m6fGS A B g o kc a b z2)) 11 { dst := some 31, op := .move (.tmp 0), type := ty, pos := pos, after := af, guard := some (10, false) } := by
 intro a w hout hI hdep K hK
 obtain ⟨vg, gg, eg⟩ := hdep ⟨10, .guard⟩ hg rfl
 have eg := eg 30 rfl
 have gg := gg _ rfl
 subst gg
 have hy := yielded_is hgo eg
 rw [if_pos (by simp [Region.wanted, hy])]
 have o0w := (hout 0 de_).trans o0
 clear hout hdep hy
 clear o0
 go_simp
 exact hK _ _ (gv_of rfl rs_) hI
theorem m6f32 (hg : (⟨10, .guard⟩ : Edge) ∈ af.toList) (hgo : ops[10]?.bind (·.dst) = some 30) (o5 : a0.tmps[5]? = some (.pointer (some ⟨B, 0, none⟩))) : StepI Tryz.prog ops Q a0 m6fDS I (GV (m6fGS A B g o kc a b z2)) 12 { dst := some 32, op := .fieldAddr 98 (.tmp 5) 3, type := ty, pos := pos, after := af, guard := some (10, false) } := by
 intro a w hout hI hdep K hK
 obtain ⟨vg, gg, eg⟩ := hdep ⟨10, .guard⟩ hg rfl
 have eg := eg 30 rfl
 have gg := gg _ rfl
 subst gg
 have hy := yielded_is hgo eg
 rw [if_pos (by simp [Region.wanted, hy])]
 have o5w := (hout 5 de_).trans o5
 clear hout hdep hy
 clear o5
 go_simp
 exact hK _ _ (gv_of rfl rs_) hI
theorem m6f33 (hg : (⟨10, .guard⟩ : Edge) ∈ af.toList) (hgo : ops[10]?.bind (·.dst) = some 30) (h32 : (⟨12, .data⟩ : Edge) ∈ af.toList) (hL : ∀ w, I w → w.cell? ⟨B, 3, none⟩ = some (.slice (some ⟨g, o, none⟩) 2 kc)) : StepI Tryz.prog ops Q a0 m6fDS I (GV (m6fGS A B g o kc a b z2)) 13 { dst := some 33, op := .load 31 (.tmp 32), type := ty, pos := pos, after := af, guard := some (10, false) } := by
 intro a w hout hI hdep K hK
 obtain ⟨vg, gg, eg⟩ := hdep ⟨10, .guard⟩ hg rfl
 have eg := eg 30 rfl
 have gg := gg _ rfl
 subst gg
 have hy := yielded_is hgo eg
 rw [if_pos (by simp [Region.wanted, hy])]
 obtain ⟨v32, g32, e32⟩ := hdep ⟨12, .data⟩ h32 rfl
 have e32 := e32 32 rfl
 have g32 := g32 _ rfl
 subst g32
 have hLw := hL w hI
 clear hout hdep hy
 go_simp
 exact hK _ _ (gv_of rfl rs_) hI
theorem m6f34 (hg : (⟨10, .guard⟩ : Edge) ∈ af.toList) (hgo : ops[10]?.bind (·.dst) = some 30) (h33 : (⟨13, .data⟩ : Edge) ∈ af.toList) : StepI Tryz.prog ops Q a0 m6fDS I (GV (m6fGS A B g o kc a b z2)) 14 { dst := some 34, op := .indexAddr 31 (.tmp 33) (.const (.int .i64 1)), type := ty, pos := pos, after := af, guard := some (10, false) } := by
 intro a w hout hI hdep K hK
 obtain ⟨vg, gg, eg⟩ := hdep ⟨10, .guard⟩ hg rfl
 have eg := eg 30 rfl
 have gg := gg _ rfl
 subst gg
 have hy := yielded_is hgo eg
 rw [if_pos (by simp [Region.wanted, hy])]
 obtain ⟨v33, g33, e33⟩ := hdep ⟨13, .data⟩ h33 rfl
 have e33 := e33 33 rfl
 have g33 := g33 _ rfl
 subst g33
 clear hout hdep hy
 go_simp
 exact hK _ _ (gv_of rfl rs_) hI
theorem m6f35 (hg : (⟨10, .guard⟩ : Edge) ∈ af.toList) (hgo : ops[10]?.bind (·.dst) = some 30) (h34 : (⟨14, .data⟩ : Edge) ∈ af.toList) (hL : ∀ w, I w → w.cell? ⟨g, o + 1, none⟩ = some (.string (bs b))) : StepI Tryz.prog ops Q a0 m6fDS I (GV (m6fGS A B g o kc a b z2)) 15 { dst := some 35, op := .load 22 (.tmp 34), type := ty, pos := pos, after := af, guard := some (10, false) } := by
 intro a w hout hI hdep K hK
 obtain ⟨vg, gg, eg⟩ := hdep ⟨10, .guard⟩ hg rfl
 have eg := eg 30 rfl
 have gg := gg _ rfl
 subst gg
 have hy := yielded_is hgo eg
 rw [if_pos (by simp [Region.wanted, hy])]
 obtain ⟨v34, g34, e34⟩ := hdep ⟨14, .data⟩ h34 rfl
 have e34 := e34 34 rfl
 have g34 := g34 _ rfl
 subst g34
 have hLw := hL w hI
 clear hout hdep hy
 go_simp
 exact hK _ _ (gv_of rfl rs_) hI
theorem m6f36 (hg : (⟨10, .guard⟩ : Edge) ∈ af.toList) (hgo : ops[10]?.bind (·.dst) = some 30) (o5 : a0.tmps[5]? = some (.pointer (some ⟨B, 0, none⟩))) : StepI Tryz.prog ops Q a0 m6fDS I (GV (m6fGS A B g o kc a b z2)) 16 { dst := some 36, op := .fieldAddr 98 (.tmp 5) 3, type := ty, pos := pos, after := af, guard := some (10, false) } := by
 intro a w hout hI hdep K hK
 obtain ⟨vg, gg, eg⟩ := hdep ⟨10, .guard⟩ hg rfl
 have eg := eg 30 rfl
 have gg := gg _ rfl
 subst gg
 have hy := yielded_is hgo eg
 rw [if_pos (by simp [Region.wanted, hy])]
 have o5w := (hout 5 de_).trans o5
 clear hout hdep hy
 clear o5
 go_simp
 exact hK _ _ (gv_of rfl rs_) hI
theorem m6f37 (hg : (⟨10, .guard⟩ : Edge) ∈ af.toList) (hgo : ops[10]?.bind (·.dst) = some 30) (h36 : (⟨16, .data⟩ : Edge) ∈ af.toList) (hL : ∀ w, I w → w.cell? ⟨B, 3, none⟩ = some (.slice (some ⟨g, o, none⟩) 2 kc)) : StepI Tryz.prog ops Q a0 m6fDS I (GV (m6fGS A B g o kc a b z2)) 17 { dst := some 37, op := .load 31 (.tmp 36), type := ty, pos := pos, after := af, guard := some (10, false) } := by
 intro a w hout hI hdep K hK
 obtain ⟨vg, gg, eg⟩ := hdep ⟨10, .guard⟩ hg rfl
 have eg := eg 30 rfl
 have gg := gg _ rfl
 subst gg
 have hy := yielded_is hgo eg
 rw [if_pos (by simp [Region.wanted, hy])]
 obtain ⟨v36, g36, e36⟩ := hdep ⟨16, .data⟩ h36 rfl
 have e36 := e36 36 rfl
 have g36 := g36 _ rfl
 subst g36
 have hLw := hL w hI
 clear hout hdep hy
 go_simp
 exact hK _ _ (gv_of rfl rs_) hI
theorem m6f38 (hg : (⟨10, .guard⟩ : Edge) ∈ af.toList) (hgo : ops[10]?.bind (·.dst) = some 30) (h37 : (⟨17, .data⟩ : Edge) ∈ af.toList) : StepI Tryz.prog ops Q a0 m6fDS I (GV (m6fGS A B g o kc a b z2)) 18 { dst := some 38, op := .indexAddr 31 (.tmp 37) (.const (.int .i64 0)), type := ty, pos := pos, after := af, guard := some (10, false) } := by
 intro a w hout hI hdep K hK
 obtain ⟨vg, gg, eg⟩ := hdep ⟨10, .guard⟩ hg rfl
 have eg := eg 30 rfl
 have gg := gg _ rfl
 subst gg
 have hy := yielded_is hgo eg
 rw [if_pos (by simp [Region.wanted, hy])]
 obtain ⟨v37, g37, e37⟩ := hdep ⟨17, .data⟩ h37 rfl
 have e37 := e37 37 rfl
 have g37 := g37 _ rfl
 subst g37
 clear hout hdep hy
 go_simp
 exact hK _ _ (gv_of rfl rs_) hI
theorem m6f39 (hg : (⟨10, .guard⟩ : Edge) ∈ af.toList) (hgo : ops[10]?.bind (·.dst) = some 30) (h38 : (⟨18, .data⟩ : Edge) ∈ af.toList) (hL : ∀ w, I w → w.cell? ⟨g, o, none⟩ = some (.string (bs a))) : StepI Tryz.prog ops Q a0 m6fDS I (GV (m6fGS A B g o kc a b z2)) 19 { dst := some 39, op := .load 22 (.tmp 38), type := ty, pos := pos, after := af, guard := some (10, false) } := by
 intro a w hout hI hdep K hK
 obtain ⟨vg, gg, eg⟩ := hdep ⟨10, .guard⟩ hg rfl
 have eg := eg 30 rfl
 have gg := gg _ rfl
 subst gg
 have hy := yielded_is hgo eg
 rw [if_pos (by simp [Region.wanted, hy])]
 obtain ⟨v38, g38, e38⟩ := hdep ⟨18, .data⟩ h38 rfl
 have e38 := e38 38 rfl
 have g38 := g38 _ rfl
 subst g38
 have hLw := hL w hI
 clear hout hdep hy
 go_simp
 exact hK _ _ (gv_of rfl rs_) hI
theorem m6f40 (hg : (⟨10, .guard⟩ : Edge) ∈ af.toList) (hgo : ops[10]?.bind (·.dst) = some 30) (h31 : (⟨11, .data⟩ : Edge) ∈ af.toList) (h35 : (⟨15, .data⟩ : Edge) ∈ af.toList) (h39 : (⟨19, .data⟩ : Edge) ∈ af.toList) (hC : ∀ w, I w → Calls Tryz.prog 92 #[.pointer (some ⟨A, 0, none⟩), .string (bs b), .string (bs a)] w fun e w' => e = .returned (.bool z2) ∧ I w') : StepI Tryz.prog ops Q a0 m6fDS I (GV (m6fGS A B g o kc a b z2)) 20 { dst := some 40, op := .call { callee := .value (.func 92), args := #[.tmp 31, .tmp 35, .tmp 39], argTypes := at_ }, type := ty, pos := pos, after := af, guard := some (10, false) } := by
 intro a w hout hI hdep K hK
 obtain ⟨vg, gg, eg⟩ := hdep ⟨10, .guard⟩ hg rfl
 have eg := eg 30 rfl
 have gg := gg _ rfl
 subst gg
 have hy := yielded_is hgo eg
 rw [if_pos (by simp [Region.wanted, hy])]
 obtain ⟨v31, g31, e31⟩ := hdep ⟨11, .data⟩ h31 rfl
 have e31 := e31 31 rfl
 have g31 := g31 _ rfl
 subst g31
 obtain ⟨v35, g35, e35⟩ := hdep ⟨15, .data⟩ h35 rfl
 have e35 := e35 35 rfl
 have g35 := g35 _ rfl
 subst g35
 obtain ⟨v39, g39, e39⟩ := hdep ⟨19, .data⟩ h39 rfl
 have e39 := e39 39 rfl
 have g39 := g39 _ rfl
 subst g39
 clear hout hdep hy
 go_simp
 refine (hC w hI).mono ?_
 rintro e w1 ⟨rfl, hI1⟩
 exact hK _ _ (gv_of rfl rfl) hI1
theorem m6f41 (h30 : (⟨10, .data⟩ : Edge) ∈ af.toList) (h40 : (⟨20, .data⟩ : Edge) ∈ af.toList) : StepI Tryz.prog ops Q a0 m6fDS I (GV (m6fGS A B g o kc a b z2)) 21 { dst := some 41, op := .pick (.tmp 30) (.const (.bool true)) (.tmp 40), type := ty, pos := pos, after := af, guard := none } := by
 intro a w hout hI hdep K hK
 rw [if_pos (by simp [Region.wanted])]
 obtain ⟨v30, g30, e30⟩ := hdep ⟨10, .data⟩ h30 rfl
 have e30 := e30 30 rfl
 have g30 := g30 _ rfl
 subst g30
 obtain ⟨v40, g40, e40⟩ := hdep ⟨20, .data⟩ h40 rfl
 have e40 := e40 40 rfl
 have g40 := g40 _ rfl
 subst g40
 clear hout hdep
 go_simp
 exact hK _ _ (gv_of rfl rs_) hI
theorem m6f4 (h41 : (⟨21, .data⟩ : Edge) ∈ af.toList) : StepI Tryz.prog ops Q a0 m6fDS I (GV (m6fGS A B g o kc a b z2)) 22 { dst := some 4, op := .assign (.tmp 41), type := ty, pos := pos, after := af, guard := none } := by
 intro a w hout hI hdep K hK
 rw [if_pos (by simp [Region.wanted])]
 obtain ⟨v41, g41, e41⟩ := hdep ⟨21, .data⟩ h41 rfl
 have e41 := e41 41 rfl
 have g41 := g41 _ rfl
 subst g41
 clear hout hdep
 go_simp
 exact hK _ _ (gv_of rfl rs_) hI
end
theorem dMakes {U : List (List UInt8)} (hU : Shut U) {n : Nat} (ih : KnN U n) (t : List UInt8) (hr : right t = true) (hu : t ∈ U) (hn : t.length ≤ n) (m : Nat) (hm : t.length ≤ m + 1)
  (A bh bt : Nat) (S : List UInt8 → Bool) (f : List UInt8 → Option Bool) (w : World) (hG : GOk w) (hA : AskAt w A bh bt S f) (hT : Tld U S m f) :
  Calls Tryz.prog 65 #[.pointer (some ⟨A, 0, none⟩), .string (bs t)] w (AskPost w A bh bt S U m f (makesB (kn S) t)) := by
 obtain ⟨s, hx⟩ := right_some hr
 have lt := right_len hr
 have hks := rt_kids hx
 have hk1 : ∀ k ∈ s.kids, right k = true ∧ k ∈ U ∧ k.length < n := fun k hk => ⟨(hks k hk).1, hU.kid t s hu hx k hk, by have := (hks k hk).2; omega⟩
 have hk2 : ∀ k ∈ s.kids, k.length ≤ m := fun k hk => by have := (hks k hk).2; omega
 have hkl : s.kids.length ≤ 9000000000000000000 := by
  obtain ⟨h1, h2, _⟩ := rt_rd hx
  obtain ⟨p1, p2, p3⟩ := rd_parts h1
  by_cases a1 : s.op.toNat = 110
  · rw [(p1 a1).2.1]; simp
  by_cases a2 : s.op.toNat = 116
  · rw [(p2 a2).1]; simp
  have := (p3 a1 a2).2.2.2.2
  omega
 have hsec : ∀ u, secT t = some u → right u = true ∧ u ∈ U ∧ u.length < n ∧ u.length ≤ m := fun u h => by
  obtain ⟨g1, g2⟩ := secF_ok _ _ _ h
  exact ⟨g1, hU.sec t u hu h, by omega, by omega⟩
 have HK1 := Lib.hid hk1
 have HK2 := Lib.hid hk2
 have HSEC := Lib.hid hsec
 have HG := Lib.hid hG
 have HA := Lib.hid hA
 have HT := Lib.hid hT
 have IH := Lib.hid ih
 have HX := Lib.hid hx
 have hlt := ask_lt hA
 clear hG hA hT ih hk1 hk2 hsec hks
 have hmb : makesB (kn S) t = (if s.op.toNat = 110 then false else if s.op.toNat = 88 then agrB (kn S) (s.kids.getD 0 []) (s.kids.getD 1 []) || agrB (kn S) (s.kids.getD 1 []) (s.kids.getD 0 []) else if s.op.toNat = 80 ∨ s.op.toNat = 87 ∨ s.op.toNat = 76 then (match secT t with | some u => kn S u | none => false) || (s.op.toNat != 80 && s.kids.all (kn S)) else s.kids.all (kn S)) := makes_some (kn S) hx
 by_cases h110 : s.op.toNat = 110
 · rw [if_pos h110] at hmb
   have HM := Lib.hid hmb
   have b110 : (((s.op.toNat : Nat) : Int) == 110) = true := by simp [h110]
   clear hmb h110 hx
   go_enter Tryz.func65, Tryz.ntmps65
   go_wp2_with fail
   refine (tOpen t om_ _ HG.out).mono ?_
   rintro e w1 hp
   rw [HX.out] at hp
   obtain ⟨ad, kn, kc, rfl, hown, hb1⟩ := hp
   obtain ⟨hts, hkn, hge⟩ := own_terms hown
   clear hown
   subst hkn
   have HV1 := Lib.hid hts
   have HP1 := Lib.hid (blk_new w1 (.cells #[.int .u8 s.op.toNat, .int .i64 (numOf s), .string (bs s.text), .slice ad s.kids.length kc] 98))
   have hgn : GL [] w (w1.alloc (.cells #[.int .u8 s.op.toNat, .int .i64 (numOf s), .string (bs s.text), .slice ad s.kids.length kc] 98)) := gl_alloc (gl_below hb1 (gl_refl _ _)) _
   have HG1 := Lib.hid (gok_alloc (gok_below HG.out hb1) (.cells #[.int .u8 s.op.toNat, .int .i64 (numOf s), .string (bs s.text), .slice ad s.kids.length kc] 98))
   have HVP := Lib.hid (termsAt_glx HV1.out (gl_alloc (gl_refl [] w1) (.cells #[.int .u8 s.op.toNat, .int .i64 (numOf s), .string (bs s.text), .slice ad s.kids.length kc] 98)) si_)
   have HGE : Hid (∀ b o c, Value.slice ad s.kids.length kc = .slice (some ⟨b, o, none⟩) s.kids.length c → b ≠ bt) := fun b o c h => by have := hge b o c h; omega
   have hBb : w1.heap.size ≠ bt := by have := hb1.size; omega
   clear hts hge hb1
   go_wp2_with fail
   generalize w1.alloc (.cells #[.int .u8 s.op.toNat, .int .i64 (numOf s), .string (bs s.text), .slice ad s.kids.length kc] 98) = v1 at *
   generalize w1.heap.size = B at *
   have HA1 := Lib.hid (ask_gl HA.out hgn si_ si_ si_)
   have hg1 : GL [bt] w v1 := gl_step hgn (gl_refl [bt] w) si_
   go_ret
   exact ⟨by (rw [HM.out]) <;> first | rfl | (simp; done), f, HA1.out, ext_refl _ _ _ _, hg1⟩
 rw [if_neg h110] at hmb
 have b110 : (((s.op.toNat : Nat) : Int) == 110) = false := by simp; omega
 by_cases h88 : s.op.toNat = 88
 · rw [if_pos h88] at hmb
   obtain ⟨a, b, hab, hra, hrb, hla, hlb⟩ := rt_two_kids hx (by rw [show s.op = 88 from UInt8.toNat_inj.1 h88]; rfl)
   have hsum := rt_sum hx
   rw [hab] at hsum
   simp only [sumL] at hsum
   have na := name_long hra
   have nb := name_long hrb
   have pu : ∀ k ∈ s.kids, right (80 :: k) = true → 80 :: k ∈ U := fun k hk h => hU.pub t s hu hx h88 k hk h
   have qa : a ∈ U := (HK1.out a (by rw [hab]; simp)).2.1
   have qb : b ∈ U := (HK1.out b (by rw [hab]; simp)).2.1
   have pa := pu a (by rw [hab]; simp)
   have pb := pu b (by rw [hab]; simp)
   rw [hab] at hmb
   simp only [List.getD_cons_zero, List.getD_cons_succ] at hmb
   have HAB := Lib.hid hab
   have PA := Lib.hid pa
   have PB := Lib.hid pb
   have HM := Lib.hid hmb
   clear hmb pu pa pb hab hx
   have b88 : (((s.op.toNat : Nat) : Int) == 88) = true := by simp [h88]
   clear h88
   go_enter Tryz.func65, Tryz.ntmps65
   go_wp2_with fail
   refine (tOpen t om_ _ HG.out).mono ?_
   rintro e w1 hp
   rw [HX.out] at hp
   obtain ⟨ad, kn, kc, rfl, hown, hb1⟩ := hp
   obtain ⟨hts, hkn, hge⟩ := own_terms hown
   clear hown
   subst hkn
   have HV1 := Lib.hid hts
   have HP1 := Lib.hid (blk_new w1 (.cells #[.int .u8 s.op.toNat, .int .i64 (numOf s), .string (bs s.text), .slice ad s.kids.length kc] 98))
   have hgn : GL [] w (w1.alloc (.cells #[.int .u8 s.op.toNat, .int .i64 (numOf s), .string (bs s.text), .slice ad s.kids.length kc] 98)) := gl_alloc (gl_below hb1 (gl_refl _ _)) _
   have HG1 := Lib.hid (gok_alloc (gok_below HG.out hb1) (.cells #[.int .u8 s.op.toNat, .int .i64 (numOf s), .string (bs s.text), .slice ad s.kids.length kc] 98))
   have HVP := Lib.hid (termsAt_glx HV1.out (gl_alloc (gl_refl [] w1) (.cells #[.int .u8 s.op.toNat, .int .i64 (numOf s), .string (bs s.text), .slice ad s.kids.length kc] 98)) si_)
   have HGE : Hid (∀ b o c, Value.slice ad s.kids.length kc = .slice (some ⟨b, o, none⟩) s.kids.length c → b ≠ bt) := fun b o c h => by have := hge b o c h; omega
   have hBb : w1.heap.size ≠ bt := by have := hb1.size; omega
   clear hts hge hb1
   have hl2 : s.kids.length = 2 := by rw [HAB.out]; rfl
   rw [hl2] at HVP HP1 hgn HG1 HGE
   rw [hl2]
   rw [HAB.out] at HVP
   rcases HVP.out with ⟨_, _, _, h0⟩ | ⟨g, o, c, hv, hgl, hc⟩
   · cases h0
   injection hv with hv1 hv2 hv3
   subst hv1 hv3
   have c0 := hc 0 a rfl
   have c1 := hc 1 b rfl
   have hgb := HGE.out g o _ rfl
   clear hc HGE
   go_upto_region 6 with fail
   generalize w1.alloc (.cells #[.int .u8 s.op.toNat, .int .i64 (numOf s), .string (bs s.text), .slice (some ⟨g, o, none⟩) 2 kc] 98) = v1 at *
   generalize w1.heap.size = B at *
   have HA1 := Lib.hid (ask_gl HA.out hgn si_ si_ si_)
   have hg1 : GL [bt] w v1 := gl_step hgn (gl_refl [bt] w) si_
   have p1a := blk_cell HP1.out
   have p1b := blk_free HP1.out
   have p1c := blk_lt HP1.out
   have HZ1 := Lib.hid (show AskZ v1 A bh bt S U m f v1.drew from ⟨f, ask_gl HA1.out (gl_drew (gl_refl [] v1)) si_ si_ si_, ext_refl _ _ _ _, gok_drew HG1.out, gl_drew (gl_refl _ _)⟩)
   have HC1 := Lib.hid (dAgreesZ IH.out a b hra qa om_ hrb om_ PB.out m om_ om_ A bh bt S f v1 HT.out)
   have HC2 := Lib.hid (dAgreesZ IH.out b a hrb qb om_ hra om_ PA.out m om_ om_ A bh bt S f v1 HT.out)
   have hg1d : GL [bt] w v1 := hg1
   generalize agrB (kn S) a b = z1 at *
   generalize agrB (kn S) b a = z2 at *
   have c3 := p1a 3
   simp at c3
   simp only [Nat.add_zero] at c0
   clear p1a p1b p1c HP1 HVP hgn HV1 HX
   have KEEP : ∀ (W V : World), (W.cell? ⟨B, 3, none⟩ = some (.slice (some ⟨g, o, none⟩) 2 kc) ∧ W.cell? ⟨g, o, none⟩ = some (.string (bs a)) ∧ W.cell? ⟨g, o + 1, none⟩ = some (.string (bs b))) → GL [bt] W V → V.cell? ⟨B, 3, none⟩ = some (.slice (some ⟨g, o, none⟩) 2 kc) ∧ V.cell? ⟨g, o, none⟩ = some (.string (bs a)) ∧ V.cell? ⟨g, o + 1, none⟩ = some (.string (bs b)) := fun W V h hg => ⟨cell_glx h.1 hg (by simpa using hBb), cell_glx h.2.1 hg (by simpa using hgb), cell_glx h.2.2 hg (by simpa using hgb)⟩
   have h00 : v1.drew.cell? ⟨B, 3, none⟩ = some (.slice (some ⟨g, o, none⟩) 2 kc) ∧ v1.drew.cell? ⟨g, o, none⟩ = some (.string (bs a)) ∧ v1.drew.cell? ⟨g, o + 1, none⟩ = some (.string (bs b)) := ⟨c3, c0, c1⟩
   cases z1 with
   | false =>
     refine wp_region_I (ds := m6fDS) (I := (fun W => AskZ v1 A bh bt S U m f W ∧ W.cell? ⟨B, 3, none⟩ = some (.slice (some ⟨g, o, none⟩) 2 kc) ∧ W.cell? ⟨g, o, none⟩ = some (.string (bs a)) ∧ W.cell? ⟨g, o + 1, none⟩ = some (.string (bs b)))) (G := GV (m6fGS A B g o kc a b z2)) rfl rfl (distinct_of _ (by decide +kernel)) ?_ (by kernel_rfl) (⟨HZ1.out, h00⟩) ?_ ?_
     · intro d hd
       exact Nat.lt_of_lt_of_le (ltB_of (n := 42) m6fDS (by decide +kernel) d hd) si_
     · exact ⟨m6f20 si_, m6f21 si_, m6f22 si_ (fun w h => h.2.1), m6f23 si_, m6f24 si_ (fun w h => h.2.2.1), m6f25 si_, m6f26 si_ (fun w h => h.2.1), m6f27 si_, m6f28 si_ (fun w h => h.2.2.2), m6f29 si_ si_ si_ (fun w h => (HC1.out w h.1).mono fun _ _ q => ⟨q.1, q.2.1, KEEP _ _ h.2 q.2.2⟩), m6f30 si_, m6f31 si_ rfl si_, m6f32 si_ rfl si_, m6f33 si_ rfl si_ (fun w h => h.2.1), m6f34 si_ rfl si_, m6f35 si_ rfl si_ (fun w h => h.2.2.2), m6f36 si_ rfl si_, m6f37 si_ rfl si_ (fun w h => h.2.1), m6f38 si_ rfl si_, m6f39 si_ rfl si_ (fun w h => h.2.2.1), m6f40 si_ rfl si_ si_ si_ (fun w h => (HC2.out w h.1).mono fun _ _ q => ⟨q.1, q.2.1, KEEP _ _ h.2 q.2.2⟩), m6f41 si_ si_, m6f4 si_, trivial⟩
     · intro vs w' hl hv hI
       have hl0 : vs.length = 23 := hl
       clear hl
       obtain ⟨x0, r0, rfl, hl1⟩ := cons_of hl0
       clear hl0
       obtain ⟨x1, r1, rfl, hl2⟩ := cons_of hl1
       clear hl1
       obtain ⟨x2, r2, rfl, hl3⟩ := cons_of hl2
       clear hl2
       obtain ⟨x3, r3, rfl, hl4⟩ := cons_of hl3
       clear hl3
       obtain ⟨x4, r4, rfl, hl5⟩ := cons_of hl4
       clear hl4
       obtain ⟨x5, r5, rfl, hl6⟩ := cons_of hl5
       clear hl5
       obtain ⟨x6, r6, rfl, hl7⟩ := cons_of hl6
       clear hl6
       obtain ⟨x7, r7, rfl, hl8⟩ := cons_of hl7
       clear hl7
       obtain ⟨x8, r8, rfl, hl9⟩ := cons_of hl8
       clear hl8
       obtain ⟨x9, r9, rfl, hl10⟩ := cons_of hl9
       clear hl9
       obtain ⟨x10, r10, rfl, hl11⟩ := cons_of hl10
       clear hl10
       obtain ⟨x11, r11, rfl, hl12⟩ := cons_of hl11
       clear hl11
       obtain ⟨x12, r12, rfl, hl13⟩ := cons_of hl12
       clear hl12
       obtain ⟨x13, r13, rfl, hl14⟩ := cons_of hl13
       clear hl13
       obtain ⟨x14, r14, rfl, hl15⟩ := cons_of hl14
       clear hl14
       obtain ⟨x15, r15, rfl, hl16⟩ := cons_of hl15
       clear hl15
       obtain ⟨x16, r16, rfl, hl17⟩ := cons_of hl16
       clear hl16
       obtain ⟨x17, r17, rfl, hl18⟩ := cons_of hl17
       clear hl17
       obtain ⟨x18, r18, rfl, hl19⟩ := cons_of hl18
       clear hl18
       obtain ⟨x19, r19, rfl, hl20⟩ := cons_of hl19
       clear hl19
       obtain ⟨x20, r20, rfl, hl21⟩ := cons_of hl20
       clear hl20
       obtain ⟨x21, r21, rfl, hl22⟩ := cons_of hl21
       clear hl21
       obtain ⟨x22, r22, rfl, hl23⟩ := cons_of hl22
       clear hl22
       have e22 : x22 = .bool z2 := hv 22 x22 si_ _ rfl
       subst e22
       obtain rfl : r22 = [] := List.eq_nil_of_length_eq_zero hl23
       clear hv
       simp only [m6fDS, setAll, List.setIfInBounds_toArray, List.set_cons_zero, List.set_cons_succ]
       go_wp2_with fail
       go_ret
       exact askZ_post hg1d hI.1 (by (rw [HM.out]) <;> first | rfl | (simp; done))
   | true =>
     refine wp_region_I (ds := m6tDS) (I := (fun W => AskZ v1 A bh bt S U m f W ∧ W.cell? ⟨B, 3, none⟩ = some (.slice (some ⟨g, o, none⟩) 2 kc) ∧ W.cell? ⟨g, o, none⟩ = some (.string (bs a)) ∧ W.cell? ⟨g, o + 1, none⟩ = some (.string (bs b)))) (G := GV (m6tGS A B g o kc a b z2)) rfl rfl (distinct_of _ (by decide +kernel)) ?_ (by kernel_rfl) (⟨HZ1.out, h00⟩) ?_ ?_
     · intro d hd
       exact Nat.lt_of_lt_of_le (ltB_of (n := 42) m6tDS (by decide +kernel) d hd) si_
     · exact ⟨m6t20 si_, m6t21 si_, m6t22 si_ (fun w h => h.2.1), m6t23 si_, m6t24 si_ (fun w h => h.2.2.1), m6t25 si_, m6t26 si_ (fun w h => h.2.1), m6t27 si_, m6t28 si_ (fun w h => h.2.2.2), m6t29 si_ si_ si_ (fun w h => (HC1.out w h.1).mono fun _ _ q => ⟨q.1, q.2.1, KEEP _ _ h.2 q.2.2⟩), m6t30 si_, m6t31 si_ rfl, m6t32 si_ rfl, m6t33 si_ rfl, m6t34 si_ rfl, m6t35 si_ rfl, m6t36 si_ rfl, m6t37 si_ rfl, m6t38 si_ rfl, m6t39 si_ rfl, m6t40 si_ rfl, m6t41 si_, m6t4 si_, trivial⟩
     · intro vs w' hl hv hI
       have hl0 : vs.length = 23 := hl
       clear hl
       obtain ⟨x0, r0, rfl, hl1⟩ := cons_of hl0
       clear hl0
       obtain ⟨x1, r1, rfl, hl2⟩ := cons_of hl1
       clear hl1
       obtain ⟨x2, r2, rfl, hl3⟩ := cons_of hl2
       clear hl2
       obtain ⟨x3, r3, rfl, hl4⟩ := cons_of hl3
       clear hl3
       obtain ⟨x4, r4, rfl, hl5⟩ := cons_of hl4
       clear hl4
       obtain ⟨x5, r5, rfl, hl6⟩ := cons_of hl5
       clear hl5
       obtain ⟨x6, r6, rfl, hl7⟩ := cons_of hl6
       clear hl6
       obtain ⟨x7, r7, rfl, hl8⟩ := cons_of hl7
       clear hl7
       obtain ⟨x8, r8, rfl, hl9⟩ := cons_of hl8
       clear hl8
       obtain ⟨x9, r9, rfl, hl10⟩ := cons_of hl9
       clear hl9
       obtain ⟨x10, r10, rfl, hl11⟩ := cons_of hl10
       clear hl10
       obtain ⟨x11, r11, rfl, hl12⟩ := cons_of hl11
       clear hl11
       obtain ⟨x12, r12, rfl, hl13⟩ := cons_of hl12
       clear hl12
       obtain ⟨x13, r13, rfl, hl14⟩ := cons_of hl13
       clear hl13
       obtain ⟨x14, r14, rfl, hl15⟩ := cons_of hl14
       clear hl14
       obtain ⟨x15, r15, rfl, hl16⟩ := cons_of hl15
       clear hl15
       obtain ⟨x16, r16, rfl, hl17⟩ := cons_of hl16
       clear hl16
       obtain ⟨x17, r17, rfl, hl18⟩ := cons_of hl17
       clear hl17
       obtain ⟨x18, r18, rfl, hl19⟩ := cons_of hl18
       clear hl18
       obtain ⟨x19, r19, rfl, hl20⟩ := cons_of hl19
       clear hl19
       obtain ⟨x20, r20, rfl, hl21⟩ := cons_of hl20
       clear hl20
       obtain ⟨x21, r21, rfl, hl22⟩ := cons_of hl21
       clear hl21
       obtain ⟨x22, r22, rfl, hl23⟩ := cons_of hl22
       clear hl22
       have e22 : x22 = .bool true := hv 22 x22 si_ _ rfl
       subst e22
       obtain rfl : r22 = [] := List.eq_nil_of_length_eq_zero hl23
       clear hv
       simp only [m6tDS, setAll, List.setIfInBounds_toArray, List.set_cons_zero, List.set_cons_succ]
       go_wp2_with fail
       go_ret
       exact askZ_post hg1d hI.1 (by (rw [HM.out]) <;> first | rfl | (simp; done))
 rw [if_neg h88] at hmb
 have b88 : (((s.op.toNat : Nat) : Int) == 88) = false := by simp; omega
 by_cases hpk : s.op.toNat = 80 ∨ s.op.toNat = 87 ∨ s.op.toNat = 76
 · rw [if_pos hpk] at hmb
   by_cases h80 : s.op.toNat = 80
   · skip
     have ne80 : (((s.op.toNat : Nat) : Int) != 80) = false := by simp [h80]
     rw [show (s.op.toNat != 80) = false by simp [h80]] at hmb
     have b80 : (((s.op.toNat : Nat) : Int) == 80) = true := by simp [h80]
     clear hpk h80
     cases hse : secT t with
     | none =>
       rw [hse] at hmb
       have HM : Hid (makesB (kn S) t = false) := by show makesB (kn S) t = _; rw [hmb]; simp
       have HSE := Lib.hid hse
       clear hmb hse hx
       go_enter Tryz.func65, Tryz.ntmps65
       go_wp2_with fail
       refine (tOpen t om_ _ HG.out).mono ?_
       rintro e w1 hp
       rw [HX.out] at hp
       obtain ⟨ad, kn, kc, rfl, hown, hb1⟩ := hp
       obtain ⟨hts, hkn, hge⟩ := own_terms hown
       clear hown
       subst hkn
       have HV1 := Lib.hid hts
       have HP1 := Lib.hid (blk_new w1 (.cells #[.int .u8 s.op.toNat, .int .i64 (numOf s), .string (bs s.text), .slice ad s.kids.length kc] 98))
       have hgn : GL [] w (w1.alloc (.cells #[.int .u8 s.op.toNat, .int .i64 (numOf s), .string (bs s.text), .slice ad s.kids.length kc] 98)) := gl_alloc (gl_below hb1 (gl_refl _ _)) _
       have HG1 := Lib.hid (gok_alloc (gok_below HG.out hb1) (.cells #[.int .u8 s.op.toNat, .int .i64 (numOf s), .string (bs s.text), .slice ad s.kids.length kc] 98))
       have HVP := Lib.hid (termsAt_glx HV1.out (gl_alloc (gl_refl [] w1) (.cells #[.int .u8 s.op.toNat, .int .i64 (numOf s), .string (bs s.text), .slice ad s.kids.length kc] 98)) si_)
       have HGE : Hid (∀ b o c, Value.slice ad s.kids.length kc = .slice (some ⟨b, o, none⟩) s.kids.length c → b ≠ bt) := fun b o c h => by have := hge b o c h; omega
       have hBb : w1.heap.size ≠ bt := by have := hb1.size; omega
       clear hts hge hb1
       go_wp2_with fail
       generalize w1.alloc (.cells #[.int .u8 s.op.toNat, .int .i64 (numOf s), .string (bs s.text), .slice ad s.kids.length kc] 98) = v1 at *
       generalize w1.heap.size = B at *
       have HA1 := Lib.hid (ask_gl HA.out hgn si_ si_ si_)
       have hg1 : GL [bt] w v1 := gl_step hgn (gl_refl [bt] w) si_
       have HV1 := HVP
       refine (dSecret t om_ _ HG1.out).mono ?_
       rintro e v2 ⟨rfl, hb2⟩
       have HP2 := Lib.hid (blk_below HP1.out hb2 (blk_lt HP1.out))
       have HV2 := Lib.hid (termsAt_glx HV1.out (gl_below hb2 (gl_refl [] v1)) si_)
       have HG2 := Lib.hid (gok_below HG1.out hb2)
       have HA2 := Lib.hid (ask_below HA1.out hb2)
       have HE2 : Hid (Ext U S m f f) := Lib.hid (ext_refl _ _ _ _)
       have hg2 : GL [bt] w v2 := gl_below hb2 hg1
       clear hb2
       rw [HSE.out]
       simp only [Option.getD_none, Option.isSome_none]
       have p2a := blk_cell HP2.out
       have p2b := blk_free HP2.out
       have p2c := blk_lt HP2.out
       go_wp2_with fail
       go_ret
       exact ⟨by (rw [HM.out]) <;> first | rfl | (simp; done), f, HA2.out, HE2.out, hg2⟩
     | some u =>
       obtain ⟨u1, u2, u3, u4⟩ := HSEC.out u hse
       rw [hse] at hmb
       simp only at hmb
       cases hku : kn S u with
       | true =>
         have HM : Hid (makesB (kn S) t = true) := by show makesB (kn S) t = true; rw [hmb, hku]; rfl
         have HSE := Lib.hid hse
         have HKU := Lib.hid hku
         clear hmb hse hku hx
         go_enter Tryz.func65, Tryz.ntmps65
         go_wp2_with fail
         refine (tOpen t om_ _ HG.out).mono ?_
         rintro e w1 hp
         rw [HX.out] at hp
         obtain ⟨ad, kn, kc, rfl, hown, hb1⟩ := hp
         obtain ⟨hts, hkn, hge⟩ := own_terms hown
         clear hown
         subst hkn
         have HV1 := Lib.hid hts
         have HP1 := Lib.hid (blk_new w1 (.cells #[.int .u8 s.op.toNat, .int .i64 (numOf s), .string (bs s.text), .slice ad s.kids.length kc] 98))
         have hgn : GL [] w (w1.alloc (.cells #[.int .u8 s.op.toNat, .int .i64 (numOf s), .string (bs s.text), .slice ad s.kids.length kc] 98)) := gl_alloc (gl_below hb1 (gl_refl _ _)) _
         have HG1 := Lib.hid (gok_alloc (gok_below HG.out hb1) (.cells #[.int .u8 s.op.toNat, .int .i64 (numOf s), .string (bs s.text), .slice ad s.kids.length kc] 98))
         have HVP := Lib.hid (termsAt_glx HV1.out (gl_alloc (gl_refl [] w1) (.cells #[.int .u8 s.op.toNat, .int .i64 (numOf s), .string (bs s.text), .slice ad s.kids.length kc] 98)) si_)
         have HGE : Hid (∀ b o c, Value.slice ad s.kids.length kc = .slice (some ⟨b, o, none⟩) s.kids.length c → b ≠ bt) := fun b o c h => by have := hge b o c h; omega
         have hBb : w1.heap.size ≠ bt := by have := hb1.size; omega
         clear hts hge hb1
         go_wp2_with fail
         generalize w1.alloc (.cells #[.int .u8 s.op.toNat, .int .i64 (numOf s), .string (bs s.text), .slice ad s.kids.length kc] 98) = v1 at *
         generalize w1.heap.size = B at *
         have HA1 := Lib.hid (ask_gl HA.out hgn si_ si_ si_)
         have hg1 : GL [bt] w v1 := gl_step hgn (gl_refl [bt] w) si_
         have HV1 := HVP
         refine (dSecret t om_ _ HG1.out).mono ?_
         rintro e v2 ⟨rfl, hb2⟩
         have HP2 := Lib.hid (blk_below HP1.out hb2 (blk_lt HP1.out))
         have HV2 := Lib.hid (termsAt_glx HV1.out (gl_below hb2 (gl_refl [] v1)) si_)
         have HG2 := Lib.hid (gok_below HG1.out hb2)
         have HA2 := Lib.hid (ask_below HA1.out hb2)
         have HE2 : Hid (Ext U S m f f) := Lib.hid (ext_refl _ _ _ _)
         have hg2 : GL [bt] w v2 := gl_below hb2 hg1
         clear hb2
         rw [HSE.out]
         simp only [Option.getD_some, Option.isSome_some]
         have p2a := blk_cell HP2.out
         have p2b := blk_free HP2.out
         have p2c := blk_lt HP2.out
         go_wp2_with fail
         refine (kn_le IH.out u3 u1 u2 HG2.out HA2.out HT.out u4).mono ?_
         rintro e w5 ⟨rfl, f5, hA5, hE5, hg5⟩
         have HA5 := Lib.hid hA5
         have HE5 := Lib.hid hE5
         clear hA5 hE5
         rw [HKU.out]
         go_wp2_with fail
         go_ret
         exact ⟨by (rw [HM.out]) <;> first | rfl | (simp; done), f5, HA5.out, HE5.out, gl_step hg5 hg2 (fun r hr => .inl hr)⟩
       | false =>
         have HM : Hid (makesB (kn S) t = false) := by show makesB (kn S) t = _; rw [hmb, hku]; simp
         have HSE := Lib.hid hse
         have HKU := Lib.hid hku
         clear hmb hse hku hx
         go_enter Tryz.func65, Tryz.ntmps65
         go_wp2_with fail
         refine (tOpen t om_ _ HG.out).mono ?_
         rintro e w1 hp
         rw [HX.out] at hp
         obtain ⟨ad, kn, kc, rfl, hown, hb1⟩ := hp
         obtain ⟨hts, hkn, hge⟩ := own_terms hown
         clear hown
         subst hkn
         have HV1 := Lib.hid hts
         have HP1 := Lib.hid (blk_new w1 (.cells #[.int .u8 s.op.toNat, .int .i64 (numOf s), .string (bs s.text), .slice ad s.kids.length kc] 98))
         have hgn : GL [] w (w1.alloc (.cells #[.int .u8 s.op.toNat, .int .i64 (numOf s), .string (bs s.text), .slice ad s.kids.length kc] 98)) := gl_alloc (gl_below hb1 (gl_refl _ _)) _
         have HG1 := Lib.hid (gok_alloc (gok_below HG.out hb1) (.cells #[.int .u8 s.op.toNat, .int .i64 (numOf s), .string (bs s.text), .slice ad s.kids.length kc] 98))
         have HVP := Lib.hid (termsAt_glx HV1.out (gl_alloc (gl_refl [] w1) (.cells #[.int .u8 s.op.toNat, .int .i64 (numOf s), .string (bs s.text), .slice ad s.kids.length kc] 98)) si_)
         have HGE : Hid (∀ b o c, Value.slice ad s.kids.length kc = .slice (some ⟨b, o, none⟩) s.kids.length c → b ≠ bt) := fun b o c h => by have := hge b o c h; omega
         have hBb : w1.heap.size ≠ bt := by have := hb1.size; omega
         clear hts hge hb1
         go_wp2_with fail
         generalize w1.alloc (.cells #[.int .u8 s.op.toNat, .int .i64 (numOf s), .string (bs s.text), .slice ad s.kids.length kc] 98) = v1 at *
         generalize w1.heap.size = B at *
         have HA1 := Lib.hid (ask_gl HA.out hgn si_ si_ si_)
         have hg1 : GL [bt] w v1 := gl_step hgn (gl_refl [bt] w) si_
         have HV1 := HVP
         refine (dSecret t om_ _ HG1.out).mono ?_
         rintro e v2 ⟨rfl, hb2⟩
         have HP2 := Lib.hid (blk_below HP1.out hb2 (blk_lt HP1.out))
         have HV2 := Lib.hid (termsAt_glx HV1.out (gl_below hb2 (gl_refl [] v1)) si_)
         have HG2 := Lib.hid (gok_below HG1.out hb2)
         have HA2 := Lib.hid (ask_below HA1.out hb2)
         have HE2 : Hid (Ext U S m f f) := Lib.hid (ext_refl _ _ _ _)
         have hg2 : GL [bt] w v2 := gl_below hb2 hg1
         clear hb2
         rw [HSE.out]
         simp only [Option.getD_some, Option.isSome_some]
         go_wp2_with fail
         refine (kn_le IH.out u3 u1 u2 HG2.out HA2.out HT.out u4).mono ?_
         rintro e v5 ⟨rfl, f5, hA5, hE5, hg5b⟩
         have HA5 := Lib.hid hA5
         have HE5 := Lib.hid hE5
         have HG5 := Lib.hid (gok_bt HG2.out hg5b hA5.low)
         have HP5 := Lib.hid (blk_gl HP2.out hg5b (by simpa using hBb))
         have HV5 := Lib.hid (termsAt_glx HV2.out hg5b (fun b o c h => by simpa using HGE.out b o c h))
         have hg5 : GL [bt] w v5 := gl_step hg5b hg2 (fun r hr => .inl hr)
         clear hA5 hE5 hg5b
         rw [HKU.out]
         have p5a := blk_cell HP5.out
         have p5b := blk_free HP5.out
         have p5c := blk_lt HP5.out
         go_wp2_with fail
         go_ret
         exact ⟨by (rw [HM.out]) <;> first | rfl | (simp; done), f5, HA5.out, HE5.out, hg5⟩
   by_cases h87 : s.op.toNat = 87
   · skip
     have ne80 : (((s.op.toNat : Nat) : Int) != 80) = true := by simp [h87]
     rw [show (s.op.toNat != 80) = true by simp [h87]] at hmb
     have b80 : (((s.op.toNat : Nat) : Int) == 80) = false := by simp; omega
     have b87 : (((s.op.toNat : Nat) : Int) == 87) = true := by simp [h87]
     clear hpk h87 h80
     cases hse : secT t with
     | none =>
       rw [hse] at hmb
       have HM : Hid (makesB (kn S) t = s.kids.all (kn S)) := by show makesB (kn S) t = _; rw [hmb]; simp
       have HSE := Lib.hid hse
       clear hmb hse hx
       go_enter Tryz.func65, Tryz.ntmps65
       go_wp2_with fail
       refine (tOpen t om_ _ HG.out).mono ?_
       rintro e w1 hp
       rw [HX.out] at hp
       obtain ⟨ad, kn, kc, rfl, hown, hb1⟩ := hp
       obtain ⟨hts, hkn, hge⟩ := own_terms hown
       clear hown
       subst hkn
       have HV1 := Lib.hid hts
       have HP1 := Lib.hid (blk_new w1 (.cells #[.int .u8 s.op.toNat, .int .i64 (numOf s), .string (bs s.text), .slice ad s.kids.length kc] 98))
       have hgn : GL [] w (w1.alloc (.cells #[.int .u8 s.op.toNat, .int .i64 (numOf s), .string (bs s.text), .slice ad s.kids.length kc] 98)) := gl_alloc (gl_below hb1 (gl_refl _ _)) _
       have HG1 := Lib.hid (gok_alloc (gok_below HG.out hb1) (.cells #[.int .u8 s.op.toNat, .int .i64 (numOf s), .string (bs s.text), .slice ad s.kids.length kc] 98))
       have HVP := Lib.hid (termsAt_glx HV1.out (gl_alloc (gl_refl [] w1) (.cells #[.int .u8 s.op.toNat, .int .i64 (numOf s), .string (bs s.text), .slice ad s.kids.length kc] 98)) si_)
       have HGE : Hid (∀ b o c, Value.slice ad s.kids.length kc = .slice (some ⟨b, o, none⟩) s.kids.length c → b ≠ bt) := fun b o c h => by have := hge b o c h; omega
       have hBb : w1.heap.size ≠ bt := by have := hb1.size; omega
       clear hts hge hb1
       go_wp2_with fail
       generalize w1.alloc (.cells #[.int .u8 s.op.toNat, .int .i64 (numOf s), .string (bs s.text), .slice ad s.kids.length kc] 98) = v1 at *
       generalize w1.heap.size = B at *
       have HA1 := Lib.hid (ask_gl HA.out hgn si_ si_ si_)
       have hg1 : GL [bt] w v1 := gl_step hgn (gl_refl [bt] w) si_
       have HV1 := HVP
       refine (dSecret t om_ _ HG1.out).mono ?_
       rintro e v2 ⟨rfl, hb2⟩
       have HP2 := Lib.hid (blk_below HP1.out hb2 (blk_lt HP1.out))
       have HV2 := Lib.hid (termsAt_glx HV1.out (gl_below hb2 (gl_refl [] v1)) si_)
       have HG2 := Lib.hid (gok_below HG1.out hb2)
       have HA2 := Lib.hid (ask_below HA1.out hb2)
       have HE2 : Hid (Ext U S m f f) := Lib.hid (ext_refl _ _ _ _)
       have hg2 : GL [bt] w v2 := gl_below hb2 hg1
       clear hb2
       rw [HSE.out]
       simp only [Option.getD_none, Option.isSome_none]
       have p2a := blk_cell HP2.out
       have p2b := blk_free HP2.out
       have p2c := blk_lt HP2.out
       go_wp2_with fail
       refine (dAll IH.out s.kids HK1.out hkl m HK2.out _ A bh bt S f _ HG2.out HA2.out HT.out HV2.out HGE.out).mono ?_
       rintro e w9 ⟨rfl, f9, hA9, hE9, hg9⟩
       have HA9 := Lib.hid hA9
       have HE9 := Lib.hid hE9
       clear hA9 hE9
       generalize s.kids.all (kn S) = z9 at *
       go_wp2_with fail
       go_ret
       exact ⟨by (rw [HM.out]) <;> first | rfl | (simp; done), f9, HA9.out, ext_trans HE2.out HE9.out, gl_step hg9 hg2 (fun r hr => .inl hr)⟩
     | some u =>
       obtain ⟨u1, u2, u3, u4⟩ := HSEC.out u hse
       rw [hse] at hmb
       simp only at hmb
       cases hku : kn S u with
       | true =>
         have HM : Hid (makesB (kn S) t = true) := by show makesB (kn S) t = true; rw [hmb, hku]; rfl
         have HSE := Lib.hid hse
         have HKU := Lib.hid hku
         clear hmb hse hku hx
         go_enter Tryz.func65, Tryz.ntmps65
         go_wp2_with fail
         refine (tOpen t om_ _ HG.out).mono ?_
         rintro e w1 hp
         rw [HX.out] at hp
         obtain ⟨ad, kn, kc, rfl, hown, hb1⟩ := hp
         obtain ⟨hts, hkn, hge⟩ := own_terms hown
         clear hown
         subst hkn
         have HV1 := Lib.hid hts
         have HP1 := Lib.hid (blk_new w1 (.cells #[.int .u8 s.op.toNat, .int .i64 (numOf s), .string (bs s.text), .slice ad s.kids.length kc] 98))
         have hgn : GL [] w (w1.alloc (.cells #[.int .u8 s.op.toNat, .int .i64 (numOf s), .string (bs s.text), .slice ad s.kids.length kc] 98)) := gl_alloc (gl_below hb1 (gl_refl _ _)) _
         have HG1 := Lib.hid (gok_alloc (gok_below HG.out hb1) (.cells #[.int .u8 s.op.toNat, .int .i64 (numOf s), .string (bs s.text), .slice ad s.kids.length kc] 98))
         have HVP := Lib.hid (termsAt_glx HV1.out (gl_alloc (gl_refl [] w1) (.cells #[.int .u8 s.op.toNat, .int .i64 (numOf s), .string (bs s.text), .slice ad s.kids.length kc] 98)) si_)
         have HGE : Hid (∀ b o c, Value.slice ad s.kids.length kc = .slice (some ⟨b, o, none⟩) s.kids.length c → b ≠ bt) := fun b o c h => by have := hge b o c h; omega
         have hBb : w1.heap.size ≠ bt := by have := hb1.size; omega
         clear hts hge hb1
         go_wp2_with fail
         generalize w1.alloc (.cells #[.int .u8 s.op.toNat, .int .i64 (numOf s), .string (bs s.text), .slice ad s.kids.length kc] 98) = v1 at *
         generalize w1.heap.size = B at *
         have HA1 := Lib.hid (ask_gl HA.out hgn si_ si_ si_)
         have hg1 : GL [bt] w v1 := gl_step hgn (gl_refl [bt] w) si_
         have HV1 := HVP
         refine (dSecret t om_ _ HG1.out).mono ?_
         rintro e v2 ⟨rfl, hb2⟩
         have HP2 := Lib.hid (blk_below HP1.out hb2 (blk_lt HP1.out))
         have HV2 := Lib.hid (termsAt_glx HV1.out (gl_below hb2 (gl_refl [] v1)) si_)
         have HG2 := Lib.hid (gok_below HG1.out hb2)
         have HA2 := Lib.hid (ask_below HA1.out hb2)
         have HE2 : Hid (Ext U S m f f) := Lib.hid (ext_refl _ _ _ _)
         have hg2 : GL [bt] w v2 := gl_below hb2 hg1
         clear hb2
         rw [HSE.out]
         simp only [Option.getD_some, Option.isSome_some]
         have p2a := blk_cell HP2.out
         have p2b := blk_free HP2.out
         have p2c := blk_lt HP2.out
         go_wp2_with fail
         refine (kn_le IH.out u3 u1 u2 HG2.out HA2.out HT.out u4).mono ?_
         rintro e w5 ⟨rfl, f5, hA5, hE5, hg5⟩
         have HA5 := Lib.hid hA5
         have HE5 := Lib.hid hE5
         clear hA5 hE5
         rw [HKU.out]
         go_wp2_with fail
         go_ret
         exact ⟨by (rw [HM.out]) <;> first | rfl | (simp; done), f5, HA5.out, HE5.out, gl_step hg5 hg2 (fun r hr => .inl hr)⟩
       | false =>
         have HM : Hid (makesB (kn S) t = s.kids.all (kn S)) := by show makesB (kn S) t = _; rw [hmb, hku]; simp
         have HSE := Lib.hid hse
         have HKU := Lib.hid hku
         clear hmb hse hku hx
         go_enter Tryz.func65, Tryz.ntmps65
         go_wp2_with fail
         refine (tOpen t om_ _ HG.out).mono ?_
         rintro e w1 hp
         rw [HX.out] at hp
         obtain ⟨ad, kn, kc, rfl, hown, hb1⟩ := hp
         obtain ⟨hts, hkn, hge⟩ := own_terms hown
         clear hown
         subst hkn
         have HV1 := Lib.hid hts
         have HP1 := Lib.hid (blk_new w1 (.cells #[.int .u8 s.op.toNat, .int .i64 (numOf s), .string (bs s.text), .slice ad s.kids.length kc] 98))
         have hgn : GL [] w (w1.alloc (.cells #[.int .u8 s.op.toNat, .int .i64 (numOf s), .string (bs s.text), .slice ad s.kids.length kc] 98)) := gl_alloc (gl_below hb1 (gl_refl _ _)) _
         have HG1 := Lib.hid (gok_alloc (gok_below HG.out hb1) (.cells #[.int .u8 s.op.toNat, .int .i64 (numOf s), .string (bs s.text), .slice ad s.kids.length kc] 98))
         have HVP := Lib.hid (termsAt_glx HV1.out (gl_alloc (gl_refl [] w1) (.cells #[.int .u8 s.op.toNat, .int .i64 (numOf s), .string (bs s.text), .slice ad s.kids.length kc] 98)) si_)
         have HGE : Hid (∀ b o c, Value.slice ad s.kids.length kc = .slice (some ⟨b, o, none⟩) s.kids.length c → b ≠ bt) := fun b o c h => by have := hge b o c h; omega
         have hBb : w1.heap.size ≠ bt := by have := hb1.size; omega
         clear hts hge hb1
         go_wp2_with fail
         generalize w1.alloc (.cells #[.int .u8 s.op.toNat, .int .i64 (numOf s), .string (bs s.text), .slice ad s.kids.length kc] 98) = v1 at *
         generalize w1.heap.size = B at *
         have HA1 := Lib.hid (ask_gl HA.out hgn si_ si_ si_)
         have hg1 : GL [bt] w v1 := gl_step hgn (gl_refl [bt] w) si_
         have HV1 := HVP
         refine (dSecret t om_ _ HG1.out).mono ?_
         rintro e v2 ⟨rfl, hb2⟩
         have HP2 := Lib.hid (blk_below HP1.out hb2 (blk_lt HP1.out))
         have HV2 := Lib.hid (termsAt_glx HV1.out (gl_below hb2 (gl_refl [] v1)) si_)
         have HG2 := Lib.hid (gok_below HG1.out hb2)
         have HA2 := Lib.hid (ask_below HA1.out hb2)
         have HE2 : Hid (Ext U S m f f) := Lib.hid (ext_refl _ _ _ _)
         have hg2 : GL [bt] w v2 := gl_below hb2 hg1
         clear hb2
         rw [HSE.out]
         simp only [Option.getD_some, Option.isSome_some]
         go_wp2_with fail
         refine (kn_le IH.out u3 u1 u2 HG2.out HA2.out HT.out u4).mono ?_
         rintro e v5 ⟨rfl, f5, hA5, hE5, hg5b⟩
         have HA5 := Lib.hid hA5
         have HE5 := Lib.hid hE5
         have HG5 := Lib.hid (gok_bt HG2.out hg5b hA5.low)
         have HP5 := Lib.hid (blk_gl HP2.out hg5b (by simpa using hBb))
         have HV5 := Lib.hid (termsAt_glx HV2.out hg5b (fun b o c h => by simpa using HGE.out b o c h))
         have hg5 : GL [bt] w v5 := gl_step hg5b hg2 (fun r hr => .inl hr)
         clear hA5 hE5 hg5b
         rw [HKU.out]
         have p5a := blk_cell HP5.out
         have p5b := blk_free HP5.out
         have p5c := blk_lt HP5.out
         go_wp2_with fail
         refine (dAll IH.out s.kids HK1.out hkl m HK2.out _ A bh bt S f5 _ HG5.out HA5.out (tld_ext HT.out HE5.out) HV5.out HGE.out).mono ?_
         rintro e w9 ⟨rfl, f9, hA9, hE9, hg9⟩
         have HA9 := Lib.hid hA9
         have HE9 := Lib.hid hE9
         clear hA9 hE9
         generalize s.kids.all (kn S) = z9 at *
         go_wp2_with fail
         go_ret
         exact ⟨by (rw [HM.out]) <;> first | rfl | (simp; done), f9, HA9.out, ext_trans HE5.out HE9.out, gl_step hg9 hg5 (fun r hr => .inl hr)⟩
   have h76 : s.op.toNat = 76 := by omega
   have ne80 : (((s.op.toNat : Nat) : Int) != 80) = true := by simp [h76]
   rw [show (s.op.toNat != 80) = true by simp [h76]] at hmb
   have b80 : (((s.op.toNat : Nat) : Int) == 80) = false := by simp; omega
   have b87 : (((s.op.toNat : Nat) : Int) == 87) = false := by simp; omega
   have b76 : (((s.op.toNat : Nat) : Int) == 76) = true := by simp [h76]
   clear hpk h76 h87 h80
   cases hse : secT t with
   | none =>
     rw [hse] at hmb
     have HM : Hid (makesB (kn S) t = s.kids.all (kn S)) := by show makesB (kn S) t = _; rw [hmb]; simp
     have HSE := Lib.hid hse
     clear hmb hse hx
     go_enter Tryz.func65, Tryz.ntmps65
     go_wp2_with fail
     refine (tOpen t om_ _ HG.out).mono ?_
     rintro e w1 hp
     rw [HX.out] at hp
     obtain ⟨ad, kn, kc, rfl, hown, hb1⟩ := hp
     obtain ⟨hts, hkn, hge⟩ := own_terms hown
     clear hown
     subst hkn
     have HV1 := Lib.hid hts
     have HP1 := Lib.hid (blk_new w1 (.cells #[.int .u8 s.op.toNat, .int .i64 (numOf s), .string (bs s.text), .slice ad s.kids.length kc] 98))
     have hgn : GL [] w (w1.alloc (.cells #[.int .u8 s.op.toNat, .int .i64 (numOf s), .string (bs s.text), .slice ad s.kids.length kc] 98)) := gl_alloc (gl_below hb1 (gl_refl _ _)) _
     have HG1 := Lib.hid (gok_alloc (gok_below HG.out hb1) (.cells #[.int .u8 s.op.toNat, .int .i64 (numOf s), .string (bs s.text), .slice ad s.kids.length kc] 98))
     have HVP := Lib.hid (termsAt_glx HV1.out (gl_alloc (gl_refl [] w1) (.cells #[.int .u8 s.op.toNat, .int .i64 (numOf s), .string (bs s.text), .slice ad s.kids.length kc] 98)) si_)
     have HGE : Hid (∀ b o c, Value.slice ad s.kids.length kc = .slice (some ⟨b, o, none⟩) s.kids.length c → b ≠ bt) := fun b o c h => by have := hge b o c h; omega
     have hBb : w1.heap.size ≠ bt := by have := hb1.size; omega
     clear hts hge hb1
     go_wp2_with fail
     generalize w1.alloc (.cells #[.int .u8 s.op.toNat, .int .i64 (numOf s), .string (bs s.text), .slice ad s.kids.length kc] 98) = v1 at *
     generalize w1.heap.size = B at *
     have HA1 := Lib.hid (ask_gl HA.out hgn si_ si_ si_)
     have hg1 : GL [bt] w v1 := gl_step hgn (gl_refl [bt] w) si_
     have HV1 := HVP
     refine (dSecret t om_ _ HG1.out).mono ?_
     rintro e v2 ⟨rfl, hb2⟩
     have HP2 := Lib.hid (blk_below HP1.out hb2 (blk_lt HP1.out))
     have HV2 := Lib.hid (termsAt_glx HV1.out (gl_below hb2 (gl_refl [] v1)) si_)
     have HG2 := Lib.hid (gok_below HG1.out hb2)
     have HA2 := Lib.hid (ask_below HA1.out hb2)
     have HE2 : Hid (Ext U S m f f) := Lib.hid (ext_refl _ _ _ _)
     have hg2 : GL [bt] w v2 := gl_below hb2 hg1
     clear hb2
     rw [HSE.out]
     simp only [Option.getD_none, Option.isSome_none]
     have p2a := blk_cell HP2.out
     have p2b := blk_free HP2.out
     have p2c := blk_lt HP2.out
     go_wp2_with fail
     refine (dAll IH.out s.kids HK1.out hkl m HK2.out _ A bh bt S f _ HG2.out HA2.out HT.out HV2.out HGE.out).mono ?_
     rintro e w9 ⟨rfl, f9, hA9, hE9, hg9⟩
     have HA9 := Lib.hid hA9
     have HE9 := Lib.hid hE9
     clear hA9 hE9
     generalize s.kids.all (kn S) = z9 at *
     go_wp2_with fail
     go_ret
     exact ⟨by (rw [HM.out]) <;> first | rfl | (simp; done), f9, HA9.out, ext_trans HE2.out HE9.out, gl_step hg9 hg2 (fun r hr => .inl hr)⟩
   | some u =>
     obtain ⟨u1, u2, u3, u4⟩ := HSEC.out u hse
     rw [hse] at hmb
     simp only at hmb
     cases hku : kn S u with
     | true =>
       have HM : Hid (makesB (kn S) t = true) := by show makesB (kn S) t = true; rw [hmb, hku]; rfl
       have HSE := Lib.hid hse
       have HKU := Lib.hid hku
       clear hmb hse hku hx
       go_enter Tryz.func65, Tryz.ntmps65
       go_wp2_with fail
       refine (tOpen t om_ _ HG.out).mono ?_
       rintro e w1 hp
       rw [HX.out] at hp
       obtain ⟨ad, kn, kc, rfl, hown, hb1⟩ := hp
       obtain ⟨hts, hkn, hge⟩ := own_terms hown
       clear hown
       subst hkn
       have HV1 := Lib.hid hts
       have HP1 := Lib.hid (blk_new w1 (.cells #[.int .u8 s.op.toNat, .int .i64 (numOf s), .string (bs s.text), .slice ad s.kids.length kc] 98))
       have hgn : GL [] w (w1.alloc (.cells #[.int .u8 s.op.toNat, .int .i64 (numOf s), .string (bs s.text), .slice ad s.kids.length kc] 98)) := gl_alloc (gl_below hb1 (gl_refl _ _)) _
       have HG1 := Lib.hid (gok_alloc (gok_below HG.out hb1) (.cells #[.int .u8 s.op.toNat, .int .i64 (numOf s), .string (bs s.text), .slice ad s.kids.length kc] 98))
       have HVP := Lib.hid (termsAt_glx HV1.out (gl_alloc (gl_refl [] w1) (.cells #[.int .u8 s.op.toNat, .int .i64 (numOf s), .string (bs s.text), .slice ad s.kids.length kc] 98)) si_)
       have HGE : Hid (∀ b o c, Value.slice ad s.kids.length kc = .slice (some ⟨b, o, none⟩) s.kids.length c → b ≠ bt) := fun b o c h => by have := hge b o c h; omega
       have hBb : w1.heap.size ≠ bt := by have := hb1.size; omega
       clear hts hge hb1
       go_wp2_with fail
       generalize w1.alloc (.cells #[.int .u8 s.op.toNat, .int .i64 (numOf s), .string (bs s.text), .slice ad s.kids.length kc] 98) = v1 at *
       generalize w1.heap.size = B at *
       have HA1 := Lib.hid (ask_gl HA.out hgn si_ si_ si_)
       have hg1 : GL [bt] w v1 := gl_step hgn (gl_refl [bt] w) si_
       have HV1 := HVP
       refine (dSecret t om_ _ HG1.out).mono ?_
       rintro e v2 ⟨rfl, hb2⟩
       have HP2 := Lib.hid (blk_below HP1.out hb2 (blk_lt HP1.out))
       have HV2 := Lib.hid (termsAt_glx HV1.out (gl_below hb2 (gl_refl [] v1)) si_)
       have HG2 := Lib.hid (gok_below HG1.out hb2)
       have HA2 := Lib.hid (ask_below HA1.out hb2)
       have HE2 : Hid (Ext U S m f f) := Lib.hid (ext_refl _ _ _ _)
       have hg2 : GL [bt] w v2 := gl_below hb2 hg1
       clear hb2
       rw [HSE.out]
       simp only [Option.getD_some, Option.isSome_some]
       have p2a := blk_cell HP2.out
       have p2b := blk_free HP2.out
       have p2c := blk_lt HP2.out
       go_wp2_with fail
       refine (kn_le IH.out u3 u1 u2 HG2.out HA2.out HT.out u4).mono ?_
       rintro e w5 ⟨rfl, f5, hA5, hE5, hg5⟩
       have HA5 := Lib.hid hA5
       have HE5 := Lib.hid hE5
       clear hA5 hE5
       rw [HKU.out]
       go_wp2_with fail
       go_ret
       exact ⟨by (rw [HM.out]) <;> first | rfl | (simp; done), f5, HA5.out, HE5.out, gl_step hg5 hg2 (fun r hr => .inl hr)⟩
     | false =>
       have HM : Hid (makesB (kn S) t = s.kids.all (kn S)) := by show makesB (kn S) t = _; rw [hmb, hku]; simp
       have HSE := Lib.hid hse
       have HKU := Lib.hid hku
       clear hmb hse hku hx
       go_enter Tryz.func65, Tryz.ntmps65
       go_wp2_with fail
       refine (tOpen t om_ _ HG.out).mono ?_
       rintro e w1 hp
       rw [HX.out] at hp
       obtain ⟨ad, kn, kc, rfl, hown, hb1⟩ := hp
       obtain ⟨hts, hkn, hge⟩ := own_terms hown
       clear hown
       subst hkn
       have HV1 := Lib.hid hts
       have HP1 := Lib.hid (blk_new w1 (.cells #[.int .u8 s.op.toNat, .int .i64 (numOf s), .string (bs s.text), .slice ad s.kids.length kc] 98))
       have hgn : GL [] w (w1.alloc (.cells #[.int .u8 s.op.toNat, .int .i64 (numOf s), .string (bs s.text), .slice ad s.kids.length kc] 98)) := gl_alloc (gl_below hb1 (gl_refl _ _)) _
       have HG1 := Lib.hid (gok_alloc (gok_below HG.out hb1) (.cells #[.int .u8 s.op.toNat, .int .i64 (numOf s), .string (bs s.text), .slice ad s.kids.length kc] 98))
       have HVP := Lib.hid (termsAt_glx HV1.out (gl_alloc (gl_refl [] w1) (.cells #[.int .u8 s.op.toNat, .int .i64 (numOf s), .string (bs s.text), .slice ad s.kids.length kc] 98)) si_)
       have HGE : Hid (∀ b o c, Value.slice ad s.kids.length kc = .slice (some ⟨b, o, none⟩) s.kids.length c → b ≠ bt) := fun b o c h => by have := hge b o c h; omega
       have hBb : w1.heap.size ≠ bt := by have := hb1.size; omega
       clear hts hge hb1
       go_wp2_with fail
       generalize w1.alloc (.cells #[.int .u8 s.op.toNat, .int .i64 (numOf s), .string (bs s.text), .slice ad s.kids.length kc] 98) = v1 at *
       generalize w1.heap.size = B at *
       have HA1 := Lib.hid (ask_gl HA.out hgn si_ si_ si_)
       have hg1 : GL [bt] w v1 := gl_step hgn (gl_refl [bt] w) si_
       have HV1 := HVP
       refine (dSecret t om_ _ HG1.out).mono ?_
       rintro e v2 ⟨rfl, hb2⟩
       have HP2 := Lib.hid (blk_below HP1.out hb2 (blk_lt HP1.out))
       have HV2 := Lib.hid (termsAt_glx HV1.out (gl_below hb2 (gl_refl [] v1)) si_)
       have HG2 := Lib.hid (gok_below HG1.out hb2)
       have HA2 := Lib.hid (ask_below HA1.out hb2)
       have HE2 : Hid (Ext U S m f f) := Lib.hid (ext_refl _ _ _ _)
       have hg2 : GL [bt] w v2 := gl_below hb2 hg1
       clear hb2
       rw [HSE.out]
       simp only [Option.getD_some, Option.isSome_some]
       go_wp2_with fail
       refine (kn_le IH.out u3 u1 u2 HG2.out HA2.out HT.out u4).mono ?_
       rintro e v5 ⟨rfl, f5, hA5, hE5, hg5b⟩
       have HA5 := Lib.hid hA5
       have HE5 := Lib.hid hE5
       have HG5 := Lib.hid (gok_bt HG2.out hg5b hA5.low)
       have HP5 := Lib.hid (blk_gl HP2.out hg5b (by simpa using hBb))
       have HV5 := Lib.hid (termsAt_glx HV2.out hg5b (fun b o c h => by simpa using HGE.out b o c h))
       have hg5 : GL [bt] w v5 := gl_step hg5b hg2 (fun r hr => .inl hr)
       clear hA5 hE5 hg5b
       rw [HKU.out]
       have p5a := blk_cell HP5.out
       have p5b := blk_free HP5.out
       have p5c := blk_lt HP5.out
       go_wp2_with fail
       refine (dAll IH.out s.kids HK1.out hkl m HK2.out _ A bh bt S f5 _ HG5.out HA5.out (tld_ext HT.out HE5.out) HV5.out HGE.out).mono ?_
       rintro e w9 ⟨rfl, f9, hA9, hE9, hg9⟩
       have HA9 := Lib.hid hA9
       have HE9 := Lib.hid hE9
       clear hA9 hE9
       generalize s.kids.all (kn S) = z9 at *
       go_wp2_with fail
       go_ret
       exact ⟨by (rw [HM.out]) <;> first | rfl | (simp; done), f9, HA9.out, ext_trans HE5.out HE9.out, gl_step hg9 hg5 (fun r hr => .inl hr)⟩
 rw [if_neg hpk] at hmb
 have HM := Lib.hid hmb
 clear hmb hx
 have b80 : (((s.op.toNat : Nat) : Int) == 80) = false := by simp; omega
 have b87 : (((s.op.toNat : Nat) : Int) == 87) = false := by simp; omega
 have b76 : (((s.op.toNat : Nat) : Int) == 76) = false := by simp; omega
 go_enter Tryz.func65, Tryz.ntmps65
 go_wp2_with fail
 refine (tOpen t om_ _ HG.out).mono ?_
 rintro e w1 hp
 rw [HX.out] at hp
 obtain ⟨ad, kn, kc, rfl, hown, hb1⟩ := hp
 obtain ⟨hts, hkn, hge⟩ := own_terms hown
 clear hown
 subst hkn
 have HV1 := Lib.hid hts
 have HP1 := Lib.hid (blk_new w1 (.cells #[.int .u8 s.op.toNat, .int .i64 (numOf s), .string (bs s.text), .slice ad s.kids.length kc] 98))
 have hgn : GL [] w (w1.alloc (.cells #[.int .u8 s.op.toNat, .int .i64 (numOf s), .string (bs s.text), .slice ad s.kids.length kc] 98)) := gl_alloc (gl_below hb1 (gl_refl _ _)) _
 have HG1 := Lib.hid (gok_alloc (gok_below HG.out hb1) (.cells #[.int .u8 s.op.toNat, .int .i64 (numOf s), .string (bs s.text), .slice ad s.kids.length kc] 98))
 have HVP := Lib.hid (termsAt_glx HV1.out (gl_alloc (gl_refl [] w1) (.cells #[.int .u8 s.op.toNat, .int .i64 (numOf s), .string (bs s.text), .slice ad s.kids.length kc] 98)) si_)
 have HGE : Hid (∀ b o c, Value.slice ad s.kids.length kc = .slice (some ⟨b, o, none⟩) s.kids.length c → b ≠ bt) := fun b o c h => by have := hge b o c h; omega
 have hBb : w1.heap.size ≠ bt := by have := hb1.size; omega
 clear hts hge hb1
 go_wp2_with fail
 generalize w1.alloc (.cells #[.int .u8 s.op.toNat, .int .i64 (numOf s), .string (bs s.text), .slice ad s.kids.length kc] 98) = v1 at *
 generalize w1.heap.size = B at *
 have HA1 := Lib.hid (ask_gl HA.out hgn si_ si_ si_)
 have hg1 : GL [bt] w v1 := gl_step hgn (gl_refl [bt] w) si_
 have HV1 := HVP
 refine (dAll IH.out s.kids HK1.out hkl m HK2.out _ A bh bt S f _ HG1.out HA1.out HT.out HV1.out HGE.out).mono ?_
 rintro e w9 ⟨rfl, f9, hA9, hE9, hg9⟩
 have HA9 := Lib.hid hA9
 have HE9 := Lib.hid hE9
 clear hA9 hE9
 generalize s.kids.all (kn S) = z9 at *
 go_wp2_with fail
 go_ret
 exact ⟨by (rw [HM.out]) <;> first | rfl | (simp; done), f9, HA9.out, HE9.out, gl_step hg9 hg1 (fun r hr => .inl hr)⟩
end Go.Proofs.YtaaiaahkakkleaaGreatDoor
