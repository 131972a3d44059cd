/- LockMore: both locks are put together in a region that draws its order: what each operation gives. -/
import Derived.Test.YtfmckibiblhakaaGreatDoorLawX0
import Derived.Test.YtfmckibiblhakaaGreatDoorRegInv
set_option linter.unusedSimpArgs false
set_option linter.unusedVariables false
namespace Go.Proofs.YtfmckibiblhakaaGreatDoor
open Go.RowKit

mutual
theorem lockIn_and {p q : Nat → Prop} {w : World} : ∀ (x : LT) (v : Value), LockIn p w x v → LockIn q w x v → LockIn (fun b => p b ∧ q b) w x v
  | .mk k t n kids, v, h, h' => by
    unfold LockIn at h h' ⊢
    obtain ⟨h1, h2, h3, h4, ks, h5, h6⟩ := h
    obtain ⟨_, _, _, _, ks', h5', h6'⟩ := h'
    have e : ks' = ks := by
      rw [h5] at h5'
      injection h5' with e
      have e := congrArg Array.toList e
      simp only [List.cons.injEq, and_true, true_and] at e
      exact e.symm
    subst e
    refine ⟨h1, h2, h3, h4, ks', h5, ?_⟩
    rcases h6 with h | ⟨b, o, c, e, hb, hp, hr⟩
    · exact .inl h
    · rcases h6' with ⟨ad, c', e', hk⟩ | ⟨b', o', c', e', hb', hp', hr'⟩
      · exact .inl ⟨ad, c', e', hk⟩
      · rw [e] at e'
        injection e' with e1 e2 e3
        injection e1 with e1
        injection e1 with e4 e5
        subst e4 e5
        exact .inr ⟨b, o, c, e, hb, ⟨hp, hp'⟩, rowIn_and kids b o hr hr'⟩
theorem rowIn_and {p q : Nat → Prop} {w : World} : ∀ (l : List LT) (b o : Nat), RowIn p w l b o → RowIn q w l b o → RowIn (fun b => p b ∧ q b) w l b o
  | [], _, _, _, _ => by unfold RowIn; trivial
  | x :: r, b, o, h, h' => by
    unfold RowIn at h h' ⊢
    obtain ⟨⟨c0, c1, c2, c3, hx, g0, g1, g2, g3⟩, hr⟩ := h
    obtain ⟨⟨d0, d1, d2, d3, hx', k0, k1, k2, k3⟩, hr'⟩ := h'
    rw [g0] at k0; rw [g1] at k1; rw [g2] at k2; rw [g3] at k3
    injection k0 with k0; injection k1 with k1; injection k2 with k2; injection k3 with k3
    subst k0 k1 k2 k3
    exact ⟨⟨c0, c1, c2, c3, lockIn_and x _ hx hx', g0, g1, g2, g3⟩, rowIn_and r b (o + 4) hr hr'⟩
end
/-- A condition on each value, one on each two. -/
def JSR (S : Nat → Value → World → Prop) (R : Nat → Nat → Value → Value → World → Prop) (m : Nat → Option Value) (w : World) : Prop :=
  (∀ i v, m i = some v → S i v w) ∧ ∀ i j v u, m i = some v → m j = some u → R i j v u w
theorem jsr_upd {S : Nat → Value → World → Prop} {R : Nat → Nat → Value → Value → World → Prop} (hS : ∀ i v w w', S i v w → GL [] w w' → S i v w') (hR : ∀ i j v u w w', R i j v u w → GL [] w w' → R i j v u w')
    {m : Nat → Option Value} {w w' : World} {i : Nat} {v : Value} (h : JSR S R m w) (hg : GL [] w w') (hs : S i v w') (hi : R i i v v w') (hr : ∀ j u, m j = some u → R i j v u w' ∧ R j i u v w') : JSR S R (updV m i v) w' := by
  refine ⟨fun j u hj => ?_, fun j k u t hj hk => ?_⟩
  · unfold updV at hj
    split at hj
    · rename_i e; subst e; cases hj; exact hs
    · exact hS _ _ _ _ (h.1 j u hj) hg
  · unfold updV at hj hk
    split at hj
    · rename_i e; subst e; cases hj
      split at hk
      · rename_i e; subst e; cases hk; exact hi
      · exact (hr k t hk).1
    · split at hk
      · rename_i e; subst e; cases hk; exact (hr j u hj).2
      · exact hR _ _ _ _ _ _ (h.2 j k u t hj hk) hg
section
variable (w0 : World) (a b : LT) (va vb : Value) (row : Array Value)
def RowB (v : Value) (w : World) : Prop := ∃ N, v = .slice (some ⟨N, 0, none⟩) 2 2 ∧ w.heap[N]? = some (.cells row 25 (0, 0))
def BothV (k : Int) (v : Value) (w : World) : Prop := (∃ ad c, v = .agg #[.int .u8 k, .string (bs []), .int .i64 0, .slice ad 2 c]) ∧ LockIn (fun _ => True) w (.mk k [] 0 [a, b]) v
def VarV (v : Value) (w : World) : Prop := ∃ A, v = .pointer (some ⟨A, 0, none⟩) ∧ w0.heap.size ≤ A ∧ w.heap[A]? = some (.cells #[.int .u8 0, .string (bs []), .int .i64 0, .slice none 0 0] 25 (0, 0))
def ApartV (k : Int) (v u : Value) (w : World) : Prop := ∀ A, u = .pointer (some ⟨A, 0, none⟩) → LockIn (fun b => b ≠ A) w (.mk k [] 0 [a, b]) v
def S13 (i : Nat) (v : Value) (w : World) : Prop :=
  (i = 0 ∨ i = 4 → v = va) ∧ (i = 1 ∨ i = 5 → v = vb) ∧ (i = 2 ∨ i = 6 → RowB row v w) ∧ (i = 3 → BothV a b 5 v w) ∧ (i = 7 → BothV a b 6 v w) ∧ (i = 8 ∨ i = 9 → VarV w0 v w)
def R13 (i j : Nat) (v u : Value) (w : World) : Prop := (i = 3 ∧ (j = 8 ∨ j = 9) → ApartV a b 5 v u w) ∧ (i = 7 ∧ (j = 8 ∨ j = 9) → ApartV a b 6 v u w) ∧ (i = 8 ∧ j = 9 → u ≠ v)
theorem s13_gl (i : Nat) (v : Value) (w w' : World) (h : S13 w0 a b va vb row i v w) (hg : GL [] w w') : S13 w0 a b va vb row i v w' := by
  obtain ⟨h1, h2, h3, h4, h5, h6⟩ := h
  refine ⟨h1, h2, fun h => ?_, fun h => ⟨(h4 h).1, lockIn_gl hg _ _ (h4 h).2⟩, fun h => ⟨(h5 h).1, lockIn_gl hg _ _ (h5 h).2⟩, fun h => ?_⟩
  · obtain ⟨N, e, hN⟩ := h3 h
    exact ⟨N, e, blk_gl hN hg (by simp)⟩
  · obtain ⟨A, e, hA, hN⟩ := h6 h
    exact ⟨A, e, hA, blk_gl hN hg (by simp)⟩
theorem r13_gl (i j : Nat) (v u : Value) (w w' : World) (h : R13 a b i j v u w) (hg : GL [] w w') : R13 a b i j v u w' := by
  obtain ⟨h1, h2, h3⟩ := h
  exact ⟨fun h A e => lockIn_gl hg _ _ (h1 h A e), fun h A e => lockIn_gl hg _ _ (h2 h A e), h3⟩
end
def d13 : List (Option Nat) := [some 114, some 115, some 116, some 117, some 118, some 119, some 120, some 121, some 21, some 22]
/- BEGIN STEPS -/
theorem lkBothAll (ka na kb nb : Int) (ta tb : List UInt8) (ksa ksb : List LT) (ada adb : Option Addr) (ca cb : Nat) (w W : World) (hgw : GL [] w W) (N : Nat) (hN : W.heap[N]? = some (.cells #[.int .u8 ka, .string (bs ta), .int .i64 na, .slice ada ksa.length ca, .int .u8 kb, .string (bs tb), .int .i64 nb, .slice adb ksb.length cb] 25 (0, 0)))
    (ha : LockIn (fun _ => True) w (.mk ka ta na ksa) (.agg #[.int .u8 ka, .string (bs ta), .int .i64 na, .slice ada ksa.length ca])) (hb : LockIn (fun _ => True) w (.mk kb tb nb ksb) (.agg #[.int .u8 kb, .string (bs tb), .int .i64 nb, .slice adb ksb.length cb])) :
    Calls Tryz.prog 31 #[.slice (some ⟨N, 0, none⟩) 2 2] W fun e w' => Below W.heap.size W w' ∧ ∃ v, e = .returned v ∧ LockIn (fun b => b < w.heap.size ∨ W.heap.size ≤ b) w' (.mk 5 [] 0 [(.mk ka ta na ksa), (.mk kb tb nb ksb)]) v := by
  refine lkAllF [(.mk ka ta na ksa), (.mk kb tb nb ksb)] N 0 2 (fun b => b < w.heap.size) (by simp) (by simp) W (blk_lt hN) ?_
  unfold RowIn RowIn RowIn
  exact ⟨⟨_, _, _, _, lockIn_gl hgw _ _ (lockIn_mono (fun b hb _ => hb) _ _ ha), blk_cell hN 0, blk_cell hN 1, blk_cell hN 2, blk_cell hN 3⟩, ⟨_, _, _, _, lockIn_gl hgw _ _ (lockIn_mono (fun b hb _ => hb) _ _ hb), blk_cell hN 4, blk_cell hN 5, blk_cell hN 6, blk_cell hN 7⟩, trivial⟩
theorem lkBothAny (ka na kb nb : Int) (ta tb : List UInt8) (ksa ksb : List LT) (ada adb : Option Addr) (ca cb : Nat) (w W : World) (hgw : GL [] w W) (N : Nat) (hN : W.heap[N]? = some (.cells #[.int .u8 ka, .string (bs ta), .int .i64 na, .slice ada ksa.length ca, .int .u8 kb, .string (bs tb), .int .i64 nb, .slice adb ksb.length cb] 25 (0, 0)))
    (ha : LockIn (fun _ => True) w (.mk ka ta na ksa) (.agg #[.int .u8 ka, .string (bs ta), .int .i64 na, .slice ada ksa.length ca])) (hb : LockIn (fun _ => True) w (.mk kb tb nb ksb) (.agg #[.int .u8 kb, .string (bs tb), .int .i64 nb, .slice adb ksb.length cb])) :
    Calls Tryz.prog 32 #[.slice (some ⟨N, 0, none⟩) 2 2] W fun e w' => Below W.heap.size W w' ∧ ∃ v, e = .returned v ∧ LockIn (fun b => b < w.heap.size ∨ W.heap.size ≤ b) w' (.mk 6 [] 0 [(.mk ka ta na ksa), (.mk kb tb nb ksb)]) v := by
  refine lkAnyF [(.mk ka ta na ksa), (.mk kb tb nb ksb)] N 0 2 (fun b => b < w.heap.size) (by simp) (by simp) W (blk_lt hN) ?_
  unfold RowIn RowIn RowIn
  exact ⟨⟨_, _, _, _, lockIn_gl hgw _ _ (lockIn_mono (fun b hb _ => hb) _ _ ha), blk_cell hN 0, blk_cell hN 1, blk_cell hN 2, blk_cell hN 3⟩, ⟨_, _, _, _, lockIn_gl hgw _ _ (lockIn_mono (fun b hb _ => hb) _ _ hb), blk_cell hN 4, blk_cell hN 5, blk_cell hN 6, blk_cell hN 7⟩, trivial⟩
theorem r13_idle (a b : LT) (i : Nat) (hi : i ≠ 3 ∧ i ≠ 7 ∧ i ≠ 8 ∧ i ≠ 9) (j : Nat) (v u : Value) (w : World) : R13 a b i j v u w ∧ R13 a b j i u v w :=
  ⟨⟨fun h => by omega, fun h => by omega, fun h => by omega⟩, ⟨fun h => by omega, fun h => by omega, fun h => by omega⟩⟩
section
variable {ops : Array Oper} {Q : Exit → Act → World → Prop} {a0 : Act} {w0 : World} {ka na kb nb : Int} {ta tb : List UInt8} {ksa ksb : List LT} {ada adb : Option Addr} {ca cb : Nat} {af : Array Edge} {ty : Nat} {pos : String} {at_ : Array TypeId}
set_option maxRecDepth 100000 in
set_option maxHeartbeats 2000000 in
theorem y13_0 {A : Nat} (e1 : a0.tmps[8]? = some (.pointer (some ⟨A, 0, none⟩))) (HA : w0.heap[A]? = some (.cells #[.int .u8 ka, .string (bs ta), .int .i64 na, .slice ada ksa.length ca] 25 (0, 0))) : StepJ Tryz.prog ops Q a0 w0 d13 (JSR (S13 w0 (.mk ka ta na ksa) (.mk kb tb nb ksb) (.agg #[.int .u8 ka, .string (bs ta), .int .i64 na, .slice ada ksa.length ca]) (.agg #[.int .u8 kb, .string (bs tb), .int .i64 nb, .slice adb ksb.length cb]) #[.int .u8 ka, .string (bs ta), .int .i64 na, .slice ada ksa.length ca, .int .u8 kb, .string (bs tb), .int .i64 nb, .slice adb ksb.length cb]) (R13 (.mk ka ta na ksa) (.mk kb tb nb ksb))) 0 { dst := some 114, op := .load 25 (.tmp 8), type := ty, pos := pos, after := af, guard := none } := by
  intro a w m hgl hout hJ hmi hdep hval K hK
  rw [if_pos (by simp [Region.wanted])]
  have e2 := (hout 8 (by decide)).trans e1
  have b1 := blk_cell (blk_gl HA hgl (by simp))
  have HJ := Lib.hid hJ
  clear hout hdep hval e1 hmi hJ
  go_simp
  exact hK _ _ (jsr_upd (s13_gl _ _ _ _ _ _) (r13_gl _ _) HJ.out (gl_refl _ _) ⟨fun _ => rfl, fun h => by omega, fun h => by omega, fun h => by omega, fun h => by omega, fun h => by omega⟩ (r13_idle _ _ 0 (by omega) _ _ _ _).1 (fun j u _ => r13_idle _ _ 0 (by omega) _ _ _ _)) (gl_refl _ _)
set_option maxRecDepth 100000 in
set_option maxHeartbeats 2000000 in
theorem y13_1 {A : Nat} (e1 : a0.tmps[9]? = some (.pointer (some ⟨A, 0, none⟩))) (HA : w0.heap[A]? = some (.cells #[.int .u8 kb, .string (bs tb), .int .i64 nb, .slice adb ksb.length cb] 25 (0, 0))) : StepJ Tryz.prog ops Q a0 w0 d13 (JSR (S13 w0 (.mk ka ta na ksa) (.mk kb tb nb ksb) (.agg #[.int .u8 ka, .string (bs ta), .int .i64 na, .slice ada ksa.length ca]) (.agg #[.int .u8 kb, .string (bs tb), .int .i64 nb, .slice adb ksb.length cb]) #[.int .u8 ka, .string (bs ta), .int .i64 na, .slice ada ksa.length ca, .int .u8 kb, .string (bs tb), .int .i64 nb, .slice adb ksb.length cb]) (R13 (.mk ka ta na ksa) (.mk kb tb nb ksb))) 1 { dst := some 115, op := .load 25 (.tmp 9), type := ty, pos := pos, after := af, guard := none } := by
  intro a w m hgl hout hJ hmi hdep hval K hK
  rw [if_pos (by simp [Region.wanted])]
  have e2 := (hout 9 (by decide)).trans e1
  have b1 := blk_cell (blk_gl HA hgl (by simp))
  have HJ := Lib.hid hJ
  clear hout hdep hval e1 hmi hJ
  go_simp
  exact hK _ _ (jsr_upd (s13_gl _ _ _ _ _ _) (r13_gl _ _) HJ.out (gl_refl _ _) ⟨fun h => by omega, fun _ => rfl, fun h => by omega, fun h => by omega, fun h => by omega, fun h => by omega⟩ (r13_idle _ _ 1 (by omega) _ _ _ _).1 (fun j u _ => r13_idle _ _ 1 (by omega) _ _ _ _)) (gl_refl _ _)
set_option maxRecDepth 100000 in
set_option maxHeartbeats 2000000 in
theorem y13_4 {A : Nat} (e1 : a0.tmps[8]? = some (.pointer (some ⟨A, 0, none⟩))) (HA : w0.heap[A]? = some (.cells #[.int .u8 ka, .string (bs ta), .int .i64 na, .slice ada ksa.length ca] 25 (0, 0))) : StepJ Tryz.prog ops Q a0 w0 d13 (JSR (S13 w0 (.mk ka ta na ksa) (.mk kb tb nb ksb) (.agg #[.int .u8 ka, .string (bs ta), .int .i64 na, .slice ada ksa.length ca]) (.agg #[.int .u8 kb, .string (bs tb), .int .i64 nb, .slice adb ksb.length cb]) #[.int .u8 ka, .string (bs ta), .int .i64 na, .slice ada ksa.length ca, .int .u8 kb, .string (bs tb), .int .i64 nb, .slice adb ksb.length cb]) (R13 (.mk ka ta na ksa) (.mk kb tb nb ksb))) 4 { dst := some 118, op := .load 25 (.tmp 8), type := ty, pos := pos, after := af, guard := none } := by
  intro a w m hgl hout hJ hmi hdep hval K hK
  rw [if_pos (by simp [Region.wanted])]
  have e2 := (hout 8 (by decide)).trans e1
  have b1 := blk_cell (blk_gl HA hgl (by simp))
  have HJ := Lib.hid hJ
  clear hout hdep hval e1 hmi hJ
  go_simp
  exact hK _ _ (jsr_upd (s13_gl _ _ _ _ _ _) (r13_gl _ _) HJ.out (gl_refl _ _) ⟨fun _ => rfl, fun h => by omega, fun h => by omega, fun h => by omega, fun h => by omega, fun h => by omega⟩ (r13_idle _ _ 4 (by omega) _ _ _ _).1 (fun j u _ => r13_idle _ _ 4 (by omega) _ _ _ _)) (gl_refl _ _)
set_option maxRecDepth 100000 in
set_option maxHeartbeats 2000000 in
theorem y13_5 {A : Nat} (e1 : a0.tmps[9]? = some (.pointer (some ⟨A, 0, none⟩))) (HA : w0.heap[A]? = some (.cells #[.int .u8 kb, .string (bs tb), .int .i64 nb, .slice adb ksb.length cb] 25 (0, 0))) : StepJ Tryz.prog ops Q a0 w0 d13 (JSR (S13 w0 (.mk ka ta na ksa) (.mk kb tb nb ksb) (.agg #[.int .u8 ka, .string (bs ta), .int .i64 na, .slice ada ksa.length ca]) (.agg #[.int .u8 kb, .string (bs tb), .int .i64 nb, .slice adb ksb.length cb]) #[.int .u8 ka, .string (bs ta), .int .i64 na, .slice ada ksa.length ca, .int .u8 kb, .string (bs tb), .int .i64 nb, .slice adb ksb.length cb]) (R13 (.mk ka ta na ksa) (.mk kb tb nb ksb))) 5 { dst := some 119, op := .load 25 (.tmp 9), type := ty, pos := pos, after := af, guard := none } := by
  intro a w m hgl hout hJ hmi hdep hval K hK
  rw [if_pos (by simp [Region.wanted])]
  have e2 := (hout 9 (by decide)).trans e1
  have b1 := blk_cell (blk_gl HA hgl (by simp))
  have HJ := Lib.hid hJ
  clear hout hdep hval e1 hmi hJ
  go_simp
  exact hK _ _ (jsr_upd (s13_gl _ _ _ _ _ _) (r13_gl _ _) HJ.out (gl_refl _ _) ⟨fun h => by omega, fun _ => rfl, fun h => by omega, fun h => by omega, fun h => by omega, fun h => by omega⟩ (r13_idle _ _ 5 (by omega) _ _ _ _).1 (fun j u _ => r13_idle _ _ 5 (by omega) _ _ _ _)) (gl_refl _ _)
set_option maxRecDepth 100000 in
set_option maxHeartbeats 2000000 in
theorem y13_2 (hx : (⟨0, .data⟩ : Edge) ∈ af.toList) (hy : (⟨1, .data⟩ : Edge) ∈ af.toList) : StepJ Tryz.prog ops Q a0 w0 d13 (JSR (S13 w0 (.mk ka ta na ksa) (.mk kb tb nb ksb) (.agg #[.int .u8 ka, .string (bs ta), .int .i64 na, .slice ada ksa.length ca]) (.agg #[.int .u8 kb, .string (bs tb), .int .i64 nb, .slice adb ksb.length cb]) #[.int .u8 ka, .string (bs ta), .int .i64 na, .slice ada ksa.length ca, .int .u8 kb, .string (bs tb), .int .i64 nb, .slice adb ksb.length cb]) (R13 (.mk ka ta na ksa) (.mk kb tb nb ksb))) 2 { dst := some 116, op := .buildSlice 23 2 #[(0, .tmp 114), (1, .tmp 115)], type := ty, pos := pos, after := af, guard := none } := by
  intro a w m hgl hout hJ hmi hdep hval K hK
  rw [if_pos (by simp [Region.wanted])]
  obtain ⟨vx, hvx⟩ := hdep ⟨0, .data⟩ hx rfl
  obtain ⟨vy, hvy⟩ := hdep ⟨1, .data⟩ hy rfl
  have ex := hval 0 vx 114 hvx rfl
  have ey := hval 1 vy 115 hvy rfl
  have qx := (hJ.1 0 vx hvx).1 (by omega)
  have qy := (hJ.1 1 vy hvy).2.1 (by omega)
  subst qx qy
  have HJ := Lib.hid hJ
  clear hout hdep hval hmi hJ hvx hvy
  go_simp
  exact hK _ _ (jsr_upd (s13_gl _ _ _ _ _ _) (r13_gl _ _) HJ.out (gl_alloc (gl_refl _ _) _) ⟨fun h => by omega, fun h => by omega, fun _ => ⟨w.heap.size, rfl, blk_new w _⟩, fun h => by omega, fun h => by omega, fun h => by omega⟩ (r13_idle _ _ 2 (by omega) _ _ _ _).1 (fun j u _ => r13_idle _ _ 2 (by omega) _ _ _ _)) (gl_alloc (gl_refl _ _) _)
set_option maxRecDepth 100000 in
set_option maxHeartbeats 2000000 in
theorem y13_6 (hx : (⟨4, .data⟩ : Edge) ∈ af.toList) (hy : (⟨5, .data⟩ : Edge) ∈ af.toList) : StepJ Tryz.prog ops Q a0 w0 d13 (JSR (S13 w0 (.mk ka ta na ksa) (.mk kb tb nb ksb) (.agg #[.int .u8 ka, .string (bs ta), .int .i64 na, .slice ada ksa.length ca]) (.agg #[.int .u8 kb, .string (bs tb), .int .i64 nb, .slice adb ksb.length cb]) #[.int .u8 ka, .string (bs ta), .int .i64 na, .slice ada ksa.length ca, .int .u8 kb, .string (bs tb), .int .i64 nb, .slice adb ksb.length cb]) (R13 (.mk ka ta na ksa) (.mk kb tb nb ksb))) 6 { dst := some 120, op := .buildSlice 23 2 #[(0, .tmp 118), (1, .tmp 119)], type := ty, pos := pos, after := af, guard := none } := by
  intro a w m hgl hout hJ hmi hdep hval K hK
  rw [if_pos (by simp [Region.wanted])]
  obtain ⟨vx, hvx⟩ := hdep ⟨4, .data⟩ hx rfl
  obtain ⟨vy, hvy⟩ := hdep ⟨5, .data⟩ hy rfl
  have ex := hval 4 vx 118 hvx rfl
  have ey := hval 5 vy 119 hvy rfl
  have qx := (hJ.1 4 vx hvx).1 (by omega)
  have qy := (hJ.1 5 vy hvy).2.1 (by omega)
  subst qx qy
  have HJ := Lib.hid hJ
  clear hout hdep hval hmi hJ hvx hvy
  go_simp
  exact hK _ _ (jsr_upd (s13_gl _ _ _ _ _ _) (r13_gl _ _) HJ.out (gl_alloc (gl_refl _ _) _) ⟨fun h => by omega, fun h => by omega, fun _ => ⟨w.heap.size, rfl, blk_new w _⟩, fun h => by omega, fun h => by omega, fun h => by omega⟩ (r13_idle _ _ 6 (by omega) _ _ _ _).1 (fun j u _ => r13_idle _ _ 6 (by omega) _ _ _ _)) (gl_alloc (gl_refl _ _) _)
set_option maxRecDepth 100000 in
set_option maxHeartbeats 2000000 in
theorem y13_3 (hx : (⟨2, .data⟩ : Edge) ∈ af.toList) (ha : LockIn (fun _ => True) w0 (.mk ka ta na ksa) (.agg #[.int .u8 ka, .string (bs ta), .int .i64 na, .slice ada ksa.length ca])) (hb : LockIn (fun _ => True) w0 (.mk kb tb nb ksb) (.agg #[.int .u8 kb, .string (bs tb), .int .i64 nb, .slice adb ksb.length cb])) : StepJ Tryz.prog ops Q a0 w0 d13 (JSR (S13 w0 (.mk ka ta na ksa) (.mk kb tb nb ksb) (.agg #[.int .u8 ka, .string (bs ta), .int .i64 na, .slice ada ksa.length ca]) (.agg #[.int .u8 kb, .string (bs tb), .int .i64 nb, .slice adb ksb.length cb]) #[.int .u8 ka, .string (bs ta), .int .i64 na, .slice ada ksa.length ca, .int .u8 kb, .string (bs tb), .int .i64 nb, .slice adb ksb.length cb]) (R13 (.mk ka ta na ksa) (.mk kb tb nb ksb))) 3 { dst := some 117, op := .call { callee := .value (.func 31), args := #[.tmp 116], argTypes := at_ }, type := ty, pos := pos, after := af, guard := none } := by
  intro a w m hgl hout hJ hmi hdep hval K hK
  rw [if_pos (by simp [Region.wanted])]
  obtain ⟨vx, hvx⟩ := hdep ⟨2, .data⟩ hx rfl
  have ex := hval 2 vx 116 hvx rfl
  obtain ⟨N, qx, hN⟩ := (hJ.1 2 vx hvx).2.2.1 (by omega)
  subst qx
  have HC := Lib.hid (lkBothAll ka na kb nb ta tb ksa ksb ada adb ca cb w0 w hgl N hN ha hb)
  have HJ := Lib.hid hJ
  clear hout hdep hval hmi hJ hvx hN
  go_simp
  refine HC.out.mono ?_
  rintro e w1 ⟨hb1, v, rfl, hl⟩
  obtain ⟨ad, c, hv, _⟩ := lockIn_open hl
  subst hv
  refine hK _ _ (jsr_upd (s13_gl _ _ _ _ _ _) (r13_gl _ _) HJ.out (gl_below hb1 (gl_refl _ _)) ⟨fun h => by omega, fun h => by omega, fun h => by omega, fun _ => ⟨⟨ad, c, rfl⟩, lockIn_mono (fun _ _ _ => trivial) _ _ hl⟩, fun h => by omega, fun h => by omega⟩ ⟨fun h => by omega, fun h => by omega, fun h => by omega⟩ (fun j u hj => ⟨⟨fun h A eA => by
      obtain ⟨A', e2, hA1, hA2⟩ := (HJ.out.1 j u hj).2.2.2.2.2 (by omega)
      rw [e2] at eA
      injection eA with eA
      injection eA with eA
      injection eA with eA
      have hlt := blk_lt hA2
      exact lockIn_mono (fun c hc hp => by omega) _ _ hl, fun h => by omega, fun h => by omega⟩, ⟨fun h => by omega, fun h => by omega, fun h => by omega⟩⟩)) (gl_below hb1 (gl_refl _ _))
set_option maxRecDepth 100000 in
set_option maxHeartbeats 2000000 in
theorem y13_7 (hx : (⟨6, .data⟩ : Edge) ∈ af.toList) (ha : LockIn (fun _ => True) w0 (.mk ka ta na ksa) (.agg #[.int .u8 ka, .string (bs ta), .int .i64 na, .slice ada ksa.length ca])) (hb : LockIn (fun _ => True) w0 (.mk kb tb nb ksb) (.agg #[.int .u8 kb, .string (bs tb), .int .i64 nb, .slice adb ksb.length cb])) : StepJ Tryz.prog ops Q a0 w0 d13 (JSR (S13 w0 (.mk ka ta na ksa) (.mk kb tb nb ksb) (.agg #[.int .u8 ka, .string (bs ta), .int .i64 na, .slice ada ksa.length ca]) (.agg #[.int .u8 kb, .string (bs tb), .int .i64 nb, .slice adb ksb.length cb]) #[.int .u8 ka, .string (bs ta), .int .i64 na, .slice ada ksa.length ca, .int .u8 kb, .string (bs tb), .int .i64 nb, .slice adb ksb.length cb]) (R13 (.mk ka ta na ksa) (.mk kb tb nb ksb))) 7 { dst := some 121, op := .call { callee := .value (.func 32), args := #[.tmp 120], argTypes := at_ }, type := ty, pos := pos, after := af, guard := none } := by
  intro a w m hgl hout hJ hmi hdep hval K hK
  rw [if_pos (by simp [Region.wanted])]
  obtain ⟨vx, hvx⟩ := hdep ⟨6, .data⟩ hx rfl
  have ex := hval 6 vx 120 hvx rfl
  obtain ⟨N, qx, hN⟩ := (hJ.1 6 vx hvx).2.2.1 (by omega)
  subst qx
  have HC := Lib.hid (lkBothAny ka na kb nb ta tb ksa ksb ada adb ca cb w0 w hgl N hN ha hb)
  have HJ := Lib.hid hJ
  clear hout hdep hval hmi hJ hvx hN
  go_simp
  refine HC.out.mono ?_
  rintro e w1 ⟨hb1, v, rfl, hl⟩
  obtain ⟨ad, c, hv, _⟩ := lockIn_open hl
  subst hv
  refine hK _ _ (jsr_upd (s13_gl _ _ _ _ _ _) (r13_gl _ _) HJ.out (gl_below hb1 (gl_refl _ _)) ⟨fun h => by omega, fun h => by omega, fun h => by omega, fun h => by omega, fun _ => ⟨⟨ad, c, rfl⟩, lockIn_mono (fun _ _ _ => trivial) _ _ hl⟩, fun h => by omega⟩ ⟨fun h => by omega, fun h => by omega, fun h => by omega⟩ (fun j u hj => ⟨⟨fun h => by omega, fun h A eA => by
      obtain ⟨A', e2, hA1, hA2⟩ := (HJ.out.1 j u hj).2.2.2.2.2 (by omega)
      rw [e2] at eA
      injection eA with eA
      injection eA with eA
      injection eA with eA
      have hlt := blk_lt hA2
      exact lockIn_mono (fun c hc hp => by omega) _ _ hl, fun h => by omega⟩, ⟨fun h => by omega, fun h => by omega, fun h => by omega⟩⟩)) (gl_below hb1 (gl_refl _ _))
set_option maxRecDepth 100000 in
set_option maxHeartbeats 2000000 in
theorem y13_8 : StepJ Tryz.prog ops Q a0 w0 d13 (JSR (S13 w0 (.mk ka ta na ksa) (.mk kb tb nb ksb) (.agg #[.int .u8 ka, .string (bs ta), .int .i64 na, .slice ada ksa.length ca]) (.agg #[.int .u8 kb, .string (bs tb), .int .i64 nb, .slice adb ksb.length cb]) #[.int .u8 ka, .string (bs ta), .int .i64 na, .slice ada ksa.length ca, .int .u8 kb, .string (bs tb), .int .i64 nb, .slice adb ksb.length cb]) (R13 (.mk ka ta na ksa) (.mk kb tb nb ksb))) 8 { dst := some 21, op := .alloc 25, type := ty, pos := pos, after := af, guard := none } := by
  intro a w m hgl hout hJ hmi hdep hval K hK
  rw [if_pos (by simp [Region.wanted])]
  have HJ := Lib.hid hJ
  have hsz := hgl.size
  clear hout hdep hval hmi hJ
  go_simp
  refine hK _ _ (jsr_upd (s13_gl _ _ _ _ _ _) (r13_gl _ _) HJ.out (gl_alloc (gl_refl _ _) _) ⟨fun h => by omega, fun h => by omega, fun h => by omega, fun h => by omega, fun h => by omega, fun _ => ⟨w.heap.size, rfl, hsz, blk_new w _⟩⟩ ⟨fun h => by omega, fun h => by omega, fun h => by omega⟩ (fun j u hj => ⟨⟨fun h => by omega, fun h => by omega, fun h => by
      obtain ⟨A', e2, hA1, hA2⟩ := (HJ.out.1 j u hj).2.2.2.2.2 (by omega)
      have hlt := blk_lt hA2
      rw [e2]
      intro eA
      injection eA with eA
      injection eA with eA
      injection eA with eA
      omega⟩, ⟨fun h A eA => by
      injection eA with eA
      injection eA with eA
      injection eA with eA
      have hlk := ((HJ.out.1 j u hj).2.2.2.1 (by omega)).2
      exact lockIn_gl (gl_alloc (gl_refl _ _) _) _ _ (lockIn_mono (fun c hc _ => by omega) _ _ hlk), fun h A eA => by
      injection eA with eA
      injection eA with eA
      injection eA with eA
      have hlk := ((HJ.out.1 j u hj).2.2.2.2.1 (by omega)).2
      exact lockIn_gl (gl_alloc (gl_refl _ _) _) _ _ (lockIn_mono (fun c hc _ => by omega) _ _ hlk), fun h => by
      obtain ⟨A', e2, hA1, hA2⟩ := (HJ.out.1 j u hj).2.2.2.2.2 (by omega)
      have hlt := blk_lt hA2
      rw [e2]
      intro eA
      injection eA with eA
      injection eA with eA
      injection eA with eA
      omega⟩⟩)) (gl_alloc (gl_refl _ _) _)
set_option maxRecDepth 100000 in
set_option maxHeartbeats 2000000 in
theorem y13_9 : StepJ Tryz.prog ops Q a0 w0 d13 (JSR (S13 w0 (.mk ka ta na ksa) (.mk kb tb nb ksb) (.agg #[.int .u8 ka, .string (bs ta), .int .i64 na, .slice ada ksa.length ca]) (.agg #[.int .u8 kb, .string (bs tb), .int .i64 nb, .slice adb ksb.length cb]) #[.int .u8 ka, .string (bs ta), .int .i64 na, .slice ada ksa.length ca, .int .u8 kb, .string (bs tb), .int .i64 nb, .slice adb ksb.length cb]) (R13 (.mk ka ta na ksa) (.mk kb tb nb ksb))) 9 { dst := some 22, op := .alloc 25, type := ty, pos := pos, after := af, guard := none } := by
  intro a w m hgl hout hJ hmi hdep hval K hK
  rw [if_pos (by simp [Region.wanted])]
  have HJ := Lib.hid hJ
  have hsz := hgl.size
  clear hout hdep hval hmi hJ
  go_simp
  refine hK _ _ (jsr_upd (s13_gl _ _ _ _ _ _) (r13_gl _ _) HJ.out (gl_alloc (gl_refl _ _) _) ⟨fun h => by omega, fun h => by omega, fun h => by omega, fun h => by omega, fun h => by omega, fun _ => ⟨w.heap.size, rfl, hsz, blk_new w _⟩⟩ ⟨fun h => by omega, fun h => by omega, fun h => by omega⟩ (fun j u hj => ⟨⟨fun h => by omega, fun h => by omega, fun h => by
      obtain ⟨A', e2, hA1, hA2⟩ := (HJ.out.1 j u hj).2.2.2.2.2 (by omega)
      have hlt := blk_lt hA2
      rw [e2]
      intro eA
      injection eA with eA
      injection eA with eA
      injection eA with eA
      omega⟩, ⟨fun h A eA => by
      injection eA with eA
      injection eA with eA
      injection eA with eA
      have hlk := ((HJ.out.1 j u hj).2.2.2.1 (by omega)).2
      exact lockIn_gl (gl_alloc (gl_refl _ _) _) _ _ (lockIn_mono (fun c hc _ => by omega) _ _ hlk), fun h A eA => by
      injection eA with eA
      injection eA with eA
      injection eA with eA
      have hlk := ((HJ.out.1 j u hj).2.2.2.2.1 (by omega)).2
      exact lockIn_gl (gl_alloc (gl_refl _ _) _) _ _ (lockIn_mono (fun c hc _ => by omega) _ _ hlk), fun h => by
      obtain ⟨A', e2, hA1, hA2⟩ := (HJ.out.1 j u hj).2.2.2.2.2 (by omega)
      have hlt := blk_lt hA2
      rw [e2]
      intro eA
      injection eA with eA
      injection eA with eA
      injection eA with eA
      omega⟩⟩)) (gl_alloc (gl_refl _ _) _)
end
end Go.Proofs.YtfmckibiblhakaaGreatDoor
