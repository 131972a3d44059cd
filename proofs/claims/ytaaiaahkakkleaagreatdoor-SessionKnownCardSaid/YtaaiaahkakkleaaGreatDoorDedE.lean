/- The program: what is held is taken apart, once over. -/
import Derived.Test.YtaaiaahkakkleaaGreatDoorDedD
import Derived.Shelf.SlMaps.Clone
import Derived.Deep.RegionHeld3
import Derived.Test.YtaaiaahkakkleaaGreatDoorRegI
set_option maxRecDepth 100000
set_option maxHeartbeats 8000000
set_option linter.unusedSimpArgs false
set_option linter.unusedVariables false
namespace Go.Proofs.YtaaiaahkakkleaaGreatDoor
open Go.RowKit Go.Maps
theorem wpList_lenB {P : Program} {K E T : TypeId} (w : World) {ops : Array Oper} {rest : List Oper} {o : Oper} {a : Act} {Q : Exit → Act → World → Prop} (hg : o.guard = none) (m : Operand) (hop : o.op = Op.call { callee := Callee.builtin Builtin.len, args := #[m], argTypes := #[T] })
  (hT : P.underlying T = some (.map K E)) (b n : Nat) (f : List UInt8 → Option Bool) (h : MapB P K E w b n f) (hm : a.eval m = .map (some b)) (hC : wpList P ops Q rest (a.put o.dst (.int .i64 n)) w) : wpList P ops Q (o :: rest) a w := by
 obtain ⟨D, hown, hs, _⟩ := h
 refine wpList_len_own w hg m T hop K E hT (RB P E) b n D hm hown ?_
 rw [hs]
 exact hC
theorem dClone (b m : Nat) (f : List UInt8 → Option Bool) (w : World) (h : MapT w b m f) :
  Calls Tryz.prog 64 #[.map (some b)] w fun e w' => e = .returned (.map (some w.heap.size)) ∧ MapT w' w.heap.size m f ∧ Below w.heap.size w w' := by
 obtain ⟨D, ⟨es, clock, hb, F, hs, hD⟩, h1, h2⟩ := h
 have HF := Lib.hid F
 have HH := Lib.hid (show Maps.size D = m ∧ Holds D f from ⟨h1, h2⟩)
 have HD := Lib.hid hD
 have hq := fun w => run_eql_map_nil_sl (P := Tryz.prog) w 92 22 4 (some b) Tryz.underlying92
 clear F h1 h2 hD
 go_enter Tryz.func64, Tryz.ntmps64
 go_wp2
 rw [run_callFunc_extern Tryz.func91 (by kernel_rfl) (by kernel_rfl) (by kernel_rfl) (e := Extern.MapsClone.clone) (by kernel_rfl), run_maps_clone_sl w 92 hb]
 simp only [Result.andThen]
 rw [Oper.upon_value]
 go_wp2
 rw [run_typeAssert_map_sl _ 92 _ 22 4 _ Tryz.underlying92]
 simp only [Result.andThen]
 rw [Oper.upon_value]
 go_wp2
 go_ret
 exact ⟨rfl, ⟨D, ⟨es, clock, (MapKept.heap_alloc w _).1, HF.out, hs, HD.out⟩, HH.out.1, HH.out.2⟩, (Below.refl _ w).alloc (Nat.le_refl _) _⟩
theorem wpList_nextS {P : Program} {K E : TypeId} (w : World) {ops : Array Oper} {rest : List Oper} {o : Oper} {a : Act} {Q : Exit → Act → World → Prop} (hg : o.guard = none) (it : Operand) (hop : o.op = Op.next it false) (hK : P.underlying K = some .string) (hE : P.underlying E = some .bool)
  (b r n cnt : Nat) (S left : List UInt8 → Bool) (h : RangeB P K E w b r n (setF S) left cnt) (hit : a.eval it = .pointer (some ⟨r, 0, none⟩))
  (hDone : cnt = 0 → (∀ t, left t = false) → wpList P ops Q rest (a.put o.dst (.tuple #[.bool false])) w)
  (hMore : ∀ (t : List UInt8) (w' : World) (cnt' : Nat), t.length ≤ maxLen → left t = true → S t = true → RangeB P K E w' b r n (setF S) (fun s => left s && s != t) cnt' → cnt' < cnt → GL [r] w w' → w'.heap.size = w.heap.size →
    (Instr.entry (.pointer (some ⟨r, 0, none⟩))).run P w' = .ok (.tuple #[.string (bs t), .bool true]) w' → wpList P ops Q rest (a.put o.dst (.tuple #[.bool true, .string (bs t), .bool true])) w') : wpList P ops Q (o :: rest) a w := by
 refine wpList_nextB w hg it hop hK hE b r n cnt (setF S) left h hit hDone ?_
 intro t x w' cnt' h1 h2 h3 h4 h5 h6 h7 h8
 have hx : S t = true ∧ x = true := by
  unfold setF at h3
  split at h3
  · rename_i hs; injection h3 with h3; exact ⟨hs, h3.symm⟩
  · cases h3
 obtain ⟨hs, rfl⟩ := hx
 exact hMore t w' cnt' h1 h2 hs h4 h5 h6 h7 h8
structure ApI (w wr : World) (be C r m : Nat) (S : List UInt8 → Bool) (U : List (List UInt8)) (S1 : List UInt8 → Bool) (m1 : Nat) (left : List UInt8 → Bool) (cnt : Nat) : Prop where
 rng : RangeB Tryz.prog 22 4 wr C r m (setF S) left cnt
 held : MapT wr be m1 (setF S1)
 grow : Grow S S1
 inU : ∀ t, S1 t = true → t ∈ U
 le : m ≤ m1
 gl : GL [be] w wr
theorem ap_gl {w wr wr' : World} {be C r m m1 cnt : Nat} {S S1 : List UInt8 → Bool} {U : List (List UInt8)} {left : List UInt8 → Bool} (h : ApI w wr be C r m S U S1 m1 left cnt) (hg : GL [] wr wr') : ApI w wr' be C r m S U S1 m1 left cnt :=
 ⟨rangeB_gl h.rng hg si_ si_, mapB_gl h.held hg si_, h.grow, h.inU, h.le, gl_step hg h.gl si_⟩
theorem ap_ins {w wr wr' : World} {be C r m m1 cnt m2 : Nat} {S S1 : List UInt8 → Bool} {U : List (List UInt8)} {left : List UInt8 → Bool} {k : List UInt8} (h : ApI w wr be C r m S U S1 m1 left cnt) (hC : C ≠ be) (hr : r ≠ be) (hg : GL [be] wr wr')
  (hm : MapT wr' be m2 (putB (setF S1) k true)) (hl : m1 ≤ m2) (hgr : Grow S (ins S1 k)) (hk : k ∈ U) : ApI w wr' be C r m S U (ins S1 k) m2 left cnt :=
 ⟨rangeB_gl h.rng hg (by simpa using hC) (by simpa using hr), by rw [← setF_ins]; exact hm, hgr, ins_mono (S2 := fun t => decide (t ∈ U)) (fun t ht => by simpa using h.inU t ht) (by simpa using hk) |> (fun q t ht => by simpa using q t ht), Nat.le_trans h.le hl, gl_step hg h.gl (fun r hr => .inl hr)⟩
theorem ite_le (c : Bool) (m : Nat) : m ≤ (if c = true then m else m + 1) := by split <;> omega
theorem ap_few {w wr : World} {be C r m m1 cnt : Nat} {S S1 : List UInt8 → Bool} {U : List (List UInt8)} {left : List UInt8 → Bool} (h : ApI w wr be C r m S U S1 m1 left cnt) : m1 ≤ U.length :=
 mapB_le Tryz.underlying22 h.held U (fun t ht => h.inU t (by rwa [setF_some] at ht))
def Gone (S S1 : List UInt8 → Bool) (left : List UInt8 → Bool) : Prop := ∀ t, S t = true → left t = false → Done S S1 t
theorem gone_step {S S1 S2 : List UInt8 → Bool} {left : List UInt8 → Bool} {t : List UInt8} (h : Gone S S1 left) (hm : ∀ s, S1 s = true → S2 s = true) (hd : Done S S2 t) : Gone S S2 (fun s => left s && s != t) := fun s hs hl => by
 by_cases e : s = t
 · subst e; exact hd
 · refine done_mono (h s hs ?_) hm
   simp [e] at hl
   exact hl
theorem done_other {S S1 : List UInt8 → Bool} {t : List UInt8} {x : Sh} (hx : rt t = some x) (h1 : x.op.toNat ≠ 84) (h2 : x.op.toNat ≠ 66) : Done S S1 t := fun y hy => by
 rw [hx] at hy; injection hy with hy; subst hy
 exact ⟨fun h => absurd h h1, fun h => absurd h h2⟩
def ApZ (w : World) (M bh be C r m : Nat) (S : List UInt8 → Bool) (U : List (List UInt8)) (S1 : List UInt8 → Bool) (m1 : Nat) (left : List UInt8 → Bool) (cnt : Nat) (W : World) : Prop :=
 ApI w W be C r m S U S1 m1 left cnt ∧ W.heap[M]? = some (.cells #[.map (some bh), .map (some be)] 94 (0, 0)) ∧ GOk W
theorem apz_meas {w wr W : World} {M bh be C r m m1 m2 cnt cnt1 : Nat} {S S1 S2 : List UInt8 → Bool} {U : List (List UInt8)} {left left2 : List UInt8 → Bool} (h : ApZ w M bh be C r m S U S1 m1 left cnt1 W) (hc : cnt1 < cnt) (hA : ApI w wr be C r m S U S2 m2 left2 cnt) : W.rangeLeft C r < wr.rangeLeft C r := by
 rw [rangeB_left h.1.rng, rangeB_left hA.rng]; exact hc
theorem apz_gl {w W V : World} {M bh be C r m m1 cnt : Nat} {S S1 : List UInt8 → Bool} {U : List (List UInt8)} {left : List UInt8 → Bool} {rs : List Nat} {N : Nat} (h : ApZ w M bh be C r m S U S1 m1 left cnt W) (hg : GL rs W V) (hr : ∀ x ∈ rs, N ≤ x) (hN : M < N ∧ be < N ∧ C < N ∧ r < N ∧ gN ≤ N ∧ w.heap.size ≤ N) : ApZ w M bh be C r m S U S1 m1 left cnt V := by
 have hn : ∀ y, y < N → y ∉ rs := fun y hy hm => by have := hr y hm; omega
 exact ⟨⟨rangeB_gl h.1.rng hg (hn _ hN.2.2.1) (hn _ hN.2.2.2.1), mapB_gl h.1.held hg (hn _ hN.2.1), h.1.grow, h.1.inU, h.1.le, gl_step hg h.1.gl (fun x hx => .inr (by have := hr x hx; omega))⟩, blk_gl h.2.1 hg (hn _ hN.1), gok_gl h.2.2 hg (fun x hx => by have := hr x hx; omega)⟩
def a14DS : List (Option Nat) := [some 48, some 49, some 50, some 51, some 52, some 53, some 54, some 55, some 56, some 57, some 58, some 59, some 60, some 61, some 62, some 63, some 64, some 65, some 66]
def a14GS (M be B g o kc : Nat) (b : List UInt8) : List (Option Value) := [some (.pointer (some ⟨M, 0, none⟩)), some (.pointer (some ⟨M, 0, none⟩)), some (.pointer (some ⟨M, 1, none⟩)), some (.map (some be)), some (.pointer (some ⟨B, 3, none⟩)), some (.slice (some ⟨g, o, none⟩) 2 kc), some (.pointer (some ⟨g, o + 1, none⟩)), some (.string (bs b)), some (.bool true), some (.bool false), some (.bool false), none, none, none, none, none, none, none, some (.bool false)]
section
variable {ops : Array Oper} {Q : Exit → Act → World → Prop} {a0 : Act} {I : World → Prop} {af : Array Edge} {ty : Nat} {pos : String} {at_ : Array TypeId} {M be B g o kc : Nat} {b : List UInt8}
theorem a1448 (o0 : a0.tmps[0]? = some (.pointer (some ⟨M, 0, none⟩))) : StepI Tryz.prog ops Q a0 a14DS I (GV (a14GS M be B g o kc b)) 0 { dst := some 48, op := .move (.tmp 0), type := ty, pos := pos, after := af, guard := none } := by
 intro a w hout hI hdep K hK
 rw [if_pos (by simp [Region.wanted])]
 have o0w := (hout 0 de_).trans o0
 clear hout hdep
 clear o0
 go_simp
 exact hK _ _ (gv_of rfl rs_) hI
theorem a1449 (h48 : (⟨0, .data⟩ : Edge) ∈ af.toList) : StepI Tryz.prog ops Q a0 a14DS I (GV (a14GS M be B g o kc b)) 1 { dst := some 49, op := .nilCheck (.tmp 48), type := ty, pos := pos, after := af, guard := none } := by
 intro a w hout hI hdep K hK
 rw [if_pos (by simp [Region.wanted])]
 obtain ⟨v48, g48, e48⟩ := hdep ⟨0, .data⟩ h48 rfl
 have e48 := e48 48 rfl
 have g48 := g48 _ rfl
 subst g48
 clear hout hdep
 go_simp
 exact hK _ _ (gv_of rfl rs_) hI
theorem a1450 (h49 : (⟨1, .data⟩ : Edge) ∈ af.toList) : StepI Tryz.prog ops Q a0 a14DS I (GV (a14GS M be B g o kc b)) 2 { dst := some 50, op := .fieldAddr 94 (.tmp 49) 1, type := ty, pos := pos, after := af, guard := none } := by
 intro a w hout hI hdep K hK
 rw [if_pos (by simp [Region.wanted])]
 obtain ⟨v49, g49, e49⟩ := hdep ⟨1, .data⟩ h49 rfl
 have e49 := e49 49 rfl
 have g49 := g49 _ rfl
 subst g49
 clear hout hdep
 go_simp
 exact hK _ _ (gv_of rfl rs_) hI
theorem a1451 (h50 : (⟨2, .data⟩ : Edge) ∈ af.toList) (hL : ∀ w, I w → w.cell? ⟨M, 1, none⟩ = some (.map (some be))) : StepI Tryz.prog ops Q a0 a14DS I (GV (a14GS M be B g o kc b)) 3 { dst := some 51, op := .load 92 (.tmp 50), type := ty, pos := pos, after := af, guard := none } := by
 intro a w hout hI hdep K hK
 rw [if_pos (by simp [Region.wanted])]
 obtain ⟨v50, g50, e50⟩ := hdep ⟨2, .data⟩ h50 rfl
 have e50 := e50 50 rfl
 have g50 := g50 _ rfl
 subst g50
 have hLw := hL w hI
 clear hout hdep
 go_simp
 exact hK _ _ (gv_of rfl rs_) hI
theorem a1452 (o5 : a0.tmps[5]? = some (.pointer (some ⟨B, 0, none⟩))) : StepI Tryz.prog ops Q a0 a14DS I (GV (a14GS M be B g o kc b)) 4 { dst := some 52, op := .fieldAddr 98 (.tmp 5) 3, type := ty, pos := pos, after := af, guard := none } := by
 intro a w hout hI hdep K hK
 rw [if_pos (by simp [Region.wanted])]
 have o5w := (hout 5 de_).trans o5
 clear hout hdep
 clear o5
 go_simp
 exact hK _ _ (gv_of rfl rs_) hI
theorem a1453 (h52 : (⟨4, .data⟩ : Edge) ∈ af.toList) (hL : ∀ w, I w → w.cell? ⟨B, 3, none⟩ = some (.slice (some ⟨g, o, none⟩) 2 kc)) : StepI Tryz.prog ops Q a0 a14DS I (GV (a14GS M be B g o kc b)) 5 { dst := some 53, op := .load 31 (.tmp 52), type := ty, pos := pos, after := af, guard := none } := by
 intro a w hout hI hdep K hK
 rw [if_pos (by simp [Region.wanted])]
 obtain ⟨v52, g52, e52⟩ := hdep ⟨4, .data⟩ h52 rfl
 have e52 := e52 52 rfl
 have g52 := g52 _ rfl
 subst g52
 have hLw := hL w hI
 clear hout hdep
 go_simp
 exact hK _ _ (gv_of rfl rs_) hI
theorem a1454 (h53 : (⟨5, .data⟩ : Edge) ∈ af.toList) : StepI Tryz.prog ops Q a0 a14DS I (GV (a14GS M be B g o kc b)) 6 { dst := some 54, op := .indexAddr 31 (.tmp 53) (.const (.int .i64 1)), type := ty, pos := pos, after := af, guard := none } := by
 intro a w hout hI hdep K hK
 rw [if_pos (by simp [Region.wanted])]
 obtain ⟨v53, g53, e53⟩ := hdep ⟨5, .data⟩ h53 rfl
 have e53 := e53 53 rfl
 have g53 := g53 _ rfl
 subst g53
 clear hout hdep
 go_simp
 exact hK _ _ (gv_of rfl rs_) hI
theorem a1455 (h54 : (⟨6, .data⟩ : Edge) ∈ af.toList) (hL : ∀ w, I w → w.cell? ⟨g, o + 1, none⟩ = some (.string (bs b))) : StepI Tryz.prog ops Q a0 a14DS I (GV (a14GS M be B g o kc b)) 7 { dst := some 55, op := .load 22 (.tmp 54), type := ty, pos := pos, after := af, guard := none } := by
 intro a w hout hI hdep K hK
 rw [if_pos (by simp [Region.wanted])]
 obtain ⟨v54, g54, e54⟩ := hdep ⟨6, .data⟩ h54 rfl
 have e54 := e54 54 rfl
 have g54 := g54 _ rfl
 subst g54
 have hLw := hL w hI
 clear hout hdep
 go_simp
 exact hK _ _ (gv_of rfl rs_) hI
theorem a1456 (h51 : (⟨3, .data⟩ : Edge) ∈ af.toList) (h55 : (⟨7, .data⟩ : Edge) ∈ af.toList) (hL : ∀ w, I w → (Instr.lookup 92 (.map (some be)) (.string (bs b)) false).run Tryz.prog w = .ok (.bool true) w) : StepI Tryz.prog ops Q a0 a14DS I (GV (a14GS M be B g o kc b)) 8 { dst := some 56, op := .lookup 92 (.tmp 51) (.tmp 55) false, type := ty, pos := pos, after := af, guard := none } := by
 intro a w hout hI hdep K hK
 rw [if_pos (by simp [Region.wanted])]
 obtain ⟨v51, g51, e51⟩ := hdep ⟨3, .data⟩ h51 rfl
 have e51 := e51 51 rfl
 have g51 := g51 _ rfl
 subst g51
 obtain ⟨v55, g55, e55⟩ := hdep ⟨7, .data⟩ h55 rfl
 have e55 := e55 55 rfl
 have g55 := g55 _ rfl
 subst g55
 have hLw := hL w hI
 clear hout hdep
 go_simp
 exact hK _ _ (gv_of rfl rs_) hI
theorem a1457 (h56 : (⟨8, .data⟩ : Edge) ∈ af.toList) : StepI Tryz.prog ops Q a0 a14DS I (GV (a14GS M be B g o kc b)) 9 { dst := some 57, op := .unOp .not 4 (.tmp 56), type := ty, pos := pos, after := af, guard := none } := by
 intro a w hout hI hdep K hK
 rw [if_pos (by simp [Region.wanted])]
 obtain ⟨v56, g56, e56⟩ := hdep ⟨8, .data⟩ h56 rfl
 have e56 := e56 56 rfl
 have g56 := g56 _ rfl
 subst g56
 clear hout hdep
 go_simp
 exact hK _ _ (gv_of rfl rs_) hI
theorem a1458 (h57 : (⟨9, .data⟩ : Edge) ∈ af.toList) : StepI Tryz.prog ops Q a0 a14DS I (GV (a14GS M be B g o kc b)) 10 { dst := some 58, op := .move (.tmp 57), type := ty, pos := pos, after := af, guard := none } := by
 intro a w hout hI hdep K hK
 rw [if_pos (by simp [Region.wanted])]
 obtain ⟨v57, g57, e57⟩ := hdep ⟨9, .data⟩ h57 rfl
 have e57 := e57 57 rfl
 have g57 := g57 _ rfl
 subst g57
 clear hout hdep
 go_simp
 exact hK _ _ (gv_of rfl rs_) hI
theorem a1459 (hg : (⟨10, .guard⟩ : Edge) ∈ af.toList) (hgo : ops[10]?.bind (·.dst) = some 58) : StepI Tryz.prog ops Q a0 a14DS I (GV (a14GS M be B g o kc b)) 11 { dst := some 59, op := .move (.tmp 0), type := ty, pos := pos, after := af, guard := some (10, true) } := by
 intro a w hout hI hdep K hK
 obtain ⟨vg, gg, eg⟩ := hdep ⟨10, .guard⟩ hg rfl
 have eg := eg 58 rfl
 have gg := gg _ rfl
 subst gg
 have hy := yielded_is hgo eg
 rw [if_neg (by simp [Region.wanted, hy])]
 exact hK _ _ (gv_none rfl) hI
theorem a1460 (hg : (⟨10, .guard⟩ : Edge) ∈ af.toList) (hgo : ops[10]?.bind (·.dst) = some 58) : StepI Tryz.prog ops Q a0 a14DS I (GV (a14GS M be B g o kc b)) 12 { dst := some 60, op := .call { callee := .value (.func 40), args := #[.tmp 59], argTypes := at_ }, type := ty, pos := pos, after := af, guard := some (10, true) } := by
 intro a w hout hI hdep K hK
 obtain ⟨vg, gg, eg⟩ := hdep ⟨10, .guard⟩ hg rfl
 have eg := eg 58 rfl
 have gg := gg _ rfl
 subst gg
 have hy := yielded_is hgo eg
 rw [if_neg (by simp [Region.wanted, hy])]
 exact hK _ _ (gv_none rfl) hI
theorem a1461 (hg : (⟨10, .guard⟩ : Edge) ∈ af.toList) (hgo : ops[10]?.bind (·.dst) = some 58) : StepI Tryz.prog ops Q a0 a14DS I (GV (a14GS M be B g o kc b)) 13 { dst := some 61, op := .fieldAddr 98 (.tmp 5) 3, type := ty, pos := pos, after := af, guard := some (10, true) } := by
 intro a w hout hI hdep K hK
 obtain ⟨vg, gg, eg⟩ := hdep ⟨10, .guard⟩ hg rfl
 have eg := eg 58 rfl
 have gg := gg _ rfl
 subst gg
 have hy := yielded_is hgo eg
 rw [if_neg (by simp [Region.wanted, hy])]
 exact hK _ _ (gv_none rfl) hI
theorem a1462 (hg : (⟨10, .guard⟩ : Edge) ∈ af.toList) (hgo : ops[10]?.bind (·.dst) = some 58) : StepI Tryz.prog ops Q a0 a14DS I (GV (a14GS M be B g o kc b)) 14 { dst := some 62, op := .load 31 (.tmp 61), type := ty, pos := pos, after := af, guard := some (10, true) } := by
 intro a w hout hI hdep K hK
 obtain ⟨vg, gg, eg⟩ := hdep ⟨10, .guard⟩ hg rfl
 have eg := eg 58 rfl
 have gg := gg _ rfl
 subst gg
 have hy := yielded_is hgo eg
 rw [if_neg (by simp [Region.wanted, hy])]
 exact hK _ _ (gv_none rfl) hI
theorem a1463 (hg : (⟨10, .guard⟩ : Edge) ∈ af.toList) (hgo : ops[10]?.bind (·.dst) = some 58) : StepI Tryz.prog ops Q a0 a14DS I (GV (a14GS M be B g o kc b)) 15 { dst := some 63, op := .indexAddr 31 (.tmp 62) (.const (.int .i64 0)), type := ty, pos := pos, after := af, guard := some (10, true) } := by
 intro a w hout hI hdep K hK
 obtain ⟨vg, gg, eg⟩ := hdep ⟨10, .guard⟩ hg rfl
 have eg := eg 58 rfl
 have gg := gg _ rfl
 subst gg
 have hy := yielded_is hgo eg
 rw [if_neg (by simp [Region.wanted, hy])]
 exact hK _ _ (gv_none rfl) hI
theorem a1464 (hg : (⟨10, .guard⟩ : Edge) ∈ af.toList) (hgo : ops[10]?.bind (·.dst) = some 58) : StepI Tryz.prog ops Q a0 a14DS I (GV (a14GS M be B g o kc b)) 16 { dst := some 64, op := .load 22 (.tmp 63), type := ty, pos := pos, after := af, guard := some (10, true) } := by
 intro a w hout hI hdep K hK
 obtain ⟨vg, gg, eg⟩ := hdep ⟨10, .guard⟩ hg rfl
 have eg := eg 58 rfl
 have gg := gg _ rfl
 subst gg
 have hy := yielded_is hgo eg
 rw [if_neg (by simp [Region.wanted, hy])]
 exact hK _ _ (gv_none rfl) hI
theorem a1465 (hg : (⟨10, .guard⟩ : Edge) ∈ af.toList) (hgo : ops[10]?.bind (·.dst) = some 58) : StepI Tryz.prog ops Q a0 a14DS I (GV (a14GS M be B g o kc b)) 17 { dst := some 65, op := .call { callee := .value (.func 41), args := #[.tmp 60, .tmp 64], argTypes := at_ }, type := ty, pos := pos, after := af, guard := some (10, true) } := by
 intro a w hout hI hdep K hK
 obtain ⟨vg, gg, eg⟩ := hdep ⟨10, .guard⟩ hg rfl
 have eg := eg 58 rfl
 have gg := gg _ rfl
 subst gg
 have hy := yielded_is hgo eg
 rw [if_neg (by simp [Region.wanted, hy])]
 exact hK _ _ (gv_none rfl) hI
theorem a1466 (h58 : (⟨10, .data⟩ : Edge) ∈ af.toList) : StepI Tryz.prog ops Q a0 a14DS I (GV (a14GS M be B g o kc b)) 18 { dst := some 66, op := .pick (.tmp 58) (.tmp 65) (.const (.bool false)), type := ty, pos := pos, after := af, guard := none } := by
 intro a w hout hI hdep K hK
 rw [if_pos (by simp [Region.wanted])]
 obtain ⟨v58, g58, e58⟩ := hdep ⟨10, .data⟩ h58 rfl
 have e58 := e58 58 rfl
 have g58 := g58 _ rfl
 subst g58
 clear hout hdep
 go_simp
 exact hK _ _ (gv_of rfl rs_) hI
end
theorem dApart (M bh be m : Nat) (S : List UInt8 → Bool) (U : List (List UInt8)) (hul : U.length ≤ 9000000000000000) (hUr : ∀ t ∈ U, right t = true) (hUk : ∀ t x, t ∈ U → rt t = some x → ∀ k ∈ x.kids, k ∈ U) (hSU : ∀ t, S t = true → t ∈ U) (w : World) (hG : GOk w)
  (hM : w.heap[M]? = some (.cells #[.map (some bh), .map (some be)] 94 (0, 0))) (hH : MapT w be m (setF S)) (hne : M ≠ be) (hlo : gN ≤ be) :
  Calls Tryz.prog 38 #[.pointer (some ⟨M, 0, none⟩)] w fun e w' => ∃ S1 m1, e = .returned (.bool (decide (m < m1))) ∧ MapT w' be m1 (setF S1) ∧ Grow S S1 ∧ (∀ t, S1 t = true → t ∈ U) ∧ m ≤ m1 ∧ (m1 = m → Apart S1) ∧ GL [be] w w' := by
 have HG := Lib.hid hG
 have HM := Lib.hid hM
 have HH := Lib.hid hH
 have HUR := Lib.hid hUr
 have HUK := Lib.hid hUk
 have HSU := Lib.hid hSU
 have hml : m ≤ U.length := mapB_le Tryz.underlying22 hH U (fun t ht => hSU t (by rwa [setF_some] at ht))
 have hbl := mapB_lt hH
 have hMl := blk_lt hM
 clear hG hM hH hUr hUk hSU
 have a1 := blk_cell HM.out
 have a2 := blk_free HM.out
 go_enter Tryz.func38, Tryz.ntmps38
 go_wp2_with (first
  | (at_len; refine wpList_lenB _ rfl _ rfl Tryz.underlying92 be m _ HH.out rfl ?_)
  | fail)
 refine (dClone be m _ _ HH.out).mono ?_
 rintro e w1 ⟨rfl, hc1, hb1⟩
 have HC1 := Lib.hid hc1
 have hCl := mapB_lt hc1
 have hgw1 : GL [be] w w1 := gl_below hb1 (gl_refl _ _)
 have HH1 := Lib.hid (mapB_gl HH.out (gl_below hb1 (gl_refl [] w)) si_)
 have HM1 := Lib.hid (blk_below HM.out hb1 hMl)
 have HG1 := Lib.hid (gok_below HG.out hb1)
 clear hc1 hb1 a1 a2
 go_wp2_with (first
  | (at_range; refine wpList_rangeB _ rfl _ rfl Tryz.underlying22 Tryz.underlying92 w.heap.size m _ HC1.out rfl ?_; intro w0 hrg0 hg0 hs0)
  | fail)
 go_frame
 have hCe : w.heap.size ≠ be := by omega
 have hrr : w1.heap.size ≠ be := by omega
 have hrC : w1.heap.size ≠ w.heap.size := by omega
 have hrw0 := hgw1.size
 have hMr : M ≠ w1.heap.size := by omega
 have hrlo : gN ≤ w1.heap.size := by have := HG.out.size; omega
 generalize hrd : w1.heap.size = r at *
 have hrw : w.heap.size ≤ r := hrw0
 generalize hCd : w.heap.size = C at *
 have HI0 : Hid (ApI w w0 be C r m S U S m (fun t => (setF S t).isSome) m) := Lib.hid ⟨hrg0, mapB_gl HH1.out hg0 si_, grow_refl S, HSU.out, Nat.le_refl _, gl_step hg0 hgw1 si_⟩
 have HN0 : Hid (Gone S S (fun t => (setF S t).isSome)) := Lib.hid (fun t hs hl => by (simp only [setF_some] at hl; rw [hs] at hl; cases hl))
 have HM0 := Lib.hid (blk_gl HM1.out hg0 si_)
 have HG0 := Lib.hid (gok_gl HG1.out hg0 si_)
 have hsz0 := hg0.size
 clear hrg0 hg0 HM1 HG1 HH1 HC1
 go_loopw [4] (fun _ wr => ∃ S1 m1 left cnt, Hid (ApI w wr be C r m S U S1 m1 left cnt) ∧ Hid (Gone S S1 left) ∧ Hid (wr.heap[M]? = some (.cells #[.map (some bh), .map (some be)] 94 (0, 0))) ∧ Hid (GOk wr)) (fun _ wr => wr.rangeLeft C r)
 case atStart => exact ⟨S, m, _, m, HI0, HN0, HM0, HG0⟩
 case round =>
  obtain ⟨S1, m1, left, cnt, HA, HN, HMr, HGr⟩ := hrel
  have hrg := HA.out.rng
  go_wp2_with (first
   | (at_next; refine wpList_nextS _ rfl _ rfl Tryz.underlying22 Tryz.underlying4 C r m cnt S left hrg rfl ?_ ?_)
   | fail)
  · intro _ hl0
    have a1 := blk_cell HMr.out
    have a2 := blk_free HMr.out
    have a3 := blk_lt HMr.out
    clear hrg
    go_wp2_with (first
     | (at_len; refine wpList_lenB _ rfl _ rfl Tryz.underlying92 be m1 _ HA.out.held rfl ?_)
     | fail)
    go_ret
    refine ⟨S1, m1, by simp, HA.out.held, HA.out.grow, HA.out.inU, HA.out.le, fun he => ?_, HA.out.gl⟩
    have hm := HA.out.held
    rw [he] at hm
    have hC := rangeB_map HA.out.rng
    have e : S1 = S := by
     funext u
     cases hq : S u with
     | true => exact HA.out.grow.1 u hq
     | false =>
       cases hq1 : S1 u with
       | false => rfl
       | true =>
         have := mapB_same Tryz.underlying22 hC hm (fun s hs => by rw [setF_some] at hs ⊢; exact HA.out.grow.1 s hs) u (by rw [setF_some]; exact hq1)
         rw [setF_some, hq] at this
         cases this
    rw [e]
    refine done_apart (fun u hu => ?_)
    have := HN.out u hu (hl0 u)
    rw [e] at this
    exact this
  · intro t w1 cnt1 htm hlt hst hrg1 hcnt hg1 hs1 hen
    have htU := HSU.out t hst
    have htr := HUR.out t htU
    have htl : t.length ≤ 9000000000000000000 := by have := (right_len htr).2; omega
    obtain ⟨s, hx⟩ := right_some htr
    have hke := HUK.out t s htU hx
    have hr0 := HA.out.rng
    have HA1 : Hid (ApI w w1 be C r m S U S1 m1 (fun s => left s && s != t) cnt1) := Lib.hid ⟨hrg1, mapB_gl HA.out.held hg1 (by simpa using fun e => hrr e.symm), HA.out.grow, HA.out.inU, HA.out.le, gl_step hg1 HA.out.gl (by simp; right; omega)⟩
    have HM1 := Lib.hid (blk_gl HMr.out hg1 (by simpa using hMr))
    have HG1 := Lib.hid (gok_gl HGr.out hg1 (by simpa using hrlo))
    have HX := Lib.hid hx
    have HKE := Lib.hid hke
    have HS1 : Hid (be < w1.heap.size) := mapB_lt HA1.out.held
    have HCN := Lib.hid hcnt
    clear hrg hrg1 hg1 hcnt hr0 hke
    by_cases h84 : s.op.toNat = 84
    · skip
      have HD := Lib.hid (show ∀ S2 : List UInt8 → Bool, (∀ k ∈ s.kids, S2 k = true) → Done S S2 t from fun S2 h y hy => by rw [hx] at hy; injection hy with hy; subst hy; exact ⟨fun _ => h, fun h2 => by omega⟩)
      have HGT := Lib.hid (show ∀ (S2 : List UInt8 → Bool) (k : List UInt8), Grow S S2 → k ∈ s.kids → Grow S (ins S2 k) from fun S2 k h hk => grow_tuple h (h.1 t hst) hx h84 hk)
      have hkl : s.kids.length ≤ 9000000000000000000 := by obtain ⟨q1, _, _⟩ := rt_rd hx; have := (rd_parts q1).2.2 om_ om_; omega
      have HKL := Lib.hid (show ∀ k ∈ s.kids, k.length ≤ 16384 from fun k hk => (right_len (rt_kids hx k hk).1).2)
      have b84 : (((s.op.toNat : Nat) : Int) == 84) = true := by simp [h84]
      clear hx h84
      go_wp2_with fail
      refine (tOpen t htl _ HG1.out).mono ?_
      rintro e w2 hp
      rw [HX.out] at hp
      obtain ⟨ad, kn, kc, rfl, hown, hb2⟩ := hp
      obtain ⟨hts, hkn, hge⟩ := own_terms hown
      clear hown
      subst hkn
      have HP := Lib.hid (blk_new w2 (.cells #[.int .u8 s.op.toNat, .int .i64 (numOf s), .string (bs s.text), .slice ad s.kids.length kc] 98))
      have hg2 : GL [] w1 (w2.alloc (.cells #[.int .u8 s.op.toNat, .int .i64 (numOf s), .string (bs s.text), .slice ad s.kids.length kc] 98)) := gl_alloc (gl_below hb2 (gl_refl _ _)) _
      have HV := Lib.hid (termsAt_glx hts (gl_alloc (gl_refl [] w2) (.cells #[.int .u8 s.op.toNat, .int .i64 (numOf s), .string (bs s.text), .slice ad s.kids.length kc] 98)) si_)
      have hBe : w2.heap.size ≠ be := by have := hb2.size; have := HS1.out; omega
      have HGE : Hid (∀ b o c, Value.slice ad s.kids.length kc = .slice (some ⟨b, o, none⟩) s.kids.length c → b ≠ be) := fun b o c h => by have := hge b o c h; have := HS1.out; omega
      clear hts hge hb2
      go_wp2_with fail
      generalize w2.alloc (.cells #[.int .u8 s.op.toNat, .int .i64 (numOf s), .string (bs s.text), .slice ad s.kids.length kc] 98) = v at *
      generalize w2.heap.size = B at *
      have HA2 := Lib.hid (ap_gl HA1.out hg2)
      have HM2 := Lib.hid (blk_gl HM1.out hg2 si_)
      have HG2 := Lib.hid (gok_gl HG1.out hg2 si_)
      go_loopw [8, 36] (fun _ iv wr2 => ∃ (i : Nat) (S2 : List UInt8 → Bool) (m2 : Nat), i ≤ s.kids.length ∧ iv = .int .i64 i ∧ Hid (ApI w wr2 be C r m S U S2 m2 (fun s => left s && s != t) cnt1) ∧ Hid (∀ u, S1 u = true → S2 u = true) ∧ Hid (∀ j k, j < i → s.kids[j]? = some k → S2 k = true) ∧ Hid (wr2.heap[M]? = some (.cells #[.map (some bh), .map (some be)] 94 (0, 0))) ∧ Hid (GOk wr2) ∧ Hid (TermsAt (.slice ad s.kids.length kc) s.kids wr2)) (fun _ iv _ => s.kids.length - (intOf iv).toNat)
      case atStart => exact ⟨0, S1, m1, by omega, rfl, HA2, Lib.hid (fun _ h => h), Lib.hid (fun j k h => absurd h (Nat.not_lt_zero j)), HM2, HG2, HV⟩
      case round =>
       obtain ⟨i, S2, m2, hi, rfl, HAi, HSi, HKi, HMi, HGi, HVi⟩ := hrel
       by_cases hlt : i < s.kids.length
       · rcases HVi.out with ⟨_, _, _, h0⟩ | ⟨g, o, c, hv, hgl, hc⟩
         · rw [h0] at hlt; simp at hlt
         · injection hv with hv1 hv2 hv3
           subst hv1
           have hkx : s.kids[i]? = some s.kids[i] := List.getElem?_eq_getElem hlt
           have c0 := hc i _ hkx
           have hkm := List.getElem_mem hlt
           have hkl2 := HKL.out _ hkm
           have hgr := HGT.out S2 _ HAi.out.grow hkm
           have hkU := HKE.out _ hkm
           have HKX := Lib.hid hkx
           have hfew := ap_few HAi.out
           have i1 : (i : Int) < s.kids.length := by omega
           have a1 := blk_cell HMi.out
           have a2 := blk_free HMi.out
           have a3 := blk_lt HMi.out
           clear hkx hc hv3
           generalize s.kids[i] = k at *
           go_wp2_with (at_mapUpdate; go_must (refine wpList_storeB _ rfl _ _ _ rfl Tryz.underlying22 Tryz.underlying92 Tryz.underlying4 be m2 (setF S2) HAi.out.held (by unfold maxLen; omega) k (by unfold maxLen; omega) true rfl rfl rfl ?_; (intro w3 hm3 hg3); (have HA3 := Lib.hid (ap_ins HAi.out hCe (fun e => hrr e) hg3 hm3 (ite_le _ _) hgr hkU)); (have HM3 := Lib.hid (blk_gl HMi.out hg3 (by simpa using hne))); (have HG3 := Lib.hid (gok_gl HGi.out hg3 (by simpa using hlo))); (have HV3 := Lib.hid (termsAt_glx HVi.out hg3 (fun b o c h => by simpa using HGE.out b o c h))); (clear hm3 hg3 a1 a2 a3)))
           go_roundw
           case rel => exact ⟨i + 1, _, _, by omega, by go_num, HA3, Lib.hid (fun u hu => ins_old (HSi.out u hu)), Lib.hid (fun j y hj hy => by
            by_cases e : j = i
            · subst e; have := HKX.out; rw [this] at hy; injection hy with hy; rw [← hy]; exact ins_new
            · exact ins_old (HKi.out j y om_ hy)), HM3, HG3, HV3⟩
           case measure => simp [intOf]; omega
       · obtain rfl : i = s.kids.length := by omega
         have HDD := Lib.hid (HD.out S2 (fun k hk => by obtain ⟨j, hj⟩ := List.getElem?_of_mem hk; exact HKi.out j k (List.getElem?_eq_some_iff.1 hj).1 hj))
         go_wp2_with fail
         go_roundw
         case rel => exact ⟨S2, m2, _, cnt1, HAi, Lib.hid (gone_step HN.out HSi.out HDD.out), HMi, HGi⟩
         case measure => rw [rangeB_left HAi.out.rng, rangeB_left HA.out.rng]; exact HCN.out
    by_cases h66 : s.op.toNat = 66
    · obtain ⟨a, b, hab, hra, hrb, hla, hlb⟩ := rt_two_kids hx (by rw [show s.op = 66 from UInt8.toNat_inj.1 h66]; rfl)
      have HAB := Lib.hid hab
      have qb : b ∈ U := HKE.out b (by rw [hab]; simp)
      have lb := (right_len hrb).2
      have la := (right_len hra).2
      have HD := Lib.hid (show ∀ S2 : List UInt8 → Bool, (S2 b = true ∨ kn S a = false) → Done S S2 t from fun S2 h y hy => by rw [hx] at hy; injection hy with hy; subst hy; exact ⟨fun h2 => by omega, fun _ => by rw [hab]; exact h⟩)
      have HGT := Lib.hid (show kn S1 a = true → Grow S (ins S1 b) from fun h => by have := grow_box HA.out.grow (HA.out.grow.1 t hst) hx h66 (by rw [hab]; exact h); rwa [hab] at this)
      have b84 : (((s.op.toNat : Nat) : Int) == 84) = false := by simp; omega
      have b66 : (((s.op.toNat : Nat) : Int) == 66) = true := by simp [h66]
      clear hx h66 h84 hab
      go_wp2_with fail
      refine (tOpen t htl _ HG1.out).mono ?_
      rintro e w2 hp
      rw [HX.out] at hp
      obtain ⟨ad, kn, kc, rfl, hown, hb2⟩ := hp
      obtain ⟨hts, hkn, hge⟩ := own_terms hown
      clear hown
      subst hkn
      have HP := Lib.hid (blk_new w2 (.cells #[.int .u8 s.op.toNat, .int .i64 (numOf s), .string (bs s.text), .slice ad s.kids.length kc] 98))
      have hg2 : GL [] w1 (w2.alloc (.cells #[.int .u8 s.op.toNat, .int .i64 (numOf s), .string (bs s.text), .slice ad s.kids.length kc] 98)) := gl_alloc (gl_below hb2 (gl_refl _ _)) _
      have HV := Lib.hid (termsAt_glx hts (gl_alloc (gl_refl [] w2) (.cells #[.int .u8 s.op.toNat, .int .i64 (numOf s), .string (bs s.text), .slice ad s.kids.length kc] 98)) si_)
      have hBe : w2.heap.size ≠ be := by have := hb2.size; have := HS1.out; omega
      have HGE : Hid (∀ b o c, Value.slice ad s.kids.length kc = .slice (some ⟨b, o, none⟩) s.kids.length c → b ≠ be) := fun b o c h => by have := hge b o c h; have := HS1.out; omega
      clear hts hge hb2
      have hl2 : s.kids.length = 2 := by rw [HAB.out]; rfl
      rw [hl2] at HV HP hg2 HGE
      rw [hl2]
      rw [HAB.out] at HV
      rcases HV.out with ⟨_, _, _, h0⟩ | ⟨g, o, c, hv, hgl, hc⟩
      · cases h0
      injection hv with hv1 hv2 hv3
      subst hv1 hv3
      have c0 := hc 0 a rfl
      have c1 := hc 1 b rfl
      simp only [Nat.add_zero] at c0
      have hgb := HGE.out g o _ rfl
      clear hc HGE
      go_upto_region 14 with fail
      generalize w2.alloc (.cells #[.int .u8 s.op.toNat, .int .i64 (numOf s), .string (bs s.text), .slice (some ⟨g, o, none⟩) 2 kc] 98) = v at *
      generalize w2.heap.size = B at *
      have HA2 := Lib.hid (ap_gl HA1.out hg2)
      have HM2 := Lib.hid (blk_gl HM1.out hg2 si_)
      have HG2 := Lib.hid (gok_gl HG1.out hg2 si_)
      have c3 := blk_cell HP.out 3
      simp at c3
      have cm := blk_cell HM2.out 1
      simp at cm
      have hlk : (Instr.lookup 92 (.map (some be)) (.string (bs b)) false).run Tryz.prog v = .ok (.bool (S1 b)) v := by have := mapB_look Tryz.underlying22 Tryz.underlying92 Tryz.underlying4 (zBool _) HA2.out.held (t := b) (by unfold maxLen; omega); rwa [setF_getD] at this
      cases hsb : S1 b with
      | true =>
        rw [hsb] at hlk
        have HDD := Lib.hid (HD.out S1 (.inl hsb))
        have HSB := Lib.hid hsb
        clear hsb
        have hlkd : (Instr.lookup 92 (.map (some be)) (.string (bs b)) false).run Tryz.prog v.drew = .ok (.bool true) v.drew := by have := mapB_look Tryz.underlying22 Tryz.underlying92 Tryz.underlying4 (zBool _) (ap_gl HA2.out (gl_drew (gl_refl [] _))).held (t := b) (by unfold maxLen; omega); rw [setF_getD] at this; rw [this, HSB.out]
        refine wp_region_I (ds := a14DS) (I := (fun W => W = v.drew ∧ True)) (G := GV (a14GS M be B g o kc b)) rfl rfl (distinct_of _ (by decide +kernel)) ?_ (by kernel_rfl) (⟨rfl, trivial⟩) ?_ ?_
        · intro d hd
          exact Nat.lt_of_lt_of_le (ltB_of (n := 82) a14DS (by decide +kernel) d hd) si_
        · exact ⟨a1448 si_, a1449 si_, a1450 si_, a1451 si_ (fun w h => by rw [h.1]; exact cm), a1452 si_, a1453 si_ (fun w h => by rw [h.1]; exact c3), a1454 si_, a1455 si_ (fun w h => by rw [h.1]; exact c1), a1456 si_ si_ (fun w h => by rw [h.1]; exact hlkd), a1457 si_, a1458 si_, a1459 si_ rfl, a1460 si_ rfl, a1461 si_ rfl, a1462 si_ rfl, a1463 si_ rfl, a1464 si_ rfl, a1465 si_ rfl, a1466 si_, trivial⟩
        · intro vs w' hl hv hI
          have hl0 : vs.length = 19 := hl
          clear hl
          obtain ⟨x0, r0, rfl, hl1⟩ := cons_of hl0
          clear hl0
          obtain ⟨x1, r1, rfl, hl2⟩ := cons_of hl1
          clear hl1
          obtain ⟨x2, r2, rfl, hl3⟩ := cons_of hl2
          clear hl2
          obtain ⟨x3, r3, rfl, hl4⟩ := cons_of hl3
          clear hl3
          obtain ⟨x4, r4, rfl, hl5⟩ := cons_of hl4
          clear hl4
          obtain ⟨x5, r5, rfl, hl6⟩ := cons_of hl5
          clear hl5
          obtain ⟨x6, r6, rfl, hl7⟩ := cons_of hl6
          clear hl6
          obtain ⟨x7, r7, rfl, hl8⟩ := cons_of hl7
          clear hl7
          obtain ⟨x8, r8, rfl, hl9⟩ := cons_of hl8
          clear hl8
          obtain ⟨x9, r9, rfl, hl10⟩ := cons_of hl9
          clear hl9
          obtain ⟨x10, r10, rfl, hl11⟩ := cons_of hl10
          clear hl10
          obtain ⟨x11, r11, rfl, hl12⟩ := cons_of hl11
          clear hl11
          obtain ⟨x12, r12, rfl, hl13⟩ := cons_of hl12
          clear hl12
          obtain ⟨x13, r13, rfl, hl14⟩ := cons_of hl13
          clear hl13
          obtain ⟨x14, r14, rfl, hl15⟩ := cons_of hl14
          clear hl14
          obtain ⟨x15, r15, rfl, hl16⟩ := cons_of hl15
          clear hl15
          obtain ⟨x16, r16, rfl, hl17⟩ := cons_of hl16
          clear hl16
          obtain ⟨x17, r17, rfl, hl18⟩ := cons_of hl17
          clear hl17
          obtain ⟨x18, r18, rfl, hl19⟩ := cons_of hl18
          clear hl18
          have e18 : x18 = .bool false := hv 18 x18 si_ _ rfl
          subst e18
          obtain rfl : r18 = [] := List.eq_nil_of_length_eq_zero hl19
          clear hv
          simp only [a14DS, setAll, List.setIfInBounds_toArray, List.set_cons_zero, List.set_cons_succ]
          obtain ⟨rfl, _⟩ := hI
          go_wp2_with fail
          go_roundw
          case rel => exact ⟨S1, m1, _, cnt1, Lib.hid (ap_gl HA2.out (gl_drew (gl_refl _ _))), Lib.hid (gone_step HN.out (fun _ h => h) HDD.out), Lib.hid (blk_gl HM2.out (gl_drew (gl_refl [] _)) si_), Lib.hid (gok_drew HG2.out)⟩
          case measure => rw [rangeB_left (ap_gl HA2.out (gl_drew (gl_refl [] _))).rng, rangeB_left HA.out.rng]; exact HCN.out
      | false =>
        rw [hsb] at hlk
        have HSB := Lib.hid hsb
        clear hsb
        have hNN : M < v.heap.size ∧ be < v.heap.size ∧ C < v.heap.size ∧ r < v.heap.size ∧ gN ≤ v.heap.size ∧ w.heap.size ≤ v.heap.size := ⟨blk_lt HM2.out, mapB_lt HA2.out.held, mapB_lt (rangeB_map HA2.out.rng), rangeB_lt HA2.out.rng, by have := HG2.out.size; omega, HA2.out.gl.size⟩
        have hBv := blk_lt HP.out
        have HZ0 : Hid (ApZ w M bh be C r m S U S1 m1 (fun s => left s && s != t) cnt1 v.drew) := Lib.hid ⟨ap_gl HA2.out (gl_drew (gl_refl _ _)), blk_gl HM2.out (gl_drew (gl_refl [] _)) si_, gok_drew HG2.out⟩
        have KEEPG : ∀ (W V : World) (rs : List Nat), (W.cell? ⟨M, 1, none⟩ = some (.map (some be)) ∧ W.cell? ⟨B, 3, none⟩ = some (.slice (some ⟨g, o, none⟩) 2 kc) ∧ W.cell? ⟨g, o, none⟩ = some (.string (bs a)) ∧ W.cell? ⟨g, o + 1, none⟩ = some (.string (bs b)) ∧ (Instr.lookup 92 (.map (some be)) (.string (bs b)) false).run Tryz.prog W = .ok (.bool false) W ∧ v.heap.size ≤ W.heap.size ∧ ApZ w M bh be C r m S U S1 m1 (fun s => left s && s != t) cnt1 W) → GL rs W V → (∀ x ∈ rs, v.heap.size ≤ x) → (V.cell? ⟨M, 1, none⟩ = some (.map (some be)) ∧ V.cell? ⟨B, 3, none⟩ = some (.slice (some ⟨g, o, none⟩) 2 kc) ∧ V.cell? ⟨g, o, none⟩ = some (.string (bs a)) ∧ V.cell? ⟨g, o + 1, none⟩ = some (.string (bs b)) ∧ (Instr.lookup 92 (.map (some be)) (.string (bs b)) false).run Tryz.prog V = .ok (.bool false) V ∧ v.heap.size ≤ V.heap.size ∧ ApZ w M bh be C r m S U S1 m1 (fun s => left s && s != t) cnt1 V) := fun W V rs h hg hr => by
         have hn : ∀ y, y < v.heap.size → y ∉ rs := fun y hy hm => by have := hr y hm; omega
         have hz := apz_gl h.2.2.2.2.2.2 hg hr hNN
         have hlk2 := mapB_look Tryz.underlying22 Tryz.underlying92 Tryz.underlying4 (zBool _) hz.1.held (t := b) (by unfold maxLen; omega)
         rw [setF_getD, HSB.out] at hlk2
         exact ⟨cell_glx h.1 hg (hn M hNN.1), cell_glx h.2.1 hg (hn B hBv), cell_glx h.2.2.1 hg (hn g hgl), cell_glx h.2.2.2.1 hg (hn g hgl), hlk2, Nat.le_trans h.2.2.2.2.2.1 hg.size, hz⟩
        have HKP := Lib.hid KEEPG
        have HNN := Lib.hid hNN
        have HASK : Hid (∀ W, ApZ w M bh be C r m S U S1 m1 (fun s => left s && s != t) cnt1 W → v.heap.size ≤ W.heap.size → Calls Tryz.prog 40 #[.pointer (some ⟨M, 0, none⟩)] W fun e W' => ∃ A bt, e = .returned (.pointer (some ⟨A, 0, none⟩)) ∧ AskAt W' A be bt S1 (fun _ => none) ∧ v.heap.size ≤ bt ∧ GL [] W W') := Lib.hid (fun W hz hsz => (dAsks M bh be S1 W hz.2.2 ⟨hz.2.1, m1, hz.1.held⟩).mono fun e W' ⟨A, bt, h1, h2, h3, h4⟩ => ⟨A, bt, h1, h2, by omega, gl_below h4 (gl_refl _ _)⟩)
        have HKNW : Hid (∀ A bt W, ApZ w M bh be C r m S U S1 m1 (fun s => left s && s != t) cnt1 W → AskAt W A be bt S1 (fun _ => none) → Calls Tryz.prog 41 #[.pointer (some ⟨A, 0, none⟩), .string (bs a)] W fun e W' => e = .returned (.bool (kn S1 a)) ∧ GL [bt] W W') := Lib.hid (fun A bt W hz hA => dKnowsA a hra A be bt S1 W hz.2.2 hA)
        have hlkd : (Instr.lookup 92 (.map (some be)) (.string (bs b)) false).run Tryz.prog v.drew = .ok (.bool false) v.drew := by have := mapB_look Tryz.underlying22 Tryz.underlying92 Tryz.underlying4 (zBool _) (ap_gl HA2.out (gl_drew (gl_refl [] _))).held (t := b) (by unfold maxLen; omega); rw [setF_getD] at this; rw [this, HSB.out]
        clear KEEPG hlk
        cases hka : kn S1 a with
        | false =>
          rw [hka] at HKNW
          have HDD := Lib.hid (HD.out S1 (.inr (by cases hq : kn S a with | false => rfl | true => rw [kn_mono HA2.out.grow.1 hq] at hka; cases hka)))
          clear hka
          go_region_held3 (fun w' => w'.cell? ⟨M, 1, none⟩ = some (.map (some be)) ∧ w'.cell? ⟨B, 3, none⟩ = some (.slice (some ⟨g, o, none⟩) 2 kc) ∧ w'.cell? ⟨g, o, none⟩ = some (.string (bs a)) ∧ w'.cell? ⟨g, o + 1, none⟩ = some (.string (bs b)) ∧ (Instr.lookup 92 (.map (some be)) (.string (bs b)) false).run Tryz.prog w' = .ok (.bool false) w' ∧ v.heap.size ≤ w'.heap.size ∧ ApZ w M bh be C r m S U S1 m1 (fun s => left s && s != t) cnt1 w')
           (first
             | (refine ⟨?_, ?_, ?_, ?_, ?_, ?_, ?_⟩
                · go_keep
                · go_keep
                · go_keep
                · go_keep
                · exact hlkd
                · exact Nat.le_refl _
                · exact HZ0.out)
             | (go_split_ands
                exact HKP.out _ _ _ ⟨by assumption, by assumption, by assumption, by assumption, by assumption, by assumption, by assumption⟩ hgk hrs))
           ((first
             | (go_at_call 40; go_split_ands; with_reducible refine (HASK.out _ as_ as_).mono ?_; rintro e wk ⟨A, bt, rfl, hAk, hbt, hgk⟩; have hrs : ∀ x ∈ ([] : List Nat), v.heap.size ≤ x := by simp)
             | (go_at_call 41; go_split_ands; with_reducible refine (HKNW.out _ _ _ as_ hAk).mono ?_; rintro e wk2 ⟨rfl, hgk⟩; have hrs : ∀ x ∈ [bt], v.heap.size ≤ x := by simpa using hbt)))
          go_split_ands
          go_wp2_with fail
          go_roundw
          case rel =>
           have hz : ApZ w M bh be C r m S U S1 m1 (fun s => left s && s != t) cnt1 wk2 := by assumption
           exact ⟨S1, m1, _, cnt1, Lib.hid hz.1, Lib.hid (gone_step HN.out (fun _ h => h) HDD.out), Lib.hid hz.2.1, Lib.hid hz.2.2⟩
          case measure =>
           have hz : ApZ w M bh be C r m S U S1 m1 (fun s => left s && s != t) cnt1 wk2 := by assumption
           exact apz_meas hz HCN.out HA.out
        | true =>
          rw [hka] at HKNW
          have HGR := Lib.hid (HGT.out hka)
          have HDD := Lib.hid (HD.out (ins S1 b) (.inl ins_new))
          clear hka
          go_region_held3 (fun w' => w'.cell? ⟨M, 1, none⟩ = some (.map (some be)) ∧ w'.cell? ⟨B, 3, none⟩ = some (.slice (some ⟨g, o, none⟩) 2 kc) ∧ w'.cell? ⟨g, o, none⟩ = some (.string (bs a)) ∧ w'.cell? ⟨g, o + 1, none⟩ = some (.string (bs b)) ∧ (Instr.lookup 92 (.map (some be)) (.string (bs b)) false).run Tryz.prog w' = .ok (.bool false) w' ∧ v.heap.size ≤ w'.heap.size ∧ ApZ w M bh be C r m S U S1 m1 (fun s => left s && s != t) cnt1 w')
           (first
             | (refine ⟨?_, ?_, ?_, ?_, ?_, ?_, ?_⟩
                · go_keep
                · go_keep
                · go_keep
                · go_keep
                · exact hlkd
                · exact Nat.le_refl _
                · exact HZ0.out)
             | (go_split_ands
                exact HKP.out _ _ _ ⟨by assumption, by assumption, by assumption, by assumption, by assumption, by assumption, by assumption⟩ hgk hrs))
           ((first
             | (go_at_call 40; go_split_ands; with_reducible refine (HASK.out _ as_ as_).mono ?_; rintro e wk ⟨A, bt, rfl, hAk, hbt, hgk⟩; have hrs : ∀ x ∈ ([] : List Nat), v.heap.size ≤ x := by simp)
             | (go_at_call 41; go_split_ands; with_reducible refine (HKNW.out _ _ _ as_ hAk).mono ?_; rintro e wk2 ⟨rfl, hgk⟩; have hrs : ∀ x ∈ [bt], v.heap.size ≤ x := by simpa using hbt)))
          go_split_ands
          have hz : ApZ w M bh be C r m S U S1 m1 (fun s => left s && s != t) cnt1 wk2 := by assumption
          have hzd := apz_gl hz (gl_drew (gl_refl [] wk2)) si_ HNN.out
          have hfew := ap_few hzd.1
          have q1 : wk2.cell? ⟨M, 1, none⟩ = some (.map (some be)) := by assumption
          obtain ⟨w7, hrun, hm7, hg7⟩ := mapB_store Tryz.underlying22 Tryz.underlying92 Tryz.underlying4 hzd.1.held (by unfold maxLen; omega) (t := b) (by unfold maxLen; omega) true
          have HA7 := Lib.hid (ap_ins hzd.1 hCe (fun e => hrr e) hg7 hm7 (ite_le _ _) HGR.out qb)
          have HM7 := Lib.hid (blk_gl hzd.2.1 hg7 (by simpa using hne))
          have HG7 := Lib.hid (gok_gl hzd.2.2 hg7 (by simpa using hlo))
          clear hzd hm7 hg7 HZ0 HKP HASK HKNW
          go_upto_region 15 with fail
          go_region
          try go_wp2
          go_roundw
          case rel => exact ⟨ins S1 b, _, _, cnt1, HA7, Lib.hid (gone_step HN.out (fun u hu => ins_old hu) HDD.out), HM7, HG7⟩
          case measure => rw [rangeB_left HA7.out.rng, rangeB_left HA.out.rng]; exact HCN.out
    have b84 : (((s.op.toNat : Nat) : Int) == 84) = false := by simp; omega
    have b66 : (((s.op.toNat : Nat) : Int) == 66) = false := by simp; omega
    have HD := Lib.hid (done_other (S := S) (S1 := S1) hx h84 h66)
    clear hx h84 h66
    go_wp2_with fail
    refine (tOpen t htl _ HG1.out).mono ?_
    rintro e w2 hp
    rw [HX.out] at hp
    obtain ⟨ad, kn, kc, rfl, hown, hb2⟩ := hp
    obtain ⟨hts, hkn, hge⟩ := own_terms hown
    clear hown
    subst hkn
    have HP := Lib.hid (blk_new w2 (.cells #[.int .u8 s.op.toNat, .int .i64 (numOf s), .string (bs s.text), .slice ad s.kids.length kc] 98))
    have hg2 : GL [] w1 (w2.alloc (.cells #[.int .u8 s.op.toNat, .int .i64 (numOf s), .string (bs s.text), .slice ad s.kids.length kc] 98)) := gl_alloc (gl_below hb2 (gl_refl _ _)) _
    have HV := Lib.hid (termsAt_glx hts (gl_alloc (gl_refl [] w2) (.cells #[.int .u8 s.op.toNat, .int .i64 (numOf s), .string (bs s.text), .slice ad s.kids.length kc] 98)) si_)
    have hBe : w2.heap.size ≠ be := by have := hb2.size; have := HS1.out; omega
    have HGE : Hid (∀ b o c, Value.slice ad s.kids.length kc = .slice (some ⟨b, o, none⟩) s.kids.length c → b ≠ be) := fun b o c h => by have := hge b o c h; have := HS1.out; omega
    clear hts hge hb2
    go_wp2_with fail
    generalize w2.alloc (.cells #[.int .u8 s.op.toNat, .int .i64 (numOf s), .string (bs s.text), .slice ad s.kids.length kc] 98) = v at *
    generalize w2.heap.size = B at *
    have HA2 := Lib.hid (ap_gl HA1.out hg2)
    have HM2 := Lib.hid (blk_gl HM1.out hg2 si_)
    have HG2 := Lib.hid (gok_gl HG1.out hg2 si_)
    go_roundw
    case rel => exact ⟨S1, m1, _, cnt1, HA2, Lib.hid (gone_step HN.out (fun _ h => h) HD.out), HM2, HG2⟩
    case measure => rw [rangeB_left HA2.out.rng, rangeB_left HA.out.rng]; exact HCN.out
end Go.Proofs.YtaaiaahkakkleaaGreatDoor
