/- The program's SHA-256: a block taken in. -/
import Derived.Test.YtembdkodajichaaGreatDoorRegI
import Derived.Laws.CopyRow
set_option maxRecDepth 100000
set_option maxHeartbeats 4000000
set_option linter.unusedSimpArgs false
set_option linter.unusedVariables false
namespace Go.Proofs.YtembdkodajichaaGreatDoor
open Go.RowKit
def zco_ (l : List Int) : Array Value := (l.map (Value.int .u32) ++ List.replicate (64 - l.length) (Value.int .u32 0)).toArray
theorem ziC_ {rs : List Nat} {w w1 : World} (h : GL rs w w1) (g : Nat) (x : Array Value) (hg : g ∈ rs ∨ w.heap.size ≤ g) : GL rs w (w1.setRow g x) := by
 refine ⟨h.os, h.tape, h.output, by simpa [World.setRow] using h.size, fun k hk hn => ?_⟩
 have hne : g ≠ k := by rintro rfl; rcases hg with hg | hg; exact hn hg; omega
 have : (w1.setRow g x).heap[k]? = w1.heap[k]? := by simp [World.setRow, Array.getElem?_modify, hne]
 rw [this]
 exact h.block k hk hn
theorem Tryz.sizeU32 : (Tryz.prog.info? 121).map (·.size) = some 1 := by kernel_rfl
theorem zeu_ (l : List Int) (j : Nat) (h : j < l.length) : (zco_ l)[j]? = some (.int .u32 (l.getD j 0)) := by
 unfold zco_
 rw [List.getElem?_toArray, List.getElem?_append_left (by simpa using h), List.getElem?_map, List.getElem?_eq_getElem h, List.getD, List.getElem?_eq_getElem h]
 rfl
theorem ziD_ (l : List Int) (x : Int) (h : l.length < 64) : (zco_ l).setIfInBounds l.length (.int .u32 x) = zco_ (l ++ [x]) := by
 unfold zco_
 rw [List.setIfInBounds_toArray, List.set_append_right _ _ si_]
 congr 1
 rw [List.length_map, Nat.sub_self, show 64 - l.length = (64 - (l ++ [x]).length) + 1 by simp; omega, List.replicate_succ, List.set_cons_zero]
 simp
theorem ziE_ (l : List Int) (j : Nat) (h : l.length ≤ j) (h2 : j < 64) : (zco_ l)[j]? = some (.int .u32 0) := by
 unfold zco_
 rw [List.getElem?_toArray, List.getElem?_append_right (by simpa using h), List.getElem?_replicate, if_pos so_]
theorem zcc_ (x : Int) : IntKind.u32.wrap x = x % 4294967296 := by simp [IntKind.wrap, IntKind.signed, IntKind.bits]
def vsC (s q : S8) (i : Nat) : Array Value := (((s8L (addS s q)).take i ++ (s8L s).drop i).map (Value.int .u32)).toArray
theorem zmz_ (s q : S8) (i : Nat) (h : i < 8) : (vsC s q i)[i]? = some (.int .u32 ((s8L s).getD i 0)) := by
 rcases (by omega : i = 0 ∨ i = 1 ∨ i = 2 ∨ i = 3 ∨ i = 4 ∨ i = 5 ∨ i = 6 ∨ i = 7) with rfl | rfl | rfl | rfl | rfl | rfl | rfl | rfl <;> rfl
theorem zmA_ (s q : S8) (i : Nat) (h : i < 8) : (vsC s q i).setIfInBounds i (.int .u32 (IntKind.u32.wrap ((s8L s).getD i 0 + (s8L q).getD i 0))) = vsC s q (i + 1) := by
 rcases (by omega : i = 0 ∨ i = 1 ∨ i = 2 ∨ i = 3 ∨ i = 4 ∨ i = 5 ∨ i = 6 ∨ i = 7) with rfl | rfl | rfl | rfl | rfl | rfl | rfl | rfl <;> rfl
theorem zmB_ (q : S8) (i : Nat) (h : i < 8) : (s8C q)[i]? = some (.int .u32 ((s8L q).getD i 0)) := by
 rcases (by omega : i = 0 ∨ i = 1 ∨ i = 2 ∨ i = 3 ∨ i = 4 ∨ i = 5 ∨ i = 6 ∨ i = 7) with rfl | rfl | rfl | rfl | rfl | rfl | rfl | rfl <;> rfl
theorem zmC_ (a b c d : UInt8) : bits .or .u32 (bits .or .u32 (bits .or .u32 ((a.toNat : Int) % 4294967296 * 16777216 % 4294967296) ((b.toNat : Int) % 4294967296 * 65536 % 4294967296)) ((c.toNat : Int) % 4294967296 * 256 % 4294967296)) ((d.toNat : Int) % 4294967296) = zcn_ a.toNat b.toNat c.toNat d.toNat := by
 have ha := a.toNat_lt
 have hb := b.toNat_lt
 have hc := c.toNat_lt
 have hd := d.toNat_lt
 have e1 : (a.toNat : Int) % 4294967296 * 16777216 % 4294967296 = u32 (a.toNat * 2 ^ 24) := by unfold u32; rw [zcc_]; omega
 have e2 : (b.toNat : Int) % 4294967296 * 65536 % 4294967296 = u32 (b.toNat * 2 ^ 16) := by unfold u32; rw [zcc_]; omega
 have e3 : (c.toNat : Int) % 4294967296 * 256 % 4294967296 = u32 (c.toNat * 2 ^ 8) := by unfold u32; rw [zcc_]; omega
 have e4 : (d.toNat : Int) % 4294967296 = d.toNat := by omega
 rw [e1, e2, e3, e4]
 rfl
theorem zmD_ (a b c d : Int) : (a + bits .xor .u32 (bits .xor .u32 (rotr 7 b) (rotr 18 b)) (b / 8) + c + bits .xor .u32 (bits .xor .u32 (rotr 17 d) (rotr 19 d)) (d / 1024)) % 4294967296 = zdQ_ a b c d := by
 show _ = u32 (u32 (u32 (a + bits .xor .u32 (bits .xor .u32 (rotr 7 b) (rotr 18 b)) (b / 8)) + c) + bits .xor .u32 (bits .xor .u32 (rotr 17 d) (rotr 19 d)) (d / 1024))
 generalize bits .xor .u32 (bits .xor .u32 (rotr 7 b) (rotr 18 b)) (b / 8) = X
 generalize bits .xor .u32 (bits .xor .u32 (rotr 17 d) (rotr 19 d)) (d / 1024) = Y
 unfold u32
 simp only [zcc_]
 omega
theorem zmE_ (l : List Int) (i : Nat) (h : i < l.length) : l.take (i + 1) = l.take i ++ [l.getD i 0] := by
 rw [List.take_add_one, List.getElem?_eq_getElem h, List.getD, List.getElem?_eq_getElem h]
 rfl
theorem zdi_ : ∀ (k : Nat) (l : List UInt8), l.length = 4 * k → (zad_ l).length = k
 | 0, l, h => by rw [List.eq_nil_of_length_eq_zero h]; rfl
 | k + 1, a :: b :: c :: d :: r, h => by simp only [zad_, List.length_cons]; rw [zdi_ k r (by simp at h; omega)]
 | k + 1, [], h => by simp at h
 | k + 1, [_], h => by simp at h; omega
 | k + 1, [_, _], h => by simp at h; omega
 | k + 1, [_, _, _], h => by simp at h; omega
theorem zgE_ : ∀ (i : Nat) (l : List UInt8), 4 * i + 3 < l.length → (zad_ l).getD i 0 = zcn_ (l.getD (4 * i) 0).toNat (l.getD (4 * i + 1) 0).toNat (l.getD (4 * i + 2) 0).toNat (l.getD (4 * i + 3) 0).toNat
 | 0, a :: b :: c :: d :: r, _ => rfl
 | i + 1, a :: b :: c :: d :: r, h => by
   have ih := zgE_ i r (by simp at h; omega)
   simp only [zad_, List.getD_cons_succ]
   rw [ih]
   rfl
 | i, [], h => by simp at h
 | i, [_], h => by simp at h
 | i, [_, _], h => by simp at h; omega
 | i, [_, _, _], h => by simp at h; omega
def szW (w : World) : Nat := w.heap.size
def zcz_ (w : World) : Prop := ∀ j, j < 64 → w.cell? ⟨7, j, none⟩ = some (.int .u32 (kTab.getD j 0))
theorem zcd_ {w w' : World} {rs : List Nat} (h : zcz_ w) (hg : GL rs w w') (hr : 7 ∉ rs) : zcz_ w' := by
 intro j hj
 have h1 := h j hj
 have hlt := World.block_lt_of_cell? _ _ h1
 simp only [World.cell?, hg.block _ hlt hr] at h1 ⊢
 exact h1
def zbs_ (B o : Nat) (l : List UInt8) (w : World) : Prop := B < w.heap.size ∧ ∀ j, j < l.length → w.cell? ⟨B, o + j, none⟩ = some (.int .u8 (l.getD j 0).toNat)
theorem zbf_ {B o : Nat} {l : List UInt8} {w w' : World} {rs : List Nat} (h : zbs_ B o l w) (hg : GL rs w w') (hr : B ∉ rs) : zbs_ B o l w' := by
 refine ⟨Nat.lt_of_lt_of_le h.1 hg.size, fun j hj => ?_⟩
 have h1 := h.2 j hj
 simp only [World.cell?, hg.block _ h.1 hr] at h1 ⊢
 exact h1
theorem zcp_ {ops : Array Oper} {tmps : Array Value} {j d : Nat} {b : Bool} (h : ops[j]?.bind (·.dst) = some d) (e : tmps[d]? = some (.bool b)) : yielded ops tmps j = some b := by
 unfold yielded
 rw [h]
 simp [e]
def GV (gs : List (Option Value)) (i : Nat) (v : Value) : Prop := ∀ u, gs[i]? = some (some u) → v = u
theorem z7_ {gs : List (Option Value)} {i : Nat} {v u : Value} (h : gs[i]? = some (some u)) (e : v = u) : GV gs i v := fun x hx => by rw [h] at hx; injection hx with hx; injection hx with hx; rw [e, hx]
theorem zfn_ {gs : List (Option Value)} {i : Nat} {v : Value} (h : gs[i]? = some none) : GV gs i v := fun x hx => by rw [h] at hx; injection hx with hx; cases hx
def k9_ : List (Option Nat) := [some 109, some 110, some 111, some 112, some 113, some 114, some 115, some 116, some 117, some 118, some 119, some 120, some 121, some 122, some 123, some 124, some 125, some 126, some 127, some 128, some 129, some 130, some 131, some 132, some 133, some 134, some 135, some 136, some 137, some 138, some 16]
def j5_ (U W i : Nat) (t : S8) (kv wv : Int) : List (Option Value) := [some (.pointer (some ⟨U, 7, none⟩)), some (.int .u32 (t.h)), some (.int .u32 (t.e)), some (.int .u32 (rotr 6 t.e)), some (.int .u32 (t.e)), some (.int .u32 (rotr 11 t.e)), some (.int .u32 (xo (rotr 6 t.e) (rotr 11 t.e))), some (.int .u32 (t.e)), some (.int .u32 (rotr 25 t.e)), some (.int .u32 (xo (xo (rotr 6 t.e) (rotr 11 t.e)) (rotr 25 t.e))), some (.int .u32 (u32 (t.h + xo (xo (rotr 6 t.e) (rotr 11 t.e)) (rotr 25 t.e)))), some (.int .u32 (t.e)), some (.pointer (some ⟨U, 5, none⟩)), some (.int .u32 (t.f)), some (.int .u32 (an t.e t.f)), some (.int .u32 (t.e)), some (.int .u32 (nt t.e)), some (.pointer (some ⟨U, 6, none⟩)), some (.int .u32 (t.g)), some (.int .u32 (an (nt t.e) t.g)), some (.int .u32 (xo (an t.e t.f) (an (nt t.e) t.g))), some (.int .u32 (u32 (u32 (t.h + xo (xo (rotr 6 t.e) (rotr 11 t.e)) (rotr 25 t.e)) + xo (an t.e t.f) (an (nt t.e) t.g)))), some (.int .i64 ((i : Nat) : Int)), some (.pointer (some ⟨7, i, none⟩)), some (.int .u32 (kv)), some (.int .u32 (u32 (u32 (u32 (t.h + xo (xo (rotr 6 t.e) (rotr 11 t.e)) (rotr 25 t.e)) + xo (an t.e t.f) (an (nt t.e) t.g)) + kv))), some (.int .i64 ((i : Nat) : Int)), some (.pointer (some ⟨W, i, none⟩)), some (.int .u32 (wv)), some (.int .u32 (rX t kv wv)), some (.int .u32 (rX t kv wv))]
section
variable {ops : Array Oper} {Q : Exit → Act → World → Prop} {a0 : Act} {I : World → Prop} {af : Array Edge} {ty : Nat} {pos : String} {at_ : Array TypeId} {U W i : Nat} {t : S8} {kv wv : Int}
theorem zmF_ (o12 : a0.tmps[12]? = some (.pointer (some ⟨U, 0, none⟩))) : y4_ Tryz.prog ops Q a0 k9_ I (GV (j5_ U W i t kv wv)) 0 { dst := some 109, op := .indexAddr 191 (.tmp 12) (.const (.int .i64 7)), type := ty, pos := pos, after := af, guard := none } := by
 intro a w hout hI hdep K hK
 rw [if_pos (by simp [Region.wanted])]
 have o12w := (hout 12 de_).trans o12
 clear hout hdep
 clear o12
 go_simp
 exact hK _ _ (z7_ rfl rs_) hI
theorem zmG_ (h109 : (⟨0, .data⟩ : Edge) ∈ af.toList) (hL : ∀ w, I w → w.heap[U]? = some (.cells #[.int .u32 t.a, .int .u32 t.b, .int .u32 t.c, .int .u32 t.d, .int .u32 t.e, .int .u32 t.f, .int .u32 t.g, .int .u32 t.h] 191 (0, 0))) : y4_ Tryz.prog ops Q a0 k9_ I (GV (j5_ U W i t kv wv)) 1 { dst := some 110, op := .load 121 (.tmp 109), type := ty, pos := pos, after := af, guard := none } := by
 intro a w hout hI hdep K hK
 rw [if_pos (by simp [Region.wanted])]
 obtain ⟨v109, g109, e109⟩ := hdep ⟨0, .data⟩ h109 rfl
 have e109 := e109 109 rfl
 have g109 := g109 _ rfl
 subst g109
 have hLw := hL w hI
 clear hout hdep
 have fa := z0_ hLw
 have fb := z8_ hLw
 clear hLw
 go_simp
 exact hK _ _ (z7_ rfl rs_) hI
theorem zmH_ (o14 : a0.tmps[14]? = some (.int .u32 (t.e))) : y4_ Tryz.prog ops Q a0 k9_ I (GV (j5_ U W i t kv wv)) 2 { dst := some 111, op := .move (.tmp 14), type := ty, pos := pos, after := af, guard := none } := by
 intro a w hout hI hdep K hK
 rw [if_pos (by simp [Region.wanted])]
 have o14w := (hout 14 de_).trans o14
 clear hout hdep
 clear o14
 go_simp
 exact hK _ _ (z7_ rfl rs_) hI
theorem zmI_ (h111 : (⟨2, .data⟩ : Edge) ∈ af.toList) (hC : ∀ w, I w → Calls Tryz.prog 178 #[.int .u32 (t.e), .int .i64 (-6)] w fun e w' => e = .returned (.int .u32 (rotr 6 t.e)) ∧ I w') : y4_ Tryz.prog ops Q a0 k9_ I (GV (j5_ U W i t kv wv)) 3 { dst := some 112, op := .call { callee := .value (.func 178), args := #[.tmp 111, .const (.int .i64 (-6))], argTypes := at_ }, type := ty, pos := pos, after := af, guard := none } := by
 intro a w hout hI hdep K hK
 rw [if_pos (by simp [Region.wanted])]
 obtain ⟨v111, g111, e111⟩ := hdep ⟨2, .data⟩ h111 rfl
 have e111 := e111 111 rfl
 have g111 := g111 _ rfl
 subst g111
 clear hout hdep
 go_simp
 refine (hC w hI).mono ?_
 rintro e w1 ⟨rfl, hI1⟩
 exact hK _ _ (z7_ rfl rfl) hI1
theorem zmJ_ (o14 : a0.tmps[14]? = some (.int .u32 (t.e))) : y4_ Tryz.prog ops Q a0 k9_ I (GV (j5_ U W i t kv wv)) 4 { dst := some 113, op := .move (.tmp 14), type := ty, pos := pos, after := af, guard := none } := by
 intro a w hout hI hdep K hK
 rw [if_pos (by simp [Region.wanted])]
 have o14w := (hout 14 de_).trans o14
 clear hout hdep
 clear o14
 go_simp
 exact hK _ _ (z7_ rfl rs_) hI
theorem zmK_ (h113 : (⟨4, .data⟩ : Edge) ∈ af.toList) (hC : ∀ w, I w → Calls Tryz.prog 178 #[.int .u32 (t.e), .int .i64 (-11)] w fun e w' => e = .returned (.int .u32 (rotr 11 t.e)) ∧ I w') : y4_ Tryz.prog ops Q a0 k9_ I (GV (j5_ U W i t kv wv)) 5 { dst := some 114, op := .call { callee := .value (.func 178), args := #[.tmp 113, .const (.int .i64 (-11))], argTypes := at_ }, type := ty, pos := pos, after := af, guard := none } := by
 intro a w hout hI hdep K hK
 rw [if_pos (by simp [Region.wanted])]
 obtain ⟨v113, g113, e113⟩ := hdep ⟨4, .data⟩ h113 rfl
 have e113 := e113 113 rfl
 have g113 := g113 _ rfl
 subst g113
 clear hout hdep
 go_simp
 refine (hC w hI).mono ?_
 rintro e w1 ⟨rfl, hI1⟩
 exact hK _ _ (z7_ rfl rfl) hI1
theorem zmL_ (h112 : (⟨3, .data⟩ : Edge) ∈ af.toList) (h114 : (⟨5, .data⟩ : Edge) ∈ af.toList) : y4_ Tryz.prog ops Q a0 k9_ I (GV (j5_ U W i t kv wv)) 6 { dst := some 115, op := .binOp .xor 121 (.tmp 112) (.tmp 114) 121, type := ty, pos := pos, after := af, guard := none } := by
 intro a w hout hI hdep K hK
 rw [if_pos (by simp [Region.wanted])]
 obtain ⟨v112, g112, e112⟩ := hdep ⟨3, .data⟩ h112 rfl
 have e112 := e112 112 rfl
 have g112 := g112 _ rfl
 subst g112
 obtain ⟨v114, g114, e114⟩ := hdep ⟨5, .data⟩ h114 rfl
 have e114 := e114 114 rfl
 have g114 := g114 _ rfl
 subst g114
 clear hout hdep
 go_simp
 exact hK _ _ (z7_ rfl rs_) hI
theorem zmM_ (o14 : a0.tmps[14]? = some (.int .u32 (t.e))) : y4_ Tryz.prog ops Q a0 k9_ I (GV (j5_ U W i t kv wv)) 7 { dst := some 116, op := .move (.tmp 14), type := ty, pos := pos, after := af, guard := none } := by
 intro a w hout hI hdep K hK
 rw [if_pos (by simp [Region.wanted])]
 have o14w := (hout 14 de_).trans o14
 clear hout hdep
 clear o14
 go_simp
 exact hK _ _ (z7_ rfl rs_) hI
theorem zmN_ (h116 : (⟨7, .data⟩ : Edge) ∈ af.toList) (hC : ∀ w, I w → Calls Tryz.prog 178 #[.int .u32 (t.e), .int .i64 (-25)] w fun e w' => e = .returned (.int .u32 (rotr 25 t.e)) ∧ I w') : y4_ Tryz.prog ops Q a0 k9_ I (GV (j5_ U W i t kv wv)) 8 { dst := some 117, op := .call { callee := .value (.func 178), args := #[.tmp 116, .const (.int .i64 (-25))], argTypes := at_ }, type := ty, pos := pos, after := af, guard := none } := by
 intro a w hout hI hdep K hK
 rw [if_pos (by simp [Region.wanted])]
 obtain ⟨v116, g116, e116⟩ := hdep ⟨7, .data⟩ h116 rfl
 have e116 := e116 116 rfl
 have g116 := g116 _ rfl
 subst g116
 clear hout hdep
 go_simp
 refine (hC w hI).mono ?_
 rintro e w1 ⟨rfl, hI1⟩
 exact hK _ _ (z7_ rfl rfl) hI1
theorem zmO_ (h115 : (⟨6, .data⟩ : Edge) ∈ af.toList) (h117 : (⟨8, .data⟩ : Edge) ∈ af.toList) : y4_ Tryz.prog ops Q a0 k9_ I (GV (j5_ U W i t kv wv)) 9 { dst := some 118, op := .binOp .xor 121 (.tmp 115) (.tmp 117) 121, type := ty, pos := pos, after := af, guard := none } := by
 intro a w hout hI hdep K hK
 rw [if_pos (by simp [Region.wanted])]
 obtain ⟨v115, g115, e115⟩ := hdep ⟨6, .data⟩ h115 rfl
 have e115 := e115 115 rfl
 have g115 := g115 _ rfl
 subst g115
 obtain ⟨v117, g117, e117⟩ := hdep ⟨8, .data⟩ h117 rfl
 have e117 := e117 117 rfl
 have g117 := g117 _ rfl
 subst g117
 clear hout hdep
 go_simp
 exact hK _ _ (z7_ rfl rs_) hI
theorem zmP_ (h110 : (⟨1, .data⟩ : Edge) ∈ af.toList) (h118 : (⟨9, .data⟩ : Edge) ∈ af.toList) : y4_ Tryz.prog ops Q a0 k9_ I (GV (j5_ U W i t kv wv)) 10 { dst := some 119, op := .binOp .add 121 (.tmp 110) (.tmp 118) 121, type := ty, pos := pos, after := af, guard := none } := by
 intro a w hout hI hdep K hK
 rw [if_pos (by simp [Region.wanted])]
 obtain ⟨v110, g110, e110⟩ := hdep ⟨1, .data⟩ h110 rfl
 have e110 := e110 110 rfl
 have g110 := g110 _ rfl
 subst g110
 obtain ⟨v118, g118, e118⟩ := hdep ⟨9, .data⟩ h118 rfl
 have e118 := e118 118 rfl
 have g118 := g118 _ rfl
 subst g118
 clear hout hdep
 go_simp
 exact hK _ _ (z7_ rfl rs_) hI
theorem zmQ_ (o14 : a0.tmps[14]? = some (.int .u32 (t.e))) : y4_ Tryz.prog ops Q a0 k9_ I (GV (j5_ U W i t kv wv)) 11 { dst := some 120, op := .move (.tmp 14), type := ty, pos := pos, after := af, guard := none } := by
 intro a w hout hI hdep K hK
 rw [if_pos (by simp [Region.wanted])]
 have o14w := (hout 14 de_).trans o14
 clear hout hdep
 clear o14
 go_simp
 exact hK _ _ (z7_ rfl rs_) hI
theorem zmR_ (o12 : a0.tmps[12]? = some (.pointer (some ⟨U, 0, none⟩))) : y4_ Tryz.prog ops Q a0 k9_ I (GV (j5_ U W i t kv wv)) 12 { dst := some 121, op := .indexAddr 191 (.tmp 12) (.const (.int .i64 5)), type := ty, pos := pos, after := af, guard := none } := by
 intro a w hout hI hdep K hK
 rw [if_pos (by simp [Region.wanted])]
 have o12w := (hout 12 de_).trans o12
 clear hout hdep
 clear o12
 go_simp
 exact hK _ _ (z7_ rfl rs_) hI
theorem zmS_ (h121 : (⟨12, .data⟩ : Edge) ∈ af.toList) (hL : ∀ w, I w → w.heap[U]? = some (.cells #[.int .u32 t.a, .int .u32 t.b, .int .u32 t.c, .int .u32 t.d, .int .u32 t.e, .int .u32 t.f, .int .u32 t.g, .int .u32 t.h] 191 (0, 0))) : y4_ Tryz.prog ops Q a0 k9_ I (GV (j5_ U W i t kv wv)) 13 { dst := some 122, op := .load 121 (.tmp 121), type := ty, pos := pos, after := af, guard := none } := by
 intro a w hout hI hdep K hK
 rw [if_pos (by simp [Region.wanted])]
 obtain ⟨v121, g121, e121⟩ := hdep ⟨12, .data⟩ h121 rfl
 have e121 := e121 121 rfl
 have g121 := g121 _ rfl
 subst g121
 have hLw := hL w hI
 clear hout hdep
 have fa := z0_ hLw
 have fb := z8_ hLw
 clear hLw
 go_simp
 exact hK _ _ (z7_ rfl rs_) hI
theorem zmT_ (h120 : (⟨11, .data⟩ : Edge) ∈ af.toList) (h122 : (⟨13, .data⟩ : Edge) ∈ af.toList) : y4_ Tryz.prog ops Q a0 k9_ I (GV (j5_ U W i t kv wv)) 14 { dst := some 123, op := .binOp .and 121 (.tmp 120) (.tmp 122) 121, type := ty, pos := pos, after := af, guard := none } := by
 intro a w hout hI hdep K hK
 rw [if_pos (by simp [Region.wanted])]
 obtain ⟨v120, g120, e120⟩ := hdep ⟨11, .data⟩ h120 rfl
 have e120 := e120 120 rfl
 have g120 := g120 _ rfl
 subst g120
 obtain ⟨v122, g122, e122⟩ := hdep ⟨13, .data⟩ h122 rfl
 have e122 := e122 122 rfl
 have g122 := g122 _ rfl
 subst g122
 clear hout hdep
 go_simp
 exact hK _ _ (z7_ rfl rs_) hI
theorem zmU_ (o14 : a0.tmps[14]? = some (.int .u32 (t.e))) : y4_ Tryz.prog ops Q a0 k9_ I (GV (j5_ U W i t kv wv)) 15 { dst := some 124, op := .move (.tmp 14), type := ty, pos := pos, after := af, guard := none } := by
 intro a w hout hI hdep K hK
 rw [if_pos (by simp [Region.wanted])]
 have o14w := (hout 14 de_).trans o14
 clear hout hdep
 clear o14
 go_simp
 exact hK _ _ (z7_ rfl rs_) hI
theorem zmV_ (h124 : (⟨15, .data⟩ : Edge) ∈ af.toList) : y4_ Tryz.prog ops Q a0 k9_ I (GV (j5_ U W i t kv wv)) 16 { dst := some 125, op := .unOp .xor 121 (.tmp 124), type := ty, pos := pos, after := af, guard := none } := by
 intro a w hout hI hdep K hK
 rw [if_pos (by simp [Region.wanted])]
 obtain ⟨v124, g124, e124⟩ := hdep ⟨15, .data⟩ h124 rfl
 have e124 := e124 124 rfl
 have g124 := g124 _ rfl
 subst g124
 clear hout hdep
 go_simp
 exact hK _ _ (z7_ rfl rfl) hI
theorem zmW_ (o12 : a0.tmps[12]? = some (.pointer (some ⟨U, 0, none⟩))) : y4_ Tryz.prog ops Q a0 k9_ I (GV (j5_ U W i t kv wv)) 17 { dst := some 126, op := .indexAddr 191 (.tmp 12) (.const (.int .i64 6)), type := ty, pos := pos, after := af, guard := none } := by
 intro a w hout hI hdep K hK
 rw [if_pos (by simp [Region.wanted])]
 have o12w := (hout 12 de_).trans o12
 clear hout hdep
 clear o12
 go_simp
 exact hK _ _ (z7_ rfl rs_) hI
theorem zmX_ (h126 : (⟨17, .data⟩ : Edge) ∈ af.toList) (hL : ∀ w, I w → w.heap[U]? = some (.cells #[.int .u32 t.a, .int .u32 t.b, .int .u32 t.c, .int .u32 t.d, .int .u32 t.e, .int .u32 t.f, .int .u32 t.g, .int .u32 t.h] 191 (0, 0))) : y4_ Tryz.prog ops Q a0 k9_ I (GV (j5_ U W i t kv wv)) 18 { dst := some 127, op := .load 121 (.tmp 126), type := ty, pos := pos, after := af, guard := none } := by
 intro a w hout hI hdep K hK
 rw [if_pos (by simp [Region.wanted])]
 obtain ⟨v126, g126, e126⟩ := hdep ⟨17, .data⟩ h126 rfl
 have e126 := e126 126 rfl
 have g126 := g126 _ rfl
 subst g126
 have hLw := hL w hI
 clear hout hdep
 have fa := z0_ hLw
 have fb := z8_ hLw
 clear hLw
 go_simp
 exact hK _ _ (z7_ rfl rs_) hI
theorem zmY_ (h125 : (⟨16, .data⟩ : Edge) ∈ af.toList) (h127 : (⟨18, .data⟩ : Edge) ∈ af.toList) : y4_ Tryz.prog ops Q a0 k9_ I (GV (j5_ U W i t kv wv)) 19 { dst := some 128, op := .binOp .and 121 (.tmp 125) (.tmp 127) 121, type := ty, pos := pos, after := af, guard := none } := by
 intro a w hout hI hdep K hK
 rw [if_pos (by simp [Region.wanted])]
 obtain ⟨v125, g125, e125⟩ := hdep ⟨16, .data⟩ h125 rfl
 have e125 := e125 125 rfl
 have g125 := g125 _ rfl
 subst g125
 obtain ⟨v127, g127, e127⟩ := hdep ⟨18, .data⟩ h127 rfl
 have e127 := e127 127 rfl
 have g127 := g127 _ rfl
 subst g127
 clear hout hdep
 go_simp
 exact hK _ _ (z7_ rfl rs_) hI
theorem zmZ_ (h123 : (⟨14, .data⟩ : Edge) ∈ af.toList) (h128 : (⟨19, .data⟩ : Edge) ∈ af.toList) : y4_ Tryz.prog ops Q a0 k9_ I (GV (j5_ U W i t kv wv)) 20 { dst := some 129, op := .binOp .xor 121 (.tmp 123) (.tmp 128) 121, type := ty, pos := pos, after := af, guard := none } := by
 intro a w hout hI hdep K hK
 rw [if_pos (by simp [Region.wanted])]
 obtain ⟨v123, g123, e123⟩ := hdep ⟨14, .data⟩ h123 rfl
 have e123 := e123 123 rfl
 have g123 := g123 _ rfl
 subst g123
 obtain ⟨v128, g128, e128⟩ := hdep ⟨19, .data⟩ h128 rfl
 have e128 := e128 128 rfl
 have g128 := g128 _ rfl
 subst g128
 clear hout hdep
 go_simp
 exact hK _ _ (z7_ rfl rs_) hI
theorem zm0_ (h119 : (⟨10, .data⟩ : Edge) ∈ af.toList) (h129 : (⟨20, .data⟩ : Edge) ∈ af.toList) : y4_ Tryz.prog ops Q a0 k9_ I (GV (j5_ U W i t kv wv)) 21 { dst := some 130, op := .binOp .add 121 (.tmp 119) (.tmp 129) 121, type := ty, pos := pos, after := af, guard := none } := by
 intro a w hout hI hdep K hK
 rw [if_pos (by simp [Region.wanted])]
 obtain ⟨v119, g119, e119⟩ := hdep ⟨10, .data⟩ h119 rfl
 have e119 := e119 119 rfl
 have g119 := g119 _ rfl
 subst g119
 obtain ⟨v129, g129, e129⟩ := hdep ⟨20, .data⟩ h129 rfl
 have e129 := e129 129 rfl
 have g129 := g129 _ rfl
 subst g129
 clear hout hdep
 go_simp
 exact hK _ _ (z7_ rfl rs_) hI
theorem zm1_ (o13 : a0.tmps[13]? = some (.int .i64 ((i : Nat) : Int))) : y4_ Tryz.prog ops Q a0 k9_ I (GV (j5_ U W i t kv wv)) 22 { dst := some 131, op := .move (.tmp 13), type := ty, pos := pos, after := af, guard := none } := by
 intro a w hout hI hdep K hK
 rw [if_pos (by simp [Region.wanted])]
 have o13w := (hout 13 de_).trans o13
 clear hout hdep
 clear o13
 go_simp
 exact hK _ _ (z7_ rfl rs_) hI
theorem zm2_ (h131 : (⟨22, .data⟩ : Edge) ∈ af.toList) (hi : ((i : Nat) : Int) < 64) : y4_ Tryz.prog ops Q a0 k9_ I (GV (j5_ U W i t kv wv)) 23 { dst := some 132, op := .indexAddr 224 (.global 7) (.tmp 131), type := ty, pos := pos, after := af, guard := none } := by
 intro a w hout hI hdep K hK
 rw [if_pos (by simp [Region.wanted])]
 obtain ⟨v131, g131, e131⟩ := hdep ⟨22, .data⟩ h131 rfl
 have e131 := e131 131 rfl
 have g131 := g131 _ rfl
 subst g131
 clear hout hdep
 go_simp
 exact hK _ _ (z7_ rfl rs_) hI
theorem zm3_ (h132 : (⟨23, .data⟩ : Edge) ∈ af.toList) (hL : ∀ w, I w → w.cell? ⟨7, i, none⟩ = some (.int .u32 kv)) : y4_ Tryz.prog ops Q a0 k9_ I (GV (j5_ U W i t kv wv)) 24 { dst := some 133, op := .load 121 (.tmp 132), type := ty, pos := pos, after := af, guard := none } := by
 intro a w hout hI hdep K hK
 rw [if_pos (by simp [Region.wanted])]
 obtain ⟨v132, g132, e132⟩ := hdep ⟨23, .data⟩ h132 rfl
 have e132 := e132 132 rfl
 have g132 := g132 _ rfl
 subst g132
 have hLw := hL w hI
 clear hout hdep
 go_simp
 exact hK _ _ (z7_ rfl rs_) hI
theorem zm4_ (h130 : (⟨21, .data⟩ : Edge) ∈ af.toList) (h133 : (⟨24, .data⟩ : Edge) ∈ af.toList) : y4_ Tryz.prog ops Q a0 k9_ I (GV (j5_ U W i t kv wv)) 25 { dst := some 134, op := .binOp .add 121 (.tmp 130) (.tmp 133) 121, type := ty, pos := pos, after := af, guard := none } := by
 intro a w hout hI hdep K hK
 rw [if_pos (by simp [Region.wanted])]
 obtain ⟨v130, g130, e130⟩ := hdep ⟨21, .data⟩ h130 rfl
 have e130 := e130 130 rfl
 have g130 := g130 _ rfl
 subst g130
 obtain ⟨v133, g133, e133⟩ := hdep ⟨24, .data⟩ h133 rfl
 have e133 := e133 133 rfl
 have g133 := g133 _ rfl
 subst g133
 clear hout hdep
 go_simp
 exact hK _ _ (z7_ rfl rs_) hI
theorem zm5_ (o13 : a0.tmps[13]? = some (.int .i64 ((i : Nat) : Int))) : y4_ Tryz.prog ops Q a0 k9_ I (GV (j5_ U W i t kv wv)) 26 { dst := some 135, op := .move (.tmp 13), type := ty, pos := pos, after := af, guard := none } := by
 intro a w hout hI hdep K hK
 rw [if_pos (by simp [Region.wanted])]
 have o13w := (hout 13 de_).trans o13
 clear hout hdep
 clear o13
 go_simp
 exact hK _ _ (z7_ rfl rs_) hI
theorem zm6_ (h135 : (⟨26, .data⟩ : Edge) ∈ af.toList) (o5 : a0.tmps[5]? = some (.pointer (some ⟨W, 0, none⟩))) (hi : ((i : Nat) : Int) < 64) : y4_ Tryz.prog ops Q a0 k9_ I (GV (j5_ U W i t kv wv)) 27 { dst := some 136, op := .indexAddr 224 (.tmp 5) (.tmp 135), type := ty, pos := pos, after := af, guard := none } := by
 intro a w hout hI hdep K hK
 rw [if_pos (by simp [Region.wanted])]
 obtain ⟨v135, g135, e135⟩ := hdep ⟨26, .data⟩ h135 rfl
 have e135 := e135 135 rfl
 have g135 := g135 _ rfl
 subst g135
 have o5w := (hout 5 de_).trans o5
 clear hout hdep
 clear o5
 go_simp
 exact hK _ _ (z7_ rfl rs_) hI
theorem zm7_ (h136 : (⟨27, .data⟩ : Edge) ∈ af.toList) (hL : ∀ w, I w → w.cell? ⟨W, i, none⟩ = some (.int .u32 wv)) : y4_ Tryz.prog ops Q a0 k9_ I (GV (j5_ U W i t kv wv)) 28 { dst := some 137, op := .load 121 (.tmp 136), type := ty, pos := pos, after := af, guard := none } := by
 intro a w hout hI hdep K hK
 rw [if_pos (by simp [Region.wanted])]
 obtain ⟨v136, g136, e136⟩ := hdep ⟨27, .data⟩ h136 rfl
 have e136 := e136 136 rfl
 have g136 := g136 _ rfl
 subst g136
 have hLw := hL w hI
 clear hout hdep
 go_simp
 exact hK _ _ (z7_ rfl rs_) hI
theorem zm8_ (h134 : (⟨25, .data⟩ : Edge) ∈ af.toList) (h137 : (⟨28, .data⟩ : Edge) ∈ af.toList) : y4_ Tryz.prog ops Q a0 k9_ I (GV (j5_ U W i t kv wv)) 29 { dst := some 138, op := .binOp .add 121 (.tmp 134) (.tmp 137) 121, type := ty, pos := pos, after := af, guard := none } := by
 intro a w hout hI hdep K hK
 rw [if_pos (by simp [Region.wanted])]
 obtain ⟨v134, g134, e134⟩ := hdep ⟨25, .data⟩ h134 rfl
 have e134 := e134 134 rfl
 have g134 := g134 _ rfl
 subst g134
 obtain ⟨v137, g137, e137⟩ := hdep ⟨28, .data⟩ h137 rfl
 have e137 := e137 137 rfl
 have g137 := g137 _ rfl
 subst g137
 clear hout hdep
 go_simp
 exact hK _ _ (z7_ rfl rs_) hI
theorem dg16 (h138 : (⟨29, .data⟩ : Edge) ∈ af.toList) : y4_ Tryz.prog ops Q a0 k9_ I (GV (j5_ U W i t kv wv)) 30 { dst := some 16, op := .assign (.tmp 138), type := ty, pos := pos, after := af, guard := none } := by
 intro a w hout hI hdep K hK
 rw [if_pos (by simp [Region.wanted])]
 obtain ⟨v138, g138, e138⟩ := hdep ⟨29, .data⟩ h138 rfl
 have e138 := e138 138 rfl
 have g138 := g138 _ rfl
 subst g138
 clear hout hdep
 go_simp
 exact hK _ _ (z7_ rfl rs_) hI
end
def dhDS : List (Option Nat) := [some 139, some 140, some 141, some 142, some 143, some 144, some 145, some 146, some 147, some 148, some 149, some 150, some 151, some 152, some 153, some 154, some 155, some 156, some 157, some 158, some 159, some 160, some 161, some 162, some 17]
def dhGS (U : Nat) (t : S8) : List (Option Value) := [some (.int .u32 (t.a)), some (.int .u32 (rotr 2 t.a)), some (.int .u32 (t.a)), some (.int .u32 (rotr 13 t.a)), some (.int .u32 (xo (rotr 2 t.a) (rotr 13 t.a))), some (.int .u32 (t.a)), some (.int .u32 (rotr 22 t.a)), some (.int .u32 (xo (xo (rotr 2 t.a) (rotr 13 t.a)) (rotr 22 t.a))), some (.int .u32 (t.a)), some (.pointer (some ⟨U, 1, none⟩)), some (.int .u32 (t.b)), some (.int .u32 (an t.a t.b)), some (.int .u32 (t.a)), some (.pointer (some ⟨U, 2, none⟩)), some (.int .u32 (t.c)), some (.int .u32 (an t.a t.c)), some (.int .u32 (xo (an t.a t.b) (an t.a t.c))), some (.pointer (some ⟨U, 1, none⟩)), some (.int .u32 (t.b)), some (.pointer (some ⟨U, 2, none⟩)), some (.int .u32 (t.c)), some (.int .u32 (an t.b t.c)), some (.int .u32 (xo (xo (an t.a t.b) (an t.a t.c)) (an t.b t.c))), some (.int .u32 (rY t)), some (.int .u32 (rY t))]
section
variable {ops : Array Oper} {Q : Exit → Act → World → Prop} {a0 : Act} {I : World → Prop} {af : Array Edge} {ty : Nat} {pos : String} {at_ : Array TypeId} {U : Nat} {t : S8}
theorem zna_ (o15 : a0.tmps[15]? = some (.int .u32 (t.a))) : y4_ Tryz.prog ops Q a0 dhDS I (GV (dhGS U t)) 0 { dst := some 139, op := .move (.tmp 15), type := ty, pos := pos, after := af, guard := none } := by
 intro a w hout hI hdep K hK
 rw [if_pos (by simp [Region.wanted])]
 have o15w := (hout 15 de_).trans o15
 clear hout hdep
 clear o15
 go_simp
 exact hK _ _ (z7_ rfl rs_) hI
theorem znb_ (h139 : (⟨0, .data⟩ : Edge) ∈ af.toList) (hC : ∀ w, I w → Calls Tryz.prog 178 #[.int .u32 (t.a), .int .i64 (-2)] w fun e w' => e = .returned (.int .u32 (rotr 2 t.a)) ∧ I w') : y4_ Tryz.prog ops Q a0 dhDS I (GV (dhGS U t)) 1 { dst := some 140, op := .call { callee := .value (.func 178), args := #[.tmp 139, .const (.int .i64 (-2))], argTypes := at_ }, type := ty, pos := pos, after := af, guard := none } := by
 intro a w hout hI hdep K hK
 rw [if_pos (by simp [Region.wanted])]
 obtain ⟨v139, g139, e139⟩ := hdep ⟨0, .data⟩ h139 rfl
 have e139 := e139 139 rfl
 have g139 := g139 _ rfl
 subst g139
 clear hout hdep
 go_simp
 refine (hC w hI).mono ?_
 rintro e w1 ⟨rfl, hI1⟩
 exact hK _ _ (z7_ rfl rfl) hI1
theorem znc_ (o15 : a0.tmps[15]? = some (.int .u32 (t.a))) : y4_ Tryz.prog ops Q a0 dhDS I (GV (dhGS U t)) 2 { dst := some 141, op := .move (.tmp 15), type := ty, pos := pos, after := af, guard := none } := by
 intro a w hout hI hdep K hK
 rw [if_pos (by simp [Region.wanted])]
 have o15w := (hout 15 de_).trans o15
 clear hout hdep
 clear o15
 go_simp
 exact hK _ _ (z7_ rfl rs_) hI
theorem znd_ (h141 : (⟨2, .data⟩ : Edge) ∈ af.toList) (hC : ∀ w, I w → Calls Tryz.prog 178 #[.int .u32 (t.a), .int .i64 (-13)] w fun e w' => e = .returned (.int .u32 (rotr 13 t.a)) ∧ I w') : y4_ Tryz.prog ops Q a0 dhDS I (GV (dhGS U t)) 3 { dst := some 142, op := .call { callee := .value (.func 178), args := #[.tmp 141, .const (.int .i64 (-13))], argTypes := at_ }, type := ty, pos := pos, after := af, guard := none } := by
 intro a w hout hI hdep K hK
 rw [if_pos (by simp [Region.wanted])]
 obtain ⟨v141, g141, e141⟩ := hdep ⟨2, .data⟩ h141 rfl
 have e141 := e141 141 rfl
 have g141 := g141 _ rfl
 subst g141
 clear hout hdep
 go_simp
 refine (hC w hI).mono ?_
 rintro e w1 ⟨rfl, hI1⟩
 exact hK _ _ (z7_ rfl rfl) hI1
theorem zne_ (h140 : (⟨1, .data⟩ : Edge) ∈ af.toList) (h142 : (⟨3, .data⟩ : Edge) ∈ af.toList) : y4_ Tryz.prog ops Q a0 dhDS I (GV (dhGS U t)) 4 { dst := some 143, op := .binOp .xor 121 (.tmp 140) (.tmp 142) 121, type := ty, pos := pos, after := af, guard := none } := by
 intro a w hout hI hdep K hK
 rw [if_pos (by simp [Region.wanted])]
 obtain ⟨v140, g140, e140⟩ := hdep ⟨1, .data⟩ h140 rfl
 have e140 := e140 140 rfl
 have g140 := g140 _ rfl
 subst g140
 obtain ⟨v142, g142, e142⟩ := hdep ⟨3, .data⟩ h142 rfl
 have e142 := e142 142 rfl
 have g142 := g142 _ rfl
 subst g142
 clear hout hdep
 go_simp
 exact hK _ _ (z7_ rfl rs_) hI
theorem znf_ (o15 : a0.tmps[15]? = some (.int .u32 (t.a))) : y4_ Tryz.prog ops Q a0 dhDS I (GV (dhGS U t)) 5 { dst := some 144, op := .move (.tmp 15), type := ty, pos := pos, after := af, guard := none } := by
 intro a w hout hI hdep K hK
 rw [if_pos (by simp [Region.wanted])]
 have o15w := (hout 15 de_).trans o15
 clear hout hdep
 clear o15
 go_simp
 exact hK _ _ (z7_ rfl rs_) hI
theorem zng_ (h144 : (⟨5, .data⟩ : Edge) ∈ af.toList) (hC : ∀ w, I w → Calls Tryz.prog 178 #[.int .u32 (t.a), .int .i64 (-22)] w fun e w' => e = .returned (.int .u32 (rotr 22 t.a)) ∧ I w') : y4_ Tryz.prog ops Q a0 dhDS I (GV (dhGS U t)) 6 { dst := some 145, op := .call { callee := .value (.func 178), args := #[.tmp 144, .const (.int .i64 (-22))], argTypes := at_ }, type := ty, pos := pos, after := af, guard := none } := by
 intro a w hout hI hdep K hK
 rw [if_pos (by simp [Region.wanted])]
 obtain ⟨v144, g144, e144⟩ := hdep ⟨5, .data⟩ h144 rfl
 have e144 := e144 144 rfl
 have g144 := g144 _ rfl
 subst g144
 clear hout hdep
 go_simp
 refine (hC w hI).mono ?_
 rintro e w1 ⟨rfl, hI1⟩
 exact hK _ _ (z7_ rfl rfl) hI1
theorem znh_ (h143 : (⟨4, .data⟩ : Edge) ∈ af.toList) (h145 : (⟨6, .data⟩ : Edge) ∈ af.toList) : y4_ Tryz.prog ops Q a0 dhDS I (GV (dhGS U t)) 7 { dst := some 146, op := .binOp .xor 121 (.tmp 143) (.tmp 145) 121, type := ty, pos := pos, after := af, guard := none } := by
 intro a w hout hI hdep K hK
 rw [if_pos (by simp [Region.wanted])]
 obtain ⟨v143, g143, e143⟩ := hdep ⟨4, .data⟩ h143 rfl
 have e143 := e143 143 rfl
 have g143 := g143 _ rfl
 subst g143
 obtain ⟨v145, g145, e145⟩ := hdep ⟨6, .data⟩ h145 rfl
 have e145 := e145 145 rfl
 have g145 := g145 _ rfl
 subst g145
 clear hout hdep
 go_simp
 exact hK _ _ (z7_ rfl rs_) hI
theorem zni_ (o15 : a0.tmps[15]? = some (.int .u32 (t.a))) : y4_ Tryz.prog ops Q a0 dhDS I (GV (dhGS U t)) 8 { dst := some 147, op := .move (.tmp 15), type := ty, pos := pos, after := af, guard := none } := by
 intro a w hout hI hdep K hK
 rw [if_pos (by simp [Region.wanted])]
 have o15w := (hout 15 de_).trans o15
 clear hout hdep
 clear o15
 go_simp
 exact hK _ _ (z7_ rfl rs_) hI
theorem znj_ (o12 : a0.tmps[12]? = some (.pointer (some ⟨U, 0, none⟩))) : y4_ Tryz.prog ops Q a0 dhDS I (GV (dhGS U t)) 9 { dst := some 148, op := .indexAddr 191 (.tmp 12) (.const (.int .i64 1)), type := ty, pos := pos, after := af, guard := none } := by
 intro a w hout hI hdep K hK
 rw [if_pos (by simp [Region.wanted])]
 have o12w := (hout 12 de_).trans o12
 clear hout hdep
 clear o12
 go_simp
 exact hK _ _ (z7_ rfl rs_) hI
theorem znk_ (h148 : (⟨9, .data⟩ : Edge) ∈ af.toList) (hL : ∀ w, I w → w.heap[U]? = some (.cells #[.int .u32 t.a, .int .u32 t.b, .int .u32 t.c, .int .u32 t.d, .int .u32 t.e, .int .u32 t.f, .int .u32 t.g, .int .u32 t.h] 191 (0, 0))) : y4_ Tryz.prog ops Q a0 dhDS I (GV (dhGS U t)) 10 { dst := some 149, op := .load 121 (.tmp 148), type := ty, pos := pos, after := af, guard := none } := by
 intro a w hout hI hdep K hK
 rw [if_pos (by simp [Region.wanted])]
 obtain ⟨v148, g148, e148⟩ := hdep ⟨9, .data⟩ h148 rfl
 have e148 := e148 148 rfl
 have g148 := g148 _ rfl
 subst g148
 have hLw := hL w hI
 clear hout hdep
 have fa := z0_ hLw
 have fb := z8_ hLw
 clear hLw
 go_simp
 exact hK _ _ (z7_ rfl rs_) hI
theorem znl_ (h147 : (⟨8, .data⟩ : Edge) ∈ af.toList) (h149 : (⟨10, .data⟩ : Edge) ∈ af.toList) : y4_ Tryz.prog ops Q a0 dhDS I (GV (dhGS U t)) 11 { dst := some 150, op := .binOp .and 121 (.tmp 147) (.tmp 149) 121, type := ty, pos := pos, after := af, guard := none } := by
 intro a w hout hI hdep K hK
 rw [if_pos (by simp [Region.wanted])]
 obtain ⟨v147, g147, e147⟩ := hdep ⟨8, .data⟩ h147 rfl
 have e147 := e147 147 rfl
 have g147 := g147 _ rfl
 subst g147
 obtain ⟨v149, g149, e149⟩ := hdep ⟨10, .data⟩ h149 rfl
 have e149 := e149 149 rfl
 have g149 := g149 _ rfl
 subst g149
 clear hout hdep
 go_simp
 exact hK _ _ (z7_ rfl rs_) hI
theorem znm_ (o15 : a0.tmps[15]? = some (.int .u32 (t.a))) : y4_ Tryz.prog ops Q a0 dhDS I (GV (dhGS U t)) 12 { dst := some 151, op := .move (.tmp 15), type := ty, pos := pos, after := af, guard := none } := by
 intro a w hout hI hdep K hK
 rw [if_pos (by simp [Region.wanted])]
 have o15w := (hout 15 de_).trans o15
 clear hout hdep
 clear o15
 go_simp
 exact hK _ _ (z7_ rfl rs_) hI
theorem znn_ (o12 : a0.tmps[12]? = some (.pointer (some ⟨U, 0, none⟩))) : y4_ Tryz.prog ops Q a0 dhDS I (GV (dhGS U t)) 13 { dst := some 152, op := .indexAddr 191 (.tmp 12) (.const (.int .i64 2)), type := ty, pos := pos, after := af, guard := none } := by
 intro a w hout hI hdep K hK
 rw [if_pos (by simp [Region.wanted])]
 have o12w := (hout 12 de_).trans o12
 clear hout hdep
 clear o12
 go_simp
 exact hK _ _ (z7_ rfl rs_) hI
theorem zno_ (h152 : (⟨13, .data⟩ : Edge) ∈ af.toList) (hL : ∀ w, I w → w.heap[U]? = some (.cells #[.int .u32 t.a, .int .u32 t.b, .int .u32 t.c, .int .u32 t.d, .int .u32 t.e, .int .u32 t.f, .int .u32 t.g, .int .u32 t.h] 191 (0, 0))) : y4_ Tryz.prog ops Q a0 dhDS I (GV (dhGS U t)) 14 { dst := some 153, op := .load 121 (.tmp 152), type := ty, pos := pos, after := af, guard := none } := by
 intro a w hout hI hdep K hK
 rw [if_pos (by simp [Region.wanted])]
 obtain ⟨v152, g152, e152⟩ := hdep ⟨13, .data⟩ h152 rfl
 have e152 := e152 152 rfl
 have g152 := g152 _ rfl
 subst g152
 have hLw := hL w hI
 clear hout hdep
 have fa := z0_ hLw
 have fb := z8_ hLw
 clear hLw
 go_simp
 exact hK _ _ (z7_ rfl rs_) hI
theorem znp_ (h151 : (⟨12, .data⟩ : Edge) ∈ af.toList) (h153 : (⟨14, .data⟩ : Edge) ∈ af.toList) : y4_ Tryz.prog ops Q a0 dhDS I (GV (dhGS U t)) 15 { dst := some 154, op := .binOp .and 121 (.tmp 151) (.tmp 153) 121, type := ty, pos := pos, after := af, guard := none } := by
 intro a w hout hI hdep K hK
 rw [if_pos (by simp [Region.wanted])]
 obtain ⟨v151, g151, e151⟩ := hdep ⟨12, .data⟩ h151 rfl
 have e151 := e151 151 rfl
 have g151 := g151 _ rfl
 subst g151
 obtain ⟨v153, g153, e153⟩ := hdep ⟨14, .data⟩ h153 rfl
 have e153 := e153 153 rfl
 have g153 := g153 _ rfl
 subst g153
 clear hout hdep
 go_simp
 exact hK _ _ (z7_ rfl rs_) hI
theorem znq_ (h150 : (⟨11, .data⟩ : Edge) ∈ af.toList) (h154 : (⟨15, .data⟩ : Edge) ∈ af.toList) : y4_ Tryz.prog ops Q a0 dhDS I (GV (dhGS U t)) 16 { dst := some 155, op := .binOp .xor 121 (.tmp 150) (.tmp 154) 121, type := ty, pos := pos, after := af, guard := none } := by
 intro a w hout hI hdep K hK
 rw [if_pos (by simp [Region.wanted])]
 obtain ⟨v150, g150, e150⟩ := hdep ⟨11, .data⟩ h150 rfl
 have e150 := e150 150 rfl
 have g150 := g150 _ rfl
 subst g150
 obtain ⟨v154, g154, e154⟩ := hdep ⟨15, .data⟩ h154 rfl
 have e154 := e154 154 rfl
 have g154 := g154 _ rfl
 subst g154
 clear hout hdep
 go_simp
 exact hK _ _ (z7_ rfl rs_) hI
theorem znr_ (o12 : a0.tmps[12]? = some (.pointer (some ⟨U, 0, none⟩))) : y4_ Tryz.prog ops Q a0 dhDS I (GV (dhGS U t)) 17 { dst := some 156, op := .indexAddr 191 (.tmp 12) (.const (.int .i64 1)), type := ty, pos := pos, after := af, guard := none } := by
 intro a w hout hI hdep K hK
 rw [if_pos (by simp [Region.wanted])]
 have o12w := (hout 12 de_).trans o12
 clear hout hdep
 clear o12
 go_simp
 exact hK _ _ (z7_ rfl rs_) hI
theorem zns_ (h156 : (⟨17, .data⟩ : Edge) ∈ af.toList) (hL : ∀ w, I w → w.heap[U]? = some (.cells #[.int .u32 t.a, .int .u32 t.b, .int .u32 t.c, .int .u32 t.d, .int .u32 t.e, .int .u32 t.f, .int .u32 t.g, .int .u32 t.h] 191 (0, 0))) : y4_ Tryz.prog ops Q a0 dhDS I (GV (dhGS U t)) 18 { dst := some 157, op := .load 121 (.tmp 156), type := ty, pos := pos, after := af, guard := none } := by
 intro a w hout hI hdep K hK
 rw [if_pos (by simp [Region.wanted])]
 obtain ⟨v156, g156, e156⟩ := hdep ⟨17, .data⟩ h156 rfl
 have e156 := e156 156 rfl
 have g156 := g156 _ rfl
 subst g156
 have hLw := hL w hI
 clear hout hdep
 have fa := z0_ hLw
 have fb := z8_ hLw
 clear hLw
 go_simp
 exact hK _ _ (z7_ rfl rs_) hI
theorem znt_ (o12 : a0.tmps[12]? = some (.pointer (some ⟨U, 0, none⟩))) : y4_ Tryz.prog ops Q a0 dhDS I (GV (dhGS U t)) 19 { dst := some 158, op := .indexAddr 191 (.tmp 12) (.const (.int .i64 2)), type := ty, pos := pos, after := af, guard := none } := by
 intro a w hout hI hdep K hK
 rw [if_pos (by simp [Region.wanted])]
 have o12w := (hout 12 de_).trans o12
 clear hout hdep
 clear o12
 go_simp
 exact hK _ _ (z7_ rfl rs_) hI
theorem znu_ (h158 : (⟨19, .data⟩ : Edge) ∈ af.toList) (hL : ∀ w, I w → w.heap[U]? = some (.cells #[.int .u32 t.a, .int .u32 t.b, .int .u32 t.c, .int .u32 t.d, .int .u32 t.e, .int .u32 t.f, .int .u32 t.g, .int .u32 t.h] 191 (0, 0))) : y4_ Tryz.prog ops Q a0 dhDS I (GV (dhGS U t)) 20 { dst := some 159, op := .load 121 (.tmp 158), type := ty, pos := pos, after := af, guard := none } := by
 intro a w hout hI hdep K hK
 rw [if_pos (by simp [Region.wanted])]
 obtain ⟨v158, g158, e158⟩ := hdep ⟨19, .data⟩ h158 rfl
 have e158 := e158 158 rfl
 have g158 := g158 _ rfl
 subst g158
 have hLw := hL w hI
 clear hout hdep
 have fa := z0_ hLw
 have fb := z8_ hLw
 clear hLw
 go_simp
 exact hK _ _ (z7_ rfl rs_) hI
theorem znv_ (h157 : (⟨18, .data⟩ : Edge) ∈ af.toList) (h159 : (⟨20, .data⟩ : Edge) ∈ af.toList) : y4_ Tryz.prog ops Q a0 dhDS I (GV (dhGS U t)) 21 { dst := some 160, op := .binOp .and 121 (.tmp 157) (.tmp 159) 121, type := ty, pos := pos, after := af, guard := none } := by
 intro a w hout hI hdep K hK
 rw [if_pos (by simp [Region.wanted])]
 obtain ⟨v157, g157, e157⟩ := hdep ⟨18, .data⟩ h157 rfl
 have e157 := e157 157 rfl
 have g157 := g157 _ rfl
 subst g157
 obtain ⟨v159, g159, e159⟩ := hdep ⟨20, .data⟩ h159 rfl
 have e159 := e159 159 rfl
 have g159 := g159 _ rfl
 subst g159
 clear hout hdep
 go_simp
 exact hK _ _ (z7_ rfl rs_) hI
theorem znw_ (h155 : (⟨16, .data⟩ : Edge) ∈ af.toList) (h160 : (⟨21, .data⟩ : Edge) ∈ af.toList) : y4_ Tryz.prog ops Q a0 dhDS I (GV (dhGS U t)) 22 { dst := some 161, op := .binOp .xor 121 (.tmp 155) (.tmp 160) 121, type := ty, pos := pos, after := af, guard := none } := by
 intro a w hout hI hdep K hK
 rw [if_pos (by simp [Region.wanted])]
 obtain ⟨v155, g155, e155⟩ := hdep ⟨16, .data⟩ h155 rfl
 have e155 := e155 155 rfl
 have g155 := g155 _ rfl
 subst g155
 obtain ⟨v160, g160, e160⟩ := hdep ⟨21, .data⟩ h160 rfl
 have e160 := e160 160 rfl
 have g160 := g160 _ rfl
 subst g160
 clear hout hdep
 go_simp
 exact hK _ _ (z7_ rfl rs_) hI
theorem znx_ (h146 : (⟨7, .data⟩ : Edge) ∈ af.toList) (h161 : (⟨22, .data⟩ : Edge) ∈ af.toList) : y4_ Tryz.prog ops Q a0 dhDS I (GV (dhGS U t)) 23 { dst := some 162, op := .binOp .add 121 (.tmp 146) (.tmp 161) 121, type := ty, pos := pos, after := af, guard := none } := by
 intro a w hout hI hdep K hK
 rw [if_pos (by simp [Region.wanted])]
 obtain ⟨v146, g146, e146⟩ := hdep ⟨7, .data⟩ h146 rfl
 have e146 := e146 146 rfl
 have g146 := g146 _ rfl
 subst g146
 obtain ⟨v161, g161, e161⟩ := hdep ⟨22, .data⟩ h161 rfl
 have e161 := e161 161 rfl
 have g161 := g161 _ rfl
 subst g161
 clear hout hdep
 go_simp
 exact hK _ _ (z7_ rfl rs_) hI
theorem dh17 (h162 : (⟨23, .data⟩ : Edge) ∈ af.toList) : y4_ Tryz.prog ops Q a0 dhDS I (GV (dhGS U t)) 24 { dst := some 17, op := .assign (.tmp 162), type := ty, pos := pos, after := af, guard := none } := by
 intro a w hout hI hdep K hK
 rw [if_pos (by simp [Region.wanted])]
 obtain ⟨v162, g162, e162⟩ := hdep ⟨23, .data⟩ h162 rfl
 have e162 := e162 162 rfl
 have g162 := g162 _ rfl
 subst g162
 clear hout hdep
 go_simp
 exact hK _ _ (z7_ rfl rs_) hI
end
theorem znz_ (s : S8) (l : List UInt8) (hl : l.length = 64) (B o c : Nat) (hc : 64 ≤ c) (w : World) (hb : zbs_ B o l w) (hT : zcz_ w) :
  Calls Tryz.prog 156 #[s8V s, .slice (some ⟨B, o, none⟩) 64 c] w fun e w' => e = .returned (s8V (zbx_ s l)) ∧ Below w.heap.size w w' := by
 unfold s8V
 have HC := Lib.hid hb
 have HT := Lib.hid hT
 have hBw := hb.1
 have hTl := World.block_lt_of_cell? _ _ (hT 0 om_)
 clear hb hT
 go_enter Tryz.func156, Tryz.ntmps156
 go_wp2_with fail
 have hle : szW w ≤ w.heap.size ∧ w.heap.size ≤ szW w := ⟨Nat.le_refl _, Nat.le_refl _⟩
 have hg0 : GL [] w w := y1_ _ _
 have hs0 : w.heap.size ≤ w.heap.size := Nat.le_refl _
 have HV1 := Lib.hid ((x3_ (x3_ (y8_ w (.cells #[.int .u32 s.a, .int .u32 s.b, .int .u32 s.c, .int .u32 s.d, .int .u32 s.e, .int .u32 s.f, .int .u32 s.g, .int .u32 s.h] 191)) (.cells #[.int .u32 0, .int .u32 0, .int .u32 0, .int .u32 0, .int .u32 0, .int .u32 0, .int .u32 0, .int .u32 0] 191)) (.cells #[.int .u32 0, .int .u32 0, .int .u32 0, .int .u32 0, .int .u32 0, .int .u32 0, .int .u32 0, .int .u32 0, .int .u32 0, .int .u32 0, .int .u32 0, .int .u32 0, .int .u32 0, .int .u32 0, .int .u32 0, .int .u32 0, .int .u32 0, .int .u32 0, .int .u32 0, .int .u32 0, .int .u32 0, .int .u32 0, .int .u32 0, .int .u32 0, .int .u32 0, .int .u32 0, .int .u32 0, .int .u32 0, .int .u32 0, .int .u32 0, .int .u32 0, .int .u32 0, .int .u32 0, .int .u32 0, .int .u32 0, .int .u32 0, .int .u32 0, .int .u32 0, .int .u32 0, .int .u32 0, .int .u32 0, .int .u32 0, .int .u32 0, .int .u32 0, .int .u32 0, .int .u32 0, .int .u32 0, .int .u32 0, .int .u32 0, .int .u32 0, .int .u32 0, .int .u32 0, .int .u32 0, .int .u32 0, .int .u32 0, .int .u32 0, .int .u32 0, .int .u32 0, .int .u32 0, .int .u32 0, .int .u32 0, .int .u32 0, .int .u32 0, .int .u32 0] 224)))
 have hZ_ := y8_ (w.alloc (.cells #[.int .u32 s.a, .int .u32 s.b, .int .u32 s.c, .int .u32 s.d, .int .u32 s.e, .int .u32 s.f, .int .u32 s.g, .int .u32 s.h] 191)) (.cells #[.int .u32 0, .int .u32 0, .int .u32 0, .int .u32 0, .int .u32 0, .int .u32 0, .int .u32 0, .int .u32 0] 191)
 rw [show (w.alloc (.cells #[.int .u32 s.a, .int .u32 s.b, .int .u32 s.c, .int .u32 s.d, .int .u32 s.e, .int .u32 s.f, .int .u32 s.g, .int .u32 s.h] 191)).heap.size = w.heap.size + 1 by simp] at hZ_
 have HR1 := Lib.hid ((x3_ hZ_ (.cells #[.int .u32 0, .int .u32 0, .int .u32 0, .int .u32 0, .int .u32 0, .int .u32 0, .int .u32 0, .int .u32 0, .int .u32 0, .int .u32 0, .int .u32 0, .int .u32 0, .int .u32 0, .int .u32 0, .int .u32 0, .int .u32 0, .int .u32 0, .int .u32 0, .int .u32 0, .int .u32 0, .int .u32 0, .int .u32 0, .int .u32 0, .int .u32 0, .int .u32 0, .int .u32 0, .int .u32 0, .int .u32 0, .int .u32 0, .int .u32 0, .int .u32 0, .int .u32 0, .int .u32 0, .int .u32 0, .int .u32 0, .int .u32 0, .int .u32 0, .int .u32 0, .int .u32 0, .int .u32 0, .int .u32 0, .int .u32 0, .int .u32 0, .int .u32 0, .int .u32 0, .int .u32 0, .int .u32 0, .int .u32 0, .int .u32 0, .int .u32 0, .int .u32 0, .int .u32 0, .int .u32 0, .int .u32 0, .int .u32 0, .int .u32 0, .int .u32 0, .int .u32 0, .int .u32 0, .int .u32 0, .int .u32 0, .int .u32 0, .int .u32 0, .int .u32 0] 224)))
 clear hZ_
 have hZ_ := y8_ ((w.alloc (.cells #[.int .u32 s.a, .int .u32 s.b, .int .u32 s.c, .int .u32 s.d, .int .u32 s.e, .int .u32 s.f, .int .u32 s.g, .int .u32 s.h] 191)).alloc (.cells #[.int .u32 0, .int .u32 0, .int .u32 0, .int .u32 0, .int .u32 0, .int .u32 0, .int .u32 0, .int .u32 0] 191)) (.cells #[.int .u32 0, .int .u32 0, .int .u32 0, .int .u32 0, .int .u32 0, .int .u32 0, .int .u32 0, .int .u32 0, .int .u32 0, .int .u32 0, .int .u32 0, .int .u32 0, .int .u32 0, .int .u32 0, .int .u32 0, .int .u32 0, .int .u32 0, .int .u32 0, .int .u32 0, .int .u32 0, .int .u32 0, .int .u32 0, .int .u32 0, .int .u32 0, .int .u32 0, .int .u32 0, .int .u32 0, .int .u32 0, .int .u32 0, .int .u32 0, .int .u32 0, .int .u32 0, .int .u32 0, .int .u32 0, .int .u32 0, .int .u32 0, .int .u32 0, .int .u32 0, .int .u32 0, .int .u32 0, .int .u32 0, .int .u32 0, .int .u32 0, .int .u32 0, .int .u32 0, .int .u32 0, .int .u32 0, .int .u32 0, .int .u32 0, .int .u32 0, .int .u32 0, .int .u32 0, .int .u32 0, .int .u32 0, .int .u32 0, .int .u32 0, .int .u32 0, .int .u32 0, .int .u32 0, .int .u32 0, .int .u32 0, .int .u32 0, .int .u32 0, .int .u32 0] 224)
 rw [show ((w.alloc (.cells #[.int .u32 s.a, .int .u32 s.b, .int .u32 s.c, .int .u32 s.d, .int .u32 s.e, .int .u32 s.f, .int .u32 s.g, .int .u32 s.h] 191)).alloc (.cells #[.int .u32 0, .int .u32 0, .int .u32 0, .int .u32 0, .int .u32 0, .int .u32 0, .int .u32 0, .int .u32 0] 191)).heap.size = w.heap.size + 1 + 1 by simp] at hZ_
 have HW1 := Lib.hid (hZ_)
 clear hZ_
 have hg1 := y2_ (y2_ (y2_ hg0 (.cells #[.int .u32 s.a, .int .u32 s.b, .int .u32 s.c, .int .u32 s.d, .int .u32 s.e, .int .u32 s.f, .int .u32 s.g, .int .u32 s.h] 191)) (.cells #[.int .u32 0, .int .u32 0, .int .u32 0, .int .u32 0, .int .u32 0, .int .u32 0, .int .u32 0, .int .u32 0] 191)) (.cells #[.int .u32 0, .int .u32 0, .int .u32 0, .int .u32 0, .int .u32 0, .int .u32 0, .int .u32 0, .int .u32 0, .int .u32 0, .int .u32 0, .int .u32 0, .int .u32 0, .int .u32 0, .int .u32 0, .int .u32 0, .int .u32 0, .int .u32 0, .int .u32 0, .int .u32 0, .int .u32 0, .int .u32 0, .int .u32 0, .int .u32 0, .int .u32 0, .int .u32 0, .int .u32 0, .int .u32 0, .int .u32 0, .int .u32 0, .int .u32 0, .int .u32 0, .int .u32 0, .int .u32 0, .int .u32 0, .int .u32 0, .int .u32 0, .int .u32 0, .int .u32 0, .int .u32 0, .int .u32 0, .int .u32 0, .int .u32 0, .int .u32 0, .int .u32 0, .int .u32 0, .int .u32 0, .int .u32 0, .int .u32 0, .int .u32 0, .int .u32 0, .int .u32 0, .int .u32 0, .int .u32 0, .int .u32 0, .int .u32 0, .int .u32 0, .int .u32 0, .int .u32 0, .int .u32 0, .int .u32 0, .int .u32 0, .int .u32 0, .int .u32 0, .int .u32 0] 224)
 have geV : w.heap.size ≤ w.heap.size := by have := hg0.size; omega
 have geR : w.heap.size ≤ w.heap.size + 1 := by have := hg0.size; omega
 have ltVR : w.heap.size < w.heap.size + 1 := by omega
 have neVR : w.heap.size ≠ w.heap.size + 1 := by omega
 have neRV : w.heap.size + 1 ≠ w.heap.size := by omega
 have geW : w.heap.size ≤ w.heap.size + 1 + 1 := by have := hg0.size; omega
 have ltVW : w.heap.size < w.heap.size + 1 + 1 := by omega
 have neVW : w.heap.size ≠ w.heap.size + 1 + 1 := by omega
 have neWV : w.heap.size + 1 + 1 ≠ w.heap.size := by omega
 have ltRW : w.heap.size + 1 < w.heap.size + 1 + 1 := by omega
 have neRW : w.heap.size + 1 ≠ w.heap.size + 1 + 1 := by omega
 have neWR : w.heap.size + 1 + 1 ≠ w.heap.size + 1 := by omega
 generalize (((w.alloc (.cells #[.int .u32 s.a, .int .u32 s.b, .int .u32 s.c, .int .u32 s.d, .int .u32 s.e, .int .u32 s.f, .int .u32 s.g, .int .u32 s.h] 191)).alloc (.cells #[.int .u32 0, .int .u32 0, .int .u32 0, .int .u32 0, .int .u32 0, .int .u32 0, .int .u32 0, .int .u32 0] 191)).alloc (.cells #[.int .u32 0, .int .u32 0, .int .u32 0, .int .u32 0, .int .u32 0, .int .u32 0, .int .u32 0, .int .u32 0, .int .u32 0, .int .u32 0, .int .u32 0, .int .u32 0, .int .u32 0, .int .u32 0, .int .u32 0, .int .u32 0, .int .u32 0, .int .u32 0, .int .u32 0, .int .u32 0, .int .u32 0, .int .u32 0, .int .u32 0, .int .u32 0, .int .u32 0, .int .u32 0, .int .u32 0, .int .u32 0, .int .u32 0, .int .u32 0, .int .u32 0, .int .u32 0, .int .u32 0, .int .u32 0, .int .u32 0, .int .u32 0, .int .u32 0, .int .u32 0, .int .u32 0, .int .u32 0, .int .u32 0, .int .u32 0, .int .u32 0, .int .u32 0, .int .u32 0, .int .u32 0, .int .u32 0, .int .u32 0, .int .u32 0, .int .u32 0, .int .u32 0, .int .u32 0, .int .u32 0, .int .u32 0, .int .u32 0, .int .u32 0, .int .u32 0, .int .u32 0, .int .u32 0, .int .u32 0, .int .u32 0, .int .u32 0, .int .u32 0, .int .u32 0] 224)) = w1 at *
 generalize w.heap.size + 1 + 1 = W at *
 generalize w.heap.size + 1 = R at *
 generalize w.heap.size = V at *
 have hs1 := hg1.size
 have hsz : w.heap.size = V := by
  have h1 : szW w = w.heap.size := rfl
  omega
 clear hle
 have HW1 : Hid (w1.heap[W]? = some (.cells (zco_ ((zad_ l).take 0)) 224 (0, 0))) := HW1
 have hlen : (zad_ l).length = 16 := zdi_ 16 l om_
 go_loopw [6, 19] (fun _ iv wr => ∃ i : Nat, i ≤ 16 ∧ iv = .int .i64 i ∧ Hid (GL [W] w1 wr) ∧ Hid (wr.heap[W]? = some (.cells (zco_ ((zad_ l).take i)) 224 (0, 0)))) (fun _ iv _ => 16 - (intOf iv).toNat)
 case atStart => exact ⟨0, by omega, rfl, Lib.hid (y1_ _ _), HW1⟩
 case round =>
  obtain ⟨i, hi, rfl, hgr, hwr⟩ := hrel
  by_cases hlt : i < 16
  · have hbr := zbf_ (zbf_ HC.out hg1 si_) hgr.out so_
    have hc0 := hbr.2 (4 * i) om_
    have hc1 := hbr.2 (4 * i + 1) om_
    have hc2 := hbr.2 (4 * i + 2) om_
    have hc3 := hbr.2 (4 * i + 3) om_
    have fw := z8_ hwr.out
    have lw := z4_ hwr.out
    have n0 : (4 * (i : Int)).toNat = 4 * i := by omega
    have n1 : (4 * (i : Int) + 1).toNat = 4 * i + 1 := by omega
    have n2 : (4 * (i : Int) + 2).toNat = 4 * i + 2 := by omega
    have n3 : (4 * (i : Int) + 3).toNat = 4 * i + 3 := by omega
    have i0 : (i : Int) < 16 := by omega
    have cw := (z0_ hwr.out i).trans (ziE_ _ i (by rw [List.length_take]; omega) om_)
    have htk := zmE_ (zad_ l) i om_
    rw [zgE_ i l om_] at htk
    have HW := Lib.hid hwr.out
    have HK := Lib.hid htk
    clear hbr hwr htk
    go_wp2
    go_region
    go_wp2
    go_roundw
    case rel =>
     refine ⟨i + 1, by omega, by go_num, Lib.hid (z2_ (x9_ hgr.out) (.inl si_) _), ?_⟩
     show _ = _
     rw [HK.out]
     have h := z3_ HW.out i (.int .u32 (zcn_ (l.getD (4 * i) 0).toNat (l.getD (4 * i + 1) 0).toNat (l.getD (4 * i + 2) 0).toNat (l.getD (4 * i + 3) 0).toNat))
     have e : ((zad_ l).take i).length = i := by rw [List.length_take]; omega
     have h2 := ziD_ ((zad_ l).take i) (zcn_ (l.getD (4 * i) 0).toNat (l.getD (4 * i + 1) 0).toNat (l.getD (4 * i + 2) 0).toNat (l.getD (4 * i + 3) 0).toNat) om_
     rw [e] at h2
     rw [h2] at h
     refine w1_ ((congrArg (fun v => (wr.setCell ⟨W, i, none⟩ (.int .u32 v)).heap[W]?) ?_).trans h)
     rw [List.getD_eq_getElem?_getD, List.getD_eq_getElem?_getD, List.getD_eq_getElem?_getD, List.getD_eq_getElem?_getD]
     exact zmC_ _ _ _ _
    case measure => simp [intOf]; omega
  · obtain rfl : i = 16 := by omega
    have HW16 := Lib.hid hwr.out
    have HG16 := Lib.hid hgr.out
    clear hgr hwr hi hlt HW1
    go_wp2
    obtain ⟨w2, rfl⟩ : ∃ w2 : World, w2 = wr := ⟨_, rfl⟩
    go_loopw [7, 8, 9, 10, 11] (fun iv _ _ _ _ wr => ∃ i : Nat, 16 ≤ i ∧ i ≤ 64 ∧ iv = .int .i64 i ∧ Hid (GL [W] w2 wr) ∧ Hid (wr.heap[W]? = some (.cells (zco_ (zbJ_ (i - 16) (zad_ l))) 224 (0, 0)))) (fun iv _ _ _ _ _ => 64 - (intOf iv).toNat)
    case atStart => exact ⟨16, by omega, by omega, rfl, Lib.hid (y1_ _ _), by rw [List.take_of_length_le om_] at HW16; exact HW16⟩
    case round =>
     obtain ⟨i, hi0, hi, rfl, hgr, hwr⟩ := hrel
     by_cases hlt : i < 64
     · have hml : (zbJ_ (i - 16) (zad_ l)).length = i := by rw [zej_]; omega
       have hms := zie_ (i - 16) (zad_ l)
       rw [show i - 16 + 1 = i + 1 - 16 by omega] at hms
       have HW := Lib.hid hwr.out
       clear hwr
       generalize zbJ_ (i - 16) (zad_ l) = m at *
       have c15 := (z0_ HW.out (i - 15)).trans (zeu_ m (i - 15) om_)
       have c2 := (z0_ HW.out (i - 2)).trans (zeu_ m (i - 2) om_)
       have c16 := (z0_ HW.out (i - 16)).trans (zeu_ m (i - 16) om_)
       have c7 := (z0_ HW.out (i - 7)).trans (zeu_ m (i - 7) om_)
       have cw := (z0_ HW.out i).trans (ziE_ m i om_ om_)
       have fw := z8_ HW.out
       have lw := z4_ HW.out
       have hms2 : Hid (zbJ_ (i + 1 - 16) (zad_ l) = m ++ [zdQ_ (m.getD (i - 16) 0) (m.getD (i - 15) 0) (m.getD (i - 7) 0) (m.getD (i - 2) 0)]) := by
        show _ = _
        simp only [hms, hml]
       clear hms
       generalize m.getD (i - 15) 0 = x15 at *
       generalize m.getD (i - 2) 0 = x2 at *
       generalize m.getD (i - 16) 0 = x16 at *
       generalize m.getD (i - 7) 0 = x7 at *
       have n15 : ((i : Int) - 15).toNat = i - 15 := by omega
       have n2 : ((i : Int) - 2).toNat = i - 2 := by omega
       have n16 : ((i : Int) - 16).toNat = i - 16 := by omega
       have n7 : ((i : Int) - 7).toNat = i - 7 := by omega
       have i64 : (i : Int) < 64 := by omega
       have i16 : (16 : Int) ≤ (i : Int) := by omega
       go_wp2
       go_quiet (fail)
       go_wp2_with (go_at_call 178; (first | with_reducible refine (zmn_ _ _).mono ?_ | with_reducible refine (zmo_ _ _).mono ?_ | with_reducible refine (zmp_ _ _).mono ?_ | with_reducible refine (zmq_ _ _).mono ?_); rintro e w' ⟨rfl, rfl⟩)
       go_region
       go_wp2
       go_roundw
       case rel =>
        refine ⟨i + 1, by omega, by omega, by go_num, Lib.hid (z2_ (zeZ_ hgr.out _) (.inl si_) _), ?_⟩
        show _ = _
        rw [hms2.out, zmD_]
        have h := z3_ (za0_ HW.out (nq + 1)) i (.int .u32 (zdQ_ x16 x15 x7 x2))
        rw [show i = m.length from hml.symm, ziD_ m _ om_] at h
        rw [show i = m.length from hml.symm]
        exact h
       case measure => simp [intOf]; omega
     · obtain rfl : i = 64 := by omega
       have HW64 : Hid (wr.heap[W]? = some (.cells (zco_ (zam_ l)) 224 (0, 0))) := hwr
       have HV64 := Lib.hid (x6_ (x6_ HV1.out HG16.out so_) hgr.out so_)
       have HR64 := Lib.hid (x6_ (x6_ HR1.out HG16.out so_) hgr.out so_)
       have hg64 : GL [] w wr := y7_ hgr.out (y7_ HG16.out hg1 (fun r hr => .inr (by rw [List.mem_singleton.1 hr]; omega))) (fun r hr => .inr (by rw [List.mem_singleton.1 hr]; omega))
       have HB64 := Lib.hid (zbf_ HC.out hg64 si_)
       have HT64 := Lib.hid (zcd_ HT.out hg64 si_)
       clear hgr hwr hi hi0 hlt HW16 HG16 HV1 HR1
       have fv := z0_ HV64.out
       have ev := z8_ HV64.out
       go_wp2
       have HV3 := Lib.hid (x3_ HV64.out (.cells #[.int .u32 s.a, .int .u32 s.b, .int .u32 s.c, .int .u32 s.d, .int .u32 s.e, .int .u32 s.f, .int .u32 s.g, .int .u32 s.h] 191))
       have ltVU : V < wr.heap.size := by have := z4_ HV64.out; omega
       have neVU : V ≠ wr.heap.size := by omega
       have neUV : wr.heap.size ≠ V := by omega
       have HR3 := Lib.hid (x3_ HR64.out (.cells #[.int .u32 s.a, .int .u32 s.b, .int .u32 s.c, .int .u32 s.d, .int .u32 s.e, .int .u32 s.f, .int .u32 s.g, .int .u32 s.h] 191))
       have ltRU : R < wr.heap.size := by have := z4_ HR64.out; omega
       have neRU : R ≠ wr.heap.size := by omega
       have neUR : wr.heap.size ≠ R := by omega
       have HW3 := Lib.hid (x3_ HW64.out (.cells #[.int .u32 s.a, .int .u32 s.b, .int .u32 s.c, .int .u32 s.d, .int .u32 s.e, .int .u32 s.f, .int .u32 s.g, .int .u32 s.h] 191))
       have ltWU : W < wr.heap.size := by have := z4_ HW64.out; omega
       have neWU : W ≠ wr.heap.size := by omega
       have neUW : wr.heap.size ≠ W := by omega
       have HU3 := Lib.hid ((y8_ wr (.cells #[.int .u32 s.a, .int .u32 s.b, .int .u32 s.c, .int .u32 s.d, .int .u32 s.e, .int .u32 s.f, .int .u32 s.g, .int .u32 s.h] 191)))
       have hg3 := y2_ hg64 (.cells #[.int .u32 s.a, .int .u32 s.b, .int .u32 s.c, .int .u32 s.d, .int .u32 s.e, .int .u32 s.f, .int .u32 s.g, .int .u32 s.h] 191)
       have geU : w.heap.size ≤ wr.heap.size := by have := hg64.size; omega
       generalize (wr.alloc (.cells #[.int .u32 s.a, .int .u32 s.b, .int .u32 s.c, .int .u32 s.d, .int .u32 s.e, .int .u32 s.f, .int .u32 s.g, .int .u32 s.h] 191)) = w3 at *
       generalize wr.heap.size = U at *
       have hs3 := hg3.size
       have HT3 := Lib.hid (zcd_ HT.out hg3 si_)
       have htl : (kTab.zip (zam_ l)).length = 64 := by rw [List.length_zip]; unfold zam_; rw [zej_, hlen]; rfl
       have hwl : (zam_ l).length = 64 := by unfold zam_; rw [zej_, hlen]
       have HU3 : Hid (w3.heap[U]? = some (.cells (s8C (zaV_ ((kTab.zip (zam_ l)).take 0) s)) 191 (0, 0))) := HU3
       clear fv ev HV64 HR64 HW64 HB64 HT64
       go_loopw [13, 14, 15, 16, 17, 102] (fun _ _ _ _ _ iv wr => ∃ i : Nat, i ≤ 64 ∧ iv = .int .i64 i ∧ Hid (GL [U] w3 wr) ∧ Hid (wr.heap[U]? = some (.cells (s8C (zaV_ ((kTab.zip (zam_ l)).take i) s)) 191 (0, 0)))) (fun _ _ _ _ _ iv _ => 64 - (intOf iv).toNat)
       case atStart => exact ⟨0, by omega, rfl, Lib.hid (y1_ _ _), HU3⟩
       case round =>
        obtain ⟨i, hi, rfl, hgr, hur⟩ := hrel
        by_cases hlt : i < 64
        · have HR2 : Hid (zaV_ ((kTab.zip (zam_ l)).take (i + 1)) s = zek_ (zaV_ ((kTab.zip (zam_ l)).take i) s) (kTab.getD i 0) ((zam_ l).getD i 0)) := by
           show _ = _
           rw [List.take_add_one, List.getElem?_eq_getElem om_, Option.toList_some, List.getElem_zip, zif_]
           rw [List.getD_eq_getElem?_getD, List.getD_eq_getElem?_getD, List.getElem?_eq_getElem (by rw [zem_]; omega), List.getElem?_eq_getElem om_]
           rfl
          have hU := hur.out
          generalize zaV_ ((kTab.zip (zam_ l)).take i) s = t at *
          unfold s8C at hU
          have HU := Lib.hid hU
          have fU := z0_ hU
          have eU := z8_ hU
          have lU := z4_ hU
          have cW := (z0_ (x6_ HW3.out hgr.out so_) i).trans (zeu_ (zam_ l) i om_)
          have cT := zcd_ HT3.out hgr.out so_ i hlt
          have i64 : (i : Int) < 64 := by omega
          generalize (zam_ l).getD i 0 = wv at *
          generalize kTab.getD i 0 = kv at *
          clear hU hur
          go_wp2
          go_quiet (fail)
          go_wp2
          obtain ⟨v, rfl⟩ : ∃ v : World, v = wr.drewN nq := ⟨_, rfl⟩
          have HUv := Lib.hid (za0_ HU.out nq)
          have cWv : (wr.drewN nq).cell? ⟨W, i, none⟩ = some (.int .u32 wv) := cW
          have cTv : (wr.drewN nq).cell? ⟨7, i, none⟩ = some (.int .u32 kv) := cT
          have hgv : GL [U] w3 (wr.drewN nq) := zeZ_ hgr.out nq
          clear cW cT HU fU eU hgr
          generalize wr.drewN nq = v at *
          have hUf : ∀ w, w = v.drew → w.heap[U]? = some (.cells #[.int .u32 t.a, .int .u32 t.b, .int .u32 t.c, .int .u32 t.d, .int .u32 t.e, .int .u32 t.f, .int .u32 t.g, .int .u32 t.h] 191 (0, 0)) := fun w e => by rw [e]; exact w1_ HUv.out
          have hTf : ∀ w, w = v.drew → w.cell? ⟨7, i, none⟩ = some (.int .u32 kv) := fun w e => by rw [e]; exact cTv
          have hWf : ∀ w, w = v.drew → w.cell? ⟨W, i, none⟩ = some (.int .u32 wv) := fun w e => by rw [e]; exact cWv
          have hR6 : ∀ (x : Int) (w : World), w = v.drew → Calls Tryz.prog 178 #[.int .u32 x, .int .i64 (-6)] w fun e w' => e = .returned (.int .u32 (rotr 6 x)) ∧ w' = v.drew := fun x w h => (zmr_ x w).mono (fun e w' ⟨h1, h2⟩ => ⟨h1, h2.trans h⟩)
          have hR11 : ∀ (x : Int) (w : World), w = v.drew → Calls Tryz.prog 178 #[.int .u32 x, .int .i64 (-11)] w fun e w' => e = .returned (.int .u32 (rotr 11 x)) ∧ w' = v.drew := fun x w h => (zms_ x w).mono (fun e w' ⟨h1, h2⟩ => ⟨h1, h2.trans h⟩)
          have hR25 : ∀ (x : Int) (w : World), w = v.drew → Calls Tryz.prog 178 #[.int .u32 x, .int .i64 (-25)] w fun e w' => e = .returned (.int .u32 (rotr 25 x)) ∧ w' = v.drew := fun x w h => (zmt_ x w).mono (fun e w' ⟨h1, h2⟩ => ⟨h1, h2.trans h⟩)
          have hR2 : ∀ (x : Int) (w : World), w = v.drew → Calls Tryz.prog 178 #[.int .u32 x, .int .i64 (-2)] w fun e w' => e = .returned (.int .u32 (rotr 2 x)) ∧ w' = v.drew := fun x w h => (ziq_ x w).mono (fun e w' ⟨h1, h2⟩ => ⟨h1, h2.trans h⟩)
          have hR13 : ∀ (x : Int) (w : World), w = v.drew → Calls Tryz.prog 178 #[.int .u32 x, .int .i64 (-13)] w fun e w' => e = .returned (.int .u32 (rotr 13 x)) ∧ w' = v.drew := fun x w h => (zir_ x w).mono (fun e w' ⟨h1, h2⟩ => ⟨h1, h2.trans h⟩)
          have hR22 : ∀ (x : Int) (w : World), w = v.drew → Calls Tryz.prog 178 #[.int .u32 x, .int .i64 (-22)] w fun e w' => e = .returned (.int .u32 (rotr 22 x)) ∧ w' = v.drew := fun x w h => (zis_ x w).mono (fun e w' ⟨h1, h2⟩ => ⟨h1, h2.trans h⟩)
          refine zfm_ (ds := k9_) (I := (fun W => W = v.drew)) (G := GV (j5_ U W i t kv wv)) rfl rfl (zdf_ _ (by decide +kernel)) ?_ (by kernel_rfl) (rfl) ?_ ?_
          · intro d hd
            exact Nat.lt_of_lt_of_le (zdg_ (n := 189) k9_ (by decide +kernel) d hd) si_
          · exact ⟨zmF_ si_, zmG_ si_ hUf, zmH_ si_, zmI_ si_ (hR6 t.e), zmJ_ si_, zmK_ si_ (hR11 t.e), zmL_ si_ si_, zmM_ si_, zmN_ si_ (hR25 t.e), zmO_ si_ si_, zmP_ si_ si_, zmQ_ si_, zmR_ si_, zmS_ si_ hUf, zmT_ si_ si_, zmU_ si_, zmV_ si_, zmW_ si_, zmX_ si_ hUf, zmY_ si_ si_, zmZ_ si_ si_, zm0_ si_ si_, zm1_ si_, zm2_ si_ i64, zm3_ si_ hTf, zm4_ si_ si_, zm5_ si_, zm6_ si_ si_ i64, zm7_ si_ hWf, zm8_ si_ si_, dg16 si_, trivial⟩
          · intro vs w' hl hv hI
            have hl0 : vs.length = 31 := hl
            clear hl
            obtain ⟨x0, r0, rfl, hl1⟩ := z6_ hl0
            clear hl0
            obtain ⟨x1, r1, rfl, hl2⟩ := z6_ hl1
            clear hl1
            obtain ⟨x2, r2, rfl, hl3⟩ := z6_ hl2
            clear hl2
            obtain ⟨x3, r3, rfl, hl4⟩ := z6_ hl3
            clear hl3
            obtain ⟨x4, r4, rfl, hl5⟩ := z6_ hl4
            clear hl4
            obtain ⟨x5, r5, rfl, hl6⟩ := z6_ hl5
            clear hl5
            obtain ⟨x6, r6, rfl, hl7⟩ := z6_ hl6
            clear hl6
            obtain ⟨x7, r7, rfl, hl8⟩ := z6_ hl7
            clear hl7
            obtain ⟨x8, r8, rfl, hl9⟩ := z6_ hl8
            clear hl8
            obtain ⟨x9, r9, rfl, hl10⟩ := z6_ hl9
            clear hl9
            obtain ⟨x10, r10, rfl, hl11⟩ := z6_ hl10
            clear hl10
            obtain ⟨x11, r11, rfl, hl12⟩ := z6_ hl11
            clear hl11
            obtain ⟨x12, r12, rfl, hl13⟩ := z6_ hl12
            clear hl12
            obtain ⟨x13, r13, rfl, hl14⟩ := z6_ hl13
            clear hl13
            obtain ⟨x14, r14, rfl, hl15⟩ := z6_ hl14
            clear hl14
            obtain ⟨x15, r15, rfl, hl16⟩ := z6_ hl15
            clear hl15
            obtain ⟨x16, r16, rfl, hl17⟩ := z6_ hl16
            clear hl16
            obtain ⟨x17, r17, rfl, hl18⟩ := z6_ hl17
            clear hl17
            obtain ⟨x18, r18, rfl, hl19⟩ := z6_ hl18
            clear hl18
            obtain ⟨x19, r19, rfl, hl20⟩ := z6_ hl19
            clear hl19
            obtain ⟨x20, r20, rfl, hl21⟩ := z6_ hl20
            clear hl20
            obtain ⟨x21, r21, rfl, hl22⟩ := z6_ hl21
            clear hl21
            obtain ⟨x22, r22, rfl, hl23⟩ := z6_ hl22
            clear hl22
            obtain ⟨x23, r23, rfl, hl24⟩ := z6_ hl23
            clear hl23
            obtain ⟨x24, r24, rfl, hl25⟩ := z6_ hl24
            clear hl24
            obtain ⟨x25, r25, rfl, hl26⟩ := z6_ hl25
            clear hl25
            obtain ⟨x26, r26, rfl, hl27⟩ := z6_ hl26
            clear hl26
            obtain ⟨x27, r27, rfl, hl28⟩ := z6_ hl27
            clear hl27
            obtain ⟨x28, r28, rfl, hl29⟩ := z6_ hl28
            clear hl28
            obtain ⟨x29, r29, rfl, hl30⟩ := z6_ hl29
            clear hl29
            obtain ⟨x30, r30, rfl, hl31⟩ := z6_ hl30
            clear hl30
            have e30 : x30 = .int .u32 (rX t kv wv) := hv 30 x30 si_ _ rfl
            subst e30
            obtain rfl : r30 = [] := List.eq_nil_of_length_eq_zero hl31
            clear hv
            simp only [k9_, q0_, List.setIfInBounds_toArray, List.set_cons_zero, List.set_cons_succ]
            subst hI
            go_wp2
            have hUf2 : ∀ w, w = v.drew.drew → w.heap[U]? = some (.cells #[.int .u32 t.a, .int .u32 t.b, .int .u32 t.c, .int .u32 t.d, .int .u32 t.e, .int .u32 t.f, .int .u32 t.g, .int .u32 t.h] 191 (0, 0)) := fun w e => by rw [e]; exact w1_ (w1_ HUv.out)
            clear hUf hTf hWf hR6 hR11 hR25 hR2 hR13 hR22
            have hR2 : ∀ (x : Int) (w : World), w = v.drew.drew → Calls Tryz.prog 178 #[.int .u32 x, .int .i64 (-2)] w fun e w' => e = .returned (.int .u32 (rotr 2 x)) ∧ w' = v.drew.drew := fun x w h => (ziq_ x w).mono (fun e w' ⟨h1, h2⟩ => ⟨h1, h2.trans h⟩)
            have hR13 : ∀ (x : Int) (w : World), w = v.drew.drew → Calls Tryz.prog 178 #[.int .u32 x, .int .i64 (-13)] w fun e w' => e = .returned (.int .u32 (rotr 13 x)) ∧ w' = v.drew.drew := fun x w h => (zir_ x w).mono (fun e w' ⟨h1, h2⟩ => ⟨h1, h2.trans h⟩)
            have hR22 : ∀ (x : Int) (w : World), w = v.drew.drew → Calls Tryz.prog 178 #[.int .u32 x, .int .i64 (-22)] w fun e w' => e = .returned (.int .u32 (rotr 22 x)) ∧ w' = v.drew.drew := fun x w h => (zis_ x w).mono (fun e w' ⟨h1, h2⟩ => ⟨h1, h2.trans h⟩)
            refine zfm_ (ds := dhDS) (I := (fun W => W = v.drew.drew)) (G := GV (dhGS U t)) rfl rfl (zdf_ _ (by decide +kernel)) ?_ (by kernel_rfl) (rfl) ?_ ?_
            · intro d hd
              exact Nat.lt_of_lt_of_le (zdg_ (n := 189) dhDS (by decide +kernel) d hd) si_
            · exact ⟨zna_ si_, znb_ si_ (hR2 t.a), znc_ si_, znd_ si_ (hR13 t.a), zne_ si_ si_, znf_ si_, zng_ si_ (hR22 t.a), znh_ si_ si_, zni_ si_, znj_ si_, znk_ si_ hUf2, znl_ si_ si_, znm_ si_, znn_ si_, zno_ si_ hUf2, znp_ si_ si_, znq_ si_ si_, znr_ si_, zns_ si_ hUf2, znt_ si_, znu_ si_ hUf2, znv_ si_ si_, znw_ si_ si_, znx_ si_ si_, dh17 si_, trivial⟩
            · intro vs w' hl hv hI
              have hl0 : vs.length = 25 := hl
              clear hl
              obtain ⟨x0, r0, rfl, hl1⟩ := z6_ hl0
              clear hl0
              obtain ⟨x1, r1, rfl, hl2⟩ := z6_ hl1
              clear hl1
              obtain ⟨x2, r2, rfl, hl3⟩ := z6_ hl2
              clear hl2
              obtain ⟨x3, r3, rfl, hl4⟩ := z6_ hl3
              clear hl3
              obtain ⟨x4, r4, rfl, hl5⟩ := z6_ hl4
              clear hl4
              obtain ⟨x5, r5, rfl, hl6⟩ := z6_ hl5
              clear hl5
              obtain ⟨x6, r6, rfl, hl7⟩ := z6_ hl6
              clear hl6
              obtain ⟨x7, r7, rfl, hl8⟩ := z6_ hl7
              clear hl7
              obtain ⟨x8, r8, rfl, hl9⟩ := z6_ hl8
              clear hl8
              obtain ⟨x9, r9, rfl, hl10⟩ := z6_ hl9
              clear hl9
              obtain ⟨x10, r10, rfl, hl11⟩ := z6_ hl10
              clear hl10
              obtain ⟨x11, r11, rfl, hl12⟩ := z6_ hl11
              clear hl11
              obtain ⟨x12, r12, rfl, hl13⟩ := z6_ hl12
              clear hl12
              obtain ⟨x13, r13, rfl, hl14⟩ := z6_ hl13
              clear hl13
              obtain ⟨x14, r14, rfl, hl15⟩ := z6_ hl14
              clear hl14
              obtain ⟨x15, r15, rfl, hl16⟩ := z6_ hl15
              clear hl15
              obtain ⟨x16, r16, rfl, hl17⟩ := z6_ hl16
              clear hl16
              obtain ⟨x17, r17, rfl, hl18⟩ := z6_ hl17
              clear hl17
              obtain ⟨x18, r18, rfl, hl19⟩ := z6_ hl18
              clear hl18
              obtain ⟨x19, r19, rfl, hl20⟩ := z6_ hl19
              clear hl19
              obtain ⟨x20, r20, rfl, hl21⟩ := z6_ hl20
              clear hl20
              obtain ⟨x21, r21, rfl, hl22⟩ := z6_ hl21
              clear hl21
              obtain ⟨x22, r22, rfl, hl23⟩ := z6_ hl22
              clear hl22
              obtain ⟨x23, r23, rfl, hl24⟩ := z6_ hl23
              clear hl23
              obtain ⟨x24, r24, rfl, hl25⟩ := z6_ hl24
              clear hl24
              have e24 : x24 = .int .u32 (rY t) := hv 24 x24 si_ _ rfl
              subst e24
              obtain rfl : r24 = [] := List.eq_nil_of_length_eq_zero hl25
              clear hv
              simp only [dhDS, q0_, List.setIfInBounds_toArray, List.set_cons_zero, List.set_cons_succ]
              subst hI
              go_wp2
              have HU2 := Lib.hid (w1_ (w1_ HUv.out))
              have hgv2 : GL [U] w3 v.drew.drew := x9_ (x9_ hgv)
              generalize v.drew.drew = v2 at *
              have fU := z0_ HU2.out
              have eU := z8_ HU2.out
              have lU := z4_ HU2.out
              have hrun := run_copy_row Tryz.prog v2.drew 166 166 3 121 U 1 7 7 ⟨U, 0, none⟩ 7 8 #[.int .u32 t.a, .int .u32 t.b, .int .u32 t.c, .int .u32 t.d, .int .u32 t.e, .int .u32 t.f, .int .u32 t.g, .int .u32 t.h] 191 [.int .u32 t.a, .int .u32 t.b, .int .u32 t.c, .int .u32 t.d, .int .u32 t.e, .int .u32 t.f, .int .u32 t.g] Tryz.underlying166 Tryz.sizeU32 (w1_ HU2.out) rfl (fun j x hj => by
               have hz := z0_ (w1_ HU2.out) j
               match j, hj with
               | 0, hj => simp at hj; subst hj; exact hz
               | 1, hj => simp at hj; subst hj; exact hz
               | 2, hj => simp at hj; subst hj; exact hz
               | 3, hj => simp at hj; subst hj; exact hz
               | 4, hj => simp at hj; subst hj; exact hz
               | 5, hj => simp at hj; subst hj; exact hz
               | 6, hj => simp at hj; subst hj; exact hz
               | j + 7, hj => simp at hj) si_ (by simp [Value.oneCell'])
              have hU3 := setRow_heap v2.drew U _ #[.int .u32 t.a, .int .u32 t.a, .int .u32 t.b, .int .u32 t.c, .int .u32 t.d, .int .u32 t.e, .int .u32 t.f, .int .u32 t.g] 191 _ (w1_ HU2.out)
              have HU4 := Lib.hid hU3
              have hgv4 : GL [U] w3 (v2.drew.setRow U #[.int .u32 t.a, .int .u32 t.a, .int .u32 t.b, .int .u32 t.c, .int .u32 t.d, .int .u32 t.e, .int .u32 t.f, .int .u32 t.g]) := ziC_ (x9_ hgv2) U _ (.inl si_)
              clear hU3
              simp at hrun
              go_region
              clear hrun fU eU lU
              generalize v2.drew.setRow U #[.int .u32 t.a, .int .u32 t.a, .int .u32 t.b, .int .u32 t.c, .int .u32 t.d, .int .u32 t.e, .int .u32 t.f, .int .u32 t.g] = v3 at *
              have fU := z0_ HU4.out
              have eU := z8_ HU4.out
              have lU := z4_ HU4.out
              go_wp2
              go_roundw
              case rel =>
               refine ⟨i + 1, by omega, by go_num, Lib.hid (z2_ (z2_ hgv4 (.inl si_) _) (.inl si_) _), ?_⟩
               show _ = _
               rw [HR2.out]
               have h := z3_ (z3_ HU4.out 0 (.int .u32 (IntKind.u32.wrap (rX t kv wv + rY t)))) 4 (.int .u32 (IntKind.u32.wrap (t.d + rX t kv wv)))
               have h9 : s8C (zek_ t kv wv) = #[.int .u32 (IntKind.u32.wrap (rX t kv wv + rY t)), .int .u32 t.a, .int .u32 t.b, .int .u32 t.c, .int .u32 (IntKind.u32.wrap (t.d + rX t kv wv)), .int .u32 t.e, .int .u32 t.f, .int .u32 t.g] := rfl
               rw [h9]
               simp only [zcc_] at h ⊢
               exact h
              case measure => simp [intOf]; omega
        · obtain rfl : i = 64 := by omega
          have hq : zaV_ ((kTab.zip (zam_ l)).take 64) s = zaV_ (kTab.zip (zam_ l)) s := by rw [List.take_of_length_le om_]
          rw [hq] at hur
          have hfin : Hid (addS s (zaV_ (kTab.zip (zam_ l)) s) = zbx_ s l) := rfl
          generalize zaV_ (kTab.zip (zam_ l)) s = q at *
          have HU4 := Lib.hid hur.out
          have HV4 : Hid (wr.heap[V]? = some (.cells (vsC s q 0) 191 (0, 0))) := Lib.hid (x6_ HV3.out hgr.out so_)
          have HR4 := Lib.hid (x6_ HR3.out hgr.out so_)
          have hg4 : GL [] w wr := y7_ hgr.out hg3 (fun r hr => .inr (by rw [List.mem_singleton.1 hr]; omega))
          obtain ⟨w4, rfl⟩ : ∃ w4 : World, w4 = wr := ⟨_, rfl⟩
          clear hgr hur hi hlt hq
          go_wp2
          go_loopw [18, 176] (fun _ iv wr => ∃ i : Nat, i ≤ 8 ∧ iv = .int .i64 i ∧ Hid (GL [V] w4 wr) ∧ Hid (wr.heap[V]? = some (.cells (vsC s q i) 191 (0, 0)))) (fun _ iv _ => 8 - (intOf iv).toNat)
          case atStart => exact ⟨0, by omega, rfl, Lib.hid (y1_ _ _), HV4⟩
          case round =>
           obtain ⟨i, hi, rfl, hgr, hvr⟩ := hrel
           by_cases hlt : i < 8
           · have hcV := (z0_ hvr.out i).trans (zmz_ s q i hlt)
             have eV := z8_ hvr.out
             have lV := z4_ hvr.out
             have hcU := (z0_ (x6_ HU4.out hgr.out so_) i).trans (zmB_ q i hlt)
             have HS := Lib.hid (zmA_ s q i hlt)
             have HVr := Lib.hid hvr.out
             have i8 : (i : Int) < 8 := by omega
             generalize (s8L s).getD i 0 = xs at *
             generalize (s8L q).getD i 0 = xq at *
             clear hvr
             go_wp2
             go_region
             go_wp2
             go_roundw
             case rel =>
              refine ⟨i + 1, by omega, by go_num, Lib.hid (z2_ (x9_ hgr.out) (.inl si_) _), ?_⟩
              show _ = _
              rw [← HS.out]
              have h := z3_ HVr.out i (.int .u32 (IntKind.u32.wrap (xs + xq)))
              simp only [zcc_] at h ⊢
              exact h
             case measure => simp [intOf]; omega
           · obtain rfl : i = 8 := by omega
             have hV8 := hvr.out
             have e8 : vsC s q 8 = s8C (addS s q) := rfl
             rw [e8, hfin.out] at hV8
             have hR8 := x6_ HR4.out hgr.out so_
             have HB : Hid (Below w.heap.size w wr) := Lib.hid (y0_ (y7_ hgr.out hg4 (fun r hr => .inr (by rw [List.mem_singleton.1 hr]; omega))))
             unfold s8C at hV8
             have fV := z0_ hV8
             have eV := z8_ hV8
             have lV := z4_ hV8
             have fR := z0_ hR8
             have eR := z8_ hR8
             have lR := z4_ hR8
             have hbw := HB.out
             have hRw : w.heap.size ≤ R := by omega
             go_wp2
             exact bodyPost_ret (v := s8V (zbx_ s l)) (by simp [results, Tryz.results156, go_sem, fR, eR, s8V]) rfl ⟨rfl, bl_⟩
end Go.Proofs.YtembdkodajichaaGreatDoor
