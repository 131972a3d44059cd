/- Nothing is appended. -/
import Derived.Test.YtiplnofaejpeoaaGreatDoorLawD0
import Derived.Great.BuildSlice
import Derived.Test.YtiplnofaejpeoaaGreatDoorMSpec
import Derived.OwnWalk
import Derived.Maps.AppendAt
set_option maxRecDepth 100000
set_option maxHeartbeats 2000000
set_option linter.unusedSimpArgs false
set_option linter.unusedVariables false
namespace Go.Proofs.YtiplnofaejpeoaaGreatDoor
open Go.RowKit
theorem zej_ {p : Nat → Prop} {w : World} : ∀ (l : List LT) (m b o : Nat), x2_ p w l b o → x2_ p w (l.take m) b o
 | [], m, b, o, _ => by rw [List.take_nil]; unfold x2_; trivial
 | x :: r, 0, b, o, _ => by rw [List.take_zero]; unfold x2_; trivial
 | x :: r, m + 1, b, o, h => by
   rw [List.take_succ_cons]
   unfold x2_ at h ⊢
   exact ⟨h.1, zej_ r m b (o + 4) h.2⟩
theorem k7_ {p : Nat → Prop} {w : World} {x : LT} {r : List LT} {b o : Nat} {c0 c1 c2 c3 : Value} (hx : y2_ p w x (.agg #[c0, c1, c2, c3])) (h0 : w.cell? ⟨b, o, none⟩ = some c0) (h1 : w.cell? ⟨b, o + 1, none⟩ = some c1) (h2 : w.cell? ⟨b, o + 2, none⟩ = some c2) (h3 : w.cell? ⟨b, o + 3, none⟩ = some c3) (hr : x2_ p w r b (o + 4)) : x2_ p w (x :: r) b o := by
 unfold x2_
 exact ⟨⟨c0, c1, c2, c3, hx, h0, h1, h2, h3⟩, hr⟩
theorem zbM_ {p : Nat → Prop} {w : World} {b o : Nat} : x2_ p w [] b o := by unfold x2_; trivial
def v0_ : LT := .mk 3 [] 7 []
def y1_ (k : Nat) : List LT := List.replicate k v0_
def repC : Nat → List Value
 | 0 => []
 | k + 1 => repC k ++ [.int .u8 3, .string (bs []), .int .i64 7, .slice none 0 0]
theorem zcr_ (k : Nat) : (y1_ k).length = k := by unfold y1_; simp
theorem zhK_ (w : World) : ∀ k, RowV (fun _ => True) w (y1_ k) (repC k)
 | 0 => rfl
 | k + 1 => by
   have h := zdZ_ (zaG_ 7 om_ om_ (fun _ => True) w) _ _ (zhK_ w k)
   have e : y1_ (k + 1) = y1_ k ++ [.mk 3 [] 7 []] := by unfold y1_ v0_; rw [List.replicate_succ']
   rw [e]
   exact h
theorem zcT_ (k : Int) (t : List UInt8) (n : Int) (hk : 0 ≤ k ∧ k ≤ 255) (hn : -9223372036854775808 ≤ n ∧ n ≤ 9223372036854775807) (ht : t.length ≤ 9000000000000000000) (q : Nat → Prop) (w : World) : y2_ q w (.mk k t n []) (.agg #[.int .u8 k, .string (bs t), .int .i64 n, .slice none 0 0]) := by
 unfold y2_
 exact ⟨hk, hn, ht, by simp, _, rfl, .inl ⟨none, 0, rfl, rfl⟩⟩
theorem zek_ (k : Int) (t : List UInt8) (n : Int) (hk : 0 ≤ k ∧ k ≤ 255) (hn : -9223372036854775808 ≤ n ∧ n ≤ 9223372036854775807) (ht : t.length ≤ 9000000000000000000) {w : World} {N c : Nat} {l : List LT} (hl : l.length ≤ 1000) (hN : N < w.heap.size) (h : x2_ (fun _ => True) w l N 0) : y2_ (fun _ => True) w (.mk k t n l) (.agg #[.int .u8 k, .string (bs t), .int .i64 n, .slice (some ⟨N, 0, none⟩) l.length c]) := by
 unfold y2_
 exact ⟨hk, hn, ht, by omega, _, rfl, .inr ⟨N, 0, c, rfl, hN, trivial, h⟩⟩
inductive Gv where
 | lit (v : Value)
 | lock (x : LT)
 | row (l : List LT)
def GvOk : Gv → Value → World → Prop
 | .lit u, v, _ => v = u
 | .lock x, v, w => y2_ (fun _ => True) w x v
 | .row l, v, w => ∃ N, v = .slice (some ⟨N, 0, none⟩) l.length l.length ∧ N < w.heap.size ∧ x2_ (fun _ => True) w l N 0
theorem zlN_ {g : Gv} {v : Value} {w w' : World} (h : GvOk g v w) (hg : GL [] w w') : GvOk g v w' := by
 cases g with
 | lit u => exact h
 | lock x => exact z7_ hg _ _ h
 | row l =>
   obtain ⟨N, h1, h2, h3⟩ := h
   exact ⟨N, h1, Nat.lt_of_lt_of_le h2 hg.size, zbL_ hg _ _ _ h2 h3⟩
def k9_ (gs : List Gv) (i : Nat) (v : Value) (w : World) : Prop := ∀ g, gs[i]? = some g → GvOk g v w
theorem j3_ {gs : List Gv} {i : Nat} {v : Value} {w : World} {g : Gv} (hg : gs[i]? = some g) (h : GvOk g v w) : k9_ gs i v w := fun g' hg' => by rw [hg] at hg'; cases hg'; exact h
def kDS : List (Option Nat) := [some 29, some 30, some 31, some 32, some 33, some 34, some 35, some 36, some 37, some 38, some 39, some 40, some 41, some 42, some 43, some 44, some 45, some 46, some 47, some 48, some 49, some 50, some 51, some 52, some 53, some 54, some 55, some 56, some 57, some 58, some 59, some 60, some 61, some 62, some 63, some 64, some 65, some 66, some 67, some 68, some 69, some 70, some 71, some 72, some 73, some 74, some 75, some 76, some 77, some 78, some 79, some 80, some 81, some 82, some 83, some 84, some 85, some 86, some 87, some 88, some 89, some 90, some 91, some 92, some 93, some 94, some 95, some 96, some 97, some 98, some 99, some 100, some 101, some 102, some 103, some 104, some 105, some 106, some 107, some 108, some 109, some 110, some 111, some 112, some 113, some 114, some 115, some 116, some 5]
def kGS (N cN : Nat) : List Gv := [.lock (.mk 0 [] (0) []), .lock (.mk 7 [] (0) []), .lock (.mk 1 [80, 110, 49, 59] (0) []), .lock (.mk 1 [110, 49, 59] (0) []), .lock (.mk 1 [] (0) []), .lock (.mk 1 [87, 80, 110, 49, 59, 80, 110, 50, 59] (0) []), .lock (.mk 1 [76, 80, 110, 49, 59, 116, 48, 58] (0) []), .lock (.mk 1 [72, 110, 49, 59] (0) []), .lock (.mk 2 [72, 110, 49, 59] (0) []), .lock (.mk 2 [80, 110, 49, 59] (0) []), .lock (.mk 2 [] (0) []), .lock v0_, .lock (.mk 3 [] (-1) []), .lock (.mk 3 [] (1073741823) []), .lock (.mk 3 [] (1073741824) []), .lock (.mk 4 [] (0) []), .lock (.mk 4 [] (1073741824) []), .lock (.mk 5 [] (0) []), .lock (.mk 6 [] (0) []), .lock v0_, .row [v0_], .lock (.mk 5 [] 0 [v0_]), .lock v0_, .lock (.mk 4 [] (2) []), .row [v0_, (.mk 4 [] (2) [])], .lock (.mk 6 [] 0 [v0_, (.mk 4 [] (2) [])]), .lock (.mk 5 [] 0 (y1_ 8)), .lit (.slice (some ⟨N, 0, none⟩) 9 cN), .lock (.mk 6 [] 0 (y1_ 9)), .lock (.mk 5 [] 0 (y1_ 8)), .lock (.mk 5 [] 0 (y1_ 8)), .lock (.mk 5 [] 0 (y1_ 8)), .lock (.mk 5 [] 0 (y1_ 8)), .lock (.mk 5 [] 0 (y1_ 8)), .lock (.mk 5 [] 0 (y1_ 8)), .lock (.mk 5 [] 0 (y1_ 8)), .lock (.mk 5 [] 0 (y1_ 8)), .row [(.mk 5 [] 0 (y1_ 8)), (.mk 5 [] 0 (y1_ 8)), (.mk 5 [] 0 (y1_ 8)), (.mk 5 [] 0 (y1_ 8)), (.mk 5 [] 0 (y1_ 8)), (.mk 5 [] 0 (y1_ 8)), (.mk 5 [] 0 (y1_ 8)), (.mk 5 [] 0 (y1_ 8))], .lock (.mk 5 [] 0 [(.mk 5 [] 0 (y1_ 8)), (.mk 5 [] 0 (y1_ 8)), (.mk 5 [] 0 (y1_ 8)), (.mk 5 [] 0 (y1_ 8)), (.mk 5 [] 0 (y1_ 8)), (.mk 5 [] 0 (y1_ 8)), (.mk 5 [] 0 (y1_ 8)), (.mk 5 [] 0 (y1_ 8))]), .lock (.mk 5 [] 0 (y1_ 8)), .lock (.mk 5 [] 0 (y1_ 8)), .lock (.mk 5 [] 0 (y1_ 8)), .lock (.mk 5 [] 0 (y1_ 8)), .lock (.mk 5 [] 0 (y1_ 8)), .lock (.mk 5 [] 0 (y1_ 8)), .lit (.slice (some ⟨N, 0, none⟩) 9 cN), .lit (.slice (some ⟨N, 0, none⟩) 7 cN), .lock (.mk 5 [] 0 (y1_ 7)), .row [(.mk 5 [] 0 (y1_ 8)), (.mk 5 [] 0 (y1_ 8)), (.mk 5 [] 0 (y1_ 8)), (.mk 5 [] 0 (y1_ 8)), (.mk 5 [] 0 (y1_ 8)), (.mk 5 [] 0 (y1_ 8)), (.mk 5 [] 0 (y1_ 7))], .lock (.mk 5 [] 0 [(.mk 5 [] 0 (y1_ 8)), (.mk 5 [] 0 (y1_ 8)), (.mk 5 [] 0 (y1_ 8)), (.mk 5 [] 0 (y1_ 8)), (.mk 5 [] 0 (y1_ 8)), (.mk 5 [] 0 (y1_ 8)), (.mk 5 [] 0 (y1_ 7))]), .lock (.mk 5 [] 0 (y1_ 8)), .lock (.mk 5 [] 0 (y1_ 8)), .lock (.mk 5 [] 0 (y1_ 8)), .lock (.mk 5 [] 0 (y1_ 8)), .lock (.mk 5 [] 0 (y1_ 8)), .lock (.mk 5 [] 0 (y1_ 8)), .lock (.mk 5 [] 0 (y1_ 8)), .row [(.mk 5 [] 0 (y1_ 8)), (.mk 5 [] 0 (y1_ 8)), (.mk 5 [] 0 (y1_ 8)), (.mk 5 [] 0 (y1_ 8)), (.mk 5 [] 0 (y1_ 8)), (.mk 5 [] 0 (y1_ 8)), (.mk 5 [] 0 (y1_ 8))], .lock (.mk 5 [] 0 [(.mk 5 [] 0 (y1_ 8)), (.mk 5 [] 0 (y1_ 8)), (.mk 5 [] 0 (y1_ 8)), (.mk 5 [] 0 (y1_ 8)), (.mk 5 [] 0 (y1_ 8)), (.mk 5 [] 0 (y1_ 8)), (.mk 5 [] 0 (y1_ 8))]), .lock (.mk 5 [] 0 (y1_ 8)), .lock (.mk 0 [] (0) []), .row [(.mk 5 [] 0 (y1_ 8)), (.mk 0 [] (0) [])], .lock (.mk 5 [] 0 [(.mk 5 [] 0 (y1_ 8)), (.mk 0 [] (0) [])]), .lock (.mk 3 [110, 49, 59] (1) []), .lock (.mk 1 [80, 110, 49, 59] (1) []), .lock v0_, .row [v0_], .lock (.mk 2 [72, 110, 49, 59] (0) [v0_]), .lock v0_, .row [v0_], .lock (.mk 5 [] (1) [v0_]), .lock v0_, .row [v0_], .lock (.mk 6 [110, 49, 59] (0) [v0_]), .lock v0_, .row [v0_], .lock (.mk 4 [] (0) [v0_]), .lock (zaW_ (63 - 1)), .lock (zaW_ (64 - 1)), .lock (zaW_ (65 - 1)), .lock (.mk 1 [80, 110, 49, 59] (0) []), .lock (.mk 2 [72, 110, 50, 59] (0) []), .lock (.mk 4 [] (6) []), .row [(.mk 2 [72, 110, 50, 59] (0) []), (.mk 4 [] (6) [])], .lock (.mk 5 [] 0 [(.mk 2 [72, 110, 50, 59] (0) []), (.mk 4 [] (6) [])]), .row [(.mk 1 [80, 110, 49, 59] (0) []), (.mk 5 [] 0 [(.mk 2 [72, 110, 50, 59] (0) []), (.mk 4 [] (6) [])])], .lock (.mk 6 [] 0 [(.mk 1 [80, 110, 49, 59] (0) []), (.mk 5 [] 0 [(.mk 2 [72, 110, 50, 59] (0) []), (.mk 4 [] (6) [])])]), .row [(.mk 0 [] (0) []), (.mk 7 [] (0) []), (.mk 1 [80, 110, 49, 59] (0) []), (.mk 1 [110, 49, 59] (0) []), (.mk 1 [] (0) []), (.mk 1 [87, 80, 110, 49, 59, 80, 110, 50, 59] (0) []), (.mk 1 [76, 80, 110, 49, 59, 116, 48, 58] (0) []), (.mk 1 [72, 110, 49, 59] (0) []), (.mk 2 [72, 110, 49, 59] (0) []), (.mk 2 [80, 110, 49, 59] (0) []), (.mk 2 [] (0) []), v0_, (.mk 3 [] (-1) []), (.mk 3 [] (1073741823) []), (.mk 3 [] (1073741824) []), (.mk 4 [] (0) []), (.mk 4 [] (1073741824) []), (.mk 5 [] (0) []), (.mk 6 [] (0) []), (.mk 5 [] 0 [v0_]), (.mk 6 [] 0 [v0_, (.mk 4 [] (2) [])]), (.mk 5 [] 0 (y1_ 8)), (.mk 6 [] 0 (y1_ 9)), (.mk 5 [] 0 [(.mk 5 [] 0 (y1_ 8)), (.mk 5 [] 0 (y1_ 8)), (.mk 5 [] 0 (y1_ 8)), (.mk 5 [] 0 (y1_ 8)), (.mk 5 [] 0 (y1_ 8)), (.mk 5 [] 0 (y1_ 8)), (.mk 5 [] 0 (y1_ 8)), (.mk 5 [] 0 (y1_ 8))]), (.mk 5 [] 0 [(.mk 5 [] 0 (y1_ 8)), (.mk 5 [] 0 (y1_ 8)), (.mk 5 [] 0 (y1_ 8)), (.mk 5 [] 0 (y1_ 8)), (.mk 5 [] 0 (y1_ 8)), (.mk 5 [] 0 (y1_ 8)), (.mk 5 [] 0 (y1_ 7))]), (.mk 5 [] 0 [(.mk 5 [] 0 (y1_ 8)), (.mk 5 [] 0 (y1_ 8)), (.mk 5 [] 0 (y1_ 8)), (.mk 5 [] 0 (y1_ 8)), (.mk 5 [] 0 (y1_ 8)), (.mk 5 [] 0 (y1_ 8)), (.mk 5 [] 0 (y1_ 8))]), (.mk 5 [] 0 [(.mk 5 [] 0 (y1_ 8)), (.mk 0 [] (0) [])]), (.mk 3 [110, 49, 59] (1) []), (.mk 1 [80, 110, 49, 59] (1) []), (.mk 2 [72, 110, 49, 59] (0) [v0_]), (.mk 5 [] (1) [v0_]), (.mk 6 [110, 49, 59] (0) [v0_]), (.mk 4 [] (0) [v0_]), (zaW_ (63 - 1)), (zaW_ (64 - 1)), (zaW_ (65 - 1)), (.mk 6 [] 0 [(.mk 1 [80, 110, 49, 59] (0) []), (.mk 5 [] 0 [(.mk 2 [72, 110, 50, 59] (0) []), (.mk 4 [] (6) [])])])], .row [(.mk 0 [] (0) []), (.mk 7 [] (0) []), (.mk 1 [80, 110, 49, 59] (0) []), (.mk 1 [110, 49, 59] (0) []), (.mk 1 [] (0) []), (.mk 1 [87, 80, 110, 49, 59, 80, 110, 50, 59] (0) []), (.mk 1 [76, 80, 110, 49, 59, 116, 48, 58] (0) []), (.mk 1 [72, 110, 49, 59] (0) []), (.mk 2 [72, 110, 49, 59] (0) []), (.mk 2 [80, 110, 49, 59] (0) []), (.mk 2 [] (0) []), v0_, (.mk 3 [] (-1) []), (.mk 3 [] (1073741823) []), (.mk 3 [] (1073741824) []), (.mk 4 [] (0) []), (.mk 4 [] (1073741824) []), (.mk 5 [] (0) []), (.mk 6 [] (0) []), (.mk 5 [] 0 [v0_]), (.mk 6 [] 0 [v0_, (.mk 4 [] (2) [])]), (.mk 5 [] 0 (y1_ 8)), (.mk 6 [] 0 (y1_ 9)), (.mk 5 [] 0 [(.mk 5 [] 0 (y1_ 8)), (.mk 5 [] 0 (y1_ 8)), (.mk 5 [] 0 (y1_ 8)), (.mk 5 [] 0 (y1_ 8)), (.mk 5 [] 0 (y1_ 8)), (.mk 5 [] 0 (y1_ 8)), (.mk 5 [] 0 (y1_ 8)), (.mk 5 [] 0 (y1_ 8))]), (.mk 5 [] 0 [(.mk 5 [] 0 (y1_ 8)), (.mk 5 [] 0 (y1_ 8)), (.mk 5 [] 0 (y1_ 8)), (.mk 5 [] 0 (y1_ 8)), (.mk 5 [] 0 (y1_ 8)), (.mk 5 [] 0 (y1_ 8)), (.mk 5 [] 0 (y1_ 7))]), (.mk 5 [] 0 [(.mk 5 [] 0 (y1_ 8)), (.mk 5 [] 0 (y1_ 8)), (.mk 5 [] 0 (y1_ 8)), (.mk 5 [] 0 (y1_ 8)), (.mk 5 [] 0 (y1_ 8)), (.mk 5 [] 0 (y1_ 8)), (.mk 5 [] 0 (y1_ 8))]), (.mk 5 [] 0 [(.mk 5 [] 0 (y1_ 8)), (.mk 0 [] (0) [])]), (.mk 3 [110, 49, 59] (1) []), (.mk 1 [80, 110, 49, 59] (1) []), (.mk 2 [72, 110, 49, 59] (0) [v0_]), (.mk 5 [] (1) [v0_]), (.mk 6 [110, 49, 59] (0) [v0_]), (.mk 4 [] (0) [v0_]), (zaW_ (63 - 1)), (zaW_ (64 - 1)), (zaW_ (65 - 1)), (.mk 6 [] 0 [(.mk 1 [80, 110, 49, 59] (0) []), (.mk 5 [] 0 [(.mk 2 [72, 110, 50, 59] (0) []), (.mk 4 [] (6) [])])])]]
section
variable {ops : Array Oper} {Q : Exit → Act → World → Prop} {a0 : Act} {w0 : World} {N cN : Nat} {af : Array Edge} {ty : Nat} {pos : String} {at_ : Array TypeId}
theorem zlO_ : ∀ m, m ≤ 9 → (y1_ 9).take m = y1_ m
 | 0, _ => rfl
 | 1, _ => rfl
 | 2, _ => rfl
 | 3, _ => rfl
 | 4, _ => rfl
 | 5, _ => rfl
 | 6, _ => rfl
 | 7, _ => rfl
 | 8, _ => rfl
 | 9, _ => rfl
 | m + 10, h => by omega
theorem zax_ {f i d : Nat} {x : LT} {c : Value} (hg : (kGS N cN)[i]? = some (.lock x)) (hE : ∀ w, (callFunc f #[c]).run Tryz.prog w = .ok (.enter f #[c]) w) (hC : ∀ w, Calls Tryz.prog f #[c] w fun e w' => ∃ v, e = .returned v ∧ y2_ (fun _ => True) w' x v ∧ Below w.heap.size w w') : k6_ Tryz.prog ops Q a0 w0 kDS (k9_ (kGS N cN)) i { dst := some d, op := .call { callee := .value (.func f), args := #[.const c], argTypes := at_ }, type := ty, pos := pos, after := af, guard := none } := by
 intro a w hgl hout hdep K hK
 rw [if_pos (by simp [Region.wanted])]
 have h3 := hE w
 clear hout hdep hE
 go_simp
 refine (hC w).mono ?_
 rintro e w1 ⟨v, rfl, hp, hb⟩
 exact hK _ _ (j3_ hg hp) (z4_ hb (z1_ _ _))
theorem j7_ {s i d B : Nat} {x : LT} {k n : Int} {t : List UInt8} {ad : Option Addr} {m c : Nat} (hg : (kGS N cN)[i]? = some (.lock x)) (hs : some s ∉ kDS) (e1 : a0.tmps[s]? = some (.pointer (some ⟨B, 0, none⟩))) (HA : w0.heap[B]? = some (.cells #[.int .u8 k, .string (bs t), .int .i64 n, .slice ad m c] 25 (0, 0))) (HX : y2_ (fun _ => True) w0 x (.agg #[.int .u8 k, .string (bs t), .int .i64 n, .slice ad m c])) : k6_ Tryz.prog ops Q a0 w0 kDS (k9_ (kGS N cN)) i { dst := some d, op := .load 25 (.tmp s), type := ty, pos := pos, after := af, guard := none } := by
 intro a w hgl hout hdep K hK
 rw [if_pos (by simp [Region.wanted])]
 have e2 := (hout s hs).trans e1
 have b1 := z2_ (y7_ HA hgl si_)
 have b2 := z5_ (y7_ HA hgl si_)
 have hx := z7_ hgl _ _ HX
 clear hout hdep e1 HX
 go_simp
 exact hK _ _ (j3_ hg hx) (z1_ _ _)
theorem zhL_ {s i d : Nat} {V : Value} (hg : (kGS N cN)[i]? = some (.lit V)) (hs : some s ∉ kDS) (e1 : a0.tmps[s]? = some V) : k6_ Tryz.prog ops Q a0 w0 kDS (k9_ (kGS N cN)) i { dst := some d, op := .move (.tmp s), type := ty, pos := pos, after := af, guard := none } := by
 intro a w hgl hout hdep K hK
 rw [if_pos (by simp [Region.wanted])]
 have e2 := (hout s hs).trans e1
 clear hout hdep e1
 go_simp
 exact hK _ _ (j3_ hg rfl) (z1_ _ _)
theorem zcI_ {f i d j q : Nat} {kd : Int} {l : List LT} (hg : (kGS N cN)[i]? = some (.lock (.mk kd [] 0 l))) (hj : (⟨j, .data⟩ : Edge) ∈ af.toList) (hd : kDS[j]? = some (some q)) (hgj : (kGS N cN)[j]? = some (.row l)) (hE : ∀ w N c, (callFunc f #[.slice (some ⟨N, 0, none⟩) l.length c]).run Tryz.prog w = .ok (.enter f #[.slice (some ⟨N, 0, none⟩) l.length c]) w)
  (hC : ∀ N c w, N < w.heap.size → x2_ (fun _ => True) w l N 0 → Calls Tryz.prog f #[.slice (some ⟨N, 0, none⟩) l.length c] w fun e w' => Below w.heap.size w w' ∧ ∃ v, e = .returned v ∧ y2_ (fun b => True ∨ w.heap.size ≤ b) w' (.mk kd [] 0 l) v) : k6_ Tryz.prog ops Q a0 w0 kDS (k9_ (kGS N cN)) i { dst := some d, op := .call { callee := .value (.func f), args := #[.tmp q], argTypes := at_ }, type := ty, pos := pos, after := af, guard := none } := by
 intro a w hgl hout hdep K hK
 rw [if_pos (by simp [Region.wanted])]
 obtain ⟨v, hv, e1⟩ := hdep ⟨j, .data⟩ hj rfl
 have e2 := e1 q hd
 obtain ⟨M, rfl, hM, hr⟩ := hv _ hgj
 have h3 := hE w M l.length
 clear hout hdep hE e1 hv
 go_simp
 refine (hC M _ w hM hr).mono ?_
 rintro e w1 ⟨hb, v, rfl, hl⟩
 exact hK _ _ (j3_ hg (q9_ (q := fun _ => True) (fun _ _ _ => trivial) _ _ hl)) (z4_ hb (z1_ _ _))
theorem zhM_ {f i d j q m : Nat} {kd : Int} (hm : 0 < m ∧ m ≤ 9) (hg : (kGS N cN)[i]? = some (.lock (.mk kd [] 0 (y1_ m)))) (hj : (⟨j, .data⟩ : Edge) ∈ af.toList) (hd : kDS[j]? = some (some q)) (hgj : (kGS N cN)[j]? = some (.lit (.slice (some ⟨N, 0, none⟩) m cN))) (hE : ∀ w, (callFunc f #[.slice (some ⟨N, 0, none⟩) m cN]).run Tryz.prog w = .ok (.enter f #[.slice (some ⟨N, 0, none⟩) m cN]) w)
  (hC : ∀ w, N < w.heap.size → x2_ (fun _ => True) w (y1_ m) N 0 → Calls Tryz.prog f #[.slice (some ⟨N, 0, none⟩) (y1_ m).length cN] w fun e w' => Below w.heap.size w w' ∧ ∃ v, e = .returned v ∧ y2_ (fun b => True ∨ w.heap.size ≤ b) w' (.mk kd [] 0 (y1_ m)) v) (hN : N < w0.heap.size) (hr : x2_ (fun _ => True) w0 (y1_ 9) N 0) : k6_ Tryz.prog ops Q a0 w0 kDS (k9_ (kGS N cN)) i { dst := some d, op := .call { callee := .value (.func f), args := #[.tmp q], argTypes := at_ }, type := ty, pos := pos, after := af, guard := none } := by
 intro a w hgl hout hdep K hK
 rw [if_pos (by simp [Region.wanted])]
 obtain ⟨v, hv, e1⟩ := hdep ⟨j, .data⟩ hj rfl
 have e2 := e1 q hd
 have hv2 : v = _ := hv _ hgj
 subst hv2
 have h3 := hE w
 have hN9 := Nat.lt_of_lt_of_le hN hgl.size
 have hr9 : x2_ (fun _ => True) w (y1_ m) N 0 := by
  rw [← zlO_ m hm.2]
  exact zej_ (y1_ 9) m _ _ (zbL_ hgl _ _ _ hN hr)
 have hc := hC w hN9 hr9
 rw [zcr_] at hc
 clear hout hdep hE e1 hv hC
 go_simp
 refine hc.mono ?_
 rintro e w1 ⟨hb, v, rfl, hl⟩
 exact hK _ _ (j3_ hg (q9_ (q := fun _ => True) (fun _ _ _ => trivial) _ _ hl)) (z4_ hb (z1_ _ _))
theorem zlP_ : k6_ Tryz.prog ops Q a0 w0 kDS (k9_ (kGS N cN)) 0 { dst := some 29, op := .build 25 #[], type := ty, pos := pos, after := af, guard := none } := by
 intro a w hgl hout hdep K hK
 rw [if_pos (by simp [Region.wanted])]
 clear hout hdep
 go_simp
 exact hK _ _ (j3_ rfl (zcT_ 0 [] 0 om_ om_ si_ _ _)) (z1_ _ _)
theorem zlQ_ : k6_ Tryz.prog ops Q a0 w0 kDS (k9_ (kGS N cN)) 1 { dst := some 30, op := .build 25 #[(0, .const (.int .u8 7))], type := ty, pos := pos, after := af, guard := none } := by
 intro a w hgl hout hdep K hK
 rw [if_pos (by simp [Region.wanted])]
 clear hout hdep
 go_simp
 exact hK _ _ (j3_ rfl (zcT_ 7 [] 0 om_ om_ si_ _ _)) (z1_ _ _)
theorem zlR_ : k6_ Tryz.prog ops Q a0 w0 kDS (k9_ (kGS N cN)) 17 { dst := some 46, op := .call { callee := .value (.func 5), args := #[.const (.slice none 0 0)], argTypes := at_ }, type := ty, pos := pos, after := af, guard := none } := by
 intro a w hgl hout hdep K hK
 rw [if_pos (by simp [Region.wanted])]
 clear hout hdep
 go_simp
 refine (zfq_ _).mono ?_
 rintro e w1 ⟨rfl, hb⟩
 exact hK _ _ (j3_ rfl (zcT_ 5 [] 0 om_ om_ si_ _ _)) (z4_ hb (z1_ _ _))
theorem zlS_ : k6_ Tryz.prog ops Q a0 w0 kDS (k9_ (kGS N cN)) 18 { dst := some 47, op := .call { callee := .value (.func 9), args := #[.const (.slice none 0 0)], argTypes := at_ }, type := ty, pos := pos, after := af, guard := none } := by
 intro a w hgl hout hdep K hK
 rw [if_pos (by simp [Region.wanted])]
 clear hout hdep
 go_simp
 refine (zfr_ _).mono ?_
 rintro e w1 ⟨rfl, hb⟩
 exact hK _ _ (j3_ rfl (zcT_ 6 [] 0 om_ om_ si_ _ _)) (z4_ hb (z1_ _ _))
theorem zlT_ (h48 : (⟨19, .data⟩ : Edge) ∈ af.toList) : k6_ Tryz.prog ops Q a0 w0 kDS (k9_ (kGS N cN)) 20 { dst := some 49, op := .buildSlice 23 1 #[(0, .tmp 48)], type := ty, pos := pos, after := af, guard := none } := by
 intro a w hgl hout hdep K hK
 rw [if_pos (by simp [Region.wanted])]
 obtain ⟨v48, g48, e48⟩ := hdep ⟨19, .data⟩ h48 rfl
 have e48 := e48 48 rfl
 have g48 := g48 _ rfl
 obtain ⟨ad48, cp48, rfl, _⟩ := y3_ (show y2_ _ _ (.mk 3 [] 7 []) _ from g48)
 clear hout hdep
 go_simp
 refine hK _ _ (j3_ rfl ⟨w.heap.size, rfl, z0_ (z3_ w _), ?_⟩) (z6_ (z1_ _ _) _)
 exact (k7_ (z7_ (z6_ (z1_ _ _) _) _ _ g48) (z2_ (z3_ w _) 0) (z2_ (z3_ w _) 1) (z2_ (z3_ w _) 2) (z2_ (z3_ w _) 3) zbM_)
theorem zlU_ (h51 : (⟨22, .data⟩ : Edge) ∈ af.toList) (h52 : (⟨23, .data⟩ : Edge) ∈ af.toList) : k6_ Tryz.prog ops Q a0 w0 kDS (k9_ (kGS N cN)) 24 { dst := some 53, op := .buildSlice 23 2 #[(0, .tmp 51), (1, .tmp 52)], type := ty, pos := pos, after := af, guard := none } := by
 intro a w hgl hout hdep K hK
 rw [if_pos (by simp [Region.wanted])]
 obtain ⟨v51, g51, e51⟩ := hdep ⟨22, .data⟩ h51 rfl
 have e51 := e51 51 rfl
 have g51 := g51 _ rfl
 obtain ⟨v52, g52, e52⟩ := hdep ⟨23, .data⟩ h52 rfl
 have e52 := e52 52 rfl
 have g52 := g52 _ rfl
 obtain ⟨ad51, cp51, rfl, _⟩ := y3_ (show y2_ _ _ (.mk 3 [] 7 []) _ from g51)
 obtain ⟨ad52, cp52, rfl, _⟩ := y3_ g52
 clear hout hdep
 go_simp
 refine hK _ _ (j3_ rfl ⟨w.heap.size, rfl, z0_ (z3_ w _), ?_⟩) (z6_ (z1_ _ _) _)
 exact (k7_ (z7_ (z6_ (z1_ _ _) _) _ _ g51) (z2_ (z3_ w _) 0) (z2_ (z3_ w _) 1) (z2_ (z3_ w _) 2) (z2_ (z3_ w _) 3) (k7_ (z7_ (z6_ (z1_ _ _) _) _ _ g52) (z2_ (z3_ w _) 4) (z2_ (z3_ w _) 5) (z2_ (z3_ w _) 6) (z2_ (z3_ w _) 7) zbM_))
theorem zlV_ (h58 : (⟨29, .data⟩ : Edge) ∈ af.toList) (h59 : (⟨30, .data⟩ : Edge) ∈ af.toList) (h60 : (⟨31, .data⟩ : Edge) ∈ af.toList) (h61 : (⟨32, .data⟩ : Edge) ∈ af.toList) (h62 : (⟨33, .data⟩ : Edge) ∈ af.toList) (h63 : (⟨34, .data⟩ : Edge) ∈ af.toList) (h64 : (⟨35, .data⟩ : Edge) ∈ af.toList) (h65 : (⟨36, .data⟩ : Edge) ∈ af.toList) : k6_ Tryz.prog ops Q a0 w0 kDS (k9_ (kGS N cN)) 37 { dst := some 66, op := .buildSlice 23 8 #[(0, .tmp 58), (1, .tmp 59), (2, .tmp 60), (3, .tmp 61), (4, .tmp 62), (5, .tmp 63), (6, .tmp 64), (7, .tmp 65)], type := ty, pos := pos, after := af, guard := none } := by
 intro a w hgl hout hdep K hK
 rw [if_pos (by simp [Region.wanted])]
 obtain ⟨v58, g58, e58⟩ := hdep ⟨29, .data⟩ h58 rfl
 have e58 := e58 58 rfl
 have g58 := g58 _ rfl
 obtain ⟨v59, g59, e59⟩ := hdep ⟨30, .data⟩ h59 rfl
 have e59 := e59 59 rfl
 have g59 := g59 _ rfl
 obtain ⟨v60, g60, e60⟩ := hdep ⟨31, .data⟩ h60 rfl
 have e60 := e60 60 rfl
 have g60 := g60 _ rfl
 obtain ⟨v61, g61, e61⟩ := hdep ⟨32, .data⟩ h61 rfl
 have e61 := e61 61 rfl
 have g61 := g61 _ rfl
 obtain ⟨v62, g62, e62⟩ := hdep ⟨33, .data⟩ h62 rfl
 have e62 := e62 62 rfl
 have g62 := g62 _ rfl
 obtain ⟨v63, g63, e63⟩ := hdep ⟨34, .data⟩ h63 rfl
 have e63 := e63 63 rfl
 have g63 := g63 _ rfl
 obtain ⟨v64, g64, e64⟩ := hdep ⟨35, .data⟩ h64 rfl
 have e64 := e64 64 rfl
 have g64 := g64 _ rfl
 obtain ⟨v65, g65, e65⟩ := hdep ⟨36, .data⟩ h65 rfl
 have e65 := e65 65 rfl
 have g65 := g65 _ rfl
 obtain ⟨ad58, cp58, rfl, _⟩ := y3_ g58
 obtain ⟨ad59, cp59, rfl, _⟩ := y3_ g59
 obtain ⟨ad60, cp60, rfl, _⟩ := y3_ g60
 obtain ⟨ad61, cp61, rfl, _⟩ := y3_ g61
 obtain ⟨ad62, cp62, rfl, _⟩ := y3_ g62
 obtain ⟨ad63, cp63, rfl, _⟩ := y3_ g63
 obtain ⟨ad64, cp64, rfl, _⟩ := y3_ g64
 obtain ⟨ad65, cp65, rfl, _⟩ := y3_ g65
 clear hout hdep
 go_simp
 refine hK _ _ (j3_ rfl ⟨w.heap.size, rfl, z0_ (z3_ w _), ?_⟩) (z6_ (z1_ _ _) _)
 exact (k7_ (z7_ (z6_ (z1_ _ _) _) _ _ g58) (z2_ (z3_ w _) 0) (z2_ (z3_ w _) 1) (z2_ (z3_ w _) 2) (z2_ (z3_ w _) 3) (k7_ (z7_ (z6_ (z1_ _ _) _) _ _ g59) (z2_ (z3_ w _) 4) (z2_ (z3_ w _) 5) (z2_ (z3_ w _) 6) (z2_ (z3_ w _) 7) (k7_ (z7_ (z6_ (z1_ _ _) _) _ _ g60) (z2_ (z3_ w _) 8) (z2_ (z3_ w _) 9) (z2_ (z3_ w _) 10) (z2_ (z3_ w _) 11) (k7_ (z7_ (z6_ (z1_ _ _) _) _ _ g61) (z2_ (z3_ w _) 12) (z2_ (z3_ w _) 13) (z2_ (z3_ w _) 14) (z2_ (z3_ w _) 15) (k7_ (z7_ (z6_ (z1_ _ _) _) _ _ g62) (z2_ (z3_ w _) 16) (z2_ (z3_ w _) 17) (z2_ (z3_ w _) 18) (z2_ (z3_ w _) 19) (k7_ (z7_ (z6_ (z1_ _ _) _) _ _ g63) (z2_ (z3_ w _) 20) (z2_ (z3_ w _) 21) (z2_ (z3_ w _) 22) (z2_ (z3_ w _) 23) (k7_ (z7_ (z6_ (z1_ _ _) _) _ _ g64) (z2_ (z3_ w _) 24) (z2_ (z3_ w _) 25) (z2_ (z3_ w _) 26) (z2_ (z3_ w _) 27) (k7_ (z7_ (z6_ (z1_ _ _) _) _ _ g65) (z2_ (z3_ w _) 28) (z2_ (z3_ w _) 29) (z2_ (z3_ w _) 30) (z2_ (z3_ w _) 31) zbM_))))))))
theorem zlW_ (h74 : (⟨45, .data⟩ : Edge) ∈ af.toList) (hcN : (9 : Int) ≤ cN) : k6_ Tryz.prog ops Q a0 w0 kDS (k9_ (kGS N cN)) 46 { dst := some 75, op := .slice 23 (.tmp 74) none (some (.const (.int .i64 7))) none, type := ty, pos := pos, after := af, guard := none } := by
 intro a w hgl hout hdep K hK
 rw [if_pos (by simp [Region.wanted])]
 obtain ⟨v74, g74, e74⟩ := hdep ⟨45, .data⟩ h74 rfl
 have e74 := e74 74 rfl
 have g74 := g74 _ rfl
 have h7 : (7 : Int) ≤ cN := by omega
 have g74b : v74 = .slice (some ⟨N, 0, none⟩) 9 cN := g74
 subst g74b
 clear hout hdep
 go_simp
 exact hK _ _ (j3_ rfl rfl) (z1_ _ _)
theorem zlX_ (h68 : (⟨39, .data⟩ : Edge) ∈ af.toList) (h69 : (⟨40, .data⟩ : Edge) ∈ af.toList) (h70 : (⟨41, .data⟩ : Edge) ∈ af.toList) (h71 : (⟨42, .data⟩ : Edge) ∈ af.toList) (h72 : (⟨43, .data⟩ : Edge) ∈ af.toList) (h73 : (⟨44, .data⟩ : Edge) ∈ af.toList) (h76 : (⟨47, .data⟩ : Edge) ∈ af.toList) : k6_ Tryz.prog ops Q a0 w0 kDS (k9_ (kGS N cN)) 48 { dst := some 77, op := .buildSlice 23 7 #[(0, .tmp 68), (1, .tmp 69), (2, .tmp 70), (3, .tmp 71), (4, .tmp 72), (5, .tmp 73), (6, .tmp 76)], type := ty, pos := pos, after := af, guard := none } := by
 intro a w hgl hout hdep K hK
 rw [if_pos (by simp [Region.wanted])]
 obtain ⟨v68, g68, e68⟩ := hdep ⟨39, .data⟩ h68 rfl
 have e68 := e68 68 rfl
 have g68 := g68 _ rfl
 obtain ⟨v69, g69, e69⟩ := hdep ⟨40, .data⟩ h69 rfl
 have e69 := e69 69 rfl
 have g69 := g69 _ rfl
 obtain ⟨v70, g70, e70⟩ := hdep ⟨41, .data⟩ h70 rfl
 have e70 := e70 70 rfl
 have g70 := g70 _ rfl
 obtain ⟨v71, g71, e71⟩ := hdep ⟨42, .data⟩ h71 rfl
 have e71 := e71 71 rfl
 have g71 := g71 _ rfl
 obtain ⟨v72, g72, e72⟩ := hdep ⟨43, .data⟩ h72 rfl
 have e72 := e72 72 rfl
 have g72 := g72 _ rfl
 obtain ⟨v73, g73, e73⟩ := hdep ⟨44, .data⟩ h73 rfl
 have e73 := e73 73 rfl
 have g73 := g73 _ rfl
 obtain ⟨v76, g76, e76⟩ := hdep ⟨47, .data⟩ h76 rfl
 have e76 := e76 76 rfl
 have g76 := g76 _ rfl
 obtain ⟨ad68, cp68, rfl, _⟩ := y3_ g68
 obtain ⟨ad69, cp69, rfl, _⟩ := y3_ g69
 obtain ⟨ad70, cp70, rfl, _⟩ := y3_ g70
 obtain ⟨ad71, cp71, rfl, _⟩ := y3_ g71
 obtain ⟨ad72, cp72, rfl, _⟩ := y3_ g72
 obtain ⟨ad73, cp73, rfl, _⟩ := y3_ g73
 obtain ⟨ad76, cp76, rfl, _⟩ := y3_ g76
 clear hout hdep
 go_simp
 refine hK _ _ (j3_ rfl ⟨w.heap.size, rfl, z0_ (z3_ w _), ?_⟩) (z6_ (z1_ _ _) _)
 exact (k7_ (z7_ (z6_ (z1_ _ _) _) _ _ g68) (z2_ (z3_ w _) 0) (z2_ (z3_ w _) 1) (z2_ (z3_ w _) 2) (z2_ (z3_ w _) 3) (k7_ (z7_ (z6_ (z1_ _ _) _) _ _ g69) (z2_ (z3_ w _) 4) (z2_ (z3_ w _) 5) (z2_ (z3_ w _) 6) (z2_ (z3_ w _) 7) (k7_ (z7_ (z6_ (z1_ _ _) _) _ _ g70) (z2_ (z3_ w _) 8) (z2_ (z3_ w _) 9) (z2_ (z3_ w _) 10) (z2_ (z3_ w _) 11) (k7_ (z7_ (z6_ (z1_ _ _) _) _ _ g71) (z2_ (z3_ w _) 12) (z2_ (z3_ w _) 13) (z2_ (z3_ w _) 14) (z2_ (z3_ w _) 15) (k7_ (z7_ (z6_ (z1_ _ _) _) _ _ g72) (z2_ (z3_ w _) 16) (z2_ (z3_ w _) 17) (z2_ (z3_ w _) 18) (z2_ (z3_ w _) 19) (k7_ (z7_ (z6_ (z1_ _ _) _) _ _ g73) (z2_ (z3_ w _) 20) (z2_ (z3_ w _) 21) (z2_ (z3_ w _) 22) (z2_ (z3_ w _) 23) (k7_ (z7_ (z6_ (z1_ _ _) _) _ _ g76) (z2_ (z3_ w _) 24) (z2_ (z3_ w _) 25) (z2_ (z3_ w _) 26) (z2_ (z3_ w _) 27) zbM_)))))))
theorem zlY_ (h79 : (⟨50, .data⟩ : Edge) ∈ af.toList) (h80 : (⟨51, .data⟩ : Edge) ∈ af.toList) (h81 : (⟨52, .data⟩ : Edge) ∈ af.toList) (h82 : (⟨53, .data⟩ : Edge) ∈ af.toList) (h83 : (⟨54, .data⟩ : Edge) ∈ af.toList) (h84 : (⟨55, .data⟩ : Edge) ∈ af.toList) (h85 : (⟨56, .data⟩ : Edge) ∈ af.toList) : k6_ Tryz.prog ops Q a0 w0 kDS (k9_ (kGS N cN)) 57 { dst := some 86, op := .buildSlice 23 7 #[(0, .tmp 79), (1, .tmp 80), (2, .tmp 81), (3, .tmp 82), (4, .tmp 83), (5, .tmp 84), (6, .tmp 85)], type := ty, pos := pos, after := af, guard := none } := by
 intro a w hgl hout hdep K hK
 rw [if_pos (by simp [Region.wanted])]
 obtain ⟨v79, g79, e79⟩ := hdep ⟨50, .data⟩ h79 rfl
 have e79 := e79 79 rfl
 have g79 := g79 _ rfl
 obtain ⟨v80, g80, e80⟩ := hdep ⟨51, .data⟩ h80 rfl
 have e80 := e80 80 rfl
 have g80 := g80 _ rfl
 obtain ⟨v81, g81, e81⟩ := hdep ⟨52, .data⟩ h81 rfl
 have e81 := e81 81 rfl
 have g81 := g81 _ rfl
 obtain ⟨v82, g82, e82⟩ := hdep ⟨53, .data⟩ h82 rfl
 have e82 := e82 82 rfl
 have g82 := g82 _ rfl
 obtain ⟨v83, g83, e83⟩ := hdep ⟨54, .data⟩ h83 rfl
 have e83 := e83 83 rfl
 have g83 := g83 _ rfl
 obtain ⟨v84, g84, e84⟩ := hdep ⟨55, .data⟩ h84 rfl
 have e84 := e84 84 rfl
 have g84 := g84 _ rfl
 obtain ⟨v85, g85, e85⟩ := hdep ⟨56, .data⟩ h85 rfl
 have e85 := e85 85 rfl
 have g85 := g85 _ rfl
 obtain ⟨ad79, cp79, rfl, _⟩ := y3_ g79
 obtain ⟨ad80, cp80, rfl, _⟩ := y3_ g80
 obtain ⟨ad81, cp81, rfl, _⟩ := y3_ g81
 obtain ⟨ad82, cp82, rfl, _⟩ := y3_ g82
 obtain ⟨ad83, cp83, rfl, _⟩ := y3_ g83
 obtain ⟨ad84, cp84, rfl, _⟩ := y3_ g84
 obtain ⟨ad85, cp85, rfl, _⟩ := y3_ g85
 clear hout hdep
 go_simp
 refine hK _ _ (j3_ rfl ⟨w.heap.size, rfl, z0_ (z3_ w _), ?_⟩) (z6_ (z1_ _ _) _)
 exact (k7_ (z7_ (z6_ (z1_ _ _) _) _ _ g79) (z2_ (z3_ w _) 0) (z2_ (z3_ w _) 1) (z2_ (z3_ w _) 2) (z2_ (z3_ w _) 3) (k7_ (z7_ (z6_ (z1_ _ _) _) _ _ g80) (z2_ (z3_ w _) 4) (z2_ (z3_ w _) 5) (z2_ (z3_ w _) 6) (z2_ (z3_ w _) 7) (k7_ (z7_ (z6_ (z1_ _ _) _) _ _ g81) (z2_ (z3_ w _) 8) (z2_ (z3_ w _) 9) (z2_ (z3_ w _) 10) (z2_ (z3_ w _) 11) (k7_ (z7_ (z6_ (z1_ _ _) _) _ _ g82) (z2_ (z3_ w _) 12) (z2_ (z3_ w _) 13) (z2_ (z3_ w _) 14) (z2_ (z3_ w _) 15) (k7_ (z7_ (z6_ (z1_ _ _) _) _ _ g83) (z2_ (z3_ w _) 16) (z2_ (z3_ w _) 17) (z2_ (z3_ w _) 18) (z2_ (z3_ w _) 19) (k7_ (z7_ (z6_ (z1_ _ _) _) _ _ g84) (z2_ (z3_ w _) 20) (z2_ (z3_ w _) 21) (z2_ (z3_ w _) 22) (z2_ (z3_ w _) 23) (k7_ (z7_ (z6_ (z1_ _ _) _) _ _ g85) (z2_ (z3_ w _) 24) (z2_ (z3_ w _) 25) (z2_ (z3_ w _) 26) (z2_ (z3_ w _) 27) zbM_)))))))
theorem zlZ_ : k6_ Tryz.prog ops Q a0 w0 kDS (k9_ (kGS N cN)) 60 { dst := some 89, op := .build 25 #[], type := ty, pos := pos, after := af, guard := none } := by
 intro a w hgl hout hdep K hK
 rw [if_pos (by simp [Region.wanted])]
 clear hout hdep
 go_simp
 exact hK _ _ (j3_ rfl (zcT_ 0 [] 0 om_ om_ si_ _ _)) (z1_ _ _)
theorem zl0_ (h88 : (⟨59, .data⟩ : Edge) ∈ af.toList) (h89 : (⟨60, .data⟩ : Edge) ∈ af.toList) : k6_ Tryz.prog ops Q a0 w0 kDS (k9_ (kGS N cN)) 61 { dst := some 90, op := .buildSlice 23 2 #[(0, .tmp 88), (1, .tmp 89)], type := ty, pos := pos, after := af, guard := none } := by
 intro a w hgl hout hdep K hK
 rw [if_pos (by simp [Region.wanted])]
 obtain ⟨v88, g88, e88⟩ := hdep ⟨59, .data⟩ h88 rfl
 have e88 := e88 88 rfl
 have g88 := g88 _ rfl
 obtain ⟨v89, g89, e89⟩ := hdep ⟨60, .data⟩ h89 rfl
 have e89 := e89 89 rfl
 have g89 := g89 _ rfl
 obtain ⟨ad88, cp88, rfl, _⟩ := y3_ g88
 obtain ⟨ad89, cp89, rfl, _⟩ := y3_ g89
 clear hout hdep
 go_simp
 refine hK _ _ (j3_ rfl ⟨w.heap.size, rfl, z0_ (z3_ w _), ?_⟩) (z6_ (z1_ _ _) _)
 exact (k7_ (z7_ (z6_ (z1_ _ _) _) _ _ g88) (z2_ (z3_ w _) 0) (z2_ (z3_ w _) 1) (z2_ (z3_ w _) 2) (z2_ (z3_ w _) 3) (k7_ (z7_ (z6_ (z1_ _ _) _) _ _ g89) (z2_ (z3_ w _) 4) (z2_ (z3_ w _) 5) (z2_ (z3_ w _) 6) (z2_ (z3_ w _) 7) zbM_))
theorem zl1_ : k6_ Tryz.prog ops Q a0 w0 kDS (k9_ (kGS N cN)) 63 { dst := some 92, op := .build 25 #[(0, .const (.int .u8 3)), (2, .const (.int .i64 1)), (1, .const (.string (bs [110, 49, 59])))], type := ty, pos := pos, after := af, guard := none } := by
 intro a w hgl hout hdep K hK
 rw [if_pos (by simp [Region.wanted])]
 clear hout hdep
 go_simp
 exact hK _ _ (j3_ rfl (zcT_ 3 [110, 49, 59] 1 om_ om_ si_ _ _)) (z1_ _ _)
theorem zl2_ : k6_ Tryz.prog ops Q a0 w0 kDS (k9_ (kGS N cN)) 64 { dst := some 93, op := .build 25 #[(0, .const (.int .u8 1)), (2, .const (.int .i64 1)), (1, .const (.string (bs [80, 110, 49, 59])))], type := ty, pos := pos, after := af, guard := none } := by
 intro a w hgl hout hdep K hK
 rw [if_pos (by simp [Region.wanted])]
 clear hout hdep
 go_simp
 exact hK _ _ (j3_ rfl (zcT_ 1 [80, 110, 49, 59] 1 om_ om_ si_ _ _)) (z1_ _ _)
theorem zl3_ (h94 : (⟨65, .data⟩ : Edge) ∈ af.toList) : k6_ Tryz.prog ops Q a0 w0 kDS (k9_ (kGS N cN)) 66 { dst := some 95, op := .buildSlice 23 1 #[(0, .tmp 94)], type := ty, pos := pos, after := af, guard := none } := by
 intro a w hgl hout hdep K hK
 rw [if_pos (by simp [Region.wanted])]
 obtain ⟨v94, g94, e94⟩ := hdep ⟨65, .data⟩ h94 rfl
 have e94 := e94 94 rfl
 have g94 := g94 _ rfl
 obtain ⟨ad94, cp94, rfl, _⟩ := y3_ (show y2_ _ _ (.mk 3 [] 7 []) _ from g94)
 clear hout hdep
 go_simp
 refine hK _ _ (j3_ rfl ⟨w.heap.size, rfl, z0_ (z3_ w _), ?_⟩) (z6_ (z1_ _ _) _)
 exact (k7_ (z7_ (z6_ (z1_ _ _) _) _ _ g94) (z2_ (z3_ w _) 0) (z2_ (z3_ w _) 1) (z2_ (z3_ w _) 2) (z2_ (z3_ w _) 3) zbM_)
theorem zl4_ (h95 : (⟨66, .data⟩ : Edge) ∈ af.toList) : k6_ Tryz.prog ops Q a0 w0 kDS (k9_ (kGS N cN)) 67 { dst := some 96, op := .build 25 #[(0, .const (.int .u8 2)), (1, .const (.string (bs [72, 110, 49, 59]))), (3, .tmp 95)], type := ty, pos := pos, after := af, guard := none } := by
 intro a w hgl hout hdep K hK
 rw [if_pos (by simp [Region.wanted])]
 obtain ⟨v95, g95, e95⟩ := hdep ⟨66, .data⟩ h95 rfl
 have e95 := e95 95 rfl
 have g95 := g95 _ rfl
 obtain ⟨N95, rfl, hN95, hr95⟩ := g95
 clear hout hdep
 go_simp
 exact hK _ _ (j3_ rfl (zek_ 2 [72, 110, 49, 59] 0 om_ om_ si_ si_ hN95 hr95)) (z1_ _ _)
theorem zl5_ (h97 : (⟨68, .data⟩ : Edge) ∈ af.toList) : k6_ Tryz.prog ops Q a0 w0 kDS (k9_ (kGS N cN)) 69 { dst := some 98, op := .buildSlice 23 1 #[(0, .tmp 97)], type := ty, pos := pos, after := af, guard := none } := by
 intro a w hgl hout hdep K hK
 rw [if_pos (by simp [Region.wanted])]
 obtain ⟨v97, g97, e97⟩ := hdep ⟨68, .data⟩ h97 rfl
 have e97 := e97 97 rfl
 have g97 := g97 _ rfl
 obtain ⟨ad97, cp97, rfl, _⟩ := y3_ (show y2_ _ _ (.mk 3 [] 7 []) _ from g97)
 clear hout hdep
 go_simp
 refine hK _ _ (j3_ rfl ⟨w.heap.size, rfl, z0_ (z3_ w _), ?_⟩) (z6_ (z1_ _ _) _)
 exact (k7_ (z7_ (z6_ (z1_ _ _) _) _ _ g97) (z2_ (z3_ w _) 0) (z2_ (z3_ w _) 1) (z2_ (z3_ w _) 2) (z2_ (z3_ w _) 3) zbM_)
theorem zl6_ (h98 : (⟨69, .data⟩ : Edge) ∈ af.toList) : k6_ Tryz.prog ops Q a0 w0 kDS (k9_ (kGS N cN)) 70 { dst := some 99, op := .build 25 #[(0, .const (.int .u8 5)), (2, .const (.int .i64 1)), (3, .tmp 98)], type := ty, pos := pos, after := af, guard := none } := by
 intro a w hgl hout hdep K hK
 rw [if_pos (by simp [Region.wanted])]
 obtain ⟨v98, g98, e98⟩ := hdep ⟨69, .data⟩ h98 rfl
 have e98 := e98 98 rfl
 have g98 := g98 _ rfl
 obtain ⟨N98, rfl, hN98, hr98⟩ := g98
 clear hout hdep
 go_simp
 exact hK _ _ (j3_ rfl (zek_ 5 [] 1 om_ om_ si_ si_ hN98 hr98)) (z1_ _ _)
theorem zl7_ (h100 : (⟨71, .data⟩ : Edge) ∈ af.toList) : k6_ Tryz.prog ops Q a0 w0 kDS (k9_ (kGS N cN)) 72 { dst := some 101, op := .buildSlice 23 1 #[(0, .tmp 100)], type := ty, pos := pos, after := af, guard := none } := by
 intro a w hgl hout hdep K hK
 rw [if_pos (by simp [Region.wanted])]
 obtain ⟨v100, g100, e100⟩ := hdep ⟨71, .data⟩ h100 rfl
 have e100 := e100 100 rfl
 have g100 := g100 _ rfl
 obtain ⟨ad100, cp100, rfl, _⟩ := y3_ (show y2_ _ _ (.mk 3 [] 7 []) _ from g100)
 clear hout hdep
 go_simp
 refine hK _ _ (j3_ rfl ⟨w.heap.size, rfl, z0_ (z3_ w _), ?_⟩) (z6_ (z1_ _ _) _)
 exact (k7_ (z7_ (z6_ (z1_ _ _) _) _ _ g100) (z2_ (z3_ w _) 0) (z2_ (z3_ w _) 1) (z2_ (z3_ w _) 2) (z2_ (z3_ w _) 3) zbM_)
theorem zl8_ (h101 : (⟨72, .data⟩ : Edge) ∈ af.toList) : k6_ Tryz.prog ops Q a0 w0 kDS (k9_ (kGS N cN)) 73 { dst := some 102, op := .build 25 #[(0, .const (.int .u8 6)), (1, .const (.string (bs [110, 49, 59]))), (3, .tmp 101)], type := ty, pos := pos, after := af, guard := none } := by
 intro a w hgl hout hdep K hK
 rw [if_pos (by simp [Region.wanted])]
 obtain ⟨v101, g101, e101⟩ := hdep ⟨72, .data⟩ h101 rfl
 have e101 := e101 101 rfl
 have g101 := g101 _ rfl
 obtain ⟨N101, rfl, hN101, hr101⟩ := g101
 clear hout hdep
 go_simp
 exact hK _ _ (j3_ rfl (zek_ 6 [110, 49, 59] 0 om_ om_ si_ si_ hN101 hr101)) (z1_ _ _)
theorem zl9_ (h103 : (⟨74, .data⟩ : Edge) ∈ af.toList) : k6_ Tryz.prog ops Q a0 w0 kDS (k9_ (kGS N cN)) 75 { dst := some 104, op := .buildSlice 23 1 #[(0, .tmp 103)], type := ty, pos := pos, after := af, guard := none } := by
 intro a w hgl hout hdep K hK
 rw [if_pos (by simp [Region.wanted])]
 obtain ⟨v103, g103, e103⟩ := hdep ⟨74, .data⟩ h103 rfl
 have e103 := e103 103 rfl
 have g103 := g103 _ rfl
 obtain ⟨ad103, cp103, rfl, _⟩ := y3_ (show y2_ _ _ (.mk 3 [] 7 []) _ from g103)
 clear hout hdep
 go_simp
 refine hK _ _ (j3_ rfl ⟨w.heap.size, rfl, z0_ (z3_ w _), ?_⟩) (z6_ (z1_ _ _) _)
 exact (k7_ (z7_ (z6_ (z1_ _ _) _) _ _ g103) (z2_ (z3_ w _) 0) (z2_ (z3_ w _) 1) (z2_ (z3_ w _) 2) (z2_ (z3_ w _) 3) zbM_)
theorem zma_ (h104 : (⟨75, .data⟩ : Edge) ∈ af.toList) : k6_ Tryz.prog ops Q a0 w0 kDS (k9_ (kGS N cN)) 76 { dst := some 105, op := .build 25 #[(0, .const (.int .u8 4)), (3, .tmp 104)], type := ty, pos := pos, after := af, guard := none } := by
 intro a w hgl hout hdep K hK
 rw [if_pos (by simp [Region.wanted])]
 obtain ⟨v104, g104, e104⟩ := hdep ⟨75, .data⟩ h104 rfl
 have e104 := e104 104 rfl
 have g104 := g104 _ rfl
 obtain ⟨N104, rfl, hN104, hr104⟩ := g104
 clear hout hdep
 go_simp
 exact hK _ _ (j3_ rfl (zek_ 4 [] 0 om_ om_ si_ si_ hN104 hr104)) (z1_ _ _)
theorem zmb_ (h110 : (⟨81, .data⟩ : Edge) ∈ af.toList) (h111 : (⟨82, .data⟩ : Edge) ∈ af.toList) : k6_ Tryz.prog ops Q a0 w0 kDS (k9_ (kGS N cN)) 83 { dst := some 112, op := .buildSlice 23 2 #[(0, .tmp 110), (1, .tmp 111)], type := ty, pos := pos, after := af, guard := none } := by
 intro a w hgl hout hdep K hK
 rw [if_pos (by simp [Region.wanted])]
 obtain ⟨v110, g110, e110⟩ := hdep ⟨81, .data⟩ h110 rfl
 have e110 := e110 110 rfl
 have g110 := g110 _ rfl
 obtain ⟨v111, g111, e111⟩ := hdep ⟨82, .data⟩ h111 rfl
 have e111 := e111 111 rfl
 have g111 := g111 _ rfl
 obtain ⟨ad110, cp110, rfl, _⟩ := y3_ g110
 obtain ⟨ad111, cp111, rfl, _⟩ := y3_ g111
 clear hout hdep
 go_simp
 refine hK _ _ (j3_ rfl ⟨w.heap.size, rfl, z0_ (z3_ w _), ?_⟩) (z6_ (z1_ _ _) _)
 exact (k7_ (z7_ (z6_ (z1_ _ _) _) _ _ g110) (z2_ (z3_ w _) 0) (z2_ (z3_ w _) 1) (z2_ (z3_ w _) 2) (z2_ (z3_ w _) 3) (k7_ (z7_ (z6_ (z1_ _ _) _) _ _ g111) (z2_ (z3_ w _) 4) (z2_ (z3_ w _) 5) (z2_ (z3_ w _) 6) (z2_ (z3_ w _) 7) zbM_))
theorem zmc_ (h109 : (⟨80, .data⟩ : Edge) ∈ af.toList) (h113 : (⟨84, .data⟩ : Edge) ∈ af.toList) : k6_ Tryz.prog ops Q a0 w0 kDS (k9_ (kGS N cN)) 85 { dst := some 114, op := .buildSlice 23 2 #[(0, .tmp 109), (1, .tmp 113)], type := ty, pos := pos, after := af, guard := none } := by
 intro a w hgl hout hdep K hK
 rw [if_pos (by simp [Region.wanted])]
 obtain ⟨v109, g109, e109⟩ := hdep ⟨80, .data⟩ h109 rfl
 have e109 := e109 109 rfl
 have g109 := g109 _ rfl
 obtain ⟨v113, g113, e113⟩ := hdep ⟨84, .data⟩ h113 rfl
 have e113 := e113 113 rfl
 have g113 := g113 _ rfl
 obtain ⟨ad109, cp109, rfl, _⟩ := y3_ g109
 obtain ⟨ad113, cp113, rfl, _⟩ := y3_ g113
 clear hout hdep
 go_simp
 refine hK _ _ (j3_ rfl ⟨w.heap.size, rfl, z0_ (z3_ w _), ?_⟩) (z6_ (z1_ _ _) _)
 exact (k7_ (z7_ (z6_ (z1_ _ _) _) _ _ g109) (z2_ (z3_ w _) 0) (z2_ (z3_ w _) 1) (z2_ (z3_ w _) 2) (z2_ (z3_ w _) 3) (k7_ (z7_ (z6_ (z1_ _ _) _) _ _ g113) (z2_ (z3_ w _) 4) (z2_ (z3_ w _) 5) (z2_ (z3_ w _) 6) (z2_ (z3_ w _) 7) zbM_))
theorem zmd_ (h29 : (⟨0, .data⟩ : Edge) ∈ af.toList) (h30 : (⟨1, .data⟩ : Edge) ∈ af.toList) (h31 : (⟨2, .data⟩ : Edge) ∈ af.toList) (h32 : (⟨3, .data⟩ : Edge) ∈ af.toList) (h33 : (⟨4, .data⟩ : Edge) ∈ af.toList) (h34 : (⟨5, .data⟩ : Edge) ∈ af.toList) (h35 : (⟨6, .data⟩ : Edge) ∈ af.toList) (h36 : (⟨7, .data⟩ : Edge) ∈ af.toList) (h37 : (⟨8, .data⟩ : Edge) ∈ af.toList) (h38 : (⟨9, .data⟩ : Edge) ∈ af.toList) (h39 : (⟨10, .data⟩ : Edge) ∈ af.toList) (h40 : (⟨11, .data⟩ : Edge) ∈ af.toList) (h41 : (⟨12, .data⟩ : Edge) ∈ af.toList) (h42 : (⟨13, .data⟩ : Edge) ∈ af.toList) (h43 : (⟨14, .data⟩ : Edge) ∈ af.toList) (h44 : (⟨15, .data⟩ : Edge) ∈ af.toList) (h45 : (⟨16, .data⟩ : Edge) ∈ af.toList) (h46 : (⟨17, .data⟩ : Edge) ∈ af.toList) (h47 : (⟨18, .data⟩ : Edge) ∈ af.toList) (h50 : (⟨21, .data⟩ : Edge) ∈ af.toList) (h54 : (⟨25, .data⟩ : Edge) ∈ af.toList) (h55 : (⟨26, .data⟩ : Edge) ∈ af.toList) (h57 : (⟨28, .data⟩ : Edge) ∈ af.toList) (h67 : (⟨38, .data⟩ : Edge) ∈ af.toList) (h78 : (⟨49, .data⟩ : Edge) ∈ af.toList) (h87 : (⟨58, .data⟩ : Edge) ∈ af.toList) (h91 : (⟨62, .data⟩ : Edge) ∈ af.toList) (h92 : (⟨63, .data⟩ : Edge) ∈ af.toList) (h93 : (⟨64, .data⟩ : Edge) ∈ af.toList) (h96 : (⟨67, .data⟩ : Edge) ∈ af.toList) (h99 : (⟨70, .data⟩ : Edge) ∈ af.toList) (h102 : (⟨73, .data⟩ : Edge) ∈ af.toList) (h105 : (⟨76, .data⟩ : Edge) ∈ af.toList) (h106 : (⟨77, .data⟩ : Edge) ∈ af.toList) (h107 : (⟨78, .data⟩ : Edge) ∈ af.toList) (h108 : (⟨79, .data⟩ : Edge) ∈ af.toList) (h115 : (⟨86, .data⟩ : Edge) ∈ af.toList) : k6_ Tryz.prog ops Q a0 w0 kDS (k9_ (kGS N cN)) 87 { dst := some 116, op := .buildSlice 23 37 #[(0, .tmp 29), (1, .tmp 30), (2, .tmp 31), (3, .tmp 32), (4, .tmp 33), (5, .tmp 34), (6, .tmp 35), (7, .tmp 36), (8, .tmp 37), (9, .tmp 38), (10, .tmp 39), (11, .tmp 40), (12, .tmp 41), (13, .tmp 42), (14, .tmp 43), (15, .tmp 44), (16, .tmp 45), (17, .tmp 46), (18, .tmp 47), (19, .tmp 50), (20, .tmp 54), (21, .tmp 55), (22, .tmp 57), (23, .tmp 67), (24, .tmp 78), (25, .tmp 87), (26, .tmp 91), (27, .tmp 92), (28, .tmp 93), (29, .tmp 96), (30, .tmp 99), (31, .tmp 102), (32, .tmp 105), (33, .tmp 106), (34, .tmp 107), (35, .tmp 108), (36, .tmp 115)], type := ty, pos := pos, after := af, guard := none } := by
 intro a w hgl hout hdep K hK
 rw [if_pos (by simp [Region.wanted])]
 obtain ⟨v29, g29, e29⟩ := hdep ⟨0, .data⟩ h29 rfl
 have e29 := e29 29 rfl
 have g29 := g29 _ rfl
 obtain ⟨v30, g30, e30⟩ := hdep ⟨1, .data⟩ h30 rfl
 have e30 := e30 30 rfl
 have g30 := g30 _ rfl
 obtain ⟨v31, g31, e31⟩ := hdep ⟨2, .data⟩ h31 rfl
 have e31 := e31 31 rfl
 have g31 := g31 _ rfl
 obtain ⟨v32, g32, e32⟩ := hdep ⟨3, .data⟩ h32 rfl
 have e32 := e32 32 rfl
 have g32 := g32 _ rfl
 obtain ⟨v33, g33, e33⟩ := hdep ⟨4, .data⟩ h33 rfl
 have e33 := e33 33 rfl
 have g33 := g33 _ rfl
 obtain ⟨v34, g34, e34⟩ := hdep ⟨5, .data⟩ h34 rfl
 have e34 := e34 34 rfl
 have g34 := g34 _ rfl
 obtain ⟨v35, g35, e35⟩ := hdep ⟨6, .data⟩ h35 rfl
 have e35 := e35 35 rfl
 have g35 := g35 _ rfl
 obtain ⟨v36, g36, e36⟩ := hdep ⟨7, .data⟩ h36 rfl
 have e36 := e36 36 rfl
 have g36 := g36 _ rfl
 obtain ⟨v37, g37, e37⟩ := hdep ⟨8, .data⟩ h37 rfl
 have e37 := e37 37 rfl
 have g37 := g37 _ rfl
 obtain ⟨v38, g38, e38⟩ := hdep ⟨9, .data⟩ h38 rfl
 have e38 := e38 38 rfl
 have g38 := g38 _ rfl
 obtain ⟨v39, g39, e39⟩ := hdep ⟨10, .data⟩ h39 rfl
 have e39 := e39 39 rfl
 have g39 := g39 _ rfl
 obtain ⟨v40, g40, e40⟩ := hdep ⟨11, .data⟩ h40 rfl
 have e40 := e40 40 rfl
 have g40 := g40 _ rfl
 obtain ⟨v41, g41, e41⟩ := hdep ⟨12, .data⟩ h41 rfl
 have e41 := e41 41 rfl
 have g41 := g41 _ rfl
 obtain ⟨v42, g42, e42⟩ := hdep ⟨13, .data⟩ h42 rfl
 have e42 := e42 42 rfl
 have g42 := g42 _ rfl
 obtain ⟨v43, g43, e43⟩ := hdep ⟨14, .data⟩ h43 rfl
 have e43 := e43 43 rfl
 have g43 := g43 _ rfl
 obtain ⟨v44, g44, e44⟩ := hdep ⟨15, .data⟩ h44 rfl
 have e44 := e44 44 rfl
 have g44 := g44 _ rfl
 obtain ⟨v45, g45, e45⟩ := hdep ⟨16, .data⟩ h45 rfl
 have e45 := e45 45 rfl
 have g45 := g45 _ rfl
 obtain ⟨v46, g46, e46⟩ := hdep ⟨17, .data⟩ h46 rfl
 have e46 := e46 46 rfl
 have g46 := g46 _ rfl
 obtain ⟨v47, g47, e47⟩ := hdep ⟨18, .data⟩ h47 rfl
 have e47 := e47 47 rfl
 have g47 := g47 _ rfl
 obtain ⟨v50, g50, e50⟩ := hdep ⟨21, .data⟩ h50 rfl
 have e50 := e50 50 rfl
 have g50 := g50 _ rfl
 obtain ⟨v54, g54, e54⟩ := hdep ⟨25, .data⟩ h54 rfl
 have e54 := e54 54 rfl
 have g54 := g54 _ rfl
 obtain ⟨v55, g55, e55⟩ := hdep ⟨26, .data⟩ h55 rfl
 have e55 := e55 55 rfl
 have g55 := g55 _ rfl
 obtain ⟨v57, g57, e57⟩ := hdep ⟨28, .data⟩ h57 rfl
 have e57 := e57 57 rfl
 have g57 := g57 _ rfl
 obtain ⟨v67, g67, e67⟩ := hdep ⟨38, .data⟩ h67 rfl
 have e67 := e67 67 rfl
 have g67 := g67 _ rfl
 obtain ⟨v78, g78, e78⟩ := hdep ⟨49, .data⟩ h78 rfl
 have e78 := e78 78 rfl
 have g78 := g78 _ rfl
 obtain ⟨v87, g87, e87⟩ := hdep ⟨58, .data⟩ h87 rfl
 have e87 := e87 87 rfl
 have g87 := g87 _ rfl
 obtain ⟨v91, g91, e91⟩ := hdep ⟨62, .data⟩ h91 rfl
 have e91 := e91 91 rfl
 have g91 := g91 _ rfl
 obtain ⟨v92, g92, e92⟩ := hdep ⟨63, .data⟩ h92 rfl
 have e92 := e92 92 rfl
 have g92 := g92 _ rfl
 obtain ⟨v93, g93, e93⟩ := hdep ⟨64, .data⟩ h93 rfl
 have e93 := e93 93 rfl
 have g93 := g93 _ rfl
 obtain ⟨v96, g96, e96⟩ := hdep ⟨67, .data⟩ h96 rfl
 have e96 := e96 96 rfl
 have g96 := g96 _ rfl
 obtain ⟨v99, g99, e99⟩ := hdep ⟨70, .data⟩ h99 rfl
 have e99 := e99 99 rfl
 have g99 := g99 _ rfl
 obtain ⟨v102, g102, e102⟩ := hdep ⟨73, .data⟩ h102 rfl
 have e102 := e102 102 rfl
 have g102 := g102 _ rfl
 obtain ⟨v105, g105, e105⟩ := hdep ⟨76, .data⟩ h105 rfl
 have e105 := e105 105 rfl
 have g105 := g105 _ rfl
 obtain ⟨v106, g106, e106⟩ := hdep ⟨77, .data⟩ h106 rfl
 have e106 := e106 106 rfl
 have g106 := g106 _ rfl
 obtain ⟨v107, g107, e107⟩ := hdep ⟨78, .data⟩ h107 rfl
 have e107 := e107 107 rfl
 have g107 := g107 _ rfl
 obtain ⟨v108, g108, e108⟩ := hdep ⟨79, .data⟩ h108 rfl
 have e108 := e108 108 rfl
 have g108 := g108 _ rfl
 obtain ⟨v115, g115, e115⟩ := hdep ⟨86, .data⟩ h115 rfl
 have e115 := e115 115 rfl
 have g115 := g115 _ rfl
 obtain ⟨ad29, cp29, rfl, _⟩ := y3_ g29
 obtain ⟨ad30, cp30, rfl, _⟩ := y3_ g30
 obtain ⟨ad31, cp31, rfl, _⟩ := y3_ g31
 obtain ⟨ad32, cp32, rfl, _⟩ := y3_ g32
 obtain ⟨ad33, cp33, rfl, _⟩ := y3_ g33
 obtain ⟨ad34, cp34, rfl, _⟩ := y3_ g34
 obtain ⟨ad35, cp35, rfl, _⟩ := y3_ g35
 obtain ⟨ad36, cp36, rfl, _⟩ := y3_ g36
 obtain ⟨ad37, cp37, rfl, _⟩ := y3_ g37
 obtain ⟨ad38, cp38, rfl, _⟩ := y3_ g38
 obtain ⟨ad39, cp39, rfl, _⟩ := y3_ g39
 obtain ⟨ad40, cp40, rfl, _⟩ := y3_ (show y2_ _ _ (.mk 3 [] 7 []) _ from g40)
 obtain ⟨ad41, cp41, rfl, _⟩ := y3_ g41
 obtain ⟨ad42, cp42, rfl, _⟩ := y3_ g42
 obtain ⟨ad43, cp43, rfl, _⟩ := y3_ g43
 obtain ⟨ad44, cp44, rfl, _⟩ := y3_ g44
 obtain ⟨ad45, cp45, rfl, _⟩ := y3_ g45
 obtain ⟨ad46, cp46, rfl, _⟩ := y3_ g46
 obtain ⟨ad47, cp47, rfl, _⟩ := y3_ g47
 obtain ⟨ad50, cp50, rfl, _⟩ := y3_ g50
 obtain ⟨ad54, cp54, rfl, _⟩ := y3_ g54
 obtain ⟨ad55, cp55, rfl, _⟩ := y3_ g55
 obtain ⟨ad57, cp57, rfl, _⟩ := y3_ g57
 obtain ⟨ad67, cp67, rfl, _⟩ := y3_ g67
 obtain ⟨ad78, cp78, rfl, _⟩ := y3_ g78
 obtain ⟨ad87, cp87, rfl, _⟩ := y3_ g87
 obtain ⟨ad91, cp91, rfl, _⟩ := y3_ g91
 obtain ⟨ad92, cp92, rfl, _⟩ := y3_ g92
 obtain ⟨ad93, cp93, rfl, _⟩ := y3_ g93
 obtain ⟨ad96, cp96, rfl, _⟩ := y3_ g96
 obtain ⟨ad99, cp99, rfl, _⟩ := y3_ g99
 obtain ⟨ad102, cp102, rfl, _⟩ := y3_ g102
 obtain ⟨ad105, cp105, rfl, _⟩ := y3_ g105
 obtain ⟨ad106, cp106, rfl, _⟩ := y3_ (show y2_ _ _ (.mk 6 [] 0 [zaW_ (63 - 2)]) _ from g106)
 obtain ⟨ad107, cp107, rfl, _⟩ := y3_ (show y2_ _ _ (.mk 6 [] 0 [zaW_ (64 - 2)]) _ from g107)
 obtain ⟨ad108, cp108, rfl, _⟩ := y3_ (show y2_ _ _ (.mk 6 [] 0 [zaW_ (65 - 2)]) _ from g108)
 obtain ⟨ad115, cp115, rfl, _⟩ := y3_ g115
 obtain ⟨i0, hi0, hi1, hi2, hi3⟩ := info_parts Tryz.infoLock
 have hsz4 := hi2
 have ev : ((#[((0, .tmp 29) : Nat × Operand), ((1, .tmp 30) : Nat × Operand), ((2, .tmp 31) : Nat × Operand), ((3, .tmp 32) : Nat × Operand), ((4, .tmp 33) : Nat × Operand), ((5, .tmp 34) : Nat × Operand), ((6, .tmp 35) : Nat × Operand), ((7, .tmp 36) : Nat × Operand), ((8, .tmp 37) : Nat × Operand), ((9, .tmp 38) : Nat × Operand), ((10, .tmp 39) : Nat × Operand), ((11, .tmp 40) : Nat × Operand), ((12, .tmp 41) : Nat × Operand), ((13, .tmp 42) : Nat × Operand), ((14, .tmp 43) : Nat × Operand), ((15, .tmp 44) : Nat × Operand), ((16, .tmp 45) : Nat × Operand), ((17, .tmp 46) : Nat × Operand), ((18, .tmp 47) : Nat × Operand), ((19, .tmp 50) : Nat × Operand), ((20, .tmp 54) : Nat × Operand), ((21, .tmp 55) : Nat × Operand), ((22, .tmp 57) : Nat × Operand), ((23, .tmp 67) : Nat × Operand), ((24, .tmp 78) : Nat × Operand), ((25, .tmp 87) : Nat × Operand), ((26, .tmp 91) : Nat × Operand), ((27, .tmp 92) : Nat × Operand), ((28, .tmp 93) : Nat × Operand), ((29, .tmp 96) : Nat × Operand), ((30, .tmp 99) : Nat × Operand), ((31, .tmp 102) : Nat × Operand), ((32, .tmp 105) : Nat × Operand), ((33, .tmp 106) : Nat × Operand), ((34, .tmp 107) : Nat × Operand), ((35, .tmp 108) : Nat × Operand), ((36, .tmp 115) : Nat × Operand)] : Array (Nat × Operand)).map fun (i, x) => (i, a.eval x)).toList = [(0, .agg #[.int .u8 0, .string (bs []), .int .i64 (0), .slice ad29 (List.length ([] : List LT)) cp29]), (1, .agg #[.int .u8 7, .string (bs []), .int .i64 (0), .slice ad30 (List.length ([] : List LT)) cp30]), (2, .agg #[.int .u8 1, .string (bs [80, 110, 49, 59]), .int .i64 (0), .slice ad31 (List.length ([] : List LT)) cp31]), (3, .agg #[.int .u8 1, .string (bs [110, 49, 59]), .int .i64 (0), .slice ad32 (List.length ([] : List LT)) cp32]), (4, .agg #[.int .u8 1, .string (bs []), .int .i64 (0), .slice ad33 (List.length ([] : List LT)) cp33]), (5, .agg #[.int .u8 1, .string (bs [87, 80, 110, 49, 59, 80, 110, 50, 59]), .int .i64 (0), .slice ad34 (List.length ([] : List LT)) cp34]), (6, .agg #[.int .u8 1, .string (bs [76, 80, 110, 49, 59, 116, 48, 58]), .int .i64 (0), .slice ad35 (List.length ([] : List LT)) cp35]), (7, .agg #[.int .u8 1, .string (bs [72, 110, 49, 59]), .int .i64 (0), .slice ad36 (List.length ([] : List LT)) cp36]), (8, .agg #[.int .u8 2, .string (bs [72, 110, 49, 59]), .int .i64 (0), .slice ad37 (List.length ([] : List LT)) cp37]), (9, .agg #[.int .u8 2, .string (bs [80, 110, 49, 59]), .int .i64 (0), .slice ad38 (List.length ([] : List LT)) cp38]), (10, .agg #[.int .u8 2, .string (bs []), .int .i64 (0), .slice ad39 (List.length ([] : List LT)) cp39]), (11, .agg #[.int .u8 3, .string (bs []), .int .i64 7, .slice ad40 0 cp40]), (12, .agg #[.int .u8 3, .string (bs []), .int .i64 (-1), .slice ad41 (List.length ([] : List LT)) cp41]), (13, .agg #[.int .u8 3, .string (bs []), .int .i64 (1073741823), .slice ad42 (List.length ([] : List LT)) cp42]), (14, .agg #[.int .u8 3, .string (bs []), .int .i64 (1073741824), .slice ad43 (List.length ([] : List LT)) cp43]), (15, .agg #[.int .u8 4, .string (bs []), .int .i64 (0), .slice ad44 (List.length ([] : List LT)) cp44]), (16, .agg #[.int .u8 4, .string (bs []), .int .i64 (1073741824), .slice ad45 (List.length ([] : List LT)) cp45]), (17, .agg #[.int .u8 5, .string (bs []), .int .i64 (0), .slice ad46 (List.length ([] : List LT)) cp46]), (18, .agg #[.int .u8 6, .string (bs []), .int .i64 (0), .slice ad47 (List.length ([] : List LT)) cp47]), (19, .agg #[.int .u8 5, .string (bs []), .int .i64 0, .slice ad50 (List.length ([v0_] : List LT)) cp50]), (20, .agg #[.int .u8 6, .string (bs []), .int .i64 0, .slice ad54 (List.length ([v0_, (.mk 4 [] (2) [])] : List LT)) cp54]), (21, .agg #[.int .u8 5, .string (bs []), .int .i64 0, .slice ad55 (List.length ((y1_ 8) : List LT)) cp55]), (22, .agg #[.int .u8 6, .string (bs []), .int .i64 0, .slice ad57 (List.length ((y1_ 9) : List LT)) cp57]), (23, .agg #[.int .u8 5, .string (bs []), .int .i64 0, .slice ad67 (List.length ([(.mk 5 [] 0 (y1_ 8)), (.mk 5 [] 0 (y1_ 8)), (.mk 5 [] 0 (y1_ 8)), (.mk 5 [] 0 (y1_ 8)), (.mk 5 [] 0 (y1_ 8)), (.mk 5 [] 0 (y1_ 8)), (.mk 5 [] 0 (y1_ 8)), (.mk 5 [] 0 (y1_ 8))] : List LT)) cp67]), (24, .agg #[.int .u8 5, .string (bs []), .int .i64 0, .slice ad78 (List.length ([(.mk 5 [] 0 (y1_ 8)), (.mk 5 [] 0 (y1_ 8)), (.mk 5 [] 0 (y1_ 8)), (.mk 5 [] 0 (y1_ 8)), (.mk 5 [] 0 (y1_ 8)), (.mk 5 [] 0 (y1_ 8)), (.mk 5 [] 0 (y1_ 7))] : List LT)) cp78]), (25, .agg #[.int .u8 5, .string (bs []), .int .i64 0, .slice ad87 (List.length ([(.mk 5 [] 0 (y1_ 8)), (.mk 5 [] 0 (y1_ 8)), (.mk 5 [] 0 (y1_ 8)), (.mk 5 [] 0 (y1_ 8)), (.mk 5 [] 0 (y1_ 8)), (.mk 5 [] 0 (y1_ 8)), (.mk 5 [] 0 (y1_ 8))] : List LT)) cp87]), (26, .agg #[.int .u8 5, .string (bs []), .int .i64 0, .slice ad91 (List.length ([(.mk 5 [] 0 (y1_ 8)), (.mk 0 [] (0) [])] : List LT)) cp91]), (27, .agg #[.int .u8 3, .string (bs [110, 49, 59]), .int .i64 (1), .slice ad92 (List.length ([] : List LT)) cp92]), (28, .agg #[.int .u8 1, .string (bs [80, 110, 49, 59]), .int .i64 (1), .slice ad93 (List.length ([] : List LT)) cp93]), (29, .agg #[.int .u8 2, .string (bs [72, 110, 49, 59]), .int .i64 (0), .slice ad96 (List.length ([v0_] : List LT)) cp96]), (30, .agg #[.int .u8 5, .string (bs []), .int .i64 (1), .slice ad99 (List.length ([v0_] : List LT)) cp99]), (31, .agg #[.int .u8 6, .string (bs [110, 49, 59]), .int .i64 (0), .slice ad102 (List.length ([v0_] : List LT)) cp102]), (32, .agg #[.int .u8 4, .string (bs []), .int .i64 (0), .slice ad105 (List.length ([v0_] : List LT)) cp105]), (33, .agg #[.int .u8 6, .string (bs []), .int .i64 0, .slice ad106 1 cp106]), (34, .agg #[.int .u8 6, .string (bs []), .int .i64 0, .slice ad107 1 cp107]), (35, .agg #[.int .u8 6, .string (bs []), .int .i64 0, .slice ad108 1 cp108]), (36, .agg #[.int .u8 6, .string (bs []), .int .i64 0, .slice ad115 (List.length ([(.mk 1 [80, 110, 49, 59] (0) []), (.mk 5 [] 0 [(.mk 2 [72, 110, 50, 59] (0) []), (.mk 4 [] (6) [])])] : List LT)) cp115])] := by
  simp only [List.map_toArray, List.map_cons, List.map_nil, show a.eval (.tmp 29) = .agg #[.int .u8 0, .string (bs []), .int .i64 (0), .slice ad29 (List.length ([] : List LT)) cp29] from by simp [Act.eval, e29], show a.eval (.tmp 30) = .agg #[.int .u8 7, .string (bs []), .int .i64 (0), .slice ad30 (List.length ([] : List LT)) cp30] from by simp [Act.eval, e30], show a.eval (.tmp 31) = .agg #[.int .u8 1, .string (bs [80, 110, 49, 59]), .int .i64 (0), .slice ad31 (List.length ([] : List LT)) cp31] from by simp [Act.eval, e31], show a.eval (.tmp 32) = .agg #[.int .u8 1, .string (bs [110, 49, 59]), .int .i64 (0), .slice ad32 (List.length ([] : List LT)) cp32] from by simp [Act.eval, e32], show a.eval (.tmp 33) = .agg #[.int .u8 1, .string (bs []), .int .i64 (0), .slice ad33 (List.length ([] : List LT)) cp33] from by simp [Act.eval, e33], show a.eval (.tmp 34) = .agg #[.int .u8 1, .string (bs [87, 80, 110, 49, 59, 80, 110, 50, 59]), .int .i64 (0), .slice ad34 (List.length ([] : List LT)) cp34] from by simp [Act.eval, e34], show a.eval (.tmp 35) = .agg #[.int .u8 1, .string (bs [76, 80, 110, 49, 59, 116, 48, 58]), .int .i64 (0), .slice ad35 (List.length ([] : List LT)) cp35] from by simp [Act.eval, e35], show a.eval (.tmp 36) = .agg #[.int .u8 1, .string (bs [72, 110, 49, 59]), .int .i64 (0), .slice ad36 (List.length ([] : List LT)) cp36] from by simp [Act.eval, e36], show a.eval (.tmp 37) = .agg #[.int .u8 2, .string (bs [72, 110, 49, 59]), .int .i64 (0), .slice ad37 (List.length ([] : List LT)) cp37] from by simp [Act.eval, e37], show a.eval (.tmp 38) = .agg #[.int .u8 2, .string (bs [80, 110, 49, 59]), .int .i64 (0), .slice ad38 (List.length ([] : List LT)) cp38] from by simp [Act.eval, e38], show a.eval (.tmp 39) = .agg #[.int .u8 2, .string (bs []), .int .i64 (0), .slice ad39 (List.length ([] : List LT)) cp39] from by simp [Act.eval, e39], show a.eval (.tmp 40) = .agg #[.int .u8 3, .string (bs []), .int .i64 7, .slice ad40 0 cp40] from by simp [Act.eval, e40], show a.eval (.tmp 41) = .agg #[.int .u8 3, .string (bs []), .int .i64 (-1), .slice ad41 (List.length ([] : List LT)) cp41] from by simp [Act.eval, e41], show a.eval (.tmp 42) = .agg #[.int .u8 3, .string (bs []), .int .i64 (1073741823), .slice ad42 (List.length ([] : List LT)) cp42] from by simp [Act.eval, e42], show a.eval (.tmp 43) = .agg #[.int .u8 3, .string (bs []), .int .i64 (1073741824), .slice ad43 (List.length ([] : List LT)) cp43] from by simp [Act.eval, e43], show a.eval (.tmp 44) = .agg #[.int .u8 4, .string (bs []), .int .i64 (0), .slice ad44 (List.length ([] : List LT)) cp44] from by simp [Act.eval, e44], show a.eval (.tmp 45) = .agg #[.int .u8 4, .string (bs []), .int .i64 (1073741824), .slice ad45 (List.length ([] : List LT)) cp45] from by simp [Act.eval, e45], show a.eval (.tmp 46) = .agg #[.int .u8 5, .string (bs []), .int .i64 (0), .slice ad46 (List.length ([] : List LT)) cp46] from by simp [Act.eval, e46], show a.eval (.tmp 47) = .agg #[.int .u8 6, .string (bs []), .int .i64 (0), .slice ad47 (List.length ([] : List LT)) cp47] from by simp [Act.eval, e47], show a.eval (.tmp 50) = .agg #[.int .u8 5, .string (bs []), .int .i64 0, .slice ad50 (List.length ([v0_] : List LT)) cp50] from by simp [Act.eval, e50], show a.eval (.tmp 54) = .agg #[.int .u8 6, .string (bs []), .int .i64 0, .slice ad54 (List.length ([v0_, (.mk 4 [] (2) [])] : List LT)) cp54] from by simp [Act.eval, e54], show a.eval (.tmp 55) = .agg #[.int .u8 5, .string (bs []), .int .i64 0, .slice ad55 (List.length ((y1_ 8) : List LT)) cp55] from by simp [Act.eval, e55], show a.eval (.tmp 57) = .agg #[.int .u8 6, .string (bs []), .int .i64 0, .slice ad57 (List.length ((y1_ 9) : List LT)) cp57] from by simp [Act.eval, e57], show a.eval (.tmp 67) = .agg #[.int .u8 5, .string (bs []), .int .i64 0, .slice ad67 (List.length ([(.mk 5 [] 0 (y1_ 8)), (.mk 5 [] 0 (y1_ 8)), (.mk 5 [] 0 (y1_ 8)), (.mk 5 [] 0 (y1_ 8)), (.mk 5 [] 0 (y1_ 8)), (.mk 5 [] 0 (y1_ 8)), (.mk 5 [] 0 (y1_ 8)), (.mk 5 [] 0 (y1_ 8))] : List LT)) cp67] from by simp [Act.eval, e67], show a.eval (.tmp 78) = .agg #[.int .u8 5, .string (bs []), .int .i64 0, .slice ad78 (List.length ([(.mk 5 [] 0 (y1_ 8)), (.mk 5 [] 0 (y1_ 8)), (.mk 5 [] 0 (y1_ 8)), (.mk 5 [] 0 (y1_ 8)), (.mk 5 [] 0 (y1_ 8)), (.mk 5 [] 0 (y1_ 8)), (.mk 5 [] 0 (y1_ 7))] : List LT)) cp78] from by simp [Act.eval, e78], show a.eval (.tmp 87) = .agg #[.int .u8 5, .string (bs []), .int .i64 0, .slice ad87 (List.length ([(.mk 5 [] 0 (y1_ 8)), (.mk 5 [] 0 (y1_ 8)), (.mk 5 [] 0 (y1_ 8)), (.mk 5 [] 0 (y1_ 8)), (.mk 5 [] 0 (y1_ 8)), (.mk 5 [] 0 (y1_ 8)), (.mk 5 [] 0 (y1_ 8))] : List LT)) cp87] from by simp [Act.eval, e87], show a.eval (.tmp 91) = .agg #[.int .u8 5, .string (bs []), .int .i64 0, .slice ad91 (List.length ([(.mk 5 [] 0 (y1_ 8)), (.mk 0 [] (0) [])] : List LT)) cp91] from by simp [Act.eval, e91], show a.eval (.tmp 92) = .agg #[.int .u8 3, .string (bs [110, 49, 59]), .int .i64 (1), .slice ad92 (List.length ([] : List LT)) cp92] from by simp [Act.eval, e92], show a.eval (.tmp 93) = .agg #[.int .u8 1, .string (bs [80, 110, 49, 59]), .int .i64 (1), .slice ad93 (List.length ([] : List LT)) cp93] from by simp [Act.eval, e93], show a.eval (.tmp 96) = .agg #[.int .u8 2, .string (bs [72, 110, 49, 59]), .int .i64 (0), .slice ad96 (List.length ([v0_] : List LT)) cp96] from by simp [Act.eval, e96], show a.eval (.tmp 99) = .agg #[.int .u8 5, .string (bs []), .int .i64 (1), .slice ad99 (List.length ([v0_] : List LT)) cp99] from by simp [Act.eval, e99], show a.eval (.tmp 102) = .agg #[.int .u8 6, .string (bs [110, 49, 59]), .int .i64 (0), .slice ad102 (List.length ([v0_] : List LT)) cp102] from by simp [Act.eval, e102], show a.eval (.tmp 105) = .agg #[.int .u8 4, .string (bs []), .int .i64 (0), .slice ad105 (List.length ([v0_] : List LT)) cp105] from by simp [Act.eval, e105], show a.eval (.tmp 106) = .agg #[.int .u8 6, .string (bs []), .int .i64 0, .slice ad106 1 cp106] from by simp [Act.eval, e106], show a.eval (.tmp 107) = .agg #[.int .u8 6, .string (bs []), .int .i64 0, .slice ad107 1 cp107] from by simp [Act.eval, e107], show a.eval (.tmp 108) = .agg #[.int .u8 6, .string (bs []), .int .i64 0, .slice ad108 1 cp108] from by simp [Act.eval, e108], show a.eval (.tmp 115) = .agg #[.int .u8 6, .string (bs []), .int .i64 0, .slice ad115 (List.length ([(.mk 1 [80, 110, 49, 59] (0) []), (.mk 5 [] 0 [(.mk 2 [72, 110, 50, 59] (0) []), (.mk 4 [] (6) [])])] : List LT)) cp115] from by simp [Act.eval, e115]]
 refine wp_buildSlice 23 25 37 _ rfl (#[.int .u8 0, .string (bs []), .int .i64 (0), .slice ad29 (List.length ([] : List LT)) cp29, .int .u8 7, .string (bs []), .int .i64 (0), .slice ad30 (List.length ([] : List LT)) cp30, .int .u8 1, .string (bs [80, 110, 49, 59]), .int .i64 (0), .slice ad31 (List.length ([] : List LT)) cp31, .int .u8 1, .string (bs [110, 49, 59]), .int .i64 (0), .slice ad32 (List.length ([] : List LT)) cp32, .int .u8 1, .string (bs []), .int .i64 (0), .slice ad33 (List.length ([] : List LT)) cp33, .int .u8 1, .string (bs [87, 80, 110, 49, 59, 80, 110, 50, 59]), .int .i64 (0), .slice ad34 (List.length ([] : List LT)) cp34, .int .u8 1, .string (bs [76, 80, 110, 49, 59, 116, 48, 58]), .int .i64 (0), .slice ad35 (List.length ([] : List LT)) cp35, .int .u8 1, .string (bs [72, 110, 49, 59]), .int .i64 (0), .slice ad36 (List.length ([] : List LT)) cp36, .int .u8 2, .string (bs [72, 110, 49, 59]), .int .i64 (0), .slice ad37 (List.length ([] : List LT)) cp37, .int .u8 2, .string (bs [80, 110, 49, 59]), .int .i64 (0), .slice ad38 (List.length ([] : List LT)) cp38, .int .u8 2, .string (bs []), .int .i64 (0), .slice ad39 (List.length ([] : List LT)) cp39, .int .u8 3, .string (bs []), .int .i64 7, .slice ad40 0 cp40, .int .u8 3, .string (bs []), .int .i64 (-1), .slice ad41 (List.length ([] : List LT)) cp41, .int .u8 3, .string (bs []), .int .i64 (1073741823), .slice ad42 (List.length ([] : List LT)) cp42, .int .u8 3, .string (bs []), .int .i64 (1073741824), .slice ad43 (List.length ([] : List LT)) cp43, .int .u8 4, .string (bs []), .int .i64 (0), .slice ad44 (List.length ([] : List LT)) cp44, .int .u8 4, .string (bs []), .int .i64 (1073741824), .slice ad45 (List.length ([] : List LT)) cp45, .int .u8 5, .string (bs []), .int .i64 (0), .slice ad46 (List.length ([] : List LT)) cp46, .int .u8 6, .string (bs []), .int .i64 (0), .slice ad47 (List.length ([] : List LT)) cp47, .int .u8 5, .string (bs []), .int .i64 0, .slice ad50 (List.length ([v0_] : List LT)) cp50, .int .u8 6, .string (bs []), .int .i64 0, .slice ad54 (List.length ([v0_, (.mk 4 [] (2) [])] : List LT)) cp54, .int .u8 5, .string (bs []), .int .i64 0, .slice ad55 (List.length ((y1_ 8) : List LT)) cp55, .int .u8 6, .string (bs []), .int .i64 0, .slice ad57 (List.length ((y1_ 9) : List LT)) cp57, .int .u8 5, .string (bs []), .int .i64 0, .slice ad67 (List.length ([(.mk 5 [] 0 (y1_ 8)), (.mk 5 [] 0 (y1_ 8)), (.mk 5 [] 0 (y1_ 8)), (.mk 5 [] 0 (y1_ 8)), (.mk 5 [] 0 (y1_ 8)), (.mk 5 [] 0 (y1_ 8)), (.mk 5 [] 0 (y1_ 8)), (.mk 5 [] 0 (y1_ 8))] : List LT)) cp67, .int .u8 5, .string (bs []), .int .i64 0, .slice ad78 (List.length ([(.mk 5 [] 0 (y1_ 8)), (.mk 5 [] 0 (y1_ 8)), (.mk 5 [] 0 (y1_ 8)), (.mk 5 [] 0 (y1_ 8)), (.mk 5 [] 0 (y1_ 8)), (.mk 5 [] 0 (y1_ 8)), (.mk 5 [] 0 (y1_ 7))] : List LT)) cp78, .int .u8 5, .string (bs []), .int .i64 0, .slice ad87 (List.length ([(.mk 5 [] 0 (y1_ 8)), (.mk 5 [] 0 (y1_ 8)), (.mk 5 [] 0 (y1_ 8)), (.mk 5 [] 0 (y1_ 8)), (.mk 5 [] 0 (y1_ 8)), (.mk 5 [] 0 (y1_ 8)), (.mk 5 [] 0 (y1_ 8))] : List LT)) cp87, .int .u8 5, .string (bs []), .int .i64 0, .slice ad91 (List.length ([(.mk 5 [] 0 (y1_ 8)), (.mk 0 [] (0) [])] : List LT)) cp91, .int .u8 3, .string (bs [110, 49, 59]), .int .i64 (1), .slice ad92 (List.length ([] : List LT)) cp92, .int .u8 1, .string (bs [80, 110, 49, 59]), .int .i64 (1), .slice ad93 (List.length ([] : List LT)) cp93, .int .u8 2, .string (bs [72, 110, 49, 59]), .int .i64 (0), .slice ad96 (List.length ([v0_] : List LT)) cp96, .int .u8 5, .string (bs []), .int .i64 (1), .slice ad99 (List.length ([v0_] : List LT)) cp99, .int .u8 6, .string (bs [110, 49, 59]), .int .i64 (0), .slice ad102 (List.length ([v0_] : List LT)) cp102, .int .u8 4, .string (bs []), .int .i64 (0), .slice ad105 (List.length ([v0_] : List LT)) cp105, .int .u8 6, .string (bs []), .int .i64 0, .slice ad106 1 cp106, .int .u8 6, .string (bs []), .int .i64 0, .slice ad107 1 cp107, .int .u8 6, .string (bs []), .int .i64 0, .slice ad108 1 cp108, .int .u8 6, .string (bs []), .int .i64 0, .slice ad115 (List.length ([(.mk 1 [80, 110, 49, 59] (0) []), (.mk 5 [] 0 [(.mk 2 [72, 110, 50, 59] (0) []), (.mk 4 [] (6) [])])] : List LT)) cp115]) i0 (.agg #[.int .u8 0, .string ByteArray.empty, .int .i64 0, .slice none 0 0]) Tryz.underlying23 hi0 hi1 (by rw [hi2]; decide) (by rw [hi2]; decide) (by rw [ev, hi2]; kernel_rfl) ?_
 clear hout hdep
 refine hK _ _ (j3_ rfl ⟨w.heap.size, rfl, z0_ (z3_ w _), ?_⟩) (z6_ (z1_ _ _) _)
 exact zd1_ _ _ 0 ⟨_, _, _, _, _, rfl, z7_ (z6_ (z1_ _ _) _) _ _ g29, ⟨_, _, _, _, _, rfl, z7_ (z6_ (z1_ _ _) _) _ _ g30, ⟨_, _, _, _, _, rfl, z7_ (z6_ (z1_ _ _) _) _ _ g31, ⟨_, _, _, _, _, rfl, z7_ (z6_ (z1_ _ _) _) _ _ g32, ⟨_, _, _, _, _, rfl, z7_ (z6_ (z1_ _ _) _) _ _ g33, ⟨_, _, _, _, _, rfl, z7_ (z6_ (z1_ _ _) _) _ _ g34, ⟨_, _, _, _, _, rfl, z7_ (z6_ (z1_ _ _) _) _ _ g35, ⟨_, _, _, _, _, rfl, z7_ (z6_ (z1_ _ _) _) _ _ g36, ⟨_, _, _, _, _, rfl, z7_ (z6_ (z1_ _ _) _) _ _ g37, ⟨_, _, _, _, _, rfl, z7_ (z6_ (z1_ _ _) _) _ _ g38, ⟨_, _, _, _, _, rfl, z7_ (z6_ (z1_ _ _) _) _ _ g39, ⟨_, _, _, _, _, rfl, z7_ (z6_ (z1_ _ _) _) _ _ g40, ⟨_, _, _, _, _, rfl, z7_ (z6_ (z1_ _ _) _) _ _ g41, ⟨_, _, _, _, _, rfl, z7_ (z6_ (z1_ _ _) _) _ _ g42, ⟨_, _, _, _, _, rfl, z7_ (z6_ (z1_ _ _) _) _ _ g43, ⟨_, _, _, _, _, rfl, z7_ (z6_ (z1_ _ _) _) _ _ g44, ⟨_, _, _, _, _, rfl, z7_ (z6_ (z1_ _ _) _) _ _ g45, ⟨_, _, _, _, _, rfl, z7_ (z6_ (z1_ _ _) _) _ _ g46, ⟨_, _, _, _, _, rfl, z7_ (z6_ (z1_ _ _) _) _ _ g47, ⟨_, _, _, _, _, rfl, z7_ (z6_ (z1_ _ _) _) _ _ g50, ⟨_, _, _, _, _, rfl, z7_ (z6_ (z1_ _ _) _) _ _ g54, ⟨_, _, _, _, _, rfl, z7_ (z6_ (z1_ _ _) _) _ _ g55, ⟨_, _, _, _, _, rfl, z7_ (z6_ (z1_ _ _) _) _ _ g57, ⟨_, _, _, _, _, rfl, z7_ (z6_ (z1_ _ _) _) _ _ g67, ⟨_, _, _, _, _, rfl, z7_ (z6_ (z1_ _ _) _) _ _ g78, ⟨_, _, _, _, _, rfl, z7_ (z6_ (z1_ _ _) _) _ _ g87, ⟨_, _, _, _, _, rfl, z7_ (z6_ (z1_ _ _) _) _ _ g91, ⟨_, _, _, _, _, rfl, z7_ (z6_ (z1_ _ _) _) _ _ g92, ⟨_, _, _, _, _, rfl, z7_ (z6_ (z1_ _ _) _) _ _ g93, ⟨_, _, _, _, _, rfl, z7_ (z6_ (z1_ _ _) _) _ _ g96, ⟨_, _, _, _, _, rfl, z7_ (z6_ (z1_ _ _) _) _ _ g99, ⟨_, _, _, _, _, rfl, z7_ (z6_ (z1_ _ _) _) _ _ g102, ⟨_, _, _, _, _, rfl, z7_ (z6_ (z1_ _ _) _) _ _ g105, ⟨_, _, _, _, _, rfl, z7_ (z6_ (z1_ _ _) _) _ _ g106, ⟨_, _, _, _, _, rfl, z7_ (z6_ (z1_ _ _) _) _ _ g107, ⟨_, _, _, _, _, rfl, z7_ (z6_ (z1_ _ _) _) _ _ g108, ⟨_, _, _, _, _, rfl, z7_ (z6_ (z1_ _ _) _) _ _ g115, rfl⟩⟩⟩⟩⟩⟩⟩⟩⟩⟩⟩⟩⟩⟩⟩⟩⟩⟩⟩⟩⟩⟩⟩⟩⟩⟩⟩⟩⟩⟩⟩⟩⟩⟩⟩⟩⟩ (fun j v hj => by rw [Nat.zero_add, z2_ (z3_ w _) j]; simpa using hj)
theorem kst5 (h116 : (⟨87, .data⟩ : Edge) ∈ af.toList) : k6_ Tryz.prog ops Q a0 w0 kDS (k9_ (kGS N cN)) 88 { dst := some 5, op := .assign (.tmp 116), type := ty, pos := pos, after := af, guard := none } := by
 intro a w hgl hout hdep K hK
 rw [if_pos (by simp [Region.wanted])]
 obtain ⟨v116, g116, e116⟩ := hdep ⟨87, .data⟩ h116 rfl
 have e116 := e116 116 rfl
 have g116 := g116 _ rfl
 clear hout hdep
 go_simp
 exact hK _ _ (j3_ rfl g116) (z1_ _ _)
end
theorem zmf_ {P : Program} (w : World) (base : Nat) (t ty e : TypeId) (i : TypeInfo) (size c : Nat) (ht : P.underlying t = some (.slice e)) (hi : P.info? e = some i)
  (v : Value) (n : Nat) (xs : List Value) (hown : w.ownsRow base e size v n xs) :
  (Builtin.append_ #[t, t] ty #[v, .slice none 0 c]).run P w = .ok v w := by
 rcases hown.2 with ⟨rfl, rfl⟩ | ⟨g, cap, cur, rfl, hbg, hg, hnc, hcm, hcs, htake⟩
 · simp [Builtin.append_, run_underlying ht, sizeOf, typeInfo, hi, Builtin.lenOf, Builtin.firstCells, loadCells, loadCellsFrom]
 · simp [Builtin.append_, run_underlying ht, sizeOf, typeInfo, hi, Builtin.lenOf, Builtin.firstCells, loadCells, loadCellsFrom, storeCells, hnc]
theorem zfv_ {P : Program} {ops : Array Oper} {rest : List Oper} {o : Oper} {a : Act} {w : World} {Q : Exit → Act → World → Prop} (hgd : o.guard = none) (s x : Operand) (t : TypeId)
  (ho : o.op = .call { callee := .builtin .append, args := #[s, x], argTypes := #[t, t] })
  (base : Nat) (e : TypeId) (i : TypeInfo) (size : Nat) (ht : P.underlying t = some (.slice e)) (hi : P.info? e = some i)
  (v : Value) (n : Nat) (xs : List Value) (hs : a.eval s = v) (hown : w.ownsRow base e size v n xs) (c : Nat) (hx : a.eval x = .slice none 0 c)
  (h : wpList P ops Q rest (a.put o.dst v) w) : wpList P ops Q (o :: rest) a w :=
 wpList_plain hgd fun _ hK => by
  have hr := zmf_ (P := P) w base t o.type e i size c ht hi v n xs hown
  unfold Oper.wp execOp
  simp only [ho, resolve, invoke, builtin, Sem.run_bind, Sem.run_pure, Result.andThen_ok, List.map_toArray, List.map_cons, List.map_nil, hs, hx, hr]
  exact hK _ _ h
end Go.Proofs.YtiplnofaejpeoaaGreatDoor
