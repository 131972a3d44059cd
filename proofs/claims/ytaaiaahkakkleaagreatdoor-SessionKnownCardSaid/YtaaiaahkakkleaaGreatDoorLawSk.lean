/- The law SessionKnown: the examples, and about each bound. -/
import Derived.Test.YtaaiaahkakkleaaGreatDoorSkA
import Derived.Test.YtaaiaahkakkleaaGreatDoorPlH
import Derived.Test.YtaaiaahkakkleaaGreatDoorLawFo
import Derived.Test.YtaaiaahkakkleaaGreatDoorLawP
set_option maxRecDepth 100000
set_option maxHeartbeats 40000000
set_option linter.unusedSimpArgs false
set_option linter.unusedVariables false
namespace Go.Proofs.YtaaiaahkakkleaaGreatDoor
open Go.RowKit
def skOpen : List StepV := [⟨0, true, [], [], 0⟩, ⟨0, false, [], [], 0⟩, ⟨0, true, [], [], 0⟩]
def skLong (n : Nat) : List StepV := [⟨3, false, [], (List.replicate n 120), 0⟩, ⟨0, true, [], [], 0⟩, ⟨3, true, [], [98], 0⟩, ⟨0, false, [], [], 0⟩]
def skMany : List StepV := [⟨3, false, [], [], 0⟩, ⟨0, true, [], [], 0⟩, ⟨0, false, [], [], 0⟩, ⟨3, true, [], [], 0⟩, ⟨0, true, [], [], 0⟩, ⟨3, false, [], [97], 105⟩, ⟨3, true, [], [98], 99⟩, ⟨0, false, [], [], 105⟩, ⟨0, true, [], [], 105⟩, ⟨3, false, [], [99], 0⟩, ⟨0, true, [], [], 0⟩, ⟨0, true, [], [], 0⟩, ⟨4, false, [], [], 0⟩, ⟨3, false, [], [], 0⟩, ⟨2, false, [116, 48, 58], [], 0⟩]
def skFive (sd : Bool) (t : List UInt8) : List StepV := [⟨2, sd, t, [], 0⟩, ⟨0, true, [], [], 0⟩, ⟨0, false, [], [], 0⟩, ⟨3, sd, [], [], 0⟩, ⟨2, sd, t, [], 0⟩]
def skN : List Nat := [0, 1, 4095, 4096, 4097, 8192, 12000, 12001]
def skT : List (List UInt8) := [[], [110], [116, 48, 58], [80, 110, 51, 59], [84, 50, 58, 80, 110, 50, 59, 66, 110, 49, 59, 116, 48, 58], [84, 50, 58, 80, 110, 57, 59, 66, 72, 84, 50, 58, 88, 110, 51, 59, 110, 57, 59, 80, 110, 51, 59, 116, 48, 58], [84, 50, 58, 87, 80, 110, 49, 59, 80, 110, 50, 59, 116, 48, 58], [84, 49, 58, 80, 110, 50, 59], [66, 72, 84, 50, 58, 72, 84, 50, 58, 88, 110, 50, 59, 110, 51, 59, 80, 110, 51, 59, 88, 110, 50, 59, 110, 52, 59, 84, 50, 58, 80, 110, 49, 59, 116, 48, 58], [84, 50, 58, 80, 110, 52, 59, 66, 72, 84, 50, 58, 72, 84, 50, 58, 88, 110, 50, 59, 110, 51, 59, 80, 110, 51, 59, 88, 110, 50, 59, 110, 52, 59, 116, 48, 58]]
def skX : List (List UInt8) := [[], [110], [86, 110, 49, 59, 110, 50, 59], [116, 48, 58], [80, 110, 49, 59], [75, 110, 49, 59, 116, 48, 58], [87, 80, 110, 49, 59, 80, 110, 50, 59]]
def skB : List Bool := [false, true]
theorem skN_le : ∀ n ∈ skN, n ≤ 12001 := by decide
theorem skT_le : ∀ n ∈ skT, n.length ≤ 100 := by decide
theorem skX_le : ∀ n ∈ skX, n.length ≤ 100 := by decide
theorem stepOk_mk (k : Int) (sd : Bool) (t s : List UInt8) (n : Int) (h1 : -9223372036854775808 ≤ k) (h2 : k ≤ 9223372036854775807) (h3 : -9223372036854775808 ≤ n) (h4 : n ≤ 9223372036854775807) (h5 : t.length ≤ 140737488351232) (h6 : s.length ≤ 140737488351232) : StepOk ⟨k, sd, t, s, n⟩ := ⟨h1, h2, h3, h4, h5, h6⟩
theorem skOpen_ok : ∀ x ∈ skOpen, StepOk x := by
 intro x hx
 simp only [skOpen, List.mem_cons, List.not_mem_nil, or_false] at hx
 rcases hx with rfl | rfl | rfl <;> exact stepOk_mk _ _ _ _ _ de_ de_ de_ de_ si_ si_
theorem skLong_ok {n : Nat} (h : n ≤ 12001) : ∀ x ∈ skLong n, StepOk x := by
 intro x hx
 simp only [skLong, List.mem_cons, List.not_mem_nil, or_false] at hx
 rcases hx with rfl | rfl | rfl | rfl <;> exact stepOk_mk _ _ _ _ _ de_ de_ de_ de_ si_ sx_
theorem skMany_ok : ∀ x ∈ skMany, StepOk x := by
 intro x hx
 simp only [skMany, List.mem_cons, List.not_mem_nil, or_false] at hx
 rcases hx with rfl | rfl | rfl | rfl | rfl | rfl | rfl | rfl | rfl | rfl | rfl | rfl | rfl | rfl | rfl <;> exact stepOk_mk _ _ _ _ _ de_ de_ de_ de_ si_ si_
theorem skFive_ok {sd : Bool} {t : List UInt8} (h : t.length ≤ 100) : ∀ x ∈ skFive sd t, StepOk x := by
 intro x hx
 simp only [skFive, List.mem_cons, List.not_mem_nil, or_false] at hx
 rcases hx with rfl | rfl | rfl | rfl | rfl <;> exact stepOk_mk _ _ _ _ _ de_ de_ de_ de_ (by first | (simp; done) | omega) si_
theorem app_ok {a b : List StepV} (ha : ∀ x ∈ a, StepOk x) (hb : ∀ x ∈ b, StepOk x) : ∀ x ∈ a ++ b, StepOk x := fun x hx => by
 rcases List.mem_append.1 hx with h | h
 · exact ha x h
 · exact hb x h
theorem take_ok {a : List StepV} (ha : ∀ x ∈ a, StepOk x) (k : Nat) : ∀ x ∈ a.take k, StepOk x := fun x hx => ha x (List.mem_of_mem_take hx)
theorem rep_at {v : Value} (n j : Nat) (h : j < n) : (List.replicate n v)[j]? = some v := by rw [List.getElem?_replicate, if_pos h]
theorem blk_has {w : World} {B : Nat} {a : Array Value} {T : TypeId} {l : List Value} (hb : w.heap[B]? = some (.cells a T (0, 0))) (k : Nat) (ha : a = l.toArray) : ∀ j u, (l.take k)[j]? = some u → w.cell? ⟨B, j, none⟩ = some u := fun j u hu => by
 rw [blk_cell hb, ha, List.getElem?_toArray]
 rw [List.getElem?_take] at hu
 split at hu
 · exact hu
 · cases hu
theorem blk_all {w : World} {B : Nat} {a : Array Value} {T : TypeId} {l : List Value} (hb : w.heap[B]? = some (.cells a T (0, 0))) (ha : a = l.toArray) : ∀ j u, l[j]? = some u → w.cell? ⟨B, j, none⟩ = some u := fun j u hu => by
 rw [blk_cell hb, ha, List.getElem?_toArray]
 exact hu
theorem lSessionKnown (w : World) (hG : GOk w) :
  Calls Tryz.prog 3 #[] w fun e w' => e = .returned (.bool true) ∧ Below w.heap.size w w' := by
 have HG0 := Lib.hid hG
 clear hG
 obtain ⟨u0, hu0, hu1, hu2, hu3⟩ := info_parts Tryz.infoU8
 go_enter Tryz.func3, Tryz.ntmps3
 go_wp2_with fail
 have hg0 : GL [] w w := gl_refl _ _
 have hs0 : w.heap.size ≤ w.heap.size := Nat.le_refl _
 have HA1 : Hid (((w.alloc (.cells #[.string (bs [110, 49, 59]), .string (bs [110, 50, 59]), .string (bs [110, 51, 59]), .string (bs [110, 52, 59]), .string (bs [80, 110, 51, 59])] 24)).alloc (.cells #[.int .i64 0, .bool true, .string (bs []), .string (bs []), .int .i64 0, .int .i64 0, .bool false, .string (bs []), .string (bs []), .int .i64 0, .int .i64 0, .bool true, .string (bs []), .string (bs []), .int .i64 0] 26)).heap[w.heap.size]? = some (.cells #[.string (bs [110, 49, 59]), .string (bs [110, 50, 59]), .string (bs [110, 51, 59]), .string (bs [110, 52, 59]), .string (bs [80, 110, 51, 59])] 24 (0, 0))) := by
  have h := blk_new w (.cells #[.string (bs [110, 49, 59]), .string (bs [110, 50, 59]), .string (bs [110, 51, 59]), .string (bs [110, 52, 59]), .string (bs [80, 110, 51, 59])] 24)
  exact (blk_alloc h (.cells #[.int .i64 0, .bool true, .string (bs []), .string (bs []), .int .i64 0, .int .i64 0, .bool false, .string (bs []), .string (bs []), .int .i64 0, .int .i64 0, .bool true, .string (bs []), .string (bs []), .int .i64 0] 26))
 have HB1 : Hid (((w.alloc (.cells #[.string (bs [110, 49, 59]), .string (bs [110, 50, 59]), .string (bs [110, 51, 59]), .string (bs [110, 52, 59]), .string (bs [80, 110, 51, 59])] 24)).alloc (.cells #[.int .i64 0, .bool true, .string (bs []), .string (bs []), .int .i64 0, .int .i64 0, .bool false, .string (bs []), .string (bs []), .int .i64 0, .int .i64 0, .bool true, .string (bs []), .string (bs []), .int .i64 0] 26)).heap[w.heap.size + 1]? = some (.cells #[.int .i64 0, .bool true, .string (bs []), .string (bs []), .int .i64 0, .int .i64 0, .bool false, .string (bs []), .string (bs []), .int .i64 0, .int .i64 0, .bool true, .string (bs []), .string (bs []), .int .i64 0] 26 (0, 0))) := by
  have h := blk_new (w.alloc (.cells #[.string (bs [110, 49, 59]), .string (bs [110, 50, 59]), .string (bs [110, 51, 59]), .string (bs [110, 52, 59]), .string (bs [80, 110, 51, 59])] 24)) (.cells #[.int .i64 0, .bool true, .string (bs []), .string (bs []), .int .i64 0, .int .i64 0, .bool false, .string (bs []), .string (bs []), .int .i64 0, .int .i64 0, .bool true, .string (bs []), .string (bs []), .int .i64 0] 26)
  rw [show (w.alloc (.cells #[.string (bs [110, 49, 59]), .string (bs [110, 50, 59]), .string (bs [110, 51, 59]), .string (bs [110, 52, 59]), .string (bs [80, 110, 51, 59])] 24)).heap.size = w.heap.size + 1 by simp] at h
  exact h
 have HG1 := Lib.hid (gok_alloc (gok_alloc HG0.out (.cells #[.string (bs [110, 49, 59]), .string (bs [110, 50, 59]), .string (bs [110, 51, 59]), .string (bs [110, 52, 59]), .string (bs [80, 110, 51, 59])] 24)) (.cells #[.int .i64 0, .bool true, .string (bs []), .string (bs []), .int .i64 0, .int .i64 0, .bool false, .string (bs []), .string (bs []), .int .i64 0, .int .i64 0, .bool true, .string (bs []), .string (bs []), .int .i64 0] 26))
 have hg1 : GL [] w ((w.alloc (.cells #[.string (bs [110, 49, 59]), .string (bs [110, 50, 59]), .string (bs [110, 51, 59]), .string (bs [110, 52, 59]), .string (bs [80, 110, 51, 59])] 24)).alloc (.cells #[.int .i64 0, .bool true, .string (bs []), .string (bs []), .int .i64 0, .int .i64 0, .bool false, .string (bs []), .string (bs []), .int .i64 0, .int .i64 0, .bool true, .string (bs []), .string (bs []), .int .i64 0] 26)) := (gl_alloc (gl_alloc hg0 (.cells #[.string (bs [110, 49, 59]), .string (bs [110, 50, 59]), .string (bs [110, 51, 59]), .string (bs [110, 52, 59]), .string (bs [80, 110, 51, 59])] 24)) (.cells #[.int .i64 0, .bool true, .string (bs []), .string (bs []), .int .i64 0, .int .i64 0, .bool false, .string (bs []), .string (bs []), .int .i64 0, .int .i64 0, .bool true, .string (bs []), .string (bs []), .int .i64 0] 26))
 have geA : w.heap.size ≤ w.heap.size := by have := hg0.size; omega
 have gnA : gN ≤ w.heap.size := by have := HG0.out.size; omega
 have geB : w.heap.size ≤ w.heap.size + 1 := by have := hg0.size; omega
 have gnB : gN ≤ w.heap.size + 1 := by have := HG0.out.size; omega
 have ltAB : w.heap.size < w.heap.size + 1 := by omega
 have neAB : w.heap.size ≠ w.heap.size + 1 := by omega
 have neBA : w.heap.size + 1 ≠ w.heap.size := by omega
 generalize ((w.alloc (.cells #[.string (bs [110, 49, 59]), .string (bs [110, 50, 59]), .string (bs [110, 51, 59]), .string (bs [110, 52, 59]), .string (bs [80, 110, 51, 59])] 24)).alloc (.cells #[.int .i64 0, .bool true, .string (bs []), .string (bs []), .int .i64 0, .int .i64 0, .bool false, .string (bs []), .string (bs []), .int .i64 0, .int .i64 0, .bool true, .string (bs []), .string (bs []), .int .i64 0] 26)) = w1 at *
 generalize w.heap.size + 1 = B at *
 generalize w.heap.size = A at *
 have hs1 := hg1.size
 have HOW := Lib.hid hg1
 go_loopw [3, 4] (fun lv iv wr => ∃ i : Nat, i ≤ 12001 ∧ iv = .int .i64 i ∧ Hid (wr.ownsRow w1.heap.size 5 1 lv i (List.replicate i (.int .u8 120))) ∧ Hid (GL [] w1 wr)) (fun _ iv _ => 12001 - (intOf iv).toNat)
 case atStart => exact ⟨0, by omega, rfl, Lib.hid (World.ownsRow_nil _ _ _ _), Lib.hid (gl_refl _ _)⟩
 case round =>
  obtain ⟨i, hi, rfl, ho, hgr⟩ := hrel
  obtain ⟨la, ln, lc, hlv⟩ := own_slice ho.out
  subst hlv
  have hsz := hgr.out.size
  by_cases hlt : i < 12001
  · have i1 : (i : Int) < 12001 := by omega
    have hob := World.ownsRow.lt ho.out
    go_wp2_with (at_builtin; go_must (refine wpList_append_own_at _ rfl _ _ 28 rfl w1.heap.size 5 u0 (.int .u8 0) 1 1 Tryz.underlying28 hu0 hu1 hu2 hu3 rfl de_ _ i _ rfl (own_alloc ho.out _) ⟨wr.heap.size, 0, none⟩ 1 1 [.int .u8 120] rfl rfl ?c1 ?c2 ?c3 ?c4 ?c5 ?_; (case c1 => exact cell_one_at rfl); (case c2 => exact one1 rfl); (case c3 => (unfold maxLen; omega)); (case c4 => omega); (case c5 => (simp; omega)); (intro v4 w4 hown4 hgr4 _ _)))
    have hgn : GL [] w1 w4 := gl_grown hgr4 (gl_alloc hgr.out _) (fun r hr => .inr (hob r hr).1)
    have hon : w4.ownsRow w1.heap.size 5 1 v4 (i + 1) (List.replicate (i + 1) (.int .u8 120)) := by rw [List.replicate_succ']; exact hown4
    go_roundw
    case rel => first | exact ⟨i + 1, by omega, by go_num, Lib.hid hon, Lib.hid hgn⟩ | ((repeat apply Exists.intro); refine ⟨?_, rfl⟩; exact ⟨i + 1, by omega, by go_num, Lib.hid hon, Lib.hid hgn⟩)
    case measure => simp [intOf]; omega
  · have i1 : ¬ (i : Int) < 12001 := by omega
    obtain ⟨g, cap, hlv, hg1b, hg2b, hcap, hcap2, hcl⟩ := own_cellsN ho.out om_
    injection hlv with e1 e2 e3
    subst e1 e3
    obtain ⟨w2, hw2⟩ : ∃ x : World, x = wr := ⟨_, rfl⟩
    subst hw2
    have HL := Lib.hid (show ∀ j, j < 12001 → w2.cell? ⟨g, j, none⟩ = some (.int .u8 120) from fun j hj => hcl j _ (rep_at _ _ om_))
    clear hcl hlt hi
    have hgw2 : GL [] w w2 := gl_step hgr.out hg1 si_
    have HA2 := Lib.hid (blk_gl HA1.out hgr.out si_)
    have HB2 := Lib.hid (blk_gl HB1.out hgr.out si_)
    have hlA := blk_lt HA2.out
    have hlB := blk_lt HB2.out
    go_wp2_with fail
    have HN := Lib.hid (show ∀ (k : Nat) (n : Nat), skN[k]? = some n → (w2.alloc (.cells #[.int .i64 0, .int .i64 1, .int .i64 4095, .int .i64 4096, .int .i64 4097, .int .i64 8192, .int .i64 12000, .int .i64 12001] 3)).cell? ⟨w2.heap.size, k, none⟩ = some (.int .i64 (n : Int)) from fun k n hn => by
     refine (blk_cell (blk_new w2 (.cells #[.int .i64 0, .int .i64 1, .int .i64 4095, .int .i64 4096, .int .i64 4097, .int .i64 8192, .int .i64 12000, .int .i64 12001] 3)) k).trans ?_
     rw [show (#[.int .i64 0, .int .i64 1, .int .i64 4095, .int .i64 4096, .int .i64 4097, .int .i64 8192, .int .i64 12000, .int .i64 12001] : Array Value) = (skN.map fun y => Value.int .i64 ((y : Nat) : Int)).toArray from rfl, List.getElem?_toArray, List.getElem?_map, hn]
     rfl)
    have hgD : GL [] w2 (w2.alloc (.cells #[.int .i64 0, .int .i64 1, .int .i64 4095, .int .i64 4096, .int .i64 4097, .int .i64 8192, .int .i64 12000, .int .i64 12001] 3)) := gl_alloc (gl_refl _ _) _
    have hszD : w2.heap.size < (w2.alloc (.cells #[.int .i64 0, .int .i64 1, .int .i64 4095, .int .i64 4096, .int .i64 4097, .int .i64 8192, .int .i64 12000, .int .i64 12001] 3)).heap.size := by simp
    generalize w2.alloc (.cells #[.int .i64 0, .int .i64 1, .int .i64 4095, .int .i64 4096, .int .i64 4097, .int .i64 8192, .int .i64 12000, .int .i64 12001] 3) = wD at *
    obtain ⟨D, hD⟩ : ∃ D, D = w2.heap.size := ⟨_, rfl⟩
    rw [← hD]
    rw [← hD] at HN
    clear hD
    go_loopw [32] (fun iv wr => ∃ k : Nat, k ≤ 8 ∧ iv = .int .i64 k ∧ Hid (GL [] wD wr)) (fun iv _ => 8 - (intOf iv).toNat)
    case atStart => exact ⟨0, by omega, rfl, Lib.hid (gl_refl _ _)⟩
    case round =>
     obtain ⟨k, hk, rfl, hgr2⟩ := hrel
     have hg2r : GL [] w2 wr := gl_step hgr2.out hgD si_
     have hgwr : GL [] w wr := gl_step hg2r hgw2 si_
     by_cases hlt : k < 8
     · have i1 : (k : Int) < 8 := by omega
       have hkL : k < skN.length := hlt
       have hn : skN[k]? = some skN[k] := List.getElem?_eq_getElem hkL
       have c0 := cell_glx (HN.out k _ hn) hgr2.out si_
       have hnl := skN_le skN[k] (List.getElem_mem _)
       clear hn
       generalize skN[k] = n at *
       have HBr := Lib.hid (blk_gl HB2.out hg2r si_)
       have tok1 : True := trivial
       have hszr := hg2r.size
       have hszDr := hgr2.out.size
       go_wp2_with (at_builtin; have _t := tok1; go_must (refine wpList_appS rfl _ _ rfl wr.heap.size (.slice none 0 0) [] skOpen _ B 3 3 rfl rfl rfl (ownS_nil _ _) (fun j u hu => blk_has HBr.out 15 rfl j u hu) (by first | decide | (simp; done)) om_ ?_); (intro v3 w3 hO3 hg3 hn3); clear tok1 _t)
       rw [List.nil_append] at hO3
       obtain ⟨g3, c3, hv3, hl3, hl3b, _⟩ := ownS_at hO3 de_
       subst hv3
       have hg23 : GL [] w2 w3 := gl_step hg3 hg2r (by simp [Value.ownBlock])
       have hgw3 : GL [] w w3 := gl_step hg23 hgw2 si_
       have kc := fun (W : World) (hW : W = w3) => run_convN (P := Tryz.prog) W 28 9 5 g n lc Tryz.underlying28 Tryz.underlying5 Tryz.underlying9 (fun j hj => by rw [hW]; exact cell_glx (HL.out j om_) hg23 si_)
       have hnc : (n : Int) ≤ lc := by omega
       have tok2 : True := trivial
       have hsz3 := hg23.size
       clear c0
       go_wp2_with (first | (at_builtin; have _t := tok2; go_must (refine wpList_appS rfl _ _ rfl wr.heap.size (.slice (some ⟨g3, 0, none⟩) skOpen.length c3) skOpen (skLong n) _ w3.heap.size (skLong n).length (skLong n).length rfl rfl rfl (own_alloc hO3 _) (blk_all (blk_new w3 _) rfl) (by first | decide | (simp; done) | (simp [skLong, skFive, skOpen]; done)) so_ ?_); (intro v5 w5 hO5 hg5 hn5); (have hgn : GL [] w2 w5 := gl_step hg5 (gl_alloc hg23 _) (fun r hr => by simp [Value.ownBlock] at hr; right; omega)); (have HA5 := Lib.hid (blk_gl HA2.out hgn si_)); (have fa := blk_cell HA5.out); (have fb := blk_free HA5.out); (have fl := blk_lt HA5.out); clear tok2 _t) | (rw [kc _ rfl]; go_simp))
       obtain ⟨g5, c5, hv5, hl5, hl5b, hs5⟩ := ownS_at hO5 (by simp [skOpen, skLong, skFive]; try omega)
       subst hv5
       have hgw5 : GL [] w w5 := gl_step hgn hgw2 si_
       have HG5 := Lib.hid (gok_gl HG0.out hgw5 si_)
       go_wp2_with fail
       clear fa fb fl
       refine (lSessionPlays [110, 49, 59] [110, 50, 59] [110, 51, 59] [110, 52, 59] [80, 110, 51, 59] de_ de_ de_ de_ de_ (some ⟨g5, 0, none⟩) c5 _ (by first | decide | (simp [skOpen, skLong, skFive]; try omega)) _ HG5.out hs5 (app_ok skOpen_ok (skLong_ok hnl))).mono ?_
       rintro e w6 ⟨rfl, hb6⟩
       have hgn6 : GL [] w2 w6 := gl_below hb6 hgn
       have hgD6 : GL [] wD w6 := gl_below hb6 (gl_step hg5 (gl_alloc (gl_step hg3 hgr2.out (by simp [Value.ownBlock])) _) (fun r hr => by simp [Value.ownBlock] at hr; right; omega))
       go_wp2_with fail
       go_roundw
       case rel => first | exact ⟨k + 1, by omega, by go_num, Lib.hid hgD6⟩ | ((repeat apply Exists.intro); refine ⟨?_, rfl⟩; exact ⟨k + 1, by omega, by go_num, Lib.hid hgD6⟩)
       case measure => simp [intOf]; omega
     · have i1 : ¬ (k : Int) < 8 := by omega
       obtain ⟨v0, hv0⟩ : ∃ x : World, x = wr := ⟨_, rfl⟩
       subst hv0
       have HAv := Lib.hid (blk_gl HA2.out hg2r si_)
       have HBv := Lib.hid (blk_gl HB2.out hg2r si_)
       have HGv := Lib.hid (gok_gl HG0.out hgwr si_)
       have HWv := Lib.hid hgwr
       clear HA2 HB2 HL HN hgD hszD hgr2 hg2r hgwr hgw2 hgr ho HG1 HA1 HB1 hg1 HOW hlt hk hs1
       have hM := blk_new v0 (.cells #[.int .i64 3, .bool false, .string (bs []), .string (bs []), .int .i64 0, .int .i64 0, .bool true, .string (bs []), .string (bs []), .int .i64 0, .int .i64 0, .bool false, .string (bs []), .string (bs []), .int .i64 0, .int .i64 3, .bool true, .string (bs []), .string (bs []), .int .i64 0, .int .i64 0, .bool true, .string (bs []), .string (bs []), .int .i64 0, .int .i64 3, .bool false, .string (bs []), .string (bs [97]), .int .i64 105, .int .i64 3, .bool true, .string (bs []), .string (bs [98]), .int .i64 99, .int .i64 0, .bool false, .string (bs []), .string (bs []), .int .i64 105, .int .i64 0, .bool true, .string (bs []), .string (bs []), .int .i64 105, .int .i64 3, .bool false, .string (bs []), .string (bs [99]), .int .i64 0, .int .i64 0, .bool true, .string (bs []), .string (bs []), .int .i64 0, .int .i64 0, .bool true, .string (bs []), .string (bs []), .int .i64 0, .int .i64 4, .bool false, .string (bs []), .string (bs []), .int .i64 0, .int .i64 3, .bool false, .string (bs []), .string (bs []), .int .i64 0, .int .i64 2, .bool false, .string (bs [116, 48, 58]), .string (bs []), .int .i64 0] 26)
       have fa := blk_cell (blk_alloc HAv.out (.cells #[.int .i64 3, .bool false, .string (bs []), .string (bs []), .int .i64 0, .int .i64 0, .bool true, .string (bs []), .string (bs []), .int .i64 0, .int .i64 0, .bool false, .string (bs []), .string (bs []), .int .i64 0, .int .i64 3, .bool true, .string (bs []), .string (bs []), .int .i64 0, .int .i64 0, .bool true, .string (bs []), .string (bs []), .int .i64 0, .int .i64 3, .bool false, .string (bs []), .string (bs [97]), .int .i64 105, .int .i64 3, .bool true, .string (bs []), .string (bs [98]), .int .i64 99, .int .i64 0, .bool false, .string (bs []), .string (bs []), .int .i64 105, .int .i64 0, .bool true, .string (bs []), .string (bs []), .int .i64 105, .int .i64 3, .bool false, .string (bs []), .string (bs [99]), .int .i64 0, .int .i64 0, .bool true, .string (bs []), .string (bs []), .int .i64 0, .int .i64 0, .bool true, .string (bs []), .string (bs []), .int .i64 0, .int .i64 4, .bool false, .string (bs []), .string (bs []), .int .i64 0, .int .i64 3, .bool false, .string (bs []), .string (bs []), .int .i64 0, .int .i64 2, .bool false, .string (bs [116, 48, 58]), .string (bs []), .int .i64 0] 26))
       have fb := blk_free (blk_alloc HAv.out (.cells #[.int .i64 3, .bool false, .string (bs []), .string (bs []), .int .i64 0, .int .i64 0, .bool true, .string (bs []), .string (bs []), .int .i64 0, .int .i64 0, .bool false, .string (bs []), .string (bs []), .int .i64 0, .int .i64 3, .bool true, .string (bs []), .string (bs []), .int .i64 0, .int .i64 0, .bool true, .string (bs []), .string (bs []), .int .i64 0, .int .i64 3, .bool false, .string (bs []), .string (bs [97]), .int .i64 105, .int .i64 3, .bool true, .string (bs []), .string (bs [98]), .int .i64 99, .int .i64 0, .bool false, .string (bs []), .string (bs []), .int .i64 105, .int .i64 0, .bool true, .string (bs []), .string (bs []), .int .i64 105, .int .i64 3, .bool false, .string (bs []), .string (bs [99]), .int .i64 0, .int .i64 0, .bool true, .string (bs []), .string (bs []), .int .i64 0, .int .i64 0, .bool true, .string (bs []), .string (bs []), .int .i64 0, .int .i64 4, .bool false, .string (bs []), .string (bs []), .int .i64 0, .int .i64 3, .bool false, .string (bs []), .string (bs []), .int .i64 0, .int .i64 2, .bool false, .string (bs [116, 48, 58]), .string (bs []), .int .i64 0] 26))
       have fl := blk_lt (blk_alloc HAv.out (.cells #[.int .i64 3, .bool false, .string (bs []), .string (bs []), .int .i64 0, .int .i64 0, .bool true, .string (bs []), .string (bs []), .int .i64 0, .int .i64 0, .bool false, .string (bs []), .string (bs []), .int .i64 0, .int .i64 3, .bool true, .string (bs []), .string (bs []), .int .i64 0, .int .i64 0, .bool true, .string (bs []), .string (bs []), .int .i64 0, .int .i64 3, .bool false, .string (bs []), .string (bs [97]), .int .i64 105, .int .i64 3, .bool true, .string (bs []), .string (bs [98]), .int .i64 99, .int .i64 0, .bool false, .string (bs []), .string (bs []), .int .i64 105, .int .i64 0, .bool true, .string (bs []), .string (bs []), .int .i64 105, .int .i64 3, .bool false, .string (bs []), .string (bs [99]), .int .i64 0, .int .i64 0, .bool true, .string (bs []), .string (bs []), .int .i64 0, .int .i64 0, .bool true, .string (bs []), .string (bs []), .int .i64 0, .int .i64 4, .bool false, .string (bs []), .string (bs []), .int .i64 0, .int .i64 3, .bool false, .string (bs []), .string (bs []), .int .i64 0, .int .i64 2, .bool false, .string (bs [116, 48, 58]), .string (bs []), .int .i64 0] 26))
       have hl1 := blk_lt HAv.out
       go_wp2_with fail
       clear fa fb fl
       refine (lSessionPlays [110, 49, 59] [110, 50, 59] [110, 51, 59] [110, 52, 59] [80, 110, 51, 59] de_ de_ de_ de_ de_ (some ⟨v0.heap.size, 0, none⟩) 15 skMany de_ _ (gok_alloc HGv.out _) (stepsAt_blk hM rfl) skMany_ok).mono ?_
       rintro e v1 ⟨rfl, hb1⟩
       have hgv1 : GL [] v0 v1 := gl_below hb1 (gl_alloc (gl_refl _ _) _)
       clear hM hb1
       go_wp2_with fail
       have hgv2 : GL [] v0 (v1.alloc (.cells #[.string (bs [110, 49, 59]), .string (bs [110, 50, 59]), .string (bs [110, 51, 59]), .string (bs [110, 52, 59]), .string (bs [80, 110, 51, 59])] 24)) := gl_alloc hgv1 _
       have HC2 : Hid ((v1.alloc (.cells #[.string (bs [110, 49, 59]), .string (bs [110, 50, 59]), .string (bs [110, 51, 59]), .string (bs [110, 52, 59]), .string (bs [80, 110, 51, 59])] 24)).heap[v1.heap.size]? = some (.cells #[.string (bs [110, 49, 59]), .string (bs [110, 50, 59]), .string (bs [110, 51, 59]), .string (bs [110, 52, 59]), .string (bs [80, 110, 51, 59])] 24 (0, 0))) := blk_new v1 (.cells #[.string (bs [110, 49, 59]), .string (bs [110, 50, 59]), .string (bs [110, 51, 59]), .string (bs [110, 52, 59]), .string (bs [80, 110, 51, 59])] 24)
       obtain ⟨C, hC⟩ : ∃ C, C = v1.heap.size := ⟨_, rfl⟩
       rw [← hC]
       rw [← hC] at HC2
       clear hC
       generalize v1.alloc (.cells #[.string (bs [110, 49, 59]), .string (bs [110, 50, 59]), .string (bs [110, 51, 59]), .string (bs [110, 52, 59]), .string (bs [80, 110, 51, 59])] 24) = v2 at *
       clear hgv1
       have HBv2 := Lib.hid (blk_gl HBv.out hgv2 si_)
       have HWv2 := Lib.hid (gl_step hgv2 HWv.out si_)
       clear hgv2 HBv HAv HGv HWv
       go_loopw [10] (fun iv wr => ∃ z : Int, (z = 0 ∨ z = 1 ∨ z = 2 ∨ z = 3 ∨ z = 4) ∧ iv = .int .i64 z ∧ Hid (GL [] v2 wr)) (fun iv _ => 4 - (intOf iv).toNat)
       case atStart => exact ⟨0, by omega, rfl, Lib.hid (gl_refl _ _)⟩
       case round =>
        obtain ⟨z, hz, rfl, hgr⟩ := hrel
        obtain ⟨v3, hv3⟩ : ∃ x : World, x = wr := ⟨_, rfl⟩
        subst hv3
        have HB3 := Lib.hid (blk_gl HBv2.out hgr.out si_)
        have HC3 := Lib.hid (blk_gl HC2.out hgr.out si_)
        rcases hz with rfl | rfl | rfl | rfl | rfl
        iterate 4
         focus
         go_wp2_with fail
         have HT := Lib.hid (show ∀ (k : Nat) (x : List UInt8), skT[k]? = some x → (v3.alloc (.cells #[.string (bs []), .string (bs [110]), .string (bs [116, 48, 58]), .string (bs [80, 110, 51, 59]), .string (bs [84, 50, 58, 80, 110, 50, 59, 66, 110, 49, 59, 116, 48, 58]), .string (bs [84, 50, 58, 80, 110, 57, 59, 66, 72, 84, 50, 58, 88, 110, 51, 59, 110, 57, 59, 80, 110, 51, 59, 116, 48, 58]), .string (bs [84, 50, 58, 87, 80, 110, 49, 59, 80, 110, 50, 59, 116, 48, 58]), .string (bs [84, 49, 58, 80, 110, 50, 59]), .string (bs [66, 72, 84, 50, 58, 72, 84, 50, 58, 88, 110, 50, 59, 110, 51, 59, 80, 110, 51, 59, 88, 110, 50, 59, 110, 52, 59, 84, 50, 58, 80, 110, 49, 59, 116, 48, 58]), .string (bs [84, 50, 58, 80, 110, 52, 59, 66, 72, 84, 50, 58, 72, 84, 50, 58, 88, 110, 50, 59, 110, 51, 59, 80, 110, 51, 59, 88, 110, 50, 59, 110, 52, 59, 116, 48, 58])] 22)).cell? ⟨v3.heap.size, k, none⟩ = some (.string (bs x)) from fun k x hx => by
          refine (blk_cell (blk_new v3 (.cells #[.string (bs []), .string (bs [110]), .string (bs [116, 48, 58]), .string (bs [80, 110, 51, 59]), .string (bs [84, 50, 58, 80, 110, 50, 59, 66, 110, 49, 59, 116, 48, 58]), .string (bs [84, 50, 58, 80, 110, 57, 59, 66, 72, 84, 50, 58, 88, 110, 51, 59, 110, 57, 59, 80, 110, 51, 59, 116, 48, 58]), .string (bs [84, 50, 58, 87, 80, 110, 49, 59, 80, 110, 50, 59, 116, 48, 58]), .string (bs [84, 49, 58, 80, 110, 50, 59]), .string (bs [66, 72, 84, 50, 58, 72, 84, 50, 58, 88, 110, 50, 59, 110, 51, 59, 80, 110, 51, 59, 88, 110, 50, 59, 110, 52, 59, 84, 50, 58, 80, 110, 49, 59, 116, 48, 58]), .string (bs [84, 50, 58, 80, 110, 52, 59, 66, 72, 84, 50, 58, 72, 84, 50, 58, 88, 110, 50, 59, 110, 51, 59, 80, 110, 51, 59, 88, 110, 50, 59, 110, 52, 59, 116, 48, 58])] 22)) k).trans ?_
          rw [show (#[.string (bs []), .string (bs [110]), .string (bs [116, 48, 58]), .string (bs [80, 110, 51, 59]), .string (bs [84, 50, 58, 80, 110, 50, 59, 66, 110, 49, 59, 116, 48, 58]), .string (bs [84, 50, 58, 80, 110, 57, 59, 66, 72, 84, 50, 58, 88, 110, 51, 59, 110, 57, 59, 80, 110, 51, 59, 116, 48, 58]), .string (bs [84, 50, 58, 87, 80, 110, 49, 59, 80, 110, 50, 59, 116, 48, 58]), .string (bs [84, 49, 58, 80, 110, 50, 59]), .string (bs [66, 72, 84, 50, 58, 72, 84, 50, 58, 88, 110, 50, 59, 110, 51, 59, 80, 110, 51, 59, 88, 110, 50, 59, 110, 52, 59, 84, 50, 58, 80, 110, 49, 59, 116, 48, 58]), .string (bs [84, 50, 58, 80, 110, 52, 59, 66, 72, 84, 50, 58, 72, 84, 50, 58, 88, 110, 50, 59, 110, 51, 59, 80, 110, 51, 59, 88, 110, 50, 59, 110, 52, 59, 116, 48, 58])] : Array Value) = (skT.map fun y => Value.string (bs y)).toArray from rfl, List.getElem?_toArray, List.getElem?_map, hx]
          rfl)
         have hg4 : GL [] v3 (v3.alloc (.cells #[.string (bs []), .string (bs [110]), .string (bs [116, 48, 58]), .string (bs [80, 110, 51, 59]), .string (bs [84, 50, 58, 80, 110, 50, 59, 66, 110, 49, 59, 116, 48, 58]), .string (bs [84, 50, 58, 80, 110, 57, 59, 66, 72, 84, 50, 58, 88, 110, 51, 59, 110, 57, 59, 80, 110, 51, 59, 116, 48, 58]), .string (bs [84, 50, 58, 87, 80, 110, 49, 59, 80, 110, 50, 59, 116, 48, 58]), .string (bs [84, 49, 58, 80, 110, 50, 59]), .string (bs [66, 72, 84, 50, 58, 72, 84, 50, 58, 88, 110, 50, 59, 110, 51, 59, 80, 110, 51, 59, 88, 110, 50, 59, 110, 52, 59, 84, 50, 58, 80, 110, 49, 59, 116, 48, 58]), .string (bs [84, 50, 58, 80, 110, 52, 59, 66, 72, 84, 50, 58, 72, 84, 50, 58, 88, 110, 50, 59, 110, 51, 59, 80, 110, 51, 59, 88, 110, 50, 59, 110, 52, 59, 116, 48, 58])] 22)) := gl_alloc (gl_refl _ _) _
         obtain ⟨D, hD⟩ : ∃ D, D = v3.heap.size := ⟨_, rfl⟩
         rw [← hD]
         rw [← hD] at HT
         clear hD
         generalize v3.alloc (.cells #[.string (bs []), .string (bs [110]), .string (bs [116, 48, 58]), .string (bs [80, 110, 51, 59]), .string (bs [84, 50, 58, 80, 110, 50, 59, 66, 110, 49, 59, 116, 48, 58]), .string (bs [84, 50, 58, 80, 110, 57, 59, 66, 72, 84, 50, 58, 88, 110, 51, 59, 110, 57, 59, 80, 110, 51, 59, 116, 48, 58]), .string (bs [84, 50, 58, 87, 80, 110, 49, 59, 80, 110, 50, 59, 116, 48, 58]), .string (bs [84, 49, 58, 80, 110, 50, 59]), .string (bs [66, 72, 84, 50, 58, 72, 84, 50, 58, 88, 110, 50, 59, 110, 51, 59, 80, 110, 51, 59, 88, 110, 50, 59, 110, 52, 59, 84, 50, 58, 80, 110, 49, 59, 116, 48, 58]), .string (bs [84, 50, 58, 80, 110, 52, 59, 66, 72, 84, 50, 58, 72, 84, 50, 58, 88, 110, 50, 59, 110, 51, 59, 80, 110, 51, 59, 88, 110, 50, 59, 110, 52, 59, 116, 48, 58])] 22) = v4 at *
         have HB4 := Lib.hid (blk_gl HB3.out hg4 si_)
         have HC4 := Lib.hid (blk_gl HC3.out hg4 si_)
         have HW4 := Lib.hid (gl_step hg4 (gl_step hgr.out HWv2.out si_) si_)
         go_loopw [82] (fun iv wr => ∃ k : Nat, k ≤ 10 ∧ iv = .int .i64 k ∧ Hid (GL [] v4 wr)) (fun iv _ => 10 - (intOf iv).toNat)
         case atStart => exact ⟨0, by omega, rfl, Lib.hid (gl_refl _ _)⟩
         case round =>
          obtain ⟨k, hk, rfl, hgk⟩ := hrel
          by_cases hlt : k < 10
          · have i1 : (k : Int) < 10 := by omega
            have hkL : k < skT.length := hlt
            have hx : skT[k]? = some skT[k] := List.getElem?_eq_getElem hkL
            have c0 := cell_glx (HT.out k _ hx) hgk.out si_
            have htl := skT_le skT[k] (List.getElem_mem _)
            clear hx
            generalize skT[k] = t at *
            obtain ⟨v5, hv5⟩ : ∃ x : World, x = wr := ⟨_, rfl⟩
            subst hv5
            go_wp2_with fail
            have HS := Lib.hid (show ∀ (k : Nat) (x : Bool), skB[k]? = some x → (v5.alloc (.cells #[.bool false, .bool true] 4)).cell? ⟨v5.heap.size, k, none⟩ = some (.bool x) from fun k x hx => by
             refine (blk_cell (blk_new v5 (.cells #[.bool false, .bool true] 4)) k).trans ?_
             rw [show (#[.bool false, .bool true] : Array Value) = (skB.map fun y => Value.bool y).toArray from rfl, List.getElem?_toArray, List.getElem?_map, hx]
             rfl)
            have hg6 : GL [] v4 (v5.alloc (.cells #[.bool false, .bool true] 4)) := gl_alloc hgk.out _
            obtain ⟨F, hF⟩ : ∃ F, F = v5.heap.size := ⟨_, rfl⟩
            rw [← hF]
            rw [← hF] at HS
            clear hF c0
            generalize v5.alloc (.cells #[.bool false, .bool true] 4) = v6 at *
            have HB6 := Lib.hid (blk_gl HB4.out hg6 si_)
            have HC6 := Lib.hid (blk_gl HC4.out hg6 si_)
            have HW6 := Lib.hid (gl_step hg6 HW4.out si_)
            go_loopw [88] (fun jv wr => ∃ j : Nat, j ≤ 2 ∧ jv = .int .i64 j ∧ Hid (GL [] v6 wr)) (fun jv _ => 2 - (intOf jv).toNat)
            case atStart => exact ⟨0, by omega, rfl, Lib.hid (gl_refl _ _)⟩
            case round =>
             obtain ⟨j, hj, rfl, hgj⟩ := hrel
             by_cases hltj : j < 2
             · have j1 : (j : Int) < 2 := by omega
               have hjL : j < skB.length := hltj
               have hx : skB[j]? = some skB[j] := List.getElem?_eq_getElem hjL
               have c0 := cell_glx (HS.out j _ hx) hgj.out si_
               clear hx
               generalize skB[j] = sd at *
               have HBr := Lib.hid (blk_gl HB6.out hgj.out si_)
               have tok1 : True := trivial
               have tok2 : True := trivial
               have hszj := hgj.out.size
               go_wp2_with (first | (at_builtin; have _t := tok1; go_must (refine wpList_appO rfl _ _ rfl wr.heap.size skOpen _ B _ 3 rfl rfl HBr.out rfl de_ de_ om_ ?_); (intro ad7 n7 c7 w7 os7 ht7 hl7 hO7 hn7 hg7); (have hn7b : n7 ≤ 3 := hn7); (have hl7b : os7.length ≤ 3 := hl7); (have hob7 := World.ownsRow.lt hO7); (have hgn7 : GL [] v6 w7 := gl_step hg7 hgj.out si_); (have hsz7 := hgn7.size); (have hsz77 := hg7.size); clear tok1 _t) | (at_builtin; have _t := tok2; go_must (refine wpList_appS rfl _ _ rfl wr.heap.size (.slice ad7 n7 c7) os7 (skFive sd t) _ w7.heap.size 5 5 rfl rfl rfl (own_alloc hO7 _) (blk_all (blk_new w7 _) rfl) (by show _ ≤ _; simp [skFive]; omega) so_ ?_); (intro v8 w8 hO8 hg8 hn8); (have hgn : GL [] v6 w8 := gl_step hg8 (gl_alloc hgn7 _) (fun r hr => .inr (Nat.le_trans hszj (hob7 r (Option.mem_toList.1 hr)).1))); (have HC8 := Lib.hid (blk_gl HC6.out hgn si_)); (have fa := blk_cell HC8.out); (have fb := blk_free HC8.out); (have fl := blk_lt HC8.out); clear tok2 _t))
               obtain ⟨g8, c8, hv8, hl8, hl8b, hs8⟩ := ownS_at hO8 (by simp [skFive])
               subst hv8
               have HG8 := Lib.hid (gok_gl HG0.out (gl_step hgn HW6.out si_) si_)
               go_wp2_with fail
               clear fa fb fl
               refine (lSessionPlays [110, 49, 59] [110, 50, 59] [110, 51, 59] [110, 52, 59] [80, 110, 51, 59] de_ de_ de_ de_ de_ (some ⟨g8, 0, none⟩) c8 _ (by simp [skFive]; omega) _ HG8.out hs8 (app_ok (by obtain ⟨m, rfl⟩ := ht7; exact take_ok skOpen_ok _) (skFive_ok htl))).mono ?_
               rintro e w9 ⟨rfl, hb9⟩
               have hgn9 : GL [] v6 w9 := gl_below hb9 hgn
               go_wp2_with fail
               go_roundw
               case rel => first | exact ⟨j + 1, by omega, by go_num, Lib.hid hgn9⟩ | ((repeat apply Exists.intro); refine ⟨?_, rfl⟩; exact ⟨j + 1, by omega, by go_num, Lib.hid hgn9⟩)
               case measure => simp [intOf]; omega
             · have j1 : ¬ (j : Int) < 2 := by omega
               have hgk2 := gl_step hgj.out hg6 si_
               go_wp2_with fail
               go_roundw
               case rel => first | exact ⟨k + 1, by omega, by go_num, Lib.hid hgk2⟩ | ((repeat apply Exists.intro); refine ⟨?_, rfl⟩; exact ⟨k + 1, by omega, by go_num, Lib.hid hgk2⟩)
               case measure => simp [intOf]; omega
          · have i1 : ¬ (k : Int) < 10 := by omega
            have hgz := gl_step (gl_step hgk.out hg4 si_) hgr.out si_
            go_wp2_with fail
            go_roundw
            case rel => first | exact ⟨_, by omega, rfl, Lib.hid hgz⟩ | ((repeat apply Exists.intro); refine ⟨?_, rfl⟩; exact ⟨_, by omega, rfl, Lib.hid hgz⟩)
            case measure => first | (simp [intOf]; done) | decide
        · go_wp2_with fail
          have HX := Lib.hid (show ∀ (k : Nat) (x : List UInt8), skX[k]? = some x → (v3.alloc (.cells #[.string (bs []), .string (bs [110]), .string (bs [86, 110, 49, 59, 110, 50, 59]), .string (bs [116, 48, 58]), .string (bs [80, 110, 49, 59]), .string (bs [75, 110, 49, 59, 116, 48, 58]), .string (bs [87, 80, 110, 49, 59, 80, 110, 50, 59])] 22)).cell? ⟨v3.heap.size, k, none⟩ = some (.string (bs x)) from fun k x hx => by
           refine (blk_cell (blk_new v3 (.cells #[.string (bs []), .string (bs [110]), .string (bs [86, 110, 49, 59, 110, 50, 59]), .string (bs [116, 48, 58]), .string (bs [80, 110, 49, 59]), .string (bs [75, 110, 49, 59, 116, 48, 58]), .string (bs [87, 80, 110, 49, 59, 80, 110, 50, 59])] 22)) k).trans ?_
           rw [show (#[.string (bs []), .string (bs [110]), .string (bs [86, 110, 49, 59, 110, 50, 59]), .string (bs [116, 48, 58]), .string (bs [80, 110, 49, 59]), .string (bs [75, 110, 49, 59, 116, 48, 58]), .string (bs [87, 80, 110, 49, 59, 80, 110, 50, 59])] : Array Value) = (skX.map fun y => Value.string (bs y)).toArray from rfl, List.getElem?_toArray, List.getElem?_map, hx]
           rfl)
          have hg4 : GL [] v3 (v3.alloc (.cells #[.string (bs []), .string (bs [110]), .string (bs [86, 110, 49, 59, 110, 50, 59]), .string (bs [116, 48, 58]), .string (bs [80, 110, 49, 59]), .string (bs [75, 110, 49, 59, 116, 48, 58]), .string (bs [87, 80, 110, 49, 59, 80, 110, 50, 59])] 22)) := gl_alloc (gl_refl _ _) _
          obtain ⟨D, hD⟩ : ∃ D, D = v3.heap.size := ⟨_, rfl⟩
          rw [← hD]
          rw [← hD] at HX
          clear hD
          generalize v3.alloc (.cells #[.string (bs []), .string (bs [110]), .string (bs [86, 110, 49, 59, 110, 50, 59]), .string (bs [116, 48, 58]), .string (bs [80, 110, 49, 59]), .string (bs [75, 110, 49, 59, 116, 48, 58]), .string (bs [87, 80, 110, 49, 59, 80, 110, 50, 59])] 22) = v4 at *
          have HB4 := Lib.hid (blk_gl HB3.out hg4 si_)
          have HW4 := Lib.hid (gl_step hg4 (gl_step hgr.out HWv2.out si_) si_)
          clear HB3 HC3 HBv2 HC2 hgr
          go_loopw [119] (fun iv wr => ∃ k : Nat, k ≤ 7 ∧ iv = .int .i64 k ∧ Hid (GL [] v4 wr)) (fun iv _ => 7 - (intOf iv).toNat)
          case atStart => exact ⟨0, by omega, rfl, Lib.hid (gl_refl _ _)⟩
          case round =>
           obtain ⟨k, hk, rfl, hgk⟩ := hrel
           by_cases hlt : k < 7
           · have i1 : (k : Int) < 7 := by omega
             have hkL : k < skX.length := hlt
             have hx : skX[k]? = some skX[k] := List.getElem?_eq_getElem hkL
             have c0 := cell_glx (HX.out k _ hx) hgk.out si_
             have hxl := skX_le skX[k] (List.getElem_mem _)
             clear hx
             generalize skX[k] = x at *
             obtain ⟨v5, hv5⟩ : ∃ x : World, x = wr := ⟨_, rfl⟩
             subst hv5
             have HB5 := Lib.hid (blk_gl HB4.out hgk.out si_)
             have hGG : ∀ W, GL [] v5 W → GOk W := fun W hW => gok_gl HG0.out (gl_step hW (gl_step hgk.out HW4.out si_) si_) si_
             have hC1 : ∀ W, GL [] v5 W → Calls Tryz.prog 4 #[.agg #[.string (bs x), .string (bs [110, 50, 59]), .string (bs [110, 51, 59]), .string (bs [110, 52, 59]), .string (bs [80, 110, 51, 59])], .slice (some ⟨B, 0, none⟩) 3 3] W fun e W' => e = .returned (.bool true) ∧ GL [] v5 W' := fun W hW => (lSessionPlays x [110, 50, 59] [110, 51, 59] [110, 52, 59] [80, 110, 51, 59] om_ de_ de_ de_ de_ (some ⟨B, 0, none⟩) 3 skOpen de_ W (hGG W hW) (stepsAt_blk (blk_gl HB5.out hW si_) rfl) skOpen_ok).mono (fun e W' h => ⟨h.1, gl_below h.2 hW⟩)
             have hC2 : ∀ W, GL [] v5 W → Calls Tryz.prog 4 #[.agg #[.string (bs [110, 49, 59]), .string (bs x), .string (bs [110, 51, 59]), .string (bs [110, 52, 59]), .string (bs [80, 110, 51, 59])], .slice (some ⟨B, 0, none⟩) 3 3] W fun e W' => e = .returned (.bool true) ∧ GL [] v5 W' := fun W hW => (lSessionPlays [110, 49, 59] x [110, 51, 59] [110, 52, 59] [80, 110, 51, 59] de_ om_ de_ de_ de_ (some ⟨B, 0, none⟩) 3 skOpen de_ W (hGG W hW) (stepsAt_blk (blk_gl HB5.out hW si_) rfl) skOpen_ok).mono (fun e W' h => ⟨h.1, gl_below h.2 hW⟩)
             have hC3 : ∀ W, GL [] v5 W → Calls Tryz.prog 4 #[.agg #[.string (bs [110, 49, 59]), .string (bs [110, 50, 59]), .string (bs x), .string (bs [110, 52, 59]), .string (bs [80, 110, 51, 59])], .slice (some ⟨B, 0, none⟩) 3 3] W fun e W' => e = .returned (.bool true) ∧ GL [] v5 W' := fun W hW => (lSessionPlays [110, 49, 59] [110, 50, 59] x [110, 52, 59] [80, 110, 51, 59] de_ de_ om_ de_ de_ (some ⟨B, 0, none⟩) 3 skOpen de_ W (hGG W hW) (stepsAt_blk (blk_gl HB5.out hW si_) rfl) skOpen_ok).mono (fun e W' h => ⟨h.1, gl_below h.2 hW⟩)
             have hC4 : ∀ W, GL [] v5 W → Calls Tryz.prog 4 #[.agg #[.string (bs [110, 49, 59]), .string (bs [110, 50, 59]), .string (bs [110, 51, 59]), .string (bs x), .string (bs [80, 110, 51, 59])], .slice (some ⟨B, 0, none⟩) 3 3] W fun e W' => e = .returned (.bool true) ∧ GL [] v5 W' := fun W hW => (lSessionPlays [110, 49, 59] [110, 50, 59] [110, 51, 59] x [80, 110, 51, 59] de_ de_ de_ om_ de_ (some ⟨B, 0, none⟩) 3 skOpen de_ W (hGG W hW) (stepsAt_blk (blk_gl HB5.out hW si_) rfl) skOpen_ok).mono (fun e W' h => ⟨h.1, gl_below h.2 hW⟩)
             have hC5 : ∀ W, GL [] v5 W → Calls Tryz.prog 4 #[.agg #[.string (bs [110, 49, 59]), .string (bs [110, 50, 59]), .string (bs [110, 51, 59]), .string (bs [110, 52, 59]), .string (bs x)], .slice (some ⟨B, 0, none⟩) 3 3] W fun e W' => e = .returned (.bool true) ∧ GL [] v5 W' := fun W hW => (lSessionPlays [110, 49, 59] [110, 50, 59] [110, 51, 59] [110, 52, 59] x de_ de_ de_ de_ om_ (some ⟨B, 0, none⟩) 3 skOpen de_ W (hGG W hW) (stepsAt_blk (blk_gl HB5.out hW si_) rfl) skOpen_ok).mono (fun e W' h => ⟨h.1, gl_below h.2 hW⟩)
             have hC6 : ∀ W, GL [] v5 W → Calls Tryz.prog 5 #[.string (bs x), .string (bs [97])] W fun e W' => e = .returned (.bool true) ∧ GL [] v5 W' := fun W hW => (lSessionNone x [97] W (hGG W hW)).mono (fun e W' h => ⟨h.1, gl_below h.2 hW⟩)
             have hy0 : GL [] v5 v5 := gl_refl _ _
             go_wp2_with fail
             refine (hC1 _ hy0).mono ?_
             rintro e y1 ⟨rfl, hy1⟩
             go_wp2_with fail
             refine (hC2 _ hy1).mono ?_
             rintro e y2 ⟨rfl, hy2⟩
             go_wp2_with fail
             refine (hC3 _ hy2).mono ?_
             rintro e y3 ⟨rfl, hy3⟩
             go_wp2_with fail
             refine (hC4 _ hy3).mono ?_
             rintro e y4 ⟨rfl, hy4⟩
             go_wp2_with fail
             refine (hC5 _ hy4).mono ?_
             rintro e y5 ⟨rfl, hy5⟩
             go_wp2_with fail
             refine (hC6 _ hy5).mono ?_
             rintro e y6 ⟨rfl, hy6⟩
             have hgn := gl_step hy6 hgk.out si_
             clear hC1 hC2 hC3 hC4 hC5 hC6 hGG c0
             go_wp2_with fail
             go_roundw
             case rel => first | exact ⟨k + 1, by omega, by go_num, Lib.hid hgn⟩ | ((repeat apply Exists.intro); refine ⟨?_, rfl⟩; exact ⟨k + 1, by omega, by go_num, Lib.hid hgn⟩)
             case measure => simp [intOf]; omega
           · have i1 : ¬ (k : Int) < 7 := by omega
             obtain ⟨v5, hv5⟩ : ∃ x : World, x = wr := ⟨_, rfl⟩
             subst hv5
             have HW5 := Lib.hid (gl_step hgk.out HW4.out si_)
             clear HX HB4 hgk hg4
             have hm1 := blk_alloc (blk_new v5 (.cells #[.bool false, .string (bs [97]), .bool true, .string (bs [98])] 36)) (.cells #[.string (bs [110, 57, 59])] 22)
             have hm2 := blk_new (v5.alloc (.cells #[.bool false, .string (bs [97]), .bool true, .string (bs [98])] 36)) (.cells #[.string (bs [110, 57, 59])] 22)
             rw [show (v5.alloc (.cells #[.bool false, .string (bs [97]), .bool true, .string (bs [98])] 36)).heap.size = v5.heap.size + 1 by simp] at hm2
             have hgw := gl_alloc (gl_alloc HW5.out (.cells #[.bool false, .string (bs [97]), .bool true, .string (bs [98])] 36)) (.cells #[.string (bs [110, 57, 59])] 22)
             have HGw := Lib.hid (gok_gl HG0.out hgw si_)
             have HWA : Hid (WordsAt (.slice (some ⟨v5.heap.size, 0, none⟩) 2 2) [(false, [97]), (true, [98])] ((v5.alloc (.cells #[.bool false, .string (bs [97]), .bool true, .string (bs [98])] 36)).alloc (.cells #[.string (bs [110, 57, 59])] 22))) := .inr ⟨v5.heap.size, 0, 2, rfl, blk_lt hm1, fun k sd tx hk => by
              match k, hk with
              | 0, hk => simp at hk; obtain ⟨rfl, rfl⟩ := hk; exact ⟨blk_cell hm1 0, blk_cell hm1 1⟩
              | 1, hk => simp at hk; obtain ⟨rfl, rfl⟩ := hk; exact ⟨blk_cell hm1 2, blk_cell hm1 3⟩
              | k + 2, hk => simp at hk⟩
             have HTA : Hid (TermsAt (.slice (some ⟨v5.heap.size + 1, 0, none⟩) 1 1) [[110, 57, 59]] ((v5.alloc (.cells #[.bool false, .string (bs [97]), .bool true, .string (bs [98])] 36)).alloc (.cells #[.string (bs [110, 57, 59])] 22))) := .inr ⟨_, 0, 1, rfl, blk_lt hm2, fun k tx hk => by
              match k, hk with
              | 0, hk => simp at hk; subst hk; exact blk_cell hm2 0
              | k + 1, hk => simp at hk⟩
             clear hm1 hm2
             go_wp2_with fail
             refine (lSessionForges 1 2 3 4 (some ⟨v5.heap.size, 0, none⟩) 2 [(false, [97]), (true, [98])] (some ⟨v5.heap.size + 1, 0, none⟩) 1 [[110, 57, 59]] [99] de_ de_ de_ de_ de_ de_ de_ de_ de_ de_ de_ de_ de_ _ HWA.out HTA.out HGw.out).mono ?_
             rintro e y1 ⟨rfl, hb1⟩
             have hg1 := gl_below hb1 hgw
             clear hb1 HWA HTA
             have HG1 := Lib.hid (gok_gl HG0.out hg1 si_)
             go_wp2_with fail
             refine (lSessionMiddle 1 2 3 4 5 de_ de_ de_ de_ de_ de_ de_ de_ de_ de_ _ HG1.out).mono ?_
             rintro e y2 ⟨rfl, hb2⟩
             have hg2 := gl_below hb2 hg1
             clear hb2
             have HG2 := Lib.hid (gok_gl HG0.out hg2 si_)
             go_wp2_with fail
             refine (lWorks21 _ HG2.out).mono ?_
             rintro e y3 ⟨rfl, hb3⟩
             have hg3 := gl_below hb3 hg2
             go_wp2_with fail
             go_ret
             exact ⟨by first | rfl | (simp; done), gl_to_below hg3⟩
end Go.Proofs.YtaaiaahkakkleaaGreatDoor
