/- The program's bech: the check of words. -/
import Derived.Test.YtembdkodajichaaGreatDoorDigE
import Derived.Test.YtembdkodajichaaGreatDoorBechP
set_option maxRecDepth 100000
set_option maxHeartbeats 4000000
set_option linter.unusedSimpArgs false
set_option linter.unusedVariables false
namespace Go.Proofs.YtembdkodajichaaGreatDoor
open Go.RowKit
theorem xor_u32 (a b : Nat) (ha : a < 4294967296) (hb : b < 4294967296) : bits .xor .u32 (a : Int) (b : Int) = ((a ^^^ b : Nat) : Int) := by
 show IntKind.u32.wrap (((BitVec.ofInt 32 (a : Int) ^^^ BitVec.ofInt 32 (b : Int)).toNat : Nat) : Int) = _
 have h := Nat.xor_lt_two_pow (n := 32) ha hb
 rw [BitVec.toNat_xor, BitVec.ofInt_natCast, BitVec.ofInt_natCast, BitVec.toNat_ofNat, BitVec.toNat_ofNat, Nat.mod_eq_of_lt ha, Nat.mod_eq_of_lt hb, u32_mod]
 omega
theorem and_25 (a : Nat) (ha : a < 4294967296) : bits .and .u32 (a : Int) 33554431 = ((a % 2 ^ 25 : Nat) : Int) := by
 show IntKind.u32.wrap (((BitVec.ofInt 32 (a : Int) &&& BitVec.ofInt 32 33554431).toNat : Nat) : Int) = _
 have h2 : (BitVec.ofInt 32 33554431).toNat = 2 ^ 25 - 1 := by decide
 rw [BitVec.toNat_and, h2, BitVec.ofInt_natCast, BitVec.toNat_ofNat, Nat.mod_eq_of_lt ha, Nat.and_two_pow_sub_one_eq_mod, u32_mod]
 omega
theorem first_eq (q x : Nat) (hq : q < 2 ^ 30) (hx : x < 2 ^ 8) : bits .xor .u32 (bits .and .u32 (q : Int) 33554431 * 32 % 4294967296) (x : Int) = ((((q % 2 ^ 25) * 32) ^^^ x : Nat) : Int) := by
 rw [and_25 q om_, show (((q % 2 ^ 25 : Nat) : Int) * 32 % 4294967296) = (((q % 2 ^ 25) * 32 : Nat) : Int) by omega, xor_u32 _ _ om_ om_]
theorem and_1 (a : Nat) (ha : a < 4294967296) : bits .and .u32 (a : Int) 1 = ((a % 2 : Nat) : Int) := by
 show IntKind.u32.wrap (((BitVec.ofInt 32 (a : Int) &&& BitVec.ofInt 32 1).toNat : Nat) : Int) = _
 have h2 : (BitVec.ofInt 32 1).toNat = 2 ^ 1 - 1 := by decide
 rw [BitVec.toNat_and, h2, BitVec.ofInt_natCast, BitVec.toNat_ofNat, Nat.mod_eq_of_lt ha, Nat.and_two_pow_sub_one_eq_mod, u32_mod]
 omega
theorem step_eq (P K v : Nat) (KI vI : Int) (hKI : KI = (K : Int)) (hvI : vI = (v : Int)) (hP : P < 2 ^ 30) (hK : K < 2 ^ 30) (hv : v < 32) : bits .xor .u32 (P : Int) (KI * bits .and .u32 vI 1 % 4294967296) = ((P ^^^ (if v % 2 = 1 then K else 0) : Nat) : Int) := by
 rw [hKI, hvI, and_1 v om_]
 split
 · rename_i h
   rw [h, show ((K : Int) * ((1 : Nat) : Int) % 4294967296) = (K : Int) by omega, xor_u32 _ _ om_ om_]
 · rename_i h
   rw [show v % 2 = 0 by omega, show ((K : Int) * ((0 : Nat) : Int) % 4294967296) = ((0 : Nat) : Int) by omega, xor_u32 _ _ om_ om_]
theorem Tryz.sizeSm : (Tryz.prog.info? 122).map (·.size) = some 1 := by kernel_rfl
theorem index_agg5 (w : World) (cs : Array Value) (i : Nat) (x : Value) (hi : i < 5) (hx : cs[i]? = some x) : (Instr.index 170 (.agg cs) (.int .i64 (i : Int))).run Tryz.prog w = .ok x w := by
 have h2 : (0 : Int) ≤ (i : Int) ∧ (i : Int) < 5 := by omega
 obtain ⟨j, hj, hjs⟩ := Option.map_eq_some_iff.1 Tryz.sizeSm
 simp [Instr.index, run_underlying Tryz.underlying170, asIntOf, sizeOf, typeInfo, hj, hjs, part, h2]
 rw [if_pos hi, hx]
 rfl
def partG (i t s : Nat) : Nat := turnG (turnK.take i) t s
theorem partG_zero (t s : Nat) : partG 0 t s = s := rfl
theorem partG_all (t s : Nat) : partG 5 t s = turnG turnK t s := rfl
theorem partG_step : ∀ (i t s : Nat), i < 5 → partG (i + 1) t s = partG i t s ^^^ (if t / 2 ^ i % 2 = 1 then turnK.getD i 0 else 0) := by
 intro i t s hi
 rcases (by omega : i = 0 ∨ i = 1 ∨ i = 2 ∨ i = 3 ∨ i = 4) with rfl | rfl | rfl | rfl | rfl
 · simp [partG, turnK, turnG]
 · simp [partG, turnK, turnG]
 · simp [partG, turnK, turnG, Nat.div_div_eq_div_mul]
 · simp [partG, turnK, turnG, Nat.div_div_eq_div_mul]
 · simp [partG, turnK, turnG, Nat.div_div_eq_div_mul]
theorem partG_lt (i t s : Nat) (hi : i ≤ 5) (hs : s < 2 ^ 30) : partG i t s < 2 ^ 30 := by
 induction i with
 | zero => exact hs
 | succ i ih =>
   rw [partG_step i t s om_]
   refine Nat.xor_lt_two_pow (ih om_) ?_
   split
   · rcases (by omega : i = 0 ∨ i = 1 ∨ i = 2 ∨ i = 3 ∨ i = 4) with rfl | rfl | rfl | rfl | rfl <;> decide
   · omega
theorem bAdd (B s : Nat) (l : List UInt8) (bv : Value) (w : World) (hB : w.heap[B]? = some (.cells #[.int .u32 (s : Int)] 122 (0, 0))) (hs : s < 2 ^ 30) (hll : l.length ≤ 1000000000) (hin : InAt bv l w) (hne : ∀ G o c, bv = .slice (some ⟨G, o, none⟩) l.length c → l ≠ [] → G ≠ B) :
  Calls Tryz.prog 84 #[.pointer (some ⟨B, 0, none⟩), bv] w fun e w' => e = .returned (.tuple #[]) ∧ w'.heap[B]? = some (.cells #[.int .u32 (poly s l : Nat)] 122 (0, 0)) ∧ GL [B] w w' := by
 obtain ⟨ad, cc, rfl, hby⟩ : ∃ ad cc, bv = .slice ad l.length cc ∧ (l ≠ [] → ∃ G o, ad = some ⟨G, o, none⟩ ∧ G ≠ B ∧ BytesAt G o l w) := by
  obtain ⟨G, o, c, h1, h2, h3⟩ := hin
  rcases h1 with ⟨h1, ad, cc, h⟩ | ⟨h1, h⟩
  · refine ⟨ad, cc, by rw [h, ← h1], fun h => ?_⟩
    exact absurd (List.eq_nil_of_length_eq_zero h1.symm) h
  · refine ⟨some ⟨G, o, none⟩, c, by simpa using h, fun hl => ⟨G, o, rfl, hne G o c (by simpa using h) hl, h3 hl⟩⟩
 have HBY := Lib.hid hby
 have HB := Lib.hid hB
 have hBl := blk_lt hB
 clear hB hin hne hby
 go_enter Tryz.func84, Tryz.ntmps84
 go_wp2_with fail
 have HA1 : Hid ((w.alloc (.cells #[.int .u32 996825010, .int .u32 642813549, .int .u32 513874426, .int .u32 1027748829, .int .u32 705979059] 170)).heap[w.heap.size]? = some (.cells #[.int .u32 996825010, .int .u32 642813549, .int .u32 513874426, .int .u32 1027748829, .int .u32 705979059] 170 (0, 0))) := Lib.hid (blk_new w _)
 have HB1 := Lib.hid (blk_alloc HB.out (.cells #[.int .u32 996825010, .int .u32 642813549, .int .u32 513874426, .int .u32 1027748829, .int .u32 705979059] 170))
 have hg1 : GL [B] w (w.alloc (.cells #[.int .u32 996825010, .int .u32 642813549, .int .u32 513874426, .int .u32 1027748829, .int .u32 705979059] 170)) := gl_alloc (gl_refl _ _) _
 have hHs : w.heap.size < (w.alloc (.cells #[.int .u32 996825010, .int .u32 642813549, .int .u32 513874426, .int .u32 1027748829, .int .u32 705979059] 170)).heap.size := by simp
 generalize w.alloc (.cells #[.int .u32 996825010, .int .u32 642813549, .int .u32 513874426, .int .u32 1027748829, .int .u32 705979059] 170) = w1 at *
 go_loopw [6, 7, 8, 9, 13] (fun _ _ _ _ iv wr => ∃ j : Nat, j ≤ l.length ∧ iv = .int .i64 j ∧ Hid (GL [B] w1 wr) ∧ Hid (wr.heap[B]? = some (.cells #[.int .u32 (poly s (l.take j) : Nat)] 122 (0, 0)))) (fun _ _ _ _ iv _ => l.length - (intOf iv).toNat)
 case atStart => exact ⟨0, by omega, rfl, Lib.hid (gl_refl _ _), HB1⟩
 case round =>
  obtain ⟨j, hj, rfl, hgr, hbr⟩ := hrel
  by_cases hlt : j < l.length
  · obtain ⟨G, o, rfl, hGB, hbw⟩ := HBY.out (fun e => by subst e; simp at hlt)
    have cj := (bytesAt_gl (bytesAt_gl hbw hg1 so_) hgr.out so_).2 j hlt
    have hp : poly s (l.take j) < 2 ^ 30 := poly_lt s _ hs
    have htk : poly s (l.take (j + 1)) = poly1 (poly s (l.take j)) (l.getD j 0).toNat := by
     rw [List.take_add_one, List.getElem?_eq_getElem hlt, Option.toList_some, poly_append, poly, poly, List.getD_eq_getElem?_getD, List.getElem?_eq_getElem hlt]
     rfl
    have HTK := Lib.hid htk
    have hwb := (l.getD j 0).toNat_lt
    generalize hq : poly s (l.take j) = q at *
    generalize (l.getD j 0).toNat = x at *
    have HBr := Lib.hid hbr.out
    have HAr := Lib.hid (blk_gl HA1.out hgr.out so_)
    have fB := blk_cell HBr.out
    have eB := blk_free HBr.out
    have lB := blk_lt HBr.out
    have fA := blk_cell HAr.out
    have eA := blk_free HAr.out
    have hsh : ((q : Int) % 33554432 * 32 : Int) = (((q % 2 ^ 25) * 32 : Nat) : Int) := by omega
    have hj1 : (j : Int) < l.length := by omega
    clear hbr htk hbw
    go_wp2
    rw [first_eq q x hp hwb]
    have hs0 : ((q % 2 ^ 25) * 32) ^^^ x < 2 ^ 30 := Nat.xor_lt_two_pow om_ om_
    have HP1 : Hid (poly s (l.take (j + 1)) = partG 5 (q / 2 ^ 25) (((q % 2 ^ 25) * 32) ^^^ x)) := by
     show _ = _
     rw [HTK.out, partG_all]
     rfl
    have HBs : Hid ((wr.setCell ⟨B, 0, none⟩ (.int .u32 ((((q % 2 ^ 25) * 32) ^^^ x : Nat) : Int))).heap[B]? = some (.cells #[.int .u32 (partG 0 (q / 2 ^ 25) (((q % 2 ^ 25) * 32) ^^^ x) : Nat)] 122 (0, 0))) := Lib.hid (blk_set HBr.out 0 _)
    have HGs : Hid (GL [B] w1 (wr.setCell ⟨B, 0, none⟩ (.int .u32 ((((q % 2 ^ 25) * 32) ^^^ x : Nat) : Int)))) := Lib.hid (gl_set hgr.out (.inl si_) _)
    clear fB eB lB fA eA HBr HAr hgr cj hsh
    generalize ((q % 2 ^ 25) * 32) ^^^ x = s0 at *
    generalize wr.setCell ⟨B, 0, none⟩ (.int .u32 (s0 : Int)) = wo at *
    have ht : (q : Int) / 33554432 = ((q / 2 ^ 25 : Nat) : Int) := by omega
    generalize hqt : q / 2 ^ 25 = t at *
    have ht32 : t < 32 := by omega
    go_loopw [8, 9, 32] (fun _ _ iv wr => ∃ i : Nat, i ≤ 5 ∧ iv = .int .i64 i ∧ Hid (GL [B] wo wr) ∧ Hid (wr.heap[B]? = some (.cells #[.int .u32 (partG i t s0 : Nat)] 122 (0, 0)))) (fun _ _ iv _ => 5 - (intOf iv).toNat)
    case atStart => exact ⟨0, by omega, rfl, Lib.hid (gl_refl _ _), HBs⟩
    case round =>
     obtain ⟨i, hi, rfl, hgr, hbr⟩ := hrel
     by_cases hlt2 : i < 5
     · have HBr := Lib.hid hbr.out
       have fB := blk_cell HBr.out
       have eB := blk_free HBr.out
       have lB := blk_lt HBr.out
       have HST := Lib.hid (partG_step i t s0 hlt2)
       have hpl := partG_lt i t s0 hi hs0
       clear hbr
       rcases (by omega : i = 0 ∨ i = 1 ∨ i = 2 ∨ i = 3 ∨ i = 4) with rfl | rfl | rfl | rfl | rfl
       · have hix : (Instr.index 170 (.agg #[.int .u32 996825010, .int .u32 642813549, .int .u32 513874426, .int .u32 1027748829, .int .u32 705979059]) (.int .i64 0)).run Tryz.prog wr = .ok (.int .u32 996825010) wr := index_agg5 wr _ 0 _ om_ rfl
         have hX : bits .xor .u32 (partG 0 t s0 : Nat) (996825010 * bits .and .u32 (t : Int) 1 % 4294967296) = ((partG 1 t s0 : Nat) : Int) := by
          rw [HST.out]
          exact step_eq _ (turnK.getD 0 0) (t / 2 ^ 0) _ _ (by simp [turnK]) om_ hpl de_ om_
         go_wp2
         go_region
         go_wp2
         go_roundw
         case rel => exact ⟨1, by omega, by go_num, Lib.hid (gl_drew (gl_set hgr.out (.inl si_) _)), Lib.hid (blk_drew (blk_set HBr.out 0 _))⟩
         case measure => first | (simp [intOf]; done) | (simp [intOf]; omega)
       · have hix : (Instr.index 170 (.agg #[.int .u32 996825010, .int .u32 642813549, .int .u32 513874426, .int .u32 1027748829, .int .u32 705979059]) (.int .i64 1)).run Tryz.prog wr = .ok (.int .u32 642813549) wr := index_agg5 wr _ 1 _ om_ rfl
         have hX : bits .xor .u32 (partG 1 t s0 : Nat) (642813549 * bits .and .u32 ((t : Int) / 2) 1 % 4294967296) = ((partG 2 t s0 : Nat) : Int) := by
          rw [HST.out]
          exact step_eq _ (turnK.getD 1 0) (t / 2 ^ 1) _ _ (by simp [turnK]) om_ hpl de_ om_
         go_wp2
         go_region
         go_wp2
         go_roundw
         case rel => exact ⟨2, by omega, by go_num, Lib.hid (gl_drew (gl_set hgr.out (.inl si_) _)), Lib.hid (blk_drew (blk_set HBr.out 0 _))⟩
         case measure => first | (simp [intOf]; done) | (simp [intOf]; omega)
       · have hix : (Instr.index 170 (.agg #[.int .u32 996825010, .int .u32 642813549, .int .u32 513874426, .int .u32 1027748829, .int .u32 705979059]) (.int .i64 2)).run Tryz.prog wr = .ok (.int .u32 513874426) wr := index_agg5 wr _ 2 _ om_ rfl
         have hX : bits .xor .u32 (partG 2 t s0 : Nat) (513874426 * bits .and .u32 ((t : Int) / 4) 1 % 4294967296) = ((partG 3 t s0 : Nat) : Int) := by
          rw [HST.out]
          exact step_eq _ (turnK.getD 2 0) (t / 2 ^ 2) _ _ (by simp [turnK]) om_ hpl de_ om_
         go_wp2
         go_region
         go_wp2
         go_roundw
         case rel => exact ⟨3, by omega, by go_num, Lib.hid (gl_drew (gl_set hgr.out (.inl si_) _)), Lib.hid (blk_drew (blk_set HBr.out 0 _))⟩
         case measure => first | (simp [intOf]; done) | (simp [intOf]; omega)
       · have hix : (Instr.index 170 (.agg #[.int .u32 996825010, .int .u32 642813549, .int .u32 513874426, .int .u32 1027748829, .int .u32 705979059]) (.int .i64 3)).run Tryz.prog wr = .ok (.int .u32 1027748829) wr := index_agg5 wr _ 3 _ om_ rfl
         have hX : bits .xor .u32 (partG 3 t s0 : Nat) (1027748829 * bits .and .u32 ((t : Int) / 8) 1 % 4294967296) = ((partG 4 t s0 : Nat) : Int) := by
          rw [HST.out]
          exact step_eq _ (turnK.getD 3 0) (t / 2 ^ 3) _ _ (by simp [turnK]) om_ hpl de_ om_
         go_wp2
         go_region
         go_wp2
         go_roundw
         case rel => exact ⟨4, by omega, by go_num, Lib.hid (gl_drew (gl_set hgr.out (.inl si_) _)), Lib.hid (blk_drew (blk_set HBr.out 0 _))⟩
         case measure => first | (simp [intOf]; done) | (simp [intOf]; omega)
       · have hix : (Instr.index 170 (.agg #[.int .u32 996825010, .int .u32 642813549, .int .u32 513874426, .int .u32 1027748829, .int .u32 705979059]) (.int .i64 4)).run Tryz.prog wr = .ok (.int .u32 705979059) wr := index_agg5 wr _ 4 _ om_ rfl
         have hX : bits .xor .u32 (partG 4 t s0 : Nat) (705979059 * bits .and .u32 ((t : Int) / 16) 1 % 4294967296) = ((partG 5 t s0 : Nat) : Int) := by
          rw [HST.out]
          exact step_eq _ (turnK.getD 4 0) (t / 2 ^ 4) _ _ (by simp [turnK]) om_ hpl de_ om_
         go_wp2
         go_region
         go_wp2
         go_roundw
         case rel => exact ⟨5, by omega, by go_num, Lib.hid (gl_drew (gl_set hgr.out (.inl si_) _)), Lib.hid (blk_drew (blk_set HBr.out 0 _))⟩
         case measure => first | (simp [intOf]; done) | (simp [intOf]; omega)
     · obtain rfl : i = 5 := by omega
       have h5 := hbr.out
       go_wp2
       go_roundw
       case rel =>
        refine ⟨j + 1, by omega, by go_num, Lib.hid (gl_step hgr.out HGs.out si_), ?_⟩
        rw [HP1.out]
        exact hbr
       case measure => simp [intOf]; omega
  · obtain rfl : j = l.length := by omega
    have h := hbr.out
    rw [List.take_length] at h
    go_wp2
    go_end0
    exact ⟨rfl, h, gl_step hgr.out hg1 si_⟩
end Go.Proofs.YtembdkodajichaaGreatDoor
