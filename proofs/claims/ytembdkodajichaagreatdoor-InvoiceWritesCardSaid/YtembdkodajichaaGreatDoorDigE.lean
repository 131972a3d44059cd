/- The program's SHA-256: sums of bytes, in digits. -/
import Derived.Test.YtembdkodajichaaGreatDoorDigD
import Derived.Laws.IdiomStrings
set_option maxRecDepth 100000
set_option maxHeartbeats 4000000
set_option linter.unusedSimpArgs false
set_option linter.unusedVariables false
namespace Go.Proofs.YtembdkodajichaaGreatDoor
open Go.RowKit
def InAt (bv : Value) (l : List UInt8) (w : World) : Prop := ∃ G o c, LeftAt bv G o c l.length 0 ∧ l.length ≤ c ∧ (l ≠ [] → BytesAt G o l w)
theorem inAt_gl {bv : Value} {l : List UInt8} {w w' : World} (h : InAt bv l w) (hg : GL [] w w') : InAt bv l w' := by
 obtain ⟨G, o, c, h1, h2, h3⟩ := h
 exact ⟨G, o, c, h1, h2, fun h => bytesAt_gl (h3 h) hg si_⟩
theorem inAt_ne {bv : Value} {l : List UInt8} {w : World} (h : InAt bv l w) (B : Nat) (hB : w.heap.size ≤ B) : ∃ G o c, LeftAt bv G o c l.length 0 ∧ l.length ≤ c ∧ G ≠ B ∧ (l ≠ [] → BytesAt G o l w) := by
 obtain ⟨G, o, c, h1, h2, h3⟩ := h
 by_cases hl : l = []
 · subst hl
   rcases h1 with ⟨h1, h4⟩ | ⟨h1, h4⟩
   · exact ⟨B + 1, o, c, .inl ⟨h1, h4⟩, h2, by omega, fun h => absurd rfl h⟩
   · simp at h1
 · have := (h3 hl).1
   exact ⟨G, o, c, h1, h2, by omega, h3⟩
theorem dSum (l : List UInt8) (bv : Value) (w : World) (hin : InAt bv l w) (hT : TabOk w) (hlen : l.length ≤ 900000000000) :
  Calls Tryz.prog 74 #[bv] w fun e w' => e = .returned (.agg (u8L (outB (sumS l))).toArray) ∧ Below w.heap.size w w' := by
 have HIN := Lib.hid hin
 have HT := Lib.hid hT
 have hTl : 7 < w.heap.size := World.block_lt_of_cell? _ _ (hT 0 om_)
 obtain ⟨ad, n, cc, rfl⟩ : ∃ ad n cc, bv = .slice ad n cc := by
  obtain ⟨G, o, c, h1, _⟩ := hin
  rcases h1 with ⟨_, ad, cc, h⟩ | ⟨_, h⟩
  · exact ⟨_, _, _, h⟩
  · exact ⟨_, _, _, h⟩
 clear hin hT
 go_enter Tryz.func74, Tryz.ntmps74
 go_wp2_with fail
 refine (dNew _).mono ?_
 rintro e w1 ⟨B, rfl, hB, hS, hb1⟩
 have hR := blk_below (blk_new w (.cells #[.int .u8 0, .int .u8 0, .int .u8 0, .int .u8 0, .int .u8 0, .int .u8 0, .int .u8 0, .int .u8 0, .int .u8 0, .int .u8 0, .int .u8 0, .int .u8 0, .int .u8 0, .int .u8 0, .int .u8 0, .int .u8 0, .int .u8 0, .int .u8 0, .int .u8 0, .int .u8 0, .int .u8 0, .int .u8 0, .int .u8 0, .int .u8 0, .int .u8 0, .int .u8 0, .int .u8 0, .int .u8 0, .int .u8 0, .int .u8 0, .int .u8 0, .int .u8 0] 104)) hb1 si_
 have hg1 : GL [] w w1 := gl_below hb1 (gl_alloc (gl_refl _ _) _)
 simp only [World.size_alloc] at hB
 have HR1 := Lib.hid hR
 have HS1 := Lib.hid hS
 have HG1 := Lib.hid hg1
 clear hR hS hg1 hb1
 go_wp2_with fail
 refine (dWrite B [] l _ w1 HS1.out (by
  obtain ⟨G, o, c, h1, h2, h3, h4⟩ := inAt_ne HIN.out B om_
  exact ⟨G, o, c, h1, h2, h3, fun h => bytesAt_gl (h4 h) HG1.out si_⟩) (tab_gl HT.out HG1.out si_) so_ om_).mono ?_
 rintro e w2 ⟨rfl, hS2, hg2⟩
 rw [List.nil_append] at hS2
 have HS2 := Lib.hid hS2
 have HR2 := Lib.hid (blk_gl HR1.out hg2 so_)
 have HG2 : Hid (GL [] w w2) := Lib.hid (gl_step hg2 HG1.out so_)
 clear hS2 hg2 HS1 HR1
 go_wp2_with fail
 refine (dSumS B l w2 HS2.out (tab_gl HT.out HG2.out si_) hlen).mono ?_
 rintro e w3 ⟨rfl, hb3⟩
 have hR3 := blk_below HR2.out hb3 (blk_lt HR2.out)
 have hg3 := gl_below hb3 HG2.out
 have hl32 : (u8L (outB (sumS l))).length = 32 := by rw [u8L_len, outB_len]
 have hone : ∀ v ∈ u8L (outB (sumS l)), v.oneCell' = true := fun x hx => by
  unfold u8L at hx
  obtain ⟨y, _, rfl⟩ := List.mem_map.1 hx
  rfl
 have hsc2 := run_storeCells_cells (P := Tryz.prog) w.heap.size 0 (u8L (outB (sumS l))) 0 w3 (fun j hj => by have := (there_blk hR3 j (by rw [hl32] at hj; exact hj)).1; simpa using this) (fun j hj => by have := (there_blk hR3 j (by rw [hl32] at hj; exact hj)).2; simpa using this) hone
 rw [Nat.add_zero] at hsc2
 have hRf := blk_whole (vs := u8L (outB (sumS l))) hR3 (by rw [hl32]; rfl)
 have hlv := run_loadVar_mid (P := Tryz.prog) (w3.setCells w.heap.size 0 (u8L (outB (sumS l)))) w.heap.size 0 104 (u8L (outB (sumS l))) _ (rangeAt_blk hRf) Tryz.underlying104 rfl (by rw [Tryz.sizeA32, hl32])
 have HFIN : Hid (Below w.heap.size w (w3.setCells w.heap.size 0 (u8L (outB (sumS l))))) := Lib.hid (gl_to_below (gl_setCells (.inr om_) _ 0 _ hg3))
 clear hR3 hg3 hRf hone hb3
 generalize hob : u8L (outB (sumS l)) = ob at *
 go_wp2_with fail
 exact bodyPost_ret (v := .agg ob.toArray) (by simp [results, Tryz.results74, asAddr, hlv]) rfl (by
  refine ⟨?_, ?_⟩
  · first | rfl | rw [hob]
  · exact HFIN.out)
theorem hexB_app (a b : List UInt8) : hexB (a ++ b) = hexB a ++ hexB b := by unfold hexB; rw [List.flatMap_append]
theorem index_agg (w : World) (cs : Array Value) (i : Nat) (x : Value) (hi : i < 32) (hx : cs[i]? = some x) : (Instr.index 104 (.agg cs) (.int .i64 (i : Int))).run Tryz.prog w = .ok x w := by
 have h2 : (0 : Int) ≤ (i : Int) ∧ (i : Int) < 32 := by omega
 obtain ⟨j, hj, hjs⟩ := Option.map_eq_some_iff.1 Tryz.sizeU8
 simp [Instr.index, run_underlying Tryz.underlying104, asIntOf, sizeOf, typeInfo, hj, hjs, part, h2]
 rw [if_pos hi, hx]
 rfl
def digL : List UInt8 := [48, 49, 50, 51, 52, 53, 54, 55, 56, 57, 97, 98, 99, 100, 101, 102]
theorem digL_get : ∀ k : Fin 16, digL[k.val]'k.isLt = hexC k.val := by decide
theorem digL_int (x : Int) (k : Nat) (hx : x.toNat = k) (h : k < 16) (h2 : x.toNat < [48, 49, 50, 51, 52, 53, 54, 55, 56, 57, 97, 98, 99, 100, 101, (102 : UInt8)].length) : [48, 49, 50, 51, 52, 53, 54, 55, 56, 57, 97, 98, 99, 100, 101, (102 : UInt8)][x.toNat]'h2 = hexC k := by
 subst hx
 exact digL_get ⟨_, h⟩
def hexO (ob : List UInt8) (i : Nat) : Array Value := (u8L (hexB (ob.take i)) ++ List.replicate (64 - 2 * i) (Value.int .u8 0)).toArray
theorem hexO_zero (ob : List UInt8) (i j : Nat) (h : ob.length = 32) (hi : i < 32) (hj : 2 * i ≤ j) (hj2 : j < 64) : (hexO ob i)[j]? = some (.int .u8 0) := by
 have e : (u8L (hexB (ob.take i))).length = 2 * i := by rw [u8L_len, hexB_len, List.length_take]; omega
 unfold hexO
 rw [List.getElem?_toArray, List.getElem?_append_right om_, List.getElem?_replicate, if_pos om_]
theorem hexO_set (ob : List UInt8) (i : Nat) (h : ob.length = 32) (hi : i < 32) : ((hexO ob i).setIfInBounds (2 * i) (.int .u8 (hexC ((ob.getD i 0).toNat / 16)).toNat)).setIfInBounds (2 * i + 1) (.int .u8 (hexC ((ob.getD i 0).toNat % 16)).toNat) = hexO ob (i + 1) := by
 have e : (u8L (hexB (ob.take i))).length = 2 * i := by rw [u8L_len, hexB_len, List.length_take]; omega
 unfold hexO
 rw [List.setIfInBounds_toArray, List.setIfInBounds_toArray, List.set_append_right _ _ om_, List.set_append_right _ _ om_]
 congr 1
 rw [e, Nat.sub_self, show 2 * i + 1 - 2 * i = 1 by omega, show 64 - 2 * i = (64 - 2 * (i + 1)) + 1 + 1 by omega, List.replicate_succ, List.replicate_succ, List.set_cons_zero, List.set_cons_succ, List.set_cons_zero]
 rw [List.take_add_one, List.getElem?_eq_getElem om_, List.getD_eq_getElem?_getD, List.getElem?_eq_getElem om_, hexB_app]
 simp only [u8L, hexB, List.map_append, List.append_assoc, Option.toList_some, Option.getD_some, List.flatMap_cons, List.flatMap_nil, List.map_cons, List.map_nil, List.cons_append, List.nil_append, List.append_nil]
theorem dHex (l : List UInt8) (bv : Value) (w : World) (hin : InAt bv l w) (hT : TabOk w) (hlen : l.length ≤ 900000000000) :
  Calls Tryz.prog 37 #[bv] w fun e w' => e = .returned (.string (bs (hexT l))) ∧ Below w.heap.size w w' := by
 have HIN := Lib.hid hin
 have HT := Lib.hid hT
 obtain ⟨ad, n, cc, rfl⟩ : ∃ ad n cc, bv = .slice ad n cc := by
  obtain ⟨G, o, c, h1, _⟩ := hin
  rcases h1 with ⟨_, ad, cc, h⟩ | ⟨_, h⟩
  · exact ⟨_, _, _, h⟩
  · exact ⟨_, _, _, h⟩
 clear hin hT
 go_enter Tryz.func37, Tryz.ntmps37
 go_wp2_with fail
 refine (dSum l _ _ (inAt_gl HIN.out (gl_alloc (gl_refl _ _) _)) (tab_gl HT.out (gl_alloc (gl_refl [] _) _) si_) hlen).mono ?_
 rintro e w1 ⟨rfl, hb1⟩
 have hO := blk_below (blk_new w (.cells #[.int .u8 0, .int .u8 0, .int .u8 0, .int .u8 0, .int .u8 0, .int .u8 0, .int .u8 0, .int .u8 0, .int .u8 0, .int .u8 0, .int .u8 0, .int .u8 0, .int .u8 0, .int .u8 0, .int .u8 0, .int .u8 0, .int .u8 0, .int .u8 0, .int .u8 0, .int .u8 0, .int .u8 0, .int .u8 0, .int .u8 0, .int .u8 0, .int .u8 0, .int .u8 0, .int .u8 0, .int .u8 0, .int .u8 0, .int .u8 0, .int .u8 0, .int .u8 0, .int .u8 0, .int .u8 0, .int .u8 0, .int .u8 0, .int .u8 0, .int .u8 0, .int .u8 0, .int .u8 0, .int .u8 0, .int .u8 0, .int .u8 0, .int .u8 0, .int .u8 0, .int .u8 0, .int .u8 0, .int .u8 0, .int .u8 0, .int .u8 0, .int .u8 0, .int .u8 0, .int .u8 0, .int .u8 0, .int .u8 0, .int .u8 0, .int .u8 0, .int .u8 0, .int .u8 0, .int .u8 0, .int .u8 0, .int .u8 0, .int .u8 0, .int .u8 0] 103)) hb1 si_
 have hg1 : GL [] w w1 := gl_below hb1 (gl_alloc (gl_refl _ _) _)
 have hob : (outB (sumS l)).length = 32 := outB_len _
 have HH : Hid (hexT l = hexB (outB (sumS l))) := Lib.hid rfl
 generalize outB (sumS l) = ob at *
 have HO1 : Hid (w1.heap[w.heap.size]? = some (.cells (hexO ob 0) 103 (0, 0))) := Lib.hid hO
 have HG1 := Lib.hid hg1
 have hOl := blk_lt hO
 clear hO hg1 hb1
 go_wp2_with fail
 go_loopw [4, 5, 8] (fun _ _ iv wr => ∃ i : Nat, i ≤ 32 ∧ iv = .int .i64 i ∧ Hid (GL [w.heap.size] w1 wr) ∧ Hid (wr.heap[w.heap.size]? = some (.cells (hexO ob i) 103 (0, 0)))) (fun _ _ iv _ => 32 - (intOf iv).toNat)
 case atStart => exact ⟨0, by omega, rfl, Lib.hid (gl_refl _ _), HO1⟩
 case round =>
  obtain ⟨i, hi, rfl, hgr, hor⟩ := hrel
  by_cases hlt : i < 32
  · have hix : (u8L ob).toArray[i]? = some (.int .u8 (ob.getD i 0).toNat) := by
     rw [List.getElem?_toArray]
     unfold u8L
     rw [List.getElem?_map, List.getElem?_eq_getElem om_, List.getD_eq_getElem?_getD, List.getElem?_eq_getElem om_]
     rfl
    have hsz : (u8L ob).length = 32 := by rw [u8L_len, hob]
    have c0 := (blk_cell hor.out (2 * i)).trans (hexO_zero ob i (2 * i) hob hlt om_ om_)
    have c1 := (blk_cell hor.out (2 * i + 1)).trans (hexO_zero ob i (2 * i + 1) hob hlt om_ om_)
    have fz := blk_free hor.out
    have HSET := Lib.hid (hexO_set ob i hob hlt)
    have HOr := Lib.hid hor.out
    have i32 : (i : Int) < 32 := by omega
    have hc := (ob.getD i 0).toNat_lt
    generalize (ob.getD i 0).toNat = c at *
    have hia := index_agg wr (u8L ob).toArray i _ hlt hix
    have n0 : ((2 : Int) * (i : Int)).toNat = 2 * i := by omega
    have n1 : ((2 : Int) * (i : Int) + 1).toNat = 2 * i + 1 := by omega
    have c16 : (c : Int) / 16 < 16 := by omega
    have c17 : (0 : Int) ≤ (c : Int) / 16 := by omega
    have c18 : (c : Int) % 16 < 16 := by omega
    have c19 : (0 : Int) ≤ (c : Int) % 16 := by omega
    have e16 : ((c : Int) / 16).toNat = c / 16 := by omega
    have e17 : ((c : Int) % 16).toNat = c % 16 := by omega
    clear hor hix
    go_wp2
    go_region
    go_wp2
    go_roundw
    case rel =>
     refine ⟨i + 1, by omega, by go_num, Lib.hid (gl_set (gl_set (gl_drew hgr.out) (.inl si_) _) (.inl si_) _), ?_⟩
     show _ = _
     rw [← HSET.out]
     have h : ∀ x y : Int, x = (hexC (c / 16)).toNat → y = (hexC (c % 16)).toNat → ((wr.setCell ⟨w.heap.size, 2 * i, none⟩ (.int .u8 x)).setCell ⟨w.heap.size, 2 * i + 1, none⟩ (.int .u8 y)).heap[w.heap.size]? = some (.cells (((hexO ob i).setIfInBounds (2 * i) (.int .u8 (hexC (c / 16)).toNat)).setIfInBounds (2 * i + 1) (.int .u8 (hexC (c % 16)).toNat)) 103 (0, 0)) := by
      rintro _ _ rfl rfl
      exact blk_set (blk_set HOr.out _ _) _ _
     exact blk_drew (h _ _ (congrArg (fun z : UInt8 => ((z.toNat : Nat) : Int)) (digL_get ⟨c / 16, by omega⟩)) (congrArg (fun z : UInt8 => ((z.toNat : Nat) : Int)) (digL_get ⟨c % 16, by omega⟩)))
    case measure => simp [intOf]; omega
  · obtain rfl : i = 32 := by omega
    have hO := hor.out
    have e64 : hexO ob 32 = (u8L (hexB ob)).toArray := by
     unfold hexO
     rw [List.take_of_length_le om_]
     simp
    rw [e64] at hO
    have h64 : (hexB ob).length = 64 := by rw [hexB_len, hob]
    have hcv := run_convert_bytes_back (P := Tryz.prog) wr 47 9 5 ⟨w.heap.size, 0, none⟩ 64 (hexB ob) Tryz.underlying47 Tryz.underlying5 Tryz.underlying9 (fun j hj => by
     have h3 : (⟨w.heap.size, 0, none⟩ : Addr).add j = ⟨w.heap.size, j, none⟩ := by unfold Addr.add; split <;> simp_all
     rw [h3, blk_cell hO, List.getElem?_toArray]
     unfold u8L
     rw [List.getElem?_map, List.getElem?_eq_getElem hj]
     rfl)
    rw [h64, bs_mk] at hcv
    have HFIN : Hid (Below w.heap.size w wr) := Lib.hid (gl_to_below (gl_step hgr.out HG1.out si_))
    clear hor hgr hO
    go_wp2
    go_ret
    exact ⟨by rw [HH.out]; rfl, HFIN.out⟩
end Go.Proofs.YtembdkodajichaaGreatDoor
