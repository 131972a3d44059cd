/- The program's bech: the table of letters. -/
import Derived.Test.YtembdkodajichaaGreatDoorBechD
set_option maxRecDepth 100000
set_option maxHeartbeats 4000000
set_option linter.unusedSimpArgs false
set_option linter.unusedVariables false
namespace Go.Proofs.YtembdkodajichaaGreatDoor
open Go.RowKit
def cellsL (l : List Nat) : List Value := l.map fun n : Nat => Value.int .u8 (n : Int)
def cellsN (l : List Nat) : Array Value := (cellsL l).toArray
theorem cellsL_len (l : List Nat) : (cellsL l).length = l.length := List.length_map _
theorem Tryz.sizeA128 : (Tryz.prog.info? 131).map (·.size) = some 128 := by kernel_rfl
theorem cellsN_get (l : List Nat) (i : Nat) (h : i < l.length) : (cellsN l)[i]? = some (.int .u8 ((l.getD i 0 : Nat) : Int)) := by
 unfold cellsN cellsL
 rw [List.getElem?_toArray, List.getElem?_map, List.getElem?_eq_getElem h, List.getD_eq_getElem?_getD, List.getElem?_eq_getElem h]
 rfl
theorem cellsN_set (l : List Nat) (i n : Nat) : (cellsN l).setIfInBounds i (.int .u8 (n : Int)) = cellsN (l.set i n) := by
 unfold cellsN cellsL
 rw [List.setIfInBounds_toArray, List.map_set]
def findA (i : Nat) : List Nat := List.replicate i 32 ++ List.replicate (128 - i) 0
def findB (i : Nat) : List Nat := (List.range i).foldl (fun acc j => acc.set (letter j).toNat j) (findA 128)
theorem findA_step : ∀ i : Fin 128, (findA i.val).set i.val 32 = findA (i.val + 1) := by decide +kernel
theorem findA_len : ∀ i : Fin 129, (findA i.val).length = 128 := by decide +kernel
theorem findB_step : ∀ i : Fin 32, (findB i.val).set (letter i.val).toNat i.val = findB (i.val + 1) := by decide +kernel
theorem findB_len : ∀ i : Fin 33, (findB i.val).length = 128 := by decide +kernel
theorem letter_128 : ∀ i : Fin 32, (letter i.val).toNat < 128 := by decide +kernel
theorem find_zero : Tryz.zeroCells131 = cellsN (findA 0) := by rfl
theorem bFound (w : World) :
  Calls Tryz.prog 100 #[] w fun e w' => e = .returned (.agg (cellsN (findB 32))) ∧ Below w.heap.size w w' := by
 go_enter Tryz.func100, Tryz.ntmps100
 go_wp2_with fail
 have HB1 : Hid ((w.alloc (.cells Tryz.zeroCells131 131)).heap[w.heap.size]? = some (.cells (cellsN (findA 0)) 131 (0, 0))) := Lib.hid (by rw [← find_zero]; exact blk_new _ _)
 have HG1 : Hid (GL [] w (w.alloc (.cells Tryz.zeroCells131 131))) := Lib.hid (gl_alloc (gl_refl _ _) _)
 generalize w.alloc (.cells Tryz.zeroCells131 131) = w1 at *
 go_loopw [1, 3] (fun _ iv wr => ∃ i : Nat, i ≤ 128 ∧ iv = .int .i64 i ∧ Hid (wr.heap[w.heap.size]? = some (.cells (cellsN (findA i)) 131 (0, 0))) ∧ Hid (GL [] w wr)) (fun _ iv _ => 128 - (intOf iv).toNat)
 case atStart => exact ⟨0, by omega, rfl, HB1, HG1⟩
 case round =>
  obtain ⟨i, hi, rfl, hbr, hgr⟩ := hrel
  by_cases hlt : i < 128
  · have i1 : (i : Int) < 128 := by omega
    have f1 := (blk_cell hbr.out i).trans (cellsN_get (findA i) i (by rw [findA_len ⟨i, by omega⟩]; exact hlt))
    have f2 := blk_free hbr.out i
    have HST := Lib.hid (findA_step ⟨i, hlt⟩)
    generalize (findA i).getD i 0 = y at *
    go_wp2_with fail
    go_roundw
    case rel =>
     refine ⟨i + 1, by omega, by go_num, Lib.hid ?_, Lib.hid (gl_set hgr.out (.inr si_) _)⟩
     have h := blk_set hbr.out i (.int .u8 ((32 : Nat) : Int))
     rw [cellsN_set, HST.out] at h
     exact h
    case measure => simp [intOf]; omega
  · obtain rfl : i = 128 := by omega
    have HB2 : Hid (wr.heap[w.heap.size]? = some (.cells (cellsN (findB 0)) 131 (0, 0))) := hbr
    go_wp2_with fail
    go_loopw [2, 9] (fun _ iv wr => ∃ i : Nat, i ≤ 32 ∧ iv = .int .i64 i ∧ Hid (wr.heap[w.heap.size]? = some (.cells (cellsN (findB i)) 131 (0, 0))) ∧ Hid (GL [] w wr)) (fun _ iv _ => 32 - (intOf iv).toNat)
    case atStart => exact ⟨0, by omega, rfl, HB2, hgr⟩
    case round =>
     clear HB2 hbr hgr
     obtain ⟨i, hi, rfl, hbr, hgr⟩ := hrel
     by_cases hlt : i < 32
     · have i1 : (i : Int) < 32 := by omega
       have hc : (letter i).toNat < 128 := letter_128 ⟨i, hlt⟩
       have hix : (Instr.index 9 (.string (bs [113, 112, 122, 114, 121, 57, 120, 56, 103, 102, 50, 116, 118, 100, 119, 48, 115, 51, 106, 110, 53, 52, 107, 104, 99, 101, 54, 109, 117, 97, 55, 108])) (.int .i64 (i : Int))).run Tryz.prog wr = .ok (.int .u8 ((letter i).toNat : Nat)) wr := index_strK wr .i64 letB i hlt
       have HST := Lib.hid (findB_step ⟨i, hlt⟩)
       have f1 := (blk_cell hbr.out (letter i).toNat).trans (cellsN_get (findB i) (letter i).toNat (by rw [findB_len ⟨i, by omega⟩]; exact hc))
       have f2 := blk_free hbr.out (letter i).toNat
       generalize (letter i).toNat = c at *
       generalize (findB i).getD c 0 = y at *
       have hc1 : (c : Int) < 128 := by omega
       have hwi : IntKind.u8.wrap (i : Int) = i := by simp only [IntKind.wrap_u8]; omega
       go_wp2_with fail
       go_roundw
       case rel =>
        refine ⟨i + 1, by omega, by go_num, Lib.hid ?_, Lib.hid (gl_set hgr.out (.inr si_) _)⟩
        have h := blk_set hbr.out c (.int .u8 ((i : Nat) : Int))
        rw [cellsN_set, HST.out] at h
        exact h
       case measure => simp [intOf]; omega
     · obtain rfl : i = 32 := by omega
       have hl : (cellsL (findB 32)).length = 128 := by rw [cellsL_len]; exact findB_len ⟨32, by omega⟩
       have hone : ∀ x ∈ cellsL (findB 32), x.oneCell' = true := fun x hx => by
        unfold cellsL at hx
        obtain ⟨y, _, rfl⟩ := List.mem_map.1 hx
        rfl
       have HOc : Hid (wr.heap[w.heap.size]? = some (.cells (cellsL (findB 32)).toArray 131 (0, 0))) := hbr
       have hsc := run_storeCells_cells (P := Tryz.prog) w.heap.size 0 (cellsL (findB 32)) 0 wr (fun j hj => by have := (there_blk HOc.out j (by rw [List.size_toArray]; exact hj)).1; simpa using this) (fun j hj => by have := (there_blk HOc.out j (by rw [List.size_toArray]; exact hj)).2; simpa using this) hone
       rw [Nat.add_zero] at hsc
       have hRf := blk_whole (vs := cellsL (findB 32)) HOc.out (by rw [List.size_toArray])
       have hlv := run_loadVar_mid (P := Tryz.prog) (wr.setCells w.heap.size 0 (cellsL (findB 32))) w.heap.size 0 131 (cellsL (findB 32)) _ (rangeAt_blk hRf) Tryz.underlying131 rfl (by rw [Tryz.sizeA128, hl])
       have HFIN : Hid (Below w.heap.size w (wr.setCells w.heap.size 0 (cellsL (findB 32)))) := Lib.hid (gl_to_below (gl_setCells (.inr om_) _ 0 _ hgr.out))
       have HN : Hid (cellsN (findB 32) = (cellsL (findB 32)).toArray) := Lib.hid rfl
       clear hbr hgr hRf hone
       generalize cellsL (findB 32) = ob at *
       go_wp2_with ((with_reducible refine wpList_load_mid rfl 131 (.tmp 0) rfl w.heap.size 0 rfl ob _ ?hc Tryz.underlying131 rfl ?hi ?_; (case hc => exact rangeAt_blk HOc.out); (case hi => rw [Tryz.sizeA128, hl])))
       exact bodyPost_ret (v := .agg ob.toArray) (by simp [results, Tryz.results100, asAddr, hlv]) rfl ⟨by rw [HN.out], HFIN.out⟩
end Go.Proofs.YtembdkodajichaaGreatDoor
