/- The program's bech: words read. -/
import Derived.Test.YtembdkodajichaaGreatDoorByteR
import Derived.Laws.MakeOwn
set_option maxRecDepth 100000
set_option maxHeartbeats 4000000
set_option linter.unusedSimpArgs false
set_option linter.unusedVariables false
namespace Go.Proofs.YtembdkodajichaaGreatDoor
open Go.RowKit
theorem store_fnB (a : Addr) (g : Nat) (cap : Array Value) (m : Mode) (w : World) : (store a (.func (.func g) #[] cap) m).run Tryz.prog w = stored Tryz.prog w a (.func (.func g) #[] cap) m := run_store Tryz.prog w a (.func (.func g) #[] cap) m rfl
def DecO (s : List UInt8) (e : Ending) (w' : World) : Prop :=
 if decE s = 0 then ∃ v, e = .returned (.tuple #[.string (bs (decH s)), v, .int .i64 0]) ∧ InAt v (decW s) w'
 else e = .returned (.tuple #[.string (bs []), .slice none 0 0, .int .i64 (decE s)])
theorem decO_bad {s : List UInt8} {n : Int} {w' : World} (h : decE s = n) (hn : n ≠ 0) : DecO s (.returned (.tuple #[.string (bs []), .slice none 0 0, .int .i64 n])) w' := by
 unfold DecO
 rw [h, if_neg hn]
theorem decO_good {s h : List UInt8} {ad : Option Addr} {n c : Nat} {w' : World} (he : decE s = 0) (hh : decH s = h) (hi : InAt (.slice ad n c) (decW s) w') : DecO s (.returned (.tuple #[.string (bs h), .slice ad n c, .int .i64 0])) w' := by
 unfold DecO
 rw [if_pos he]
 exact ⟨_, by rw [hh], hi⟩
theorem decE_long {s : List UInt8} (h : 32768 < s.length) : decE s = 3 := by unfold decE; rw [if_pos h]
theorem decE_bad {s : List UInt8} (h : ¬ 32768 < s.length) (hb : decBad s = true) : decE s = 60 := by unfold decE; rw [if_neg h, if_pos hb]
theorem decE_word {s : List UInt8} (h : ¬ 32768 < s.length) (hb : decBad s = false) (hw : (tailW s).any (fun x => decide (31 < x.toNat)) = true) : decE s = 60 := by unfold decE; rw [if_neg h, if_neg (by rw [hb]; simp), if_pos hw]
theorem decBad_eq (s : List UInt8) : decBad s = (s.any badC || (s.any isLow && s.any isUp) || farI (placeI s) s.length) := by rw [far_eq]; rfl
theorem placeI_ge (s : List UInt8) : -1 ≤ placeI s := by unfold placeI; cases lastOne s <;> first | (simp; done) | (simp; omega)
theorem Tryz.sizeFb : (Tryz.prog.info? 22).map (·.size) = some 1 := by kernel_rfl
theorem index_aggF (w : World) (cs : Array Value) (i : Nat) (x : Value) (hi : i < 3) (hx : cs[i]? = some x) : (Instr.index 130 (.agg cs) (.int .i64 (i : Int))).run Tryz.prog w = .ok x w := by
 have h2 : (0 : Int) ≤ (i : Int) ∧ (i : Int) < 3 := by omega
 obtain ⟨j, hj, hjs⟩ := Option.map_eq_some_iff.1 Tryz.sizeFb
 simp [Instr.index, run_underlying Tryz.underlying130, asIntOf, sizeOf, typeInfo, hj, hjs, part, h2]
 rw [if_pos hi, hx]
 rfl
theorem find_word : ∀ c : Fin 128, (findB 32).getD c.val 0 = wordOf (UInt8.ofNat c.val) := by decide +kernel
theorem find_cell (c : UInt8) (hc : c.toNat < 128) : (cellsL (findB 32)).toArray[c.toNat]? = some (.int .u8 ((wordOf c : Nat) : Int)) := by
 have h := cellsN_get (findB 32) c.toNat (by rw [findB_len ⟨32, by omega⟩]; exact hc)
 rw [find_word ⟨c.toNat, hc⟩] at h
 have h2 : (cellsN (findB 32))[c.toNat]? = some (.int .u8 ((wordOf c : Nat) : Int)) := by simpa using h
 exact h2
theorem low_128 : ∀ c : Fin 256, badC (UInt8.ofNat c.val) = false → (lowB (UInt8.ofNat c.val)).toNat < 128 := by decide +kernel
theorem lows_128 {s : List UInt8} (h : s.any badC = false) : ∀ c ∈ s.map lowB, c.toNat < 128 := by
 intro c hc
 obtain ⟨x, hx, rfl⟩ := List.mem_map.1 hc
 have hb : badC x = false := by
  cases hbx : badC x with
  | false => rfl
  | true =>
    have : s.any badC = true := List.any_eq_true.2 ⟨x, hx, hbx⟩
    rw [h] at this
    cases this
 exact all_u8 (p := fun c => badC c = false → (lowB c).toNat < 128) low_128 x hb
theorem tailW_step {T tw : List UInt8} {k p : Nat} (htw : tw = (T.drop (k + 1)).map fun c => UInt8.ofNat (wordOf c)) (hp : k + 1 ≤ p) (hl : p < T.length) : tw.take (p + 1 - (k + 1)) = tw.take (p - (k + 1)) ++ [UInt8.ofNat (wordOf (T.getD p 0))] := by
 subst htw
 rw [show p + 1 - (k + 1) = p - (k + 1) + 1 by omega, ← List.map_take, ← List.map_take, map_take_snoc _ _ (by rw [List.length_drop]; omega)]
 congr 3
 rw [List.getD_eq_getElem?_getD, List.getD_eq_getElem?_getD, List.getElem?_drop, show k + 1 + (p - (k + 1)) = p by omega]
theorem placeI_le (s : List UInt8) : placeI s ≤ s.length := by
 unfold placeI
 cases h : lastOne s with
 | none => first | (simp; done) | (simp; omega)
 | some k =>
   obtain ⟨a, b, hs, ha, _⟩ := lastOne_some h
   rw [hs]
   simp
   omega
theorem bDecode (s : List UInt8) (w : World) (hl : s.length ≤ 1000000000) :
  Calls Tryz.prog 51 #[.string (bs s)] w fun e w' => DecO s e w' ∧ Below w.heap.size w w' := by
 by_cases hlong : 32768 < s.length
 · have HE := Lib.hid (decE_long hlong)
   have hl1 : (32768 : Int) < s.length := by omega
   clear hlong
   go_enter Tryz.func51, Tryz.ntmps51
   go_wp2_with fail
   exact bodyPost_ret (v := .tuple #[.string (bs []), .slice none 0 0, .int .i64 3]) (by simp [results, Tryz.results51, go_sem]) rfl ⟨decO_bad HE.out de_, bl_⟩
 · have hl1 : (s.length : Int) ≤ 32768 := by omega
   have HLO := Lib.hid hlong
   clear hlong
   have hsf := store_fnB
   go_enter Tryz.func51, Tryz.ntmps51
   go_wp2_with fail
   refine (bLast s hl _).mono ?_
   rintro e w1 ⟨rfl, rfl⟩
   have hpg := placeI_ge s
   have hpl : placeI s ≤ 1000000000 := by
    have := placeI_le s
    omega
   go_wp2_with fail
   have HS3 : Hid ((((w.alloc (.cells #[.string (bs s)] 9)).alloc (.cells #[.int .i64 (placeI s)] 3)).alloc (.cells #[.func (.func 95) #[] #[.pointer (some ⟨w.heap.size, 0, none⟩)]] 129)).heap[w.heap.size]? = some (.cells #[.string (bs s)] 9 (0, 0))) := Lib.hid (blk_alloc (blk_alloc (blk_new _ _) _) _)
   have HK3 : Hid ((((w.alloc (.cells #[.string (bs s)] 9)).alloc (.cells #[.int .i64 (placeI s)] 3)).alloc (.cells #[.func (.func 95) #[] #[.pointer (some ⟨w.heap.size, 0, none⟩)]] 129)).heap[w.heap.size + 1]? = some (.cells #[.int .i64 (placeI s)] 3 (0, 0))) := Lib.hid (blk_alloc (by have := blk_new (w.alloc (.cells #[.string (bs s)] 9)) (.cells #[.int .i64 (placeI s)] 3); rwa [World.size_alloc] at this) _)
   have HF3 : Hid ((((w.alloc (.cells #[.string (bs s)] 9)).alloc (.cells #[.int .i64 (placeI s)] 3)).alloc (.cells #[.func (.func 95) #[] #[.pointer (some ⟨w.heap.size, 0, none⟩)]] 129)).heap[w.heap.size + 1 + 1]? = some (.cells #[.func (.func 95) #[] #[.pointer (some ⟨w.heap.size, 0, none⟩)]] 129 (0, 0))) := Lib.hid (by have := blk_new ((w.alloc (.cells #[.string (bs s)] 9)).alloc (.cells #[.int .i64 (placeI s)] 3)) (.cells #[.func (.func 95) #[] #[.pointer (some ⟨w.heap.size, 0, none⟩)]] 129); rwa [World.size_alloc, World.size_alloc] at this)
   have HG3 : Hid (GL [] w (((w.alloc (.cells #[.string (bs s)] 9)).alloc (.cells #[.int .i64 (placeI s)] 3)).alloc (.cells #[.func (.func 95) #[] #[.pointer (some ⟨w.heap.size, 0, none⟩)]] 129))) := Lib.hid (gl_alloc (gl_alloc (gl_alloc (gl_refl _ _) _) _) _)
   generalize (((w.alloc (.cells #[.string (bs s)] 9)).alloc (.cells #[.int .i64 (placeI s)] 3)).alloc (.cells #[.func (.func 95) #[] #[.pointer (some ⟨w.heap.size, 0, none⟩)]] 129)) = w3 at *
   have HDB := Lib.hid (decBad_eq s)
   go_loopw [8, 25] (fun _ iv wr => ∃ i : Nat, i ≤ 3 ∧ iv = .int .i64 i ∧ Hid (1 ≤ i → s.any badC = false) ∧ Hid (2 ≤ i → (s.any isLow && s.any isUp) = false) ∧ Hid (3 ≤ i → farI (placeI s) s.length = false) ∧ Hid (wr = w3)) (fun _ iv _ => 3 - (intOf iv).toNat)
   case atStart => exact ⟨0, by omega, rfl, Lib.hid om_, Lib.hid om_, Lib.hid om_, Lib.hid rfl⟩
   case round =>
    obtain ⟨i, hi, rfl, h1, h2, h3, hw⟩ := hrel
    have hww := hw.out
    subst hww
    have fS := blk_cell HS3.out 0
    have fK := blk_cell HK3.out 0
    have fF := blk_cell HF3.out 0
    rcases (by omega : i = 0 ∨ i = 1 ∨ i = 2 ∨ i = 3) with rfl | rfl | rfl | rfl
    · have hix : (Instr.index 130 (.agg #[.func (.func 96) #[] #[.pointer (some ⟨w.heap.size + 1 + 1, 0, none⟩)], .func (.func 97) #[] #[.pointer (some ⟨w.heap.size + 1 + 1, 0, none⟩)], .func (.func 98) #[] #[.pointer (some ⟨w.heap.size + 1, 0, none⟩), .pointer (some ⟨w.heap.size, 0, none⟩)]]) (.int .i64 0)).run Tryz.prog wr = .ok (.func (.func 96) #[] #[.pointer (some ⟨w.heap.size + 1 + 1, 0, none⟩)]) wr := index_aggF wr _ 0 _ de_ rfl
      cases hb : s.any badC with
      | true =>
        have HB := Lib.hid hb
        have HE : Hid (decE s = 60) := Lib.hid (decE_bad HLO.out (by rw [HDB.out, hb]; rfl))
        clear hb
        go_wp2_with fail
        refine (bBad s w.heap.size (w.heap.size + 1 + 1) _ fS fF hl).mono ?_
        rintro e w4 ⟨rfl, rfl⟩
        rw [HB.out]
        go_wp2_with fail
        exact bodyPost_ret (v := .tuple #[.string (bs []), .slice none 0 0, .int .i64 60]) (by simp [results, Tryz.results51, go_sem]) rfl ⟨decO_bad HE.out de_, gl_to_below HG3.out⟩
      | false =>
        have HB := Lib.hid hb
        clear hb
        go_wp2_with fail
        refine (bBad s w.heap.size (w.heap.size + 1 + 1) _ fS fF hl).mono ?_
        rintro e w4 ⟨rfl, rfl⟩
        rw [HB.out]
        go_wp2_with fail
        go_roundw
        case rel => exact ⟨1, by omega, by first | rfl | (simp; done), (by first | exact Lib.hid (fun _ => HB.out) | exact Lib.hid (fun _ => trivial) | exact Lib.hid trivial), Lib.hid om_, Lib.hid om_, by first | exact hw | exact Lib.hid trivial⟩
        case measure => first | (simp [intOf]; done) | (simp [intOf]; omega)
    · have hix : (Instr.index 130 (.agg #[.func (.func 96) #[] #[.pointer (some ⟨w.heap.size + 1 + 1, 0, none⟩)], .func (.func 97) #[] #[.pointer (some ⟨w.heap.size + 1 + 1, 0, none⟩)], .func (.func 98) #[] #[.pointer (some ⟨w.heap.size + 1, 0, none⟩), .pointer (some ⟨w.heap.size, 0, none⟩)]]) (.int .i64 1)).run Tryz.prog wr = .ok (.func (.func 97) #[] #[.pointer (some ⟨w.heap.size + 1 + 1, 0, none⟩)]) wr := index_aggF wr _ 1 _ de_ rfl
      cases hb : (s.any isLow && s.any isUp) with
      | true =>
        have HB := Lib.hid hb
        have HE : Hid (decE s = 60) := Lib.hid (decE_bad HLO.out (by rw [HDB.out, hb]; simp))
        clear hb
        go_wp2_with fail
        refine (bMixed s w.heap.size (w.heap.size + 1 + 1) _ fS fF hl).mono ?_
        rintro e w4 ⟨rfl, rfl⟩
        rw [HB.out]
        go_wp2_with fail
        exact bodyPost_ret (v := .tuple #[.string (bs []), .slice none 0 0, .int .i64 60]) (by simp [results, Tryz.results51, go_sem]) rfl ⟨decO_bad HE.out de_, gl_to_below HG3.out⟩
      | false =>
        have HB := Lib.hid hb
        clear hb
        go_wp2_with fail
        refine (bMixed s w.heap.size (w.heap.size + 1 + 1) _ fS fF hl).mono ?_
        rintro e w4 ⟨rfl, rfl⟩
        rw [HB.out]
        go_wp2_with fail
        go_roundw
        case rel => exact ⟨2, by omega, by first | rfl | (simp; done), Lib.hid (fun _ => h1.out om_), (by first | exact Lib.hid (fun _ => HB.out) | exact Lib.hid (fun _ => trivial) | exact Lib.hid trivial), Lib.hid om_, by first | exact hw | exact Lib.hid trivial⟩
        case measure => first | (simp [intOf]; done) | (simp [intOf]; omega)
    · have hix : (Instr.index 130 (.agg #[.func (.func 96) #[] #[.pointer (some ⟨w.heap.size + 1 + 1, 0, none⟩)], .func (.func 97) #[] #[.pointer (some ⟨w.heap.size + 1 + 1, 0, none⟩)], .func (.func 98) #[] #[.pointer (some ⟨w.heap.size + 1, 0, none⟩), .pointer (some ⟨w.heap.size, 0, none⟩)]]) (.int .i64 2)).run Tryz.prog wr = .ok (.func (.func 98) #[] #[.pointer (some ⟨w.heap.size + 1, 0, none⟩), .pointer (some ⟨w.heap.size, 0, none⟩)]) wr := index_aggF wr _ 2 _ de_ rfl
      cases hb : farI (placeI s) s.length with
      | true =>
        have HB := Lib.hid hb
        have HE : Hid (decE s = 60) := Lib.hid (decE_bad HLO.out (by rw [HDB.out, hb]; simp))
        clear hb
        go_wp2_with fail
        refine (bFar (placeI s) s w.heap.size (w.heap.size + 1) _ ⟨hpg, hpl⟩ fS fK hl).mono ?_
        rintro e w4 ⟨rfl, rfl⟩
        rw [HB.out]
        go_wp2_with fail
        exact bodyPost_ret (v := .tuple #[.string (bs []), .slice none 0 0, .int .i64 60]) (by simp [results, Tryz.results51, go_sem]) rfl ⟨decO_bad HE.out de_, gl_to_below HG3.out⟩
      | false =>
        have HB := Lib.hid hb
        clear hb
        go_wp2_with fail
        refine (bFar (placeI s) s w.heap.size (w.heap.size + 1) _ ⟨hpg, hpl⟩ fS fK hl).mono ?_
        rintro e w4 ⟨rfl, rfl⟩
        rw [HB.out]
        go_wp2_with fail
        go_roundw
        case rel => exact ⟨3, by omega, by first | rfl | (simp; done), Lib.hid (fun _ => h1.out om_), Lib.hid (fun _ => h2.out om_), (by first | exact Lib.hid (fun _ => HB.out) | exact Lib.hid (fun _ => trivial) | exact Lib.hid trivial), by first | exact hw | exact Lib.hid trivial⟩
        case measure => first | (simp [intOf]; done) | (simp [intOf]; omega)
    · have hnb : s.any badC = false := h1.out om_
      have hnm : (s.any isLow && s.any isUp) = false := h2.out om_
      have hnf : farI (placeI s) s.length = false := h3.out om_
      have HDB2 : Hid (decBad s = false) := Lib.hid (by rw [HDB.out, hnb, hnm, hnf]; rfl)
      have HNB := Lib.hid hnb
      obtain ⟨k, hk1, hk2, hk3⟩ : ∃ k : Nat, placeI s = k ∧ 1 ≤ k ∧ k ≤ 83 ∧ k + 6 < s.length ∧ lastOne s = some k := by
       rw [far_eq] at hnf
       unfold placeI
       cases hlo : lastOne s with
       | none => rw [hlo] at hnf; simp at hnf
       | some k =>
         rw [hlo] at hnf
         simp only [Bool.or_eq_false_iff, decide_eq_false_iff_not] at hnf
         exact ⟨k, rfl, by omega, by omega, by omega, rfl⟩
      have HK := Lib.hid hk3
      have hk4 := hk3.1
      have hk5 := hk3.2.1
      rw [hk1] at HK3
      clear h1 h2 h3 hnb hnm hnf hk3 fK HDB
      go_wp2_with fail
      refine (bLower s hl HNB.out _).mono ?_
      rintro e w4 ⟨rfl, hb4⟩
      have hS4 := blk_below HS3.out hb4 (blk_lt HS3.out)
      have hK4 := blk_below HK3.out hb4 (blk_lt HK3.out)
      have hG4 := gl_below hb4 HG3.out
      have f4 := blk_cell hS4 0
      have e4 := blk_free hS4 0
      have HS5 : Hid ((w4.setCell ⟨w.heap.size, 0, none⟩ (.string (bs (s.map lowB)))).heap[w.heap.size]? = some (.cells #[.string (bs (s.map lowB))] 9 (0, 0))) := Lib.hid (blk_set hS4 0 _)
      have HK5 : Hid ((w4.setCell ⟨w.heap.size, 0, none⟩ (.string (bs (s.map lowB)))).heap[w.heap.size + 1]? = some (.cells #[.int .i64 (k : Int)] 3 (0, 0))) := Lib.hid (blk_ne hK4 si_ _)
      have HG5 : Hid (GL [] w (w4.setCell ⟨w.heap.size, 0, none⟩ (.string (bs (s.map lowB))))) := Lib.hid (gl_set hG4 (.inr si_) _)
      clear hS4 hK4 hG4 hb4 HS3 HK3 HF3 HG3
      go_wp2_with fail
      generalize w4.setCell ⟨w.heap.size, 0, none⟩ (.string (bs (s.map lowB))) = w5 at *
      clear f4 e4
      refine (bFound _).mono ?_
      rintro e w6 ⟨rfl, hb6⟩
      have hl : (cellsL (findB 32)).length = 128 := by rw [cellsL_len]; exact findB_len ⟨32, by omega⟩
      have hone : ∀ x ∈ cellsL (findB 32), x.oneCell' = true := fun x hx => by
       unfold cellsL at hx
       obtain ⟨y, _, rfl⟩ := List.mem_map.1 hx
       rfl
      rw [show cellsN (findB 32) = (cellsL (findB 32)).toArray from rfl]
      have HCF : Hid (cellsL (findB 32) = cellsL (findB 32)) := Lib.hid rfl
      have hz := blk_new w6 (.cells Tryz.zeroCells131 131)
      have hzs : Tryz.zeroCells131.size = 128 := by rw [find_zero]; unfold cellsN; rw [List.size_toArray, cellsL_len]; exact findA_len ⟨0, by omega⟩
      generalize hob : cellsL (findB 32) = ob at *
      have HOB := Lib.hid hob
      have hsc := run_storeCells_cells (P := Tryz.prog) w6.heap.size 0 ob 0 (w6.alloc (.cells Tryz.zeroCells131 131)) (fun j hj => by have := (there_blk hz j (by rw [hzs]; omega)).1; simpa using this) (fun j hj => by have := (there_blk hz j (by rw [hzs]; omega)).2; first | (simp; done) | simpa using this) hone
      rw [Nat.add_zero] at hsc
      have HT7 : Hid (((w6.alloc (.cells Tryz.zeroCells131 131)).setCells w6.heap.size 0 ob).heap[w6.heap.size]? = some (.cells ob.toArray 131 (0, 0))) := Lib.hid (blk_whole hz (by rw [hl, hzs]))
      have hg6 := gl_below hb6 HG5.out
      have hg7 : GL [] w6 ((w6.alloc (.cells Tryz.zeroCells131 131)).setCells w6.heap.size 0 ob) := gl_setCells (.inr om_) _ 0 _ (gl_alloc (gl_refl _ _) _)
      have HS7 := Lib.hid (blk_gl (blk_below HS5.out hb6 (blk_lt HS5.out)) hg7 si_)
      have HK7 := Lib.hid (blk_gl (blk_below HK5.out hb6 (blk_lt HK5.out)) hg7 si_)
      have HG7 : Hid (GL [] w ((w6.alloc (.cells Tryz.zeroCells131 131)).setCells w6.heap.size 0 ob)) := Lib.hid (gl_step hg7 hg6 si_)
      have hsz7 : w.heap.size ≤ ((w6.alloc (.cells Tryz.zeroCells131 131)).setCells w6.heap.size 0 ob).heap.size := HG7.out.size
      obtain ⟨t0, ht0, ht1, ht2, ht3⟩ := info_parts Tryz.infoB8
      obtain ⟨w8, hmk, hown8, hgr8⟩ := run_makeSlice_owned (P := Tryz.prog) (w := ((w6.alloc (.cells Tryz.zeroCells131 131)).setCells w6.heap.size 0 ob)) w.heap.size 47 5 t0 (.int .u8 0) 1 Tryz.underlying47 ht0 ht1 ht2 .i64 .i64 (s.length - k) om_ (by rw [ht3]; omega) (by unfold maxLen; omega) hsz7
      rw [show (((s.length - k : Nat)) : Int) = (s.length : Int) - (k : Int) by omega] at hmk
      have HOWN8 := Lib.hid hown8
      have HG8 : Hid (GL [] w w8) := Lib.hid (gl_grown hgr8 HG7.out si_)
      have HS8 := Lib.hid (blk_grown HS7.out hgr8 si_)
      have HK8 := Lib.hid (blk_grown HK7.out hgr8 si_)
      have HT8 := Lib.hid (blk_grown HT7.out hgr8 si_)
      have f7 := blk_cell HS7.out 0
      have k7 := blk_cell HK7.out 0
      have f8 := blk_cell HS8.out 0
      have k8 := blk_cell HK8.out 0
      clear hob hz hg6 hg7 hone HCF hb6 HS5 HK5 HG5 hown8 hgr8 ht0 ht1 ht2 ht3
      go_wp2_with fail
      have HTW : Hid (tailW s = ((s.map lowB).drop (k + 1)).map fun c => UInt8.ofNat (wordOf c)) := Lib.hid (by unfold tailW atOf; rw [HK.out.2.2]; rfl)
      have HT128 := Lib.hid (lows_128 HNB.out)
      have hTl : (s.map lowB).length = s.length := List.length_map _
      have HDH : Hid (decH s = (s.map lowB).take k) := Lib.hid (by unfold decH atOf; rw [HK.out.2.2]; rfl)
      generalize s.map lowB = T at *
      generalize w6.heap.size = Tb at *
      go_loopw [10, 11, 12] (fun ov iv _ wr => ∃ p : Nat, k + 1 ≤ p ∧ p ≤ s.length ∧ iv = .int .i64 p ∧ Hid (∀ x ∈ (tailW s).take (p - (k + 1)), x.toNat ≤ 31) ∧ Hid (OwnB w.heap.size ov ((tailW s).take (p - (k + 1))) wr) ∧ Hid (wr.heap[w.heap.size]? = some (.cells #[.string (bs T)] 9 (0, 0))) ∧ Hid (wr.heap[w.heap.size + 1]? = some (.cells #[.int .i64 (k : Int)] 3 (0, 0))) ∧ Hid (wr.heap[Tb]? = some (.cells ob.toArray 131 (0, 0))) ∧ Hid (GL [] w wr)) (fun _ iv _ _ => s.length - (intOf iv).toNat)
      case atStart => exact ⟨k + 1, by omega, by omega, by first | rfl | (simp; done), Lib.hid si_, Lib.hid (by rw [Nat.sub_self, List.take_zero]; exact HOWN8.out), HS8, HK8, HT8, HG8⟩
      case round =>
       obtain ⟨p, hp1, hp2, rfl, h31, hor, hS, hKc, hTc, hgr⟩ := hrel
       obtain ⟨oa, om, oc, rfl⟩ := own_slice hor.out
       have fS := blk_cell hS.out 0
       have fK := blk_cell hKc.out 0
       by_cases hlt : p < s.length
       · have p1 : (p : Int) < s.length := by omega
         have hix := index_strK wr .i64 T p (by rw [hTl]; exact hlt)
         have hmem : T.getD p 0 ∈ T := by rw [List.getD_eq_getElem?_getD, List.getElem?_eq_getElem (by rw [hTl]; exact hlt)]; exact List.getElem_mem _
         have hc := HT128.out _ hmem
         have ct : wr.cell? ⟨Tb, (T.getD p 0).toNat, none⟩ = some (.int .u8 ((wordOf (T.getD p 0) : Nat) : Int)) := by
          rw [blk_cell hTc.out, ← HOB.out]
          exact find_cell _ hc
         have HTS := Lib.hid (tailW_step HTW.out hp1 (by rw [hTl]; exact hlt))
         have hwl := word_le (T.getD p 0)
         generalize hwd : wordOf (T.getD p 0) = wd at *
         generalize (T.getD p 0).toNat = c at *
         have hc1 : (c : Int) < 128 := by omega
         clear hmem hwd
         by_cases hx : wd ≤ 31
         · have hx1 : (wd : Int) ≤ 31 := by omega
           have hu8 : (UInt8.ofNat wd).toNat = wd := by rw [UInt8.toNat_ofNat']; omega
           obtain ⟨g, cap, w9, hrun, hown9, hgr9, _, _⟩ := run_appB1 w.heap.size (.slice oa om oc) _ (UInt8.ofNat wd) (wd : Int) (by rw [hu8]) wr _ (.inr rfl) hor.out (by rw [List.length_take]; omega) hgr.out.size
           have hol : om = ((tailW s).take (p - (k + 1))).length := own_len hor.out
           rw [← hol] at hrun hown9
           rw [← HTS.out] at hown9
           have n1 : w.heap.size ∉ (Value.slice oa om oc).ownBlock.toList := by have := Ne.symm (own_ne hor.out hS.out de_); simpa using this
           have n2 : w.heap.size + 1 ∉ (Value.slice oa om oc).ownBlock.toList := by have := Ne.symm (own_ne hor.out hKc.out de_); simpa using this
           have n3 : Tb ∉ (Value.slice oa om oc).ownBlock.toList := by have := Ne.symm (own_ne hor.out hTc.out de_); simpa using this
           have HS9 := Lib.hid (blk_gl hS.out hgr9 n1)
           have HK9 := Lib.hid (blk_gl hKc.out hgr9 n2)
           have HT9 := Lib.hid (blk_gl hTc.out hgr9 n3)
           have HG9 : Hid (GL [] w w9) := Lib.hid (gl_step hgr9 hgr.out (fun r hr => .inr (ownB_blk hor.out r (by simpa using hr)).1))
           have HRUN := Lib.hid hrun
           have HOWN9 := Lib.hid hown9
           have H31 : Hid (∀ x ∈ (tailW s).take (p + 1 - (k + 1)), x.toNat ≤ 31) := Lib.hid (fun x hx => by
            rw [HTS.out] at hx
            rcases List.mem_append.1 hx with h | h
            · exact h31.out x h
            · rw [List.mem_singleton.1 h, hu8]; omega)
           clear hrun hown9 hgr9 hol n1 n2 n3 hu8 hx
           go_wp2_with (at_builtin; refine wpList_append_run _ rfl (.tmp 54) (.tmp 56) 47 47 rfl _ _ (by simp [Act.eval, Act.put]) (by simp [Act.eval, Act.put]) HRUN.out ?_)
           go_roundw
           case rel => exact ⟨p + 1, by omega, by omega, by go_num, H31, HOWN9, HS9, HK9, HT9, HG9⟩
           case measure => simp [intOf]; omega
         · have hx1 : (31 : Int) < wd := by omega
           have HE : Hid (decE s = 60) := Lib.hid (decE_word HLO.out HDB2.out (List.any_eq_true.2 ⟨UInt8.ofNat wd, List.mem_of_mem_take (by rw [HTS.out]; simp), by rw [decide_eq_true_eq, UInt8.toNat_ofNat']; omega⟩))
           clear hx
           go_wp2_with fail
           exact bodyPost_ret (v := .tuple #[.string (bs []), .slice none 0 0, .int .i64 60]) (by simp [results, Tryz.results51, go_sem]) rfl ⟨decO_bad HE.out de_, gl_to_below hgr.out⟩
       · obtain rfl : p = s.length := by omega
         have htl : (tailW s).length = s.length - (k + 1) := by rw [HTW.out, List.length_map, List.length_drop, hTl]
         have hfull := hor.out
         rw [List.take_of_length_le om_] at hfull
         have hol : om = (tailW s).length := own_len hfull
         subst hol
         have h31f := h31.out
         rw [List.take_of_length_le om_] at h31f
         have hany : (tailW s).any (fun x => decide (31 < x.toNat)) = false := by
          rw [Bool.eq_false_iff]
          intro h2
          simp only [List.any_eq_true, decide_eq_true_eq] at h2
          obtain ⟨x, hx, h3⟩ := h2
          have := h31f x hx
          omega
         have HANY := Lib.hid hany
         have HOWN := Lib.hid hfull
         clear hor hfull h31 h31f hany hlt hp1 hp2
         have hkT : k ≤ T.length := by omega
         go_wp2_with fail
         have hin := (ownB_in HOWN.out).1
         refine (bHead (T.take k) (by rw [List.length_take]; omega) wr).mono ?_
         rintro e w10 ⟨rfl, hh10, hg10⟩
         have HH10 := Lib.hid hh10
         have HI10 : Hid (InAt (.slice oa (tailW s).length oc) (tailW s) w10) := Lib.hid (inAt_gl hin hg10)
         have HNE : Hid (∀ G o c, Value.slice oa (tailW s).length oc = .slice (some ⟨G, o, none⟩) (tailW s).length c → tailW s ≠ [] → G ≠ wr.heap.size) := Lib.hid (fun G o c e hne => by
          injection e with e1
          subst e1
          have := (ownB_blk HOWN.out G rfl).2
          omega)
         have hwS : w.heap.size < wr.heap.size := blk_lt hS.out
         have hwK : w.heap.size + 1 < wr.heap.size := blk_lt hKc.out
         have HS10 := Lib.hid (blk_gl hS.out hg10 si_)
         have HK10 := Lib.hid (blk_gl hKc.out hg10 si_)
         have HG10 : Hid (GL [] w w10) := Lib.hid (gl_step hg10 hgr.out si_)
         have f10 := blk_cell HS10.out 0
         have k10 := blk_cell HK10.out 0
         have hq6 : 6 ≤ (tailW s).length := by omega
         have htl2 : (tailW s).length ≤ 1000000000 := by omega
         have hlT : k ≤ T.length := hkT
         clear hin hh10 hg10 htl hTl HTW HT128 HOB HT8 HS8 HK8 HG8 HT7 HG7 HS7 HK7 HOWN8
         go_wp2_with fail
         refine (bAdd wr.heap.size (headS (T.take k)) (tailW s) _ w10 HH10.out (headS_lt _) htl2 HI10.out HNE.out).mono ?_
         rintro e w11 ⟨rfl, hh11, hg11⟩
         have HI11 : Hid (InAt (.slice oa (tailW s).length oc) (tailW s) w11) := Lib.hid (inAt_glr HI10.out hg11 HNE.out)
         have hS11 := blk_gl HS10.out hg11 so_
         have hK11 := blk_gl HK10.out hg11 so_
         have HG11 : Hid (GL [] w w11) := Lib.hid (gl_step hg11 HG10.out so_)
         have g11 := blk_cell hS11 0
         have k11 := blk_cell hK11 0
         have f11 := blk_cell hh11 0
         have HE : Hid (decE s = if poly (headS (T.take k)) (tailW s) = 1 then 0 else 61) := Lib.hid (by
          unfold decE
          rw [if_neg HLO.out, if_neg (by rw [HDB2.out]; simp), if_neg (by rw [HANY.out]; simp), HDH.out]
          by_cases h : poly (headS (T.take k)) (tailW s) = 1
          · rw [if_neg (by simp [h]), if_pos h]
          · rw [if_pos h, if_neg h])
         clear f10 k10 HK10 HS10 HG10 HI10 HH10 hh11 hg11 hS11 hK11 HDB2 HANY HLO HNE
         generalize poly (headS (T.take k)) (tailW s) = P at *
         clear hsc hsz7 hmk hS hKc hTc hgr HOWN
         by_cases h1 : P = 1
         · subst h1
           have HE0 : Hid (decE s = 0) := Lib.hid (by rw [HE.out, if_pos rfl])
           have f12 : w11.cell? ⟨wr.heap.size, 0, none⟩ = some (.int .u32 1) := f11
           clear f11 HE
           obtain ⟨aa, ac, e0, hcap, _⟩ := inAt_form HI11.out
           injection e0 with e1 _ e3
           subst e1 e3
           have hq7 : ((tailW s).length : Int) - 6 ≤ oc := by omega
           have hq8 : (0 : Int) ≤ ((tailW s).length : Int) - 6 := by omega
           have hkT2 : (k : Int) ≤ T.length := by omega
           have hkT3 : (0 : Int) ≤ (k : Int) := by omega
           go_wp2_with fail
           go_region
           go_wp2_with fail
           have HI12 : InAt (.slice oa ((tailW s).length - 6) ((tailW s).length - 6)) (decW s) w11.drew := inAt_gl (inAt_take HI11.out om_ (Nat.le_refl _)) (gl_drew (gl_refl _ _))
           exact bodyPost_ret (v := .tuple #[.string (bs (T.take k)), .slice oa ((tailW s).length - 6) ((tailW s).length - 6), .int .i64 0]) (by simp [results, Tryz.results51, go_sem]) rfl ⟨decO_good HE0.out HDH.out HI12, gl_to_below (gl_drew HG11.out)⟩
         · have HE1 : Hid (decE s = 61) := Lib.hid (by rw [HE.out, if_neg h1])
           have hP2 : (((P : Nat) : Int) != 1) = true := by simp; omega
           have hP3 : (((P : Nat) : Int) == 1) = false := by simp; omega
           clear h1 HE
           go_wp2_with fail
           exact bodyPost_ret (v := .tuple #[.string (bs []), .slice none 0 0, .int .i64 61]) (by simp [results, Tryz.results51, go_sem]) rfl ⟨decO_bad HE1.out de_, gl_to_below HG11.out⟩
end Go.Proofs.YtembdkodajichaaGreatDoor
