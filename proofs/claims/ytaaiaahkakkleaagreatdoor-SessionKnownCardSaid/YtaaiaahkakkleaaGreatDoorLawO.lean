/- The laws of layer 21: two sessions of four names are opened. -/
import Derived.Test.YtaaiaahkakkleaaGreatDoorMSes
import Derived.BigRegion
set_option maxRecDepth 100000
set_option maxHeartbeats 3000000
set_option linter.unusedSimpArgs false
set_option linter.unusedVariables false
namespace Go.Proofs.YtaaiaahkakkleaaGreatDoor
open Go.RowKit
theorem own_blk {w : World} {base e n : Nat} {v : Value} {xs : List Value} (h : w.ownsRow base e 1 v n xs) (hn : 0 < n) :
  ∃ g cap cur, v = .slice (some ⟨g, 0, none⟩) n cap ∧ base ≤ g ∧ w.heap[g]? = some (.cells cur e (0, 0)) ∧ n ≤ cap ∧ ∀ (j : Nat) (x : Value), xs[j]? = some x → cur[j]? = some x := by
 obtain ⟨h0, h⟩ := h
 rcases h with ⟨_, h⟩ | ⟨g, cap, cur, rfl, hb, hg, hc, hc2, hs, ht⟩
 · omega
 · refine ⟨g, cap, cur, rfl, hb, hg, hc, fun j x hj => ?_⟩
   rw [← Array.getElem?_toList]
   rw [← ht] at hj
   rw [List.getElem?_take] at hj
   split at hj
   · exact hj
   · simp at hj
theorem four_at (i e s f : Int) (hi : 0 ≤ i) (hi2 : i ≤ 9223372036854775807) (he : 0 ≤ e) (he2 : e ≤ 9223372036854775807) (hs : 0 ≤ s) (hs2 : s ≤ 9223372036854775807) (hf : 0 ≤ f) (hf2 : f ≤ 9223372036854775807) (k : Nat) (hk : k < 4) :
  ∃ n, (#[.int .i64 i, .int .i64 e, .int .i64 s, .int .i64 f] : Array Value)[k]? = some (.int .i64 n) ∧ 0 ≤ n ∧ n ≤ 9223372036854775807 ∧ nameT n = (nameL n.toNat, 0) ∧ [nameL i.toNat, nameL e.toNat, nameL s.toNat, nameL f.toNat].take (k + 1) = [nameL i.toNat, nameL e.toNat, nameL s.toNat, nameL f.toNat].take k ++ [nameL n.toNat] := by
 have hn : ∀ n : Int, 0 ≤ n → nameT n = (nameL n.toNat, 0) := fun n h => by
  have := nameT_ok n.toNat
  rwa [show ((n.toNat : Nat) : Int) = n by omega] at this
 match k, hk with
 | 0, _ => exact ⟨i, rfl, hi, hi2, hn i hi, rfl⟩
 | 1, _ => exact ⟨e, rfl, he, he2, hn e he, rfl⟩
 | 2, _ => exact ⟨s, rfl, hs, hs2, hn s hs, rfl⟩
 | 3, _ => exact ⟨f, rfl, hf, hf2, hn f hf, rfl⟩
def OpLoop (i e s f : Int) (w : World) (lv iv : Value) (wr : World) : Prop :=
 ∃ k : Nat, k ≤ 4 ∧ iv = .int .i64 k ∧ wr.ownsRow (w.heap.size + 1) 22 1 lv k (([nameL i.toNat, nameL e.toNat, nameL s.toNat, nameL f.toNat].take k).map fun y => .string (bs y)) ∧
  wr.heap[w.heap.size]? = some (.cells #[.int .i64 i, .int .i64 e, .int .i64 s, .int .i64 f] 2 (0, 0)) ∧ Below w.heap.size w wr
def OpenedPost (i e s f : Int) (k1 k2 a1 a2 a3 d l : List UInt8) (w : World) (en : Ending) (w' : World) : Prop :=
 ∃ X Y g : Nat, w.heap.size ≤ X ∧ w.heap.size ≤ Y ∧ w.heap.size ≤ g ∧ X ≠ Y ∧ en = .returned (.tuple #[.pointer (some ⟨X, 0, none⟩), .pointer (some ⟨Y, 0, none⟩), .slice (some ⟨g, 0, none⟩) 3 3, .bool true]) ∧
  SesAt w' X (nameL i.toNat) (nameL e.toNat) (80 :: nameL s.toNat) true true false k1 d 0 l 0 (.func (.func 96) #[.pointer (some ⟨X, 0, none⟩)] #[]) ∧ SesAt w' Y (nameL s.toNat) (nameL f.toNat) (80 :: nameL i.toNat) false true false k2 l 0 d 0 (.func (.func 96) #[.pointer (some ⟨Y, 0, none⟩)] #[]) ∧
  w'.heap[g]? = some (.cells #[.string (bs a1), .string (bs a2), .string (bs a3)] 22 (0, 0)) ∧ Below w.heap.size w w'
theorem lOpened (i e s f : Int) (hi : 0 ≤ i) (hi2 : i ≤ 9223372036854775807) (he : 0 ≤ e) (he2 : e ≤ 9223372036854775807) (hs : 0 ≤ s) (hs2 : s ≤ 9223372036854775807) (hf : 0 ≤ f) (hf2 : f ≤ 9223372036854775807)
  (k1 k2 a1 a2 a3 d l : List UInt8) (hk : Hsk i.toNat e.toNat s.toNat f.toNat k1 k2 a1 a2 a3 d l) (w : World) (hG : GOk w) :
  Calls Tryz.prog 18 #[.int .i64 i, .int .i64 e, .int .i64 s, .int .i64 f] w (OpenedPost i e s f k1 k2 a1 a2 a3 d l w) := by
 have HK := Lib.hid hk
 have H4 := Lib.hid (four_at i e s f hi hi2 he he2 hs hs2 hf hf2)
 have li : (nameL i.toNat).length ≤ 9000000000000000000 := by have := (q_name i.toNat om_).2; omega
 have le : (nameL e.toNat).length ≤ 9000000000000000000 := by have := (q_name e.toNat om_).2; omega
 have lss : (nameL s.toNat).length ≤ 9000000000000000000 := by have := (q_name s.toNat om_).2; omega
 have lf : (nameL f.toNat).length ≤ 9000000000000000000 := by have := (q_name f.toNat om_).2; omega
 have lps : (80 :: nameL s.toNat).length ≤ 9000000000000000000 := by have := (q_name s.toNat om_).2; simp; omega
 have HPB : Hid (pubT (nameL s.toNat) = ((80 :: nameL s.toNat), 0)) := pubT_plain (q_name s.toNat om_) (by rw [head_name]; decide) (by rw [head_name]; decide) om_ om_
 have lk1 : k1.length ≤ 9000000000000000000 := by have := hk.lk1; omega
 have lk2 : k2.length ≤ 9000000000000000000 := by have := hk.lk2; omega
 have la1 : a1.length ≤ 9000000000000000000 := by have := hk.la1; omega
 have la2 : a2.length ≤ 9000000000000000000 := by have := hk.la2; omega
 have la3 : a3.length ≤ 9000000000000000000 := by have := hk.la3; omega
 have HGw := Lib.hid hG
 have hgn := hG.size
 clear hk hG
 obtain ⟨t0, ht0, ht1, ht2, ht3⟩ := info_parts Tryz.infoTerm
 go_enter Tryz.func18, Tryz.ntmps18
 go_wp2_with fail
 go_loopw [12, 34] (fun lv iv wr => OpLoop i e s f w lv iv wr) (fun _ iv _ => 4 - (intOf iv).toNat)
 case atStart => exact ⟨0, by omega, rfl, ⟨rfl, Or.inl ⟨rfl, rfl⟩⟩, blk_new _ _, bl_⟩
 case round =>
  obtain ⟨k, hk, rfl, hown, hA, hbel⟩ := hrel
  have HAr := Lib.hid hA
  have v0 := blk_cell hA
  have hAl := blk_lt hA
  have HGr := Lib.hid (gok_below HGw.out hbel)
  have hbs := hbel.size
  clear hA
  by_cases hlt : k < 4
  · obtain ⟨n, hc, hn0, hn1, hnm, htk⟩ := H4.out k hlt
    have i1 : (k : Int) < 4 := by omega
    have c0 : wr.cell? ⟨w.heap.size, k, none⟩ = some (.int .i64 n) := (v0 k).trans hc
    have HN := Lib.hid hnm
    have HT := Lib.hid htk
    clear v0 hc hnm htk
    go_wp2_with fail
    refine (tMkName n om_ hn1 _ HGr.out).mono ?_
    rintro en w1 ⟨rfl, hb1⟩
    rw [HN.out]
    have hown1 := own_below hown hb1 rfl
    have HA1 := Lib.hid (blk_below HAr.out hb1 (blk_lt HAr.out))
    have hbel1 : Below w.heap.size w w1 := hbel.trans (hb1.mono hbel.size)
    have hA1l := blk_lt HA1.out
    have hneA := own_ne hown1 HA1.out de_
    obtain ⟨ad, kn, kc, hkv⟩ := own_slice hown1
    subst hkv
    go_wp2_with (at_builtin; go_must (refine wpList_append_own _ rfl _ _ 31 rfl (w.heap.size + 1) 22 t0 (.string ByteArray.empty) 1 16 Tryz.underlying31 ht0 ht1 ht2 ht3 rfl de_ _ _ _ rfl (own_alloc hown1 _) ⟨w1.heap.size, 0, none⟩ 1 1 [.string (bs (nameL n.toNat))] rfl rfl ?c1 ?c2 ?c3 ?c4 ?c5 ?_; (case c1 => (exact cell_one_at rfl)); (case c2 => exact one1 rfl); (case c3 => (unfold maxLen; omega)); (case c4 => (omega)); (case c5 => (first | (simp; done) | (simp; omega))); (intro v' w6 hown6 hgr6 _); (obtain ⟨ad6, n6, cp6, hv6⟩ := own_slice hown6); (subst hv6)))
    have hrelN : OpLoop i e s f w (Value.slice ad6 n6 cp6) (.int .i64 ((k : Int) + 1)) w6 := by
     refine ⟨k + 1, by omega, by go_num, ?_, blk_grown (blk_alloc HA1.out _) hgr6 hneA, ?_⟩
     · rw [HT.out, List.map_append]; exact hown6
     · have h5 : Below w.heap.size w (w1.alloc (.cells #[.string (bs (nameL n.toNat))] 22)) := hbel1.alloc hbel1.size _
       refine h5.grown hgr6 h5.size (fun g hg => ?_)
       have := own_ge hown1 g hg
       omega
    go_roundw
    case rel => first | exact hrelN | ((repeat apply Exists.intro); refine ⟨?_, rfl⟩; exact hrelN)
    case measure => (show 4 - ((k : Int) + 1).toNat < 4 - (k : Int).toNat); omega
  · obtain rfl : k = 4 := by omega
    obtain ⟨g, cap, cur, hv, hgb, hg0, hcap, hcur⟩ := own_blk hown om_
    subst hv
    have q0 := hcur 0 _ rfl
    have q1 := hcur 1 _ rfl
    have q2 := hcur 2 _ rfl
    have q3 := hcur 3 _ rfl
    have Q0 := Lib.hid q0
    have Q1 := Lib.hid q1
    have Q2 := Lib.hid q2
    have Q3 := Lib.hid q3
    have HL0 := Lib.hid hg0
    have HG0 := HGr
    have hg0 : GL [] w wr := ⟨hbel.os, hbel.tape, hbel.output, hbel.size, fun k hk _ => hbel.block k hk⟩
    have geL : w.heap.size ≤ g := by omega
    clear v0 hcur hown H4 t0 ht0 ht1 ht2 ht3 q0 q1 q3 HAr HGr hcap
    have cL := (blk_cell HL0.out 2).trans Q2.out
    go_wp2_with fail
    refine (tPub (nameL s.toNat) lss _ HG0.out).mono ?_
    rintro e w1 ⟨rfl, hb1⟩
    rw [HPB.out]
    have HL1 := Lib.hid (blk_below HL0.out hb1 (blk_lt HL0.out))
    have HG1 := Lib.hid (gok_below HG0.out hb1)
    have hg1 : GL [] w w1 := gl_below hb1 hg0
    have hs1 := hg1.size
    clear cL q2
    have cL0 := (blk_cell HL1.out 0).trans Q0.out
    have cL1 := (blk_cell HL1.out 1).trans Q1.out
    go_wp2_with fail
    go_region_held3 (fun w' => w'.cell? ⟨g, 0, none⟩ = some (.string (bs (nameL i.toNat))) ∧ w'.cell? ⟨g, 1, none⟩ = some (.string (bs (nameL e.toNat))))
     (refine ⟨?_, ?_⟩ <;> (first | exact (blk_cell HL2.out 0).trans Q0.out | exact (blk_cell HL2.out 1).trans Q1.out | go_keep))
     ((go_at_call 26
       go_must (refine (sDial (nameL i.toNat) (nameL e.toNat) (80 :: nameL s.toNat) li le lps _ (by first | exact HG1.out | exact gok_drew HG1.out | exact gok_drewN HG1.out _)).mono ?_)
       rintro en w2 hp
       rw [HK.out.dial] at hp
       unfold DialPost at hp
       rw [if_pos rfl] at hp
       obtain ⟨X, hXge, rfl, hx2, hd2⟩ := hp
       have hb2 : Below w1.heap.size w1 w2 := ⟨hd2.os, hd2.tape, hd2.output, hd2.size, hd2.block⟩
       have hXge1 : w1.heap.size ≤ X := hXge
       have HX2 := Lib.hid hx2
       have HL2 := Lib.hid (blk_below HL1.out hb2 (blk_lt HL1.out))
       have HG2 := Lib.hid (gok_below HG1.out hb2)
       have hg2 : GL [] w w2 := gl_below hb2 hg1
       have hXlt := blk_lt hx2
       have hLlt := blk_lt HL1.out
       clear hx2 hXge hd2))
    clear cL0 cL1
    have neXL : X ≠ g := by omega
    have neLX : g ≠ X := by omega
    have geX : w.heap.size ≤ X := by omega
    have gnX : gN ≤ X := by omega
    have hs2 := hg2.size
    have cL0 := (blk_cell HL2.out 2).trans Q2.out
    have cL1 := (blk_cell HL2.out 3).trans Q3.out
    go_wp2_with fail
    go_region_held3 (fun w' => w'.cell? ⟨g, 2, none⟩ = some (.string (bs (nameL s.toNat))) ∧ w'.cell? ⟨g, 3, none⟩ = some (.string (bs (nameL f.toNat))))
     (refine ⟨?_, ?_⟩ <;> (first | exact (blk_cell HL3.out 2).trans Q2.out | exact (blk_cell HL3.out 3).trans Q3.out | go_keep))
     ((go_at_call 25
       go_must (refine (sListen (nameL s.toNat) (nameL f.toNat) lss lf _ (by first | exact HG2.out | exact gok_drew HG2.out | exact gok_drewN HG2.out _)).mono ?_)
       rintro en w3 hp
       unfold ListenPost at hp
       rw [if_pos ⟨by rw [HK.out.so], by rw [HK.out.sf]⟩] at hp
       obtain ⟨Y, hYge, rfl, hy3, hd3⟩ := hp
       have hb3 : Below w2.heap.size w2 w3 := ⟨hd3.os, hd3.tape, hd3.output, hd3.size, hd3.block⟩
       have hYge1 : w2.heap.size ≤ Y := hYge
       have HY3 := Lib.hid hy3
       have HL3 := Lib.hid (blk_below HL2.out hb3 (blk_lt HL2.out))
       have HX3 := Lib.hid (blk_below HX2.out hb3 (blk_lt HX2.out))
       have HG3 := Lib.hid (gok_below HG2.out hb3)
       have hg3 : GL [] w w3 := gl_below hb3 hg2
       clear hy3 hYge hd3))
    clear cL0 cL1 HL3
    have neXY : X ≠ Y := by omega
    have neYX : Y ≠ X := by omega
    have geY : w.heap.size ≤ Y := by omega
    have gnY : gN ≤ Y := by omega
    have hs3 := hg3.size
    go_wp2_with fail
    refine (hearOne a1 Y (nameL s.toNat) (nameL f.toNat) [] false [] [] 0 [] 0 lss lf la1 _ HY3.out gnY HG3.out).mono ?_
    rintro en w4 hp
    rw [HK.out.one] at hp
    obtain ⟨hl4, rfl, hy4⟩ := hp
    have HY4 := Lib.hid hy4
    have HX4 := Lib.hid (blk_gl HX3.out hl4 sx_)
    have HG4 := Lib.hid (gok_gl HG3.out hl4 sx_)
    have hg4 : GL [] w w4 := gl_step hl4 hg3 sx_
    have hs4 := hg4.size
    clear hy4
    go_wp2_with fail
    have HX5 := Lib.hid (blk_alloc HX4.out (.cells #[.string (bs a2), .string (bs []), .bool false] 53))
    have ltXHA : X < w4.heap.size := by have := blk_lt HX4.out; omega
    have neXHA : X ≠ w4.heap.size := by omega
    have neHAX : w4.heap.size ≠ X := by omega
    have HY5 := Lib.hid (blk_alloc HY4.out (.cells #[.string (bs a2), .string (bs []), .bool false] 53))
    have ltYHA : Y < w4.heap.size := by have := blk_lt HY4.out; omega
    have neYHA : Y ≠ w4.heap.size := by omega
    have neHAY : w4.heap.size ≠ Y := by omega
    have HHA5 : Hid ((w4.alloc (.cells #[.string (bs a2), .string (bs []), .bool false] 53)).heap[w4.heap.size]? = some (.cells #[.string (bs a2), .string (bs []), .bool false] 53 (0, 0))) := by
     have h := blk_new w4 (.cells #[.string (bs a2), .string (bs []), .bool false] 53)
     exact h
    have HG5 := Lib.hid (gok_alloc HG4.out (.cells #[.string (bs a2), .string (bs []), .bool false] 53))
    have hg5 : GL [] w (w4.alloc (.cells #[.string (bs a2), .string (bs []), .bool false] 53)) := (gl_alloc hg4 (.cells #[.string (bs a2), .string (bs []), .bool false] 53))
    have geHA : w.heap.size ≤ w4.heap.size := by have := hg4.size; omega
    have gnHA : gN ≤ w4.heap.size := by have := HG4.out.size; omega
    generalize (w4.alloc (.cells #[.string (bs a2), .string (bs []), .bool false] 53)) = w5 at *
    generalize w4.heap.size = HA at *
    have hs5 := hg5.size
    refine (hearTwo a2 X (nameL i.toNat) (nameL e.toNat) (80 :: nameL s.toNat) true k1 [] 0 [] 0 li le lk1 la2 _ HX5.out gnX HG5.out).mono ?_
    rintro en w6 hp
    rw [HK.out.two] at hp
    obtain ⟨hl6, hp⟩ := hp
    rw [if_pos rfl] at hp
    obtain ⟨rfl, hx6⟩ := hp
    have hx6b : SesAt w6 X (nameL i.toNat) (nameL e.toNat) (80 :: nameL s.toNat) true true false k1 d 0 l 0 (.func (.func 96) #[.pointer (some ⟨X, 0, none⟩)] #[]) := hx6
    have HX6 := Lib.hid hx6b
    have HY6 := Lib.hid (blk_gl HY5.out hl6 sx_)
    have HHA6 := Lib.hid (blk_gl HHA5.out hl6 sx_)
    have HG6 := Lib.hid (gok_gl HG5.out hl6 sx_)
    have hg6 : GL [] w w6 := gl_step hl6 hg5 sx_
    have hs6 := hg6.size
    clear hx6 hx6b
    go_wp2_with fail
    have HX7 := Lib.hid (blk_alloc HX6.out (.cells #[.string (bs a3), .string (bs []), .bool false] 53))
    have ltXHB : X < w6.heap.size := by have := blk_lt HX6.out; omega
    have neXHB : X ≠ w6.heap.size := by omega
    have neHBX : w6.heap.size ≠ X := by omega
    have HY7 := Lib.hid (blk_alloc HY6.out (.cells #[.string (bs a3), .string (bs []), .bool false] 53))
    have ltYHB : Y < w6.heap.size := by have := blk_lt HY6.out; omega
    have neYHB : Y ≠ w6.heap.size := by omega
    have neHBY : w6.heap.size ≠ Y := by omega
    have HHA7 := Lib.hid (blk_alloc HHA6.out (.cells #[.string (bs a3), .string (bs []), .bool false] 53))
    have ltHAHB : HA < w6.heap.size := by have := blk_lt HHA6.out; omega
    have neHAHB : HA ≠ w6.heap.size := by omega
    have neHBHA : w6.heap.size ≠ HA := by omega
    have HHB7 : Hid ((w6.alloc (.cells #[.string (bs a3), .string (bs []), .bool false] 53)).heap[w6.heap.size]? = some (.cells #[.string (bs a3), .string (bs []), .bool false] 53 (0, 0))) := by
     have h := blk_new w6 (.cells #[.string (bs a3), .string (bs []), .bool false] 53)
     exact h
    have HG7 := Lib.hid (gok_alloc HG6.out (.cells #[.string (bs a3), .string (bs []), .bool false] 53))
    have hg7 : GL [] w (w6.alloc (.cells #[.string (bs a3), .string (bs []), .bool false] 53)) := (gl_alloc hg6 (.cells #[.string (bs a3), .string (bs []), .bool false] 53))
    have geHB : w.heap.size ≤ w6.heap.size := by have := hg6.size; omega
    have gnHB : gN ≤ w6.heap.size := by have := HG6.out.size; omega
    generalize (w6.alloc (.cells #[.string (bs a3), .string (bs []), .bool false] 53)) = w7 at *
    generalize w6.heap.size = HB at *
    have hs7 := hg7.size
    refine (hearThree a3 Y (nameL s.toNat) (nameL f.toNat) [] false k2 [] 0 [] 0 lss lf lk2 la3 _ HY7.out gnY HG7.out).mono ?_
    rintro en w8 hp
    rw [HK.out.three] at hp
    obtain ⟨hl8, hp⟩ := hp
    rw [if_pos rfl] at hp
    obtain ⟨rfl, hy8⟩ := hp
    have hy8b : SesAt w8 Y (nameL s.toNat) (nameL f.toNat) (80 :: nameL i.toNat) false true false k2 l 0 d 0 (.func (.func 96) #[.pointer (some ⟨Y, 0, none⟩)] #[]) := hy8
    have HY8 := Lib.hid hy8b
    have HX8 := Lib.hid (blk_gl HX7.out hl8 sx_)
    have HHA8 := Lib.hid (blk_gl HHA7.out hl8 sx_)
    have HHB8 := Lib.hid (blk_gl HHB7.out hl8 sx_)
    have HG8 := Lib.hid (gok_gl HG7.out hl8 sx_)
    have hg8 : GL [] w w8 := gl_step hl8 hg7 sx_
    have hs8 := hg8.size
    clear hy8 hy8b
    have fa1 := blk_cell HHA8.out
    have fb1 := blk_free HHA8.out
    have fl1 := blk_lt HHA8.out
    have fa2 := blk_cell HHB8.out
    have fb2 := blk_free HHB8.out
    have fl2 := blk_lt HHB8.out
    go_wp2_with fail
    clear fa1 fb1 fl1 fa2 fb2 fl2
    have HX9 := Lib.hid (blk_alloc HX8.out (.cells #[.string (bs []), .string (bs []), .bool false] 53))
    have ltXHC : X < w8.heap.size := by have := blk_lt HX8.out; omega
    have neXHC : X ≠ w8.heap.size := by omega
    have neHCX : w8.heap.size ≠ X := by omega
    have HY9 := Lib.hid (blk_alloc HY8.out (.cells #[.string (bs []), .string (bs []), .bool false] 53))
    have ltYHC : Y < w8.heap.size := by have := blk_lt HY8.out; omega
    have neYHC : Y ≠ w8.heap.size := by omega
    have neHCY : w8.heap.size ≠ Y := by omega
    have HHA9 := Lib.hid (blk_alloc HHA8.out (.cells #[.string (bs []), .string (bs []), .bool false] 53))
    have ltHAHC : HA < w8.heap.size := by have := blk_lt HHA8.out; omega
    have neHAHC : HA ≠ w8.heap.size := by omega
    have neHCHA : w8.heap.size ≠ HA := by omega
    have HHB9 := Lib.hid (blk_alloc HHB8.out (.cells #[.string (bs []), .string (bs []), .bool false] 53))
    have ltHBHC : HB < w8.heap.size := by have := blk_lt HHB8.out; omega
    have neHBHC : HB ≠ w8.heap.size := by omega
    have neHCHB : w8.heap.size ≠ HB := by omega
    have HHC9 : Hid ((w8.alloc (.cells #[.string (bs []), .string (bs []), .bool false] 53)).heap[w8.heap.size]? = some (.cells #[.string (bs []), .string (bs []), .bool false] 53 (0, 0))) := by
     have h := blk_new w8 (.cells #[.string (bs []), .string (bs []), .bool false] 53)
     exact h
    have HG9 := Lib.hid (gok_alloc HG8.out (.cells #[.string (bs []), .string (bs []), .bool false] 53))
    have hg9 : GL [] w (w8.alloc (.cells #[.string (bs []), .string (bs []), .bool false] 53)) := (gl_alloc hg8 (.cells #[.string (bs []), .string (bs []), .bool false] 53))
    have geHC : w.heap.size ≤ w8.heap.size := by have := hg8.size; omega
    have gnHC : gN ≤ w8.heap.size := by have := HG8.out.size; omega
    generalize (w8.alloc (.cells #[.string (bs []), .string (bs []), .bool false] 53)) = w9 at *
    generalize w8.heap.size = HC at *
    have hs9 := hg9.size
    have fa3 := blk_cell HHA9.out
    have fb3 := blk_free HHA9.out
    have fl3 := blk_lt HHA9.out
    have fa4 := blk_cell HHB9.out
    have fb4 := blk_free HHB9.out
    have fl4 := blk_lt HHB9.out
    go_region
    go_wp2_with fail
    refine bodyPost_ret (v := .tuple #[.pointer (some ⟨X, 0, none⟩), .pointer (some ⟨Y, 0, none⟩), .slice (some ⟨w9.heap.size, 0, none⟩) 3 3, .bool true]) (by simp [results, Tryz.results18, go_sem]) rfl ?_
    refine ⟨X, Y, w9.heap.size, geX, geY, hg9.size, neXY, rfl, ?_, ?_, ?_, gl_to_below gl_⟩
    · first | exact blk_drew (blk_alloc HX9.out _) | exact blk_alloc (blk_drew HX9.out) _ | exact blk_alloc HX9.out _
    · first | exact blk_drew (blk_alloc HY9.out _) | exact blk_alloc (blk_drew HY9.out) _ | exact blk_alloc HY9.out _
    · first | exact blk_drew (blk_new w9 _) | exact blk_new w9.drew _ | exact blk_new w9 _
end Go.Proofs.YtaaiaahkakkleaaGreatDoor
