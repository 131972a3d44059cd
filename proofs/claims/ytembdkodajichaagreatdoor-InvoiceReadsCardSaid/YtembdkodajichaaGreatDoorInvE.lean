/- Two invoices are compared. -/
import Derived.Test.YtembdkodajichaaGreatDoorByteR
import Derived.Laws.MakeOwn
import Derived.Test.YtembdkodajichaaGreatDoorInvW
import Derived.Test.YtembdkodajichaaGreatDoorAmtQ
import Derived.Test.YtembdkodajichaaGreatDoorInvB
import Derived.Laws.StructEq
set_option maxRecDepth 100000
set_option maxHeartbeats 8000000
set_option linter.unusedSimpArgs false
set_option linter.unusedVariables false
namespace Go.Proofs.YtembdkodajichaaGreatDoor
open Go.RowKit
theorem zpm_ (a : Addr) (g : Nat) (cap : Array Value) (m : Mode) (w : World) : (store a (.func (.func g) #[] cap) m).run Tryz.prog w = stored Tryz.prog w a (.func (.func g) #[] cap) m := run_store Tryz.prog w a (.func (.func g) #[] cap) m rfl
def DecO (s : List UInt8) (e : Ending) (w' : World) : Prop :=
 if v9_ s = 0 then ∃ v, e = .returned (.tuple #[.string (bs (x5_ s)), v, .int .i64 0]) ∧ x8_ v (k4_ s) w'
 else e = .returned (.tuple #[.string (bs []), .slice none 0 0, .int .i64 (v9_ s)])
theorem zbE_ {s : List UInt8} {n : Int} {w' : World} (h : v9_ s = n) (hn : n ≠ 0) : DecO s (.returned (.tuple #[.string (bs []), .slice none 0 0, .int .i64 n])) w' := by
 unfold DecO
 rw [h, if_neg hn]
theorem zjR_ {s h : List UInt8} {ad : Option Addr} {n c : Nat} {w' : World} (he : v9_ s = 0) (hh : x5_ s = h) (hi : x8_ (.slice ad n c) (k4_ s) w') : DecO s (.returned (.tuple #[.string (bs h), .slice ad n c, .int .i64 0])) w' := by
 unfold DecO
 rw [if_pos he]
 exact ⟨_, by rw [hh], hi⟩
theorem zjS_ {s : List UInt8} (h : 32768 < s.length) : v9_ s = 3 := by unfold v9_; rw [if_pos h]
theorem zdp_ {s : List UInt8} (h : ¬ 32768 < s.length) (hb : zcQ_ s = true) : v9_ s = 60 := by unfold v9_; rw [if_neg h, if_pos hb]
theorem zjT_ {s : List UInt8} (h : ¬ 32768 < s.length) (hb : zcQ_ s = false) (hw : (w2_ s).any (fun x => decide (31 < x.toNat)) = true) : v9_ s = 60 := by unfold v9_; rw [if_neg h, if_neg (by rw [hb]; simp), if_pos hw]
theorem zjU_ (s : List UInt8) : zcQ_ s = (s.any q2_ || (s.any k2_ && s.any v8_) || farI (j0_ s) s.length) := by rw [zjk_]; rfl
theorem zpn_ (s : List UInt8) : -1 ≤ j0_ s := by unfold j0_; cases q7_ s <;> first | (simp; done) | (simp; omega)
theorem Tryz.sizeFb : (Tryz.prog.info? 22).map (·.size) = some 1 := by kernel_rfl
theorem zhg_ (w : World) (cs : Array Value) (i : Nat) (x : Value) (hi : i < 3) (hx : cs[i]? = some x) : (Instr.index 130 (.agg cs) (.int .i64 (i : Int))).run Tryz.prog w = .ok x w := by
 have h2 : (0 : Int) ≤ (i : Int) ∧ (i : Int) < 3 := by omega
 obtain ⟨j, hj, hjs⟩ := Option.map_eq_some_iff.1 Tryz.sizeFb
 simp [Instr.index, run_underlying Tryz.underlying130, asIntOf, sizeOf, typeInfo, hj, hjs, part, h2]
 rw [if_pos hi, hx]
 rfl
theorem zpo_ : ∀ c : Fin 128, (zac_ 32).getD c.val 0 = zaN_ (UInt8.ofNat c.val) := by decide +kernel
theorem zpp_ (c : UInt8) (hc : c.toNat < 128) : (zaJ_ (zac_ 32)).toArray[c.toNat]? = some (.int .u8 ((zaN_ c : Nat) : Int)) := by
 have h := zgT_ (zac_ 32) c.toNat (by rw [zfy_ ⟨32, by omega⟩]; exact hc)
 rw [zpo_ ⟨c.toNat, hc⟩] at h
 have h2 : (zbD_ (zac_ 32))[c.toNat]? = some (.int .u8 ((zaN_ c : Nat) : Int)) := by simpa using h
 exact h2
theorem zpq_ : ∀ c : Fin 256, q2_ (UInt8.ofNat c.val) = false → (w9_ (UInt8.ofNat c.val)).toNat < 128 := by decide +kernel
theorem zpr_ {s : List UInt8} (h : s.any q2_ = false) : ∀ c ∈ s.map w9_, c.toNat < 128 := by
 intro c hc
 obtain ⟨x, hx, rfl⟩ := List.mem_map.1 hc
 have hb : q2_ x = false := by
  cases hbx : q2_ x with
  | false => rfl
  | true =>
    have : s.any q2_ = true := List.any_eq_true.2 ⟨x, hx, hbx⟩
    rw [h] at this
    cases this
 exact ze8_ (p := fun c => q2_ c = false → (w9_ c).toNat < 128) zpq_ x hb
theorem zjV_ {T tw : List UInt8} {k p : Nat} (htw : tw = (T.drop (k + 1)).map fun c => UInt8.ofNat (zaN_ c)) (hp : k + 1 ≤ p) (hl : p < T.length) : tw.take (p + 1 - (k + 1)) = tw.take (p - (k + 1)) ++ [UInt8.ofNat (zaN_ (T.getD p 0))] := by
 subst htw
 rw [show p + 1 - (k + 1) = p - (k + 1) + 1 by omega, ← List.map_take, ← List.map_take, zfp_ _ _ (by rw [List.length_drop]; omega)]
 congr 3
 rw [List.getD_eq_getElem?_getD, List.getD_eq_getElem?_getD, List.getElem?_drop, show k + 1 + (p - (k + 1)) = p by omega]
theorem zps_ (s : List UInt8) : j0_ s ≤ s.length := by
 unfold j0_
 cases h : q7_ s with
 | none => first | (simp; done) | (simp; omega)
 | some k =>
   obtain ⟨a, b, hs, ha, _⟩ := zl0_ h
   rw [hs]
   simp
   omega
theorem zpt_ (s : List UInt8) (w : World) (hl : s.length ≤ 1000000000) :
  Calls Tryz.prog 51 #[.string (bs s)] w fun e w' => DecO s e w' ∧ Below w.heap.size w w' := by
 by_cases hlong : 32768 < s.length
 · have HE := Lib.hid (zjS_ hlong)
   have hl1 : (32768 : Int) < s.length := by omega
   clear hlong
   go_enter Tryz.func51, Tryz.ntmps51
   go_wp2_with fail
   exact bodyPost_ret (v := .tuple #[.string (bs []), .slice none 0 0, .int .i64 3]) (by simp [results, Tryz.results51, go_sem]) rfl ⟨zbE_ HE.out de_, bl_⟩
 · have hl1 : (s.length : Int) ≤ 32768 := by omega
   have HLO := Lib.hid hlong
   clear hlong
   have hsf := zpm_
   go_enter Tryz.func51, Tryz.ntmps51
   go_wp2_with fail
   refine (zoN_ s hl _).mono ?_
   rintro e w1 ⟨rfl, rfl⟩
   have hpg := zpn_ s
   have hpl : j0_ s ≤ 1000000000 := by
    have := zps_ s
    omega
   go_wp2_with fail
   have HS3 : Hid ((((w.alloc (.cells #[.string (bs s)] 9)).alloc (.cells #[.int .i64 (j0_ s)] 3)).alloc (.cells #[.func (.func 95) #[] #[.pointer (some ⟨w.heap.size, 0, none⟩)]] 129)).heap[w.heap.size]? = some (.cells #[.string (bs s)] 9 (0, 0))) := Lib.hid (x3_ (x3_ (y8_ _ _) _) _)
   have HK3 : Hid ((((w.alloc (.cells #[.string (bs s)] 9)).alloc (.cells #[.int .i64 (j0_ s)] 3)).alloc (.cells #[.func (.func 95) #[] #[.pointer (some ⟨w.heap.size, 0, none⟩)]] 129)).heap[w.heap.size + 1]? = some (.cells #[.int .i64 (j0_ s)] 3 (0, 0))) := Lib.hid (x3_ (by have := y8_ (w.alloc (.cells #[.string (bs s)] 9)) (.cells #[.int .i64 (j0_ s)] 3); rwa [World.size_alloc] at this) _)
   have HF3 : Hid ((((w.alloc (.cells #[.string (bs s)] 9)).alloc (.cells #[.int .i64 (j0_ s)] 3)).alloc (.cells #[.func (.func 95) #[] #[.pointer (some ⟨w.heap.size, 0, none⟩)]] 129)).heap[w.heap.size + 1 + 1]? = some (.cells #[.func (.func 95) #[] #[.pointer (some ⟨w.heap.size, 0, none⟩)]] 129 (0, 0))) := Lib.hid (by have := y8_ ((w.alloc (.cells #[.string (bs s)] 9)).alloc (.cells #[.int .i64 (j0_ s)] 3)) (.cells #[.func (.func 95) #[] #[.pointer (some ⟨w.heap.size, 0, none⟩)]] 129); rwa [World.size_alloc, World.size_alloc] at this)
   have HG3 : Hid (GL [] w (((w.alloc (.cells #[.string (bs s)] 9)).alloc (.cells #[.int .i64 (j0_ s)] 3)).alloc (.cells #[.func (.func 95) #[] #[.pointer (some ⟨w.heap.size, 0, none⟩)]] 129))) := Lib.hid (y2_ (y2_ (y2_ (y1_ _ _) _) _) _)
   generalize (((w.alloc (.cells #[.string (bs s)] 9)).alloc (.cells #[.int .i64 (j0_ s)] 3)).alloc (.cells #[.func (.func 95) #[] #[.pointer (some ⟨w.heap.size, 0, none⟩)]] 129)) = w3 at *
   have HDB := Lib.hid (zjU_ s)
   go_loopw [8, 25] (fun _ iv wr => ∃ i : Nat, i ≤ 3 ∧ iv = .int .i64 i ∧ Hid (1 ≤ i → s.any q2_ = false) ∧ Hid (2 ≤ i → (s.any k2_ && s.any v8_) = false) ∧ Hid (3 ≤ i → farI (j0_ s) s.length = false) ∧ Hid (wr = w3)) (fun _ iv _ => 3 - (intOf iv).toNat)
   case atStart => exact ⟨0, by omega, rfl, Lib.hid om_, Lib.hid om_, Lib.hid om_, Lib.hid rfl⟩
   case round =>
    obtain ⟨i, hi, rfl, h1, h2, h3, hw⟩ := hrel
    have hww := hw.out
    subst hww
    have fS := z0_ HS3.out 0
    have fK := z0_ HK3.out 0
    have fF := z0_ HF3.out 0
    rcases (by omega : i = 0 ∨ i = 1 ∨ i = 2 ∨ i = 3) with rfl | rfl | rfl | rfl
    · have hix : (Instr.index 130 (.agg #[.func (.func 96) #[] #[.pointer (some ⟨w.heap.size + 1 + 1, 0, none⟩)], .func (.func 97) #[] #[.pointer (some ⟨w.heap.size + 1 + 1, 0, none⟩)], .func (.func 98) #[] #[.pointer (some ⟨w.heap.size + 1, 0, none⟩), .pointer (some ⟨w.heap.size, 0, none⟩)]]) (.int .i64 0)).run Tryz.prog wr = .ok (.func (.func 96) #[] #[.pointer (some ⟨w.heap.size + 1 + 1, 0, none⟩)]) wr := zhg_ wr _ 0 _ de_ rfl
      cases hb : s.any q2_ with
      | true =>
        have HB := Lib.hid hb
        have HE : Hid (v9_ s = 60) := Lib.hid (zdp_ HLO.out (by rw [HDB.out, hb]; rfl))
        clear hb
        go_wp2_with fail
        refine (bBad s w.heap.size (w.heap.size + 1 + 1) _ fS fF hl).mono ?_
        rintro e w4 ⟨rfl, rfl⟩
        rw [HB.out]
        go_wp2_with fail
        exact bodyPost_ret (v := .tuple #[.string (bs []), .slice none 0 0, .int .i64 60]) (by simp [results, Tryz.results51, go_sem]) rfl ⟨zbE_ HE.out de_, y0_ HG3.out⟩
      | false =>
        have HB := Lib.hid hb
        clear hb
        go_wp2_with fail
        refine (bBad s w.heap.size (w.heap.size + 1 + 1) _ fS fF hl).mono ?_
        rintro e w4 ⟨rfl, rfl⟩
        rw [HB.out]
        go_wp2_with fail
        go_roundw
        case rel => exact ⟨1, by omega, by first | rfl | (simp; done), (by first | exact Lib.hid (fun _ => HB.out) | exact Lib.hid (fun _ => trivial) | exact Lib.hid trivial), Lib.hid om_, Lib.hid om_, by first | exact hw | exact Lib.hid trivial⟩
        case measure => first | (simp [intOf]; done) | (simp [intOf]; omega)
    · have hix : (Instr.index 130 (.agg #[.func (.func 96) #[] #[.pointer (some ⟨w.heap.size + 1 + 1, 0, none⟩)], .func (.func 97) #[] #[.pointer (some ⟨w.heap.size + 1 + 1, 0, none⟩)], .func (.func 98) #[] #[.pointer (some ⟨w.heap.size + 1, 0, none⟩), .pointer (some ⟨w.heap.size, 0, none⟩)]]) (.int .i64 1)).run Tryz.prog wr = .ok (.func (.func 97) #[] #[.pointer (some ⟨w.heap.size + 1 + 1, 0, none⟩)]) wr := zhg_ wr _ 1 _ de_ rfl
      cases hb : (s.any k2_ && s.any v8_) with
      | true =>
        have HB := Lib.hid hb
        have HE : Hid (v9_ s = 60) := Lib.hid (zdp_ HLO.out (by rw [HDB.out, hb]; simp))
        clear hb
        go_wp2_with fail
        refine (zji_ s w.heap.size (w.heap.size + 1 + 1) _ fS fF hl).mono ?_
        rintro e w4 ⟨rfl, rfl⟩
        rw [HB.out]
        go_wp2_with fail
        exact bodyPost_ret (v := .tuple #[.string (bs []), .slice none 0 0, .int .i64 60]) (by simp [results, Tryz.results51, go_sem]) rfl ⟨zbE_ HE.out de_, y0_ HG3.out⟩
      | false =>
        have HB := Lib.hid hb
        clear hb
        go_wp2_with fail
        refine (zji_ s w.heap.size (w.heap.size + 1 + 1) _ fS fF hl).mono ?_
        rintro e w4 ⟨rfl, rfl⟩
        rw [HB.out]
        go_wp2_with fail
        go_roundw
        case rel => exact ⟨2, by omega, by first | rfl | (simp; done), Lib.hid (fun _ => h1.out om_), (by first | exact Lib.hid (fun _ => HB.out) | exact Lib.hid (fun _ => trivial) | exact Lib.hid trivial), Lib.hid om_, by first | exact hw | exact Lib.hid trivial⟩
        case measure => first | (simp [intOf]; done) | (simp [intOf]; omega)
    · have hix : (Instr.index 130 (.agg #[.func (.func 96) #[] #[.pointer (some ⟨w.heap.size + 1 + 1, 0, none⟩)], .func (.func 97) #[] #[.pointer (some ⟨w.heap.size + 1 + 1, 0, none⟩)], .func (.func 98) #[] #[.pointer (some ⟨w.heap.size + 1, 0, none⟩), .pointer (some ⟨w.heap.size, 0, none⟩)]]) (.int .i64 2)).run Tryz.prog wr = .ok (.func (.func 98) #[] #[.pointer (some ⟨w.heap.size + 1, 0, none⟩), .pointer (some ⟨w.heap.size, 0, none⟩)]) wr := zhg_ wr _ 2 _ de_ rfl
      cases hb : farI (j0_ s) s.length with
      | true =>
        have HB := Lib.hid hb
        have HE : Hid (v9_ s = 60) := Lib.hid (zdp_ HLO.out (by rw [HDB.out, hb]; simp))
        clear hb
        go_wp2_with fail
        refine (bFar (j0_ s) s w.heap.size (w.heap.size + 1) _ ⟨hpg, hpl⟩ fS fK hl).mono ?_
        rintro e w4 ⟨rfl, rfl⟩
        rw [HB.out]
        go_wp2_with fail
        exact bodyPost_ret (v := .tuple #[.string (bs []), .slice none 0 0, .int .i64 60]) (by simp [results, Tryz.results51, go_sem]) rfl ⟨zbE_ HE.out de_, y0_ HG3.out⟩
      | false =>
        have HB := Lib.hid hb
        clear hb
        go_wp2_with fail
        refine (bFar (j0_ s) s w.heap.size (w.heap.size + 1) _ ⟨hpg, hpl⟩ fS fK hl).mono ?_
        rintro e w4 ⟨rfl, rfl⟩
        rw [HB.out]
        go_wp2_with fail
        go_roundw
        case rel => exact ⟨3, by omega, by first | rfl | (simp; done), Lib.hid (fun _ => h1.out om_), Lib.hid (fun _ => h2.out om_), (by first | exact Lib.hid (fun _ => HB.out) | exact Lib.hid (fun _ => trivial) | exact Lib.hid trivial), by first | exact hw | exact Lib.hid trivial⟩
        case measure => first | (simp [intOf]; done) | (simp [intOf]; omega)
    · have hnb : s.any q2_ = false := h1.out om_
      have hnm : (s.any k2_ && s.any v8_) = false := h2.out om_
      have hnf : farI (j0_ s) s.length = false := h3.out om_
      have HDB2 : Hid (zcQ_ s = false) := Lib.hid (by rw [HDB.out, hnb, hnm, hnf]; rfl)
      have HNB := Lib.hid hnb
      obtain ⟨k, hk1, hk2, hk3⟩ : ∃ k : Nat, j0_ s = k ∧ 1 ≤ k ∧ k ≤ 83 ∧ k + 6 < s.length ∧ q7_ s = some k := by
       rw [zjk_] at hnf
       unfold j0_
       cases hlo : q7_ s with
       | none => rw [hlo] at hnf; simp at hnf
       | some k =>
         rw [hlo] at hnf
         simp only [Bool.or_eq_false_iff, decide_eq_false_iff_not] at hnf
         exact ⟨k, rfl, by omega, by omega, by omega, rfl⟩
      have HK := Lib.hid hk3
      have hk4 := hk3.1
      have hk5 := hk3.2.1
      rw [hk1] at HK3
      clear h1 h2 h3 hnb hnm hnf hk3 fK HDB
      go_wp2_with fail
      refine (zoP_ s hl HNB.out _).mono ?_
      rintro e w4 ⟨rfl, hb4⟩
      have hS4 := x0_ HS3.out hb4 (z4_ HS3.out)
      have hK4 := x0_ HK3.out hb4 (z4_ HK3.out)
      have hG4 := y6_ hb4 HG3.out
      have f4 := z0_ hS4 0
      have e4 := z8_ hS4 0
      have HS5 : Hid ((w4.setCell ⟨w.heap.size, 0, none⟩ (.string (bs (s.map w9_)))).heap[w.heap.size]? = some (.cells #[.string (bs (s.map w9_))] 9 (0, 0))) := Lib.hid (z3_ hS4 0 _)
      have HK5 : Hid ((w4.setCell ⟨w.heap.size, 0, none⟩ (.string (bs (s.map w9_)))).heap[w.heap.size + 1]? = some (.cells #[.int .i64 (k : Int)] 3 (0, 0))) := Lib.hid (v0_ hK4 si_ _)
      have HG5 : Hid (GL [] w (w4.setCell ⟨w.heap.size, 0, none⟩ (.string (bs (s.map w9_))))) := Lib.hid (z2_ hG4 (.inr si_) _)
      clear hS4 hK4 hG4 hb4 HS3 HK3 HF3 HG3
      go_wp2_with fail
      generalize w4.setCell ⟨w.heap.size, 0, none⟩ (.string (bs (s.map w9_))) = w5 at *
      clear f4 e4
      refine (zoH_ _).mono ?_
      rintro e w6 ⟨rfl, hb6⟩
      have hl : (zaJ_ (zac_ 32)).length = 128 := by rw [zgS_]; exact zfy_ ⟨32, by omega⟩
      have hone : ∀ x ∈ zaJ_ (zac_ 32), x.oneCell' = true := fun x hx => by
       unfold zaJ_ at hx
       obtain ⟨y, _, rfl⟩ := List.mem_map.1 hx
       rfl
      rw [show zbD_ (zac_ 32) = (zaJ_ (zac_ 32)).toArray from rfl]
      have HCF : Hid (zaJ_ (zac_ 32) = zaJ_ (zac_ 32)) := Lib.hid rfl
      have hz := y8_ w6 (.cells Tryz.zeroCells131 131)
      have hzs : Tryz.zeroCells131.size = 128 := by rw [zjg_]; unfold zbD_; rw [List.size_toArray, zgS_]; exact zjf_ ⟨0, by omega⟩
      generalize hob : zaJ_ (zac_ 32) = ob at *
      have HOB := Lib.hid hob
      have hsc := run_storeCells_cells (P := Tryz.prog) w6.heap.size 0 ob 0 (w6.alloc (.cells Tryz.zeroCells131 131)) (fun j hj => by have := (zbL_ hz j (by rw [hzs]; omega)).1; simpa using this) (fun j hj => by have := (zbL_ hz j (by rw [hzs]; omega)).2; first | (simp; done) | simpa using this) hone
      rw [Nat.add_zero] at hsc
      have HT7 : Hid (((w6.alloc (.cells Tryz.zeroCells131 131)).setCells w6.heap.size 0 ob).heap[w6.heap.size]? = some (.cells ob.toArray 131 (0, 0))) := Lib.hid (zdC_ hz (by rw [hl, hzs]))
      have hg6 := y6_ hb6 HG5.out
      have hg7 : GL [] w6 ((w6.alloc (.cells Tryz.zeroCells131 131)).setCells w6.heap.size 0 ob) := zce_ (.inr om_) _ 0 _ (y2_ (y1_ _ _) _)
      have HS7 := Lib.hid (x6_ (x0_ HS5.out hb6 (z4_ HS5.out)) hg7 si_)
      have HK7 := Lib.hid (x6_ (x0_ HK5.out hb6 (z4_ HK5.out)) hg7 si_)
      have HG7 : Hid (GL [] w ((w6.alloc (.cells Tryz.zeroCells131 131)).setCells w6.heap.size 0 ob)) := Lib.hid (y7_ hg7 hg6 si_)
      have hsz7 : w.heap.size ≤ ((w6.alloc (.cells Tryz.zeroCells131 131)).setCells w6.heap.size 0 ob).heap.size := HG7.out.size
      obtain ⟨t0, ht0, ht1, ht2, ht3⟩ := info_parts Tryz.infoB8
      obtain ⟨w8, hmk, hown8, hgr8⟩ := run_makeSlice_owned (P := Tryz.prog) (w := ((w6.alloc (.cells Tryz.zeroCells131 131)).setCells w6.heap.size 0 ob)) w.heap.size 47 5 t0 (.int .u8 0) 1 Tryz.underlying47 ht0 ht1 ht2 .i64 .i64 (s.length - k) om_ (by rw [ht3]; omega) (by unfold maxLen; omega) hsz7
      rw [show (((s.length - k : Nat)) : Int) = (s.length : Int) - (k : Int) by omega] at hmk
      have HOWN8 := Lib.hid hown8
      have HG8 : Hid (GL [] w w8) := Lib.hid (zcu_ hgr8 HG7.out si_)
      have HS8 := Lib.hid (zaR_ HS7.out hgr8 si_)
      have HK8 := Lib.hid (zaR_ HK7.out hgr8 si_)
      have HT8 := Lib.hid (zaR_ HT7.out hgr8 si_)
      have f7 := z0_ HS7.out 0
      have k7 := z0_ HK7.out 0
      have f8 := z0_ HS8.out 0
      have k8 := z0_ HK8.out 0
      clear hob hz hg6 hg7 hone HCF hb6 HS5 HK5 HG5 hown8 hgr8 ht0 ht1 ht2 ht3
      go_wp2_with fail
      have HTW : Hid (w2_ s = ((s.map w9_).drop (k + 1)).map fun c => UInt8.ofNat (zaN_ c)) := Lib.hid (by unfold w2_ atOf; rw [HK.out.2.2]; rfl)
      have HT128 := Lib.hid (zpr_ HNB.out)
      have hTl : (s.map w9_).length = s.length := List.length_map _
      have HDH : Hid (x5_ s = (s.map w9_).take k) := Lib.hid (by unfold x5_ atOf; rw [HK.out.2.2]; rfl)
      generalize s.map w9_ = T at *
      generalize w6.heap.size = Tb at *
      go_loopw [10, 11, 12] (fun ov iv _ wr => ∃ p : Nat, k + 1 ≤ p ∧ p ≤ s.length ∧ iv = .int .i64 p ∧ Hid (∀ x ∈ (w2_ s).take (p - (k + 1)), x.toNat ≤ 31) ∧ Hid (x1_ w.heap.size ov ((w2_ s).take (p - (k + 1))) wr) ∧ Hid (wr.heap[w.heap.size]? = some (.cells #[.string (bs T)] 9 (0, 0))) ∧ Hid (wr.heap[w.heap.size + 1]? = some (.cells #[.int .i64 (k : Int)] 3 (0, 0))) ∧ Hid (wr.heap[Tb]? = some (.cells ob.toArray 131 (0, 0))) ∧ Hid (GL [] w wr)) (fun _ iv _ _ => s.length - (intOf iv).toNat)
      case atStart => exact ⟨k + 1, by omega, by omega, by first | rfl | (simp; done), Lib.hid si_, Lib.hid (by rw [Nat.sub_self, List.take_zero]; exact HOWN8.out), HS8, HK8, HT8, HG8⟩
      case round =>
       obtain ⟨p, hp1, hp2, rfl, h31, hor, hS, hKc, hTc, hgr⟩ := hrel
       obtain ⟨oa, om, oc, rfl⟩ := za4_ hor.out
       have fS := z0_ hS.out 0
       have fK := z0_ hKc.out 0
       by_cases hlt : p < s.length
       · have p1 : (p : Int) < s.length := by omega
         have hix := zag_ wr .i64 T p (by rw [hTl]; exact hlt)
         have hmem : T.getD p 0 ∈ T := by rw [List.getD_eq_getElem?_getD, List.getElem?_eq_getElem (by rw [hTl]; exact hlt)]; exact List.getElem_mem _
         have hc := HT128.out _ hmem
         have ct : wr.cell? ⟨Tb, (T.getD p 0).toNat, none⟩ = some (.int .u8 ((zaN_ (T.getD p 0) : Nat) : Int)) := by
          rw [z0_ hTc.out, ← HOB.out]
          exact zpp_ _ hc
         have HTS := Lib.hid (zjV_ HTW.out hp1 (by rw [hTl]; exact hlt))
         have hwl := zic_ (T.getD p 0)
         generalize hwd : zaN_ (T.getD p 0) = wd at *
         generalize (T.getD p 0).toNat = c at *
         have hc1 : (c : Int) < 128 := by omega
         clear hmem hwd
         by_cases hx : wd ≤ 31
         · have hx1 : (wd : Int) ≤ 31 := by omega
           have hu8 : (UInt8.ofNat wd).toNat = wd := by rw [UInt8.toNat_ofNat']; omega
           obtain ⟨g, cap, w9, hrun, hown9, hgr9, _, _⟩ := k7_ w.heap.size (.slice oa om oc) _ (UInt8.ofNat wd) (wd : Int) (by rw [hu8]) wr _ (.inr rfl) hor.out (by rw [List.length_take]; omega) hgr.out.size
           have hol : om = ((w2_ s).take (p - (k + 1))).length := zbS_ hor.out
           rw [← hol] at hrun hown9
           rw [← HTS.out] at hown9
           have n1 : w.heap.size ∉ (Value.slice oa om oc).ownBlock.toList := by have := Ne.symm (v7_ hor.out hS.out de_); simpa using this
           have n2 : w.heap.size + 1 ∉ (Value.slice oa om oc).ownBlock.toList := by have := Ne.symm (v7_ hor.out hKc.out de_); simpa using this
           have n3 : Tb ∉ (Value.slice oa om oc).ownBlock.toList := by have := Ne.symm (v7_ hor.out hTc.out de_); simpa using this
           have HS9 := Lib.hid (x6_ hS.out hgr9 n1)
           have HK9 := Lib.hid (x6_ hKc.out hgr9 n2)
           have HT9 := Lib.hid (x6_ hTc.out hgr9 n3)
           have HG9 : Hid (GL [] w w9) := Lib.hid (y7_ hgr9 hgr.out (fun r hr => .inr (v4_ hor.out r (by simpa using hr)).1))
           have HRUN := Lib.hid hrun
           have HOWN9 := Lib.hid hown9
           have H31 : Hid (∀ x ∈ (w2_ s).take (p + 1 - (k + 1)), x.toNat ≤ 31) := Lib.hid (fun x hx => by
            rw [HTS.out] at hx
            rcases List.mem_append.1 hx with h | h
            · exact h31.out x h
            · rw [List.mem_singleton.1 h, hu8]; omega)
           clear hrun hown9 hgr9 hol n1 n2 n3 hu8 hx
           go_wp2_with (at_builtin; refine w8_ _ rfl (.tmp 54) (.tmp 56) 47 47 rfl _ _ (by simp [Act.eval, Act.put]) (by simp [Act.eval, Act.put]) HRUN.out ?_)
           go_roundw
           case rel => exact ⟨p + 1, by omega, by omega, by go_num, H31, HOWN9, HS9, HK9, HT9, HG9⟩
           case measure => simp [intOf]; omega
         · have hx1 : (31 : Int) < wd := by omega
           have HE : Hid (v9_ s = 60) := Lib.hid (zjT_ HLO.out HDB2.out (List.any_eq_true.2 ⟨UInt8.ofNat wd, List.mem_of_mem_take (by rw [HTS.out]; simp), by rw [decide_eq_true_eq, UInt8.toNat_ofNat']; omega⟩))
           clear hx
           go_wp2_with fail
           exact bodyPost_ret (v := .tuple #[.string (bs []), .slice none 0 0, .int .i64 60]) (by simp [results, Tryz.results51, go_sem]) rfl ⟨zbE_ HE.out de_, y0_ hgr.out⟩
       · obtain rfl : p = s.length := by omega
         have htl : (w2_ s).length = s.length - (k + 1) := by rw [HTW.out, List.length_map, List.length_drop, hTl]
         have hfull := hor.out
         rw [List.take_of_length_le om_] at hfull
         have hol : om = (w2_ s).length := zbS_ hfull
         subst hol
         have h31f := h31.out
         rw [List.take_of_length_le om_] at h31f
         have hany : (w2_ s).any (fun x => decide (31 < x.toNat)) = false := by
          rw [Bool.eq_false_iff]
          intro h2
          simp only [List.any_eq_true, decide_eq_true_eq] at h2
          obtain ⟨x, hx, h3⟩ := h2
          have := h31f x hx
          omega
         have HANY := Lib.hid hany
         have HOWN := Lib.hid hfull
         clear hor hfull h31 h31f hany hlt hp1 hp2
         have hkT : k ≤ T.length := by omega
         go_wp2_with fail
         have hin := (zaT_ HOWN.out).1
         refine (ziY_ (T.take k) (by rw [List.length_take]; omega) wr).mono ?_
         rintro e w10 ⟨rfl, hh10, hg10⟩
         have HH10 := Lib.hid hh10
         have HI10 : Hid (x8_ (.slice oa (w2_ s).length oc) (w2_ s) w10) := Lib.hid (za1_ hin hg10)
         have HNE : Hid (∀ G o c, Value.slice oa (w2_ s).length oc = .slice (some ⟨G, o, none⟩) (w2_ s).length c → w2_ s ≠ [] → G ≠ wr.heap.size) := Lib.hid (fun G o c e hne => by
          injection e with e1
          subst e1
          have := (v4_ HOWN.out G rfl).2
          omega)
         have hwS : w.heap.size < wr.heap.size := z4_ hS.out
         have hwK : w.heap.size + 1 < wr.heap.size := z4_ hKc.out
         have HS10 := Lib.hid (x6_ hS.out hg10 si_)
         have HK10 := Lib.hid (x6_ hKc.out hg10 si_)
         have HG10 : Hid (GL [] w w10) := Lib.hid (y7_ hg10 hgr.out si_)
         have f10 := z0_ HS10.out 0
         have k10 := z0_ HK10.out 0
         have hq6 : 6 ≤ (w2_ s).length := by omega
         have htl2 : (w2_ s).length ≤ 1000000000 := by omega
         have hlT : k ≤ T.length := hkT
         clear hin hh10 hg10 htl hTl HTW HT128 HOB HT8 HS8 HK8 HG8 HT7 HG7 HS7 HK7 HOWN8
         go_wp2_with fail
         refine (bAdd wr.heap.size (zbb_ (T.take k)) (w2_ s) _ w10 HH10.out (zdP_ _) htl2 HI10.out HNE.out).mono ?_
         rintro e w11 ⟨rfl, hh11, hg11⟩
         have HI11 : Hid (x8_ (.slice oa (w2_ s).length oc) (w2_ s) w11) := Lib.hid (zcX_ HI10.out hg11 HNE.out)
         have hS11 := x6_ HS10.out hg11 so_
         have hK11 := x6_ HK10.out hg11 so_
         have HG11 : Hid (GL [] w w11) := Lib.hid (y7_ hg11 HG10.out so_)
         have g11 := z0_ hS11 0
         have k11 := z0_ hK11 0
         have f11 := z0_ hh11 0
         have HE : Hid (v9_ s = if poly (zbb_ (T.take k)) (w2_ s) = 1 then 0 else 61) := Lib.hid (by
          unfold v9_
          rw [if_neg HLO.out, if_neg (by rw [HDB2.out]; simp), if_neg (by rw [HANY.out]; simp), HDH.out]
          by_cases h : poly (zbb_ (T.take k)) (w2_ s) = 1
          · rw [if_neg (by simp [h]), if_pos h]
          · rw [if_pos h, if_neg h])
         clear f10 k10 HK10 HS10 HG10 HI10 HH10 hh11 hg11 hS11 hK11 HDB2 HANY HLO HNE
         generalize poly (zbb_ (T.take k)) (w2_ s) = P at *
         clear hsc hsz7 hmk hS hKc hTc hgr HOWN
         by_cases h1 : P = 1
         · subst h1
           have HE0 : Hid (v9_ s = 0) := Lib.hid (by rw [HE.out, if_pos rfl])
           have f12 : w11.cell? ⟨wr.heap.size, 0, none⟩ = some (.int .u32 1) := f11
           clear f11 HE
           obtain ⟨aa, ac, e0, hcap, _⟩ := j6_ HI11.out
           injection e0 with e1 _ e3
           subst e1 e3
           have hq7 : ((w2_ s).length : Int) - 6 ≤ oc := by omega
           have hq8 : (0 : Int) ≤ ((w2_ s).length : Int) - 6 := by omega
           have hkT2 : (k : Int) ≤ T.length := by omega
           have hkT3 : (0 : Int) ≤ (k : Int) := by omega
           go_wp2_with fail
           go_region
           go_wp2_with fail
           have HI12 : x8_ (.slice oa ((w2_ s).length - 6) ((w2_ s).length - 6)) (k4_ s) w11.drew := za1_ (zdH_ HI11.out om_ (Nat.le_refl _)) (x9_ (y1_ _ _))
           exact bodyPost_ret (v := .tuple #[.string (bs (T.take k)), .slice oa ((w2_ s).length - 6) ((w2_ s).length - 6), .int .i64 0]) (by simp [results, Tryz.results51, go_sem]) rfl ⟨zjR_ HE0.out HDH.out HI12, y0_ (x9_ HG11.out)⟩
         · have HE1 : Hid (v9_ s = 61) := Lib.hid (by rw [HE.out, if_neg h1])
           have hP2 : (((P : Nat) : Int) != 1) = true := by simp; omega
           have hP3 : (((P : Nat) : Int) == 1) = false := by simp; omega
           clear h1 HE
           go_wp2_with fail
           exact bodyPost_ret (v := .tuple #[.string (bs []), .slice none 0 0, .int .i64 61]) (by simp [results, Tryz.results51, go_sem]) rfl ⟨zbE_ HE1.out de_, y0_ HG11.out⟩
theorem zjW_ {s : List UInt8} (h : (z5_ s).2 = 0) : 0 ≤ (z5_ s).1 ∧ (z5_ s).1 ≤ 2100000000000000000 := by
 unfold z5_ at h ⊢
 split
 · exact ⟨by decide, by decide⟩
 · rename_i hs
   rw [if_neg hs] at h
   unfold zbo_ at h ⊢
   split
   · exact ⟨by decide, by decide⟩
   · rename_i h1
     rw [if_neg h1] at h
     split
     · exact ⟨by decide, by decide⟩
     · rename_i h2
       rw [if_neg h2] at h
       split
       · exact ⟨by decide, by decide⟩
       · rename_i h3
         have hp := zh9_ (s.drop (k1_ s).length)
         have h4 : x2_ (zb9_ (k1_ s) (s.drop (k1_ s).length)) ≤ k6_ / zav_ (s.drop (k1_ s).length) := by omega
         have h5 := Nat.mul_le_mul_right (zav_ (s.drop (k1_ s).length)) h4
         have h6 := Nat.div_mul_le_self k6_ (zav_ (s.drop (k1_ s).length))
         have h7 : k6_ = 2100000000000000000 := rfl
         constructor
         · exact Int.natCast_nonneg _
         · show ((x2_ (zb9_ (k1_ s) (s.drop (k1_ s).length)) * zav_ (s.drop (k1_ s).length) : Nat) : Int) ≤ _
           omega
theorem zjX_ (s : List UInt8) (w : World) :
  Calls Tryz.prog 52 #[.string (bs s), .string (bs [108, 110, 115, 119])] w fun e w' => e = .returned (.tuple #[.string (bs (if lnsw.isPrefixOf s then s.drop 4 else s)), .bool (lnsw.isPrefixOf s)]) ∧ w' = w := by
 refine (Tryz.strings_CutPrefix (bs s) (bs [108, 110, 115, 119]) w).mono fun e w' ⟨h1, h2⟩ => ⟨?_, h2⟩
 rw [h1, za3_, za3_]
 rfl
structure DcSt (x : Inv) (n : Int) (w wr : World) : Prop where
 x : wr.heap[w.heap.size]? = some (.cells #[.int .i64 x.am, .int .i64 x.st, .string (bs x.hash), .string (bs x.payee), .string (bs x.memo), .int .i64 x.ex, .int .i64 x.de, .string (bs x.sig)] 31 (0, 0))
 e : wr.heap[w.heap.size + 1]? = some (.cells #[.int .i64 n] 23 (0, 0))
 gl : GL [] w wr
theorem zfM_ {x : Inv} {n : Int} {w wr w2 : World} (h : DcSt x n w wr) (hb : Below wr.heap.size wr w2) : DcSt x n w w2 :=
 ⟨x0_ h.x hb (z4_ h.x), x0_ h.e hb (z4_ h.e), y6_ hb h.gl⟩
theorem zpu_ {x : Inv} {n : Int} {w wr w2 : World} (h : DcSt x n w wr) (hb : GL [] wr w2) : DcSt x n w w2 :=
 ⟨x6_ h.x hb si_, x6_ h.e hb si_, y7_ hb h.gl si_⟩
theorem zjY_ {x : Inv} {n : Int} {w wr w2 : World} {R : Nat} (h : DcSt x n w wr) (hR : w.heap.size + 1 < R) (hb : GL [R] wr w2) : DcSt x n w w2 :=
 ⟨x6_ h.x hb so_, x6_ h.e hb so_, y7_ hb h.gl so_⟩
theorem dc_e {x : Inv} {n m : Int} {w wr : World} (h : DcSt x n w wr) : DcSt x m w (wr.setCell ⟨w.heap.size + 1, 0, none⟩ (.int .i64 m)) :=
 ⟨v0_ h.x si_ _, z3_ h.e 0 _, z2_ h.gl (.inr si_) _⟩
theorem dc_x {x y : Inv} {n : Int} {w wr : World} (h : DcSt x n w wr) : DcSt y n w ((((((((wr.setCell ⟨w.heap.size, 0, none⟩ (.int .i64 y.am)).setCell ⟨w.heap.size, 1, none⟩ (.int .i64 y.st)).setCell ⟨w.heap.size, 2, none⟩ (.string (bs y.hash))).setCell ⟨w.heap.size, 3, none⟩ (.string (bs y.payee))).setCell ⟨w.heap.size, 4, none⟩ (.string (bs y.memo))).setCell ⟨w.heap.size, 5, none⟩ (.int .i64 y.ex)).setCell ⟨w.heap.size, 6, none⟩ (.int .i64 y.de)).setCell ⟨w.heap.size, 7, none⟩ (.string (bs y.sig))) := by
 refine ⟨?_, ?_, ?_⟩
 · have := z3_ (z3_ (z3_ (z3_ (z3_ (z3_ (z3_ (z3_ h.x 0 (.int .i64 y.am)) 1 (.int .i64 y.st)) 2 (.string (bs y.hash))) 3 (.string (bs y.payee))) 4 (.string (bs y.memo))) 5 (.int .i64 y.ex)) 6 (.int .i64 y.de)) 7 (.string (bs y.sig))
   simpa using this
 · exact v0_ (v0_ (v0_ (v0_ (v0_ (v0_ (v0_ (v0_ h.e si_ _) si_ _) si_ _) si_ _) si_ _) si_ _) si_ _) si_ _
 · exact z2_ (z2_ (z2_ (z2_ (z2_ (z2_ (z2_ (z2_ h.gl (.inr (Nat.le_refl _)) _) (.inr (Nat.le_refl _)) _) (.inr (Nat.le_refl _)) _) (.inr (Nat.le_refl _)) _) (.inr (Nat.le_refl _)) _) (.inr (Nat.le_refl _)) _) (.inr (Nat.le_refl _)) _) (.inr (Nat.le_refl _)) _
theorem zpv_ {x : Inv} {n m : Int} {w wr : World} (h : DcSt x n w wr) : DcSt { x with am := m } n w (wr.setCell ⟨w.heap.size, 0, none⟩ (.int .i64 m)) := by
 refine ⟨?_, v0_ h.e si_ _, z2_ h.gl (.inr (Nat.le_refl _)) _⟩
 have := z3_ h.x 0 (.int .i64 m)
 simpa using this
theorem zjZ_ {x : Inv} {n : Int} {w wr : World} (h : DcSt x n w wr) : DcSt x n w wr.drew := ⟨h.x, h.e, x9_ h.gl⟩
theorem zd8_ {x : Inv} {n : Int} {s : List UInt8} {w wr : World} {tmps : Array Value} {u : FrameMode} (h : DcSt x n w wr) (hd : decI s = (x, n)) (hu : u = .returning)
  (h2 : tmps[2]?.getD undef = .pointer (some ⟨w.heap.size, 0, none⟩)) (h3 : tmps[3]?.getD undef = .pointer (some ⟨w.heap.size + 1, 0, none⟩)) : Leaves Tryz.prog Tryz.f19 tmps (DcO s w) [] u wr := by
 have fx := z0_ h.x
 have fe := z0_ h.e
 have hv : DcO s w (.returned (.tuple #[.agg #[.int .i64 x.am, .int .i64 x.st, .string (bs x.hash), .string (bs x.payee), .string (bs x.memo), .int .i64 x.ex, .int .i64 x.de, .string (bs x.sig)], .int .i64 n])) wr := zcC_ hd rfl (y0_ h.gl)
 subst hu
 simp [Leaves, settle, results, Tryz.results19, go_sem, h2, h3, fx, fe]
 exact hv
theorem zj0_ (s : List UInt8) (hl : s.length ≤ 1000000) (w : World) (hI : IOk w) :
  Calls Tryz.prog 19 #[.string (bs s)] w (DcO s w) := by
 have hmf : ∀ (fn : Fn) (first cap : Array Value) (w : World), (Instr.makeFunc fn first cap).run Tryz.prog w = .ok (.func fn first cap) w := fun _ _ _ _ => rfl
 have HI := Lib.hid hI
 clear hI
 go_enter_defers Tryz.func19, Tryz.ntmps19
 go_wp2_with fail
 have S1 : Hid (DcSt Inv.zero 0 w ((w.alloc (.cells #[.int .i64 0, .int .i64 0, .string (bs []), .string (bs []), .string (bs []), .int .i64 0, .int .i64 0, .string (bs [])] 31)).alloc (.cells #[.int .i64 0] 23))) := Lib.hid ⟨x3_ (y8_ _ _) _, by have := y8_ (w.alloc (.cells #[.int .i64 0, .int .i64 0, .string (bs []), .string (bs []), .string (bs []), .int .i64 0, .int .i64 0, .string (bs [])] 31)) (.cells #[.int .i64 0] 23); rwa [World.size_alloc] at this, y2_ (y2_ (y1_ _ _) _) _⟩
 generalize ((w.alloc (.cells #[.int .i64 0, .int .i64 0, .string (bs []), .string (bs []), .string (bs []), .int .i64 0, .int .i64 0, .string (bs [])] 31)).alloc (.cells #[.int .i64 0] 23)) = w1 at *
 have HI1 := Lib.hid (zct_ HI.out S1.out.gl)
 refine (zpt_ s w1 om_).mono ?_
 rintro e w2 ⟨hd, hb2⟩
 have S2 := Lib.hid (zfM_ S1.out hb2)
 have HI2 := Lib.hid (zbt_ HI1.out hb2)
 have HL2 := Lib.hid hb2
 clear S1 HI1 hb2
 unfold DecO at hd
 have fx := z0_ S2.out.x
 have ex := z8_ S2.out.x
 have fe := z0_ S2.out.e
 have ee := z8_ S2.out.e
 have hse := z4_ S2.out.e
 by_cases hE : v9_ s = 0
 · rw [if_pos hE] at hd
   obtain ⟨v, rfl, hin⟩ := hd
   obtain ⟨va, vc, rfl, hvc, _⟩ := j6_ hin
   have HIN := Lib.hid hin
   have HE := Lib.hid hE
   have HW32 := Lib.hid (zim_ s hE)
   clear hin hE
   go_upto_region 4 with fail
   have S3 := Lib.hid (dc_e (m := 0) S2.out)
   have HIN3 := Lib.hid (za1_ HIN.out (y1_ [] w2))
   clear fx ex fe ee hse
   have HIN3 : Hid (x8_ (.slice va (k4_ s).length vc) (k4_ s) (w2.setCell ⟨w.heap.size + 1, 0, none⟩ (.int .i64 0))) := Lib.hid (zcX_ HIN.out (z2_ (y1_ [w.heap.size + 1] w2) (.inl si_) _) (zgV_ HIN.out S2.out.e si_))
   have HI3 : Hid (IOk (w2.setCell ⟨w.heap.size + 1, 0, none⟩ (.int .i64 0))) := Lib.hid (zd5_ HI2.out (z2_ (y1_ [w.heap.size + 1] w2) (.inl si_) _) (by simp; have := HI.out.g.size; omega))
   generalize w2.setCell ⟨w.heap.size + 1, 0, none⟩ (.int .i64 0) = w3 at *
   clear S2 HI2 HL2 HIN
   have fx : ∀ j, w3.cell? ⟨w.heap.size, j, none⟩ = (#[.int .i64 0, .int .i64 0, .string (bs []), .string (bs []), .string (bs []), .int .i64 0, .int .i64 0, .string (bs [])] : Array Value)[j]? := z0_ S3.out.x
   have ex := z8_ S3.out.x
   have fe := z0_ S3.out.e
   have ee := z8_ S3.out.e
   have hse := z4_ S3.out.e
   have hdl : (x5_ s).length ≤ 1000000 := by unfold x5_; rw [List.length_take, List.length_map]; omega
   cases hp : lnsw.isPrefixOf (x5_ s) with
   | false =>
     have HD := Lib.hid (zg7_ HE.out hp)
     have HP := Lib.hid hp
     clear hp
     go_wp2_with (go_at_call 52; refine (zjX_ (x5_ s) _).mono ?_; rintro e w3 ⟨rfl, rfl⟩; rw [HP.out])
     exact zd8_ (dc_e (m := 70) (dc_x (y := Inv.zero) S3.out)) HD.out rfl si_ si_
   | true =>
     have HP := Lib.hid hp
     clear hp
     go_upto_region 7 with (go_at_call 52; refine (zjX_ (x5_ s) _).mono ?_; rintro e w3 ⟨rfl, rfl⟩; rw [HP.out])
     have hdl2 : ((x5_ s).drop 4).length ≤ 1000000 := by rw [List.length_drop]; omega
     have HDA : Hid ((z5_ ((x5_ s).drop 4)).2 ≠ 0 → decI s = (Inv.zero, (z5_ ((x5_ s).drop 4)).2)) := Lib.hid (zjD_ HE.out HP.out)
     have HDO : Hid ((z5_ ((x5_ s).drop 4)).2 = 0 → decI s = match invR (k4_ s) with
      | none => (Inv.zero, 70)
      | some x => if q1_ x.payee (bodyT { x with am := (z5_ ((x5_ s).drop 4)).1 }) x.sig = true then ({ x with am := (z5_ ((x5_ s).drop 4)).1 }, 0) else (Inv.zero, 71)) := Lib.hid (zg8_ HE.out HP.out)
     have HRG : Hid ((z5_ ((x5_ s).drop 4)).2 = 0 → 0 ≤ (z5_ ((x5_ s).drop 4)).1 ∧ (z5_ ((x5_ s).drop 4)).1 ≤ 2100000000000000000) := Lib.hid zjW_
     have HRD := Lib.hid (zpl_ ((x5_ s).drop 4) hdl2 w3 HI3.out.g HI3.out.units)
     unfold RdO at HRD
     generalize z5_ ((x5_ s).drop 4) = rv at *
     generalize (x5_ s).drop 4 = dh at *
     obtain ⟨n, m⟩ := rv
     simp only at HDA HDO HRG HRD
     go_wp2_with fail
     refine HRD.out.mono ?_
     rintro e w4 ⟨rfl, hb4⟩
     have S4 := Lib.hid (zfM_ S3.out hb4)
     have HI4 := Lib.hid (zbt_ HI3.out hb4)
     have HIN4 := Lib.hid (za1_ HIN3.out (y6_ hb4 (y1_ _ _)))
     clear hb4 fx ex fe ee hse S3 HI3 HIN3 HRD
     have fx : ∀ j, w4.cell? ⟨w.heap.size, j, none⟩ = (#[.int .i64 0, .int .i64 0, .string (bs []), .string (bs []), .string (bs []), .int .i64 0, .int .i64 0, .string (bs [])] : Array Value)[j]? := z0_ S4.out.x
     have ex := z8_ S4.out.x
     have fe := z0_ S4.out.e
     have ee := z8_ S4.out.e
     have hse := z4_ S4.out.e
     by_cases hm : m = 0
     · subst hm
       have HR2 := Lib.hid (HRG.out rfl)
       have HD := Lib.hid (HDO.out rfl)
       have hn0 := HR2.out.1
       have hn1 := HR2.out.2
       go_upto_region 10 with fail
       have S5 := Lib.hid (dc_e (m := 0) S4.out)
       have HIN5 : Hid (x8_ (.slice va (k4_ s).length vc) (k4_ s) (w4.setCell ⟨w.heap.size + 1, 0, none⟩ (.int .i64 0))) := Lib.hid (zcX_ HIN4.out (z2_ (y1_ [w.heap.size + 1] w4) (.inl si_) _) (zgV_ HIN4.out S4.out.e si_))
       have HI5 : Hid (IOk (w4.setCell ⟨w.heap.size + 1, 0, none⟩ (.int .i64 0))) := Lib.hid (zd5_ HI4.out (z2_ (y1_ [w.heap.size + 1] w4) (.inl si_) _) (by simp; have := HI.out.g.size; omega))
       generalize w4.setCell ⟨w.heap.size + 1, 0, none⟩ (.int .i64 0) = w5 at *
       clear fx ex fe ee hse S4 HI4 HIN4 HRG HDA HDO HR2
       have hwl : (k4_ s).length ≤ 1000000 := by
        unfold k4_ w2_
        rw [List.length_take, List.length_map, List.length_drop, List.length_map]
        omega
       have HRA : Hid (RAt w5.heap.size (k4_ s) (w5.alloc (.cells #[.slice va (k4_ s).length vc] 80))) := Lib.hid ⟨va, vc, y8_ _ _, za1_ HIN5.out (y2_ (y1_ _ _) _)⟩
       have S6 := Lib.hid (zpu_ S5.out (y2_ (y1_ _ _) (.cells #[.slice va (k4_ s).length vc] 80)))
       have HI6 := Lib.hid (zct_ HI5.out (y2_ (y1_ _ _) (.cells #[.slice va (k4_ s).length vc] 80)))
       have HR5 := Lib.hid (z4_ S5.out.e)
       have HG5 := Lib.hid HI5.out.g.size
       cases hq : invR (k4_ s) with
       | none =>
         have HDN : Hid (decI s = (Inv.zero, 70)) := Lib.hid (by rw [HD.out, hq])
         have HQ := Lib.hid hq
         clear hq
         go_wp2_with fail
         refine (zjA_ w5.heap.size (k4_ s) _ HRA.out HG5.out HI6.out.g om_ HW32.out).mono ?_
         rintro e w7 ⟨hg7, hp7⟩
         rw [HQ.out] at hp7
         have hp7 : e = .panicked [oddP] := hp7
         subst hp7
         have S7 := Lib.hid (zjY_ S6.out HR5.out hg7)
         go_wp2_with fail
         refine leaves_cons (f := 53) (args := #[.pointer (some ⟨w.heap.size, 0, none⟩), .pointer (some ⟨w.heap.size + 1, 0, none⟩)]) si_ (by simp [go_sem]) ?_
         refine (zo0_ w.heap.size (w.heap.size + 1) Inv.zero 0 w7 S7.out.x S7.out.e om_).mono ?_
         rintro e u' w8 ⟨rfl, rfl, hx8, he8, hg8⟩
         exact zd8_ (x := Inv.zero) (n := 70) ⟨hx8, he8, y7_ hg8 S7.out.gl si_⟩ HDN.out rfl si_ si_
       | some x =>
         obtain ⟨hal, hmay, hsig, ham⟩ := zmc_ hq HW32.out
         obtain ⟨q1, q2, q3, q4, q5, q6, q7, q8, q9⟩ := zer_ hmay
         have HMAY := Lib.hid hmay
         have HOK : Hid (zcr_ { x with am := n }) := Lib.hid ⟨by simp; omega, by simp; omega, by simp; omega, by simp; omega, by simp; omega, by simp; omega, by simp; omega, by simp; omega, by simp; omega, by simp; omega, by simp; omega, by simp; omega⟩
         have HBE := Lib.hid (zeL_ (x := { x with am := n }) (zg9_ hn0 hn1) hmay)
         have HDS : Hid (decI s = if q1_ x.payee (bodyT { x with am := n }) x.sig = true then ({ x with am := n }, 0) else (Inv.zero, 71)) := Lib.hid (by rw [HD.out, hq])
         have HQ := Lib.hid hq
         have hsg : x.sig.length ≤ 1000000 := by omega
         clear hq hal hmay ham q1 q2 q3 q4 q5 q6 q7 q8 q9 HD
         go_wp2_with fail
         refine (zjA_ w5.heap.size (k4_ s) _ HRA.out HG5.out HI6.out.g om_ HW32.out).mono ?_
         rintro e w7 ⟨hg7, hp7⟩
         rw [HQ.out] at hp7
         have hp7 : e = .returned (.agg #[.int .i64 x.am, .int .i64 x.st, .string (bs x.hash), .string (bs x.payee), .string (bs x.memo), .int .i64 x.ex, .int .i64 x.de, .string (bs x.sig)]) := hp7
         subst hp7
         have S7 := Lib.hid (zjY_ S6.out HR5.out hg7)
         have HI7 : Hid (IOk w7) := Lib.hid (zd5_ HI6.out hg7 (by simp; have := HG5.out; omega))
         clear hg7 S6 HI6 HRA
         have fx : ∀ j, w7.cell? ⟨w.heap.size, j, none⟩ = (#[.int .i64 0, .int .i64 0, .string (bs []), .string (bs []), .string (bs []), .int .i64 0, .int .i64 0, .string (bs [])] : Array Value)[j]? := z0_ S7.out.x
         have ex := z8_ S7.out.x
         have fe := z0_ S7.out.e
         have ee := z8_ S7.out.e
         have hse := z4_ S7.out.e
         go_upto_region 12 with fail
         have S8 := Lib.hid (dc_x (y := x) S7.out)
         have HI8 : Hid (IOk ((((((((w7.setCell ⟨w.heap.size, 0, none⟩ (.int .i64 x.am)).setCell ⟨w.heap.size, 1, none⟩ (.int .i64 x.st)).setCell ⟨w.heap.size, 2, none⟩ (.string (bs x.hash))).setCell ⟨w.heap.size, 3, none⟩ (.string (bs x.payee))).setCell ⟨w.heap.size, 4, none⟩ (.string (bs x.memo))).setCell ⟨w.heap.size, 5, none⟩ (.int .i64 x.ex)).setCell ⟨w.heap.size, 6, none⟩ (.int .i64 x.de)).setCell ⟨w.heap.size, 7, none⟩ (.string (bs x.sig)))) := Lib.hid (zd5_ (rs := [w.heap.size]) HI7.out (z2_ (z2_ (z2_ (z2_ (z2_ (z2_ (z2_ (z2_ (y1_ _ _) (.inl si_) _) (.inl si_) _) (.inl si_) _) (.inl si_) _) (.inl si_) _) (.inl si_) _) (.inl si_) _) (.inl si_) _) (by simp; have := HI.out.g.size; omega))
         generalize ((((((((w7.setCell ⟨w.heap.size, 0, none⟩ (.int .i64 x.am)).setCell ⟨w.heap.size, 1, none⟩ (.int .i64 x.st)).setCell ⟨w.heap.size, 2, none⟩ (.string (bs x.hash))).setCell ⟨w.heap.size, 3, none⟩ (.string (bs x.payee))).setCell ⟨w.heap.size, 4, none⟩ (.string (bs x.memo))).setCell ⟨w.heap.size, 5, none⟩ (.int .i64 x.ex)).setCell ⟨w.heap.size, 6, none⟩ (.int .i64 x.de)).setCell ⟨w.heap.size, 7, none⟩ (.string (bs x.sig))) = w8 at *
         clear fx ex fe ee hse S7 HI7
         have fx : ∀ j, w8.cell? ⟨w.heap.size, j, none⟩ = (#[.int .i64 x.am, .int .i64 x.st, .string (bs x.hash), .string (bs x.payee), .string (bs x.memo), .int .i64 x.ex, .int .i64 x.de, .string (bs x.sig)] : Array Value)[j]? := z0_ S8.out.x
         have ex := z8_ S8.out.x
         have fe := z0_ S8.out.e
         have ee := z8_ S8.out.e
         have hse := z4_ S8.out.e
         go_upto_region 13 with fail
         have S9 := Lib.hid (zpv_ (m := n) S8.out)
         have HI9 : Hid (IOk (w8.setCell ⟨w.heap.size, 0, none⟩ (.int .i64 n))) := Lib.hid (zd5_ HI8.out (z2_ (y1_ [w.heap.size] w8) (.inl si_) _) (by simp; have := HI.out.g.size; omega))
         generalize w8.setCell ⟨w.heap.size, 0, none⟩ (.int .i64 n) = w9 at *
         clear fx ex fe ee hse S8 HI8
         have fx : ∀ j, w9.cell? ⟨w.heap.size, j, none⟩ = (#[.int .i64 n, .int .i64 x.st, .string (bs x.hash), .string (bs x.payee), .string (bs x.memo), .int .i64 x.ex, .int .i64 x.de, .string (bs x.sig)] : Array Value)[j]? := z0_ S9.out.x
         have ex := z8_ S9.out.x
         have fe := z0_ S9.out.e
         have ee := z8_ S9.out.e
         have hse := z4_ S9.out.e
         go_wp2_with fail
         refine (show Calls Tryz.prog 15 #[invV { x with am := n }] w9 _ from zhb_ _ HOK.out _ HI9.out).mono ?_
         rintro e w10 ⟨rfl, hb10⟩
         rw [HBE.out.1, HBE.out.2]
         have S10 := Lib.hid (zfM_ S9.out hb10)
         have HI10 := Lib.hid (zbt_ HI9.out hb10)
         clear fx ex fe ee hse S9 HI9 hb10
         generalize bodyT { x with am := n } = bt at *
         have fx : ∀ j, w10.cell? ⟨w.heap.size, j, none⟩ = (#[.int .i64 n, .int .i64 x.st, .string (bs x.hash), .string (bs x.payee), .string (bs x.memo), .int .i64 x.ex, .int .i64 x.de, .string (bs x.sig)] : Array Value)[j]? := z0_ S10.out.x
         have ex := z8_ S10.out.x
         have fe := z0_ S10.out.e
         have ee := z8_ S10.out.e
         have hse := z4_ S10.out.e
         go_wp2_with fail
         refine (zhc_ x.payee bt x.sig om_ _ HI10.out.g).mono ?_
         rintro e w11 ⟨rfl, hb11⟩
         have S11 := Lib.hid (zfM_ S10.out hb11)
         clear fx ex fe ee hse S10 HI10 hb11
         have fx : ∀ j, w11.cell? ⟨w.heap.size, j, none⟩ = (#[.int .i64 n, .int .i64 x.st, .string (bs x.hash), .string (bs x.payee), .string (bs x.memo), .int .i64 x.ex, .int .i64 x.de, .string (bs x.sig)] : Array Value)[j]? := z0_ S11.out.x
         have ex := z8_ S11.out.x
         have fe := z0_ S11.out.e
         have ee := z8_ S11.out.e
         have hse := z4_ S11.out.e
         cases hv : q1_ x.payee bt x.sig with
         | false =>
           have HDF : Hid (decI s = (Inv.zero, 71)) := Lib.hid (by rw [HDS.out, hv]; rfl)
           clear hv HDS
           go_wp2_with fail
           refine leaves_cons (f := 53) (args := #[.pointer (some ⟨w.heap.size, 0, none⟩), .pointer (some ⟨w.heap.size + 1, 0, none⟩)]) si_ (by simp [go_sem]) ?_
           refine (zjB_ w.heap.size (w.heap.size + 1) _).mono ?_
           rintro e u' w12 ⟨rfl, rfl, rfl⟩
           exact zd8_ (dc_e (m := 71) (dc_x (y := Inv.zero) S11.out)) HDF.out rfl si_ si_
         | true =>
           have HDF : Hid (decI s = ({ x with am := n }, 0)) := Lib.hid (by rw [HDS.out, hv]; rfl)
           clear hv HDS
           go_wp2_with fail
           refine leaves_cons (f := 53) (args := #[.pointer (some ⟨w.heap.size, 0, none⟩), .pointer (some ⟨w.heap.size + 1, 0, none⟩)]) si_ (by simp [go_sem]) ?_
           refine (zjB_ w.heap.size (w.heap.size + 1) _).mono ?_
           rintro e u' w12 ⟨rfl, rfl, rfl⟩
           exact zd8_ (dc_e (m := 0) (dc_x (y := { x with am := n }) S11.out)) HDF.out rfl si_ si_
     · have HD := Lib.hid (HDA.out hm)
       have hd1 : (m != 0) = true := by simpa using hm
       have hd2 : (m == 0) = false := by simpa using hm
       clear hm
       go_upto_region 9 with fail
       have S5 := Lib.hid (dc_e (m := m) S4.out)
       generalize w4.setCell ⟨w.heap.size + 1, 0, none⟩ (.int .i64 m) = w5 at *
       clear fx ex fe ee hse S4
       have fx : ∀ j, w5.cell? ⟨w.heap.size, j, none⟩ = (#[.int .i64 0, .int .i64 0, .string (bs []), .string (bs []), .string (bs []), .int .i64 0, .int .i64 0, .string (bs [])] : Array Value)[j]? := z0_ S5.out.x
       have ex := z8_ S5.out.x
       have fe := z0_ S5.out.e
       have ee := z8_ S5.out.e
       have hse := z4_ S5.out.e
       go_region
       go_wp2_with fail
       exact zd8_ (zjZ_ (dc_e (m := m) (dc_x (y := Inv.zero) S5.out))) HD.out rfl si_ si_
 · rw [if_neg hE] at hd
   subst hd
   have HD := Lib.hid (zjC_ hE)
   generalize v9_ s = de at *
   have hd1 : (de != 0) = true := by simpa using hE
   have hd2 : (de == 0) = false := by simpa using hE
   clear hE
   go_upto_region 3 with fail
   have S3 := Lib.hid (dc_e (m := de) S2.out)
   generalize w2.setCell ⟨w.heap.size + 1, 0, none⟩ (.int .i64 de) = w3 at *
   clear fx ex fe ee hse S2 HL2
   have fx : ∀ j, w3.cell? ⟨w.heap.size, j, none⟩ = (#[.int .i64 0, .int .i64 0, .string (bs []), .string (bs []), .string (bs []), .int .i64 0, .int .i64 0, .string (bs [])] : Array Value)[j]? := z0_ S3.out.x
   have ex := z8_ S3.out.x
   have fe := z0_ S3.out.e
   have ee := z8_ S3.out.e
   have hse := z4_ S3.out.e
   go_region
   go_wp2_with fail
   exact zd8_ (zjZ_ (dc_e (m := de) (dc_x (y := Inv.zero) S3.out))) HD.out rfl si_ si_
def zd9_ (a b : Inv) : Bool := a.am == b.am && (a.st == b.st && (a.hash == b.hash && (a.payee == b.payee && (a.memo == b.memo && (a.ex == b.ex && (a.de == b.de && a.sig == b.sig))))))
theorem zj1_ (a b : Inv) : zd9_ a b = true ↔ a = b := by
 obtain ⟨a1, a2, a3, a4, a5, a6, a7, a8⟩ := a
 obtain ⟨b1, b2, b3, b4, b5, b6, b7, b8⟩ := b
 unfold zd9_
 simp only [Inv.mk.injEq, Bool.and_eq_true, beq_iff_eq]
theorem Tryz.partI64 (w : World) (cs : Array Value) (i : Nat) (v : Value) (h : cs[i]? = some v) : (part 2 cs i).run Tryz.prog w = .ok v w := by
 obtain ⟨j, hj, hjs⟩ := Option.map_eq_some_iff.1 (show (Tryz.prog.info? 2).map (·.size) = some 1 by kernel_rfl)
 simp [part, sizeOf, typeInfo, hj, hjs, run_underlying Tryz.underlying2, h]
theorem Tryz.partInt (w : World) (cs : Array Value) (i : Nat) (v : Value) (h : cs[i]? = some v) : (part 3 cs i).run Tryz.prog w = .ok v w := by
 obtain ⟨j, hj, hjs⟩ := Option.map_eq_some_iff.1 (show (Tryz.prog.info? 3).map (·.size) = some 1 by kernel_rfl)
 simp [part, sizeOf, typeInfo, hj, hjs, run_underlying Tryz.underlying3, h]
theorem Tryz.partStr (w : World) (cs : Array Value) (i : Nat) (v : Value) (h : cs[i]? = some v) : (part 9 cs i).run Tryz.prog w = .ok v w := by
 obtain ⟨j, hj, hjs⟩ := Option.map_eq_some_iff.1 (show (Tryz.prog.info? 9).map (·.size) = some 1 by kernel_rfl)
 simp [part, sizeOf, typeInfo, hj, hjs, run_underlying Tryz.underlying9, h]
theorem Tryz.partTerm (w : World) (cs : Array Value) (i : Nat) (v : Value) (h : cs[i]? = some v) : (part 29 cs i).run Tryz.prog w = .ok v w := by
 obtain ⟨j, hj, hjs⟩ := Option.map_eq_some_iff.1 (show (Tryz.prog.info? 29).map (·.size) = some 1 by kernel_rfl)
 simp [part, sizeOf, typeInfo, hj, hjs, run_underlying Tryz.underlying29, h]
theorem zdq_ {P : Program} {w : World} {d : Nat} {xs ys : Array Value} {f : Field} {fs : List Field} {a b : Value} {r c : Bool} (hn : f.name ≠ "_") (h1 : (part f.type xs f.offset).run P w = .ok a w) (h2 : (part f.type ys f.offset).run P w = .ok b w)
  (h3 : (Op.equalIn d f.type a b).run P w = .ok r w) (h4 : (Op.eqFields d xs ys fs).run P w = .ok c w) : (Op.eqFields d xs ys (f :: fs)).run P w = .ok (r && c) w := by
 simp only [Op.eqFields]
 rw [if_pos hn]
 simp only [Sem.run_bind, h1, h2, h3, Result.andThen_ok]
 cases r
 · rfl
 · simpa using h4
theorem zpw_ {P : Program} {w : World} {d : Nat} {xs ys : Array Value} : (Op.eqFields d xs ys []).run P w = .ok true w := rfl
theorem zpx_ (a b : Inv) (w : World) : (Op.equalIn 10000 31 (.agg (q4_ a)) (.agg (q4_ b))).run Tryz.prog w = .ok (zd9_ a b) w := by
 unfold zd9_
 rw [show (10000 : Nat) = 9999 + 1 from rfl, run_equalIn_agg w 9999 31 (q4_ a) (q4_ b) (by kernel_rfl) (by kernel_rfl)]
 simp only [Program.fieldsOf, Tryz.underlying31]
 have hi : ∀ (x y : Int) (d : Nat), (Op.equalIn (d + 1) 2 (.int .i64 x) (.int .i64 y)).run Tryz.prog w = .ok (x == y) w := fun x y d => run_equalIn_int w d 2 .i64 .i64 x y Tryz.underlying2
 have hn : ∀ (x y : Int) (d : Nat), (Op.equalIn (d + 1) 3 (.int .i64 x) (.int .i64 y)).run Tryz.prog w = .ok (x == y) w := fun x y d => run_equalIn_int w d 3 .i64 .i64 x y Tryz.underlying3
 have ht : ∀ (x y : List UInt8) (d : Nat), (Op.equalIn (d + 1) 29 (.string (bs x)) (.string (bs y))).run Tryz.prog w = .ok (x == y) w := fun x y d => by rw [run_equalIn_string w d 29 (bs x) (bs y) Tryz.underlying29, zed_, zed_]
 have hs : ∀ (x y : List UInt8) (d : Nat), (Op.equalIn (d + 1) 9 (.string (bs x)) (.string (bs y))).run Tryz.prog w = .ok (x == y) w := fun x y d => by rw [run_equalIn_string w d 9 (bs x) (bs y) Tryz.underlying9, zed_, zed_]
 rw [show (a.sig == b.sig) = ((a.sig == b.sig) && true) by simp]
 refine zdq_ de_ (Tryz.partI64 w (q4_ a) 0 _ rfl) (Tryz.partI64 w (q4_ b) 0 _ rfl) (hi _ _ _) ?_
 refine zdq_ de_ (Tryz.partI64 w (q4_ a) 1 _ rfl) (Tryz.partI64 w (q4_ b) 1 _ rfl) (hi _ _ _) ?_
 refine zdq_ de_ (Tryz.partTerm w (q4_ a) 2 _ rfl) (Tryz.partTerm w (q4_ b) 2 _ rfl) (ht _ _ _) ?_
 refine zdq_ de_ (Tryz.partTerm w (q4_ a) 3 _ rfl) (Tryz.partTerm w (q4_ b) 3 _ rfl) (ht _ _ _) ?_
 refine zdq_ de_ (Tryz.partStr w (q4_ a) 4 _ rfl) (Tryz.partStr w (q4_ b) 4 _ rfl) (hs _ _ _) ?_
 refine zdq_ de_ (Tryz.partI64 w (q4_ a) 5 _ rfl) (Tryz.partI64 w (q4_ b) 5 _ rfl) (hi _ _ _) ?_
 refine zdq_ de_ (Tryz.partInt w (q4_ a) 6 _ rfl) (Tryz.partInt w (q4_ b) 6 _ rfl) (hn _ _ _) ?_
 refine zdq_ de_ (Tryz.partTerm w (q4_ a) 7 _ rfl) (Tryz.partTerm w (q4_ b) 7 _ rfl) (ht _ _ _) ?_
 exact zpw_
theorem zj2_ (a b : Inv) (w : World) : (binOp .eql 31 (.agg #[.int .i64 a.am, .int .i64 a.st, .string (bs a.hash), .string (bs a.payee), .string (bs a.memo), .int .i64 a.ex, .int .i64 a.de, .string (bs a.sig)]) (.agg #[.int .i64 b.am, .int .i64 b.st, .string (bs b.hash), .string (bs b.payee), .string (bs b.memo), .int .i64 b.ex, .int .i64 b.de, .string (bs b.sig)])).run Tryz.prog w = .ok (.bool (zd9_ a b)) w := by
 rw [run_eql_struct, show (#[Value.int .i64 a.am, .int .i64 a.st, .string (bs a.hash), .string (bs a.payee), .string (bs a.memo), .int .i64 a.ex, .int .i64 a.de, .string (bs a.sig)] : Array Value) = q4_ a from rfl, show (#[Value.int .i64 b.am, .int .i64 b.st, .string (bs b.hash), .string (bs b.payee), .string (bs b.memo), .int .i64 b.ex, .int .i64 b.de, .string (bs b.sig)] : Array Value) = q4_ b from rfl, zpx_]
 rfl
end Go.Proofs.YtembdkodajichaaGreatDoor
