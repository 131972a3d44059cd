/- The reference of layer 7: a text read. -/
import Derived.Test.YtembdkodajichaaGreatDoorR7W
import Derived.Test.YtembdkodajichaaGreatDoorR7Y
import Derived.Test.YtembdkodajichaaGreatDoorR7B
import Derived.Test.YtembdkodajichaaGreatDoorR2D
import Derived.Test.YtembdkodajichaaGreatDoorR6I
import Derived.Test.YtembdkodajichaaGreatDoorInvE
set_option maxRecDepth 100000
set_option maxHeartbeats 8000000
set_option linter.unusedSimpArgs false
set_option linter.unusedVariables false
namespace Go.Proofs.YtembdkodajichaaGreatDoor
open Go.RowKit
def zc8_ (o : Option (List UInt8)) : Prop := ∀ l, o = some l → l.length ≤ 100000 ∧ ∀ x ∈ l, x.toNat < 32
theorem zhI_ {r : List UInt8} (h1 : r.length ≤ 100000) (h2 : ∀ x ∈ r, x.toNat < 32) : zc8_ (some r) := by
 intro l hl
 cases hl
 exact ⟨h1, h2⟩
theorem zhJ_ : zc8_ none := by
 intro l hl
 cases hl
theorem zsW_ {n : Nat} {o : Option (List UInt8)} (h : zc8_ o) : zc8_ (zaa_ (q8_ n) o) ∧ (gotO [] (q8_ n) o).length ≤ n ∧ ∀ x ∈ gotO [] (q8_ n) o, x.toNat < 32 := by
 unfold zaa_ gotO
 cases hq : o.bind (q8_ n) with
 | none => exact ⟨zhJ_, by simp, by simp⟩
 | some ar =>
   obtain ⟨a, r⟩ := ar
   obtain ⟨l, rfl, hl⟩ := Option.bind_eq_some_iff.1 hq
   obtain ⟨h1, h2, h3, h4⟩ := zjz_ hl (h l rfl).2
   have h5 := (h l rfl).1
   exact ⟨zhI_ (r := r) om_ h4, Nat.le_of_eq h1, h3⟩
theorem zf2_ {t : UInt8} {o : Option (List UInt8)} (h : zc8_ o) : zc8_ (zaa_ (v2_ t) o) ∧ (gotO [] (v2_ t) o).length ≤ 639 := by
 unfold zaa_ gotO
 cases hq : o.bind (v2_ t) with
 | none => exact ⟨zhJ_, by simp⟩
 | some ar =>
   obtain ⟨a, r⟩ := ar
   obtain ⟨l, rfl, hl⟩ := Option.bind_eq_some_iff.1 hq
   obtain ⟨h1, h2, h3⟩ := zeH_ hl (h l rfl).2
   have h5 := (h l rfl).1
   exact ⟨zhI_ (r := r) om_ h3, h1⟩
theorem zkV_ {t : UInt8} {o : Option (List UInt8)} (h : zc8_ o) : zc8_ (zaa_ (k5_ t) o) ∧ gotO 0 (k5_ t) o < 34359738368 := by
 unfold zaa_ gotO
 cases hq : o.bind (k5_ t) with
 | none => exact ⟨zhJ_, by simp⟩
 | some ar =>
   obtain ⟨a, r⟩ := ar
   obtain ⟨l, rfl, hl⟩ := Option.bind_eq_some_iff.1 hq
   obtain ⟨h1, h2, h3⟩ := zg6_ hl (h l rfl).2
   have h5 := (h l rfl).1
   exact ⟨zhI_ (r := r) om_ h3, h1⟩
structure I2 (x : Inv) (w0 wr : World) : Prop where
 res : wr.heap[w0.heap.size]? = some (.cells (q4_ Inv.zero) 31 (0, 0))
 blk : wr.heap[w0.heap.size + 1]? = some (.cells (q4_ x) 31 (0, 0))
 gl : GL [] w0 wr
theorem zhK_ {x : Inv} {w0 wr w1 : World} (h : I2 x w0 wr) (hg : GL [] wr w1) : I2 x w0 w1 := ⟨x6_ h.res hg si_, x6_ h.blk hg si_, y7_ hg h.gl si_⟩
theorem zeX_ {x : Inv} {w0 wr w1 : World} (h : I2 x w0 wr) (hb : Below wr.heap.size wr w1) : I2 x w0 w1 := zhK_ h (y6_ hb (y1_ _ _))
structure I3 (R : Nat) (o : Option (List UInt8)) (x : Inv) (w0 wr : World) : Prop where
 rd : RO R o wr
 i2 : I2 x w0 wr
theorem zdL_ {R : Nat} {o r : Option (List UInt8)} {x : Inv} {w0 wr w1 : World} (h : I3 R o x w0 wr) (hg : GL [R] wr w1) (hr : RO R r w1) (hR : w0.heap.size + 1 < R) : I3 R r x w0 w1 :=
 ⟨hr, x6_ h.i2.res hg so_, x6_ h.i2.blk hg so_, y7_ hg h.i2.gl so_⟩
theorem zhL_ {R : Nat} {o : Option (List UInt8)} {x : Inv} {w0 wr w1 : World} (h : I3 R o x w0 wr) (hg : GL [] wr w1) : I3 R o x w0 w1 := ⟨zfW_ h.rd hg, zhK_ h.i2 hg⟩
theorem zsX_ {R : Nat} {f : List UInt8 → Option (List UInt8 × List UInt8)} {o : Option (List UInt8)} {w : World} {e : Ending} {w' : World} (h : TkO R (o.bind f) w e w') :
 GL [R] w w' ∧ RO R (zaa_ f o) w' ∧ ∃ ad c, e = .returned (.slice ad (gotO [] f o).length c) ∧ x8_ (.slice ad (gotO [] f o).length c) (gotO [] f o) w' := h
theorem zf3_ {R : Nat} {f : List UInt8 → Option (List UInt8 × List UInt8)} {o : Option (List UInt8)} {w : World} {e : Ending} {w' : World} (h : TxO R (o.bind f) w e w') :
 GL [R] w w' ∧ RO R (zaa_ f o) w' ∧ e = .returned (.string (bs (gotO [] f o))) := h
theorem zkW_ {R : Nat} {f : List UInt8 → Option (Nat × List UInt8)} {o : Option (List UInt8)} {w : World} {e : Ending} {w' : World} (h : NmO R (o.bind f) w e w') :
 GL [R] w w' ∧ RO R (zaa_ f o) w' ∧ e = .returned (.int .i64 (gotO 0 f o : Nat)) := h
theorem zdt_ {R : Nat} {o : Option (List UInt8)} {x y : Inv} {w0 wr : World} (h : I3 R o x w0 wr) (hR : w0.heap.size + 1 < R) (j : Nat) (v : Value) (hy : (q4_ x).setIfInBounds j v = q4_ y) : I3 R o y w0 (wr.setCell ⟨w0.heap.size + 1, j, none⟩ v) := by
 refine ⟨zrB_ h.rd h.i2.blk om_ j v (zkN_ x), v0_ h.i2.res si_ _, ?_, z2_ h.i2.gl (.inr si_) _⟩
 rw [← hy]
 exact z3_ h.i2.blk j v
theorem zsY_ {v : Value} {l : List UInt8} {X : Nat} {w : World} {cs : Array Value} {T : Nat} {fz : Nat × Nat} (h : x8_ v l w) (hX : w.heap[X]? = some (.cells cs T fz)) (j : Nat) (u : Value) (hall : ∀ (i : Nat) (n : Int), cs[i]? ≠ some (Value.int .u8 n)) : x8_ v l (w.setCell ⟨X, j, none⟩ u) := by
 obtain ⟨a', c', rfl, hc, hb⟩ := j6_ h
 refine zbQ_ rfl hc fun hn => ?_
 obtain ⟨G, o, rfl, hB, hj⟩ := hb hn
 refine ⟨G, o, rfl, zbf_ (rs := [X]) ⟨hB, hj⟩ (z2_ (y1_ _ _) (.inl si_) _) (fun hm => ?_)⟩
 obtain rfl : G = X := by simpa using hm
 have h0 := hj 0 (List.length_pos_iff.2 hn)
 rw [z0_ hX] at h0
 exact hall _ _ h0
def put8 (A : Nat) (y : Inv) (w : World) : World := (((((((w.setCell ⟨A, 0, none⟩ (.int .i64 y.am)).setCell ⟨A, 1, none⟩ (.int .i64 y.st)).setCell ⟨A, 2, none⟩ (.string (bs y.hash))).setCell ⟨A, 3, none⟩ (.string (bs y.payee))).setCell ⟨A, 4, none⟩ (.string (bs y.memo))).setCell ⟨A, 5, none⟩ (.int .i64 y.ex)).setCell ⟨A, 6, none⟩ (.int .i64 y.de)).setCell ⟨A, 7, none⟩ (.string (bs y.sig))
theorem zc9_ {y : Inv} {w0 wr : World} {A : Nat} (hA : A = w0.heap.size) {x : Inv} (h : I2 x w0 wr) : (put8 A y wr).heap[A]? = some (.cells (q4_ y) 31 (0, 0)) ∧ GL [] w0 (put8 A y wr) := by
 subst hA
 refine ⟨?_, ?_⟩
 · have := z3_ (z3_ (z3_ (z3_ (z3_ (z3_ (z3_ (z3_ h.res 0 (.int .i64 y.am)) 1 (.int .i64 y.st)) 2 (.string (bs y.hash))) 3 (.string (bs y.payee))) 4 (.string (bs y.memo))) 5 (.int .i64 y.ex)) 6 (.int .i64 y.de)) 7 (.string (bs y.sig))
   simpa [put8, q4_] using this
 · unfold put8
   exact z2_ (z2_ (z2_ (z2_ (z2_ (z2_ (z2_ (z2_ h.gl (.inr (Nat.le_refl _)) _) (.inr (Nat.le_refl _)) _) (.inr (Nat.le_refl _)) _) (.inr (Nat.le_refl _)) _) (.inr (Nat.le_refl _)) _) (.inr (Nat.le_refl _)) _) (.inr (Nat.le_refl _)) _) (.inr (Nat.le_refl _)) _
theorem zsZ_ (h : List UInt8) : lnsw.isPrefixOf h = decide (4 ≤ h.length ∧ h.take 4 = lnsw) := by
 rw [Bool.eq_iff_iff, decide_eq_true_eq, List.isPrefixOf_iff_prefix]
 constructor
 · rintro ⟨t, rfl⟩
   exact ⟨by simp [lnsw], by simp [lnsw]⟩
 · rintro ⟨h1, h2⟩
   exact ⟨h.drop 4, by rw [← h2]; simp⟩
theorem zs0_ {s : List UInt8} (h : v9_ s = 0) (hp : lnsw.isPrefixOf (x5_ s) = true) (ha : (z5_ ((x5_ s).drop 4)).2 = 0) (hn : invR (k4_ s) = none) : decI s = (Inv.zero, 70) := by
 rw [zg8_ h hp ha, hn]
theorem zs1_ {s : List UInt8} {x y : Inv} (h : v9_ s = 0) (hp : lnsw.isPrefixOf (x5_ s) = true) (ha : (z5_ ((x5_ s).drop 4)).2 = 0) (hn : invR (k4_ s) = some x) (hy : y = { x with am := (z5_ ((x5_ s).drop 4)).1 }) :
  decI s = if q1_ y.payee (bodyT y) y.sig = true then (y, 0) else (Inv.zero, 71) := by
 rw [zg8_ h hp ha, hn]
 subst hy
 rfl
theorem zs2_ (s : List UInt8) (hl : s.length ≤ 100000) (w : World) :
  Calls Tryz.prog 20 #[.string (bs s)] w (DcO s w) := by
 go_enter Tryz.func20, Tryz.ntmps20
 go_wp2_with fail
 have S1 : Hid (I2 Inv.zero w ((w.alloc (.cells #[.int .i64 0, .int .i64 0, .string (bs []), .string (bs []), .string (bs []), .int .i64 0, .int .i64 0, .string (bs [])] 31)).alloc (.cells #[.int .i64 0, .int .i64 0, .string (bs []), .string (bs []), .string (bs []), .int .i64 0, .int .i64 0, .string (bs [])] 31))) := Lib.hid ⟨x3_ (y8_ _ _) _, by have := y8_ (w.alloc (.cells #[.int .i64 0, .int .i64 0, .string (bs []), .string (bs []), .string (bs []), .int .i64 0, .int .i64 0, .string (bs [])] 31)) (.cells #[.int .i64 0, .int .i64 0, .string (bs []), .string (bs []), .string (bs []), .int .i64 0, .int .i64 0, .string (bs [])] 31); rw [World.size_alloc] at this; exact this, y2_ (y2_ (y1_ _ _) _) _⟩
 generalize ((w.alloc (.cells #[.int .i64 0, .int .i64 0, .string (bs []), .string (bs []), .string (bs []), .int .i64 0, .int .i64 0, .string (bs [])] 31)).alloc (.cells #[.int .i64 0, .int .i64 0, .string (bs []), .string (bs []), .string (bs []), .int .i64 0, .int .i64 0, .string (bs [])] 31)) = w1 at *
 refine (zsV_ s om_ w1).mono ?_
 rintro e w2 ⟨hd, hb2⟩
 have S2 := Lib.hid (zeX_ S1.out hb2)
 clear S1 hb2
 unfold DecO at hd
 have fx : ∀ j, w2.cell? ⟨w.heap.size + 1, j, none⟩ = (#[.int .i64 0, .int .i64 0, .string (bs []), .string (bs []), .string (bs []), .int .i64 0, .int .i64 0, .string (bs [])] : Array Value)[j]? := z0_ S2.out.blk
 have fa : ∀ j, w2.cell? ⟨w.heap.size, j, none⟩ = (#[.int .i64 0, .int .i64 0, .string (bs []), .string (bs []), .string (bs []), .int .i64 0, .int .i64 0, .string (bs [])] : Array Value)[j]? := z0_ S2.out.res
 have ea := z8_ S2.out.res
 by_cases hE : v9_ s = 0
 · rw [if_pos hE] at hd
   obtain ⟨v, rfl, hin⟩ := hd
   obtain ⟨va, vc, rfl, hvc, _⟩ := j6_ hin
   have HIN := Lib.hid hin
   have HE := Lib.hid hE
   have HW32 := Lib.hid (zim_ s hE)
   have hwl : (k4_ s).length ≤ 100000 := by
    unfold k4_ w2_
    rw [List.length_take, List.length_map, List.length_drop, List.length_map]
    omega
   have hdl : (x5_ s).length ≤ 100000 := by unfold x5_; rw [List.length_take, List.length_map]; omega
   clear hin hE
   have HPT := Lib.hid (zsZ_ (x5_ s))
   by_cases h4 : (x5_ s).length < 4
   · have HD := Lib.hid (zg7_ HE.out (by rw [HPT.out]; simp; omega))
     have h41 : decide (((x5_ s).length : Int) < 4) = true := by simp; omega
     clear h4 HPT
     generalize x5_ s = dh at *
     go_wp2_with fail
     have HP := Lib.hid (zc9_ (y := Inv.zero) rfl S2.out)
     have HPB : Hid (((((((((w2.setCell ⟨w.heap.size, 0, none⟩ (.int .i64 0)).setCell ⟨w.heap.size, 1, none⟩ (.int .i64 0)).setCell ⟨w.heap.size, 2, none⟩ (.string (bs []))).setCell ⟨w.heap.size, 3, none⟩ (.string (bs []))).setCell ⟨w.heap.size, 4, none⟩ (.string (bs []))).setCell ⟨w.heap.size, 5, none⟩ (.int .i64 0)).setCell ⟨w.heap.size, 6, none⟩ (.int .i64 0)).setCell ⟨w.heap.size, 7, none⟩ (.string (bs []))).heap[w.heap.size]? = some (.cells #[.int .i64 0, .int .i64 0, .string (bs []), .string (bs []), .string (bs []), .int .i64 0, .int .i64 0, .string (bs [])] 31 (0, 0))) := Lib.hid HP.out.1
     have HPG : Hid (GL [] w ((((((((w2.setCell ⟨w.heap.size, 0, none⟩ (.int .i64 0)).setCell ⟨w.heap.size, 1, none⟩ (.int .i64 0)).setCell ⟨w.heap.size, 2, none⟩ (.string (bs []))).setCell ⟨w.heap.size, 3, none⟩ (.string (bs []))).setCell ⟨w.heap.size, 4, none⟩ (.string (bs []))).setCell ⟨w.heap.size, 5, none⟩ (.int .i64 0)).setCell ⟨w.heap.size, 6, none⟩ (.int .i64 0)).setCell ⟨w.heap.size, 7, none⟩ (.string (bs [])))) := Lib.hid HP.out.2
     clear HP
     generalize ((((((((w2.setCell ⟨w.heap.size, 0, none⟩ (.int .i64 0)).setCell ⟨w.heap.size, 1, none⟩ (.int .i64 0)).setCell ⟨w.heap.size, 2, none⟩ (.string (bs []))).setCell ⟨w.heap.size, 3, none⟩ (.string (bs []))).setCell ⟨w.heap.size, 4, none⟩ (.string (bs []))).setCell ⟨w.heap.size, 5, none⟩ (.int .i64 0)).setCell ⟨w.heap.size, 6, none⟩ (.int .i64 0)).setCell ⟨w.heap.size, 7, none⟩ (.string (bs []))) = wz at *
     have fz := z0_ HPB.out
     exact bodyPost_ret (v := .tuple #[.agg #[.int .i64 0, .int .i64 0, .string (bs []), .string (bs []), .string (bs []), .int .i64 0, .int .i64 0, .string (bs [])], .int .i64 70]) (by simp [results, Tryz.results20, go_sem, fz]) rfl (zcC_ HD.out rfl (y0_ HPG.out))
   · have h41 : decide (((x5_ s).length : Int) < 4) = false := by simp; omega
     have h42 : (4 : Int) ≤ (x5_ s).length := by omega
     by_cases ht : (x5_ s).take 4 = lnsw
     · have HP : Hid (lnsw.isPrefixOf (x5_ s) = true) := Lib.hid (by rw [HPT.out]; simp; exact ⟨by omega, ht⟩)
       have ht1 : (x5_ s).take 4 = [108, 110, 115, 119] := ht
       clear h4 HPT ht
       have HDA : Hid ((z5_ ((x5_ s).drop 4)).2 ≠ 0 → decI s = (Inv.zero, (z5_ ((x5_ s).drop 4)).2)) := Lib.hid (zjD_ HE.out HP.out)
       have HDN : Hid ((z5_ ((x5_ s).drop 4)).2 = 0 → invR (k4_ s) = none → decI s = (Inv.zero, 70)) := Lib.hid (zs0_ HE.out HP.out)
       have HDO : Hid ((z5_ ((x5_ s).drop 4)).2 = 0 → ∀ x y, invR (k4_ s) = some x → y = { x with am := (z5_ ((x5_ s).drop 4)).1 } → decI s = if q1_ y.payee (bodyT y) y.sig = true then (y, 0) else (Inv.zero, 71)) := Lib.hid (fun h x y h1 h2 => zs1_ HE.out HP.out h h1 h2)
       have HRG : Hid ((z5_ ((x5_ s).drop 4)).2 = 0 → 0 ≤ (z5_ ((x5_ s).drop 4)).1 ∧ (z5_ ((x5_ s).drop 4)).1 ≤ 2100000000000000000) := Lib.hid zjW_
       have HRD := Lib.hid (zsK_ ((x5_ s).drop 4) (by rw [List.length_drop]; omega) w2)
       generalize z5_ ((x5_ s).drop 4) = rv at *
       obtain ⟨n, m⟩ := rv
       simp only at HDA HDN HDO HRG HRD
       generalize x5_ s = dh at *
       go_wp2_with fail
       rw [show List.take (dh.length - 4) (List.drop 4 dh) = List.drop 4 dh from List.take_of_length_le si_]
       refine HRD.out.mono ?_
       rintro e w3 ⟨rfl, rfl⟩
       by_cases hm : m = 0
       · subst hm
         have HDN2 := Lib.hid (HDN.out rfl)
         have HDO2 := Lib.hid (HDO.out rfl)
         clear HDN HDO
         have HDN := HDN2
         have HDO := HDO2
         clear HDN2 HDO2
         have hn0 := (HRG.out rfl).1
         have hn1 := (HRG.out rfl).2
         have G0 : Hid (zc8_ (some (k4_ s))) := Lib.hid (fun l h => by injection h with h; subst h; exact ⟨hwl, HW32.out⟩)
         have HR : Hid (w.heap.size + 1 < w3.heap.size) := Lib.hid (z4_ S2.out.blk)
         have CUR : Hid (I3 w3.heap.size (some (k4_ s)) Inv.zero w (w3.alloc (.cells #[.slice va (k4_ s).length vc, .bool true] 83))) := Lib.hid ⟨zhE_ (y8_ _ _) (za1_ HIN.out (y2_ (y1_ _ _) _)), zhK_ S2.out (y2_ (y1_ _ _) _)⟩
         have HST := Lib.hid (zrA_ (k4_ s))
         clear HDA HRG HRD hwl HW32 fx fa ea
         go_wp2_with fail
         generalize w3.alloc (.cells #[.slice va (k4_ s).length vc, .bool true] 83) = w4 at *
         generalize w3.heap.size = R at *
         generalize k4_ s = dw at *
         refine (zfY_ R 7 7 rfl (some dw) w4 CUR.out.rd (fun l h => by have := (G0.out l h).1; omega) om_).mono ?_
         rintro e w5 hp
         obtain ⟨hg, hr, ad, c, rfl, hin⟩ := zsX_ hp
         obtain ⟨g1, g2, g3⟩ := zsW_ (n := 7) G0.out
         obtain ⟨o0, ho0⟩ : ∃ o0, o0 = zaa_ (q8_ 7) (some dw) := ⟨_, rfl⟩
         obtain ⟨a, ha⟩ : ∃ a, a = gotO [] (q8_ 7) (some dw) := ⟨_, rfl⟩
         rw [← ho0] at hr g1
         rw [← ha] at hin g2 g3
         have HO0 := Lib.hid ho0
         have HA := Lib.hid ha
         have G1 := Lib.hid g1
         have H32 := Lib.hid g3
         have CUR2 := Lib.hid (zdL_ CUR.out hg hr HR.out)
         have HIN2 := Lib.hid hin
         rw [← ha]
         clear CUR hp hg hr hin g1 g3 ho0 ha G0 HIN
         have CUR := CUR2
         clear CUR2
         go_wp2_with fail
         go_loopw [11] (fun iv wr => ∃ i : Nat, i ≤ a.length ∧ iv = .int .i64 i ∧ Hid (I3 R o0 ⟨0, (y3_ 32 (a.take i) : Nat), [], [], [], 0, 0, []⟩ w wr) ∧ Hid (x8_ (.slice ad a.length c) a wr)) (fun iv _ => a.length - (intOf iv).toNat)
         case atStart => exact ⟨0, by omega, rfl, CUR, HIN2⟩
         case round =>
          obtain ⟨i, hi, rfl, CU, HI⟩ := hrel
          by_cases hlt : i < a.length
          · have i1 : decide ((i : Int) < a.length) = true := by simp; omega
            have i2 : (i : Int) < a.length := by omega
            have i0 : (0 : Int) ≤ i := by omega
            obtain ⟨G, ofs, rfl, _, hj⟩ := zd2_ HI.out (by intro e; subst e; simp at hlt)
            have hx := H32.out (a.getD i 0) (by rw [List.getD_eq_getElem?_getD, List.getElem?_eq_getElem hlt]; exact List.getElem_mem hlt)
            have cj := hj i hlt
            have HV := Lib.hid (zeF_ 32 a i hlt)
            have hV : y3_ 32 (a.take i) < 1073741824 := by
             have := zcR_ (b := 32) (a.take i) (fun x hx => H32.out x (List.mem_of_mem_take hx))
             have h2 : (a.take i).length ≤ 6 := by rw [List.length_take]; omega
             exact Nat.lt_of_lt_of_le this (Nat.le_trans (Nat.pow_le_pow_right om_ h2) de_)
            have fX : wr.cell? ⟨w.heap.size + 1, 1, none⟩ = some (.int .i64 (y3_ 32 (a.take i) : Nat)) := z0_ CU.out.i2.blk 1
            have eX := z8_ CU.out.i2.blk 1
            have hCU := CU.out
            have hHI := HI.out
            generalize y3_ 32 (a.take i) = V at *
            generalize (a.getD i 0).toNat = y at *
            have CU2 : Hid (∀ W, GL [] wr W → I3 R o0 ⟨0, (V : Int) * 32 + y, [], [], [], 0, 0, []⟩ w (W.setCell ⟨w.heap.size + 1, 1, none⟩ (.int .i64 ((V : Int) * 32 + y)))) := Lib.hid (fun W hW => zdt_ (zhL_ hCU hW) HR.out 1 _ rfl)
            have HI2 : Hid (∀ W, GL [] wr W → x8_ (.slice (some ⟨G, ofs, none⟩) a.length c) a (W.setCell ⟨w.heap.size + 1, 1, none⟩ (.int .i64 ((V : Int) * 32 + y)))) := Lib.hid (fun W hW => zsY_ (za1_ hHI hW) (zhL_ hCU hW).i2.blk 1 _ (zkN_ _))
            have hw1 : IntKind.i64.wrap (y : Int) = y := by rw [IntKind.wrap_i64]; omega
            have hw2 : IntKind.i64.wrap ((V : Int) * 32) = (V : Int) * 32 := by rw [IntKind.wrap_i64]; omega
            have hw3 : IntKind.i64.wrap ((V : Int) * 32 + y) = (V : Int) * 32 + y := by rw [IntKind.wrap_i64]; omega
            clear hCU hHI hj
            go_wp2_with fail
            go_region
            all_goals go_wp2_with fail
            all_goals exact ⟨⟨i + 1, by omega, by go_num, by rw [HV.out, show ((V * 32 + y : Nat) : Int) = (V : Int) * 32 + y by push_cast; rfl]; exact Lib.hid (zhL_ (CU2.out wr (y1_ _ _)) (x9_ (y1_ _ _))), Lib.hid (za1_ (HI2.out wr (y1_ _ _)) (x9_ (y1_ _ _)))⟩, by simp [intOf]; omega⟩
          · obtain rfl : i = a.length := by omega
            have i1 : decide ((a.length : Int) < a.length) = false := by simp
            have hvs : y3_ 32 a < 34359738368 := by
             have := zcR_ (b := 32) a H32.out
             exact Nat.lt_of_lt_of_le this (Nat.le_trans (Nat.pow_le_pow_right om_ g2) de_)
            rw [List.take_length] at CU
            have HST := Lib.hid (fun o1 o2 o3 o4 o5 o6 => HST.out o0 o1 o2 o3 o4 o5 o6 HO0.out)
            rw [← HA.out] at HST
            generalize y3_ 32 a = st at *
            clear hlt hi CUR HIN2 HI HO0 HA H32 g2
            have CUR := CU
            clear CU
            clear i1
            have f : wr.cell? ⟨w.heap.size + 1, 0, none⟩ = some (.int .i64 0) := z0_ CUR.out.i2.blk 0
            have e := z8_ CUR.out.i2.blk 0
            have CUR2 := Lib.hid (zdt_ CUR.out HR.out 0 (.int .i64 n) (y := ⟨n, (st : Nat), [], [], [], 0, 0, []⟩) rfl)
            clear CUR
            go_wp2_with fail
            generalize wr.setCell ⟨w.heap.size + 1, 0, none⟩ (.int .i64 n) = u0 at *
            clear f e
            have CUR := CUR2
            clear CUR2
            refine (zfZ_ R 1 1 rfl o0 u0 CUR.out.rd (fun l h => by have := (G1.out l h).1; exact ⟨by omega, (G1.out l h).2⟩)).mono ?_
            rintro e v1 hp
            obtain ⟨hg, hr, rfl⟩ := zf3_ hp
            obtain ⟨g1, g2⟩ := zf2_ (t := 1) G1.out
            obtain ⟨o1, ho⟩ : ∃ o, o = zaa_ (v2_ 1) o0 := ⟨_, rfl⟩
            obtain ⟨h, ha⟩ : ∃ a, a = gotO [] (v2_ 1) o0 := ⟨_, rfl⟩
            rw [← ho] at hr g1
            rw [← ha] at g2
            rw [← ha]
            have HO1 := Lib.hid ho
            have HA1 := Lib.hid ha
            have G2 := Lib.hid g1
            have L1 := g2
            have CUR2 := Lib.hid (zdL_ CUR.out hg hr HR.out)
            clear CUR hp hg hr g1 g2 ho ha
            have CUR := CUR2
            clear CUR2
            have f : v1.cell? ⟨w.heap.size + 1, 2, none⟩ = some (.string (bs [])) := z0_ CUR.out.i2.blk 2
            have e := z8_ CUR.out.i2.blk 2
            have CUR2 := Lib.hid (zdt_ CUR.out HR.out 2 (.string (bs h)) (y := ⟨n, (st : Nat), h, [], [], 0, 0, []⟩) rfl)
            clear CUR
            go_wp2_with fail
            generalize v1.setCell ⟨w.heap.size + 1, 2, none⟩ (.string (bs h)) = u1 at *
            clear f e
            have CUR := CUR2
            clear CUR2
            refine (zfZ_ R 19 19 rfl o1 u1 CUR.out.rd (fun l h => by have := (G2.out l h).1; exact ⟨by omega, (G2.out l h).2⟩)).mono ?_
            rintro e v2 hp
            obtain ⟨hg, hr, rfl⟩ := zf3_ hp
            obtain ⟨g1, g2⟩ := zf2_ (t := 19) G2.out
            obtain ⟨o2, ho⟩ : ∃ o, o = zaa_ (v2_ 19) o1 := ⟨_, rfl⟩
            obtain ⟨q, ha⟩ : ∃ a, a = gotO [] (v2_ 19) o1 := ⟨_, rfl⟩
            rw [← ho] at hr g1
            rw [← ha] at g2
            rw [← ha]
            have HO2 := Lib.hid ho
            have HA2 := Lib.hid ha
            have G3 := Lib.hid g1
            have L2 := g2
            have CUR2 := Lib.hid (zdL_ CUR.out hg hr HR.out)
            clear CUR hp hg hr g1 g2 ho ha
            have CUR := CUR2
            clear CUR2
            have f : v2.cell? ⟨w.heap.size + 1, 3, none⟩ = some (.string (bs [])) := z0_ CUR.out.i2.blk 3
            have e := z8_ CUR.out.i2.blk 3
            have CUR2 := Lib.hid (zdt_ CUR.out HR.out 3 (.string (bs q)) (y := ⟨n, (st : Nat), h, q, [], 0, 0, []⟩) rfl)
            clear CUR
            go_wp2_with fail
            generalize v2.setCell ⟨w.heap.size + 1, 3, none⟩ (.string (bs q)) = u2 at *
            clear f e
            have CUR := CUR2
            clear CUR2
            refine (zfZ_ R 13 13 rfl o2 u2 CUR.out.rd (fun l h => by have := (G3.out l h).1; exact ⟨by omega, (G3.out l h).2⟩)).mono ?_
            rintro e v3 hp
            obtain ⟨hg, hr, rfl⟩ := zf3_ hp
            obtain ⟨g1, g2⟩ := zf2_ (t := 13) G3.out
            obtain ⟨o3, ho⟩ : ∃ o, o = zaa_ (v2_ 13) o2 := ⟨_, rfl⟩
            obtain ⟨m, ha⟩ : ∃ a, a = gotO [] (v2_ 13) o2 := ⟨_, rfl⟩
            rw [← ho] at hr g1
            rw [← ha] at g2
            rw [← ha]
            have HO3 := Lib.hid ho
            have HA3 := Lib.hid ha
            have G4 := Lib.hid g1
            have L3 := g2
            have CUR2 := Lib.hid (zdL_ CUR.out hg hr HR.out)
            clear CUR hp hg hr g1 g2 ho ha
            have CUR := CUR2
            clear CUR2
            have f : v3.cell? ⟨w.heap.size + 1, 4, none⟩ = some (.string (bs [])) := z0_ CUR.out.i2.blk 4
            have e := z8_ CUR.out.i2.blk 4
            have CUR2 := Lib.hid (zdt_ CUR.out HR.out 4 (.string (bs m)) (y := ⟨n, (st : Nat), h, q, m, 0, 0, []⟩) rfl)
            clear CUR
            go_wp2_with fail
            generalize v3.setCell ⟨w.heap.size + 1, 4, none⟩ (.string (bs m)) = u3 at *
            clear f e
            have CUR := CUR2
            clear CUR2
            refine (zkL_ R 6 6 rfl o3 u3 CUR.out.rd (fun l h => by have := (G4.out l h).1; exact ⟨by omega, (G4.out l h).2⟩)).mono ?_
            rintro e v4 hp
            obtain ⟨hg, hr, rfl⟩ := zkW_ hp
            obtain ⟨g1, g2⟩ := zkV_ (t := 6) G4.out
            obtain ⟨o4, ho⟩ : ∃ o, o = zaa_ (k5_ 6) o3 := ⟨_, rfl⟩
            obtain ⟨ex, ha⟩ : ∃ a, a = gotO 0 (k5_ 6) o3 := ⟨_, rfl⟩
            rw [← ho] at hr g1
            rw [← ha] at g2
            rw [← ha]
            have HO4 := Lib.hid ho
            have HA4 := Lib.hid ha
            have G5 := Lib.hid g1
            have L4 := g2
            have CUR2 := Lib.hid (zdL_ CUR.out hg hr HR.out)
            clear CUR hp hg hr g1 g2 ho ha
            have CUR := CUR2
            clear CUR2
            have f : v4.cell? ⟨w.heap.size + 1, 5, none⟩ = some (.int .i64 0) := z0_ CUR.out.i2.blk 5
            have e := z8_ CUR.out.i2.blk 5
            have CUR2 := Lib.hid (zdt_ CUR.out HR.out 5 (.int .i64 (ex : Nat)) (y := ⟨n, (st : Nat), h, q, m, (ex : Nat), 0, []⟩) rfl)
            clear CUR
            go_wp2_with fail
            generalize v4.setCell ⟨w.heap.size + 1, 5, none⟩ (.int .i64 (ex : Nat)) = u4 at *
            clear f e
            have CUR := CUR2
            clear CUR2
            refine (zkL_ R 24 24 rfl o4 u4 CUR.out.rd (fun l h => by have := (G5.out l h).1; exact ⟨by omega, (G5.out l h).2⟩)).mono ?_
            rintro e v5 hp
            obtain ⟨hg, hr, rfl⟩ := zkW_ hp
            obtain ⟨g1, g2⟩ := zkV_ (t := 24) G5.out
            obtain ⟨o5, ho⟩ : ∃ o, o = zaa_ (k5_ 24) o4 := ⟨_, rfl⟩
            obtain ⟨de, ha⟩ : ∃ a, a = gotO 0 (k5_ 24) o4 := ⟨_, rfl⟩
            rw [← ho] at hr g1
            rw [← ha] at g2
            rw [← ha]
            have HO5 := Lib.hid ho
            have HA5 := Lib.hid ha
            have G6 := Lib.hid g1
            have L5 := g2
            have CUR2 := Lib.hid (zdL_ CUR.out hg hr HR.out)
            clear CUR hp hg hr g1 g2 ho ha
            have CUR := CUR2
            clear CUR2
            go_wp2_with fail
            refine (zfZ_ R 16 16 rfl o5 v5 CUR.out.rd (fun l h => by have := (G6.out l h).1; exact ⟨by omega, (G6.out l h).2⟩)).mono ?_
            rintro e v6 hp
            obtain ⟨hg, hr, rfl⟩ := zf3_ hp
            obtain ⟨g1, g2⟩ := zf2_ (t := 16) G6.out
            obtain ⟨o6, ho⟩ : ∃ o, o = zaa_ (v2_ 16) o5 := ⟨_, rfl⟩
            obtain ⟨g, ha⟩ : ∃ a, a = gotO [] (v2_ 16) o5 := ⟨_, rfl⟩
            rw [← ho] at hr g1
            rw [← ha] at g2
            rw [← ha]
            have HO6 := Lib.hid ho
            have HA6 := Lib.hid ha
            have G7 := Lib.hid g1
            have L6 := g2
            have CUR2 := Lib.hid (zdL_ CUR.out hg hr HR.out)
            clear CUR hp hg hr g1 g2 ho ha
            have CUR := CUR2
            clear CUR2
            have f : ∀ j, v6.cell? ⟨w.heap.size + 1, j, none⟩ = (q4_ ⟨n, (st : Nat), h, q, m, (ex : Nat), 0, []⟩)[j]? := z0_ CUR.out.i2.blk
            have f6 : v6.cell? ⟨w.heap.size + 1, 6, none⟩ = some (.int .i64 0) := f 6
            have f7 : v6.cell? ⟨w.heap.size + 1, 7, none⟩ = some (.string (bs [])) := f 7
            have e := z8_ CUR.out.i2.blk
            have CUR2 := Lib.hid (zdt_ (zdt_ CUR.out HR.out 7 (.string (bs g)) (y := ⟨n, (st : Nat), h, q, m, (ex : Nat), 0, g⟩) rfl) HR.out 6 (.int .i64 (de : Nat)) (y := ⟨n, (st : Nat), h, q, m, (ex : Nat), (de : Nat), g⟩) rfl)
            clear CUR f
            go_upto_region 24 with fail
            generalize (v6.setCell ⟨w.heap.size + 1, 7, none⟩ (.string (bs g))).setCell ⟨w.heap.size + 1, 6, none⟩ (.int .i64 (de : Nat)) = u6 at *
            clear f6 f7 e
            have CUR := CUR2
            clear CUR2
            have HST := Lib.hid (HST.out o1 o2 o3 o4 o5 o6 HO1.out HO2.out HO3.out HO4.out HO5.out HO6.out ⟨0, (st : Nat), h, q, m, (ex : Nat), (de : Nat), g⟩ (by rw [← HA1.out, ← HA2.out, ← HA3.out, ← HA4.out, ← HA5.out, ← HA6.out]))
            clear HO1 HO2 HO3 HO4 HO5 HO6 HA1 HA2 HA3 HA4 HA5 HA6 G1 G2 G3 G4 G5 G6 G7
            have hsz : w.heap.size < R := by have := HR.out; omega
            obtain ⟨ad6, n6, c6, hRb, hRin⟩ := CUR.out.rd
            have fa : ∀ j, u6.cell? ⟨w.heap.size, j, none⟩ = (#[.int .i64 0, .int .i64 0, .string (bs []), .string (bs []), .string (bs []), .int .i64 0, .int .i64 0, .string (bs [])] : Array Value)[j]? := z0_ CUR.out.i2.res
            have ea := z8_ CUR.out.i2.res
            have r0 : u6.cell? ⟨R, 0, none⟩ = some (.slice ad6 n6 c6) := z0_ hRb 0
            have hok : u6.cell? ⟨R, 1, none⟩ = some (.bool o6.isSome) := z0_ hRb 1
            have S6 := Lib.hid CUR.out.i2
            cases o6 with
            | none =>
              have HD := Lib.hid (HDN.out (by rw [HST.out, if_neg si_]))
              have r1 : u6.cell? ⟨R, 1, none⟩ = some (.bool false) := hok
              clear hok hRb hRin CUR HST HDN HDO
              go_wp2_with fail
              have HP := Lib.hid (zc9_ (y := Inv.zero) rfl S6.out)
              have HPB : Hid (((((((((u6.setCell ⟨w.heap.size, 0, none⟩ (.int .i64 0)).setCell ⟨w.heap.size, 1, none⟩ (.int .i64 0)).setCell ⟨w.heap.size, 2, none⟩ (.string (bs []))).setCell ⟨w.heap.size, 3, none⟩ (.string (bs []))).setCell ⟨w.heap.size, 4, none⟩ (.string (bs []))).setCell ⟨w.heap.size, 5, none⟩ (.int .i64 0)).setCell ⟨w.heap.size, 6, none⟩ (.int .i64 0)).setCell ⟨w.heap.size, 7, none⟩ (.string (bs []))).heap[w.heap.size]? = some (.cells #[.int .i64 0, .int .i64 0, .string (bs []), .string (bs []), .string (bs []), .int .i64 0, .int .i64 0, .string (bs [])] 31 (0, 0))) := Lib.hid HP.out.1
              have HPG : Hid (GL [] w ((((((((u6.setCell ⟨w.heap.size, 0, none⟩ (.int .i64 0)).setCell ⟨w.heap.size, 1, none⟩ (.int .i64 0)).setCell ⟨w.heap.size, 2, none⟩ (.string (bs []))).setCell ⟨w.heap.size, 3, none⟩ (.string (bs []))).setCell ⟨w.heap.size, 4, none⟩ (.string (bs []))).setCell ⟨w.heap.size, 5, none⟩ (.int .i64 0)).setCell ⟨w.heap.size, 6, none⟩ (.int .i64 0)).setCell ⟨w.heap.size, 7, none⟩ (.string (bs [])))) := Lib.hid HP.out.2
              clear HP
              generalize ((((((((u6.setCell ⟨w.heap.size, 0, none⟩ (.int .i64 0)).setCell ⟨w.heap.size, 1, none⟩ (.int .i64 0)).setCell ⟨w.heap.size, 2, none⟩ (.string (bs []))).setCell ⟨w.heap.size, 3, none⟩ (.string (bs []))).setCell ⟨w.heap.size, 4, none⟩ (.string (bs []))).setCell ⟨w.heap.size, 5, none⟩ (.int .i64 0)).setCell ⟨w.heap.size, 6, none⟩ (.int .i64 0)).setCell ⟨w.heap.size, 7, none⟩ (.string (bs []))) = wz at *
              have fz := z0_ HPB.out
              exact bodyPost_ret (v := .tuple #[.agg #[.int .i64 0, .int .i64 0, .string (bs []), .string (bs []), .string (bs []), .int .i64 0, .int .i64 0, .string (bs [])], .int .i64 70]) (by simp [results, Tryz.results20, go_sem, fz]) rfl (zcC_ HD.out rfl (y0_ HPG.out))
            | some l6 =>
              have r1 : u6.cell? ⟨R, 1, none⟩ = some (.bool true) := hok
              have hn6 : n6 = l6.length := by
               obtain ⟨a', c', e, hc', _⟩ := j6_ (hRin l6 rfl)
               injection e with _ e2 e3
              subst hn6
              clear hok hRb hRin
              by_cases hl6 : l6 = []
              · subst hl6
                have r0 : u6.cell? ⟨R, 0, none⟩ = some (.slice ad6 0 c6) := r0
                have fx : ∀ j, u6.cell? ⟨w.heap.size + 1, j, none⟩ = (#[.int .i64 n, .int .i64 (st : Nat), .string (bs h), .string (bs q), .string (bs m), .int .i64 (ex : Nat), .int .i64 (de : Nat), .string (bs g)] : Array Value)[j]? := z0_ S6.out.blk
                have HOK : Hid (zcr_ ⟨n, (st : Nat), h, q, m, (ex : Nat), (de : Nat), g⟩) := Lib.hid ⟨sx_, sx_, sx_, sx_, sx_, sx_, sx_, sx_, sx_, sx_, sx_, sx_⟩
                have HMC := Lib.hid (zkQ_ ⟨n, (st : Nat), h, q, m, (ex : Nat), (de : Nat), g⟩ HOK.out u6)
                cases hm : w3_ ⟨0, (st : Nat), h, q, m, (ex : Nat), (de : Nat), g⟩ with
                | false =>
                  have HD := Lib.hid (HDN.out (by rw [HST.out, if_neg (by rw [hm]; simp)]))
                  have hm2 : w3_ ⟨n, (st : Nat), h, q, m, (ex : Nat), (de : Nat), g⟩ = false := hm
                  rw [hm2] at HMC
                  clear hm hm2 HST HDN HDO CUR
                  go_wp2_with (first | (go_at_call 39; refine (show Calls Tryz.prog 39 #[.agg #[.int .i64 n, .int .i64 (st : Nat), .string (bs h), .string (bs q), .string (bs m), .int .i64 (ex : Nat), .int .i64 (de : Nat), .string (bs g)]] u6 _ from HMC.out).mono ?_; rintro e w8 ⟨rfl, hb8⟩; have S8 := Lib.hid (zeX_ S6.out hb8); clear hb8 fx fa ea; have fx : ∀ j, w8.cell? ⟨w.heap.size + 1, j, none⟩ = (#[.int .i64 n, .int .i64 (st : Nat), .string (bs h), .string (bs q), .string (bs m), .int .i64 (ex : Nat), .int .i64 (de : Nat), .string (bs g)] : Array Value)[j]? := z0_ S8.out.blk; have fa : ∀ j, w8.cell? ⟨w.heap.size, j, none⟩ = (#[.int .i64 0, .int .i64 0, .string (bs []), .string (bs []), .string (bs []), .int .i64 0, .int .i64 0, .string (bs [])] : Array Value)[j]? := z0_ S8.out.res; have ea := z8_ S8.out.res))
                  have HP := Lib.hid (zc9_ (y := Inv.zero) rfl S8.out)
                  have HPB : Hid (((((((((w8.setCell ⟨w.heap.size, 0, none⟩ (.int .i64 0)).setCell ⟨w.heap.size, 1, none⟩ (.int .i64 0)).setCell ⟨w.heap.size, 2, none⟩ (.string (bs []))).setCell ⟨w.heap.size, 3, none⟩ (.string (bs []))).setCell ⟨w.heap.size, 4, none⟩ (.string (bs []))).setCell ⟨w.heap.size, 5, none⟩ (.int .i64 0)).setCell ⟨w.heap.size, 6, none⟩ (.int .i64 0)).setCell ⟨w.heap.size, 7, none⟩ (.string (bs []))).heap[w.heap.size]? = some (.cells #[.int .i64 0, .int .i64 0, .string (bs []), .string (bs []), .string (bs []), .int .i64 0, .int .i64 0, .string (bs [])] 31 (0, 0))) := Lib.hid HP.out.1
                  have HPG : Hid (GL [] w ((((((((w8.setCell ⟨w.heap.size, 0, none⟩ (.int .i64 0)).setCell ⟨w.heap.size, 1, none⟩ (.int .i64 0)).setCell ⟨w.heap.size, 2, none⟩ (.string (bs []))).setCell ⟨w.heap.size, 3, none⟩ (.string (bs []))).setCell ⟨w.heap.size, 4, none⟩ (.string (bs []))).setCell ⟨w.heap.size, 5, none⟩ (.int .i64 0)).setCell ⟨w.heap.size, 6, none⟩ (.int .i64 0)).setCell ⟨w.heap.size, 7, none⟩ (.string (bs [])))) := Lib.hid HP.out.2
                  clear HP
                  generalize ((((((((w8.setCell ⟨w.heap.size, 0, none⟩ (.int .i64 0)).setCell ⟨w.heap.size, 1, none⟩ (.int .i64 0)).setCell ⟨w.heap.size, 2, none⟩ (.string (bs []))).setCell ⟨w.heap.size, 3, none⟩ (.string (bs []))).setCell ⟨w.heap.size, 4, none⟩ (.string (bs []))).setCell ⟨w.heap.size, 5, none⟩ (.int .i64 0)).setCell ⟨w.heap.size, 6, none⟩ (.int .i64 0)).setCell ⟨w.heap.size, 7, none⟩ (.string (bs []))) = wz at *
                  have fz := z0_ HPB.out
                  exact bodyPost_ret (v := .tuple #[.agg #[.int .i64 0, .int .i64 0, .string (bs []), .string (bs []), .string (bs []), .int .i64 0, .int .i64 0, .string (bs [])], .int .i64 70]) (by simp [results, Tryz.results20, go_sem, fz]) rfl (zcC_ HD.out rfl (y0_ HPG.out))
                | true =>
                  have HDO := Lib.hid (HDO.out ⟨0, (st : Nat), h, q, m, (ex : Nat), (de : Nat), g⟩ ⟨n, (st : Nat), h, q, m, (ex : Nat), (de : Nat), g⟩ (by rw [HST.out, if_pos ⟨rfl, hm⟩]) rfl)
                  have hm2 : w3_ ⟨n, (st : Nat), h, q, m, (ex : Nat), (de : Nat), g⟩ = true := hm
                  rw [hm2] at HMC
                  have HBE := Lib.hid (zeL_ (x := ⟨n, (st : Nat), h, q, m, (ex : Nat), (de : Nat), g⟩) (zg9_ hn0 hn1) hm2)
                  clear hm hm2 HST HDN CUR
                  go_wp2_with (first | (go_at_call 39; refine (show Calls Tryz.prog 39 #[.agg #[.int .i64 n, .int .i64 (st : Nat), .string (bs h), .string (bs q), .string (bs m), .int .i64 (ex : Nat), .int .i64 (de : Nat), .string (bs g)]] u6 _ from HMC.out).mono ?_; rintro e w8 ⟨rfl, hb8⟩; have S8 := Lib.hid (zeX_ S6.out hb8); clear hb8 fx fa ea; have fx : ∀ j, w8.cell? ⟨w.heap.size + 1, j, none⟩ = (#[.int .i64 n, .int .i64 (st : Nat), .string (bs h), .string (bs q), .string (bs m), .int .i64 (ex : Nat), .int .i64 (de : Nat), .string (bs g)] : Array Value)[j]? := z0_ S8.out.blk; have fa : ∀ j, w8.cell? ⟨w.heap.size, j, none⟩ = (#[.int .i64 0, .int .i64 0, .string (bs []), .string (bs []), .string (bs []), .int .i64 0, .int .i64 0, .string (bs [])] : Array Value)[j]? := z0_ S8.out.res; have ea := z8_ S8.out.res))
                  refine (show Calls Tryz.prog 16 #[.agg #[.int .i64 n, .int .i64 (st : Nat), .string (bs h), .string (bs q), .string (bs m), .int .i64 (ex : Nat), .int .i64 (de : Nat), .string (bs g)]] w8 _ from zsn_ ⟨n, (st : Nat), h, q, m, (ex : Nat), (de : Nat), g⟩ HOK.out w8).mono ?_
                  rintro e w9 ⟨rfl, hb9⟩
                  rw [HBE.out.1, HBE.out.2]
                  have S9 := Lib.hid (zeX_ S8.out hb9)
                  clear hb9 fx fa ea S8
                  have fx : ∀ j, w9.cell? ⟨w.heap.size + 1, j, none⟩ = (#[.int .i64 n, .int .i64 (st : Nat), .string (bs h), .string (bs q), .string (bs m), .int .i64 (ex : Nat), .int .i64 (de : Nat), .string (bs g)] : Array Value)[j]? := z0_ S9.out.blk
                  generalize bodyT ⟨n, (st : Nat), h, q, m, (ex : Nat), (de : Nat), g⟩ = bt at *
                  go_wp2_with fail
                  refine (zrL_ q bt g om_ _).mono ?_
                  rintro e w10 ⟨rfl, hb10⟩
                  have S10 := Lib.hid (zeX_ S9.out hb10)
                  clear hb10 fx S9
                  have fx : ∀ j, w10.cell? ⟨w.heap.size + 1, j, none⟩ = (#[.int .i64 n, .int .i64 (st : Nat), .string (bs h), .string (bs q), .string (bs m), .int .i64 (ex : Nat), .int .i64 (de : Nat), .string (bs g)] : Array Value)[j]? := z0_ S10.out.blk
                  have fa : ∀ j, w10.cell? ⟨w.heap.size, j, none⟩ = (#[.int .i64 0, .int .i64 0, .string (bs []), .string (bs []), .string (bs []), .int .i64 0, .int .i64 0, .string (bs [])] : Array Value)[j]? := z0_ S10.out.res
                  have ea := z8_ S10.out.res
                  have HDV : Hid (decI s = if q1_ q bt g = true then (⟨n, (st : Nat), h, q, m, (ex : Nat), (de : Nat), g⟩, 0) else (Inv.zero, 71)) := HDO
                  clear HDO
                  cases hv : q1_ q bt g with
                  | false =>
                    have HD : Hid (decI s = (Inv.zero, 71)) := Lib.hid (by rw [HDV.out, hv]; rfl)
                    clear hv HDV
                    go_wp2_with fail
                    have HP := Lib.hid (zc9_ (y := Inv.zero) rfl S10.out)
                    have HPB : Hid (((((((((w10.setCell ⟨w.heap.size, 0, none⟩ (.int .i64 0)).setCell ⟨w.heap.size, 1, none⟩ (.int .i64 0)).setCell ⟨w.heap.size, 2, none⟩ (.string (bs []))).setCell ⟨w.heap.size, 3, none⟩ (.string (bs []))).setCell ⟨w.heap.size, 4, none⟩ (.string (bs []))).setCell ⟨w.heap.size, 5, none⟩ (.int .i64 0)).setCell ⟨w.heap.size, 6, none⟩ (.int .i64 0)).setCell ⟨w.heap.size, 7, none⟩ (.string (bs []))).heap[w.heap.size]? = some (.cells #[.int .i64 0, .int .i64 0, .string (bs []), .string (bs []), .string (bs []), .int .i64 0, .int .i64 0, .string (bs [])] 31 (0, 0))) := Lib.hid HP.out.1
                    have HPG : Hid (GL [] w ((((((((w10.setCell ⟨w.heap.size, 0, none⟩ (.int .i64 0)).setCell ⟨w.heap.size, 1, none⟩ (.int .i64 0)).setCell ⟨w.heap.size, 2, none⟩ (.string (bs []))).setCell ⟨w.heap.size, 3, none⟩ (.string (bs []))).setCell ⟨w.heap.size, 4, none⟩ (.string (bs []))).setCell ⟨w.heap.size, 5, none⟩ (.int .i64 0)).setCell ⟨w.heap.size, 6, none⟩ (.int .i64 0)).setCell ⟨w.heap.size, 7, none⟩ (.string (bs [])))) := Lib.hid HP.out.2
                    clear HP
                    generalize ((((((((w10.setCell ⟨w.heap.size, 0, none⟩ (.int .i64 0)).setCell ⟨w.heap.size, 1, none⟩ (.int .i64 0)).setCell ⟨w.heap.size, 2, none⟩ (.string (bs []))).setCell ⟨w.heap.size, 3, none⟩ (.string (bs []))).setCell ⟨w.heap.size, 4, none⟩ (.string (bs []))).setCell ⟨w.heap.size, 5, none⟩ (.int .i64 0)).setCell ⟨w.heap.size, 6, none⟩ (.int .i64 0)).setCell ⟨w.heap.size, 7, none⟩ (.string (bs []))) = wz at *
                    have fz := z0_ HPB.out
                    exact bodyPost_ret (v := .tuple #[.agg #[.int .i64 0, .int .i64 0, .string (bs []), .string (bs []), .string (bs []), .int .i64 0, .int .i64 0, .string (bs [])], .int .i64 71]) (by simp [results, Tryz.results20, go_sem, fz]) rfl (zcC_ HD.out rfl (y0_ HPG.out))
                  | true =>
                    have HD : Hid (decI s = (⟨n, (st : Nat), h, q, m, (ex : Nat), (de : Nat), g⟩, 0)) := Lib.hid (by rw [HDV.out, hv]; rfl)
                    clear hv HDV
                    go_wp2_with fail
                    have HP := Lib.hid (zc9_ (y := ⟨n, (st : Nat), h, q, m, (ex : Nat), (de : Nat), g⟩) rfl S10.out)
                    have HPB : Hid (((((((((w10.setCell ⟨w.heap.size, 0, none⟩ (.int .i64 n)).setCell ⟨w.heap.size, 1, none⟩ (.int .i64 (st : Nat))).setCell ⟨w.heap.size, 2, none⟩ (.string (bs h))).setCell ⟨w.heap.size, 3, none⟩ (.string (bs q))).setCell ⟨w.heap.size, 4, none⟩ (.string (bs m))).setCell ⟨w.heap.size, 5, none⟩ (.int .i64 (ex : Nat))).setCell ⟨w.heap.size, 6, none⟩ (.int .i64 (de : Nat))).setCell ⟨w.heap.size, 7, none⟩ (.string (bs g))).heap[w.heap.size]? = some (.cells #[.int .i64 n, .int .i64 (st : Nat), .string (bs h), .string (bs q), .string (bs m), .int .i64 (ex : Nat), .int .i64 (de : Nat), .string (bs g)] 31 (0, 0))) := Lib.hid HP.out.1
                    have HPG : Hid (GL [] w ((((((((w10.setCell ⟨w.heap.size, 0, none⟩ (.int .i64 n)).setCell ⟨w.heap.size, 1, none⟩ (.int .i64 (st : Nat))).setCell ⟨w.heap.size, 2, none⟩ (.string (bs h))).setCell ⟨w.heap.size, 3, none⟩ (.string (bs q))).setCell ⟨w.heap.size, 4, none⟩ (.string (bs m))).setCell ⟨w.heap.size, 5, none⟩ (.int .i64 (ex : Nat))).setCell ⟨w.heap.size, 6, none⟩ (.int .i64 (de : Nat))).setCell ⟨w.heap.size, 7, none⟩ (.string (bs g)))) := Lib.hid HP.out.2
                    clear HP
                    generalize ((((((((w10.setCell ⟨w.heap.size, 0, none⟩ (.int .i64 n)).setCell ⟨w.heap.size, 1, none⟩ (.int .i64 (st : Nat))).setCell ⟨w.heap.size, 2, none⟩ (.string (bs h))).setCell ⟨w.heap.size, 3, none⟩ (.string (bs q))).setCell ⟨w.heap.size, 4, none⟩ (.string (bs m))).setCell ⟨w.heap.size, 5, none⟩ (.int .i64 (ex : Nat))).setCell ⟨w.heap.size, 6, none⟩ (.int .i64 (de : Nat))).setCell ⟨w.heap.size, 7, none⟩ (.string (bs g))) = wz at *
                    have fz := z0_ HPB.out
                    exact bodyPost_ret (v := .tuple #[.agg #[.int .i64 n, .int .i64 (st : Nat), .string (bs h), .string (bs q), .string (bs m), .int .i64 (ex : Nat), .int .i64 (de : Nat), .string (bs g)], .int .i64 0]) (by simp [results, Tryz.results20, go_sem, fz]) rfl (zcC_ HD.out rfl (y0_ HPG.out))
              · have HD := Lib.hid (HDN.out (by rw [HST.out, if_neg (by simp [hl6])]))
                have hp6 : 0 < l6.length := List.length_pos_iff.2 hl6
                have hp7 : decide ((0 : Int) < l6.length) = true := by simp; omega
                clear hl6 CUR HST HDN HDO
                go_wp2_with fail
                have HP := Lib.hid (zc9_ (y := Inv.zero) rfl S6.out)
                have HPB : Hid (((((((((u6.setCell ⟨w.heap.size, 0, none⟩ (.int .i64 0)).setCell ⟨w.heap.size, 1, none⟩ (.int .i64 0)).setCell ⟨w.heap.size, 2, none⟩ (.string (bs []))).setCell ⟨w.heap.size, 3, none⟩ (.string (bs []))).setCell ⟨w.heap.size, 4, none⟩ (.string (bs []))).setCell ⟨w.heap.size, 5, none⟩ (.int .i64 0)).setCell ⟨w.heap.size, 6, none⟩ (.int .i64 0)).setCell ⟨w.heap.size, 7, none⟩ (.string (bs []))).heap[w.heap.size]? = some (.cells #[.int .i64 0, .int .i64 0, .string (bs []), .string (bs []), .string (bs []), .int .i64 0, .int .i64 0, .string (bs [])] 31 (0, 0))) := Lib.hid HP.out.1
                have HPG : Hid (GL [] w ((((((((u6.setCell ⟨w.heap.size, 0, none⟩ (.int .i64 0)).setCell ⟨w.heap.size, 1, none⟩ (.int .i64 0)).setCell ⟨w.heap.size, 2, none⟩ (.string (bs []))).setCell ⟨w.heap.size, 3, none⟩ (.string (bs []))).setCell ⟨w.heap.size, 4, none⟩ (.string (bs []))).setCell ⟨w.heap.size, 5, none⟩ (.int .i64 0)).setCell ⟨w.heap.size, 6, none⟩ (.int .i64 0)).setCell ⟨w.heap.size, 7, none⟩ (.string (bs [])))) := Lib.hid HP.out.2
                clear HP
                generalize ((((((((u6.setCell ⟨w.heap.size, 0, none⟩ (.int .i64 0)).setCell ⟨w.heap.size, 1, none⟩ (.int .i64 0)).setCell ⟨w.heap.size, 2, none⟩ (.string (bs []))).setCell ⟨w.heap.size, 3, none⟩ (.string (bs []))).setCell ⟨w.heap.size, 4, none⟩ (.string (bs []))).setCell ⟨w.heap.size, 5, none⟩ (.int .i64 0)).setCell ⟨w.heap.size, 6, none⟩ (.int .i64 0)).setCell ⟨w.heap.size, 7, none⟩ (.string (bs []))) = wz at *
                have fz := z0_ HPB.out
                exact bodyPost_ret (v := .tuple #[.agg #[.int .i64 0, .int .i64 0, .string (bs []), .string (bs []), .string (bs []), .int .i64 0, .int .i64 0, .string (bs [])], .int .i64 70]) (by simp [results, Tryz.results20, go_sem, fz]) rfl (zcC_ HD.out rfl (y0_ HPG.out))
       · have HD := Lib.hid (HDA.out hm)
         have hd1 : (m != 0) = true := by simpa using hm
         have hd2 : (m == 0) = false := by simpa using hm
         clear hm HDA HDN HDO HRG HRD
         go_wp2_with fail
         have HP := Lib.hid (zc9_ (y := Inv.zero) rfl S2.out)
         have HPB : Hid (((((((((w3.setCell ⟨w.heap.size, 0, none⟩ (.int .i64 0)).setCell ⟨w.heap.size, 1, none⟩ (.int .i64 0)).setCell ⟨w.heap.size, 2, none⟩ (.string (bs []))).setCell ⟨w.heap.size, 3, none⟩ (.string (bs []))).setCell ⟨w.heap.size, 4, none⟩ (.string (bs []))).setCell ⟨w.heap.size, 5, none⟩ (.int .i64 0)).setCell ⟨w.heap.size, 6, none⟩ (.int .i64 0)).setCell ⟨w.heap.size, 7, none⟩ (.string (bs []))).heap[w.heap.size]? = some (.cells #[.int .i64 0, .int .i64 0, .string (bs []), .string (bs []), .string (bs []), .int .i64 0, .int .i64 0, .string (bs [])] 31 (0, 0))) := Lib.hid HP.out.1
         have HPG : Hid (GL [] w ((((((((w3.setCell ⟨w.heap.size, 0, none⟩ (.int .i64 0)).setCell ⟨w.heap.size, 1, none⟩ (.int .i64 0)).setCell ⟨w.heap.size, 2, none⟩ (.string (bs []))).setCell ⟨w.heap.size, 3, none⟩ (.string (bs []))).setCell ⟨w.heap.size, 4, none⟩ (.string (bs []))).setCell ⟨w.heap.size, 5, none⟩ (.int .i64 0)).setCell ⟨w.heap.size, 6, none⟩ (.int .i64 0)).setCell ⟨w.heap.size, 7, none⟩ (.string (bs [])))) := Lib.hid HP.out.2
         clear HP
         generalize ((((((((w3.setCell ⟨w.heap.size, 0, none⟩ (.int .i64 0)).setCell ⟨w.heap.size, 1, none⟩ (.int .i64 0)).setCell ⟨w.heap.size, 2, none⟩ (.string (bs []))).setCell ⟨w.heap.size, 3, none⟩ (.string (bs []))).setCell ⟨w.heap.size, 4, none⟩ (.string (bs []))).setCell ⟨w.heap.size, 5, none⟩ (.int .i64 0)).setCell ⟨w.heap.size, 6, none⟩ (.int .i64 0)).setCell ⟨w.heap.size, 7, none⟩ (.string (bs []))) = wz at *
         have fz := z0_ HPB.out
         exact bodyPost_ret (v := .tuple #[.agg #[.int .i64 0, .int .i64 0, .string (bs []), .string (bs []), .string (bs []), .int .i64 0, .int .i64 0, .string (bs [])], .int .i64 m]) (by simp [results, Tryz.results20, go_sem, fz]) rfl (zcC_ HD.out rfl (y0_ HPG.out))
     · have HD := Lib.hid (zg7_ HE.out (by rw [HPT.out]; simp; exact fun _ => ht))
       have z0 : (x5_ s).take 4 ≠ [108, 110, 115, 119] := ht
       have z1 : ((x5_ s).take 4 == [108, 110, 115, 119]) = false := by simpa using z0
       have z2 : ((x5_ s).take 4 != [108, 110, 115, 119]) = true := by simpa using z0
       clear h4 HPT ht z0
       generalize x5_ s = dh at *
       go_wp2_with fail
       have HP := Lib.hid (zc9_ (y := Inv.zero) rfl S2.out)
       have HPB : Hid (((((((((w2.setCell ⟨w.heap.size, 0, none⟩ (.int .i64 0)).setCell ⟨w.heap.size, 1, none⟩ (.int .i64 0)).setCell ⟨w.heap.size, 2, none⟩ (.string (bs []))).setCell ⟨w.heap.size, 3, none⟩ (.string (bs []))).setCell ⟨w.heap.size, 4, none⟩ (.string (bs []))).setCell ⟨w.heap.size, 5, none⟩ (.int .i64 0)).setCell ⟨w.heap.size, 6, none⟩ (.int .i64 0)).setCell ⟨w.heap.size, 7, none⟩ (.string (bs []))).heap[w.heap.size]? = some (.cells #[.int .i64 0, .int .i64 0, .string (bs []), .string (bs []), .string (bs []), .int .i64 0, .int .i64 0, .string (bs [])] 31 (0, 0))) := Lib.hid HP.out.1
       have HPG : Hid (GL [] w ((((((((w2.setCell ⟨w.heap.size, 0, none⟩ (.int .i64 0)).setCell ⟨w.heap.size, 1, none⟩ (.int .i64 0)).setCell ⟨w.heap.size, 2, none⟩ (.string (bs []))).setCell ⟨w.heap.size, 3, none⟩ (.string (bs []))).setCell ⟨w.heap.size, 4, none⟩ (.string (bs []))).setCell ⟨w.heap.size, 5, none⟩ (.int .i64 0)).setCell ⟨w.heap.size, 6, none⟩ (.int .i64 0)).setCell ⟨w.heap.size, 7, none⟩ (.string (bs [])))) := Lib.hid HP.out.2
       clear HP
       generalize ((((((((w2.setCell ⟨w.heap.size, 0, none⟩ (.int .i64 0)).setCell ⟨w.heap.size, 1, none⟩ (.int .i64 0)).setCell ⟨w.heap.size, 2, none⟩ (.string (bs []))).setCell ⟨w.heap.size, 3, none⟩ (.string (bs []))).setCell ⟨w.heap.size, 4, none⟩ (.string (bs []))).setCell ⟨w.heap.size, 5, none⟩ (.int .i64 0)).setCell ⟨w.heap.size, 6, none⟩ (.int .i64 0)).setCell ⟨w.heap.size, 7, none⟩ (.string (bs []))) = wz at *
       have fz := z0_ HPB.out
       exact bodyPost_ret (v := .tuple #[.agg #[.int .i64 0, .int .i64 0, .string (bs []), .string (bs []), .string (bs []), .int .i64 0, .int .i64 0, .string (bs [])], .int .i64 70]) (by simp [results, Tryz.results20, go_sem, fz]) rfl (zcC_ HD.out rfl (y0_ HPG.out))
 · rw [if_neg hE] at hd
   subst hd
   have HD := Lib.hid (zjC_ hE)
   generalize v9_ s = de at *
   have hd1 : (de != 0) = true := by simpa using hE
   have hd2 : (de == 0) = false := by simpa using hE
   clear hE
   go_wp2_with fail
   have HP := Lib.hid (zc9_ (y := Inv.zero) rfl S2.out)
   have HPB : Hid (((((((((w2.setCell ⟨w.heap.size, 0, none⟩ (.int .i64 0)).setCell ⟨w.heap.size, 1, none⟩ (.int .i64 0)).setCell ⟨w.heap.size, 2, none⟩ (.string (bs []))).setCell ⟨w.heap.size, 3, none⟩ (.string (bs []))).setCell ⟨w.heap.size, 4, none⟩ (.string (bs []))).setCell ⟨w.heap.size, 5, none⟩ (.int .i64 0)).setCell ⟨w.heap.size, 6, none⟩ (.int .i64 0)).setCell ⟨w.heap.size, 7, none⟩ (.string (bs []))).heap[w.heap.size]? = some (.cells #[.int .i64 0, .int .i64 0, .string (bs []), .string (bs []), .string (bs []), .int .i64 0, .int .i64 0, .string (bs [])] 31 (0, 0))) := Lib.hid HP.out.1
   have HPG : Hid (GL [] w ((((((((w2.setCell ⟨w.heap.size, 0, none⟩ (.int .i64 0)).setCell ⟨w.heap.size, 1, none⟩ (.int .i64 0)).setCell ⟨w.heap.size, 2, none⟩ (.string (bs []))).setCell ⟨w.heap.size, 3, none⟩ (.string (bs []))).setCell ⟨w.heap.size, 4, none⟩ (.string (bs []))).setCell ⟨w.heap.size, 5, none⟩ (.int .i64 0)).setCell ⟨w.heap.size, 6, none⟩ (.int .i64 0)).setCell ⟨w.heap.size, 7, none⟩ (.string (bs [])))) := Lib.hid HP.out.2
   clear HP
   generalize ((((((((w2.setCell ⟨w.heap.size, 0, none⟩ (.int .i64 0)).setCell ⟨w.heap.size, 1, none⟩ (.int .i64 0)).setCell ⟨w.heap.size, 2, none⟩ (.string (bs []))).setCell ⟨w.heap.size, 3, none⟩ (.string (bs []))).setCell ⟨w.heap.size, 4, none⟩ (.string (bs []))).setCell ⟨w.heap.size, 5, none⟩ (.int .i64 0)).setCell ⟨w.heap.size, 6, none⟩ (.int .i64 0)).setCell ⟨w.heap.size, 7, none⟩ (.string (bs []))) = wz at *
   have fz := z0_ HPB.out
   exact bodyPost_ret (v := .tuple #[.agg #[.int .i64 0, .int .i64 0, .string (bs []), .string (bs []), .string (bs []), .int .i64 0, .int .i64 0, .string (bs [])], .int .i64 de]) (by simp [results, Tryz.results20, go_sem, fz]) rfl (zcC_ HD.out rfl (y0_ HPG.out))
end Go.Proofs.YtembdkodajichaaGreatDoor
