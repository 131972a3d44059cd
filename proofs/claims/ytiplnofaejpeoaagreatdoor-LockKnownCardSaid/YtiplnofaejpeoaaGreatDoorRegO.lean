/- Operations of a region that draws its order: one law a kind of operation, whatever the slots. -/
import Derived.Test.YtiplnofaejpeoaaGreatDoorLawX
import Derived.Test.YtiplnofaejpeoaaGreatDoorLawD0
import Derived.Deep.CutRange
import Derived.Test.YtiplnofaejpeoaaGreatDoorAppN
set_option maxRecDepth 100000
set_option maxHeartbeats 16000000
set_option linter.unusedSimpArgs false
set_option linter.unusedVariables false
namespace Go.Proofs.YtiplnofaejpeoaaGreatDoor
open Go.RowKit
theorem zin_ {P : Program} {ops : Array Oper} {rest : List Oper} {o : Oper} {a : Act} {w : World} {Q : Exit → Act → World → Prop} (hgd : o.guard = none) (s x : Operand) (t : TypeId)
  (ho : o.op = .call { callee := .builtin .append, args := #[s, x], argTypes := #[t, t] })
  (base : Nat) (e : TypeId) (i : TypeInfo) (z : Value) (bytes : Nat) (ht : P.underlying t = some (.slice e)) (hi : P.info? e = some i) (hz : i.zero = some z)
  (hsize : i.size = 1) (hby : i.bytes = bytes) (hzs : z.cells.size = 1)
  (v : Value) (n : Nat) (xs : List Value) (hs : a.eval s = v) (hown : w.ownsRow base e 1 v n xs)
  (u : Value) (ts : List (List UInt8)) (hx : a.eval x = u) (hu : x5_ u ts w)
  (h63 : n + ts.length ≤ maxLen) (hbytes : (n + ts.length) * bytes ≤ 140737488355328) (hbase : base ≤ w.heap.size)
  (h : ∀ v' w', w'.ownsRow base e 1 v' (n + ts.length) (xs ++ ts.map fun y => .string (bs y)) → w.grownBy w' v.ownBlock → wpList P ops Q rest (a.put o.dst v') w') : wpList P ops Q (o :: rest) a w := by
 rcases hu with ⟨ad, c, hu, hts⟩ | ⟨b, off, c, hu, hb, hc⟩
 · subst hts
   cases ad with
   | none =>
     refine zfv_ hgd s x t ho base e i 1 ht hi v n xs hs hown c (hx.trans hu) (h v w ?_ ⟨rfl, rfl, rfl, Nat.le_refl _, fun _ _ _ => rfl⟩)
     simpa using hown
   | some b =>
     exact wpList_append_own w hgd s x t ho base e i z 1 bytes ht hi hz hsize hby hzs de_ v n xs hs hown b 0 c [] (hx.trans hu) rfl si_ si_ h63 hbytes hbase (fun v' w' a1 a2 _ => h v' w' a1 a2)
 · exact wpList_append_own w hgd s x t ho base e i z 1 bytes ht hi hz hsize hby hzs de_ v n xs hs hown ⟨b, off, none⟩ ts.length c (ts.map fun y => .string (bs y)) (hx.trans hu) si_
    (fun j y hj => by
      rw [List.getElem?_map, Option.map_eq_some_iff] at hj
      obtain ⟨t0, h1, rfl⟩ := hj
      rw [Addr.add_lit]
      exact hc j t0 h1) (fun y hy => by rw [List.mem_map] at hy; obtain ⟨t0, _, rfl⟩ := hy; rfl) h63 hbytes hbase (fun v' w' a1 a2 _ => h v' w' a1 a2)
def zop_ (a b : Nat) (e : Ending) : Prop := ∃ bl : Bool, e = .returned (.bool bl) ∧ (bl = false → a ≤ 20 ∧ b ≤ 20)
theorem zoq_ (sa pa : Option Addr) (sc pc : Nat) (sigs pres : List (List UInt8)) (msg : List UInt8) (w : World) (hS : x5_ (.slice sa sigs.length sc) sigs w) (hP : x5_ (.slice pa pres.length pc) pres w) (hsn : sigs.length ≤ 9000000000000000000) (hpn : pres.length ≤ 9000000000000000000) :
  Calls Tryz.prog 36 #[.agg #[.slice sa sigs.length sc, .slice pa pres.length pc], .string (bs msg)] w fun e w' => Below w.heap.size w w' ∧ zop_ sigs.length pres.length e := by
 have HS := Lib.hid hS
 have HP := Lib.hid hP
 clear hS hP
 go_enter Tryz.func36, Tryz.ntmps36
 go_wp2
 go_loopw [5, 6] (fun nv iv wr => ∃ (j : Nat) (s : Int), j ≤ sigs.length ∧ iv = .int .i64 j ∧ nv = .int .i64 s ∧ Hid (wr.heap[w.heap.size]? = some (.cells #[.slice sa sigs.length sc, .slice pa pres.length pc] 31 (0, 0))) ∧ Hid (GL [] w wr)) (fun _ iv _ => sigs.length - (intOf iv).toNat)
 case atStart => exact ⟨0, _, by omega, rfl, rfl, Lib.hid (z3_ w _), Lib.hid gl_⟩
 case round =>
  obtain ⟨j, s, hj, rfl, rfl, H1, hgr⟩ := hrel
  have f1 := z2_ H1.out
  have e1 := z5_ H1.out
  by_cases hlt : j < sigs.length
  · have i1 : (j : Int) < sigs.length := by omega
    rcases HS.out with ⟨_, _, h0, h1⟩ | ⟨b, o, c, h0, hb, hc⟩
    · subst h1; simp at hlt
    injection h0 with h01 h02 h03
    subst h01 h03
    have hx : sigs[j]? = some sigs[j] := List.getElem?_eq_getElem hlt
    have c0 : wr.cell? ⟨b, o + j, none⟩ = some (.string (bs sigs[j])) := by
     have := hc j _ hx
     simp only [World.cell?, hgr.out.block b hb si_] at this ⊢
     exact this
    generalize sigs[j] = tt at *
    clear hc hx HS h02
    go_wp2
    go_roundw
    case rel => exact ⟨j + 1, _, by omega, by go_num, rfl, H1, hgr⟩
    case measure => simp [intOf]; omega
  · obtain rfl : j = sigs.length := by omega
    have i4 : decide ((sigs.length : Int) < sigs.length) = false := by simp
    go_wp2
    go_loopw [5, 7] (fun nv iv wr => ∃ (j : Nat) (s : Int), j ≤ pres.length ∧ iv = .int .i64 j ∧ nv = .int .i64 s ∧ Hid (wr.heap[w.heap.size]? = some (.cells #[.slice sa sigs.length sc, .slice pa pres.length pc] 31 (0, 0))) ∧ Hid (GL [] w wr)) (fun _ iv _ => pres.length - (intOf iv).toNat)
    case atStart => exact ⟨0, _, by omega, rfl, rfl, H1, hgr⟩
    case round =>
     obtain ⟨j, s, hj, rfl, rfl, H1, hgr⟩ := hrel
     have f1 := z2_ H1.out
     have e1 := z5_ H1.out
     by_cases hlt : j < pres.length
     · have i1 : (j : Int) < pres.length := by omega
       rcases HP.out with ⟨_, _, h0, h1⟩ | ⟨b, o, c, h0, hb, hc⟩
       · subst h1; simp at hlt
       injection h0 with h01 h02 h03
       subst h01 h03
       have hx : pres[j]? = some pres[j] := List.getElem?_eq_getElem hlt
       have c0 : wr.cell? ⟨b, o + j, none⟩ = some (.string (bs pres[j])) := by
        have := hc j _ hx
        simp only [World.cell?, hgr.out.block b hb si_] at this ⊢
        exact this
       generalize pres[j] = tt at *
       clear hc hx HP h02
       go_wp2
       go_roundw
       case rel => exact ⟨j + 1, _, by omega, by go_num, rfl, H1, hgr⟩
       case measure => simp [intOf]; omega
     · obtain rfl : j = pres.length := by omega
       have i4 : decide ((pres.length : Int) < pres.length) = false := by simp
       go_wp2
       all_goals
        go_ret
        exact ⟨x0_ hgr.out, ⟨_, rfl, fun hh => by simp at hh <;> omega⟩⟩
theorem zio_ {w : World} {base n c : Nat} {ad : Option Addr} {ts : List (List UInt8)} (h : w.ownsRow base 22 1 (.slice ad n c) ts.length (ts.map fun y => .string (bs y))) : x5_ (.slice ad n c) ts w := by
 have hlen := zbm_ h
 by_cases hz : ts.length = 0
 · exact .inl ⟨ad, c, by rw [hlen, hz], List.eq_nil_of_length_eq_zero hz⟩
 · obtain ⟨g, cap, hv, hgb, hgw, _, _, hcell⟩ := zaT_ h om_
   refine .inr ⟨g, 0, cap, hv, hgw, fun i u hi => ?_⟩
   rw [Nat.zero_add]
   exact hcell i _ (by simp [hi])
theorem blk4 {w : World} {B T : Nat} {v0 v1 v2 v3 : Value} (h : w.heap[B]? = some (.cells #[.int .u8 0, .string (bs []), .int .i64 0, .slice none 0 0] T (0, 0))) : ((((w.setCell ⟨B, 0, none⟩ v0).setCell ⟨B, 1, none⟩ v1).setCell ⟨B, 2, none⟩ v2).setCell ⟨B, 3, none⟩ v3).heap[B]? = some (.cells #[v0, v1, v2, v3] T (0, 0)) :=
 x7_ (x7_ (x7_ (x7_ h 0 v0) 1 v1) 2 v2) 3 v3
theorem ziq_ {w : World} {B A : Nat} {x : Obj} {v0 v1 v2 v3 : Value} (hp : B ≠ A) (h : w.heap[B]? = some x) : ((((w.setCell ⟨A, 0, none⟩ v0).setCell ⟨A, 1, none⟩ v1).setCell ⟨A, 2, none⟩ v2).setCell ⟨A, 3, none⟩ v3).heap[B]? = some x :=
 y8_ (y8_ (y8_ (y8_ h (p := ⟨A, 0, none⟩) hp v0) (p := ⟨A, 1, none⟩) hp v1) (p := ⟨A, 2, none⟩) hp v2) (p := ⟨A, 3, none⟩) hp v3
theorem zex_ {rs : List Nat} {w w1 : World} {A : Nat} {v0 v1 v2 v3 : Value} (hp : A ∈ rs ∨ w.heap.size ≤ A) (h : GL rs w w1) : GL rs w ((((w1.setCell ⟨A, 0, none⟩ v0).setCell ⟨A, 1, none⟩ v1).setCell ⟨A, 2, none⟩ v2).setCell ⟨A, 3, none⟩ v3) :=
 x6_ (x6_ (x6_ (x6_ h (p := ⟨A, 0, none⟩) hp v0) (p := ⟨A, 1, none⟩) hp v1) (p := ⟨A, 2, none⟩) hp v2) (p := ⟨A, 3, none⟩) hp v3
def zor_ (w0 : World) (a b : LT) (s21 s22 : Value) (wx : World) : Prop :=
 ∃ (A5 A6 : Nat) (ad5 ad6 : Option Addr) (c5 c6 : Nat), s21 = .pointer (some ⟨A5, 0, none⟩) ∧ s22 = .pointer (some ⟨A6, 0, none⟩) ∧
  wx.heap[A5]? = some (.cells #[.int .u8 5, .string (bs []), .int .i64 0, .slice ad5 2 c5] 25 (0, 0)) ∧ wx.heap[A6]? = some (.cells #[.int .u8 6, .string (bs []), .int .i64 0, .slice ad6 2 c6] 25 (0, 0)) ∧
  y2_ (fun _ => True) wx (zaC_ 5 a b) (.agg #[.int .u8 5, .string (bs []), .int .i64 0, .slice ad5 2 c5]) ∧ y2_ (fun _ => True) wx (zaC_ 6 a b) (.agg #[.int .u8 6, .string (bs []), .int .i64 0, .slice ad6 2 c6]) ∧ GL [] w0 wx
theorem zos_ (a b : LT) (va vb : Value) (q q2 : Nat → Prop) (sa pa : Option Addr) (sc pc : Nat) (sigs pres : List (List UInt8)) (msg more : List UInt8) (after age later : Int) (hmsg : msg.length ≤ 9000000000000000000) (hmore0 : more.length ≤ 9000000000000000000)
  (ra : -9223372036854775808 ≤ after ∧ after ≤ 9223372036854775807) (rg : -9223372036854775808 ≤ age ∧ age ≤ 9223372036854775807) (hl0 : -9223372036854775808 ≤ later) (hl1 : later ≤ 9223372036854775807) (w : World) (ha : y2_ q w a va) (hb : y2_ q2 w b vb)
  (hS : x5_ (.slice sa sigs.length sc) sigs w) (hP : x5_ (.slice pa pres.length pc) pres w)
  (hsn : sigs.length ≤ 9000000000000000000) (hpn : pres.length ≤ 9000000000000000000) (hst : ∀ s ∈ sigs, s.length ≤ 9000000000000000000) (hpt : ∀ s ∈ pres, s.length ≤ 9000000000000000000) (hG : GOk w) :
  Calls Tryz.prog 15 #[va, vb, .agg #[.slice sa sigs.length sc, .slice pa pres.length pc], .string (bs msg), .string (bs more), .int .i64 after, .int .i64 age, .int .i64 later] w fun e w' => e = .returned (.bool true) ∧ Below w.heap.size w w' := by
 have HG0 := Lib.hid hG
 have HX0 := Lib.hid (q9_ (q := fun _ => True) (fun _ _ _ => trivial) _ _ ha)
 have HY0 := Lib.hid (q9_ (q := fun _ => True) (fun _ _ _ => trivial) _ _ hb)
 have HS0 := Lib.hid hS
 have HP0 := Lib.hid hP
 have HST := Lib.hid hst
 have HPT := Lib.hid hpt
 have HRNA := Lib.hid ra
 have HRNG := Lib.hid rg
 obtain ⟨ka, ta, na, ksa⟩ := a
 obtain ⟨ada, ca, rfl, _⟩ := y3_ ha
 obtain ⟨kb, tb, nb, ksb⟩ := b
 obtain ⟨adb, cb, rfl, _⟩ := y3_ hb
 clear hG ha hb hS hP hst hpt
 go_enter Tryz.func15, Tryz.ntmps15
 have hg0 : GL [] w w := z1_ _ _
 have hs0 : w.heap.size ≤ w.heap.size := Nat.le_refl _
 go_wp2_with fail
 have HX1 := Lib.hid (z7_ (z6_ (z6_ (z6_ (z1_ _ _) (.cells #[.int .u8 ka, .string (bs ta), .int .i64 na, .slice ada ksa.length ca] 25)) (.cells #[.int .u8 kb, .string (bs tb), .int .i64 nb, .slice adb ksb.length cb] 25)) (.cells #[.slice sa sigs.length sc, .slice pa pres.length pc] 31)) _ _ HX0.out)
 have HY1 := Lib.hid (z7_ (z6_ (z6_ (z6_ (z1_ _ _) (.cells #[.int .u8 ka, .string (bs ta), .int .i64 na, .slice ada ksa.length ca] 25)) (.cells #[.int .u8 kb, .string (bs tb), .int .i64 nb, .slice adb ksb.length cb] 25)) (.cells #[.slice sa sigs.length sc, .slice pa pres.length pc] 31)) _ _ HY0.out)
 have HS1 := Lib.hid (y4_ HS0.out (z6_ (z6_ (z6_ (z1_ _ _) (.cells #[.int .u8 ka, .string (bs ta), .int .i64 na, .slice ada ksa.length ca] 25)) (.cells #[.int .u8 kb, .string (bs tb), .int .i64 nb, .slice adb ksb.length cb] 25)) (.cells #[.slice sa sigs.length sc, .slice pa pres.length pc] 31)))
 have HP1 := Lib.hid (y4_ HP0.out (z6_ (z6_ (z6_ (z1_ _ _) (.cells #[.int .u8 ka, .string (bs ta), .int .i64 na, .slice ada ksa.length ca] 25)) (.cells #[.int .u8 kb, .string (bs tb), .int .i64 nb, .slice adb ksb.length cb] 25)) (.cells #[.slice sa sigs.length sc, .slice pa pres.length pc] 31)))
 have HA1 := Lib.hid ((z8_ (z8_ (z3_ w (.cells #[.int .u8 ka, .string (bs ta), .int .i64 na, .slice ada ksa.length ca] 25)) (.cells #[.int .u8 kb, .string (bs tb), .int .i64 nb, .slice adb ksb.length cb] 25)) (.cells #[.slice sa sigs.length sc, .slice pa pres.length pc] 31)))
 have hZ_ := z3_ (w.alloc (.cells #[.int .u8 ka, .string (bs ta), .int .i64 na, .slice ada ksa.length ca] 25)) (.cells #[.int .u8 kb, .string (bs tb), .int .i64 nb, .slice adb ksb.length cb] 25)
 rw [show (w.alloc (.cells #[.int .u8 ka, .string (bs ta), .int .i64 na, .slice ada ksa.length ca] 25)).heap.size = w.heap.size + 1 by simp] at hZ_
 have HB1 := Lib.hid ((z8_ hZ_ (.cells #[.slice sa sigs.length sc, .slice pa pres.length pc] 31)))
 clear hZ_
 have hZ_ := z3_ ((w.alloc (.cells #[.int .u8 ka, .string (bs ta), .int .i64 na, .slice ada ksa.length ca] 25)).alloc (.cells #[.int .u8 kb, .string (bs tb), .int .i64 nb, .slice adb ksb.length cb] 25)) (.cells #[.slice sa sigs.length sc, .slice pa pres.length pc] 31)
 rw [show ((w.alloc (.cells #[.int .u8 ka, .string (bs ta), .int .i64 na, .slice ada ksa.length ca] 25)).alloc (.cells #[.int .u8 kb, .string (bs tb), .int .i64 nb, .slice adb ksb.length cb] 25)).heap.size = w.heap.size + 1 + 1 by simp] at hZ_
 have HWB1 := Lib.hid (hZ_)
 clear hZ_
 have HG1 := Lib.hid (y5_ (y5_ (y5_ HG0.out (.cells #[.int .u8 ka, .string (bs ta), .int .i64 na, .slice ada ksa.length ca] 25)) (.cells #[.int .u8 kb, .string (bs tb), .int .i64 nb, .slice adb ksb.length cb] 25)) (.cells #[.slice sa sigs.length sc, .slice pa pres.length pc] 31))
 have hg1 := z6_ (z6_ (z6_ hg0 (.cells #[.int .u8 ka, .string (bs ta), .int .i64 na, .slice ada ksa.length ca] 25)) (.cells #[.int .u8 kb, .string (bs tb), .int .i64 nb, .slice adb ksb.length cb] 25)) (.cells #[.slice sa sigs.length sc, .slice pa pres.length pc] 31)
 have geA : w.heap.size ≤ w.heap.size := by have := hg0.size; omega
 have gnA : gN ≤ w.heap.size := by have := HG0.out.size; omega
 have geB : w.heap.size ≤ w.heap.size + 1 := by have := hg0.size; omega
 have gnB : gN ≤ w.heap.size + 1 := by have := HG0.out.size; omega
 have ltAB : w.heap.size < w.heap.size + 1 := by omega
 have neAB : w.heap.size ≠ w.heap.size + 1 := by omega
 have neBA : w.heap.size + 1 ≠ w.heap.size := by omega
 have geWB : w.heap.size ≤ w.heap.size + 1 + 1 := by have := hg0.size; omega
 have gnWB : gN ≤ w.heap.size + 1 + 1 := by have := HG0.out.size; omega
 have ltAWB : w.heap.size < w.heap.size + 1 + 1 := by omega
 have neAWB : w.heap.size ≠ w.heap.size + 1 + 1 := by omega
 have neWBA : w.heap.size + 1 + 1 ≠ w.heap.size := by omega
 have ltBWB : w.heap.size + 1 < w.heap.size + 1 + 1 := by omega
 have neBWB : w.heap.size + 1 ≠ w.heap.size + 1 + 1 := by omega
 have neWBB : w.heap.size + 1 + 1 ≠ w.heap.size + 1 := by omega
 generalize (((w.alloc (.cells #[.int .u8 ka, .string (bs ta), .int .i64 na, .slice ada ksa.length ca] 25)).alloc (.cells #[.int .u8 kb, .string (bs tb), .int .i64 nb, .slice adb ksb.length cb] 25)).alloc (.cells #[.slice sa sigs.length sc, .slice pa pres.length pc] 31)) = w1 at *
 generalize w.heap.size + 1 + 1 = WB at *
 generalize w.heap.size + 1 = B at *
 generalize w.heap.size = A at *
 have hs1 := hg1.size
 refine (zcq_ 100 om_ om_ (.mk ka ta na ksa) _ _ _ HX1.out).mono ?_
 rintro e w2 ⟨hb2, z1, rfl, hz10, hz11⟩
 have HWB2 := Lib.hid (z9_ HWB1.out hb2 (z0_ HWB1.out))
 have HB2 := Lib.hid (z9_ HB1.out hb2 (z0_ HB1.out))
 have HA2 := Lib.hid (z9_ HA1.out hb2 (z0_ HA1.out))
 have HG2 := Lib.hid (y6_ HG1.out hb2)
 have hg2 := z4_ hb2 hg1
 have hs2 := hg2.size
 have HX2 := Lib.hid (z7_ (z4_ hb2 (z1_ _ _)) _ _ HX1.out)
 have HY2 := Lib.hid (z7_ (z4_ hb2 (z1_ _ _)) _ _ HY1.out)
 have HS2 := Lib.hid (y4_ HS1.out (z4_ hb2 (z1_ _ _)))
 have HP2 := Lib.hid (y4_ HP1.out (z4_ hb2 (z1_ _ _)))
 by_cases h1 : z1 ≤ 100
 · skip
   have fh1 : decide (100 < z1) = false := by simp; omega
   have fa1 := z2_ HB2.out
   have fb1 := z5_ HB2.out
   have fl1 := z0_ HB2.out
   go_wp2_with fail
   refine (zcq_ 100 om_ om_ (.mk kb tb nb ksb) _ _ _ HY2.out).mono ?_
   rintro e w3 ⟨hb3, z2, rfl, hz20, hz21⟩
   clear fa1 fb1 fl1
   have HWB3 := Lib.hid (z9_ HWB2.out hb3 (z0_ HWB2.out))
   have HB3 := Lib.hid (z9_ HB2.out hb3 (z0_ HB2.out))
   have HA3 := Lib.hid (z9_ HA2.out hb3 (z0_ HA2.out))
   have HG3 := Lib.hid (y6_ HG2.out hb3)
   have hg3 := z4_ hb3 hg2
   have hs3 := hg3.size
   have HX3 := Lib.hid (z7_ (z4_ hb3 (z1_ _ _)) _ _ HX2.out)
   have HY3 := Lib.hid (z7_ (z4_ hb3 (z1_ _ _)) _ _ HY2.out)
   have HS3 := Lib.hid (y4_ HS2.out (z4_ hb3 (z1_ _ _)))
   have HP3 := Lib.hid (y4_ HP2.out (z4_ hb3 (z1_ _ _)))
   by_cases h2 : z2 ≤ 100
   · skip
     have fh2 : decide (100 < z2) = false := by simp; omega
     have fa2 := z2_ HWB3.out
     have fb2 := z5_ HWB3.out
     have fl2 := z0_ HWB3.out
     go_wp2_with fail
     refine (zoq_ sa pa sc pc sigs pres msg _ HS3.out HP3.out hsn hpn).mono ?_
     rintro e w4 ⟨hb4, bl, rfl, hbl⟩
     clear fa2 fb2 fl2
     have HWB4 := Lib.hid (z9_ HWB3.out hb4 (z0_ HWB3.out))
     have HB4 := Lib.hid (z9_ HB3.out hb4 (z0_ HB3.out))
     have HA4 := Lib.hid (z9_ HA3.out hb4 (z0_ HA3.out))
     have HG4 := Lib.hid (y6_ HG3.out hb4)
     have hg4 := z4_ hb4 hg3
     have hs4 := hg4.size
     have HX4 := Lib.hid (z7_ (z4_ hb4 (z1_ _ _)) _ _ HX3.out)
     have HY4 := Lib.hid (z7_ (z4_ hb4 (z1_ _ _)) _ _ HY3.out)
     have HS4 := Lib.hid (y4_ HS3.out (z4_ hb4 (z1_ _ _)))
     have HP4 := Lib.hid (y4_ HP3.out (z4_ hb4 (z1_ _ _)))
     cases bl with
     | true =>
       go_wp2_with fail
       go_ret
       exact ⟨rfl, x0_ hg4⟩
     | false =>
       obtain ⟨hs20, hp20⟩ := hbl rfl
       clear hbl
       by_cases h4 : more.length ≤ 1000
       · skip
         have fh4 : decide (1000 < (more.length : Int)) = false := by simp; omega
         by_cases h5 : after ≤ 1099511627776
         · skip
           have fh5 : decide (1099511627776 < after) = false := by simp; omega
           by_cases h6 : age ≤ 1099511627776
           · skip
             have fh6 : decide (1099511627776 < age) = false := by simp; omega
             go_wp2_with fail
             refine (zih_ later hl0 hl1 _).mono ?_
             rintro e wq ⟨rfl, hwq⟩
             have hwq2 := hwq.symm
             subst hwq2
             obtain ⟨lt, hlt0, hlt1, hlt⟩ : ∃ lt, 0 ≤ lt ∧ lt < 1000 ∧ za7_ later 1000 = lt := ⟨_, (zcU_ later 1000 om_).1, (zcU_ later 1000 om_).2.1, rfl⟩
             rw [hlt]
             clear hlt
             have hc1 := fun (W : World) (hgw : GL [] w4 W) => zaV_ (.mk ka ta na ksa) _ _ _ _ sigs pres msg after age W (z7_ hgw _ _ HX4.out) (y4_ HS4.out hgw) (y4_ HP4.out hgw) hsn hpn HST.out HPT.out ra rg (x4_ HG4.out hgw si_)
             have hc2 := fun (W : World) (hgw : GL [] w4 W) => zaV_ (.mk kb tb nb ksb) _ _ _ _ sigs pres msg after age W (z7_ hgw _ _ HY4.out) (y4_ HS4.out hgw) (y4_ HP4.out hgw) hsn hpn HST.out HPT.out ra rg (x4_ HG4.out hgw si_)
             have hmore := fun (h : k4_ sigs pres msg after age (.mk ka ta na ksa) = true) (h2 : sigs.length + 1 ≤ 16) (h3 : pres.length + 1 ≤ 16) => zj9_ (more := more) (later := lt) hlt0 h2 h3 h
             have hboth := fun (h : w7_ (zaC_ 5 (.mk ka ta na ksa) (.mk kb tb nb ksb)) = true) => zkc_ (sigs := sigs) (pres := pres) (msg := msg) (after := after) (age := age) h
             generalize k4_ sigs pres msg after age (.mk ka ta na ksa) = zx at *
             generalize k4_ sigs pres msg after age (.mk kb tb nb ksb) = zy at *
             have HMORE := Lib.hid hmore
             have HBOTH := Lib.hid hboth
             have HC1 := Lib.hid hc1
             have HC2 := Lib.hid hc2
             have hg44 : GL [] w4 w4 := z1_ _ _
             clear hmore hboth hc1 hc2
             have fa3 := z2_ HA4.out
             have fb3 := z5_ HA4.out
             have fl3 := z0_ HA4.out
             have fa4 := z2_ HB4.out
             have fb4 := z5_ HB4.out
             have fl4 := z0_ HB4.out
             have fa5 := z2_ HWB4.out
             have fb5 := z5_ HWB4.out
             have fl5 := z0_ HWB4.out
             go_upto_region 4 with fail
             go_region_held3 (fun w' => w'.cell? ⟨A, 0, none⟩ = some (.int .u8 ka) ∧ w'.cell? ⟨A, 1, none⟩ = some (.string (bs ta)) ∧ w'.cell? ⟨A, 2, none⟩ = some (.int .i64 na) ∧ w'.cell? ⟨A, 3, none⟩ = some (.slice ada ksa.length ca) ∧ w'.cell? ⟨B, 0, none⟩ = some (.int .u8 kb) ∧ w'.cell? ⟨B, 1, none⟩ = some (.string (bs tb)) ∧ w'.cell? ⟨B, 2, none⟩ = some (.int .i64 nb) ∧ w'.cell? ⟨B, 3, none⟩ = some (.slice adb ksb.length cb) ∧ w'.cell? ⟨WB, 0, none⟩ = some (.slice sa sigs.length sc) ∧ w'.cell? ⟨WB, 1, none⟩ = some (.slice pa pres.length pc) ∧ GL [] w4 w')
              (first
                | (refine ⟨?_, ?_, ?_, ?_, ?_, ?_, ?_, ?_, ?_, ?_, ?_⟩
                   · go_keep
                   · go_keep
                   · go_keep
                   · go_keep
                   · go_keep
                   · go_keep
                   · go_keep
                   · go_keep
                   · go_keep
                   · go_keep
                   · exact zam_ hg44)
                | (go_split_ands
                   refine ⟨?_, ?_, ?_, ?_, ?_, ?_, ?_, ?_, ?_, ?_, ?_⟩
                   · exact (hbk.cell (World.block_lt_of_cell? _ _ as_)).trans as_
                   · exact (hbk.cell (World.block_lt_of_cell? _ _ as_)).trans as_
                   · exact (hbk.cell (World.block_lt_of_cell? _ _ as_)).trans as_
                   · exact (hbk.cell (World.block_lt_of_cell? _ _ as_)).trans as_
                   · exact (hbk.cell (World.block_lt_of_cell? _ _ as_)).trans as_
                   · exact (hbk.cell (World.block_lt_of_cell? _ _ as_)).trans as_
                   · exact (hbk.cell (World.block_lt_of_cell? _ _ as_)).trans as_
                   · exact (hbk.cell (World.block_lt_of_cell? _ _ as_)).trans as_
                   · exact (hbk.cell (World.block_lt_of_cell? _ _ as_)).trans as_
                   · exact (hbk.cell (World.block_lt_of_cell? _ _ as_)).trans as_
                   · exact z4_ hbk as_))
              ((first
                | (go_at_call 37; go_split_ands; with_reducible refine (HC1.out _ as_).mono ?_; rintro e wk ⟨rfl, hbk⟩)
                | (go_at_call 37; go_split_ands; with_reducible refine (HC2.out _ as_).mono ?_; rintro e wk ⟨rfl, hbk⟩)))
             clear fa3 fb3 fl3 fa4 fb4 fl4 fa5 fb5 fl5
             have hgk : GL [] w4 wk := z4_ hbk as_
             clear hbk
             have HX5 := Lib.hid (z7_ hgk _ _ HX4.out)
             have HY5 := Lib.hid (z7_ hgk _ _ HY4.out)
             have HS5 := Lib.hid (y4_ HS4.out hgk)
             have HP5 := Lib.hid (y4_ HP4.out hgk)
             have HA5 := Lib.hid (y7_ HA4.out hgk si_)
             have HB5 := Lib.hid (y7_ HB4.out hgk si_)
             have HWB5 := Lib.hid (y7_ HWB4.out hgk si_)
             have HG5 := Lib.hid (x4_ HG4.out hgk si_)
             have hg5 : GL [] w wk := x1_ hgk hg4 si_
             obtain ⟨w5, hw5⟩ : ∃ w5, w5 = wk := ⟨_, rfl⟩
             subst hw5
             have hst := HST.out
             have hpt := HPT.out
             obtain ⟨t0, ht0, ht1, ht2, ht3⟩ := info_parts Tryz.infoTerm
             have p1 := z2_ HWB5.out
             have p2 := z5_ HWB5.out
             have p3 := z0_ HWB5.out
             go_upto_region 7 with (at_builtin; go_must (refine zin_ rfl _ _ 29 rfl (w5.heap.size + 1) 22 t0 (.string ByteArray.empty) 16 Tryz.underlying29 ht0 ht1 ht2 ht3 rfl (.slice none 0 0) 0 [] rfl (World.ownsRow_nil _ _ _ _) _ sigs rfl (y4_ HS5.out (z6_ (z1_ _ _) _)) ?c3 ?c4 ?c5 ?_; (case c3 => (unfold maxLen; omega)); (case c4 => omega); (case c5 => simp); (intro v6 w6 ho6 hr6); (obtain ⟨a6, n6, c6, hv6⟩ := zai_ ho6); (subst hv6); (have HV6 := Lib.hid (j1_ (z3_ w5 (.cells #[.slice none 0 0, .slice none 0 0] 31)) hr6 (by show ¬ some w5.heap.size = (Value.slice none 0 0).ownBlock; intro h; cases h))); (have q1 := z2_ HV6.out); (have q2 := z5_ HV6.out)))
             simp only [List.nil_append, Nat.zero_add] at ho6
             obtain rfl := zbm_ ho6
             have hgl6 : GL [] w5 w6 := zaL_ hr6 (z6_ (z1_ _ _) (.cells #[.slice none 0 0, .slice none 0 0] 31)) (fun r hr => by have hr2 : (Value.slice none 0 0).ownBlock = some r := hr; cases hr2)
             have hge6 := zal_ ho6
             have HO7 := Lib.hid (w3_ ho6 (p := ⟨w5.heap.size, 0, none⟩) (fun h => by have := hge6 w5.heap.size h.symm; omega) (.slice a6 sigs.length c6))
             have hg7 : GL [] w5 (w6.setCell ⟨w5.heap.size, 0, none⟩ (.slice a6 sigs.length c6)) := x6_ hgl6 (.inr (Nat.le_refl _)) _
             have HV7 : Hid ((w6.setCell ⟨w5.heap.size, 0, none⟩ (.slice a6 sigs.length c6)).heap[w5.heap.size]? = some (.cells #[.slice a6 sigs.length c6, .slice none 0 0] 31 (0, 0))) := x7_ HV6.out 0 (.slice a6 sigs.length c6)
             clear q1 q2 HV6 hr6 hgl6 hge6 ho6
             generalize (w6.setCell ⟨w5.heap.size, 0, none⟩ (.slice a6 sigs.length c6)) = w7 at *
             have q1 := z2_ HV7.out
             have q2 := z5_ HV7.out
             have q3 := z0_ HV7.out
             have hsz7 := hg7.size
             go_upto_region 8 with (at_builtin; go_must (refine wpList_append_own _ rfl _ _ 29 rfl (w5.heap.size + 1) 22 t0 (.string ByteArray.empty) 1 16 Tryz.underlying29 ht0 ht1 ht2 ht3 rfl de_ _ sigs.length _ rfl (zar_ HO7.out _) ⟨w7.heap.size, 0, none⟩ 1 1 [.string (bs more)] rfl rfl ?c1 ?c2 ?c3 ?c4 ?c5 ?_; (case c1 => exact zcw_ rfl); (case c2 => exact one1 rfl); (case c3 => (unfold maxLen; omega)); (case c4 => omega); (case c5 => (simp; omega)); (intro v8 w8 ho8 hr8 _); (obtain ⟨a8, n8, c8, hv8⟩ := zai_ ho8); (subst hv8); (have hgeo := zal_ HO7.out); (have HV8 := Lib.hid (j1_ (z8_ HV7.out _) hr8 (fun h => by have := hgeo _ h.symm; omega))); (have r1 := z2_ HV8.out); (have r2 := z5_ HV8.out)))
             have eS : sigs.length + 1 = (sigs ++ [more]).length := by simp
             have eT : (sigs.map fun y => Value.string (bs y)) ++ [Value.string (bs more)] = (sigs ++ [more]).map fun y => Value.string (bs y) := by simp
             rw [eT] at ho8
             obtain rfl := zbm_ ho8
             have hge8 := zal_ ho8
             have hgl8 : GL [] w5 w8 := zaL_ hr8 (z6_ hg7 _) (fun r hr => .inr (by have := hgeo r hr; omega))
             have HO9 := Lib.hid (w3_ ho8 (p := ⟨w5.heap.size, 0, none⟩) (fun h => by have := hge8 w5.heap.size h.symm; omega) (.slice a8 (sigs.length + 1) c8))
             have hg9 : GL [] w5 (w8.setCell ⟨w5.heap.size, 0, none⟩ (.slice a8 (sigs.length + 1) c8)) := x6_ hgl8 (.inr (Nat.le_refl _)) _
             have HV9 : Hid ((w8.setCell ⟨w5.heap.size, 0, none⟩ (.slice a8 (sigs.length + 1) c8)).heap[w5.heap.size]? = some (.cells #[.slice a8 (sigs.length + 1) c8, .slice none 0 0] 31 (0, 0))) := x7_ HV8.out 0 (.slice a8 (sigs.length + 1) c8)
             clear r1 r2 q1 q2 q3 HV8 hr8 hgl8 hge8 ho8 hgeo HO7 HV7 hg7 hsz7 eS eT
             generalize (w8.setCell ⟨w5.heap.size, 0, none⟩ (.slice a8 (sigs.length + 1) c8)) = w9 at *
             have q1 := z2_ HV9.out
             have q2 := z5_ HV9.out
             have q3 := z0_ HV9.out
             have hsz9 := hg9.size
             have p1b := z2_ (y7_ HWB5.out hg9 si_)
             have p2b := z5_ (y7_ HWB5.out hg9 si_)
             have p3b := z0_ (y7_ HWB5.out hg9 si_)
             clear p1 p2 p3
             go_upto_region 9 with (at_builtin; go_must (refine zin_ rfl _ _ 29 rfl w9.heap.size 22 t0 (.string ByteArray.empty) 16 Tryz.underlying29 ht0 ht1 ht2 ht3 rfl (.slice none 0 0) 0 [] rfl (World.ownsRow_nil _ _ _ _) _ pres rfl (y4_ HP5.out hg9) ?c3 ?c4 ?c5 ?_; (case c3 => (unfold maxLen; omega)); (case c4 => omega); (case c5 => exact Nat.le_refl _); (intro v10 w10 ho10 hr10); (obtain ⟨a10, n10, c10, hv10⟩ := zai_ ho10); (subst hv10); (have HV10 := Lib.hid (j1_ HV9.out hr10 (by show ¬ some w5.heap.size = (Value.slice none 0 0).ownBlock; intro h; cases h))); (have r1 := z2_ HV10.out); (have r2 := z5_ HV10.out)))
             simp only [List.nil_append, Nat.zero_add] at ho10
             obtain rfl := zbm_ ho10
             have hge10 := zal_ ho10
             have hlt9 := zhr_ HO9.out
             have HOK10 := Lib.hid (HO9.out.kept hr10 (.inr (by intro h; have h2 : (Value.slice a8 (sigs.length + 1) c8).ownBlock = none := h; exact absurd h2 (by
              have := HO9.out.2
              rcases this with ⟨_, h3⟩ | ⟨g, cap, cur, h3, _⟩
              · simp at h3
              · rw [h3]; simp [Value.ownBlock]))))
             have hgl10 : GL [] w5 w10 := zaL_ hr10 hg9 (fun r hr => by have hr2 : (Value.slice none 0 0).ownBlock = some r := hr; cases hr2)
             have HOa11 := Lib.hid (w3_ HOK10.out (p := ⟨w5.heap.size, 1, none⟩) (fun h => by have := zal_ HO9.out w5.heap.size h.symm; omega) (.slice a10 pres.length c10))
             have HOb11 := Lib.hid (w3_ ho10 (p := ⟨w5.heap.size, 1, none⟩) (fun h => by have := hge10 w5.heap.size h.symm; omega) (.slice a10 pres.length c10))
             have hg11 : GL [] w5 (w10.setCell ⟨w5.heap.size, 1, none⟩ (.slice a10 pres.length c10)) := x6_ hgl10 (.inr (Nat.le_refl _)) _
             have HV11 : Hid ((w10.setCell ⟨w5.heap.size, 1, none⟩ (.slice a10 pres.length c10)).heap[w5.heap.size]? = some (.cells #[.slice a8 (sigs.length + 1) c8, .slice a10 pres.length c10] 31 (0, 0))) := x7_ HV10.out 1 (.slice a10 pres.length c10)
             have hsz11 : w9.heap.size ≤ (w10.setCell ⟨w5.heap.size, 1, none⟩ (.slice a10 pres.length c10)).heap.size := by have := hr10.size; simpa [World.setCell] using this
             clear r1 r2 q1 q2 HV10 hr10 hgl10 hge10 ho10 HOK10 HO9 HV9 hg9 p1b p2b p3b
             generalize (w10.setCell ⟨w5.heap.size, 1, none⟩ (.slice a10 pres.length c10)) = w11 at *
             have q1 := z2_ HV11.out
             have q2 := z5_ HV11.out
             have q4 := z0_ HV11.out
             go_upto_region 10 with (at_builtin; go_must (refine wpList_append_own _ rfl _ _ 29 rfl w9.heap.size 22 t0 (.string ByteArray.empty) 1 16 Tryz.underlying29 ht0 ht1 ht2 ht3 rfl de_ _ pres.length _ rfl (zar_ HOb11.out _) ⟨w11.heap.size, 0, none⟩ 1 1 [.string (bs more)] rfl rfl ?c1 ?c2 ?c3 ?c4 ?c5 ?_; (case c1 => exact zcw_ rfl); (case c2 => exact one1 rfl); (case c3 => (unfold maxLen; omega)); (case c4 => omega); (case c5 => (simp; omega)); (intro v12 w12 ho12 hr12 _); (obtain ⟨a12, n12, c12, hv12⟩ := zai_ ho12); (subst hv12); (have hgeo := zal_ HOb11.out); (have HV12 := Lib.hid (j1_ (z8_ HV11.out _) hr12 (fun h => by have := hgeo _ h.symm; omega))); (have r1 := z2_ HV12.out); (have r2 := z5_ HV12.out)))
             have eT : (pres.map fun y => Value.string (bs y)) ++ [Value.string (bs more)] = (pres ++ [more]).map fun y => Value.string (bs y) := by simp
             rw [eT] at ho12
             obtain rfl := zbm_ ho12
             have hge12 := zal_ ho12
             have HOK12 := Lib.hid ((zar_ HOa11.out _).kept hr12 (.inr (fun h => by
              have h0 := HOa11.out.2
              rcases h0 with ⟨_, h3⟩ | ⟨g, cap, cur, h3, _⟩
              · simp at h3
              · have h4 : (Value.slice a8 (sigs.length + 1) c8).ownBlock = some g := by rw [h3]; rfl
                have h5 := hlt9 g h4
                have h6 := hgeo g (h.symm.trans h4)
                omega)))
             have hgl12 : GL [] w5 w12 := zaL_ hr12 (z6_ hg11 _) (fun r hr => .inr (by have := hgeo r hr; omega))
             have HOa13 := w3_ HOK12.out (p := ⟨w5.heap.size, 1, none⟩) (fun h => by have := zal_ HOa11.out w5.heap.size h.symm; omega) (.slice a12 (pres.length + 1) c12)
             have HOb13 := w3_ ho12 (p := ⟨w5.heap.size, 1, none⟩) (fun h => by have := hge12 w5.heap.size h.symm; omega) (.slice a12 (pres.length + 1) c12)
             have hg13 : GL [] w5 (w12.setCell ⟨w5.heap.size, 1, none⟩ (.slice a12 (pres.length + 1) c12)) := x6_ hgl12 (.inr (Nat.le_refl _)) _
             have HV13 : Hid ((w12.setCell ⟨w5.heap.size, 1, none⟩ (.slice a12 (pres.length + 1) c12)).heap[w5.heap.size]? = some (.cells #[.slice a8 (sigs.length + 1) c8, .slice a12 (pres.length + 1) c12] 31 (0, 0))) := x7_ HV12.out 1 (.slice a12 (pres.length + 1) c12)
             clear r1 r2 q1 q2 q3 q4 HV12 hr12 hgl12 hge12 ho12 hgeo HOK12 HOa11 HOb11 HV11 hg11 eT hlt9 hsz11
             generalize (w12.setCell ⟨w5.heap.size, 1, none⟩ (.slice a12 (pres.length + 1) c12)) = w13 at *
             have HSM := Lib.hid (zio_ (ts := sigs ++ [more]) (by simpa using HOa13))
             have HPM := Lib.hid (zio_ (ts := pres ++ [more]) (by simpa using HOb13))
             clear HOa13 HOb13
             have hsz13 := hg13.size
             have HA13 := Lib.hid (y7_ HA5.out hg13 si_)
             have HB13 := Lib.hid (y7_ HB5.out hg13 si_)
             have HWB13 := Lib.hid (y7_ HWB5.out hg13 si_)
             have HX13 := Lib.hid (z7_ hg13 _ _ HX5.out)
             have HY13 := Lib.hid (z7_ hg13 _ _ HY5.out)
             have HS13 := Lib.hid (y4_ HS5.out hg13)
             have HP13 := Lib.hid (y4_ HP5.out hg13)
             have HG13 := Lib.hid (x4_ HG5.out hg13 si_)
             have hgw : GL [] w w13 := x1_ hg13 hg5 si_
             have hle13 : k0_ w13 ≤ w13.heap.size ∧ w13.heap.size ≤ k0_ w13 := ⟨Nat.le_refl _, Nat.le_refl _⟩
             clear HX5 HY5 HS5 HP5 HG5 HA5 HB5 HWB5 hg13 hgk
             generalize w5.heap.size = VB at *
             go_cut [20] from 87 to 96 (fun s20 wx => ∃ f : Bool, s20 = .bool f ∧ (f = true → sigs.length + 1 ≤ 16 ∧ pres.length + 1 ≤ 16) ∧ wx = w13)
             case first =>
              have v1 := z2_ HV13.out
              have v2 := z5_ HV13.out
              have v3 := z0_ HV13.out
              clear HMORE HBOTH
              by_cases fs : sigs.length + 1 ≤ 16
              · have g1 : decide ((sigs.length : Int) + 1 ≤ 16) = true := by simp; omega
                by_cases fp : pres.length + 1 ≤ 16
                · have g2 : decide ((pres.length : Int) + 1 ≤ 16) = true := by simp; omega
                  go_wp2_with fail
                  go_meet
                  exact ⟨_, rfl, fun _ => ⟨fs, fp⟩, rfl⟩
                · have g2 : decide ((pres.length : Int) + 1 ≤ 16) = false := by simp; omega
                  go_wp2_with fail
                  go_meet
                  exact ⟨_, rfl, fun h => by simp at h, rfl⟩
              · have g1 : decide ((sigs.length : Int) + 1 ≤ 16) = false := by simp; omega
                go_wp2_with fail
                go_meet
                exact ⟨_, rfl, fun h => by simp at h, rfl⟩
             case rest =>
             obtain ⟨f20, rfl, hf20, hwc⟩ := hcut
             have hwc2 := hwc.symm
             subst hwc2
             have HF20 := Lib.hid hf20
             clear hf20
             go_upto_region 11 with fail
             go_cut [113] from 97 to 113 (fun s113 wx => s113 = .bool false ∧ Hid (GL [] w13 wx))
             case first =>
              have v1 := z2_ HV13.out
              have v2 := z5_ HV13.out
              have v3 := z0_ HV13.out
              have v4 := z2_ HA13.out
              have v5 := z5_ HA13.out
              have v6 := z0_ HA13.out
              have hall : ∀ s ∈ sigs ++ [more], s.length ≤ 9000000000000000000 := fun s hs => by
               rcases List.mem_append.1 hs with h | h
               · exact hst s h
               · rw [List.mem_singleton] at h; subst h; exact hmore0
              have halp : ∀ s ∈ pres ++ [more], s.length ≤ 9000000000000000000 := fun s hs => by
               rcases List.mem_append.1 hs with h | h
               · exact hpt s h
               · rw [List.mem_singleton] at h; subst h; exact hmore0
              have HCM := Lib.hid (zaV_ (.mk ka ta na ksa) _ _ _ _ (sigs ++ [more]) (pres ++ [more]) msg (after + lt) (age + lt) w13 HX13.out HSM.out HPM.out so_ so_ hall halp om_ om_ HG13.out)
              clear hall halp hst hpt
              cases zx with
              | false =>
                clear HMORE HBOTH HCM
                go_wp2_with fail
                go_meet
                exact ⟨rfl, Lib.hid (z1_ _ _)⟩
              | true =>
                cases f20 with
                | false =>
                  clear HMORE HBOTH HCM
                  go_wp2_with fail
                  go_meet
                  exact ⟨rfl, Lib.hid (z1_ _ _)⟩
                | true =>
                  have HM1 := Lib.hid (HMORE.out rfl (HF20.out rfl).1 (HF20.out rfl).2)
                  clear HMORE HBOTH HF20
                  go_wp2_with fail
                  refine HCM.out.mono ?_
                  rintro e wz ⟨rfl, hbz⟩
                  rw [HM1.out]
                  go_wp2_with fail
                  go_meet
                  exact ⟨rfl, Lib.hid (z4_ hbz (z1_ _ _))⟩
             case rest =>
              obtain ⟨rfl, hgx⟩ := hcut
              clear HSM HPM HV13
              have HA14 := Lib.hid (y7_ HA13.out hgx.out si_)
              have v4 := z2_ HA14.out
              have v5 := z5_ HA14.out
              have v6 := z0_ HA14.out
              have HB14 := Lib.hid (y7_ HB13.out hgx.out si_)
              have v7 := z2_ HB14.out
              have v8 := z5_ HB14.out
              have v9 := z0_ HB14.out
              have HX14 := Lib.hid (z7_ hgx.out _ _ HX13.out)
              have HY14 := Lib.hid (z7_ hgx.out _ _ HY13.out)
              go_upto_region 13 with fail
              go_cut [21, 22] from 114 to 121 (fun s21 s22 wx => zor_ wc (.mk ka ta na ksa) (.mk kb tb nb ksb) s21 s22 wx)
              case first =>
               have hgd0 : GL [] wc wc.drew := zam_ (z1_ _ _)
               have hA0 : wc.drew.heap[A]? = some (.cells #[.int .u8 ka, .string (bs ta), .int .i64 na, .slice ada ksa.length ca] 25 (0, 0)) := HA14.out
               have hB0 : wc.drew.heap[B]? = some (.cells #[.int .u8 kb, .string (bs tb), .int .i64 nb, .slice adb ksb.length cb] 25 (0, 0)) := HB14.out
               have hLA := z7_ hgd0 _ _ HX14.out
               have hLB := z7_ hgd0 _ _ HY14.out
               refine zlA_ (ds := d13) (J := JSR (S13 wc.drew (.mk ka ta na ksa) (.mk kb tb nb ksb) (.agg #[.int .u8 ka, .string (bs ta), .int .i64 na, .slice ada ksa.length ca]) (.agg #[.int .u8 kb, .string (bs tb), .int .i64 nb, .slice adb ksb.length cb]) #[.int .u8 ka, .string (bs ta), .int .i64 na, .slice ada ksa.length ca, .int .u8 kb, .string (bs tb), .int .i64 nb, .slice adb ksb.length cb]) (R13 (.mk ka ta na ksa) (.mk kb tb nb ksb))) 10 20 si_ rfl rfl (zcD_ _ (by decide +kernel)) (fun d hd => Nat.lt_of_lt_of_le (zcE_ (n := 122) d13 (by decide +kernel) d hd) si_) (zfj_ (by kernel_rfl)) (by kernel_rfl) ⟨fun i v h => (by cases h), fun i j v u h _ => (by cases h)⟩ ?_ ?_
               · refine zlB_ ?_
                 exact ⟨fun _ => zn5_ si_ hA0, fun _ => zn6_ si_ hB0, fun _ => zn9_ si_ si_, fun _ => zob_ si_ hLA hLB, fun _ => zn7_ si_ hA0, fun _ => zn8_ si_ hB0, fun _ => zoa_ si_ si_, fun _ => zoc_ si_ hLA hLB, fun _ => zod_, fun _ => zoe_, fun h => by omega, fun h => by omega, trivial⟩
               · intro vs w14 hl hJ hg14
                 have hl0 : vs.length = 10 := hl
                 clear hl
                 obtain ⟨x0, r0, rfl, hl1⟩ := y0_ hl0
                 clear hl0
                 obtain ⟨x1, r1, rfl, hl2⟩ := y0_ hl1
                 clear hl1
                 obtain ⟨x2, r2, rfl, hl3⟩ := y0_ hl2
                 clear hl2
                 obtain ⟨x3, r3, rfl, hl4⟩ := y0_ hl3
                 clear hl3
                 obtain ⟨x4, r4, rfl, hl5⟩ := y0_ hl4
                 clear hl4
                 obtain ⟨x5, r5, rfl, hl6⟩ := y0_ hl5
                 clear hl5
                 obtain ⟨x6, r6, rfl, hl7⟩ := y0_ hl6
                 clear hl6
                 obtain ⟨x7, r7, rfl, hl8⟩ := y0_ hl7
                 clear hl7
                 obtain ⟨x8, r8, rfl, hl9⟩ := y0_ hl8
                 clear hl8
                 obtain ⟨x9, r9, rfl, hl10⟩ := y0_ hl9
                 clear hl9
                 obtain ⟨⟨ad5, c5, e3⟩, hl5⟩ := (hJ.1 3 x3 rfl).2.2.2.1 rfl
                 obtain ⟨⟨ad6, c6, e7⟩, hl6⟩ := (hJ.1 7 x7 rfl).2.2.2.2.1 rfl
                 obtain ⟨A5, e8, hA5, hz5⟩ := (hJ.1 8 x8 rfl).2.2.2.2.2 (.inl rfl)
                 obtain ⟨A6, e9, hA6, hz6⟩ := (hJ.1 9 x9 rfl).2.2.2.2.2 (.inr rfl)
                 subst e3 e7 e8 e9
                 have p1 := (hJ.2 3 8 _ _ rfl rfl).1 ⟨rfl, .inl rfl⟩ A5 rfl
                 have p2 := (hJ.2 3 9 _ _ rfl rfl).1 ⟨rfl, .inr rfl⟩ A6 rfl
                 have p3 := (hJ.2 7 8 _ _ rfl rfl).2.1 ⟨rfl, .inl rfl⟩ A5 rfl
                 have p4 := (hJ.2 7 9 _ _ rfl rfl).2.1 ⟨rfl, .inr rfl⟩ A6 rfl
                 have hne := (hJ.2 8 9 _ _ rfl rfl).2.2 ⟨rfl, rfl⟩
                 have hne2 : A6 ≠ A5 := fun e => hne (by rw [e])
                 have HP5 := Lib.hid (zfM_ _ _ p1 p2)
                 have HP6 := Lib.hid (zfM_ _ _ p3 p4)
                 have HZ5 := Lib.hid hz5
                 have HZ6 := Lib.hid hz6
                 have f5 := z2_ hz5
                 have g5 := z5_ hz5
                 have l5 := z0_ hz5
                 clear hJ p1 p2 p3 p4 hl5 hl6 hl10 hne hz5 hz6 hA0 hB0 hLA hLB
                 simp only [d13, v2_, List.setIfInBounds_toArray, List.set_cons_zero, List.set_cons_succ]
                 refine zhA_ (i := 10) (rest := [11]) rfl rfl (fun K hK => ?_)
                 have HK := Lib.hid hK
                 clear hK
                 go_simp
                 refine HK.out _ _ ?_
                 clear HK K f5 g5 l5
                 have HZ7 := Lib.hid (ziq_ (v0 := .int .u8 5) (v1 := .string (bs [])) (v2 := .int .i64 0) (v3 := .slice ad5 2 c5) hne2 HZ6.out)
                 have f6 := z2_ HZ7.out
                 have g6 := z5_ HZ7.out
                 have l6 := z0_ HZ7.out
                 refine zhA_ (i := 11) (rest := []) rfl rfl (fun K hK => ?_)
                 have HK := Lib.hid hK
                 clear hK
                 go_simp
                 refine HK.out _ _ ?_
                 clear HK K f6 g6 l6
                 rw [wpOps]
                 go_wp2_with fail
                 go_meet
                 have hst : GL [A5, A6] w14 ((((((((w14.setCell ⟨A5, 0, none⟩ (.int .u8 5)).setCell ⟨A5, 1, none⟩ (.string (bs []))).setCell ⟨A5, 2, none⟩ (.int .i64 0)).setCell ⟨A5, 3, none⟩ (.slice ad5 2 c5)).setCell ⟨A6, 0, none⟩ (.int .u8 6)).setCell ⟨A6, 1, none⟩ (.string (bs []))).setCell ⟨A6, 2, none⟩ (.int .i64 0)).setCell ⟨A6, 3, none⟩ (.slice ad6 2 c6)) := zex_ (.inl si_) (zex_ (.inl si_) (z1_ _ _))
                 refine ⟨A5, A6, ad5, ad6, c5, c6, rfl, rfl, ?_, ?_, ?_, ?_, ?_⟩
                 · exact ziq_ (fun e => hne2 e.symm) (blk4 HZ5.out)
                 · exact blk4 HZ7.out
                 · exact za5_ (p := fun b => b ≠ A5 ∧ b ≠ A6) (w := w14) ⟨hst.size, fun b hb hp => hst.block b hb so_⟩ (fun _ _ _ => trivial) _ _ HP5.out
                 · exact za5_ (p := fun b => b ≠ A5 ∧ b ≠ A6) (w := w14) ⟨hst.size, fun b hb hp => hst.block b hb so_⟩ (fun _ _ _ => trivial) _ _ HP6.out
                 · exact zex_ (.inr (by simpa using hA6)) (zex_ (.inr (by simpa using hA5)) (x1_ hg14 hgd0 si_))
              case rest =>
               obtain ⟨A5, A6, ad5, ad6, c5, c6, rfl, rfl, h5, h6, hl5, hl6, hgd⟩ := hcut
               have hgt : GL [] w13 wc := x1_ hgd hgx.out si_
               have HX15 := Lib.hid (z7_ hgd _ _ HX14.out)
               have HY15 := Lib.hid (z7_ hgd _ _ HY14.out)
               have HS15 := Lib.hid (y4_ HS13.out hgt)
               have HP15 := Lib.hid (y4_ HP13.out hgt)
               have HG15 := Lib.hid (x4_ HG13.out hgt si_)
               have HA15 := Lib.hid (y7_ HA14.out hgd si_)
               have HB15 := Lib.hid (y7_ HB14.out hgd si_)
               have HWB15 := Lib.hid (y7_ HWB13.out hgt si_)
               have hg15 : GL [] w wc := x1_ hgt hgw si_
               have H5 := Lib.hid h5
               have H6 := Lib.hid h6
               have HL5 := Lib.hid hl5
               have HL6 := Lib.hid hl6
               clear hgd hgt hgx h5 h6 hl5 hl6 v4 v5 v6 v7 v8 v9 HX14 HY14 HX13 HY13 HS13 HP13 HG13 HA14 HB14 HA13 HB13 HWB13 hgw hle13 hsz13 HF20 HMORE
               have hO5 := fun (W : World) (hgw : GL [] wc W) => zaV_ (zaC_ 5 (.mk ka ta na ksa) (.mk kb tb nb ksb)) _ _ _ _ sigs pres msg after age W (z7_ hgw _ _ HL5.out) (y4_ HS15.out hgw) (y4_ HP15.out hgw) hsn hpn HST.out HPT.out HRNA.out HRNG.out (x4_ HG15.out hgw si_)
               have hO6 := fun (W : World) (hgw : GL [] wc W) => zaV_ (zaC_ 6 (.mk ka ta na ksa) (.mk kb tb nb ksb)) _ _ _ _ sigs pres msg after age W (z7_ hgw _ _ HL6.out) (y4_ HS15.out hgw) (y4_ HP15.out hgw) hsn hpn HST.out HPT.out HRNA.out HRNG.out (x4_ HG15.out hgw si_)
               have hr5 := fun (W : World) (hgw : GL [] wc W) => zbf_ (zaC_ 5 (.mk ka ta na ksa) (.mk kb tb nb ksb)) _ _ W (z7_ hgw _ _ HL5.out) (x4_ HG15.out hgw si_)
               have hr6 := fun (W : World) (hgw : GL [] wc W) => zbf_ (zaC_ 6 (.mk ka ta na ksa) (.mk kb tb nb ksb)) _ _ W (z7_ hgw _ _ HL6.out) (x4_ HG15.out hgw si_)
               have hra := fun (W : World) (hgw : GL [] wc W) => zbf_ (.mk ka ta na ksa) _ _ W (z7_ hgw _ _ HX15.out) (x4_ HG15.out hgw si_)
               have hrb := fun (W : World) (hgw : GL [] wc W) => zbf_ (.mk kb tb nb ksb) _ _ W (z7_ hgw _ _ HY15.out) (x4_ HG15.out hgw si_)
               have hwk := fun (W : World) (hgw : GL [] wc W) => zak_ W (x4_ HG15.out hgw si_)
               have h5q := z2_ H5.out
               have h5f := z5_ H5.out
               have h5l := z0_ H5.out
               have h6q := z2_ H6.out
               have h6f := z5_ H6.out
               have h6l := z0_ H6.out
               have hgcc : GL [] wc wc := z1_ _ _
               have HW := Lib.hid hwk
               clear hwk
               rw [← zgU_] at hr6
               cases hr : w7_ (zaC_ 5 (.mk ka ta na ksa) (.mk kb tb nb ksb)) with
               | false =>
                 rw [hr] at hr5 hr6
                 have HR5 := Lib.hid hr5
                 have HR6 := Lib.hid hr6
                 clear hr hr5 hr6 hra hrb hO5 hO6 HBOTH
                 go_wp2_with fail
                 refine (HR5.out _ hgcc).mono ?_
                 rintro e w16 ⟨rfl, hb16⟩
                 have hg16 : GL [] wc w16 := z4_ hb16 (z1_ _ _)
                 clear hb16
                 have hud : ∀ b : Bool, ¬ (undef = Value.bool b) := fun b h => by cases h
                 have k5q := z2_ (y7_ H5.out hg16 si_)
                 have k6q := z2_ (y7_ H6.out hg16 si_)
                 clear h5q h5f h5l h6q h6f h6l
                 go_upto_region 16 with fail
                 first
                 | (go_region_with ((first
                     | (go_at_call 23; with_reducible refine (HR5.out _ gl_).mono ?_; rintro e wk ⟨rfl, hbk⟩; have hgk : GL [] wc wk := z4_ hbk gl_; clear hbk; have k5q := z2_ (y7_ H5.out hgk si_); have k6q := z2_ (y7_ H6.out hgk si_))
                     | (go_at_call 23; with_reducible refine (HR6.out _ gl_).mono ?_; rintro e wk ⟨rfl, hbk⟩; have hgk : GL [] wc wk := z4_ hbk gl_; clear hbk; have k5q := z2_ (y7_ H5.out hgk si_); have k6q := z2_ (y7_ H6.out hgk si_))
                     | (go_at_call 19; refine (HW.out _ gl_).mono ?_; rintro e wk ⟨rfl, hbk⟩; have hgk : GL [] wc wk := z4_ hbk gl_; clear hbk; have k5q := z2_ (y7_ H5.out hgk si_); have k6q := z2_ (y7_ H6.out hgk si_)))))
                 | fail
                 all_goals
                  go_wp2
                  go_ret
                  exact ⟨rfl, x0_ (x1_ hgk hg15 si_)⟩
               | true =>
                 obtain ⟨ho5, ho6⟩ := HBOTH.out hr
                 obtain ⟨rta, rtb⟩ := zgV_ (.inl rfl) hr
                 rw [hr] at hr5 hr6
                 rw [rta] at hra
                 rw [rtb] at hrb
                 rw [ho5] at hO5
                 rw [ho6] at hO6
                 clear HBOTH hr ho5 ho6 rta rtb
                 have HR5 := Lib.hid hr5
                 have HR6 := Lib.hid hr6
                 have HRA := Lib.hid hra
                 have HRB := Lib.hid hrb
                 cases zx <;> cases zy
                 all_goals
                  have HO5 := Lib.hid hO5
                  have HO6 := Lib.hid hO6
                  clear hr5 hr6 hra hrb hO5 hO6
                  go_wp2_with fail
                  refine (HR5.out _ hgcc).mono ?_
                  rintro e w16 ⟨rfl, hb16⟩
                  have hg16 : GL [] wc w16 := z4_ hb16 (z1_ _ _)
                  have k5q := z2_ (y7_ H5.out hg16 si_)
                  have k5f := z5_ (y7_ H5.out hg16 si_)
                  have k5l := z0_ (y7_ H5.out hg16 si_)
                  have kwq := z2_ (y7_ HWB15.out hg16 si_)
                  have kwf := z5_ (y7_ HWB15.out hg16 si_)
                  have kwl := z0_ (y7_ HWB15.out hg16 si_)
                  clear hb16 h5q h5f h5l h6q h6f h6l
                  go_wp2_with fail
                  refine (HO5.out _ hg16).mono ?_
                  rintro e w17 ⟨rfl, hb17⟩
                  have hg17 := z4_ hb17 hg16
                  have k6q := z2_ (y7_ H6.out hg17 si_)
                  have k6f := z5_ (y7_ H6.out hg17 si_)
                  have k6l := z0_ (y7_ H6.out hg17 si_)
                  have kwq := z2_ (y7_ HWB15.out hg17 si_)
                  have kwf := z5_ (y7_ HWB15.out hg17 si_)
                  have kwl := z0_ (y7_ HWB15.out hg17 si_)
                  clear hb17 k5q k5f k5l
                  go_wp2_with fail
                  refine (HO6.out _ hg17).mono ?_
                  rintro e w18 ⟨rfl, hb18⟩
                  have hg18 := z4_ hb18 hg17
                  clear hb18 k6q k6f k6l
                  have hud : ∀ b : Bool, ¬ (undef = Value.bool b) := fun b h => by cases h
                  have HMK : Hid (∀ w' : World, GL [] wc w' → w'.cell? ⟨A5, 0, none⟩ = some (.int .u8 5) ∧ w'.cell? ⟨A5, 1, none⟩ = some (.string (bs [])) ∧ w'.cell? ⟨A5, 2, none⟩ = some (.int .i64 0) ∧ w'.cell? ⟨A5, 3, none⟩ = some (.slice ad5 2 c5) ∧ w'.cell? ⟨A6, 0, none⟩ = some (.int .u8 6) ∧ w'.cell? ⟨A6, 1, none⟩ = some (.string (bs [])) ∧ w'.cell? ⟨A6, 2, none⟩ = some (.int .i64 0) ∧ w'.cell? ⟨A6, 3, none⟩ = some (.slice ad6 2 c6) ∧ w'.cell? ⟨A, 0, none⟩ = some (.int .u8 ka) ∧ w'.cell? ⟨A, 1, none⟩ = some (.string (bs ta)) ∧ w'.cell? ⟨A, 2, none⟩ = some (.int .i64 na) ∧ w'.cell? ⟨A, 3, none⟩ = some (.slice ada ksa.length ca) ∧ w'.cell? ⟨B, 0, none⟩ = some (.int .u8 kb) ∧ w'.cell? ⟨B, 1, none⟩ = some (.string (bs tb)) ∧ w'.cell? ⟨B, 2, none⟩ = some (.int .i64 nb) ∧ w'.cell? ⟨B, 3, none⟩ = some (.slice adb ksb.length cb) ∧ GL [] wc w') := by
                   show ∀ w' : World, GL [] wc w' → _
                   intro w' hw'
                   have z5 := z2_ (y7_ H5.out hw' si_)
                   have z6 := z2_ (y7_ H6.out hw' si_)
                   have za := z2_ (y7_ HA15.out hw' si_)
                   have zb := z2_ (y7_ HB15.out hw' si_)
                   exact ⟨z5 0, z5 1, z5 2, z5 3, z6 0, z6 1, z6 2, z6 3, za 0, za 1, za 2, za 3, zb 0, zb 1, zb 2, zb 3, hw'⟩
                  go_upto_region 16 with fail
                  first
                  | go_region_held3 (fun w' => w'.cell? ⟨A5, 0, none⟩ = some (.int .u8 5) ∧ w'.cell? ⟨A5, 1, none⟩ = some (.string (bs [])) ∧ w'.cell? ⟨A5, 2, none⟩ = some (.int .i64 0) ∧ w'.cell? ⟨A5, 3, none⟩ = some (.slice ad5 2 c5) ∧ w'.cell? ⟨A6, 0, none⟩ = some (.int .u8 6) ∧ w'.cell? ⟨A6, 1, none⟩ = some (.string (bs [])) ∧ w'.cell? ⟨A6, 2, none⟩ = some (.int .i64 0) ∧ w'.cell? ⟨A6, 3, none⟩ = some (.slice ad6 2 c6) ∧ w'.cell? ⟨A, 0, none⟩ = some (.int .u8 ka) ∧ w'.cell? ⟨A, 1, none⟩ = some (.string (bs ta)) ∧ w'.cell? ⟨A, 2, none⟩ = some (.int .i64 na) ∧ w'.cell? ⟨A, 3, none⟩ = some (.slice ada ksa.length ca) ∧ w'.cell? ⟨B, 0, none⟩ = some (.int .u8 kb) ∧ w'.cell? ⟨B, 1, none⟩ = some (.string (bs tb)) ∧ w'.cell? ⟨B, 2, none⟩ = some (.int .i64 nb) ∧ w'.cell? ⟨B, 3, none⟩ = some (.slice adb ksb.length cb) ∧ GL [] wc w')
                    (first
                      | (refine HMK.out _ ?_; exact gl_; done)
                      | (go_split_ands; refine HMK.out _ ?_; exact gl_; done))
                    ((first
                      | (go_at_call 23; go_split_ands; with_reducible refine (HR5.out _ as_).mono ?_; rintro e wk ⟨rfl, hbk⟩)
                      | (go_at_call 23; go_split_ands; with_reducible refine (HR6.out _ as_).mono ?_; rintro e wk ⟨rfl, hbk⟩)
                      | (go_at_call 23; go_split_ands; with_reducible refine (HRA.out _ as_).mono ?_; rintro e wk ⟨rfl, hbk⟩)
                      | (go_at_call 23; go_split_ands; with_reducible refine (HRB.out _ as_).mono ?_; rintro e wk ⟨rfl, hbk⟩)
                      | (go_at_call 19; go_split_ands; refine (HW.out _ as_).mono ?_; rintro e wk ⟨rfl, hbk⟩)))
                  | fail
                  go_wp2
                  go_ret
                  exact ⟨rfl, x0_ (x1_ (z4_ hbk as_) hg15 si_)⟩
           · skip
             have fh6 : decide (1099511627776 < age) = true := by simp; omega
             go_wp2_with fail
             go_ret
             exact ⟨rfl, x0_ hg4⟩
         · skip
           have fh5 : decide (1099511627776 < after) = true := by simp; omega
           go_wp2_with fail
           go_ret
           exact ⟨rfl, x0_ hg4⟩
       · skip
         have fh4 : decide (1000 < (more.length : Int)) = true := by simp; omega
         go_wp2_with fail
         go_ret
         exact ⟨rfl, x0_ hg4⟩
   · skip
     have fh2 : decide (100 < z2) = true := by simp; omega
     go_wp2_with fail
     go_ret
     exact ⟨rfl, x0_ hg3⟩
 · skip
   have fh1 : decide (100 < z1) = true := by simp; omega
   go_wp2_with fail
   go_ret
   exact ⟨rfl, x0_ hg2⟩
section
variable {P : Program} {ops : Array Oper} {Q : Exit → Act → World → Prop} {a0 : Act} {w0 : World} {ds : List (Option Nat)}
def x9_ (P : Program) (ops : Array Oper) (Q : Exit → Act → World → Prop) (a0 : Act) (ds : List (Option Nat)) (I : World → Prop) (gs : List (Value → World → Prop)) (i : Nat) (o : Oper) : Prop :=
 ∀ (a : Act) (w : World), (∀ t, some t ∉ ds → a.tmps[t]? = a0.tmps[t]?) → I w →
  (∀ e ∈ o.after.toList, Region.binds .any e = true → ∃ v, (∀ p, gs[e.on]? = some p → p v w) ∧ ∀ d, ds[e.on]? = some (some d) → a.tmps[d]? = some v) →
  ∀ K : Act → World → Prop, (∀ v w', GL [] w w' → (∀ p, gs[i]? = some p → p v w') → K (a.put o.dst v) w') →
   if Region.wanted o (yielded ops a.tmps) = true then o.wp P a w K Q else K (a.put o.dst undef) w
def zfU_ (P : Program) (ops : Array Oper) (Q : Exit → Act → World → Prop) (a0 : Act) (ds : List (Option Nat)) (I : World → Prop) (gs : List (Value → World → Prop)) : Nat → List Oper → Prop
 | _, [] => True
 | i, o :: r => x9_ P ops Q a0 ds I gs i o ∧ zfU_ P ops Q a0 ds I gs (i + 1) r
theorem zir_ {I : World → Prop} {gs : List (Value → World → Prop)} : ∀ (l : List Oper) (k j : Nat) (o : Oper), zfU_ P ops Q a0 ds I gs k l → l[j]? = some o → x9_ P ops Q a0 ds I gs (k + j) o
 | [], _, _, _, _, h => by simp at h
 | x :: r, k, 0, o, hs, h => by
   simp only [List.getElem?_cons_zero, Option.some.injEq] at h
   subst h
   exact hs.1
 | x :: r, k, j + 1, o, hs, h => by
   have := zir_ r (k + 1) j o hs.2 (by simpa using h)
   rwa [Nat.add_assoc, Nat.add_comm 1 j] at this
theorem zey_ {I : World → Prop} {gs : List (Value → World → Prop)} {id : Nat} {l : List Oper} (hm : P.follows .mixedOrders = true) (hds : ds = l.map (·.dst)) (hD : Distinct ds) (hsz : ∀ d, some d ∈ ds → d < a0.tmps.size) (hdep : depB 0 l = true)
  (hmono : ∀ p ∈ gs, ∀ v w w', p v w → GL [] w w' → p v w') (hI : ∀ w w', I w → GL [] w w' → I w')
  (h0 : I w0.drew) (hsteps : zfU_ P l.toArray Q a0 ds I gs 0 l)
  (hend : ∀ (vs : List Value) w', vs.length = ds.length → (∀ (i : Nat) (v : Value) (p : Value → World → Prop), vs[i]? = some v → gs[i]? = some p → p v w') → I w' → Q .normal { a0 with tmps := v2_ a0.tmps ds vs } w') : (Code.region id l.toArray true).wp P Q a0 w0 := by
 refine zlx_ (J := fun m W => I W ∧ ∀ j v, m j = some v → ∀ p, gs[j]? = some p → p v W) (ds := ds) l.toArray.size 0 (Nat.le_refl _) hm ?_ hD hsz (fun i o h => zfj_ hdep i o h) ?_ ⟨h0, fun j v h => by cases h⟩ ?_ ?_
 · rw [hds]; simp
 · unfold zdd_
   rw [List.all_eq_true]
   intro i hi
   rw [List.mem_range] at hi
   rw [decide_eq_true hi]
   rfl
 · intro i o hi ho a w m _ hout hJ hmi hdp hval K hK
   have hs := zir_ l 0 i o hsteps (by simpa using ho)
   rw [Nat.zero_add] at hs
   refine hs a w hout hJ.1 (fun e he hb => ?_) K (fun v w' hgl hG => hK v w' ⟨hI _ _ hJ.1 hgl, fun j u hj p hp => ?_⟩ trivial)
   · obtain ⟨v, hv⟩ := hdp e he hb
     exact ⟨v, hJ.2 _ _ hv, fun d hd => hval _ _ _ hv hd⟩
   · unfold updV at hj
     split at hj
     · rename_i e; injection hj with hj; rw [← hj]; rw [e] at hp; exact hG p hp
     · exact hmono p (List.mem_of_getElem? hp) _ _ _ (hJ.2 _ _ hj p hp) hgl
 · intro vs w' hl hJ _
   rw [Nat.sub_self]
   exact hend vs w' hl (fun i v p h1 h2 => hJ.2 i v h1 p h2) hJ.1
end
theorem w9_ {gs : List (Value → World → Prop)} {i : Nat} {v : Value} {w : World} {q : Value → World → Prop} (h : gs[i]? = some q) (e : q v w) : ∀ p, gs[i]? = some p → p v w := fun p hp => by rw [h] at hp; injection hp with hp; rw [← hp]; exact e
theorem q0_ {ops : Array Oper} {tmps : Array Value} {j d : Nat} {b : Bool} (h : ops[j]?.bind (·.dst) = some d) (e : tmps[d]? = some (.bool b)) : yielded ops tmps j = some b := by
 unfold yielded
 rw [h]
 simp [e]
section
variable {ops : Array Oper} {Q : Exit → Act → World → Prop} {a0 : Act} {ds : List (Option Nat)} {I : World → Prop} {gs : List (Value → World → Prop)} {af : Array Edge} {ty : Nat} {pos : String} {at_ : Array TypeId} {g : Option (Nat × Bool)} {d i : Nat}
def GdOk (ops : Array Oper) (ds : List (Option Nat)) (gs : List (Value → World → Prop)) (af : Array Edge) : Option (Nat × Bool) → Prop
 | none => True
 | some (j, b) => (⟨j, .guard⟩ : Edge) ∈ af.toList ∧ ∃ k, ds[j]? = some (some k) ∧ ops[j]?.bind (·.dst) = some k ∧ gs[j]? = some (fun v _ => v = .bool b)
theorem zab_ : GdOk ops ds gs af none := trivial
theorem v5_ {j k : Nat} {b : Bool} (h1 : (⟨j, .guard⟩ : Edge) ∈ af.toList) (h2 : ds[j]? = some (some k)) (h3 : ops[j]?.bind (·.dst) = some k) (h4 : gs[j]? = some (fun v _ => v = .bool b)) : GdOk ops ds gs af (some (j, b)) := ⟨h1, k, h2, h3, h4⟩
def DpOk (ds : List (Option Nat)) (gs : List (Value → World → Prop)) (af : Array Edge) (q : Nat) (V : Value) : Prop := ∃ j, (⟨j, .data⟩ : Edge) ∈ af.toList ∧ ds[j]? = some (some q) ∧ gs[j]? = some (fun v _ => v = V)
theorem dp {j q : Nat} {V : Value} (h1 : (⟨j, .data⟩ : Edge) ∈ af.toList) (h2 : ds[j]? = some (some q)) (h3 : gs[j]? = some (fun v _ => v = V)) : DpOk ds gs af q V := ⟨j, h1, h2, h3⟩
theorem zdn_ {o : Oper} {p : Value → World → Prop} (hgi : gs[i]? = some p) (hg : GdOk ops ds gs o.after o.guard)
  (h : ∀ a w, (∀ t, some t ∉ ds → a.tmps[t]? = a0.tmps[t]?) → I w → (∀ q V, DpOk ds gs o.after q V → a.tmps[q]? = some V) → (∀ e ∈ o.after.toList, Region.binds .any e = true → ∃ v, (∀ p, gs[e.on]? = some p → p v w) ∧ ∀ d, ds[e.on]? = some (some d) → a.tmps[d]? = some v) → ∀ K : Act → World → Prop, (∀ v w', GL [] w w' → p v w' → K (a.put o.dst v) w') → o.wp Tryz.prog a w K Q) : x9_ Tryz.prog ops Q a0 ds I gs i o := by
 intro a w hout hI hdep K hK
 have hw : Region.wanted o (yielded ops a.tmps) = true := by
  unfold Region.wanted
  cases hgo : o.guard with
  | none => rfl
  | some jb =>
    obtain ⟨j, b⟩ := jb
    rw [hgo] at hg
    obtain ⟨h1, k, h2, h3, h4⟩ := hg
    obtain ⟨v, hv, he⟩ := hdep _ h1 rfl
    have hv2 : v = .bool b := hv _ h4
    subst hv2
    simp [q0_ h3 (he k h2)]
 rw [if_pos hw]
 refine h a w hout hI (fun q V hq => ?_) hdep K (fun v w' h1 h2 => hK v w' h1 (w9_ hgi h2))
 obtain ⟨j, h1, h2, h3⟩ := hq
 obtain ⟨v, hv, he⟩ := hdep _ h1 rfl
 have hv2 : v = V := hv _ h3
 subst hv2
 exact he q h2
theorem k2_ {s : Nat} {V : Value} (hgi : gs[i]? = some (fun v _ => v = V)) (hs : a0.tmps[s]? = some V) (hn : some s ∉ ds) (hg : GdOk ops ds gs af g) :
  x9_ Tryz.prog ops Q a0 ds I gs i { dst := some d, op := .move (.tmp s), type := ty, pos := pos, after := af, guard := g } := by
 refine zdn_ hgi hg ?_
 intro a w hout hI hq _ K hK
 have h1 := (hout s hn).trans hs
 clear hout hq hI
 go_simp
 exact hK _ _ (z1_ _ _) rs_
theorem oMvD {s : Nat} {V : Value} (hgi : gs[i]? = some (fun v _ => v = V)) (hs : DpOk ds gs af s V) (hg : GdOk ops ds gs af g) :
  x9_ Tryz.prog ops Q a0 ds I gs i { dst := some d, op := .move (.tmp s), type := ty, pos := pos, after := af, guard := g } := by
 refine zdn_ hgi hg ?_
 intro a w hout hI hq _ K hK
 have h1 := hq s V hs
 clear hout hq hI
 go_simp
 exact hK _ _ (z1_ _ _) rs_
theorem oNot {s : Nat} {b : Bool} (hgi : gs[i]? = some (fun v _ => v = .bool (!b))) (hs : DpOk ds gs af s (.bool b)) (hg : GdOk ops ds gs af g) :
  x9_ Tryz.prog ops Q a0 ds I gs i { dst := some d, op := .unOp .not 4 (.tmp s), type := ty, pos := pos, after := af, guard := g } := by
 refine zdn_ hgi hg ?_
 intro a w hout hI hq _ K hK
 have h1 := hq s _ hs
 clear hout hq hI
 go_simp
 exact hK _ _ (z1_ _ _) rs_
theorem zcW_ {s t : Nat} (hgi : gs[i]? = some (fun v _ => v = .bool false)) (hs : DpOk ds gs af s (.bool false)) (ht : DpOk ds gs af t (.bool false)) :
  x9_ Tryz.prog ops Q a0 ds I gs i { dst := some d, op := .pick (.tmp s) (.const (.bool true)) (.tmp t), type := ty, pos := pos, after := af, guard := none } := by
 refine zdn_ hgi trivial ?_
 intro a w hout hI hq _ K hK
 have h1 := hq s _ hs
 have h2 := hq t _ ht
 clear hout hq hI
 go_simp
 exact hK _ _ (z1_ _ _) rs_
theorem zdM_ {s t : Nat} (hgi : gs[i]? = some (fun v _ => v = .bool true)) (hs : DpOk ds gs af s (.bool true)) (ht : DpOk ds gs af t (.bool true)) :
  x9_ Tryz.prog ops Q a0 ds I gs i { dst := some d, op := .pick (.tmp s) (.tmp t) (.const (.bool false)), type := ty, pos := pos, after := af, guard := none } := by
 refine zdn_ hgi trivial ?_
 intro a w hout hI hq _ K hK
 have h1 := hq s _ hs
 have h2 := hq t _ ht
 clear hout hq hI
 go_simp
 exact hK _ _ (z1_ _ _) rs_
def zcu_ (ds : List (Option Nat)) (gs : List (Value → World → Prop)) (af : Array Edge) : List Operand → List Value → Prop
 | [], [] => True
 | .tmp q :: r, V :: vs => DpOk ds gs af q V ∧ zcu_ ds gs af r vs
 | .const c :: r, V :: vs => c = V ∧ zcu_ ds gs af r vs
 | _, _ => False
theorem zfV_ {a : Act} (hq : ∀ q V, DpOk ds gs af q V → a.tmps[q]? = some V) : ∀ (l : List Operand) (vs : List Value), zcu_ ds gs af l vs → l.map a.eval = vs
 | [], [], _ => rfl
 | .tmp q :: r, V :: vs, h => by
   obtain ⟨h1, h2⟩ := h
   have := hq q V h1
   rw [List.map_cons, zfV_ hq r vs h2]
   congr 1
   simp [go_sem, this]
 | .const c :: r, V :: vs, h => by
   obtain ⟨h1, h2⟩ := h
   rw [List.map_cons, zfV_ hq r vs h2, ← h1]
   rfl
 | [], _ :: _, h => by cases h
 | .tmp _ :: _, [], h => by cases h
 | .const _ :: _, [], h => by cases h
 | .global _ :: _, _, h => by cases h
 | .func _ :: _, _, h => by cases h
theorem aN : zcu_ ds gs af [] [] := trivial
theorem aT {q : Nat} {V : Value} {r : List Operand} {vs : List Value} (h : DpOk ds gs af q V) (h2 : zcu_ ds gs af r vs) : zcu_ ds gs af (.tmp q :: r) (V :: vs) := ⟨h, h2⟩
theorem aC {c V : Value} {r : List Operand} {vs : List Value} (h : c = V) (h2 : zcu_ ds gs af r vs) : zcu_ ds gs af (.const c :: r) (V :: vs) := ⟨h, h2⟩
theorem zaX_ {f : Nat} {args : List Operand} {vs : List Value} {V : Value} (hgi : gs[i]? = some (fun v _ => v = V)) (hg : GdOk ops ds gs af g)
  (ha : zcu_ ds gs af args vs) (hE : ∀ w, (callFunc f vs.toArray).run Tryz.prog w = .ok (.enter f vs.toArray) w)
  (hC : ∀ w, I w → Calls Tryz.prog f vs.toArray w fun e w' => e = .returned V ∧ Below w.heap.size w w') :
  x9_ Tryz.prog ops Q a0 ds I gs i { dst := some d, op := .call { callee := .value (.func f), args := args.toArray, argTypes := at_ }, type := ty, pos := pos, after := af, guard := g } := by
 refine zdn_ hgi hg ?_
 intro a w hout hI hq _ K hK
 have h1 := zfV_ (a := a) hq args vs ha
 have h2 := hC w hI
 have h3 := hE w
 clear hout hq hI ha hC hE
 have h4 : args.toArray.map a.eval = vs.toArray := by rw [← h1]; simp
 go_simp
 refine h2.mono ?_
 rintro e w1 ⟨rfl, hb⟩
 exact hK _ _ (z4_ hb (z1_ _ _)) rfl
end
end Go.Proofs.YtiplnofaejpeoaaGreatDoor
