/- The program's bech: the head of a check. -/
import Derived.Test.YtembdkodajichaaGreatDoorDigE
import Derived.Test.YtembdkodajichaaGreatDoorDigP
import Derived.Deep.AppendLies
import Derived.Maps.AppendAt
set_option maxRecDepth 100000
set_option maxHeartbeats 4000000
set_option linter.unusedSimpArgs false
set_option linter.unusedVariables false
namespace Go.Proofs.YtembdkodajichaaGreatDoor
open Go.RowKit
theorem zey_ (a b : Nat) (ha : a < 4294967296) (hb : b < 4294967296) : bits .xor .u32 (a : Int) (b : Int) = ((a ^^^ b : Nat) : Int) := by
 show IntKind.u32.wrap (((BitVec.ofInt 32 (a : Int) ^^^ BitVec.ofInt 32 (b : Int)).toNat : Nat) : Int) = _
 have h := Nat.xor_lt_two_pow (n := 32) ha hb
 rw [BitVec.toNat_xor, BitVec.ofInt_natCast, BitVec.ofInt_natCast, BitVec.toNat_ofNat, BitVec.toNat_ofNat, Nat.mod_eq_of_lt ha, Nat.mod_eq_of_lt hb, zcc_]
 omega
theorem znN_ (a : Nat) (ha : a < 4294967296) : bits .and .u32 (a : Int) 33554431 = ((a % 2 ^ 25 : Nat) : Int) := by
 show IntKind.u32.wrap (((BitVec.ofInt 32 (a : Int) &&& BitVec.ofInt 32 33554431).toNat : Nat) : Int) = _
 have h2 : (BitVec.ofInt 32 33554431).toNat = 2 ^ 25 - 1 := by decide
 rw [BitVec.toNat_and, h2, BitVec.ofInt_natCast, BitVec.toNat_ofNat, Nat.mod_eq_of_lt ha, Nat.and_two_pow_sub_one_eq_mod, zcc_]
 omega
theorem ziT_ (q x : Nat) (hq : q < 2 ^ 30) (hx : x < 2 ^ 8) : bits .xor .u32 (bits .and .u32 (q : Int) 33554431 * 32 % 4294967296) (x : Int) = ((((q % 2 ^ 25) * 32) ^^^ x : Nat) : Int) := by
 rw [znN_ q om_, show (((q % 2 ^ 25 : Nat) : Int) * 32 % 4294967296) = (((q % 2 ^ 25) * 32 : Nat) : Int) by omega, zey_ _ _ om_ om_]
theorem ziU_ (a : Nat) (ha : a < 4294967296) : bits .and .u32 (a : Int) 1 = ((a % 2 : Nat) : Int) := by
 show IntKind.u32.wrap (((BitVec.ofInt 32 (a : Int) &&& BitVec.ofInt 32 1).toNat : Nat) : Int) = _
 have h2 : (BitVec.ofInt 32 1).toNat = 2 ^ 1 - 1 := by decide
 rw [BitVec.toNat_and, h2, BitVec.ofInt_natCast, BitVec.toNat_ofNat, Nat.mod_eq_of_lt ha, Nat.and_two_pow_sub_one_eq_mod, zcc_]
 omega
theorem zez_ (P K v : Nat) (KI vI : Int) (hKI : KI = (K : Int)) (hvI : vI = (v : Int)) (hP : P < 2 ^ 30) (hK : K < 2 ^ 30) (hv : v < 32) : bits .xor .u32 (P : Int) (KI * bits .and .u32 vI 1 % 4294967296) = ((P ^^^ (if v % 2 = 1 then K else 0) : Nat) : Int) := by
 rw [hKI, hvI, ziU_ v om_]
 split
 · rename_i h
   rw [h, show ((K : Int) * ((1 : Nat) : Int) % 4294967296) = (K : Int) by omega, zey_ _ _ om_ om_]
 · rename_i h
   rw [show v % 2 = 0 by omega, show ((K : Int) * ((0 : Nat) : Int) % 4294967296) = ((0 : Nat) : Int) by omega, zey_ _ _ om_ om_]
theorem Tryz.sizeSm : (Tryz.prog.info? 122).map (·.size) = some 1 := by kernel_rfl
theorem zeA_ (w : World) (cs : Array Value) (i : Nat) (x : Value) (hi : i < 5) (hx : cs[i]? = some x) : (Instr.index 170 (.agg cs) (.int .i64 (i : Int))).run Tryz.prog w = .ok x w := by
 have h2 : (0 : Int) ≤ (i : Int) ∧ (i : Int) < 5 := by omega
 obtain ⟨j, hj, hjs⟩ := Option.map_eq_some_iff.1 Tryz.sizeSm
 simp [Instr.index, run_underlying Tryz.underlying170, asIntOf, sizeOf, typeInfo, hj, hjs, part, h2]
 rw [if_pos hi, hx]
 rfl
def zax_ (i t s : Nat) : Nat := zbw_ (turnK.take i) t s
theorem ziV_ (t s : Nat) : zax_ 5 t s = zbw_ turnK t s := rfl
theorem zgG_ : ∀ (i t s : Nat), i < 5 → zax_ (i + 1) t s = zax_ i t s ^^^ (if t / 2 ^ i % 2 = 1 then turnK.getD i 0 else 0) := by
 intro i t s hi
 rcases (by omega : i = 0 ∨ i = 1 ∨ i = 2 ∨ i = 3 ∨ i = 4) with rfl | rfl | rfl | rfl | rfl
 · simp [zax_, turnK, zbw_]
 · simp [zax_, turnK, zbw_]
 · simp [zax_, turnK, zbw_, Nat.div_div_eq_div_mul]
 · simp [zax_, turnK, zbw_, Nat.div_div_eq_div_mul]
 · simp [zax_, turnK, zbw_, Nat.div_div_eq_div_mul]
theorem ziW_ (i t s : Nat) (hi : i ≤ 5) (hs : s < 2 ^ 30) : zax_ i t s < 2 ^ 30 := by
 induction i with
 | zero => exact hs
 | succ i ih =>
   rw [zgG_ i t s om_]
   refine Nat.xor_lt_two_pow (ih om_) ?_
   split
   · rcases (by omega : i = 0 ∨ i = 1 ∨ i = 2 ∨ i = 3 ∨ i = 4) with rfl | rfl | rfl | rfl | rfl <;> decide
   · omega
theorem bAdd (B s : Nat) (l : List UInt8) (bv : Value) (w : World) (hB : w.heap[B]? = some (.cells #[.int .u32 (s : Int)] 122 (0, 0))) (hs : s < 2 ^ 30) (hll : l.length ≤ 1000000000) (hin : x8_ bv l w) (hne : ∀ G o c, bv = .slice (some ⟨G, o, none⟩) l.length c → l ≠ [] → G ≠ B) :
  Calls Tryz.prog 84 #[.pointer (some ⟨B, 0, none⟩), bv] w fun e w' => e = .returned (.tuple #[]) ∧ w'.heap[B]? = some (.cells #[.int .u32 (poly s l : Nat)] 122 (0, 0)) ∧ GL [B] w w' := by
 obtain ⟨ad, cc, rfl, hby⟩ : ∃ ad cc, bv = .slice ad l.length cc ∧ (l ≠ [] → ∃ G o, ad = some ⟨G, o, none⟩ ∧ G ≠ B ∧ zbs_ G o l w) := by
  obtain ⟨G, o, c, h1, h2, h3⟩ := hin
  rcases h1 with ⟨h1, ad, cc, h⟩ | ⟨h1, h⟩
  · refine ⟨ad, cc, by rw [h, ← h1], fun h => ?_⟩
    exact absurd (List.eq_nil_of_length_eq_zero h1.symm) h
  · refine ⟨some ⟨G, o, none⟩, c, by simpa using h, fun hl => ⟨G, o, rfl, hne G o c (by simpa using h) hl, h3 hl⟩⟩
 have HBY := Lib.hid hby
 have HB := Lib.hid hB
 have hBl := z4_ hB
 clear hB hin hne hby
 go_enter Tryz.func84, Tryz.ntmps84
 go_wp2_with fail
 have HA1 : Hid ((w.alloc (.cells #[.int .u32 996825010, .int .u32 642813549, .int .u32 513874426, .int .u32 1027748829, .int .u32 705979059] 170)).heap[w.heap.size]? = some (.cells #[.int .u32 996825010, .int .u32 642813549, .int .u32 513874426, .int .u32 1027748829, .int .u32 705979059] 170 (0, 0))) := Lib.hid (y8_ w _)
 have HB1 := Lib.hid (x3_ HB.out (.cells #[.int .u32 996825010, .int .u32 642813549, .int .u32 513874426, .int .u32 1027748829, .int .u32 705979059] 170))
 have hg1 : GL [B] w (w.alloc (.cells #[.int .u32 996825010, .int .u32 642813549, .int .u32 513874426, .int .u32 1027748829, .int .u32 705979059] 170)) := y2_ (y1_ _ _) _
 have hHs : w.heap.size < (w.alloc (.cells #[.int .u32 996825010, .int .u32 642813549, .int .u32 513874426, .int .u32 1027748829, .int .u32 705979059] 170)).heap.size := by simp
 generalize w.alloc (.cells #[.int .u32 996825010, .int .u32 642813549, .int .u32 513874426, .int .u32 1027748829, .int .u32 705979059] 170) = w1 at *
 go_loopw [6, 7, 8, 9, 13] (fun _ _ _ _ iv wr => ∃ j : Nat, j ≤ l.length ∧ iv = .int .i64 j ∧ Hid (GL [B] w1 wr) ∧ Hid (wr.heap[B]? = some (.cells #[.int .u32 (poly s (l.take j) : Nat)] 122 (0, 0)))) (fun _ _ _ _ iv _ => l.length - (intOf iv).toNat)
 case atStart => exact ⟨0, by omega, rfl, Lib.hid (y1_ _ _), HB1⟩
 case round =>
  obtain ⟨j, hj, rfl, hgr, hbr⟩ := hrel
  by_cases hlt : j < l.length
  · obtain ⟨G, o, rfl, hGB, hbw⟩ := HBY.out (fun e => by subst e; simp at hlt)
    have cj := (zbf_ (zbf_ hbw hg1 so_) hgr.out so_).2 j hlt
    have hp : poly s (l.take j) < 2 ^ 30 := zcP_ s _ hs
    have htk : poly s (l.take (j + 1)) = zcM_ (poly s (l.take j)) (l.getD j 0).toNat := by
     rw [List.take_add_one, List.getElem?_eq_getElem hlt, Option.toList_some, zcN_, poly, poly, List.getD_eq_getElem?_getD, List.getElem?_eq_getElem hlt]
     rfl
    have HTK := Lib.hid htk
    have hwb := (l.getD j 0).toNat_lt
    generalize hq : poly s (l.take j) = q at *
    generalize (l.getD j 0).toNat = x at *
    have HBr := Lib.hid hbr.out
    have HAr := Lib.hid (x6_ HA1.out hgr.out so_)
    have fB := z0_ HBr.out
    have eB := z8_ HBr.out
    have lB := z4_ HBr.out
    have fA := z0_ HAr.out
    have eA := z8_ HAr.out
    have hsh : ((q : Int) % 33554432 * 32 : Int) = (((q % 2 ^ 25) * 32 : Nat) : Int) := by omega
    have hj1 : (j : Int) < l.length := by omega
    clear hbr htk hbw
    go_wp2
    rw [ziT_ q x hp hwb]
    have hs0 : ((q % 2 ^ 25) * 32) ^^^ x < 2 ^ 30 := Nat.xor_lt_two_pow om_ om_
    have HP1 : Hid (poly s (l.take (j + 1)) = zax_ 5 (q / 2 ^ 25) (((q % 2 ^ 25) * 32) ^^^ x)) := by
     show _ = _
     rw [HTK.out, ziV_]
     rfl
    have HBs : Hid ((wr.setCell ⟨B, 0, none⟩ (.int .u32 ((((q % 2 ^ 25) * 32) ^^^ x : Nat) : Int))).heap[B]? = some (.cells #[.int .u32 (zax_ 0 (q / 2 ^ 25) (((q % 2 ^ 25) * 32) ^^^ x) : Nat)] 122 (0, 0))) := Lib.hid (z3_ HBr.out 0 _)
    have HGs : Hid (GL [B] w1 (wr.setCell ⟨B, 0, none⟩ (.int .u32 ((((q % 2 ^ 25) * 32) ^^^ x : Nat) : Int)))) := Lib.hid (z2_ hgr.out (.inl si_) _)
    clear fB eB lB fA eA HBr HAr hgr cj hsh
    generalize ((q % 2 ^ 25) * 32) ^^^ x = s0 at *
    generalize wr.setCell ⟨B, 0, none⟩ (.int .u32 (s0 : Int)) = wo at *
    have ht : (q : Int) / 33554432 = ((q / 2 ^ 25 : Nat) : Int) := by omega
    generalize hqt : q / 2 ^ 25 = t at *
    have ht32 : t < 32 := by omega
    go_loopw [8, 9, 32] (fun _ _ iv wr => ∃ i : Nat, i ≤ 5 ∧ iv = .int .i64 i ∧ Hid (GL [B] wo wr) ∧ Hid (wr.heap[B]? = some (.cells #[.int .u32 (zax_ i t s0 : Nat)] 122 (0, 0)))) (fun _ _ iv _ => 5 - (intOf iv).toNat)
    case atStart => exact ⟨0, by omega, rfl, Lib.hid (y1_ _ _), HBs⟩
    case round =>
     obtain ⟨i, hi, rfl, hgr, hbr⟩ := hrel
     by_cases hlt2 : i < 5
     · have HBr := Lib.hid hbr.out
       have fB := z0_ HBr.out
       have eB := z8_ HBr.out
       have lB := z4_ HBr.out
       have HST := Lib.hid (zgG_ i t s0 hlt2)
       have hpl := ziW_ i t s0 hi hs0
       clear hbr
       rcases (by omega : i = 0 ∨ i = 1 ∨ i = 2 ∨ i = 3 ∨ i = 4) with rfl | rfl | rfl | rfl | rfl
       · have hix : (Instr.index 170 (.agg #[.int .u32 996825010, .int .u32 642813549, .int .u32 513874426, .int .u32 1027748829, .int .u32 705979059]) (.int .i64 0)).run Tryz.prog wr = .ok (.int .u32 996825010) wr := zeA_ wr _ 0 _ om_ rfl
         have hX : bits .xor .u32 (zax_ 0 t s0 : Nat) (996825010 * bits .and .u32 (t : Int) 1 % 4294967296) = ((zax_ 1 t s0 : Nat) : Int) := by
          rw [HST.out]
          exact zez_ _ (turnK.getD 0 0) (t / 2 ^ 0) _ _ (by simp [turnK]) om_ hpl de_ om_
         go_wp2
         go_region
         go_wp2
         go_roundw
         case rel => exact ⟨1, by omega, by go_num, Lib.hid (x9_ (z2_ hgr.out (.inl si_) _)), Lib.hid (w1_ (z3_ HBr.out 0 _))⟩
         case measure => first | (simp [intOf]; done) | (simp [intOf]; omega)
       · have hix : (Instr.index 170 (.agg #[.int .u32 996825010, .int .u32 642813549, .int .u32 513874426, .int .u32 1027748829, .int .u32 705979059]) (.int .i64 1)).run Tryz.prog wr = .ok (.int .u32 642813549) wr := zeA_ wr _ 1 _ om_ rfl
         have hX : bits .xor .u32 (zax_ 1 t s0 : Nat) (642813549 * bits .and .u32 ((t : Int) / 2) 1 % 4294967296) = ((zax_ 2 t s0 : Nat) : Int) := by
          rw [HST.out]
          exact zez_ _ (turnK.getD 1 0) (t / 2 ^ 1) _ _ (by simp [turnK]) om_ hpl de_ om_
         go_wp2
         go_region
         go_wp2
         go_roundw
         case rel => exact ⟨2, by omega, by go_num, Lib.hid (x9_ (z2_ hgr.out (.inl si_) _)), Lib.hid (w1_ (z3_ HBr.out 0 _))⟩
         case measure => first | (simp [intOf]; done) | (simp [intOf]; omega)
       · have hix : (Instr.index 170 (.agg #[.int .u32 996825010, .int .u32 642813549, .int .u32 513874426, .int .u32 1027748829, .int .u32 705979059]) (.int .i64 2)).run Tryz.prog wr = .ok (.int .u32 513874426) wr := zeA_ wr _ 2 _ om_ rfl
         have hX : bits .xor .u32 (zax_ 2 t s0 : Nat) (513874426 * bits .and .u32 ((t : Int) / 4) 1 % 4294967296) = ((zax_ 3 t s0 : Nat) : Int) := by
          rw [HST.out]
          exact zez_ _ (turnK.getD 2 0) (t / 2 ^ 2) _ _ (by simp [turnK]) om_ hpl de_ om_
         go_wp2
         go_region
         go_wp2
         go_roundw
         case rel => exact ⟨3, by omega, by go_num, Lib.hid (x9_ (z2_ hgr.out (.inl si_) _)), Lib.hid (w1_ (z3_ HBr.out 0 _))⟩
         case measure => first | (simp [intOf]; done) | (simp [intOf]; omega)
       · have hix : (Instr.index 170 (.agg #[.int .u32 996825010, .int .u32 642813549, .int .u32 513874426, .int .u32 1027748829, .int .u32 705979059]) (.int .i64 3)).run Tryz.prog wr = .ok (.int .u32 1027748829) wr := zeA_ wr _ 3 _ om_ rfl
         have hX : bits .xor .u32 (zax_ 3 t s0 : Nat) (1027748829 * bits .and .u32 ((t : Int) / 8) 1 % 4294967296) = ((zax_ 4 t s0 : Nat) : Int) := by
          rw [HST.out]
          exact zez_ _ (turnK.getD 3 0) (t / 2 ^ 3) _ _ (by simp [turnK]) om_ hpl de_ om_
         go_wp2
         go_region
         go_wp2
         go_roundw
         case rel => exact ⟨4, by omega, by go_num, Lib.hid (x9_ (z2_ hgr.out (.inl si_) _)), Lib.hid (w1_ (z3_ HBr.out 0 _))⟩
         case measure => first | (simp [intOf]; done) | (simp [intOf]; omega)
       · have hix : (Instr.index 170 (.agg #[.int .u32 996825010, .int .u32 642813549, .int .u32 513874426, .int .u32 1027748829, .int .u32 705979059]) (.int .i64 4)).run Tryz.prog wr = .ok (.int .u32 705979059) wr := zeA_ wr _ 4 _ om_ rfl
         have hX : bits .xor .u32 (zax_ 4 t s0 : Nat) (705979059 * bits .and .u32 ((t : Int) / 16) 1 % 4294967296) = ((zax_ 5 t s0 : Nat) : Int) := by
          rw [HST.out]
          exact zez_ _ (turnK.getD 4 0) (t / 2 ^ 4) _ _ (by simp [turnK]) om_ hpl de_ om_
         go_wp2
         go_region
         go_wp2
         go_roundw
         case rel => exact ⟨5, by omega, by go_num, Lib.hid (x9_ (z2_ hgr.out (.inl si_) _)), Lib.hid (w1_ (z3_ HBr.out 0 _))⟩
         case measure => first | (simp [intOf]; done) | (simp [intOf]; omega)
     · obtain rfl : i = 5 := by omega
       have h5 := hbr.out
       go_wp2
       go_roundw
       case rel =>
        refine ⟨j + 1, by omega, by go_num, Lib.hid (y7_ hgr.out HGs.out si_), ?_⟩
        rw [HP1.out]
        exact hbr
       case measure => simp [intOf]; omega
  · obtain rfl : j = l.length := by omega
    have h := hbr.out
    rw [List.take_length] at h
    go_wp2
    go_end0
    exact ⟨rfl, h, y7_ hgr.out hg1 si_⟩
theorem Tryz.infoB8 : (Tryz.prog.info? 5).map (fun i => (i.zero, i.size, i.bytes)) = some (some (.int .u8 0), 1, 1) := by kernel_rfl
theorem zbA_ (w : World) {o : Oper} {a : Act} {K : Act → World → Prop} {Q : Exit → Act → World → Prop} (d s : Operand) (t t' : TypeId)
  (ho : o.op = .call { callee := .builtin .append, args := #[d, s], argTypes := #[t, t'] }) (v u : Value) (hd : a.eval d = v) (hs : a.eval s = u) {v' : Value} {w' : World}
  (hr : (Builtin.append_ #[t, t'] o.type #[v, u]).run Tryz.prog w = .ok v' w') (h : K (a.put o.dst v') w') : o.wp Tryz.prog a w K Q := by
 unfold Oper.wp execOp
 simp only [ho, resolve, invoke, builtin, Sem.run_bind, Sem.run_pure, Result.andThen_ok, List.map_toArray, List.map_cons, List.map_nil, hd, hs, hr]
 exact h
theorem w8_ (w : World) {ops : Array Oper} {rest : List Oper} {o : Oper} {a : Act} {Q : Exit → Act → World → Prop} (hgd : o.guard = none) (d s : Operand) (t t' : TypeId)
  (ho : o.op = .call { callee := .builtin .append, args := #[d, s], argTypes := #[t, t'] }) (v u : Value) (hd : a.eval d = v) (hs : a.eval s = u) {v' : Value} {w' : World}
  (hr : (Builtin.append_ #[t, t'] o.type #[v, u]).run Tryz.prog w = .ok v' w') (h : wpList Tryz.prog ops Q rest (a.put o.dst v') w') : wpList Tryz.prog ops Q (o :: rest) a w :=
 wpList_plain hgd fun _ hK => zbA_ w d s t t' ho v u hd hs hr (hK _ _ h)
def x1_ (lo : Nat) (v : Value) (l : List UInt8) (w : World) : Prop := w.ownsRow lo 5 1 v l.length (u8L l)
theorem zbN_ (lo : Nat) (w : World) : x1_ lo (.slice none 0 0) [] w := World.ownsRow_nil _ _ _ _
theorem zaO_ {lo : Nat} {v : Value} {l : List UInt8} {w : World} (h : x1_ lo v l w) : ∃ ad c, v = .slice ad l.length c := by
 obtain ⟨ad, m, c, rfl⟩ := za4_ h
 have := zbS_ h
 subst this
 exact ⟨ad, c, rfl⟩
theorem znO_ {lo : Nat} {v : Value} {l : List UInt8} {rs : List Nat} {w w' : World} (h : x1_ lo v l w) (hg : GL rs w w') (hr : ∀ r ∈ rs, v.ownBlock ≠ some r) : x1_ lo v l w' := zhO_ h hg hr
theorem v4_ {lo : Nat} {v : Value} {l : List UInt8} {w : World} (h : x1_ lo v l w) : ∀ g, v.ownBlock = some g → lo ≤ g ∧ g < w.heap.size := World.ownsRow.lt h
theorem zaT_ {lo : Nat} {v : Value} {l : List UInt8} {w : World} (h : x1_ lo v l w) : x8_ v l w ∧ ∀ G o c, v = .slice (some ⟨G, o, none⟩) l.length c → l ≠ [] → lo ≤ G := by
 by_cases hl : l = []
 · subst hl
   obtain ⟨ad, c, rfl⟩ := zaO_ h
   exact ⟨⟨0, 0, c, .inl ⟨rfl, ad, c, rfl⟩, by simp, fun h => absurd rfl h⟩, fun _ _ _ _ h => absurd rfl h⟩
 · have hpos := List.length_pos_iff.2 hl
   obtain ⟨g, cap, hv, hg1, hg2, hc1, hc2, hcell⟩ := zbv_ h hpos
   subst hv
   refine ⟨⟨g, 0, cap, .inr ⟨hpos, by simp⟩, hc1, fun _ => ⟨hg2, fun j hj => ?_⟩⟩, fun G o c e _ => ?_⟩
   · rw [Nat.zero_add]
     refine hcell j _ ?_
     unfold u8L
     rw [List.getElem?_map, List.getElem?_eq_getElem hj, List.getD_eq_getElem?_getD, List.getElem?_eq_getElem hj]
     rfl
   · injection e with e1
     injection e1 with e1
     injection e1 with e1
     omega
theorem zgH_ (lo : Nat) (v : Value) (l ys : List UInt8) (ad : Addr) (c : Nat) (w : World) (hown : x1_ lo v l w) (hy : 0 < ys.length) (hcell : ∀ j, j < ys.length → w.cell? (ad.add j) = some (.int .u8 (ys.getD j 0).toNat)) (hlen : l.length + ys.length ≤ 1000000000000) (hlo : lo ≤ w.heap.size) :
  ∃ g cap w', (Builtin.append_ #[47, 47] 47 #[v, .slice (some ad) ys.length c]).run Tryz.prog w = .ok (.slice (some ⟨g, 0, none⟩) (l.length + ys.length) cap) w' ∧
   x1_ lo (.slice (some ⟨g, 0, none⟩) (l.length + ys.length) cap) (l ++ ys) w' ∧ w.grownBy w' v.ownBlock ∧ (v.ownBlock = some g ∨ g = w.heap.size) ∧ g < w'.heap.size := by
 obtain ⟨t0, ht0, ht1, ht2, ht3⟩ := info_parts Tryz.infoB8
 obtain ⟨g, cap, w', h1, h2, h3, h4, h5⟩ := run_append_lies (P := Tryz.prog) (w := w) 47 47 lo 5 t0 (.int .u8 0) 1 1 Tryz.underlying47 ht0 ht1 ht2 ht3 rfl de_ v l.length (u8L l) hown ad ys.length c (u8L ys) (by rw [zaj_]; omega) (fun j u hj => by
  obtain ⟨h1, rfl⟩ := zex_ _ j u hj
  exact hcell j h1) (fun x hx => by
  unfold u8L at hx
  obtain ⟨y, _, rfl⟩ := List.mem_map.1 hx
  rfl) hy (by unfold maxLen; omega) om_ hlo _ rfl
 refine ⟨g, cap, w', h1, ?_, h3, h4, h5⟩
 unfold x1_
 rw [List.length_append]
 have e : u8L (l ++ ys) = u8L l ++ u8L ys := by simp [u8L]
 rw [e]
 exact h2
theorem k7_ (lo : Nat) (v : Value) (l : List UInt8) (y : UInt8) (X : Int) (hX : X = y.toNat) (w0 w : World) (hw : w = (w0.alloc (.cells #[.int .u8 X] 5)).drew ∨ w = w0.alloc (.cells #[.int .u8 X] 5)) (hown : x1_ lo v l w0) (hlen : l.length ≤ 100000000000) (hlo : lo ≤ w0.heap.size) :
  ∃ g cap w', (Builtin.append_ #[47, 47] 47 #[v, .slice (some ⟨w0.heap.size, 0, none⟩) 1 1]).run Tryz.prog w = .ok (.slice (some ⟨g, 0, none⟩) (l.length + 1) cap) w' ∧
   x1_ lo (.slice (some ⟨g, 0, none⟩) (l.length + 1) cap) (l ++ [y]) w' ∧ GL v.ownBlock.toList w0 w' ∧ (v.ownBlock = some g ∨ w0.heap.size < g) ∧ g < w'.heap.size := by
 subst hX
 have hown2 : x1_ lo v l w := by
  rcases hw with rfl | rfl
  · exact (zbT_ hown _).drew
  · exact zbT_ hown _
 have hsz : w.heap.size = w0.heap.size + 1 := by rcases hw with rfl | rfl <;> simp
 have hcl : w.cell? ⟨w0.heap.size, 0, none⟩ = some (.int .u8 y.toNat) := by
  rcases hw with rfl | rfl
  · exact z0_ (w1_ (y8_ w0 (.cells #[.int .u8 (y.toNat : Int)] 5))) 0
  · exact z0_ (y8_ w0 (.cells #[.int .u8 (y.toNat : Int)] 5)) 0
 have hg0 : GL [] w0 w := by
  rcases hw with rfl | rfl
  · exact x9_ (y2_ (y1_ _ _) _)
  · exact y2_ (y1_ _ _) _
 obtain ⟨g, cap, w', h1, h2, h3, h4, h5⟩ := zgH_ lo v l [y] ⟨w0.heap.size, 0, none⟩ 1 w hown2 si_ (fun j hj => by
  obtain rfl : j = 0 := by simp at hj; omega
  exact hcl) so_ om_
 refine ⟨g, cap, w', h1, h2, zcu_ h3 (y7_ hg0 (y1_ _ _) si_) (fun r hr => .inl (by simp [hr])), ?_, h5⟩
 rcases h4 with h4 | h4
 · exact .inl h4
 · exact .inr om_
theorem znP_ (w : World) (x : UInt8) (X : Int) (hX : X = x.toNat) (T : TypeId) : x8_ (.slice (some ⟨w.heap.size, 0, none⟩) 1 1) [x] (w.alloc (.cells #[.int .u8 X] T)) := by
 subst hX
 refine ⟨w.heap.size, 0, 1, .inr ⟨by simp, by simp⟩, by simp, fun _ => ⟨by simp, fun j hj => ?_⟩⟩
 obtain rfl : j = 0 := by simp at hj; omega
 exact z0_ (y8_ w _) 0
theorem zgI_ (B s : Nat) (x : UInt8) (X : Int) (hX : X = x.toNat) (w : World) (hB : w.heap[B]? = some (.cells #[.int .u32 (s : Int)] 122 (0, 0))) (hs : s < 2 ^ 30) :
  Calls Tryz.prog 84 #[.pointer (some ⟨B, 0, none⟩), .slice (some ⟨w.heap.size, 0, none⟩) 1 1] (w.alloc (.cells #[.int .u8 X] 5)) fun e w' => e = .returned (.tuple #[]) ∧ w'.heap[B]? = some (.cells #[.int .u32 (poly s [x] : Nat)] 122 (0, 0)) ∧ GL [B] w w' := by
 refine (bAdd B s [x] (.slice (some ⟨w.heap.size, 0, none⟩) 1 1) _ (x3_ hB _) hs si_ (znP_ w x X hX _) (fun G o c e _ => ?_)).mono ?_
 · have := z4_ hB
   injection e with e1
   injection e1 with e1
   injection e1 with e1
   omega
 · rintro e w' ⟨rfl, h1, h2⟩
   exact ⟨rfl, h1, y7_ h2 (y2_ (y1_ _ _) _) si_⟩
theorem znQ_ (x : Nat) (hx : x < 256) : bits .and .u8 (x : Int) 31 = ((x % 32 : Nat) : Int) := by
 show IntKind.u8.wrap (((BitVec.ofInt 8 (x : Int) &&& BitVec.ofInt 8 31).toNat : Nat) : Int) = _
 have h2 : (BitVec.ofInt 8 31).toNat = 2 ^ 5 - 1 := by decide
 rw [BitVec.toNat_and, h2, BitVec.ofInt_natCast, BitVec.toNat_ofNat, Nat.mod_eq_of_lt om_, Nat.and_two_pow_sub_one_eq_mod, IntKind.wrap_u8]
 omega
theorem ziX_ (w : World) (l : List UInt8) (i : Nat) (hi : i < l.length) : (Instr.index 9 (.string (bs l)) (.int .i64 (i : Int))).run Tryz.prog w = .ok (.int .u8 ((l.getD i 0).toNat : Nat)) w := by
 have h2 : (0 : Int) ≤ (i : Int) ∧ (i : Int) < l.length := by omega
 have h3 : l.getD i 0 = l[i] := by rw [List.getD_eq_getElem?_getD, List.getElem?_eq_getElem hi]; rfl
 simp [Instr.index, asIntOf, h2, hi, h3]
theorem zfp_ {f : UInt8 → UInt8} (h : List UInt8) (k : Nat) (hk : k < h.length) : (h.take (k + 1)).map f = (h.take k).map f ++ [f (h.getD k 0)] := by
 rw [List.take_add_one, List.getElem?_eq_getElem hk, Option.toList_some, List.map_append, List.getD_eq_getElem?_getD, List.getElem?_eq_getElem hk]
 rfl
theorem ziY_ (h : List UInt8) (hl : h.length ≤ 100000) (w : World) :
  Calls Tryz.prog 83 #[.string (bs h)] w fun e w' => e = .returned (.pointer (some ⟨w.heap.size, 0, none⟩)) ∧ w'.heap[w.heap.size]? = some (.cells #[.int .u32 (zbb_ h : Nat)] 122 (0, 0)) ∧ GL [] w w' := by
 go_enter Tryz.func83, Tryz.ntmps83
 go_wp2_with fail
 have HB1 : Hid ((w.alloc (.cells #[.int .u32 1] 122)).heap[w.heap.size]? = some (.cells #[.int .u32 1] 122 (0, 0))) := Lib.hid (y8_ _ _)
 have HG1 : Hid (GL [] w (w.alloc (.cells #[.int .u32 1] 122))) := Lib.hid (y2_ (y1_ _ _) _)
 have hS1 : w.heap.size < (w.alloc (.cells #[.int .u32 1] 122)).heap.size := by simp
 generalize w.alloc (.cells #[.int .u32 1] 122) = w1 at *
 go_loopw [4, 8] (fun _ iv wr => ∃ k : Nat, k ≤ h.length ∧ iv = .int .i64 k ∧ Hid (wr.heap[w.heap.size]? = some (.cells #[.int .u32 (poly 1 ((h.take k).map (fun c => UInt8.ofNat (c.toNat / 32))) : Nat)] 122 (0, 0))) ∧ Hid (GL [] w wr)) (fun _ iv _ => h.length - (intOf iv).toNat)
 case atStart => exact ⟨0, by omega, rfl, HB1, HG1⟩
 case round =>
  obtain ⟨k, hk, rfl, hbr, hgr⟩ := hrel
  by_cases hlt : k < h.length
  · have hk1 : (k : Int) < h.length := by omega
    obtain ⟨x, hx⟩ : ∃ x, x = (h.getD k 0).toNat := ⟨_, rfl⟩
    have hx8 : x < 256 := by rw [hx]; exact (h.getD k 0).toNat_lt
    have hix := ziX_ wr h k hlt
    rw [← hx] at hix
    have HM : Hid ((h.take (k + 1)).map (fun c => UInt8.ofNat (c.toNat / 32)) = (h.take k).map (fun c => UInt8.ofNat (c.toNat / 32)) ++ [UInt8.ofNat (x / 32)]) := Lib.hid (by rw [zfp_ h k hlt, hx])
    clear hx
    have hpl := zcP_ 1 ((h.take k).map (fun c => UInt8.ofNat (c.toNat / 32))) om_
    have HPA : Hid (poly 1 ((h.take (k + 1)).map (fun c => UInt8.ofNat (c.toNat / 32))) = poly (poly 1 ((h.take k).map (fun c => UInt8.ofNat (c.toNat / 32)))) [UInt8.ofNat (x / 32)]) := Lib.hid (by rw [HM.out, zcN_])
    generalize poly 1 ((h.take k).map (fun c => UInt8.ofNat (c.toNat / 32))) = P at *
    go_wp2_with fail
    refine (zgI_ w.heap.size P (UInt8.ofNat (x / 32)) _ (by rw [UInt8.toNat_ofNat']; omega) wr hbr.out hpl).mono ?_
    rintro e w2 ⟨rfl, hb2, hg2⟩
    have HB2 := Lib.hid hb2
    have HG2 := Lib.hid hg2
    clear hb2 hg2
    go_wp2_with fail
    go_roundw
    case rel =>
     refine ⟨k + 1, by omega, by go_num, Lib.hid ?_, Lib.hid (y7_ HG2.out hgr.out si_)⟩
     rw [HPA.out]
     exact HB2.out
    case measure => simp [intOf]; omega
  · obtain rfl : k = h.length := by omega
    have hbe := hbr.out
    rw [List.take_length] at hbe
    have hpl := zcP_ 1 (h.map (fun c => UInt8.ofNat (c.toNat / 32))) om_
    have HPA : Hid (poly 1 (h.map (fun c => UInt8.ofNat (c.toNat / 32)) ++ [0]) = poly (poly 1 (h.map (fun c => UInt8.ofNat (c.toNat / 32)))) [0]) := Lib.hid (zcN_ _ _ _)
    have HBE := Lib.hid hbe
    clear hbr hbe
    go_wp2_with fail
    refine (zgI_ w.heap.size _ 0 _ si_ wr HBE.out hpl).mono ?_
    rintro e w2 ⟨rfl, hb2, hg2⟩
    rw [← HPA.out] at hb2
    have HB2 := Lib.hid hb2
    have HG2 : Hid (GL [] w w2) := Lib.hid (y7_ hg2 hgr.out si_)
    clear hb2 hg2 hgr HPA hpl HBE
    go_wp2_with fail
    go_loopw [5, 22] (fun _ iv wr => ∃ k : Nat, k ≤ h.length ∧ iv = .int .i64 k ∧ Hid (wr.heap[w.heap.size]? = some (.cells #[.int .u32 (poly 1 (h.map (fun c => UInt8.ofNat (c.toNat / 32)) ++ [0] ++ (h.take k).map (fun c => UInt8.ofNat (c.toNat % 32))) : Nat)] 122 (0, 0))) ∧ Hid (GL [] w wr)) (fun _ iv _ => h.length - (intOf iv).toNat)
    case atStart => exact ⟨0, by omega, rfl, Lib.hid (by rw [List.take_zero, List.map_nil, List.append_nil]; exact HB2.out), HG2⟩
    case round =>
     clear hk hlt
     obtain ⟨k, hk, rfl, hbr, hgr⟩ := hrel
     by_cases hlt : k < h.length
     · have hk1 : (k : Int) < h.length := by omega
       obtain ⟨x, hx⟩ : ∃ x, x = (h.getD k 0).toNat := ⟨_, rfl⟩
       have hx8 : x < 256 := by rw [hx]; exact (h.getD k 0).toNat_lt
       have hix := ziX_ wr h k hlt
       rw [← hx] at hix
       have HM : Hid ((h.take (k + 1)).map (fun c => UInt8.ofNat (c.toNat % 32)) = (h.take k).map (fun c => UInt8.ofNat (c.toNat % 32)) ++ [UInt8.ofNat (x % 32)]) := Lib.hid (by rw [zfp_ h k hlt, hx])
       clear hx
       have hpl := zcP_ 1 (h.map (fun c => UInt8.ofNat (c.toNat / 32)) ++ [0] ++ (h.take k).map (fun c => UInt8.ofNat (c.toNat % 32))) om_
       have HPA : Hid (poly 1 (h.map (fun c => UInt8.ofNat (c.toNat / 32)) ++ [0] ++ (h.take (k + 1)).map (fun c => UInt8.ofNat (c.toNat % 32))) = poly (poly 1 (h.map (fun c => UInt8.ofNat (c.toNat / 32)) ++ [0] ++ (h.take k).map (fun c => UInt8.ofNat (c.toNat % 32)))) [UInt8.ofNat (x % 32)]) := Lib.hid (by rw [HM.out, ← List.append_assoc, zcN_])
       generalize poly 1 (h.map (fun c => UInt8.ofNat (c.toNat / 32)) ++ [0] ++ (h.take k).map (fun c => UInt8.ofNat (c.toNat % 32))) = P at *
       have h31 := znQ_ x hx8
       go_wp2_with fail
       refine (zgI_ w.heap.size P (UInt8.ofNat (x % 32)) _ (by rw [UInt8.toNat_ofNat']; omega) wr hbr.out hpl).mono ?_
       rintro e w2 ⟨rfl, hb2, hg2⟩
       have HB2 := Lib.hid hb2
       have HG2 := Lib.hid hg2
       clear hb2 hg2
       go_wp2_with fail
       go_roundw
       case rel =>
        refine ⟨k + 1, by omega, by go_num, Lib.hid ?_, Lib.hid (y7_ HG2.out hgr.out si_)⟩
        rw [HPA.out]
        exact HB2.out
       case measure => simp [intOf]; omega
     · obtain rfl : k = h.length := by omega
       have hbe := hbr.out
       rw [List.take_length] at hbe
       have HBE : Hid (wr.heap[w.heap.size]? = some (.cells #[.int .u32 (zbb_ h : Nat)] 122 (0, 0))) := Lib.hid (by unfold zbb_ hrpW; rw [show (0 : UInt8) :: h.map (fun c => UInt8.ofNat (c.toNat % 32)) = [0] ++ h.map (fun c => UInt8.ofNat (c.toNat % 32)) from rfl, ← List.append_assoc]; exact hbe)
       clear hbe hbr
       go_wp2_with fail
       exact bodyPost_ret (v := .pointer (some ⟨w.heap.size, 0, none⟩)) (by simp [results, Tryz.results83, go_sem]) rfl ⟨rfl, HBE.out, hgr.out⟩
end Go.Proofs.YtembdkodajichaaGreatDoor
