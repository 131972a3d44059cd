/- The program's SHA-256: a state, bytes taken in. -/
import Derived.Test.YtembdkodajichaaGreatDoorDigB
set_option maxRecDepth 100000
set_option maxHeartbeats 4000000
set_option linter.unusedSimpArgs false
set_option linter.unusedVariables false
namespace Go.Proofs.YtembdkodajichaaGreatDoor
open Go.RowKit
theorem Tryz.sizeU8 : (Tryz.prog.info? 5).map (·.size) = some 1 := by kernel_rfl
def u8L (l : List UInt8) : List Value := l.map fun x => Value.int .u8 x.toNat
def stC (v : S8) (wait : List UInt8) (n : Int) : Array Value := ((s8L v).map (Value.int .u32) ++ (u8L wait ++ [Value.int .u64 n])).toArray
def StAt (B : Nat) (m : List UInt8) (w : World) : Prop := ∃ v wait, FedS m v wait ∧ w.heap[B]? = some (.cells (stC v wait m.length) 194 (0, 0)) ∧ m.length ≤ 1000000000000
theorem zev_ {B : Nat} {m : List UInt8} {w w' : World} {rs : List Nat} (h : StAt B m w) (hg : GL rs w w') (hr : B ∉ rs) : StAt B m w' := by
 obtain ⟨v, wait, h1, h2, h3⟩ := h
 exact ⟨v, wait, h1, x6_ h2 hg hr, h3⟩
def lenV : Value → Nat
 | .slice _ n _ => n
 | _ => 0
theorem dNew (w : World) : Calls Tryz.prog 126 #[] w fun e w' => ∃ B, e = .returned (.pointer (some ⟨B, 0, none⟩)) ∧ w.heap.size ≤ B ∧ StAt B [] w' ∧ Below w.heap.size w w' := by
 go_enter Tryz.func126, Tryz.ntmps126
 go_wp2_with (go_at_call 155; refine (zmu_ _).mono ?_; rintro e w1 ⟨rfl, hb1⟩; unfold s8V zbd_)
 have hs := hb1.size
 go_ret
 exact ⟨_, rfl, hs, ⟨zbd_, List.replicate 64 0, zl8_, (y8_ _ _).trans (by kernel_rfl), by simp⟩, bl_⟩
theorem w5_ (v : S8) (wait : List UInt8) (n : Int) (j : Nat) (h : j < 8) : (stC v wait n)[j]? = some (.int .u32 ((s8L v).getD j 0)) := by
 rcases (by omega : j = 0 ∨ j = 1 ∨ j = 2 ∨ j = 3 ∨ j = 4 ∨ j = 5 ∨ j = 6 ∨ j = 7) with rfl | rfl | rfl | rfl | rfl | rfl | rfl | rfl <;> rfl
theorem zaj_ (l : List UInt8) : (u8L l).length = l.length := by simp [u8L]
theorem znB_ (v : S8) (wait : List UInt8) (n : Int) (j : Nat) (h : j < wait.length) : (stC v wait n)[8 + j]? = some (.int .u8 (wait.getD j 0).toNat) := by
 unfold stC
 rw [List.getElem?_toArray, List.getElem?_append_right (by simp [s8L]), show 8 + j - ((s8L v).map (Value.int .u32)).length = j by simp [s8L], List.getElem?_append_left (by rw [zaj_]; exact h)]
 unfold u8L
 rw [List.getElem?_map, List.getElem?_eq_getElem h, List.getD_eq_getElem?_getD, List.getElem?_eq_getElem h]
 rfl
theorem zew_ (v : S8) (wait : List UInt8) (n : Int) (h : wait.length = 64) : (stC v wait n)[72]? = some (.int .u64 n) := by
 unfold stC
 rw [List.getElem?_toArray, List.getElem?_append_right (by simp [s8L]), List.getElem?_append_right (by rw [zaj_]; simp [s8L]; omega), zaj_, h]
 simp [s8L]
theorem ziF_ (v : S8) (wait : List UInt8) (n : Int) (h : wait.length = 64) : (stC v wait n).size = 73 := by
 unfold stC
 simp [s8L, zaj_, h]
theorem znC_ (v : S8) (wait cs : List UInt8) (n : Int) (at_ : Nat) (h : wait.length = 64) (ha : at_ + cs.length ≤ 64) :
  ((stC v wait n).toList.take (8 + at_) ++ u8L cs ++ (stC v wait n).toList.drop (8 + at_ + cs.length)).toArray = stC v (wait.take at_ ++ cs ++ wait.drop (at_ + cs.length)) n := by
 have e1 : (stC v wait n).toList = (s8L v).map (Value.int .u32) ++ (u8L wait ++ [Value.int .u64 n]) := rfl
 have l8 : ((s8L v).map (Value.int .u32)).length = 8 := by simp [s8L]
 rw [e1, List.take_append, List.drop_append, l8]
 rw [List.take_of_length_le om_, List.drop_eq_nil_of_le om_, show 8 + at_ - 8 = at_ by omega, show 8 + at_ + cs.length - 8 = at_ + cs.length by omega]
 rw [List.take_append_of_le_length (by rw [zaj_]; omega), List.drop_append_of_le_length (by rw [zaj_]; omega)]
 unfold stC u8L
 simp only [List.map_append, List.map_take, List.map_drop, List.append_assoc, List.nil_append]
theorem zex_ (l : List UInt8) (j : Nat) (x : Value) (h : (u8L l)[j]? = some x) : j < l.length ∧ x = .int .u8 (l.getD j 0).toNat := by
 unfold u8L at h
 rw [List.getElem?_map] at h
 cases hq : l[j]? with
 | none => rw [hq] at h; cases h
 | some y =>
   rw [hq] at h
   injection h with h
   obtain ⟨hl, hy⟩ := List.getElem?_eq_some_iff.1 hq
   refine ⟨hl, ?_⟩
   rw [List.getD_eq_getElem?_getD, hq, ← h]
   rfl
theorem ziG_ (s : S8) (l : List UInt8) (hl : l.length = 64) (B o c : Nat) (hc : 64 ≤ c) (w : World) (z : S8) (hz : z = zbx_ s l) (hb : zbs_ B o l w) (hT : zcz_ w) :
  Calls Tryz.prog 156 #[.agg #[.int .u32 s.a, .int .u32 s.b, .int .u32 s.c, .int .u32 s.d, .int .u32 s.e, .int .u32 s.f, .int .u32 s.g, .int .u32 s.h], .slice (some ⟨B, o, none⟩) 64 c] w fun e w' => e = .returned (.agg #[.int .u32 z.a, .int .u32 z.b, .int .u32 z.c, .int .u32 z.d, .int .u32 z.e, .int .u32 z.f, .int .u32 z.g, .int .u32 z.h]) ∧ Below w.heap.size w w' := by
 subst hz
 exact znz_ s l hl B o c hc w hb hT
def zdT_ (bv : Value) (G o c L j : Nat) : Prop := (j = L ∧ ∃ ad cc, bv = .slice ad 0 cc) ∨ (j < L ∧ bv = .slice (some ⟨G, o + j, none⟩) (L - j) (c - j))
theorem ziH_ {G o c L j k : Nat} {ad : Option Addr} {cc : Nat} (hk : k ≤ L - j) (hj : j < L) (hc : L ≤ c) (h : c - j = k) : zdT_ (.slice ad (L - j - k) cc) G o c L (j + k) := by
 refine .inl ⟨by omega, ad, cc, ?_⟩
 rw [show L - j - k = 0 by omega]
theorem ziI_ {G o c L j k : Nat} (hk : k ≤ L - j) (hj : j < L) : zdT_ (.slice (some ⟨G, o + j + k, none⟩) (L - j - k) (c - j - k)) G o c L (j + k) := by
 by_cases h : j + k = L
 · refine .inl ⟨h, some ⟨G, o + j + k, none⟩, c - j - k, ?_⟩
   rw [show L - j - k = 0 by omega]
 · refine .inr ⟨by omega, ?_⟩
   rw [Nat.add_assoc, Nat.sub_sub, Nat.sub_sub]
theorem znD_ (v : S8) (wait : List UInt8) (n x : Int) (h : wait.length = 64) : (stC v wait n).setIfInBounds 72 (.int .u64 x) = stC v wait x := by
 unfold stC
 rw [List.setIfInBounds_toArray, List.set_append_right _ _ (by simp [s8L]), List.set_append_right _ _ (by rw [zaj_]; simp [s8L]; omega), zaj_, h]
 simp [s8L]
theorem ziJ_ (v z : S8) (wait : List UInt8) (n : Int) : ((((((((stC v wait n).setIfInBounds 0 (.int .u32 z.a)).setIfInBounds 1 (.int .u32 z.b)).setIfInBounds 2 (.int .u32 z.c)).setIfInBounds 3 (.int .u32 z.d)).setIfInBounds 4 (.int .u32 z.e)).setIfInBounds 5 (.int .u32 z.f)).setIfInBounds 6 (.int .u32 z.g)).setIfInBounds 7 (.int .u32 z.h) = stC z wait n := by
 simp [stC, s8L]
theorem ziK_ {B : Nat} {v : S8} {wait : List UInt8} {n : Int} {w : World} {T : TypeId} (h : w.heap[B]? = some (.cells (stC v wait n) T (0, 0))) : w.cell? ⟨B, 0, none⟩ = some (.int .u32 v.a) ∧ w.cell? ⟨B, 1, none⟩ = some (.int .u32 v.b) ∧ w.cell? ⟨B, 2, none⟩ = some (.int .u32 v.c) ∧ w.cell? ⟨B, 3, none⟩ = some (.int .u32 v.d) ∧ w.cell? ⟨B, 4, none⟩ = some (.int .u32 v.e) ∧ w.cell? ⟨B, 5, none⟩ = some (.int .u32 v.f) ∧ w.cell? ⟨B, 6, none⟩ = some (.int .u32 v.g) ∧ w.cell? ⟨B, 7, none⟩ = some (.int .u32 v.h) :=
 ⟨(z0_ h 0).trans (w5_ v wait n 0 om_), (z0_ h 1).trans (w5_ v wait n 1 om_), (z0_ h 2).trans (w5_ v wait n 2 om_), (z0_ h 3).trans (w5_ v wait n 3 om_), (z0_ h 4).trans (w5_ v wait n 4 om_), (z0_ h 5).trans (w5_ v wait n 5 om_), (z0_ h 6).trans (w5_ v wait n 6 om_), (z0_ h 7).trans (w5_ v wait n 7 om_)⟩
theorem ziL_ {B : Nat} {v : S8} {wait : List UInt8} {n : Int} {w : World} {T : TypeId} (h : w.heap[B]? = some (.cells (stC v wait n) T (0, 0))) : zbs_ B 8 wait w :=
 ⟨z4_ h, fun j hj => (z0_ h (8 + j)).trans (znB_ v wait n j hj)⟩
theorem ziM_ (B : Nat) (m l : List UInt8) (bv : Value) (w : World) (hst : StAt B m w) (hsl : ∃ G o c, zdT_ bv G o c l.length 0 ∧ l.length ≤ c ∧ G ≠ B ∧ (l ≠ [] → zbs_ G o l w)) (hT : zcz_ w) (hlen : m.length + l.length ≤ 1000000000000) (hBT : B ≠ 7) :
  Calls Tryz.prog 127 #[.pointer (some ⟨B, 0, none⟩), bv] w fun e w' => e = .returned (.tuple #[]) ∧ StAt B (m ++ l) w' ∧ GL [B] w w' := by
 obtain ⟨G, o, c, hleft, hlc, hGB, hby⟩ := hsl
 have HBY := Lib.hid hby
 have HT := Lib.hid hT
 have HS := Lib.hid hst
 have HL := Lib.hid hleft
 clear hby hT hst hleft
 go_enter Tryz.func127, Tryz.ntmps127
 go_wp2
 go_loopw [1, 4, 5] (fun bv _ _ wr => ∃ j : Nat, j ≤ l.length ∧ Hid (zdT_ bv G o c l.length j) ∧ Hid (GL [B] w wr) ∧ Hid (StAt B (m ++ l.take j) wr)) (fun bv _ _ _ => lenV bv)
 case atStart => exact ⟨0, by omega, HL, Lib.hid (y1_ _ _), by simpa using HS⟩
 case round =>
  obtain ⟨j, hj, hlf, hgr, hsr⟩ := hrel
  rcases hlf.out with ⟨rfl, ad, cc, rfl⟩ | ⟨hjl, rfl⟩
  · have hS := hsr.out
    rw [List.take_length] at hS
    go_wp2
    go_end0
    exact ⟨rfl, hS, hgr.out⟩
  · have hML : (m ++ l.take j).length = m.length + j := by rw [List.length_append, List.length_take]; omega
    have hbyr := zbf_ (HBY.out (fun e => by subst e; simp at hjl)) hgr.out so_
    obtain ⟨v, wait, hF, hblk, hlenM⟩ := hsr.out
    have hFed := Lib.hid hF
    have hW64 := hF.len
    rw [hML] at hblk hlenM
    have hp64 : (m.length + j) % 64 < 64 := Nat.mod_lt _ om_
    have ek : min (64 - (m.length + j) % 64) (l.length - j) ≤ 64 - (m.length + j) % 64 ∧ min (64 - (m.length + j) % 64) (l.length - j) ≤ l.length - j ∧ 1 ≤ min (64 - (m.length + j) % 64) (l.length - j) ∧ Nat.min (l.length - j) (64 - (m.length + j) % 64) = min (64 - (m.length + j) % 64) (l.length - j) := ⟨by omega, by omega, by omega, Nat.min_comm _ _⟩
    have HK := Lib.hid (rfl : min (64 - (m.length + j) % 64) (l.length - j) = min (64 - (m.length + j) % 64) (l.length - j))
    have fn := (z0_ hblk 72).trans (zew_ v wait _ hW64)
    have fz := z8_ hblk
    have fl := z4_ hblk
    have HBLK := Lib.hid hblk
    have hcsl : ((l.drop j).take (min (64 - (m.length + j) % 64) (l.length - j))).length = min (64 - (m.length + j) % 64) (l.length - j) := by rw [List.length_take, List.length_drop]; omega
    have hrun := run_copy_row Tryz.prog wr 47 47 3 5 B (8 + (m.length + j) % 64) (64 - (m.length + j) % 64) (64 - (m.length + j) % 64) ⟨G, o + j, none⟩ (l.length - j) (c - j) _ 194 (u8L ((l.drop j).take (min (64 - (m.length + j) % 64) (l.length - j)))) Tryz.underlying47 Tryz.sizeU8 hblk (by rw [zaj_, hcsl]; exact ek.2.2.2.symm) (fun i x hi => by
     obtain ⟨h1, rfl⟩ := zex_ _ i x hi
     rw [hcsl] at h1
     have h2 := hbyr.2 (j + i) om_
     rw [List.getD_eq_getElem?_getD, List.getElem?_take, if_pos h1, List.getElem?_drop, ← List.getD_eq_getElem?_getD]
     have h3 : (⟨G, o + j, none⟩ : Addr).add i = ⟨G, o + (j + i), none⟩ := by unfold Addr.add; split <;> simp_all [Nat.add_assoc]
     rw [h3]
     exact h2) (by rw [zaj_, hcsl, ziF_ _ _ _ hW64]; omega) (by
     intro x hx
     unfold u8L at hx
     obtain ⟨y, _, rfl⟩ := List.mem_map.1 hx
     rfl)
    rw [zaj_, hcsl] at hrun
    have hlay := znC_ v wait ((l.drop j).take (min (64 - (m.length + j) % 64) (l.length - j))) ((m.length + j : Nat) : Int) ((m.length + j) % 64) hW64 (by rw [hcsl]; omega)
    rw [hcsl] at hlay
    rw [hlay] at hrun
    have hfs := zl9_ (b := l.drop j) hFed.out (min (64 - (m.length + j) % 64) (l.length - j)) (by rw [hML, List.length_drop])
    rw [hML] at hfs
    have hPe : (((m.length + j : Nat) : Int)) % 64 = (((m.length + j) % 64 : Nat) : Int) := by omega
    generalize hk : min (64 - (m.length + j) % 64) (l.length - j) = k at *
    have hdm : m.length + j = 64 * ((m.length + j) / 64) + (m.length + j) % 64 := by omega
    have htk : m ++ l.take j ++ (l.drop j).take k = m ++ l.take (j + k) := by rw [List.append_assoc, ← List.take_add]
    rw [htk] at hfs
    generalize hN : ((m.length + j : Nat) : Int) = N at *
    generalize hP : (m.length + j) % 64 = P at *
    have hw2 : (wait.take P ++ (l.drop j).take k ++ wait.drop (P + k)).length = 64 := by simp only [List.length_append, List.length_take, List.length_drop]; omega
    generalize wait.take P ++ (l.drop j).take k ++ wait.drop (P + k) = wait2 at *
    have hX := setRow_heap wr B _ (stC v wait2 N) 194 _ hblk
    have HX := Lib.hid hX
    have hgX : GL [B] w (wr.setRow B (stC v wait2 N)) := ziC_ hgr.out B _ (.inl si_)
    have HGX := Lib.hid hgX
    have fn2 := (z0_ hX 72).trans (zew_ v wait2 N hw2)
    have fz2 := z8_ hX
    have fl2 := z4_ hX
    have p0 : (0 : Int) ≤ (P : Int) := by omega
    have p1 : (P : Int) ≤ 64 := by omega
    have k1 : (k : Int) ≤ 64 := by omega
    have n0 : (0 : Int) ≤ N := by omega
    have n1 : N ≤ 1000000000000 := by omega
    have HN := Lib.hid hN
    have HK := Lib.hid hk
    have HP := Lib.hid hP
    have HDM := Lib.hid hdm
    have HFS := Lib.hid hfs
    have HW2 := Lib.hid hw2
    clear hblk hF hbyr hlay hX hgX hN hk hP hdm hfs htk hcsl HBLK
    have hNk : Hid (N + (k : Int) = ((m ++ l.take (j + k)).length : Int)) := by
     show _ = _
     have := HN.out
     rw [List.length_append, List.length_take]
     omega
    have hlenk : (m ++ l.take (j + k)).length ≤ 1000000000000 := by rw [List.length_append, List.length_take]; omega
    have HS3 := Lib.hid (z3_ HX.out 72 (.int .u64 (N + (k : Int))))
    have HE3 := Lib.hid (znD_ v wait2 N (N + (k : Int)) hw2)
    have HG3 := Lib.hid (z2_ HGX.out (p := ⟨B, 72, none⟩) (.inl si_) (.int .u64 (N + (k : Int))))
    have hkL := Lib.hid ek
    have HLT := Lib.hid hjl
    have kL1 : k ≤ l.length - j := ek.2.1
    have kP1 : P + k ≤ 64 := by have := ek.1; omega
    have kl2 : (k : Int) ≤ ((l.length - j : Nat) : Int) := by omega
    clear ek
    have hck0 : c - j = k ∨ ¬ c - j = k := Decidable.em _
    have hfu0 : P + k = 64 ∨ ¬ P + k = 64 := Decidable.em _
    rcases hfu0 with hfull | hfull
    · have hb : ((N + (k : Int)) % 64 == 0) = true := by
       rw [beq_iff_eq]
       have := HDM.out
       have := HP.out
       have := HN.out
       omega
      have HFU := Lib.hid hfull
      clear hfull
      rcases hck0 with hck | hck
      · rw [hck] at hrun
        skip
        go_wp2
        have HY := Lib.hid HS3.out
        rw [HE3.out] at HY
        have HGY := Lib.hid HG3.out
        clear HS3 HE3 HG3 HX HGX fn2 fz2 fl2 hb hrun fn fz fl
        generalize (wr.setRow B (stC v wait2 N)).setCell ⟨B, 72, none⟩ (.int .u64 (N + (k : Int))) = w3 at *
        have HB3 := Lib.hid (ziL_ HY.out)
        have HT3 := Lib.hid (zcd_ HT.out HGY.out so_)
        have e0 := (z0_ HY.out 0).trans (w5_ v wait2 _ 0 om_)
        have e1 := (z0_ HY.out 1).trans (w5_ v wait2 _ 1 om_)
        have e2 := (z0_ HY.out 2).trans (w5_ v wait2 _ 2 om_)
        have e3 := (z0_ HY.out 3).trans (w5_ v wait2 _ 3 om_)
        have e4 := (z0_ HY.out 4).trans (w5_ v wait2 _ 4 om_)
        have e5 := (z0_ HY.out 5).trans (w5_ v wait2 _ 5 om_)
        have e6 := (z0_ HY.out 6).trans (w5_ v wait2 _ 6 om_)
        have e7 := (z0_ HY.out 7).trans (w5_ v wait2 _ 7 om_)
        simp only [s8L, List.getD_cons_zero, List.getD_cons_succ] at e0 e1 e2 e3 e4 e5 e6 e7
        have hBlt := z4_ HY.out
        have eF := z8_ HY.out
        obtain ⟨z, hz⟩ : ∃ z, Hid (z = zbx_ v wait2) := ⟨_, Lib.hid rfl⟩
        go_region_with ((go_at_call 156; refine (ziG_ v wait2 HW2.out B 8 64 om_ _ z hz.out (by exact HB3.out) (by exact HT3.out)).mono ?_; rintro e wk ⟨rfl, hbk⟩; have HYk : Hid (wk.heap[B]? = some (.cells (stC v wait2 (N + (k : Int))) 194 (0, 0))) := Lib.hid ((hbk.block B hBlt).trans HY.out); have f2 := z8_ HYk.out; have f3 := z4_ HYk.out; obtain ⟨c0, c1, c2, c3, c4, c5, c6, c7⟩ := ziK_ HYk.out))
        go_wp2
        go_roundw
        case rel =>
         refine ⟨j + k, by have := hkL.out; omega, Lib.hid (ziH_ hkL.out.2.1 hjl hlc hck), Lib.hid (z2_ (z2_ (z2_ (z2_ (z2_ (z2_ (z2_ (z2_ (y6_ hbk (x9_ HGY.out)) (.inl si_) _) (.inl si_) _) (.inl si_) _) (.inl si_) _) (.inl si_) _) (.inl si_) _) (.inl si_) _) (.inl si_) _), Lib.hid ⟨z, wait2, ?_, ?_, hlenk⟩⟩
         · rw [hz.out]
           exact HFS.out.2 (by have := HDM.out; have := HFU.out; have := hkL.out; omega)
         · rw [← hNk.out, ← ziJ_ v z wait2 (N + (k : Int))]
           exact z3_ (z3_ (z3_ (z3_ (z3_ (z3_ (z3_ (z3_ HYk.out 0 _) 1 _) 2 _) 3 _) 4 _) 5 _) 6 _) 7 _
        case measure => have := hkL.out; simp [lenV]; omega
      · skip
        go_wp2
        have HY := Lib.hid HS3.out
        rw [HE3.out] at HY
        have HGY := Lib.hid HG3.out
        clear HS3 HE3 HG3 HX HGX fn2 fz2 fl2 hb hrun fn fz fl
        generalize (wr.setRow B (stC v wait2 N)).setCell ⟨B, 72, none⟩ (.int .u64 (N + (k : Int))) = w3 at *
        have HB3 := Lib.hid (ziL_ HY.out)
        have HT3 := Lib.hid (zcd_ HT.out HGY.out so_)
        have e0 := (z0_ HY.out 0).trans (w5_ v wait2 _ 0 om_)
        have e1 := (z0_ HY.out 1).trans (w5_ v wait2 _ 1 om_)
        have e2 := (z0_ HY.out 2).trans (w5_ v wait2 _ 2 om_)
        have e3 := (z0_ HY.out 3).trans (w5_ v wait2 _ 3 om_)
        have e4 := (z0_ HY.out 4).trans (w5_ v wait2 _ 4 om_)
        have e5 := (z0_ HY.out 5).trans (w5_ v wait2 _ 5 om_)
        have e6 := (z0_ HY.out 6).trans (w5_ v wait2 _ 6 om_)
        have e7 := (z0_ HY.out 7).trans (w5_ v wait2 _ 7 om_)
        simp only [s8L, List.getD_cons_zero, List.getD_cons_succ] at e0 e1 e2 e3 e4 e5 e6 e7
        have hBlt := z4_ HY.out
        have eF := z8_ HY.out
        obtain ⟨z, hz⟩ : ∃ z, Hid (z = zbx_ v wait2) := ⟨_, Lib.hid rfl⟩
        go_region_with ((go_at_call 156; refine (ziG_ v wait2 HW2.out B 8 64 om_ _ z hz.out (by exact HB3.out) (by exact HT3.out)).mono ?_; rintro e wk ⟨rfl, hbk⟩; have HYk : Hid (wk.heap[B]? = some (.cells (stC v wait2 (N + (k : Int))) 194 (0, 0))) := Lib.hid ((hbk.block B hBlt).trans HY.out); have f2 := z8_ HYk.out; have f3 := z4_ HYk.out; obtain ⟨c0, c1, c2, c3, c4, c5, c6, c7⟩ := ziK_ HYk.out))
        go_wp2
        go_roundw
        case rel =>
         refine ⟨j + k, by have := hkL.out; omega, Lib.hid (ziI_ hkL.out.2.1 hjl), Lib.hid (z2_ (z2_ (z2_ (z2_ (z2_ (z2_ (z2_ (z2_ (y6_ hbk (x9_ HGY.out)) (.inl si_) _) (.inl si_) _) (.inl si_) _) (.inl si_) _) (.inl si_) _) (.inl si_) _) (.inl si_) _) (.inl si_) _), Lib.hid ⟨z, wait2, ?_, ?_, hlenk⟩⟩
         · rw [hz.out]
           exact HFS.out.2 (by have := HDM.out; have := HFU.out; have := hkL.out; omega)
         · rw [← hNk.out, ← ziJ_ v z wait2 (N + (k : Int))]
           exact z3_ (z3_ (z3_ (z3_ (z3_ (z3_ (z3_ (z3_ HYk.out 0 _) 1 _) 2 _) 3 _) 4 _) 5 _) 6 _) 7 _
        case measure => have := hkL.out; simp [lenV]; omega
    · have hb : ((N + (k : Int)) % 64 == 0) = false := by
       rw [beq_eq_false_iff_ne]
       have := hkL.out
       have := HP.out
       have := HN.out
       omega
      have HFU := Lib.hid hfull
      clear hfull
      rcases hck0 with hck | hck
      · rw [hck] at hrun
        go_wp2
        go_roundw
        case rel =>
         refine ⟨j + k, by have := hkL.out; omega, Lib.hid (ziH_ hkL.out.2.1 hjl hlc hck), HG3, Lib.hid ⟨v, wait2, HFS.out.1 (by have := HDM.out; have := HFU.out; have := hkL.out; omega), ?_, hlenk⟩⟩
         rw [← hNk.out, ← HE3.out]
         exact HS3.out
        case measure => have := hkL.out; simp [lenV]; omega
      · go_wp2
        go_roundw
        case rel =>
         refine ⟨j + k, by have := hkL.out; omega, Lib.hid (ziI_ hkL.out.2.1 hjl), HG3, Lib.hid ⟨v, wait2, HFS.out.1 (by have := HDM.out; have := HFU.out; have := hkL.out; omega), ?_, hlenk⟩⟩
         rw [← hNk.out, ← HE3.out]
         exact HS3.out
        case measure => have := hkL.out; simp [lenV]; omega
end Go.Proofs.YtembdkodajichaaGreatDoor
