/- The reference of layer 7: a field's words. -/
import Derived.Test.YtembdkodajichaaGreatDoorBitsR
import Derived.Test.YtembdkodajichaaGreatDoorRegT
import Derived.Test.YtembdkodajichaaGreatDoorDigE
import Derived.Deep.AppendSrc
import Derived.Test.YtembdkodajichaaGreatDoorBitsA
import Derived.Test.YtembdkodajichaaGreatDoorInvS
set_option maxRecDepth 100000
set_option maxHeartbeats 4000000
set_option linter.unusedSimpArgs false
set_option linter.unusedVariables false
namespace Go.Proofs.YtembdkodajichaaGreatDoor
open Go.RowKit
theorem zrq_ : ∀ (n : Fin 128) (b : Fin 2), bits .or .u8 ((n.val : Int) * 2) (b.val : Int) = ((n.val * 2 + b.val : Nat) : Int) := by decide +kernel
theorem zrr_ (l : List UInt8) (hl : ∀ x ∈ l, x.toNat < 2) : y3_ 2 l < 2 ^ l.length := zcR_ l hl
theorem zfU_ (l : List UInt8) (hl : l.length ≤ 8) (h2 : ∀ x ∈ l, x.toNat < 2) (bv : Value) (w : World) (hin : x8_ bv l w) :
  Calls Tryz.prog 135 #[bv] w fun e w' => e = .returned (.int .u8 ((y3_ 2 l : Nat) : Int)) ∧ w' = w := by
 obtain ⟨ba, bc, hbv, hbc, hb0⟩ := j6_ hin
 subst hbv
 have HB0 := Lib.hid hb0
 clear hin hb0
 go_enter Tryz.func135, Tryz.ntmps135
 go_wp2_with fail
 go_loopw [3, 4] (fun cv iv wr => ∃ i n : Nat, i ≤ l.length ∧ iv = .int .i64 (i : Int) ∧ cv = .int .u8 (n : Int) ∧ Hid (n = y3_ 2 (l.take i)) ∧ Hid (wr = w)) (fun _ iv _ => l.length - (intOf iv).toNat)
 case atStart => exact ⟨0, 0, by omega, rfl, rfl, Lib.hid rfl, Lib.hid rfl⟩
 case round =>
  obtain ⟨i, n, hi, rfl, rfl, HN, hw⟩ := hrel
  have hw2 := hw.out
  subst hw2
  by_cases hlt : i < l.length
  · obtain ⟨G, o, hba, hbt⟩ := HB0.out (by intro e; subst e; simp at hlt)
    subst hba
    have fc : wr.cell? ⟨G, o + i, none⟩ = some (.int .u8 (l.getD i 0).toNat) := hbt.2 i hlt
    have hb : (l.getD i 0).toNat < 2 := by rw [zak_ hlt]; exact h2 _ (List.getElem_mem hlt)
    have hS : y3_ 2 (l.take (i + 1)) = y3_ 2 (l.take i) * 2 + (l.getD i 0).toNat := by rw [List.take_succ_eq_append_getElem hlt, zcy_, zak_ hlt]
    rw [← HN.out] at hS
    have HS := Lib.hid hS
    have hn : n < 128 := by
     have h := zrr_ (l.take i) (fun x hx => h2 x (List.mem_of_mem_take hx))
     rw [← HN.out, List.length_take] at h
     have : 2 ^ min i l.length ≤ 2 ^ 7 := Nat.pow_le_pow_right om_ om_
     omega
    generalize (l.getD i 0).toNat = b at *
    have hor := zrq_ ⟨n, hn⟩ ⟨b, hb⟩
    simp only at hor
    have hi0 : (0 : Int) ≤ i := by omega
    have hi1 : (i : Int) < l.length := by omega
    have hlb : decide ((i : Int) < l.length) = true := by simp; omega
    clear hS
    go_wp2_with fail
    exact ⟨⟨i + 1, n * 2 + b, by omega, by go_num, by first | rw [hor] | go_num, Lib.hid HS.out.symm, by first | exact Lib.hid rfl | exact Lib.hid trivial⟩, by simp [intOf]; omega⟩
  · obtain rfl : i = l.length := by omega
    have HE : Hid (y3_ 2 l = n) := Lib.hid (by rw [HN.out, List.take_length])
    clear hlt
    go_wp2_with fail
    exact bodyPost_ret (v := .int .u8 (n : Int)) (by simp [results, Tryz.results135, go_sem]) rfl ⟨by rw [HE.out], rfl⟩
def zcF_ (g : Nat) (v : Value) (l : List UInt8) (W : World) : Prop := ∃ off c arr fz, v = .slice (some ⟨g, off, none⟩) l.length c ∧ l.length ≤ c ∧ (W.heap[g]? = some (.cells arr 5 fz) ∧ (fz = (0, 0) ∨ arr.size ≤ fz.1)) ∧ off + c ≤ arr.size ∧ ∀ j, (hj : j < l.length) → arr[off + j]? = some (.int .u8 (l[j]).toNat)
theorem zhA_ {w : World} {B T : Nat} {cs : Array Value} {fz : Nat × Nat} (h : w.heap[B]? = some (.cells cs T fz)) (j : Nat) : w.cell? ⟨B, j, none⟩ = cs[j]? := by simp [World.cell?, h]
theorem zrs_ {w : World} {B T : Nat} {cs : Array Value} {fz : Nat × Nat} (h : w.heap[B]? = some (.cells cs T fz)) (hf : fz = (0, 0) ∨ cs.size ≤ fz.1) (j : Nat) (hj : j < cs.size) : w.frozen? ⟨B, j, none⟩ = false := by
 obtain ⟨a, b⟩ := fz
 rcases hf with hf | hf
 · cases hf
   exact z8_ h j
 · simp only [World.frozen?, h]
   simp at hf
   have : ¬ a ≤ j := by omega
   simp [this]
theorem zkz_ {g : Nat} {v : Value} {l : List UInt8} {W : World} (h : zcF_ g v l W) : x8_ v l W := by
 obtain ⟨off, c, arr, fz, rfl, hc, ⟨hb, _⟩, hs, hg⟩ := h
 refine zbQ_ rfl hc fun _ => ⟨g, off, rfl, z4_ hb, fun j hj => ?_⟩
 rw [zhA_ hb, hg j hj, zak_ hj]
theorem zrt_ {g : Nat} {v : Value} {l : List UInt8} {w W : World} (h : zcF_ g v l w) (hg : W.heap[g]? = w.heap[g]?) : zcF_ g v l W := by
 obtain ⟨off, c, arr, fz, hv, hc, hb, hs, hj⟩ := h
 exact ⟨off, c, arr, fz, hv, hc, by rw [hg]; exact hb, hs, hj⟩
theorem zhB_ {g : Nat} {v : Value} {l : List UInt8} {W : World} (h : zcF_ g v l W) : ∃ off c, v = .slice (some ⟨g, off, none⟩) l.length c := by
 obtain ⟨off, c, _, _, hv, _⟩ := h
 exact ⟨off, c, hv⟩
theorem zru_ (g : Nat) (W0 : World) (v : Value) (l : List UInt8) (y : UInt8) (X : Int) (hX : X = y.toNat) (h : zcF_ g v l W0) (hlen : l.length ≤ 1000000) :
  ∃ g' off' c' w', (Builtin.append_ #[47, 47] 47 #[v, .slice (some ⟨W0.heap.size, 0, none⟩) 1 1]).run Tryz.prog (W0.alloc (.cells #[.int .u8 X] 5)) = .ok (.slice (some ⟨g', off', none⟩) (l.length + 1) c') w' ∧
   zcF_ g' (.slice (some ⟨g', off', none⟩) (l.length + 1) c') (l ++ [y]) w' ∧ (g' = g ∨ W0.heap.size < g') ∧ GL [g] W0 w' := by
 subst hX
 obtain ⟨off, c, arr, fz, rfl, hc, ⟨hb, hfz⟩, hs, hj⟩ := h
 obtain ⟨t0, ht0, ht1, ht2, ht3⟩ := info_parts Tryz.infoB8
 have hgl := z4_ hb
 have hb1 := x3_ hb (.cells #[.int .u8 (y.toNat : Int)] 5)
 have hsrc : Src Tryz.prog t0.size 47 (.slice (some ⟨W0.heap.size, 0, none⟩) 1 1) 1 [.int .u8 (y.toNat : Int)] (W0.alloc (.cells #[.int .u8 (y.toNat : Int)] 5)) := Src.ofSlice _ Tryz.underlying47 _ 1 1 _ (by rw [ht2]; rfl) (fun j u hu => by
  have hj0 : j = 0 := by
   have := (List.getElem?_eq_some_iff.1 hu).1
   simpa using this
  subst hj0
  simp at hu
  subst hu
  exact z0_ (y8_ W0 _) 0) (fun u hu => by
  simp at hu
  subst hu
  rfl)
 by_cases hroom : l.length + 1 ≤ c
 · have hr := run_append_room_src (P := Tryz.prog) (w := W0.alloc (.cells #[.int .u8 (y.toNat : Int)] 5)) 47 47 47 5 t0 Tryz.underlying47 ht0 g off l.length c _ 1 _ hsrc hroom (fun j hj1 => by
    rw [zhA_ hb1, ht2]
    have : j = 0 := by simpa using hj1
    subst this
    rw [Array.getElem?_eq_getElem om_]
    rfl) (fun j hj1 => zrs_ hb1 hfz _ (by
    have : j = 0 := by simpa using hj1
    rw [ht2]
    omega))
   rw [ht2] at hr
   refine ⟨g, off, c, _, hr, ⟨off, c, _, fz, by rw [List.length_append]; rfl, by rw [List.length_append]; exact hroom, ⟨zgF_ _ _ _ _ hb1 so_, hfz.imp id (fun h => by simp; omega)⟩, ?_, ?_⟩, .inl rfl, zce_ (.inl si_) _ _ _ (y2_ (y1_ _ _) _)⟩
   · simp
     omega
   · intro j hj2
     rw [List.length_append] at hj2
     simp only [List.length_cons, List.length_nil] at hj2
     rw [List.getElem?_toArray, List.append_assoc]
     by_cases hjl : j < l.length
     · rw [List.getElem?_append_left so_, List.getElem?_take_of_lt om_, Array.getElem?_toList, hj j hjl, List.getElem_append_left hjl]
     · have hje : j = l.length := by omega
       subst hje
       have e0 : (List.take (off + l.length * 1) arr.toList).length = off + l.length := by rw [List.length_take, show arr.toList.length = arr.size from Array.length_toList]; omega
       have e1 : (l ++ [y])[l.length] = y := by simp
       rw [List.getElem?_append_right (by rw [e0]; exact Nat.le_refl _), e0, Nat.sub_self, e1]
       rfl
 · have hold : (Builtin.firstCells t0.size l.length (.slice (some ⟨g, off, none⟩) l.length c)).run Tryz.prog (W0.alloc (.cells #[.int .u8 (y.toNat : Int)] 5)).drew = .ok (u8L l).toArray (W0.alloc (.cells #[.int .u8 (y.toNat : Int)] 5)).drew := run_firstCells_some _ t0.size l.length ⟨g, off, none⟩ l.length c (u8L l) (by rw [ht2, zaj_, Nat.mul_one]) (fun j u hu => by
    obtain ⟨h1, hu2⟩ := zex_ l j u hu
    have e : (⟨g, off, none⟩ : Addr).add j = ⟨g, off + j, none⟩ := by unfold Addr.add; split <;> simp_all
    rw [e]
    have := (zhA_ (w1_ hb1) (off + j)).trans (hj j h1)
    rw [hu2, zak_ h1]
    exact this)
   have hr := run_append_grow_src (P := Tryz.prog) (w := W0.alloc (.cells #[.int .u8 (y.toNat : Int)] 5)) 47 47 47 5 t0 (.int .u8 0) Tryz.underlying47 ht0 ht1 (some ⟨g, off, none⟩) l.length c (u8L l) hold _ 1 _ hsrc om_ om_ (by
    have := nextslicecap_le (need := l.length + 1) (old := c) om_
    rw [ht3]
    omega)
   have hge := grownCap_ge (W0.alloc (.cells #[.int .u8 (y.toNat : Int)] 5)) (l.length + 1) c 5
   refine ⟨_, 0, _, _, hr, ⟨0, _, _, (0, 0), by rw [List.length_append]; rfl, by rw [List.length_append]; exact hge, ⟨y8_ _ _, .inl rfl⟩, ?_, ?_⟩, .inr si_, y2_ (x9_ (y2_ (y1_ _ _) _)) _⟩
   · simp only [Array.size_append, List.size_toArray, size_zeroCells, List.length_append, zaj_]
     have : (Value.int IntKind.u8 0).cells.size = 1 := rfl
     rw [this]
     simp
     omega
   · intro j hj2
     rw [List.length_append] at hj2
     simp only [List.length_cons, List.length_nil] at hj2
     rw [Nat.zero_add, Array.getElem?_append_left (by simp [zaj_]; omega), List.getElem?_toArray]
     by_cases hjl : j < l.length
     · rw [List.getElem?_append_left (by rw [zaj_]; exact hjl), List.getElem_append_left hjl]
       unfold u8L
       rw [List.getElem?_map, List.getElem?_eq_getElem hjl]
       rfl
     · have hje : j = l.length := by omega
       subst hje
       have e1 : (l ++ [y])[l.length] = y := by simp
       rw [List.getElem?_append_right (by rw [zaj_]; omega), zaj_, Nat.sub_self, e1]
       rfl
theorem zkA_ : ∀ c : Fin 256, bits .and .u8 (c.val : Int) 1 = ((c.val % 2 : Nat) : Int) := by decide +kernel
theorem zhC_ {lo lo' : Nat} {v : Value} {l : List UInt8} {w : World} (h : x1_ lo' v l w) (hl : lo ≤ lo') : x1_ lo v l w := by
 unfold x1_ at h ⊢
 refine ⟨h.1, ?_⟩
 rcases h.2 with h2 | ⟨g, cap, cur, h1, hb, h3⟩
 · exact .inl h2
 · exact .inr ⟨g, cap, cur, h1, Nat.le_trans hl hb, h3⟩
theorem zkB_ {lo : Nat} {v : Value} {l : List UInt8} {w : World} (h : x1_ lo v l w) (h0 : l ≠ []) : ∃ g, lo ≤ g ∧ zcF_ g v l w := by
 unfold x1_ at h
 have hpos := List.length_pos_iff.2 h0
 rcases h.2 with ⟨_, h2⟩ | ⟨g, cap, cur, hv, hb, hg, hnc, hcm, hcs, htake⟩
 · omega
 · refine ⟨g, hb, 0, cap, cur, (0, 0), hv, hnc, ⟨hg, .inl rfl⟩, by omega, fun j hj => ?_⟩
   rw [Nat.zero_add]
   rw [Nat.mul_one] at htake
   have := zfz_ (l := l) (cur := cur) htake j hj
   rw [this, zak_ hj]
theorem zfV_ (n v : Nat) : ∀ x ∈ z1_ 2 n v, x.toNat < 2 := zfa_ om_ om_ n v
def zb5_ (g : Nat) (v : Value) (l : List UInt8) (W : World) : Prop := ∃ a c, v = .slice a l.length c ∧ l.length ≤ c ∧ (l ≠ [] → zcF_ g v l W)
theorem zhD_ {g : Nat} {v : Value} {l : List UInt8} {W : World} (h : zb5_ g v l W) : x8_ v l W := by
 obtain ⟨a, c, rfl, hc, ht⟩ := h
 by_cases h0 : l = []
 · subst h0
   exact zbQ_ rfl si_ (fun h => absurd rfl h)
 · exact zkz_ (ht h0)
theorem zkC_ {g : Nat} {v : Value} {l : List UInt8} {w W : World} (h : zb5_ g v l w) (hg : W.heap[g]? = w.heap[g]?) : zb5_ g v l W := by
 obtain ⟨a, c, hv, hc, ht⟩ := h
 exact ⟨a, c, hv, hc, fun h0 => zrt_ (ht h0) hg⟩
theorem zkD_ {g off n c k : Nat} {l : List UInt8} {W : World} (h : zb5_ g (.slice (some ⟨g, off, none⟩) n c) l W) (hk : k ≤ l.length) (hn : n = l.length) : zb5_ g (.slice (some ⟨g, off + k, none⟩) (n - k) (c - k)) (l.drop k) W := by
 obtain ⟨a, c', hv, hc, ht⟩ := h
 injection hv with e1 e2 e3
 subst e1 e3
 refine ⟨_, _, by rw [List.length_drop, hn], by rw [List.length_drop]; omega, fun h0 => ?_⟩
 have hl0 : l ≠ [] := fun e => by subst e; exact h0 si_
 obtain ⟨off', c2, arr, fz, hv2, hc2, hb, hs, hj⟩ := ht hl0
 injection hv2 with e1 _ e3
 injection e1 with e1
 injection e1 with _ e1
 subst e1 e3
 rw [hn]
 refine ⟨off + k, c - k, arr, fz, by rw [List.length_drop], by rw [List.length_drop]; omega, hb, by omega, fun j hj2 => ?_⟩
 rw [List.length_drop] at hj2
 rw [Nat.add_assoc, hj (k + j) om_, List.getElem_drop]
theorem zrv_ (l : List UInt8) (bv : Value) (w : World) (hin : x8_ bv l w) (hll : l.length ≤ 100000) :
  Calls Tryz.prog 90 #[bv, .int .i64 8, .int .i64 5, .bool true] w fun e w' => zd0_ w.heap.size (w7_ 8 5 true l) e w' ∧ Below w.heap.size w w' := by
 obtain ⟨ba, bc, hbv, hbc, hb0⟩ := j6_ hin
 subst hbv
 have HB0 := Lib.hid hb0
 clear hin hb0
 go_enter Tryz.func90, Tryz.ntmps90
 go_wp2_with fail
 go_loopw [10, 11] (fun v iv wr => ∃ i V : Nat, i ≤ l.length ∧ iv = .int .i64 (i : Int) ∧ Hid (V = y3_ 256 (l.take i)) ∧ Hid (∀ x ∈ l.take i, x.toNat < 256) ∧ Hid (x1_ w.heap.size v (z1_ 2 (8 * i) V) wr) ∧ Hid (GL [] w wr)) (fun _ iv _ => l.length - (intOf iv).toNat)
 case atStart => exact ⟨0, 0, by omega, rfl, Lib.hid rfl, Lib.hid (fun x hx => by simp at hx), Lib.hid (zbN_ _ _), Lib.hid (y1_ _ _)⟩
 case round =>
  obtain ⟨i, V, hi, rfl, HV, HS, HO, HL⟩ := hrel
  obtain ⟨ad, c, hv⟩ := zaO_ HO.out
  subst hv
  rw [y9_] at HO ⊢
  by_cases hlt : i < l.length
  · obtain ⟨G, o, hba, hbt⟩ := HB0.out (by intro e; subst e; simp at hlt)
    subst hba
    have fc : wr.cell? ⟨G, o + i, none⟩ = some (.int .u8 (l.getD i 0).toNat) := zbF_ hbt.1 (hbt.2 i hlt) HL.out
    have hc := (l.getD i 0).toNat_lt
    have hi0 : (0 : Int) ≤ i := by omega
    have hi1 : (i : Int) < l.length := by omega
    have hlb : decide ((i : Int) < l.length) = true := by simp; omega
    have HVS : Hid (y3_ 256 (l.take (i + 1)) = V * 2 ^ 8 + (l.getD i 0).toNat) := Lib.hid (by rw [List.take_succ_eq_append_getElem hlt, zcy_, HV.out, zak_ hlt])
    by_cases hbig : 256 ≤ (l.getD i 0).toNat
    · have hnone : w7_ 8 5 true l = none := by
       unfold w7_
       rw [if_pos]
       rw [List.any_eq_true]
       exact ⟨l.getD i 0, by rw [zak_ hlt]; exact List.getElem_mem hlt, by simpa using hbig⟩
      have HNO := Lib.hid hnone
      clear hnone HVS
      generalize (l.getD i 0).toNat = x at *
      have hbb : decide ((256 : Int) ≤ x) = true := by simp; omega
      have hbx : IntKind.i64.wrap (x : Int) = x := IntWalk.i64_in _ om_
      go_wp2_with fail
      go_region
      go_wp2_with fail
      exact bodyPost_ret (v := .tuple #[.slice none 0 0, .int .i64 50]) (by simp [results, Tryz.results90, go_sem]) rfl ⟨zcf_ HNO.out, y0_ (x9_ HL.out)⟩
    · have HS2 : Hid (∀ x ∈ l.take (i + 1), x.toNat < 256) := Lib.hid (fun x hx => by
       rw [List.take_succ_eq_append_getElem hlt] at hx
       rcases List.mem_append.1 hx with hx | hx
       · exact HS.out x hx
       · simp at hx
         subst hx
         rw [zak_ hlt] at hbig
         omega)
      generalize (l.getD i 0).toNat = x at *
      have hbb : decide ((256 : Int) ≤ x) = false := by simp; omega
      have hbx : IntKind.i64.wrap (x : Int) = x := IntWalk.i64_in _ om_
      have fcd : wr.drew.cell? ⟨G, o + i, none⟩ = some (.int .u8 x) := fc
      have HO1 : Hid (x1_ w.heap.size (.slice ad (8 * i) c) (z1_ 2 (8 * i) V) wr.drew) := Lib.hid HO.out.drew
      have HL1 : Hid (GL [] w wr.drew) := Lib.hid (x9_ HL.out)
      go_wp2_with fail
      go_region
      clear fc HO HL hbb
      generalize wr.drew = w1 at *
      have HBX := Lib.hid (show G < w.heap.size from hbt.1)
      have HFC : Hid (w.cell? ⟨G, o + i, none⟩ = some (.int .u8 x)) := Lib.hid (by
       have := fcd
       simp only [World.cell?, HL1.out.block _ hbt.1 si_] at this ⊢
       exact this)
      clear fcd
      go_wp2_with fail
      go_loopw [10, 12] (fun v kv wr => ∃ m : Nat, m ≤ 8 ∧ kv = .int .i64 (7 - (m : Int)) ∧ Hid (x1_ w.heap.size v (z1_ 2 (8 * i + m) ((V * 2 ^ 8 + x) / 2 ^ (8 - m))) wr) ∧ Hid (GL [] w wr)) (fun _ kv _ => (intOf kv + 1).toNat)
      case atStart => exact ⟨0, by omega, rfl, Lib.hid (by rw [Nat.add_zero, Nat.sub_zero, show (V * 2 ^ 8 + x) / 2 ^ 8 = V by omega]; exact HO1.out), HL1⟩
      case round =>
       obtain ⟨m, hm, rfl, HO2, HL2⟩ := hrel
       obtain ⟨ad2, c2, hv2⟩ := zaO_ HO2.out
       subst hv2
       rw [y9_] at HO2 ⊢
       by_cases hmf : m < 8
       · obtain ⟨K, hK⟩ : ∃ K : Nat, K = 7 - m := ⟨_, rfl⟩
         rw [show (7 - (m : Int)) = (K : Int) by omega]
         have hK0 : (0 : Int) ≤ K := by omega
         have hKd : decide ((0 : Int) ≤ K) = true := by simp
         have fx : wr.cell? ⟨G, o + i, none⟩ = some (.int .u8 x) := zbF_ HBX.out HFC.out HL2.out
         have hrb := zkw_ (8 * i + m) (V * 2 ^ 8 + x) (8 - m) om_
         have hlow := zkx_ V x 8 K om_
         rw [show 8 - m - 1 = K by omega, hlow] at hrb
         have HRB := Lib.hid hrb
         have hxk : x / 2 ^ K < 256 := Nat.lt_of_le_of_lt (Nat.div_le_self _ _) om_
         have hand := zkA_ ⟨x / 2 ^ K, hxk⟩
         simp only at hand
         have hX : bits .and .u8 ((x : Int) / 2 ^ K) 1 = (UInt8.ofNat (x / 2 ^ K % 2)).toNat := by
          rw [UInt8.toNat_ofNat']
          have e : ((x / 2 ^ K : Nat) : Int) = (x : Int) / 2 ^ K := by push_cast; rfl
          rw [← e, hand]
          omega
         obtain ⟨g3, c3, w3, hrun3, hown3, hl3⟩ := zbj_ w wr _ _ (UInt8.ofNat (x / 2 ^ K % 2)) _ hX HO2.out (by rw [y9_]; omega) HL2.out
         rw [y9_] at hrun3 hown3
         rw [← HRB.out] at hown3
         have HRUN := Lib.hid hrun3
         have HO3 : Hid (x1_ w.heap.size (.slice (some ⟨g3, 0, none⟩) (8 * i + m + 1) c3) (z1_ 2 (8 * i + (m + 1)) ((V * 2 ^ 8 + x) / 2 ^ (8 - (m + 1)))) w3) := Lib.hid (by rw [show 8 - (m + 1) = K by omega]; exact hown3)
         have HL3 := Lib.hid hl3
         have HK := Lib.hid hK
         have hK9 : K ≤ 7 := by omega
         clear hrun3 hown3 hl3 hX hK hand hrb hlow hxk
         go_wp2_with (at_builtin; refine w8_ _ rfl (.tmp 48) (.tmp 56) 47 47 rfl _ _ (by simp [Act.eval, Act.put]) (by simp [Act.eval, Act.put]) HRUN.out ?_)
         exact ⟨⟨m + 1, by omega, by have := HK.out; go_num, HO3, HL3⟩, by have := HK.out; first | (simp [intOf]; done) | (simp [intOf]; omega)⟩
       · obtain rfl : m = 8 := by omega
         have HO3 : Hid (x1_ w.heap.size (.slice ad2 (8 * i + 8) c2) (z1_ 2 (8 * (i + 1)) (V * 2 ^ 8 + x)) wr) := Lib.hid (by
          have := HO2.out
          rw [Nat.sub_self, Nat.pow_zero, Nat.div_one] at this
          exact this)
         go_wp2_with fail
         exact ⟨⟨i + 1, V * 2 ^ 8 + x, by omega, by go_num, Lib.hid HVS.out.symm, HS2, HO3, HL2⟩, by simp [intOf]; omega⟩
  · obtain rfl : i = l.length := by omega
    have hlb : decide (((l.length : Nat) : Int) < l.length) = false := by simp
    rw [List.take_length] at HV HS
    clear hlt
    obtain ⟨N, hN⟩ : ∃ N, N = 8 * l.length := ⟨_, rfl⟩
    rw [← hN] at HO ⊢
    have HNN := Lib.hid hN
    have hNb : N ≤ 800000 := by omega
    clear hN
    generalize hwa : wr = wa at *
    clear hwa
    obtain ⟨g, hgw, hgl, hra⟩ : ∃ g, w.heap.size ≤ g ∧ (0 < N → g < wa.heap.size) ∧ zb5_ g (.slice ad N c) (z1_ 2 N V) wa := by
     by_cases h0 : z1_ 2 N V = []
     · have hN0 : N = 0 := by have := congrArg List.length h0; rw [y9_] at this; exact this
       subst hN0
       exact ⟨w.heap.size, Nat.le_refl _, by omega, ad, c, rfl, by simp [z1_], fun h => absurd rfl h⟩
     · obtain ⟨g, h1, h2⟩ := zkB_ HO.out h0
       refine ⟨g, h1, fun _ => ?_, ad, c, by rw [y9_], ?_, fun _ => h2⟩
       · obtain ⟨_, _, _, _, _, _, ⟨hb, _⟩, _⟩ := h2
         exact z4_ hb
       · obtain ⟨_, c', hv', hc', _⟩ : ∃ off c' , (Value.slice ad N c) = .slice (some ⟨g, off, none⟩) (z1_ 2 N V).length c' ∧ (z1_ 2 N V).length ≤ c' ∧ True := by
          obtain ⟨off, c', _, _, hv', hc', _⟩ := h2
          exact ⟨off, c', hv', hc', trivial⟩
         injection hv' with _ _ e3
         subst e3
         exact hc'
    have HRA := Lib.hid hra
    clear hra HO
    go_wp2_with fail
    go_loopw [10, 13] (fun rv ov wr => ∃ j m : Nat, 5 * j + m = N ∧ Hid (zb5_ g rv (z1_ 2 m V) wr) ∧ Hid (x1_ wa.heap.size ov (z1_ 32 j (V / 2 ^ m)) wr) ∧ Hid (GL [] wa wr)) (fun rv _ _ => lenV rv)
    case atStart => exact ⟨0, N, by omega, HRA, Lib.hid (zbN_ _ _), Lib.hid (y1_ _ _)⟩
    case round =>
     obtain ⟨j, m, hjm, HR, HOo, HLa⟩ := hrel
     obtain ⟨oa, oc, hov⟩ := zaO_ HOo.out
     subst hov
     rw [y9_] at HOo ⊢
     obtain ⟨ra, rc, hrv, hrc, hrt⟩ := HR.out
     subst hrv
     rw [y9_] at hrc
     rw [y9_] at HR ⊢
     by_cases hmt : 5 ≤ m
     · obtain ⟨m', hm'⟩ : ∃ m', m = 5 + m' := ⟨m - 5, by omega⟩
       subst hm'
       obtain ⟨off, c', htv⟩ := zhB_ (hrt (fun e => by have := congrArg List.length e; rw [y9_] at this; first | (simp at this; done) | (simp at this; omega)))
       injection htv with e1 _ e3
       subst e1 e3
       have hgl2 := hgl om_
       have hI1 := zdH_ (zhD_ HR.out) (n := 5) (c2 := rc) (by rw [y9_]; omega) om_
       rw [zku_] at hI1
       have HNUM := Lib.hid (zfU_ (z1_ 2 5 (V / 2 ^ m')) (by rw [y9_]; omega) (zfV_ _ _) _ wr hI1)
       rw [zeT_ om_ om_] at HNUM
       have hmod : V / 2 ^ m' % 2 ^ 5 < 256 := Nat.lt_of_lt_of_le (Nat.mod_lt _ om_) om_
       have hX : (((V / 2 ^ m' % 2 ^ 5 : Nat)) : Int) = (UInt8.ofNat (V / 2 ^ m' % 2 ^ 5)).toNat := by rw [UInt8.toNat_ofNat']; omega
       obtain ⟨g3, c3, w3, hrun3, hown3, hl3⟩ := zbj_ wa wr _ _ (UInt8.ofNat (V / 2 ^ m' % 2 ^ 5)) _ hX HOo.out (by rw [y9_]; omega) HLa.out
       have hst := zeG_ 5 j (5 + m') V om_
       rw [show 5 + m' - 5 = m' by omega] at hst
       rw [y9_] at hrun3 hown3
       rw [show (32 : Nat) = 2 ^ 5 by decide, ← hst] at hown3
       have HRUN := Lib.hid hrun3
       have HO3 : Hid (x1_ wa.heap.size (.slice (some ⟨g3, 0, none⟩) (j + 1) c3) (z1_ 32 (j + 1) (V / 2 ^ m')) w3) := Lib.hid hown3
       have HL3 := Lib.hid hl3
       have HRB : Hid (zb5_ g (.slice (some ⟨g, off, none⟩) (5 + m') rc) (z1_ 2 (5 + m') V) w3) := Lib.hid (zkC_ HR.out (by rw [hl3.block _ hgl2 si_, HLa.out.block _ hgl2 si_]))
       have hmI : ((5 : Int)) ≤ ((5 + m' : Nat) : Int) := by omega
       have hdm : decide (((5 : Int)) ≤ ((5 + m' : Nat) : Int)) = true := by rw [decide_eq_true_eq]; omega
       have hrc2 : 5 ≤ rc := by omega
       generalize V / 2 ^ m' % 2 ^ 5 = XX at *
       clear hrun3 hown3 hl3 hX hst hI1
       by_cases hct : rc = 5
       · have hm0 : m' = 0 := by omega
         subst hm0 hct
         have HRE : Hid (∀ W, zb5_ g (.slice (some ⟨g, off, none⟩) 0 0) (z1_ 2 0 V) W) := Lib.hid (fun W => ⟨_, _, rfl, by simp [z1_], fun h => absurd rfl h⟩)
         go_wp2_with (first | (go_at_call 135; refine HNUM.out.mono ?_; rintro e w9 ⟨rfl, hw9⟩; subst hw9) | (at_builtin; refine w8_ _ rfl (.tmp 62) (.tmp 67) 47 47 rfl _ _ (by simp [Act.eval, Act.put]) (by simp [Act.eval, Act.put]) HRUN.out ?_))
         exact ⟨⟨j + 1, 0, by omega, Lib.hid (HRE.out _), HO3, HL3⟩, by simp [lenV]⟩
       · go_wp2_with (first | (go_at_call 135; refine HNUM.out.mono ?_; rintro e w9 ⟨rfl, hw9⟩; subst hw9) | (at_builtin; refine w8_ _ rfl (.tmp 62) (.tmp 67) 47 47 rfl _ _ (by simp [Act.eval, Act.put]) (by simp [Act.eval, Act.put]) HRUN.out ?_))
         have HRD := zkD_ HRB.out (k := 5) (by rw [y9_]; omega) (by rw [y9_])
         rw [zkv_, show 5 + m' - 5 = m' by omega] at HRD
         exact ⟨⟨j + 1, m', by omega, Lib.hid HRD, HO3, HL3⟩, by simp [lenV]⟩
     · have hmt2 : m < 5 := by omega
       have hdm : decide (((5 : Int)) ≤ (m : Int)) = false := by simp; omega
       have hNl := HNN.out
       have hnm : 8 * l.length % 5 = m := by omega
       have hnj : 8 * l.length / 5 = j := by omega
       have HSS := Lib.hid (zcS_ (n := 256) HS.out)
       have HVV := Lib.hid HV.out
       have HLw : Hid (GL [] w wr) := Lib.hid (y7_ HLa.out HL.out si_)
       have hwl : w.heap.size ≤ wa.heap.size := HL.out.size
       clear HL
       by_cases hm0 : m = 0
       · subst hm0
         have hsome : w7_ 8 5 true l = some (z1_ 32 j (V / 2 ^ 0)) := by
          unfold w7_
          rw [if_neg (by rw [show (2 ^ 8 : Nat) = 256 by decide, HSS.out]; simp), if_pos rfl, if_pos hnm, hnj, show (2 ^ 8 : Nat) = 256 by decide, ← HVV.out, Nat.pow_zero, Nat.div_one]
         go_wp2_with fail
         exact bodyPost_ret (v := .tuple #[.slice oa j oc, .int .i64 0]) (by simp [results, Tryz.results90, go_sem]) rfl ⟨zb1_ hsome (zhC_ HOo.out hwl), y0_ HLw.out⟩
       · have hm1 : 0 < m := by omega
         have hd0 : decide ((0 : Int) < (m : Int)) = true := by simp; omega
         have HTT := Lib.hid (hrt (fun e => by have := congrArg List.length e; rw [y9_] at this; first | (simp at this; done) | (simp at this; omega)))
         rw [y9_] at HTT
         have hg5 := hgl om_
         have HBK : Hid (∀ b, (Value.slice oa j oc).ownBlock = some b → b ≠ g) := Lib.hid (fun b hb => by have := v4_ HOo.out b hb; omega)
         go_wp2_with fail
         go_loopw [10] (fun rv wr => ∃ k g' : Nat, m + k ≤ 5 ∧ w.heap.size ≤ g' ∧ Hid (zcF_ g' rv (z1_ 2 m V ++ List.replicate k 0) wr) ∧ Hid (∀ b, (Value.slice oa j oc).ownBlock = some b → b ≠ g') ∧ Hid (x1_ wa.heap.size (.slice oa j oc) (z1_ 32 j (V / 2 ^ m)) wr) ∧ Hid (GL [] w wr)) (fun rv _ => 5 - lenV rv)
         case atStart => exact ⟨0, g, by omega, hgw, Lib.hid (by rw [List.replicate_zero, List.append_nil]; exact HTT.out), HBK, HOo, HLw⟩
         case round =>
          obtain ⟨k, g', hmk, hgw', HT, HBK', HOo', HLw'⟩ := hrel
          obtain ⟨off', c', hrv⟩ := zhB_ HT.out
          subst hrv
          have hlk : (z1_ 2 m V ++ List.replicate k 0).length = m + k := by rw [List.length_append, y9_, List.length_replicate]
          rw [hlk] at HT ⊢
          by_cases hlt : m + k < 5
          · have hdl : decide (((m + k : Nat) : Int) < 5) = true := by rw [decide_eq_true_eq]; omega
            obtain ⟨g3, off3, c3, w3, hrun3, ht3, hgg, hl3⟩ := zru_ g' wr _ _ 0 0 rfl HT.out (by rw [hlk]; omega)
            rw [hlk] at hrun3 ht3
            have HRUN := Lib.hid hrun3
            have HT3 : Hid (zcF_ g3 (.slice (some ⟨g3, off3, none⟩) (m + k + 1) c3) (z1_ 2 m V ++ List.replicate (k + 1) 0) w3) := Lib.hid (by rw [List.replicate_succ', ← List.append_assoc]; exact ht3)
            have hg3w : w.heap.size ≤ g3 := by
             have := HLw'.out.size
             rcases hgg with h | h <;> omega
            have HBK3 : Hid (∀ b, (Value.slice oa j oc).ownBlock = some b → b ≠ g3) := Lib.hid (fun b hb => by
             rcases hgg with h | h
             · rw [h]; exact HBK'.out b hb
             · have := (v4_ HOo'.out b hb).2
               omega)
            have HO3 : Hid (x1_ wa.heap.size (.slice oa j oc) (z1_ 32 j (V / 2 ^ m)) w3) := Lib.hid (znO_ HOo'.out hl3 (fun r hr hb => HBK'.out r hb (by simpa using hr)))
            have HL3 : Hid (GL [] w w3) := Lib.hid (y7_ hl3 HLw'.out (fun r hr => .inr (by obtain rfl : r = g' := (by simpa using hr); exact hgw')))
            clear hrun3 ht3 hl3 HSS HVV
            go_wp2_with (at_builtin; refine w8_ _ rfl (.tmp 82) (.tmp 83) 47 47 rfl _ _ (by simp [Act.eval, Act.put]) (by simp [Act.eval, Act.put]) HRUN.out ?_)
            exact ⟨⟨k + 1, g3, by omega, hg3w, HT3, HBK3, HO3, HL3⟩, by simp [lenV]; omega⟩
          · have hmk2 : m + k = 5 := by omega
            have hdl : decide (((m + k : Nat) : Int) < 5) = false := by rw [decide_eq_false_iff_not]; omega
            have hkt : k = 5 - m := by omega
            have hz := zky_ m V k
            have HNUM := Lib.hid (zfU_ (z1_ 2 m V ++ List.replicate k 0) (by rw [hlk]; omega) (by rw [hz]; exact zfV_ _ _) _ wr (zkz_ HT.out))
            rw [hz, zeT_ om_ om_, hmk2, hkt] at HNUM
            have hmod : V * 2 ^ (5 - m) % 2 ^ 5 < 256 := Nat.lt_of_lt_of_le (Nat.mod_lt _ om_) om_
            have hX : (((V * 2 ^ (5 - m) % 2 ^ 5 : Nat)) : Int) = (UInt8.ofNat (V * 2 ^ (5 - m) % 2 ^ 5)).toNat := by rw [UInt8.toNat_ofNat']; omega
            obtain ⟨g3, c3, w3, hrun3, hown3, hl3⟩ := zbj_ w wr _ _ (UInt8.ofNat (V * 2 ^ (5 - m) % 2 ^ 5)) _ hX (zhC_ HOo'.out hwl) (by rw [y9_]; omega) HLw'.out
            have hpl := zrp_ 5 j V m om_
            rw [y9_] at hrun3 hown3
            rw [show (32 : Nat) = 2 ^ 5 by decide, ← hpl] at hown3
            have hsome : w7_ 8 5 true l = some (z1_ (2 ^ 5) (j + 1) (V * 2 ^ (5 - m))) := by
             unfold w7_
             rw [if_neg (by rw [show (2 ^ 8 : Nat) = 256 by decide, HSS.out]; simp), if_pos rfl, if_neg (by rw [hnm]; exact hm0), hnj, hnm, show (2 ^ 8 : Nat) = 256 by decide, ← HVV.out]
            have HRUN := Lib.hid hrun3
            have HSO := Lib.hid hsome
            have HO3 := Lib.hid hown3
            have HL3 := Lib.hid hl3
            clear hrun3 hown3 hl3 hX hpl hsome hz
            generalize V * 2 ^ (5 - m) % 2 ^ 5 = XX at *
            rw [hmk2]
            go_wp2_with (first | (go_at_call 135; refine HNUM.out.mono ?_; rintro e w9 ⟨rfl, hw9⟩; subst hw9) | (at_builtin; refine w8_ _ rfl (.tmp 85) (.tmp 88) 47 47 rfl _ _ (by simp [Act.eval, Act.put]) (by simp [Act.eval, Act.put]) HRUN.out ?_))
            exact bodyPost_ret (v := .tuple #[.slice (some ⟨g3, 0, none⟩) (j + 1) c3, .int .i64 0]) (by simp [results, Tryz.results90, go_sem]) rfl ⟨zb1_ HSO.out HO3.out, y0_ HL3.out⟩
theorem zkE_ (l : List UInt8) (bv : Value) (w : World) (hin : x8_ bv l w) (hll : l.length ≤ 100000) :
  Calls Tryz.prog 90 #[bv, .int .i64 5, .int .i64 8, .bool false] w fun e w' => zd0_ w.heap.size (w7_ 5 8 false l) e w' ∧ Below w.heap.size w w' := by
 obtain ⟨ba, bc, hbv, hbc, hb0⟩ := j6_ hin
 subst hbv
 have HB0 := Lib.hid hb0
 clear hin hb0
 go_enter Tryz.func90, Tryz.ntmps90
 go_wp2_with fail
 go_loopw [10, 11] (fun v iv wr => ∃ i V : Nat, i ≤ l.length ∧ iv = .int .i64 (i : Int) ∧ Hid (V = y3_ 32 (l.take i)) ∧ Hid (∀ x ∈ l.take i, x.toNat < 32) ∧ Hid (x1_ w.heap.size v (z1_ 2 (5 * i) V) wr) ∧ Hid (GL [] w wr)) (fun _ iv _ => l.length - (intOf iv).toNat)
 case atStart => exact ⟨0, 0, by omega, rfl, Lib.hid rfl, Lib.hid (fun x hx => by simp at hx), Lib.hid (zbN_ _ _), Lib.hid (y1_ _ _)⟩
 case round =>
  obtain ⟨i, V, hi, rfl, HV, HS, HO, HL⟩ := hrel
  obtain ⟨ad, c, hv⟩ := zaO_ HO.out
  subst hv
  rw [y9_] at HO ⊢
  by_cases hlt : i < l.length
  · obtain ⟨G, o, hba, hbt⟩ := HB0.out (by intro e; subst e; simp at hlt)
    subst hba
    have fc : wr.cell? ⟨G, o + i, none⟩ = some (.int .u8 (l.getD i 0).toNat) := zbF_ hbt.1 (hbt.2 i hlt) HL.out
    have hc := (l.getD i 0).toNat_lt
    have hi0 : (0 : Int) ≤ i := by omega
    have hi1 : (i : Int) < l.length := by omega
    have hlb : decide ((i : Int) < l.length) = true := by simp; omega
    have HVS : Hid (y3_ 32 (l.take (i + 1)) = V * 2 ^ 5 + (l.getD i 0).toNat) := Lib.hid (by rw [List.take_succ_eq_append_getElem hlt, zcy_, HV.out, zak_ hlt])
    by_cases hbig : 32 ≤ (l.getD i 0).toNat
    · have hnone : w7_ 5 8 false l = none := by
       unfold w7_
       rw [if_pos]
       rw [List.any_eq_true]
       exact ⟨l.getD i 0, by rw [zak_ hlt]; exact List.getElem_mem hlt, by simpa using hbig⟩
      have HNO := Lib.hid hnone
      clear hnone HVS
      generalize (l.getD i 0).toNat = x at *
      have hbb : decide ((32 : Int) ≤ x) = true := by simp; omega
      have hbx : IntKind.i64.wrap (x : Int) = x := IntWalk.i64_in _ om_
      go_wp2_with fail
      go_region
      go_wp2_with fail
      exact bodyPost_ret (v := .tuple #[.slice none 0 0, .int .i64 50]) (by simp [results, Tryz.results90, go_sem]) rfl ⟨zcf_ HNO.out, y0_ (x9_ HL.out)⟩
    · have HS2 : Hid (∀ x ∈ l.take (i + 1), x.toNat < 32) := Lib.hid (fun x hx => by
       rw [List.take_succ_eq_append_getElem hlt] at hx
       rcases List.mem_append.1 hx with hx | hx
       · exact HS.out x hx
       · simp at hx
         subst hx
         rw [zak_ hlt] at hbig
         omega)
      generalize (l.getD i 0).toNat = x at *
      have hbb : decide ((32 : Int) ≤ x) = false := by simp; omega
      have hbx : IntKind.i64.wrap (x : Int) = x := IntWalk.i64_in _ om_
      have fcd : wr.drew.cell? ⟨G, o + i, none⟩ = some (.int .u8 x) := fc
      have HO1 : Hid (x1_ w.heap.size (.slice ad (5 * i) c) (z1_ 2 (5 * i) V) wr.drew) := Lib.hid HO.out.drew
      have HL1 : Hid (GL [] w wr.drew) := Lib.hid (x9_ HL.out)
      go_wp2_with fail
      go_region
      clear fc HO HL hbb
      generalize wr.drew = w1 at *
      have HBX := Lib.hid (show G < w.heap.size from hbt.1)
      have HFC : Hid (w.cell? ⟨G, o + i, none⟩ = some (.int .u8 x)) := Lib.hid (by
       have := fcd
       simp only [World.cell?, HL1.out.block _ hbt.1 si_] at this ⊢
       exact this)
      clear fcd
      go_wp2_with fail
      go_loopw [10, 12] (fun v kv wr => ∃ m : Nat, m ≤ 5 ∧ kv = .int .i64 (4 - (m : Int)) ∧ Hid (x1_ w.heap.size v (z1_ 2 (5 * i + m) ((V * 2 ^ 5 + x) / 2 ^ (5 - m))) wr) ∧ Hid (GL [] w wr)) (fun _ kv _ => (intOf kv + 1).toNat)
      case atStart => exact ⟨0, by omega, rfl, Lib.hid (by rw [Nat.add_zero, Nat.sub_zero, show (V * 2 ^ 5 + x) / 2 ^ 5 = V by omega]; exact HO1.out), HL1⟩
      case round =>
       obtain ⟨m, hm, rfl, HO2, HL2⟩ := hrel
       obtain ⟨ad2, c2, hv2⟩ := zaO_ HO2.out
       subst hv2
       rw [y9_] at HO2 ⊢
       by_cases hmf : m < 5
       · obtain ⟨K, hK⟩ : ∃ K : Nat, K = 4 - m := ⟨_, rfl⟩
         rw [show (4 - (m : Int)) = (K : Int) by omega]
         have hK0 : (0 : Int) ≤ K := by omega
         have hKd : decide ((0 : Int) ≤ K) = true := by simp
         have fx : wr.cell? ⟨G, o + i, none⟩ = some (.int .u8 x) := zbF_ HBX.out HFC.out HL2.out
         have hrb := zkw_ (5 * i + m) (V * 2 ^ 5 + x) (5 - m) om_
         have hlow := zkx_ V x 5 K om_
         rw [show 5 - m - 1 = K by omega, hlow] at hrb
         have HRB := Lib.hid hrb
         have hxk : x / 2 ^ K < 256 := Nat.lt_of_le_of_lt (Nat.div_le_self _ _) om_
         have hand := zkA_ ⟨x / 2 ^ K, hxk⟩
         simp only at hand
         have hX : bits .and .u8 ((x : Int) / 2 ^ K) 1 = (UInt8.ofNat (x / 2 ^ K % 2)).toNat := by
          rw [UInt8.toNat_ofNat']
          have e : ((x / 2 ^ K : Nat) : Int) = (x : Int) / 2 ^ K := by push_cast; rfl
          rw [← e, hand]
          omega
         obtain ⟨g3, c3, w3, hrun3, hown3, hl3⟩ := zbj_ w wr _ _ (UInt8.ofNat (x / 2 ^ K % 2)) _ hX HO2.out (by rw [y9_]; omega) HL2.out
         rw [y9_] at hrun3 hown3
         rw [← HRB.out] at hown3
         have HRUN := Lib.hid hrun3
         have HO3 : Hid (x1_ w.heap.size (.slice (some ⟨g3, 0, none⟩) (5 * i + m + 1) c3) (z1_ 2 (5 * i + (m + 1)) ((V * 2 ^ 5 + x) / 2 ^ (5 - (m + 1)))) w3) := Lib.hid (by rw [show 5 - (m + 1) = K by omega]; exact hown3)
         have HL3 := Lib.hid hl3
         have HK := Lib.hid hK
         have hK9 : K ≤ 7 := by omega
         clear hrun3 hown3 hl3 hX hK hand hrb hlow hxk
         go_wp2_with (at_builtin; refine w8_ _ rfl (.tmp 48) (.tmp 56) 47 47 rfl _ _ (by simp [Act.eval, Act.put]) (by simp [Act.eval, Act.put]) HRUN.out ?_)
         exact ⟨⟨m + 1, by omega, by have := HK.out; go_num, HO3, HL3⟩, by have := HK.out; first | (simp [intOf]; done) | (simp [intOf]; omega)⟩
       · obtain rfl : m = 5 := by omega
         have HO3 : Hid (x1_ w.heap.size (.slice ad2 (5 * i + 5) c2) (z1_ 2 (5 * (i + 1)) (V * 2 ^ 5 + x)) wr) := Lib.hid (by
          have := HO2.out
          rw [Nat.sub_self, Nat.pow_zero, Nat.div_one] at this
          exact this)
         go_wp2_with fail
         exact ⟨⟨i + 1, V * 2 ^ 5 + x, by omega, by go_num, Lib.hid HVS.out.symm, HS2, HO3, HL2⟩, by simp [intOf]; omega⟩
  · obtain rfl : i = l.length := by omega
    have hlb : decide (((l.length : Nat) : Int) < l.length) = false := by simp
    rw [List.take_length] at HV HS
    clear hlt
    obtain ⟨N, hN⟩ : ∃ N, N = 5 * l.length := ⟨_, rfl⟩
    rw [← hN] at HO ⊢
    have HNN := Lib.hid hN
    have hNb : N ≤ 800000 := by omega
    clear hN
    generalize hwa : wr = wa at *
    clear hwa
    obtain ⟨g, hgw, hgl, hra⟩ : ∃ g, w.heap.size ≤ g ∧ (0 < N → g < wa.heap.size) ∧ zb5_ g (.slice ad N c) (z1_ 2 N V) wa := by
     by_cases h0 : z1_ 2 N V = []
     · have hN0 : N = 0 := by have := congrArg List.length h0; rw [y9_] at this; exact this
       subst hN0
       exact ⟨w.heap.size, Nat.le_refl _, by omega, ad, c, rfl, by simp [z1_], fun h => absurd rfl h⟩
     · obtain ⟨g, h1, h2⟩ := zkB_ HO.out h0
       refine ⟨g, h1, fun _ => ?_, ad, c, by rw [y9_], ?_, fun _ => h2⟩
       · obtain ⟨_, _, _, _, _, _, ⟨hb, _⟩, _⟩ := h2
         exact z4_ hb
       · obtain ⟨_, c', hv', hc', _⟩ : ∃ off c' , (Value.slice ad N c) = .slice (some ⟨g, off, none⟩) (z1_ 2 N V).length c' ∧ (z1_ 2 N V).length ≤ c' ∧ True := by
          obtain ⟨off, c', _, _, hv', hc', _⟩ := h2
          exact ⟨off, c', hv', hc', trivial⟩
         injection hv' with _ _ e3
         subst e3
         exact hc'
    have HRA := Lib.hid hra
    clear hra HO
    go_wp2_with fail
    go_loopw [10, 13] (fun rv ov wr => ∃ j m : Nat, 8 * j + m = N ∧ Hid (zb5_ g rv (z1_ 2 m V) wr) ∧ Hid (x1_ wa.heap.size ov (z1_ 256 j (V / 2 ^ m)) wr) ∧ Hid (GL [] wa wr)) (fun rv _ _ => lenV rv)
    case atStart => exact ⟨0, N, by omega, HRA, Lib.hid (zbN_ _ _), Lib.hid (y1_ _ _)⟩
    case round =>
     obtain ⟨j, m, hjm, HR, HOo, HLa⟩ := hrel
     obtain ⟨oa, oc, hov⟩ := zaO_ HOo.out
     subst hov
     rw [y9_] at HOo ⊢
     obtain ⟨ra, rc, hrv, hrc, hrt⟩ := HR.out
     subst hrv
     rw [y9_] at hrc
     rw [y9_] at HR ⊢
     by_cases hmt : 8 ≤ m
     · obtain ⟨m', hm'⟩ : ∃ m', m = 8 + m' := ⟨m - 8, by omega⟩
       subst hm'
       obtain ⟨off, c', htv⟩ := zhB_ (hrt (fun e => by have := congrArg List.length e; rw [y9_] at this; first | (simp at this; done) | (simp at this; omega)))
       injection htv with e1 _ e3
       subst e1 e3
       have hgl2 := hgl om_
       have hI1 := zdH_ (zhD_ HR.out) (n := 8) (c2 := rc) (by rw [y9_]; omega) om_
       rw [zku_] at hI1
       have HNUM := Lib.hid (zfU_ (z1_ 2 8 (V / 2 ^ m')) (by rw [y9_]; omega) (zfV_ _ _) _ wr hI1)
       rw [zeT_ om_ om_] at HNUM
       have hmod : V / 2 ^ m' % 2 ^ 8 < 256 := Nat.lt_of_lt_of_le (Nat.mod_lt _ om_) om_
       have hX : (((V / 2 ^ m' % 2 ^ 8 : Nat)) : Int) = (UInt8.ofNat (V / 2 ^ m' % 2 ^ 8)).toNat := by rw [UInt8.toNat_ofNat']; omega
       obtain ⟨g3, c3, w3, hrun3, hown3, hl3⟩ := zbj_ wa wr _ _ (UInt8.ofNat (V / 2 ^ m' % 2 ^ 8)) _ hX HOo.out (by rw [y9_]; omega) HLa.out
       have hst := zeG_ 8 j (8 + m') V om_
       rw [show 8 + m' - 8 = m' by omega] at hst
       rw [y9_] at hrun3 hown3
       rw [show (256 : Nat) = 2 ^ 8 by decide, ← hst] at hown3
       have HRUN := Lib.hid hrun3
       have HO3 : Hid (x1_ wa.heap.size (.slice (some ⟨g3, 0, none⟩) (j + 1) c3) (z1_ 256 (j + 1) (V / 2 ^ m')) w3) := Lib.hid hown3
       have HL3 := Lib.hid hl3
       have HRB : Hid (zb5_ g (.slice (some ⟨g, off, none⟩) (8 + m') rc) (z1_ 2 (8 + m') V) w3) := Lib.hid (zkC_ HR.out (by rw [hl3.block _ hgl2 si_, HLa.out.block _ hgl2 si_]))
       have hmI : ((8 : Int)) ≤ ((8 + m' : Nat) : Int) := by omega
       have hdm : decide (((8 : Int)) ≤ ((8 + m' : Nat) : Int)) = true := by rw [decide_eq_true_eq]; omega
       have hrc2 : 8 ≤ rc := by omega
       generalize V / 2 ^ m' % 2 ^ 8 = XX at *
       clear hrun3 hown3 hl3 hX hst hI1
       by_cases hct : rc = 8
       · have hm0 : m' = 0 := by omega
         subst hm0 hct
         have HRE : Hid (∀ W, zb5_ g (.slice (some ⟨g, off, none⟩) 0 0) (z1_ 2 0 V) W) := Lib.hid (fun W => ⟨_, _, rfl, by simp [z1_], fun h => absurd rfl h⟩)
         go_wp2_with (first | (go_at_call 135; refine HNUM.out.mono ?_; rintro e w9 ⟨rfl, hw9⟩; subst hw9) | (at_builtin; refine w8_ _ rfl (.tmp 62) (.tmp 67) 47 47 rfl _ _ (by simp [Act.eval, Act.put]) (by simp [Act.eval, Act.put]) HRUN.out ?_))
         exact ⟨⟨j + 1, 0, by omega, Lib.hid (HRE.out _), HO3, HL3⟩, by simp [lenV]⟩
       · go_wp2_with (first | (go_at_call 135; refine HNUM.out.mono ?_; rintro e w9 ⟨rfl, hw9⟩; subst hw9) | (at_builtin; refine w8_ _ rfl (.tmp 62) (.tmp 67) 47 47 rfl _ _ (by simp [Act.eval, Act.put]) (by simp [Act.eval, Act.put]) HRUN.out ?_))
         have HRD := zkD_ HRB.out (k := 8) (by rw [y9_]; omega) (by rw [y9_])
         rw [zkv_, show 8 + m' - 8 = m' by omega] at HRD
         exact ⟨⟨j + 1, m', by omega, Lib.hid HRD, HO3, HL3⟩, by simp [lenV]⟩
     · have hmt2 : m < 8 := by omega
       have hdm : decide (((8 : Int)) ≤ (m : Int)) = false := by simp; omega
       have hNl := HNN.out
       have hnm : 5 * l.length % 8 = m := by omega
       have hnj : 5 * l.length / 8 = j := by omega
       have HSS := Lib.hid (zcS_ (n := 32) HS.out)
       have HVV := Lib.hid HV.out
       have HLw : Hid (GL [] w wr) := Lib.hid (y7_ HLa.out HL.out si_)
       have hwl : w.heap.size ≤ wa.heap.size := HL.out.size
       clear HL
       have hbits : w7_ 5 8 false l = if 5 ≤ m ∨ V % 2 ^ m ≠ 0 then none else some (z1_ 256 j (V / 2 ^ m)) := by
        unfold w7_
        rw [if_neg (by rw [show (2 ^ 5 : Nat) = 32 by decide, HSS.out]; simp), if_neg si_, hnm, hnj, show (2 ^ 5 : Nat) = 32 by decide, ← HVV.out]
       by_cases hm5 : 5 ≤ m
       · have hd5 : decide ((5 : Int) ≤ (m : Int)) = true := by simp; omega
         rw [if_pos (.inl hm5)] at hbits
         have HBI := Lib.hid hbits
         clear hbits
         go_wp2_with fail
         exact bodyPost_ret (v := .tuple #[.slice none 0 0, .int .i64 50]) (by simp [results, Tryz.results90, go_sem]) rfl ⟨zcf_ HBI.out, y0_ HLw.out⟩
       · have hd5 : decide ((5 : Int) ≤ (m : Int)) = false := by simp; omega
         have HNUM := Lib.hid (zfU_ (z1_ 2 m V) (by rw [y9_]; omega) (zfV_ _ _) _ wr (zhD_ HR.out))
         rw [zeT_ om_ om_] at HNUM
         by_cases hz : V % 2 ^ m = 0
         · rw [if_neg (by rintro (h | h); exact hm5 h; exact h hz)] at hbits
           have HBI := Lib.hid hbits
           rw [hz] at HNUM
           clear hbits
           go_wp2_with (go_at_call 135; refine HNUM.out.mono ?_; rintro e w9 ⟨rfl, hw9⟩; subst hw9)
           exact bodyPost_ret (v := .tuple #[.slice oa j oc, .int .i64 0]) (by simp [results, Tryz.results90, go_sem]) rfl ⟨zb1_ HBI.out (zhC_ HOo.out hwl), y0_ HLw.out⟩
         · rw [if_pos (.inr hz)] at hbits
           have HBI := Lib.hid hbits
           have hnz : (((V % 2 ^ m : Nat) : Int) != 0) = true := by rw [bne_iff_ne]; omega
           clear hbits hz
           generalize V % 2 ^ m = XX at *
           go_wp2_with (go_at_call 135; refine HNUM.out.mono ?_; rintro e w9 ⟨rfl, hw9⟩; subst hw9)
           exact bodyPost_ret (v := .tuple #[.slice none 0 0, .int .i64 50]) (by simp [results, Tryz.results90, go_sem]) rfl ⟨zcf_ HBI.out, y0_ HLw.out⟩
def RO (R : Nat) (o : Option (List UInt8)) (w : World) : Prop :=
 ∃ ad n c, w.heap[R]? = some (.cells #[.slice ad n c, .bool o.isSome] 83 (0, 0)) ∧ ∀ l, o = some l → x8_ (.slice ad n c) l w
def valR (o : Option (List UInt8 × List UInt8)) : List UInt8 := (o.map (·.1)).getD []
def TkO (R : Nat) (o : Option (List UInt8 × List UInt8)) (w : World) (e : Ending) (w' : World) : Prop :=
 GL [R] w w' ∧ RO R (o.map (·.2)) w' ∧ ∃ ad c, e = .returned (.slice ad (valR o).length c) ∧ x8_ (.slice ad (valR o).length c) (valR o) w'
theorem zfW_ {R : Nat} {o : Option (List UInt8)} {w w' : World} (h : RO R o w) (hg : GL [] w w') : RO R o w' := by
 obtain ⟨ad, n, c, h1, h2⟩ := h
 exact ⟨ad, n, c, x6_ h1 hg si_, fun l hl => za1_ (h2 l hl) hg⟩
theorem zkF_ (w : World) : x8_ (.slice none 0 0) [] w := zbQ_ rfl (Nat.le_refl _) (fun h => absurd rfl h)
theorem zeU_ {R : Nat} {ad : Option Addr} {n c : Nat} {w : World} (h : w.heap[R]? = some (.cells #[.slice ad n c, .bool false] 83 (0, 0))) : RO R none w :=
 ⟨ad, n, c, h, fun l hl => by cases hl⟩
theorem zhE_ {R : Nat} {l : List UInt8} {ad : Option Addr} {n c : Nat} {w : World} (h : w.heap[R]? = some (.cells #[.slice ad n c, .bool true] 83 (0, 0))) (hi : x8_ (.slice ad n c) l w) : RO R (some l) w :=
 ⟨ad, n, c, h, fun l hl => by injection hl with hl; subst hl; exact hi⟩
theorem zfX_ {R : Nat} {o : Option (List UInt8 × List UInt8)} {w w' : World} (h : o = none) (hg : GL [R] w w') (hr : RO R none w') : TkO R o w (.returned (.slice none 0 0)) w' := by
 subst h; exact ⟨hg, hr, none, 0, rfl, zkF_ _⟩
theorem zkG_ {R : Nat} {o : Option (List UInt8 × List UInt8)} {w w' : World} {a r : List UInt8} {ad : Option Addr} {n c : Nat} (h : o = some (a, r)) (hg : GL [R] w w') (hn : n = a.length) (h1 : x8_ (.slice ad n c) a w') (h2 : RO R (some r) w') : TkO R o w (.returned (.slice ad n c)) w' := by
 subst h hn; exact ⟨hg, h2, ad, c, rfl, h1⟩
theorem zrw_ {v x y : Value} {l : List UInt8} {w : World} {R T : Nat} {fz : Nat × Nat} (h : x8_ v l w) (hR : w.heap[R]? = some (.cells #[x, y] T fz)) (hx : ∀ n, x ≠ .int .u8 n) (hy : ∀ n, y ≠ .int .u8 n) : ∀ G o c, v = .slice (some ⟨G, o, none⟩) l.length c → l ≠ [] → G ≠ R := by
 intro G o c hv hn e
 subst e
 obtain ⟨a', c', e, hc, hb⟩ := j6_ h
 obtain ⟨G2, o2, rfl, hB, hj⟩ := hb hn
 rw [hv] at e
 injection e with e1
 injection e1 with e1
 injection e1 with e2 e3
 subst e2 e3
 have h0 := hj 0 (List.length_pos_iff.2 hn)
 rw [z0_ hR] at h0
 match o + 0, h0 with
 | 0, h0 => simp at h0; exact hx _ h0
 | 1, h0 => simp at h0; exact hy _ h0
 | k + 2, h0 => simp at h0
theorem zfY_ (R n : Nat) (N : Int) (hN : N = n) (o : Option (List UInt8)) (w : World) (h : RO R o w) (hl : ∀ l, o = some l → l.length ≤ 1000000000) (hn : n ≤ 1000000000) :
  Calls Tryz.prog 56 #[.pointer (some ⟨R, 0, none⟩), .int .i64 N] w (TkO R (o.bind (q8_ n)) w) := by
 subst hN
 obtain ⟨ad, m, c, hR, hin⟩ := h
 have HR := Lib.hid hR
 have f0 := z0_ hR 0
 have f1 := z0_ hR 1
 have e0 := z8_ hR 0
 have e1 := z8_ hR 1
 cases o with
 | none =>
   have HT : Hid ((none : Option (List UInt8)).bind (q8_ n) = none) := Lib.hid rfl
   have HG : Hid (GL [R] w (w.setCell ⟨R, 1, none⟩ (.bool false))) := Lib.hid (z2_ (y1_ _ _) (.inl si_) _)
   have HD : Hid (RO R none (w.setCell ⟨R, 1, none⟩ (.bool false))) := Lib.hid (zeU_ (by have := z3_ HR.out 1 (.bool false); simpa using this))
   clear hin hl hR
   have f1 : w.cell? ⟨R, 1, none⟩ = some (.bool false) := f1
   go_enter Tryz.func56, Tryz.ntmps56
   go_wp2_with fail
   exact bodyPost_ret (v := .slice none 0 0) (by simp [results, Tryz.results56, go_sem]) rfl (zfX_ HT.out HG.out HD.out)
 | some l =>
   have hin := hin l rfl
   have hl := hl l rfl
   have f1 : w.cell? ⟨R, 1, none⟩ = some (.bool true) := f1
   have HR : Hid (w.heap[R]? = some (.cells #[.slice ad m c, .bool true] 83 (0, 0))) := HR
   have hc : m = l.length ∧ l.length ≤ c := by
    obtain ⟨a', c', e, hc', _⟩ := j6_ hin
    injection e with _ e2 e3
    omega
   obtain ⟨rfl, hc⟩ := hc
   have HIN := Lib.hid hin
   have HNE := Lib.hid (zrw_ hin HR.out si_ si_)
   clear hin hR
   by_cases hn2 : n ≤ l.length
   · have HT : Hid ((some l).bind (q8_ n) = some (l.take n, l.drop n)) := Lib.hid (by show q8_ n l = _; unfold q8_; rw [if_pos hn2])
     have n1 : (n : Int) ≤ l.length := by omega
     have n2' : n ≤ c := by omega
     have n2 : (n : Int) ≤ c := by omega
     have HI2 := Lib.hid (zdH_ (c2 := c) HIN.out hn2 n2')
     have HI3 := Lib.hid (zgU_ HIN.out hn2)
     clear hn2
     go_enter Tryz.func56, Tryz.ntmps56
     by_cases hcn : c = n
     · subst hcn
       obtain rfl : c = l.length := by omega
       rw [show l.length - l.length = 0 by omega, if_pos rfl] at HI3
       go_wp2_with fail
       have hg : GL [R] w (w.setCell ⟨R, 0, none⟩ (.slice ad 0 0)) := z2_ (y1_ _ _) (.inl si_) _
       refine bodyPost_ret (v := .slice ad l.length l.length) (by simp [results, Tryz.results56, go_sem]) rfl ?_
       refine zkG_ HT.out hg si_ (zcX_ HI2.out hg (fun G o c e hne => ?_)) (zhE_ (ad := ad) (n := 0) (c := 0) ?_ ?_)
       · injection e with e1 _ e3
         subst e1
         exact HNE.out G o _ rfl (fun h0 => hne (by rw [h0]; simp))
       · have := z3_ HR.out 0 (.slice ad 0 0)
         simpa using this
       · rw [List.drop_length]
         exact zbQ_ rfl (Nat.le_refl _) (fun h => absurd rfl h)
     · rw [if_neg hcn] at HI3
       go_wp2_with fail
       have hg : GL [R] w (w.setCell ⟨R, 0, none⟩ (.slice (Option.map (fun x => x.add n) ad) (l.length - n) (c - n))) := z2_ (y1_ _ _) (.inl si_) _
       refine bodyPost_ret (v := .slice ad n c) (by simp [results, Tryz.results56, go_sem]) rfl ?_
       refine zkG_ HT.out hg (by rw [List.length_take]; omega) (zcX_ HI2.out hg (fun G o c e hne => ?_)) (zhE_ (ad := Option.map (fun x => x.add n) ad) (n := l.length - n) (c := c - n) ?_ ?_)
       · injection e with e1 _ e3
         subst e1
         exact HNE.out G o _ rfl (fun h0 => hne (by rw [h0]; simp))
       · have := z3_ HR.out 0 (.slice (Option.map (fun x => x.add n) ad) (l.length - n) (c - n))
         simpa using this
       · refine zcX_ HI3.out hg (fun G o c2 e hne => ?_)
         injection e with e1 _ e3
         obtain ⟨⟨G2, o2, s2⟩, rfl, e2⟩ := Option.map_eq_some_iff.1 e1
         have hs2 : s2 = none := by
          obtain ⟨a', c', e', hc', hb⟩ := j6_ HIN.out
          injection e' with e1'
          obtain ⟨G', o', e2', _⟩ := hb (fun h0 => hne (by rw [h0]; simp))
          rw [← e1'] at e2'
          simp at e2'
          exact e2'.2.2
         subst hs2
         have hG2 : G2 = G := by
          unfold Addr.add at e2
          split at e2 <;> simp_all
         subst hG2
         exact HNE.out G2 o2 c rfl (fun h0 => hne (by rw [h0]; simp))
   · have HT : Hid ((some l).bind (q8_ n) = none) := Lib.hid (by show q8_ n l = _; unfold q8_; rw [if_neg hn2])
     have n1 : (l.length : Int) < n := by omega
     have HG : Hid (GL [R] w (w.setCell ⟨R, 1, none⟩ (.bool false))) := Lib.hid (z2_ (y1_ _ _) (.inl si_) _)
     have HD : Hid (RO R none (w.setCell ⟨R, 1, none⟩ (.bool false))) := Lib.hid (zeU_ (by have := z3_ HR.out 1 (.bool false); simpa using this))
     clear hn2
     go_enter Tryz.func56, Tryz.ntmps56
     go_wp2_with fail
     exact bodyPost_ret (v := .slice none 0 0) (by simp [results, Tryz.results56, go_sem]) rfl (zfX_ HT.out HG.out HD.out)
theorem zea_ {α β : Type} (x : α) (f : α → Option β) : (some x).bind f = f x := rfl
theorem zrx_ {R : Nat} {o o' : Option (List UInt8 × List UInt8)} {w w' : World} {ad : Option Addr} {c : Nat} (h : o = o') (hg : GL [R] w w') (hr : RO R (o'.map (·.2)) w') (hi : x8_ (.slice ad (valR o').length c) (valR o') w') : TkO R o w (.returned (.slice ad (valR o').length c)) w' := by
 subst h; exact ⟨hg, hr, ad, c, rfl, hi⟩
theorem zkH_ (R : Nat) (tag : UInt8) (T : Int) (hT : T = tag.toNat) (o : Option (List UInt8)) (w : World) (h : RO R o w) (hl : ∀ l, o = some l → l.length ≤ 1000000000) :
  Calls Tryz.prog 108 #[.pointer (some ⟨R, 0, none⟩), .int .u8 T] w (TkO R (o.bind (zaH_ tag)) w) := by
 subst hT
 have HH := Lib.hid h
 have HL := Lib.hid hl
 clear h hl
 cases ht : o.bind (q8_ 3) with
 | none =>
   have HT := Lib.hid ht
   have HF : Hid (o.bind (zaH_ tag) = none) := Lib.hid (by
    cases o with
    | none => rfl
    | some l => rw [zea_] at ht ⊢; unfold zaH_; rw [ht]; rfl)
   clear ht
   go_enter Tryz.func108, Tryz.ntmps108
   go_wp2_with fail
   refine (zfY_ R 3 3 rfl o _ HH.out HL.out om_).mono ?_
   rintro e w1 ⟨hg, hr, hp⟩
   rw [HT.out] at hr hp
   obtain ⟨ad0, c0, he, _⟩ := hp
   have he : e = .returned (.slice ad0 0 c0) := he
   subst he
   obtain ⟨ad, n, c, hR, _⟩ := hr
   have hR : w1.heap[R]? = some (.cells #[.slice ad n c, .bool false] 83 (0, 0)) := hR
   have HR := Lib.hid hR
   have f0 := z0_ hR 0
   have f1 : w1.cell? ⟨R, 1, none⟩ = some (.bool false) := z0_ hR 1
   have e1 := z8_ hR 1
   have HG : Hid (GL [R] w (w1.setCell ⟨R, 1, none⟩ (.bool false))) := Lib.hid (z2_ hg (.inl si_) _)
   have HD : Hid (RO R none (w1.setCell ⟨R, 1, none⟩ (.bool false))) := Lib.hid (zeU_ (by have := z3_ HR.out 1 (.bool false); simpa using this))
   clear hR hg
   go_wp2_with fail
   exact bodyPost_ret (v := .slice none 0 0) (by simp [results, Tryz.results108, go_sem]) rfl (zfX_ HF.out HG.out HD.out)
 | some ar =>
   obtain ⟨a, r⟩ := ar
   obtain ⟨l, rfl, hl3⟩ := Option.bind_eq_some_iff.1 ht
   obtain ⟨h1, h2, h3⟩ := zgX_ hl3
   obtain ⟨t, u, v, rfl⟩ : ∃ t u v, a = [t, u, v] := by
    match a, h1 with
    | [t, u, v], _ => exact ⟨t, u, v, rfl⟩
   have hll := HL.out l rfl
   have HT := Lib.hid ht
   have HF : Hid ((some l).bind (zaH_ tag) = if t = tag then q8_ (u.toNat * 32 + v.toNat) r else none) := Lib.hid (by rw [zea_]; unfold zaH_; rw [hl3]; rfl)
   clear ht hl3 h3 h1
   go_enter Tryz.func108, Tryz.ntmps108
   go_wp2_with fail
   refine (zfY_ R 3 3 rfl (some l) _ HH.out HL.out om_).mono ?_
   rintro e w1 ⟨hg, hr, hp⟩
   rw [HT.out] at hr hp
   obtain ⟨ad0, cc, he, hin⟩ := hp
   have he : e = .returned (.slice ad0 3 cc) := he
   subst he
   have hin : x8_ (.slice ad0 3 cc) [t, u, v] w1 := hin
   have hr : RO R (some r) w1 := hr
   have HRO := Lib.hid hr
   obtain ⟨ad, n, c, hR, hrin⟩ := hr
   have hR : w1.heap[R]? = some (.cells #[.slice ad n c, .bool true] 83 (0, 0)) := hR
   obtain ⟨G, o, rfl, _, hj⟩ := zd2_ hin si_
   have c0 := hj 0 si_
   have c1 := hj 1 si_
   have c2 := hj 2 si_
   simp only [List.getD_cons_zero, List.getD_cons_succ] at c0 c1 c2
   rw [Nat.add_zero] at c0
   have HR := Lib.hid hR
   have f0 := z0_ hR 0
   have f1 : w1.cell? ⟨R, 1, none⟩ = some (.bool true) := z0_ hR 1
   have e1 := z8_ hR 1
   have HG := Lib.hid hg
   have hr2 : r.length ≤ 1000000000 := by omega
   clear hin hj hg hrin hR
   by_cases htt : t = tag
   · subst htt
     rw [if_pos rfl] at HF
     have hut := u.toNat_lt
     have hvt := v.toNat_lt
     have hkl : u.toNat * 32 + v.toNat ≤ 1000000000 := by omega
     have hw1 : IntKind.i64.wrap ((u.toNat : Nat) : Int) = (u.toNat : Nat) := by rw [IntKind.wrap_i64]; omega
     have hw2 : IntKind.i64.wrap ((v.toNat : Nat) : Int) = (v.toNat : Nat) := by rw [IntKind.wrap_i64]; omega
     have hw3 : IntKind.i64.wrap (((u.toNat : Nat) : Int) * 32) = ((u.toNat : Nat) : Int) * 32 := by rw [IntKind.wrap_i64]; omega
     have hw4 : IntKind.i64.wrap (((u.toNat : Nat) : Int) * 32 + (v.toNat : Nat)) = ((u.toNat : Nat) : Int) * 32 + (v.toNat : Nat) := by rw [IntKind.wrap_i64]; omega
     have hne2 : (((t.toNat : Nat) : Int) != t.toNat) = false := by simp
     clear f0 e1 HR
     go_wp2_with fail
     go_region_with (go_at_call 56; (try rw [hw1]); (try rw [hw2]); (try rw [hw3]); (try rw [hw4]); refine (zfY_ R (u.toNat * 32 + v.toNat) _ (by push_cast; rfl) (some r) _ (zfW_ HRO.out (x9_ (y1_ _ _))) (fun l h => by injection h with h; subst h; exact hr2) hkl).mono ?_; rintro e w2 ⟨hg2, hr3, ad2, c2, rfl, hin2⟩)
     all_goals go_wp2_with fail
     all_goals exact bodyPost_ret (v := .slice ad2 (valR (q8_ (u.toNat * 32 + v.toNat) r)).length c2) (by simp [results, Tryz.results108, go_sem]) rfl (zrx_ HF.out (y7_ hg2 (x9_ HG.out) si_) hr3 hin2)
   · rw [if_neg htt] at HF
     have hne1 : (((t.toNat : Nat) : Int) != tag.toNat) = true := by
      simp only [bne_iff_ne, ne_eq]
      intro h
      exact htt (UInt8.toNat_inj.1 om_)
     have hr := HRO.out
     have HG2 : Hid (GL [R] w (w1.setCell ⟨R, 1, none⟩ (.bool false))) := Lib.hid (z2_ HG.out (.inl si_) _)
     have HD : Hid (RO R none (w1.setCell ⟨R, 1, none⟩ (.bool false))) := Lib.hid (zeU_ (by have := z3_ HR.out 1 (.bool false); simpa using this))
     clear htt hr
     go_wp2_with fail
     exact bodyPost_ret (v := .slice none 0 0) (by simp [results, Tryz.results108, go_sem]) rfl (zfX_ HF.out HG2.out HD.out)
end Go.Proofs.YtembdkodajichaaGreatDoor
