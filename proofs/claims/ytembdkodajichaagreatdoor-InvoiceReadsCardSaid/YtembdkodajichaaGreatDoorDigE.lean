/- The program's SHA-256: sums of bytes, in digits. -/
import Derived.Test.YtembdkodajichaaGreatDoorDigC
import Derived.Deep.MidRow
import Derived.Laws.IdiomStrings
set_option maxRecDepth 100000
set_option maxHeartbeats 4000000
set_option linter.unusedSimpArgs false
set_option linter.unusedVariables false
namespace Go.Proofs.YtembdkodajichaaGreatDoor
open Go.RowKit
theorem zgF_ {b : Nat} {T : TypeId} {fz : Nat × Nat} : ∀ (vs : List Value) (o : Nat) (cs : Array Value) (w : World), w.heap[b]? = some (.cells cs T fz) → o + vs.length ≤ cs.size →
  (w.setCells b o vs).heap[b]? = some (.cells (cs.toList.take o ++ vs ++ cs.toList.drop (o + vs.length)).toArray T fz)
 | [], o, cs, w, h, _ => by
   simp only [World.setCells, List.append_nil, List.length_nil, Nat.add_zero, List.take_append_drop, Array.toArray_toList]
   exact h
 | v :: r, o, cs, w, h, hl => by
   have e := list_seg_step cs.toList o v r (by simp at hl ⊢; omega)
   rw [World.setCells, zgF_ r (o + 1) _ _ (z3_ h o v) (by simp at hl ⊢; omega)]
   rw [Array.toList_setIfInBounds, e]
   rfl
theorem zce_ {rs : List Nat} {w : World} {b : Nat} (hb : b ∈ rs ∨ w.heap.size ≤ b) : ∀ (vs : List Value) (o : Nat) (w1 : World), GL rs w w1 → GL rs w (w1.setCells b o vs)
 | [], _, _, h => h
 | v :: r, o, w1, h => by
   rw [World.setCells]
   exact zce_ hb r (o + 1) _ (z2_ h hb v)
theorem zdC_ {b : Nat} {T : TypeId} {fz : Nat × Nat} {vs : List Value} {cs : Array Value} {w : World} (h : w.heap[b]? = some (.cells cs T fz)) (hl : vs.length = cs.size) : (w.setCells b 0 vs).heap[b]? = some (.cells vs.toArray T fz) := by
 rw [zgF_ vs 0 cs w h om_]
 have h1 : cs.toList.length = cs.size := by simp
 rw [List.take_zero, List.drop_eq_nil_of_le om_]
 simp
theorem zbL_ {b : Nat} {T : TypeId} {cs : Array Value} {w : World} (h : w.heap[b]? = some (.cells cs T (0, 0))) : w.there b 0 cs.size := by
 intro j hj
 rw [z0_ h, z8_ h]
 simp [hj]
theorem zdj_ {b : Nat} {T : TypeId} {vs : List Value} {fz : Nat × Nat} {w : World} (h : w.heap[b]? = some (.cells vs.toArray T fz)) : w.rangeAt b 0 vs := by
 intro j v hj
 rw [z0_ h]
 simpa using hj
theorem Tryz.sizeSt : (Tryz.prog.info? 194).map (·.size) = some 73 := by kernel_rfl
theorem Tryz.sizeA32 : (Tryz.prog.info? 104).map (·.size) = some 32 := by kernel_rfl
theorem znE_ (v : S8) (wait : List UInt8) (n : Int) : (stC v wait n).all (·.oneCell') = true := by
 unfold stC
 refine all_oneCell_toArray ?_
 intro x hx
 simp only [List.mem_append, List.mem_map, u8L, List.mem_singleton] at hx
 rcases hx with ⟨_, _, rfl⟩ | ⟨_, _, rfl⟩ | rfl <;> rfl
def szC (n i : Nat) : Array Value := (u8L ((zaW_ n).take i ++ List.replicate (8 - i) 0)).toArray
theorem zcT_ (n i : Nat) (h : i < 8) (x : Int) (hx : x = ((n * 8 / 2 ^ (56 - 8 * i) % 256 : Nat) : Int)) : (szC n i).setIfInBounds i (.int .u8 x) = szC n (i + 1) := by
 have e : ∀ y : Nat, (UInt8.ofNat (y % 256)).toNat = y % 256 := fun y => by rw [UInt8.toNat_ofNat']; omega
 rcases (by omega : i = 0 ∨ i = 1 ∨ i = 2 ∨ i = 3 ∨ i = 4 ∨ i = 5 ∨ i = 6 ∨ i = 7) with rfl | rfl | rfl | rfl | rfl | rfl | rfl | rfl <;> subst hx <;> simp [szC, u8L, zaW_, e]
theorem znF_ (n i j : Nat) (h : i < 8) (hj : j < 8) : ∃ v, (szC n i)[j]? = some v := by
 have hl : (szC n i).size = 8 := by
  rcases (by omega : i = 0 ∨ i = 1 ∨ i = 2 ∨ i = 3 ∨ i = 4 ∨ i = 5 ∨ i = 6 ∨ i = 7) with rfl | rfl | rfl | rfl | rfl | rfl | rfl | rfl <;> rfl
 exact ⟨_, Array.getElem?_eq_getElem om_⟩
theorem zdk_ (x : Int) : 0 ≤ u32 x := by unfold u32; rw [zcc_]; omega
theorem ziN_ (b : List UInt8) : 0 ≤ (z9_ b).a ∧ 0 ≤ (z9_ b).b ∧ 0 ≤ (z9_ b).c ∧ 0 ≤ (z9_ b).d ∧ 0 ≤ (z9_ b).e ∧ 0 ≤ (z9_ b).f ∧ 0 ≤ (z9_ b).g ∧ 0 ≤ (z9_ b).h := by
 have h : ∃ n, (zaS_ b).length / 64 = n + 1 := by
  refine ⟨(zaS_ b).length / 64 - 1, ?_⟩
  have h1 := zih_ b
  have h2 : 0 < (zaS_ b).length := by simp [zaS_]; omega
  omega
 obtain ⟨n, hn⟩ := h
 unfold z9_
 rw [hn, zgq_]
 unfold zbx_ addS
 exact ⟨zdk_ _, zdk_ _, zdk_ _, zdk_ _, zdk_ _, zdk_ _, zdk_ _, zdk_ _⟩
def outC (s : S8) (i : Nat) : Array Value := (u8L ((q5_ s).take i ++ List.replicate (32 - i) 0)).toArray
theorem ziO_ (s : S8) (i : Nat) (h : i ≤ 32) : (outC s i).size = 32 := by
 unfold outC
 rw [List.size_toArray, zaj_, List.length_append, List.length_take, zbW_, List.length_replicate]
 omega
theorem j2_ (s : S8) (i : Nat) (h : i < 32) (x : Int) (hx : x = ((q5_ s).getD i 0).toNat) : (outC s i).setIfInBounds i (.int .u8 x) = outC s (i + 1) := by
 subst hx
 unfold outC u8L
 rw [List.setIfInBounds_toArray, List.map_append, List.map_append, List.set_append_right _ _ (by rw [List.length_map, List.length_take, zbW_]; omega)]
 congr 1
 rw [List.length_map, List.length_take, zbW_, show i - min i 32 = 0 by omega, show 32 - i = (32 - (i + 1)) + 1 by omega, List.replicate_succ, List.map_cons, List.set_cons_zero, List.take_add_one, List.getElem?_eq_getElem (by rw [zbW_]; exact h), List.getD_eq_getElem?_getD, List.getElem?_eq_getElem (by rw [zbW_]; exact h)]
 simp only [List.map_append, List.append_assoc, Option.toList_some, Option.getD_some, List.map_cons, List.map_nil, List.cons_append, List.nil_append]
theorem zaw_ (x : Int) (hx : 0 ≤ x) (n : Nat) : ((UInt8.ofNat (x / 2 ^ n).toNat).toNat : Int) = x / 2 ^ n % 256 := by
 have h : 0 ≤ x / 2 ^ n := Int.ediv_nonneg hx (Int.le_of_lt (Int.pow_pos de_))
 rw [UInt8.toNat_ofNat']
 omega
def mzW (U : Nat) (w : World) : Nat := match w.cell? ⟨U, 72, none⟩ with
 | some (.int _ x) => (120 - x.toNat % 64) % 64
 | _ => 0
theorem ziP_ {U : Nat} {m : List UInt8} {w : World} (h : StAt U m w) : mzW U w = (120 - m.length % 64) % 64 := by
 obtain ⟨v, wait, hF, hb, _⟩ := h
 unfold mzW
 rw [(z0_ hb 72).trans (zew_ v wait _ hF.len)]
 simp
theorem znG_ (S : Nat) (m : List UInt8) (w : World) (hst : StAt S m w) (hT : zcz_ w) (hlen : m.length ≤ 900000000000) :
  Calls Tryz.prog 128 #[.pointer (some ⟨S, 0, none⟩)] w fun e w' => e = .returned (.agg (u8L (q5_ (z9_ m))).toArray) ∧ Below w.heap.size w w' := by
 have HT := Lib.hid hT
 obtain ⟨v, wait, hF, hblk, hlm⟩ := hst
 have HF := Lib.hid hF
 have HW64 := hF.len
 have hTl : 7 < w.heap.size := World.block_lt_of_cell? _ _ (hT 0 om_)
 have hsz : (stC v wait m.length).size = 73 := ziF_ _ _ _ HW64
 have hbn := y8_ (w.alloc (.cells #[.int .u8 0, .int .u8 0, .int .u8 0, .int .u8 0, .int .u8 0, .int .u8 0, .int .u8 0, .int .u8 0, .int .u8 0, .int .u8 0, .int .u8 0, .int .u8 0, .int .u8 0, .int .u8 0, .int .u8 0, .int .u8 0, .int .u8 0, .int .u8 0, .int .u8 0, .int .u8 0, .int .u8 0, .int .u8 0, .int .u8 0, .int .u8 0, .int .u8 0, .int .u8 0, .int .u8 0, .int .u8 0, .int .u8 0, .int .u8 0, .int .u8 0, .int .u8 0] 104)) (.cells Tryz.zeroCells194 194)
 rw [World.size_alloc] at hbn
 have hsc := run_storeCells_cells (P := Tryz.prog) (w.heap.size + 1) 0 (stC v wait m.length).toList 0 ((w.alloc (.cells #[.int .u8 0, .int .u8 0, .int .u8 0, .int .u8 0, .int .u8 0, .int .u8 0, .int .u8 0, .int .u8 0, .int .u8 0, .int .u8 0, .int .u8 0, .int .u8 0, .int .u8 0, .int .u8 0, .int .u8 0, .int .u8 0, .int .u8 0, .int .u8 0, .int .u8 0, .int .u8 0, .int .u8 0, .int .u8 0, .int .u8 0, .int .u8 0, .int .u8 0, .int .u8 0, .int .u8 0, .int .u8 0, .int .u8 0, .int .u8 0, .int .u8 0, .int .u8 0] 104)).alloc (.cells Tryz.zeroCells194 194)) (fun j hj => by first | (simp; done) | (have := (zbL_ hbn j (by rw [Array.length_toList, hsz] at hj; exact hj)).1; simpa using this)) (fun j hj => by first | (simp; done) | (have := (zbL_ hbn j (by rw [Array.length_toList, hsz] at hj; exact hj)).2; simpa using this)) (fun x hx => by have := (Array.all_eq_true_iff_forall_mem.1 (znE_ v wait m.length)) x (by simp only [Array.mem_toList_iff] at hx; exact hx); exact this)
 rw [Nat.add_zero] at hsc
 clear hbn
 have HB := Lib.hid hblk
 clear hT hF hblk
 go_enter Tryz.func128, Tryz.ntmps128
 go_upto_region 4 with ((with_reducible refine wpList_load_mid rfl 194 (.tmp 14) rfl S 0 rfl (stC v wait m.length).toList _ ?hc Tryz.underlying194 rfl ?hi ?_; (case hc => exact zdj_ (vs := (stC v wait m.length).toList) (by simpa using x3_ HB.out _)); (case hi => rw [Tryz.sizeSt]; simp [hsz])))
 have hle : szW w ≤ w.heap.size ∧ w.heap.size ≤ szW w := ⟨Nat.le_refl _, Nat.le_refl _⟩
 have HR1 : Hid ((((w.alloc (.cells #[.int .u8 0, .int .u8 0, .int .u8 0, .int .u8 0, .int .u8 0, .int .u8 0, .int .u8 0, .int .u8 0, .int .u8 0, .int .u8 0, .int .u8 0, .int .u8 0, .int .u8 0, .int .u8 0, .int .u8 0, .int .u8 0, .int .u8 0, .int .u8 0, .int .u8 0, .int .u8 0, .int .u8 0, .int .u8 0, .int .u8 0, .int .u8 0, .int .u8 0, .int .u8 0, .int .u8 0, .int .u8 0, .int .u8 0, .int .u8 0, .int .u8 0, .int .u8 0] 104)).alloc (.cells Tryz.zeroCells194 194)).setCells (w.heap.size + 1) 0 (stC v wait m.length).toList).heap[w.heap.size]? = some (.cells #[.int .u8 0, .int .u8 0, .int .u8 0, .int .u8 0, .int .u8 0, .int .u8 0, .int .u8 0, .int .u8 0, .int .u8 0, .int .u8 0, .int .u8 0, .int .u8 0, .int .u8 0, .int .u8 0, .int .u8 0, .int .u8 0, .int .u8 0, .int .u8 0, .int .u8 0, .int .u8 0, .int .u8 0, .int .u8 0, .int .u8 0, .int .u8 0, .int .u8 0, .int .u8 0, .int .u8 0, .int .u8 0, .int .u8 0, .int .u8 0, .int .u8 0, .int .u8 0] 104 (0, 0))) := Lib.hid (x6_ (x3_ (y8_ w (.cells #[.int .u8 0, .int .u8 0, .int .u8 0, .int .u8 0, .int .u8 0, .int .u8 0, .int .u8 0, .int .u8 0, .int .u8 0, .int .u8 0, .int .u8 0, .int .u8 0, .int .u8 0, .int .u8 0, .int .u8 0, .int .u8 0, .int .u8 0, .int .u8 0, .int .u8 0, .int .u8 0, .int .u8 0, .int .u8 0, .int .u8 0, .int .u8 0, .int .u8 0, .int .u8 0, .int .u8 0, .int .u8 0, .int .u8 0, .int .u8 0, .int .u8 0, .int .u8 0] 104)) (.cells Tryz.zeroCells194 194)) (zce_ (rs := [w.heap.size + 1]) (.inl si_) (stC v wait m.length).toList 0 _ (y1_ _ _)) si_)
 have HU1 : Hid (StAt (w.heap.size + 1) m (((w.alloc (.cells #[.int .u8 0, .int .u8 0, .int .u8 0, .int .u8 0, .int .u8 0, .int .u8 0, .int .u8 0, .int .u8 0, .int .u8 0, .int .u8 0, .int .u8 0, .int .u8 0, .int .u8 0, .int .u8 0, .int .u8 0, .int .u8 0, .int .u8 0, .int .u8 0, .int .u8 0, .int .u8 0, .int .u8 0, .int .u8 0, .int .u8 0, .int .u8 0, .int .u8 0, .int .u8 0, .int .u8 0, .int .u8 0, .int .u8 0, .int .u8 0, .int .u8 0, .int .u8 0] 104)).alloc (.cells Tryz.zeroCells194 194)).setCells (w.heap.size + 1) 0 (stC v wait m.length).toList)) := by
  refine Lib.hid ⟨v, wait, HF.out, ?_, hlm⟩
  have h := y8_ (w.alloc (.cells #[.int .u8 0, .int .u8 0, .int .u8 0, .int .u8 0, .int .u8 0, .int .u8 0, .int .u8 0, .int .u8 0, .int .u8 0, .int .u8 0, .int .u8 0, .int .u8 0, .int .u8 0, .int .u8 0, .int .u8 0, .int .u8 0, .int .u8 0, .int .u8 0, .int .u8 0, .int .u8 0, .int .u8 0, .int .u8 0, .int .u8 0, .int .u8 0, .int .u8 0, .int .u8 0, .int .u8 0, .int .u8 0, .int .u8 0, .int .u8 0, .int .u8 0, .int .u8 0] 104)) (.cells Tryz.zeroCells194 194)
  rw [World.size_alloc] at h
  have h2 := zdC_ (vs := (stC v wait m.length).toList) h (by rw [Array.length_toList, hsz]; rfl)
  simpa using h2
 have hg1 : GL [] w (((w.alloc (.cells #[.int .u8 0, .int .u8 0, .int .u8 0, .int .u8 0, .int .u8 0, .int .u8 0, .int .u8 0, .int .u8 0, .int .u8 0, .int .u8 0, .int .u8 0, .int .u8 0, .int .u8 0, .int .u8 0, .int .u8 0, .int .u8 0, .int .u8 0, .int .u8 0, .int .u8 0, .int .u8 0, .int .u8 0, .int .u8 0, .int .u8 0, .int .u8 0, .int .u8 0, .int .u8 0, .int .u8 0, .int .u8 0, .int .u8 0, .int .u8 0, .int .u8 0, .int .u8 0] 104)).alloc (.cells Tryz.zeroCells194 194)).setCells (w.heap.size + 1) 0 (stC v wait m.length).toList) := zce_ (.inr om_) _ 0 _ (y2_ (y2_ (y1_ _ _) _) _)
 have hRU : w.heap.size < w.heap.size + 1 := by omega
 have hUs : w.heap.size + 1 < (((w.alloc (.cells #[.int .u8 0, .int .u8 0, .int .u8 0, .int .u8 0, .int .u8 0, .int .u8 0, .int .u8 0, .int .u8 0, .int .u8 0, .int .u8 0, .int .u8 0, .int .u8 0, .int .u8 0, .int .u8 0, .int .u8 0, .int .u8 0, .int .u8 0, .int .u8 0, .int .u8 0, .int .u8 0, .int .u8 0, .int .u8 0, .int .u8 0, .int .u8 0, .int .u8 0, .int .u8 0, .int .u8 0, .int .u8 0, .int .u8 0, .int .u8 0, .int .u8 0, .int .u8 0] 104)).alloc (.cells Tryz.zeroCells194 194)).setCells (w.heap.size + 1) 0 (stC v wait m.length).toList).heap.size := by
  obtain ⟨_, _, _, h, _⟩ := HU1.out
  exact z4_ h
 have HBL := Lib.hid hg1
 generalize (((w.alloc (.cells #[.int .u8 0, .int .u8 0, .int .u8 0, .int .u8 0, .int .u8 0, .int .u8 0, .int .u8 0, .int .u8 0, .int .u8 0, .int .u8 0, .int .u8 0, .int .u8 0, .int .u8 0, .int .u8 0, .int .u8 0, .int .u8 0, .int .u8 0, .int .u8 0, .int .u8 0, .int .u8 0, .int .u8 0, .int .u8 0, .int .u8 0, .int .u8 0, .int .u8 0, .int .u8 0, .int .u8 0, .int .u8 0, .int .u8 0, .int .u8 0, .int .u8 0, .int .u8 0] 104)).alloc (.cells Tryz.zeroCells194 194)).setCells (w.heap.size + 1) 0 (stC v wait m.length).toList) = w1 at *
 generalize hU : w.heap.size + 1 = U at *
 generalize hRw : w.heap.size = R at *
 clear hsc hle
 have hdm : ∀ k, (m ++ [128] ++ List.replicate k (0 : UInt8)).length = m.length + 1 + k := by intro k; simp; omega
 have hT1 := Lib.hid (zcd_ HT.out hg1 si_)
 obtain ⟨v1, wt1, hF1, hb1, _⟩ := HU1.out
 have fn := (z0_ hb1 72).trans (zew_ v1 wt1 _ hF1.len)
 have fz := z8_ hb1
 have n0 : (0 : Int) ≤ (m.length : Int) := by omega
 have n1 : (m.length : Int) ≤ 900000000000 := by omega
 have HW1 : ∀ (W : World) (mm l : List UInt8) (Z : Nat), StAt U mm W → GL [U] w1 W → w1.heap.size ≤ Z → zbs_ Z 0 l W → l ≠ [] → mm.length + l.length ≤ 1000000000000 → Calls Tryz.prog 127 #[.pointer (some ⟨U, 0, none⟩), .slice (some ⟨Z, 0, none⟩) l.length l.length] W fun e w' => e = .returned (.tuple #[]) ∧ StAt U (mm ++ l) w' ∧ GL [U] W w' := by
  intro W mm l Z h1 h2 h3 h4 h5 h6
  exact ziM_ U mm l _ W h1 ⟨Z, 0, l.length, .inr ⟨List.length_pos_iff.2 h5, by simp⟩, Nat.le_refl _, by omega, fun _ => h4⟩ (zcd_ hT1.out h2 so_) h6 om_
 have HWR := Lib.hid HW1
 clear hb1 hF1 HW1
 go_wp2_with fail
 refine (HWR.out (w1.alloc (.cells #[.int .u8 128] 5)) m [128] w1.heap.size (zev_ HU1.out (y2_ (y1_ [] _) _) si_) (y2_ (y1_ _ _) _) (Nat.le_refl _) ⟨by simp, fun j hj => ?_⟩ si_ so_).mono ?_
 · obtain rfl : j = 0 := by simp at hj; omega
   exact z0_ (y8_ w1 _) 0
 rintro e w2 ⟨rfl, hS2, hgU2⟩
 have hg2 : GL [U] w1 w2 := y7_ hgU2 (y2_ (y1_ _ _) _) si_
 have HS2 : Hid (StAt U (m ++ [128] ++ List.replicate 0 0) w2) := Lib.hid (by simpa using hS2)
 have HG2 := Lib.hid hg2
 clear hS2 hgU2 hg2 fn fz
 go_wp2_with fail
 go_loopw [26] (fun _ wr => ∃ k : Nat, k ≤ zae_ m.length ∧ Hid (GL [U] w1 wr) ∧ Hid (StAt U (m ++ [128] ++ List.replicate k 0) wr)) (fun _ wr => mzW U wr)
 case atStart => exact ⟨0, by omega, HG2, HS2⟩
 case round =>
  obtain ⟨k, hk, hgr, hsr⟩ := hrel
  have hz := ziP_ hsr.out
  rw [hdm] at hz
  obtain ⟨v2, wt2, hF2, hb2, _⟩ := hsr.out
  have fn := (z0_ hb2 72).trans (zew_ v2 wt2 _ hF2.len)
  have fz := z8_ hb2
  rw [hdm] at fn
  have HZ := Lib.hid hz
  clear hz hF2 hb2
  by_cases hlt : k < zae_ m.length
  · have h56 : ((((m.length + 1 + k : Nat) : Int) % 64) != 56) = true := by
     rw [bne_iff_ne]
     unfold zae_ at hlt
     omega
    go_wp2_with fail
    refine (HWR.out (wr.alloc (.cells #[.int .u8 0] 5)) (m ++ [128] ++ List.replicate k 0) [0] wr.heap.size (zev_ hsr.out (y2_ (y1_ [] _) _) si_) (y2_ hgr.out _) hgr.out.size ⟨by simp, fun j hj => ?_⟩ si_ (by rw [hdm]; unfold zae_ at hlt; simp; omega)).mono ?_
    · obtain rfl : j = 0 := by simp at hj; omega
      exact z0_ (y8_ wr _) 0
    rintro e w3 ⟨rfl, hS3, hgU3⟩
    have HS3 : Hid (StAt U (m ++ [128] ++ List.replicate (k + 1) 0) w3) := Lib.hid (by rw [List.replicate_succ', ← List.append_assoc]; exact hS3)
    have HG3 : Hid (GL [U] w1 w3) := Lib.hid (y7_ hgU3 (y2_ hgr.out _) si_)
    have HM3 := Lib.hid (ziP_ HS3.out)
    clear hS3 hgU3 fn fz
    go_wp2_with fail
    go_roundw
    case rel => exact ⟨k + 1, by omega, HG3, HS3⟩
    case measure =>
     rw [HZ.out, HM3.out, hdm]
     unfold zae_ at hlt
     omega
  · obtain rfl : k = zae_ m.length := by omega
    have h56 : ((((m.length + 1 + zae_ m.length : Nat) : Int) % 64) != 56) = false := by
     rw [bne_eq_false_iff_eq]
     unfold zae_
     omega
    go_wp2_with fail
    have HZ1 : Hid ((wr.alloc (.cells #[.int .u8 0, .int .u8 0, .int .u8 0, .int .u8 0, .int .u8 0, .int .u8 0, .int .u8 0, .int .u8 0] 196)).heap[wr.heap.size]? = some (.cells (szC m.length 0) 196 (0, 0))) := Lib.hid (y8_ wr _)
    have HSz : Hid (StAt U (m ++ [128] ++ List.replicate (zae_ m.length) 0) (wr.alloc (.cells #[.int .u8 0, .int .u8 0, .int .u8 0, .int .u8 0, .int .u8 0, .int .u8 0, .int .u8 0, .int .u8 0] 196))) := Lib.hid (zev_ hsr.out (y2_ (y1_ [] _) _) si_)
    have HGz : Hid (GL [U] w1 (wr.alloc (.cells #[.int .u8 0, .int .u8 0, .int .u8 0, .int .u8 0, .int .u8 0, .int .u8 0, .int .u8 0, .int .u8 0] 196))) := Lib.hid (y2_ hgr.out _)
    have hZ1 : w1.heap.size ≤ wr.heap.size := hgr.out.size
    have hZ2 : wr.heap.size < (wr.alloc (.cells #[.int .u8 0, .int .u8 0, .int .u8 0, .int .u8 0, .int .u8 0, .int .u8 0, .int .u8 0, .int .u8 0] 196)).heap.size := by simp
    clear hgr hsr fn fz HZ h56 hlt hk
    generalize wr.alloc (.cells #[.int .u8 0, .int .u8 0, .int .u8 0, .int .u8 0, .int .u8 0, .int .u8 0, .int .u8 0, .int .u8 0] 196) = wz at *
    generalize wr.heap.size = Z at *
    go_loopw [6, 27] (fun _ iv wr => ∃ i : Nat, i ≤ 8 ∧ iv = .int .i64 i ∧ Hid (GL [Z] wz wr) ∧ Hid (wr.heap[Z]? = some (.cells (szC m.length i) 196 (0, 0)))) (fun _ iv _ => 8 - (intOf iv).toNat)
    case atStart => exact ⟨0, by omega, rfl, Lib.hid (y1_ _ _), HZ1⟩
    case round =>
     obtain ⟨i, hi, rfl, hgr, hzr⟩ := hrel
     by_cases hlt : i < 8
     · obtain ⟨v0, hv0⟩ := znF_ m.length i i hlt hlt
       have fc := (z0_ hzr.out i).trans hv0
       have fz := z8_ hzr.out
       have fl := z4_ hzr.out
       have HSET := Lib.hid (zcT_ m.length i hlt)
       have HZr := Lib.hid hzr.out
       clear hzr hv0
       rcases (by omega : i = 0 ∨ i = 1 ∨ i = 2 ∨ i = 3 ∨ i = 4 ∨ i = 5 ∨ i = 6 ∨ i = 7) with rfl | rfl | rfl | rfl | rfl | rfl | rfl | rfl
       · go_wp2
         go_roundw
         case rel =>
          refine ⟨1, by omega, by go_num, Lib.hid (z2_ hgr.out (.inl si_) _), Lib.hid ((z3_ HZr.out 0 _).trans ?_)⟩
          exact congrArg (fun z => some (Obj.cells z 196 (0, 0))) (zcT_ m.length 0 om_ _ (by have e : (2 : Nat) ^ (56 - 8 * 0) = 72057594037927936 := de_; rw [e]; omega))
         case measure => first | (simp [intOf]; done) | (simp [intOf]; omega)
       · go_wp2
         go_roundw
         case rel =>
          refine ⟨2, by omega, by go_num, Lib.hid (z2_ hgr.out (.inl si_) _), Lib.hid ((z3_ HZr.out 1 _).trans ?_)⟩
          exact congrArg (fun z => some (Obj.cells z 196 (0, 0))) (zcT_ m.length 1 om_ _ (by have e : (2 : Nat) ^ (56 - 8 * 1) = 281474976710656 := de_; rw [e]; omega))
         case measure => first | (simp [intOf]; done) | (simp [intOf]; omega)
       · go_wp2
         go_roundw
         case rel =>
          refine ⟨3, by omega, by go_num, Lib.hid (z2_ hgr.out (.inl si_) _), Lib.hid ((z3_ HZr.out 2 _).trans ?_)⟩
          exact congrArg (fun z => some (Obj.cells z 196 (0, 0))) (zcT_ m.length 2 om_ _ (by have e : (2 : Nat) ^ (56 - 8 * 2) = 1099511627776 := de_; rw [e]; omega))
         case measure => first | (simp [intOf]; done) | (simp [intOf]; omega)
       · go_wp2
         go_roundw
         case rel =>
          refine ⟨4, by omega, by go_num, Lib.hid (z2_ hgr.out (.inl si_) _), Lib.hid ((z3_ HZr.out 3 _).trans ?_)⟩
          exact congrArg (fun z => some (Obj.cells z 196 (0, 0))) (zcT_ m.length 3 om_ _ (by have e : (2 : Nat) ^ (56 - 8 * 3) = 4294967296 := de_; rw [e]; omega))
         case measure => first | (simp [intOf]; done) | (simp [intOf]; omega)
       · go_wp2
         go_roundw
         case rel =>
          refine ⟨5, by omega, by go_num, Lib.hid (z2_ hgr.out (.inl si_) _), Lib.hid ((z3_ HZr.out 4 _).trans ?_)⟩
          exact congrArg (fun z => some (Obj.cells z 196 (0, 0))) (zcT_ m.length 4 om_ _ (by have e : (2 : Nat) ^ (56 - 8 * 4) = 16777216 := de_; rw [e]; omega))
         case measure => first | (simp [intOf]; done) | (simp [intOf]; omega)
       · go_wp2
         go_roundw
         case rel =>
          refine ⟨6, by omega, by go_num, Lib.hid (z2_ hgr.out (.inl si_) _), Lib.hid ((z3_ HZr.out 5 _).trans ?_)⟩
          exact congrArg (fun z => some (Obj.cells z 196 (0, 0))) (zcT_ m.length 5 om_ _ (by have e : (2 : Nat) ^ (56 - 8 * 5) = 65536 := de_; rw [e]; omega))
         case measure => first | (simp [intOf]; done) | (simp [intOf]; omega)
       · go_wp2
         go_roundw
         case rel =>
          refine ⟨7, by omega, by go_num, Lib.hid (z2_ hgr.out (.inl si_) _), Lib.hid ((z3_ HZr.out 6 _).trans ?_)⟩
          exact congrArg (fun z => some (Obj.cells z 196 (0, 0))) (zcT_ m.length 6 om_ _ (by have e : (2 : Nat) ^ (56 - 8 * 6) = 256 := de_; rw [e]; omega))
         case measure => first | (simp [intOf]; done) | (simp [intOf]; omega)
       · go_wp2
         go_roundw
         case rel =>
          refine ⟨8, by omega, by go_num, Lib.hid (z2_ hgr.out (.inl si_) _), Lib.hid ((z3_ HZr.out 7 _).trans ?_)⟩
          exact congrArg (fun z => some (Obj.cells z 196 (0, 0))) (zcT_ m.length 7 om_ _ (by have e : (2 : Nat) ^ (56 - 8 * 7) = 1 := de_; rw [e]; omega))
         case measure => first | (simp [intOf]; done) | (simp [intOf]; omega)
     · obtain rfl : i = 8 := by omega
       have hbz : zbs_ Z 0 (zaW_ m.length) wr := ⟨z4_ hzr.out, fun j hj => by
        have h := z0_ hzr.out (0 + j)
        rw [h, Nat.zero_add]
        have e : szC m.length 8 = (u8L (zaW_ m.length)).toArray := by simp [szC, zaW_]
        rw [e, List.getElem?_toArray]
        unfold u8L
        rw [List.getElem?_map, List.getElem?_eq_getElem hj, List.getD_eq_getElem?_getD, List.getElem?_eq_getElem hj]
        rfl⟩
       have hgz2 : GL [U] w1 wr := y7_ hgr.out HGz.out so_
       have HSz2 := Lib.hid (zev_ HSz.out hgr.out so_)
       have HBZ := Lib.hid hbz
       have HGZ2 := Lib.hid hgz2
       clear hgr hzr HGz HSz HZ1 hbz hgz2
       go_wp2_with fail
       refine (HWR.out wr (m ++ [128] ++ List.replicate (zae_ m.length) 0) (zaW_ m.length) Z HSz2.out HGZ2.out hZ1 HBZ.out (by simp [zaW_]) (by rw [hdm]; unfold zae_; simp [zaW_]; omega)).mono ?_
       rintro e w4 ⟨rfl, hS4, hg4⟩
       have HS4 : Hid (StAt U (zaS_ m) w4) := Lib.hid hS4
       have HG4 : Hid (GL [U] w1 w4) := Lib.hid (y7_ hg4 HGZ2.out si_)
       clear hS4 hg4 HGZ2 HBZ HSz2
       go_wp2_with fail
       have HO1 : Hid ((w4.alloc (.cells #[.int .u8 0, .int .u8 0, .int .u8 0, .int .u8 0, .int .u8 0, .int .u8 0, .int .u8 0, .int .u8 0, .int .u8 0, .int .u8 0, .int .u8 0, .int .u8 0, .int .u8 0, .int .u8 0, .int .u8 0, .int .u8 0, .int .u8 0, .int .u8 0, .int .u8 0, .int .u8 0, .int .u8 0, .int .u8 0, .int .u8 0, .int .u8 0, .int .u8 0, .int .u8 0, .int .u8 0, .int .u8 0, .int .u8 0, .int .u8 0, .int .u8 0, .int .u8 0] 104)).heap[w4.heap.size]? = some (.cells (outC (z9_ m) 0) 104 (0, 0))) := Lib.hid (y8_ w4 _)
       have HSo : Hid (StAt U (zaS_ m) (w4.alloc (.cells #[.int .u8 0, .int .u8 0, .int .u8 0, .int .u8 0, .int .u8 0, .int .u8 0, .int .u8 0, .int .u8 0, .int .u8 0, .int .u8 0, .int .u8 0, .int .u8 0, .int .u8 0, .int .u8 0, .int .u8 0, .int .u8 0, .int .u8 0, .int .u8 0, .int .u8 0, .int .u8 0, .int .u8 0, .int .u8 0, .int .u8 0, .int .u8 0, .int .u8 0, .int .u8 0, .int .u8 0, .int .u8 0, .int .u8 0, .int .u8 0, .int .u8 0, .int .u8 0] 104))) := Lib.hid (zev_ HS4.out (y2_ (y1_ [] _) _) si_)
       have HGo : Hid (GL [U] w1 (w4.alloc (.cells #[.int .u8 0, .int .u8 0, .int .u8 0, .int .u8 0, .int .u8 0, .int .u8 0, .int .u8 0, .int .u8 0, .int .u8 0, .int .u8 0, .int .u8 0, .int .u8 0, .int .u8 0, .int .u8 0, .int .u8 0, .int .u8 0, .int .u8 0, .int .u8 0, .int .u8 0, .int .u8 0, .int .u8 0, .int .u8 0, .int .u8 0, .int .u8 0, .int .u8 0, .int .u8 0, .int .u8 0, .int .u8 0, .int .u8 0, .int .u8 0, .int .u8 0, .int .u8 0] 104))) := Lib.hid (y2_ HG4.out _)
       have hO1 : w1.heap.size ≤ w4.heap.size := HG4.out.size
       clear HS4 HG4
       generalize w4.alloc (.cells #[.int .u8 0, .int .u8 0, .int .u8 0, .int .u8 0, .int .u8 0, .int .u8 0, .int .u8 0, .int .u8 0, .int .u8 0, .int .u8 0, .int .u8 0, .int .u8 0, .int .u8 0, .int .u8 0, .int .u8 0, .int .u8 0, .int .u8 0, .int .u8 0, .int .u8 0, .int .u8 0, .int .u8 0, .int .u8 0, .int .u8 0, .int .u8 0, .int .u8 0, .int .u8 0, .int .u8 0, .int .u8 0, .int .u8 0, .int .u8 0, .int .u8 0, .int .u8 0] 104) = wo at *
       generalize w4.heap.size = O at *
       obtain ⟨vo, wto, hFo, hbo, _⟩ := HSo.out
       have hvo : vo = z9_ m := hFo.v
       subst hvo
       have hnn := ziN_ m
       have HNN := Lib.hid hnn
       have HO := Lib.hid (j2_ (z9_ m))
       have HOB : Hid (∀ i, (q5_ (z9_ m)).getD i 0 = (q5_ (z9_ m)).getD i 0) := Lib.hid fun _ => rfl
       have HBO := Lib.hid hbo
       clear hFo hbo hnn HSo
       go_loopw [8, 41] (fun _ iv wr => ∃ i : Nat, i ≤ 32 ∧ iv = .int .i64 i ∧ Hid (GL [O] wo wr) ∧ Hid (wr.heap[O]? = some (.cells (outC (z9_ m) i) 104 (0, 0)))) (fun _ iv _ => 32 - (intOf iv).toNat)
       case atStart => exact ⟨0, by omega, rfl, Lib.hid (y1_ _ _), HO1⟩
       case round =>
        obtain ⟨i, hi, rfl, hgr, hor⟩ := hrel
        by_cases hlt : i < 32
        · have fcs : ∃ v, (outC (z9_ m) i)[i]? = some v := ⟨_, Array.getElem?_eq_getElem (by rw [ziO_ _ _ hi]; exact hlt)⟩
          obtain ⟨v0, hv0⟩ := fcs
          have fc := (z0_ hor.out i).trans hv0
          have fz := z8_ hor.out
          have fl := z4_ hor.out
          have HBr := Lib.hid (x6_ HBO.out hgr.out so_)
          have HOr := Lib.hid hor.out
          have fu := z8_ HBr.out
          clear hor hv0
          rcases (by omega : i = 0 ∨ i = 1 ∨ i = 2 ∨ i = 3 ∨ i = 4 ∨ i = 5 ∨ i = 6 ∨ i = 7 ∨ i = 8 ∨ i = 9 ∨ i = 10 ∨ i = 11 ∨ i = 12 ∨ i = 13 ∨ i = 14 ∨ i = 15 ∨ i = 16 ∨ i = 17 ∨ i = 18 ∨ i = 19 ∨ i = 20 ∨ i = 21 ∨ i = 22 ∨ i = 23 ∨ i = 24 ∨ i = 25 ∨ i = 26 ∨ i = 27 ∨ i = 28 ∨ i = 29 ∨ i = 30 ∨ i = 31) with rfl | rfl | rfl | rfl | rfl | rfl | rfl | rfl | rfl | rfl | rfl | rfl | rfl | rfl | rfl | rfl | rfl | rfl | rfl | rfl | rfl | rfl | rfl | rfl | rfl | rfl | rfl | rfl | rfl | rfl | rfl | rfl
          · have fcU : wr.cell? ⟨U, 0, none⟩ = some (.int .u32 (z9_ m).a) := (z0_ HBr.out 0).trans (w5_ (z9_ m) wto _ 0 om_)
            go_wp2
            go_roundw
            case rel =>
             refine ⟨1, by omega, by go_num, Lib.hid (z2_ hgr.out (.inl si_) _), Lib.hid ((z3_ HOr.out 0 _).trans ?_)⟩
             exact congrArg (fun z => some (Obj.cells z 104 (0, 0))) (HO.out 0 om_ _ (by have h := zaw_ (z9_ m).a HNN.out.1 24; rw [show ((2 : Int) ^ 24) = 16777216 from rfl] at h; exact h.symm))
            case measure => first | (simp [intOf]; done) | (simp [intOf]; omega)
          · have fcU : wr.cell? ⟨U, 0, none⟩ = some (.int .u32 (z9_ m).a) := (z0_ HBr.out 0).trans (w5_ (z9_ m) wto _ 0 om_)
            go_wp2
            go_roundw
            case rel =>
             refine ⟨2, by omega, by go_num, Lib.hid (z2_ hgr.out (.inl si_) _), Lib.hid ((z3_ HOr.out 1 _).trans ?_)⟩
             exact congrArg (fun z => some (Obj.cells z 104 (0, 0))) (HO.out 1 om_ _ (by have h := zaw_ (z9_ m).a HNN.out.1 16; rw [show ((2 : Int) ^ 16) = 65536 from rfl] at h; exact h.symm))
            case measure => first | (simp [intOf]; done) | (simp [intOf]; omega)
          · have fcU : wr.cell? ⟨U, 0, none⟩ = some (.int .u32 (z9_ m).a) := (z0_ HBr.out 0).trans (w5_ (z9_ m) wto _ 0 om_)
            go_wp2
            go_roundw
            case rel =>
             refine ⟨3, by omega, by go_num, Lib.hid (z2_ hgr.out (.inl si_) _), Lib.hid ((z3_ HOr.out 2 _).trans ?_)⟩
             exact congrArg (fun z => some (Obj.cells z 104 (0, 0))) (HO.out 2 om_ _ (by have h := zaw_ (z9_ m).a HNN.out.1 8; rw [show ((2 : Int) ^ 8) = 256 from rfl] at h; exact h.symm))
            case measure => first | (simp [intOf]; done) | (simp [intOf]; omega)
          · have fcU : wr.cell? ⟨U, 0, none⟩ = some (.int .u32 (z9_ m).a) := (z0_ HBr.out 0).trans (w5_ (z9_ m) wto _ 0 om_)
            go_wp2
            go_roundw
            case rel =>
             refine ⟨4, by omega, by go_num, Lib.hid (z2_ hgr.out (.inl si_) _), Lib.hid ((z3_ HOr.out 3 _).trans ?_)⟩
             exact congrArg (fun z => some (Obj.cells z 104 (0, 0))) (HO.out 3 om_ _ (by have h := HNN.out.1; show _ = (((UInt8.ofNat (z9_ m).a.toNat).toNat : Nat) : Int); rw [UInt8.toNat_ofNat']; omega))
            case measure => first | (simp [intOf]; done) | (simp [intOf]; omega)
          · have fcU : wr.cell? ⟨U, 1, none⟩ = some (.int .u32 (z9_ m).b) := (z0_ HBr.out 1).trans (w5_ (z9_ m) wto _ 1 om_)
            go_wp2
            go_roundw
            case rel =>
             refine ⟨5, by omega, by go_num, Lib.hid (z2_ hgr.out (.inl si_) _), Lib.hid ((z3_ HOr.out 4 _).trans ?_)⟩
             exact congrArg (fun z => some (Obj.cells z 104 (0, 0))) (HO.out 4 om_ _ (by have h := zaw_ (z9_ m).b HNN.out.2.1 24; rw [show ((2 : Int) ^ 24) = 16777216 from rfl] at h; exact h.symm))
            case measure => first | (simp [intOf]; done) | (simp [intOf]; omega)
          · have fcU : wr.cell? ⟨U, 1, none⟩ = some (.int .u32 (z9_ m).b) := (z0_ HBr.out 1).trans (w5_ (z9_ m) wto _ 1 om_)
            go_wp2
            go_roundw
            case rel =>
             refine ⟨6, by omega, by go_num, Lib.hid (z2_ hgr.out (.inl si_) _), Lib.hid ((z3_ HOr.out 5 _).trans ?_)⟩
             exact congrArg (fun z => some (Obj.cells z 104 (0, 0))) (HO.out 5 om_ _ (by have h := zaw_ (z9_ m).b HNN.out.2.1 16; rw [show ((2 : Int) ^ 16) = 65536 from rfl] at h; exact h.symm))
            case measure => first | (simp [intOf]; done) | (simp [intOf]; omega)
          · have fcU : wr.cell? ⟨U, 1, none⟩ = some (.int .u32 (z9_ m).b) := (z0_ HBr.out 1).trans (w5_ (z9_ m) wto _ 1 om_)
            go_wp2
            go_roundw
            case rel =>
             refine ⟨7, by omega, by go_num, Lib.hid (z2_ hgr.out (.inl si_) _), Lib.hid ((z3_ HOr.out 6 _).trans ?_)⟩
             exact congrArg (fun z => some (Obj.cells z 104 (0, 0))) (HO.out 6 om_ _ (by have h := zaw_ (z9_ m).b HNN.out.2.1 8; rw [show ((2 : Int) ^ 8) = 256 from rfl] at h; exact h.symm))
            case measure => first | (simp [intOf]; done) | (simp [intOf]; omega)
          · have fcU : wr.cell? ⟨U, 1, none⟩ = some (.int .u32 (z9_ m).b) := (z0_ HBr.out 1).trans (w5_ (z9_ m) wto _ 1 om_)
            go_wp2
            go_roundw
            case rel =>
             refine ⟨8, by omega, by go_num, Lib.hid (z2_ hgr.out (.inl si_) _), Lib.hid ((z3_ HOr.out 7 _).trans ?_)⟩
             exact congrArg (fun z => some (Obj.cells z 104 (0, 0))) (HO.out 7 om_ _ (by have h := HNN.out.2.1; show _ = (((UInt8.ofNat (z9_ m).b.toNat).toNat : Nat) : Int); rw [UInt8.toNat_ofNat']; omega))
            case measure => first | (simp [intOf]; done) | (simp [intOf]; omega)
          · have fcU : wr.cell? ⟨U, 2, none⟩ = some (.int .u32 (z9_ m).c) := (z0_ HBr.out 2).trans (w5_ (z9_ m) wto _ 2 om_)
            go_wp2
            go_roundw
            case rel =>
             refine ⟨9, by omega, by go_num, Lib.hid (z2_ hgr.out (.inl si_) _), Lib.hid ((z3_ HOr.out 8 _).trans ?_)⟩
             exact congrArg (fun z => some (Obj.cells z 104 (0, 0))) (HO.out 8 om_ _ (by have h := zaw_ (z9_ m).c HNN.out.2.2.1 24; rw [show ((2 : Int) ^ 24) = 16777216 from rfl] at h; exact h.symm))
            case measure => first | (simp [intOf]; done) | (simp [intOf]; omega)
          · have fcU : wr.cell? ⟨U, 2, none⟩ = some (.int .u32 (z9_ m).c) := (z0_ HBr.out 2).trans (w5_ (z9_ m) wto _ 2 om_)
            go_wp2
            go_roundw
            case rel =>
             refine ⟨10, by omega, by go_num, Lib.hid (z2_ hgr.out (.inl si_) _), Lib.hid ((z3_ HOr.out 9 _).trans ?_)⟩
             exact congrArg (fun z => some (Obj.cells z 104 (0, 0))) (HO.out 9 om_ _ (by have h := zaw_ (z9_ m).c HNN.out.2.2.1 16; rw [show ((2 : Int) ^ 16) = 65536 from rfl] at h; exact h.symm))
            case measure => first | (simp [intOf]; done) | (simp [intOf]; omega)
          · have fcU : wr.cell? ⟨U, 2, none⟩ = some (.int .u32 (z9_ m).c) := (z0_ HBr.out 2).trans (w5_ (z9_ m) wto _ 2 om_)
            go_wp2
            go_roundw
            case rel =>
             refine ⟨11, by omega, by go_num, Lib.hid (z2_ hgr.out (.inl si_) _), Lib.hid ((z3_ HOr.out 10 _).trans ?_)⟩
             exact congrArg (fun z => some (Obj.cells z 104 (0, 0))) (HO.out 10 om_ _ (by have h := zaw_ (z9_ m).c HNN.out.2.2.1 8; rw [show ((2 : Int) ^ 8) = 256 from rfl] at h; exact h.symm))
            case measure => first | (simp [intOf]; done) | (simp [intOf]; omega)
          · have fcU : wr.cell? ⟨U, 2, none⟩ = some (.int .u32 (z9_ m).c) := (z0_ HBr.out 2).trans (w5_ (z9_ m) wto _ 2 om_)
            go_wp2
            go_roundw
            case rel =>
             refine ⟨12, by omega, by go_num, Lib.hid (z2_ hgr.out (.inl si_) _), Lib.hid ((z3_ HOr.out 11 _).trans ?_)⟩
             exact congrArg (fun z => some (Obj.cells z 104 (0, 0))) (HO.out 11 om_ _ (by have h := HNN.out.2.2.1; show _ = (((UInt8.ofNat (z9_ m).c.toNat).toNat : Nat) : Int); rw [UInt8.toNat_ofNat']; omega))
            case measure => first | (simp [intOf]; done) | (simp [intOf]; omega)
          · have fcU : wr.cell? ⟨U, 3, none⟩ = some (.int .u32 (z9_ m).d) := (z0_ HBr.out 3).trans (w5_ (z9_ m) wto _ 3 om_)
            go_wp2
            go_roundw
            case rel =>
             refine ⟨13, by omega, by go_num, Lib.hid (z2_ hgr.out (.inl si_) _), Lib.hid ((z3_ HOr.out 12 _).trans ?_)⟩
             exact congrArg (fun z => some (Obj.cells z 104 (0, 0))) (HO.out 12 om_ _ (by have h := zaw_ (z9_ m).d HNN.out.2.2.2.1 24; rw [show ((2 : Int) ^ 24) = 16777216 from rfl] at h; exact h.symm))
            case measure => first | (simp [intOf]; done) | (simp [intOf]; omega)
          · have fcU : wr.cell? ⟨U, 3, none⟩ = some (.int .u32 (z9_ m).d) := (z0_ HBr.out 3).trans (w5_ (z9_ m) wto _ 3 om_)
            go_wp2
            go_roundw
            case rel =>
             refine ⟨14, by omega, by go_num, Lib.hid (z2_ hgr.out (.inl si_) _), Lib.hid ((z3_ HOr.out 13 _).trans ?_)⟩
             exact congrArg (fun z => some (Obj.cells z 104 (0, 0))) (HO.out 13 om_ _ (by have h := zaw_ (z9_ m).d HNN.out.2.2.2.1 16; rw [show ((2 : Int) ^ 16) = 65536 from rfl] at h; exact h.symm))
            case measure => first | (simp [intOf]; done) | (simp [intOf]; omega)
          · have fcU : wr.cell? ⟨U, 3, none⟩ = some (.int .u32 (z9_ m).d) := (z0_ HBr.out 3).trans (w5_ (z9_ m) wto _ 3 om_)
            go_wp2
            go_roundw
            case rel =>
             refine ⟨15, by omega, by go_num, Lib.hid (z2_ hgr.out (.inl si_) _), Lib.hid ((z3_ HOr.out 14 _).trans ?_)⟩
             exact congrArg (fun z => some (Obj.cells z 104 (0, 0))) (HO.out 14 om_ _ (by have h := zaw_ (z9_ m).d HNN.out.2.2.2.1 8; rw [show ((2 : Int) ^ 8) = 256 from rfl] at h; exact h.symm))
            case measure => first | (simp [intOf]; done) | (simp [intOf]; omega)
          · have fcU : wr.cell? ⟨U, 3, none⟩ = some (.int .u32 (z9_ m).d) := (z0_ HBr.out 3).trans (w5_ (z9_ m) wto _ 3 om_)
            go_wp2
            go_roundw
            case rel =>
             refine ⟨16, by omega, by go_num, Lib.hid (z2_ hgr.out (.inl si_) _), Lib.hid ((z3_ HOr.out 15 _).trans ?_)⟩
             exact congrArg (fun z => some (Obj.cells z 104 (0, 0))) (HO.out 15 om_ _ (by have h := HNN.out.2.2.2.1; show _ = (((UInt8.ofNat (z9_ m).d.toNat).toNat : Nat) : Int); rw [UInt8.toNat_ofNat']; omega))
            case measure => first | (simp [intOf]; done) | (simp [intOf]; omega)
          · have fcU : wr.cell? ⟨U, 4, none⟩ = some (.int .u32 (z9_ m).e) := (z0_ HBr.out 4).trans (w5_ (z9_ m) wto _ 4 om_)
            go_wp2
            go_roundw
            case rel =>
             refine ⟨17, by omega, by go_num, Lib.hid (z2_ hgr.out (.inl si_) _), Lib.hid ((z3_ HOr.out 16 _).trans ?_)⟩
             exact congrArg (fun z => some (Obj.cells z 104 (0, 0))) (HO.out 16 om_ _ (by have h := zaw_ (z9_ m).e HNN.out.2.2.2.2.1 24; rw [show ((2 : Int) ^ 24) = 16777216 from rfl] at h; exact h.symm))
            case measure => first | (simp [intOf]; done) | (simp [intOf]; omega)
          · have fcU : wr.cell? ⟨U, 4, none⟩ = some (.int .u32 (z9_ m).e) := (z0_ HBr.out 4).trans (w5_ (z9_ m) wto _ 4 om_)
            go_wp2
            go_roundw
            case rel =>
             refine ⟨18, by omega, by go_num, Lib.hid (z2_ hgr.out (.inl si_) _), Lib.hid ((z3_ HOr.out 17 _).trans ?_)⟩
             exact congrArg (fun z => some (Obj.cells z 104 (0, 0))) (HO.out 17 om_ _ (by have h := zaw_ (z9_ m).e HNN.out.2.2.2.2.1 16; rw [show ((2 : Int) ^ 16) = 65536 from rfl] at h; exact h.symm))
            case measure => first | (simp [intOf]; done) | (simp [intOf]; omega)
          · have fcU : wr.cell? ⟨U, 4, none⟩ = some (.int .u32 (z9_ m).e) := (z0_ HBr.out 4).trans (w5_ (z9_ m) wto _ 4 om_)
            go_wp2
            go_roundw
            case rel =>
             refine ⟨19, by omega, by go_num, Lib.hid (z2_ hgr.out (.inl si_) _), Lib.hid ((z3_ HOr.out 18 _).trans ?_)⟩
             exact congrArg (fun z => some (Obj.cells z 104 (0, 0))) (HO.out 18 om_ _ (by have h := zaw_ (z9_ m).e HNN.out.2.2.2.2.1 8; rw [show ((2 : Int) ^ 8) = 256 from rfl] at h; exact h.symm))
            case measure => first | (simp [intOf]; done) | (simp [intOf]; omega)
          · have fcU : wr.cell? ⟨U, 4, none⟩ = some (.int .u32 (z9_ m).e) := (z0_ HBr.out 4).trans (w5_ (z9_ m) wto _ 4 om_)
            go_wp2
            go_roundw
            case rel =>
             refine ⟨20, by omega, by go_num, Lib.hid (z2_ hgr.out (.inl si_) _), Lib.hid ((z3_ HOr.out 19 _).trans ?_)⟩
             exact congrArg (fun z => some (Obj.cells z 104 (0, 0))) (HO.out 19 om_ _ (by have h := HNN.out.2.2.2.2.1; show _ = (((UInt8.ofNat (z9_ m).e.toNat).toNat : Nat) : Int); rw [UInt8.toNat_ofNat']; omega))
            case measure => first | (simp [intOf]; done) | (simp [intOf]; omega)
          · have fcU : wr.cell? ⟨U, 5, none⟩ = some (.int .u32 (z9_ m).f) := (z0_ HBr.out 5).trans (w5_ (z9_ m) wto _ 5 om_)
            go_wp2
            go_roundw
            case rel =>
             refine ⟨21, by omega, by go_num, Lib.hid (z2_ hgr.out (.inl si_) _), Lib.hid ((z3_ HOr.out 20 _).trans ?_)⟩
             exact congrArg (fun z => some (Obj.cells z 104 (0, 0))) (HO.out 20 om_ _ (by have h := zaw_ (z9_ m).f HNN.out.2.2.2.2.2.1 24; rw [show ((2 : Int) ^ 24) = 16777216 from rfl] at h; exact h.symm))
            case measure => first | (simp [intOf]; done) | (simp [intOf]; omega)
          · have fcU : wr.cell? ⟨U, 5, none⟩ = some (.int .u32 (z9_ m).f) := (z0_ HBr.out 5).trans (w5_ (z9_ m) wto _ 5 om_)
            go_wp2
            go_roundw
            case rel =>
             refine ⟨22, by omega, by go_num, Lib.hid (z2_ hgr.out (.inl si_) _), Lib.hid ((z3_ HOr.out 21 _).trans ?_)⟩
             exact congrArg (fun z => some (Obj.cells z 104 (0, 0))) (HO.out 21 om_ _ (by have h := zaw_ (z9_ m).f HNN.out.2.2.2.2.2.1 16; rw [show ((2 : Int) ^ 16) = 65536 from rfl] at h; exact h.symm))
            case measure => first | (simp [intOf]; done) | (simp [intOf]; omega)
          · have fcU : wr.cell? ⟨U, 5, none⟩ = some (.int .u32 (z9_ m).f) := (z0_ HBr.out 5).trans (w5_ (z9_ m) wto _ 5 om_)
            go_wp2
            go_roundw
            case rel =>
             refine ⟨23, by omega, by go_num, Lib.hid (z2_ hgr.out (.inl si_) _), Lib.hid ((z3_ HOr.out 22 _).trans ?_)⟩
             exact congrArg (fun z => some (Obj.cells z 104 (0, 0))) (HO.out 22 om_ _ (by have h := zaw_ (z9_ m).f HNN.out.2.2.2.2.2.1 8; rw [show ((2 : Int) ^ 8) = 256 from rfl] at h; exact h.symm))
            case measure => first | (simp [intOf]; done) | (simp [intOf]; omega)
          · have fcU : wr.cell? ⟨U, 5, none⟩ = some (.int .u32 (z9_ m).f) := (z0_ HBr.out 5).trans (w5_ (z9_ m) wto _ 5 om_)
            go_wp2
            go_roundw
            case rel =>
             refine ⟨24, by omega, by go_num, Lib.hid (z2_ hgr.out (.inl si_) _), Lib.hid ((z3_ HOr.out 23 _).trans ?_)⟩
             exact congrArg (fun z => some (Obj.cells z 104 (0, 0))) (HO.out 23 om_ _ (by have h := HNN.out.2.2.2.2.2.1; show _ = (((UInt8.ofNat (z9_ m).f.toNat).toNat : Nat) : Int); rw [UInt8.toNat_ofNat']; omega))
            case measure => first | (simp [intOf]; done) | (simp [intOf]; omega)
          · have fcU : wr.cell? ⟨U, 6, none⟩ = some (.int .u32 (z9_ m).g) := (z0_ HBr.out 6).trans (w5_ (z9_ m) wto _ 6 om_)
            go_wp2
            go_roundw
            case rel =>
             refine ⟨25, by omega, by go_num, Lib.hid (z2_ hgr.out (.inl si_) _), Lib.hid ((z3_ HOr.out 24 _).trans ?_)⟩
             exact congrArg (fun z => some (Obj.cells z 104 (0, 0))) (HO.out 24 om_ _ (by have h := zaw_ (z9_ m).g HNN.out.2.2.2.2.2.2.1 24; rw [show ((2 : Int) ^ 24) = 16777216 from rfl] at h; exact h.symm))
            case measure => first | (simp [intOf]; done) | (simp [intOf]; omega)
          · have fcU : wr.cell? ⟨U, 6, none⟩ = some (.int .u32 (z9_ m).g) := (z0_ HBr.out 6).trans (w5_ (z9_ m) wto _ 6 om_)
            go_wp2
            go_roundw
            case rel =>
             refine ⟨26, by omega, by go_num, Lib.hid (z2_ hgr.out (.inl si_) _), Lib.hid ((z3_ HOr.out 25 _).trans ?_)⟩
             exact congrArg (fun z => some (Obj.cells z 104 (0, 0))) (HO.out 25 om_ _ (by have h := zaw_ (z9_ m).g HNN.out.2.2.2.2.2.2.1 16; rw [show ((2 : Int) ^ 16) = 65536 from rfl] at h; exact h.symm))
            case measure => first | (simp [intOf]; done) | (simp [intOf]; omega)
          · have fcU : wr.cell? ⟨U, 6, none⟩ = some (.int .u32 (z9_ m).g) := (z0_ HBr.out 6).trans (w5_ (z9_ m) wto _ 6 om_)
            go_wp2
            go_roundw
            case rel =>
             refine ⟨27, by omega, by go_num, Lib.hid (z2_ hgr.out (.inl si_) _), Lib.hid ((z3_ HOr.out 26 _).trans ?_)⟩
             exact congrArg (fun z => some (Obj.cells z 104 (0, 0))) (HO.out 26 om_ _ (by have h := zaw_ (z9_ m).g HNN.out.2.2.2.2.2.2.1 8; rw [show ((2 : Int) ^ 8) = 256 from rfl] at h; exact h.symm))
            case measure => first | (simp [intOf]; done) | (simp [intOf]; omega)
          · have fcU : wr.cell? ⟨U, 6, none⟩ = some (.int .u32 (z9_ m).g) := (z0_ HBr.out 6).trans (w5_ (z9_ m) wto _ 6 om_)
            go_wp2
            go_roundw
            case rel =>
             refine ⟨28, by omega, by go_num, Lib.hid (z2_ hgr.out (.inl si_) _), Lib.hid ((z3_ HOr.out 27 _).trans ?_)⟩
             exact congrArg (fun z => some (Obj.cells z 104 (0, 0))) (HO.out 27 om_ _ (by have h := HNN.out.2.2.2.2.2.2.1; show _ = (((UInt8.ofNat (z9_ m).g.toNat).toNat : Nat) : Int); rw [UInt8.toNat_ofNat']; omega))
            case measure => first | (simp [intOf]; done) | (simp [intOf]; omega)
          · have fcU : wr.cell? ⟨U, 7, none⟩ = some (.int .u32 (z9_ m).h) := (z0_ HBr.out 7).trans (w5_ (z9_ m) wto _ 7 om_)
            go_wp2
            go_roundw
            case rel =>
             refine ⟨29, by omega, by go_num, Lib.hid (z2_ hgr.out (.inl si_) _), Lib.hid ((z3_ HOr.out 28 _).trans ?_)⟩
             exact congrArg (fun z => some (Obj.cells z 104 (0, 0))) (HO.out 28 om_ _ (by have h := zaw_ (z9_ m).h HNN.out.2.2.2.2.2.2.2 24; rw [show ((2 : Int) ^ 24) = 16777216 from rfl] at h; exact h.symm))
            case measure => first | (simp [intOf]; done) | (simp [intOf]; omega)
          · have fcU : wr.cell? ⟨U, 7, none⟩ = some (.int .u32 (z9_ m).h) := (z0_ HBr.out 7).trans (w5_ (z9_ m) wto _ 7 om_)
            go_wp2
            go_roundw
            case rel =>
             refine ⟨30, by omega, by go_num, Lib.hid (z2_ hgr.out (.inl si_) _), Lib.hid ((z3_ HOr.out 29 _).trans ?_)⟩
             exact congrArg (fun z => some (Obj.cells z 104 (0, 0))) (HO.out 29 om_ _ (by have h := zaw_ (z9_ m).h HNN.out.2.2.2.2.2.2.2 16; rw [show ((2 : Int) ^ 16) = 65536 from rfl] at h; exact h.symm))
            case measure => first | (simp [intOf]; done) | (simp [intOf]; omega)
          · have fcU : wr.cell? ⟨U, 7, none⟩ = some (.int .u32 (z9_ m).h) := (z0_ HBr.out 7).trans (w5_ (z9_ m) wto _ 7 om_)
            go_wp2
            go_roundw
            case rel =>
             refine ⟨31, by omega, by go_num, Lib.hid (z2_ hgr.out (.inl si_) _), Lib.hid ((z3_ HOr.out 30 _).trans ?_)⟩
             exact congrArg (fun z => some (Obj.cells z 104 (0, 0))) (HO.out 30 om_ _ (by have h := zaw_ (z9_ m).h HNN.out.2.2.2.2.2.2.2 8; rw [show ((2 : Int) ^ 8) = 256 from rfl] at h; exact h.symm))
            case measure => first | (simp [intOf]; done) | (simp [intOf]; omega)
          · have fcU : wr.cell? ⟨U, 7, none⟩ = some (.int .u32 (z9_ m).h) := (z0_ HBr.out 7).trans (w5_ (z9_ m) wto _ 7 om_)
            go_wp2
            go_roundw
            case rel =>
             refine ⟨32, by omega, by go_num, Lib.hid (z2_ hgr.out (.inl si_) _), Lib.hid ((z3_ HOr.out 31 _).trans ?_)⟩
             exact congrArg (fun z => some (Obj.cells z 104 (0, 0))) (HO.out 31 om_ _ (by have h := HNN.out.2.2.2.2.2.2.2; show _ = (((UInt8.ofNat (z9_ m).h.toNat).toNat : Nat) : Int); rw [UInt8.toNat_ofNat']; omega))
            case measure => first | (simp [intOf]; done) | (simp [intOf]; omega)
        · obtain rfl : i = 32 := by omega
          have e32 : outC (z9_ m) 32 = (u8L (q5_ (z9_ m))).toArray := by
           unfold outC
           rw [List.take_of_length_le (by rw [zbW_]; omega)]
           simp
          have hO := hor.out
          rw [e32] at hO
          have hRr := x6_ (x6_ HR1.out HGo.out so_) hgr.out so_
          have hgw : GL [] w wr := y7_ hgr.out (y7_ HGo.out hg1 so_) so_
          have hl32 : (u8L (q5_ (z9_ m))).length = 32 := by rw [zaj_, zbW_]
          have hsc2 := run_storeCells_cells (P := Tryz.prog) R 0 (u8L (q5_ (z9_ m))) 0 wr (fun j hj => by have := (zbL_ hRr j (by rw [hl32] at hj; exact hj)).1; simpa using this) (fun j hj => by have := (zbL_ hRr j (by rw [hl32] at hj; exact hj)).2; simpa using this) (fun x hx => by
           unfold u8L at hx
           obtain ⟨y, _, rfl⟩ := List.mem_map.1 hx
           rfl)
          rw [Nat.add_zero] at hsc2
          have hRf := zdC_ (vs := u8L (q5_ (z9_ m))) hRr (by rw [hl32]; rfl)
          have hlv := run_loadVar_mid (P := Tryz.prog) (wr.setCells R 0 (u8L (q5_ (z9_ m)))) R 0 104 (u8L (q5_ (z9_ m))) _ (zdj_ hRf) Tryz.underlying104 rfl (by rw [Tryz.sizeA32, hl32])
          have HFIN : Hid (Below w.heap.size w (wr.setCells R 0 (u8L (q5_ (z9_ m))))) := Lib.hid (y0_ (zce_ (.inr om_) _ 0 _ hgw))
          have HOc := Lib.hid hO
          clear hor hgr hO hgw hRr hRf
          generalize hob : u8L (q5_ (z9_ m)) = ob at *
          go_wp2_with ((with_reducible refine wpList_load_mid rfl 104 (.tmp 7) rfl O 0 rfl ob _ ?hc Tryz.underlying104 rfl ?hi ?_; (case hc => exact zdj_ HOc.out); (case hi => rw [Tryz.sizeA32, hl32])))
          exact bodyPost_ret (v := .agg ob.toArray) (by simp [results, Tryz.results128, asAddr, hlv]) rfl (by
           refine ⟨?_, ?_⟩
           · first | rfl | rw [hob]
           · have hfin := HFIN.out
             rw [hRw] at hfin
             exact hfin)
def x8_ (bv : Value) (l : List UInt8) (w : World) : Prop := ∃ G o c, zdT_ bv G o c l.length 0 ∧ l.length ≤ c ∧ (l ≠ [] → zbs_ G o l w)
theorem za1_ {bv : Value} {l : List UInt8} {w w' : World} (h : x8_ bv l w) (hg : GL [] w w') : x8_ bv l w' := by
 obtain ⟨G, o, c, h1, h2, h3⟩ := h
 exact ⟨G, o, c, h1, h2, fun h => zbf_ (h3 h) hg si_⟩
theorem znH_ {bv : Value} {l : List UInt8} {w : World} (h : x8_ bv l w) (B : Nat) (hB : w.heap.size ≤ B) : ∃ G o c, zdT_ bv G o c l.length 0 ∧ l.length ≤ c ∧ G ≠ B ∧ (l ≠ [] → zbs_ G o l w) := by
 obtain ⟨G, o, c, h1, h2, h3⟩ := h
 by_cases hl : l = []
 · subst hl
   rcases h1 with ⟨h1, h4⟩ | ⟨h1, h4⟩
   · exact ⟨B + 1, o, c, .inl ⟨h1, h4⟩, h2, by omega, fun h => absurd rfl h⟩
   · simp at h1
 · have := (h3 hl).1
   exact ⟨G, o, c, h1, h2, by omega, h3⟩
theorem dSum (l : List UInt8) (bv : Value) (w : World) (hin : x8_ bv l w) (hT : zcz_ w) (hlen : l.length ≤ 900000000000) :
  Calls Tryz.prog 74 #[bv] w fun e w' => e = .returned (.agg (u8L (q5_ (z9_ l))).toArray) ∧ Below w.heap.size w w' := by
 have HIN := Lib.hid hin
 have HT := Lib.hid hT
 have hTl : 7 < w.heap.size := World.block_lt_of_cell? _ _ (hT 0 om_)
 obtain ⟨ad, n, cc, rfl⟩ : ∃ ad n cc, bv = .slice ad n cc := by
  obtain ⟨G, o, c, h1, _⟩ := hin
  rcases h1 with ⟨_, ad, cc, h⟩ | ⟨_, h⟩
  · exact ⟨_, _, _, h⟩
  · exact ⟨_, _, _, h⟩
 clear hin hT
 go_enter Tryz.func74, Tryz.ntmps74
 go_wp2_with fail
 refine (dNew _).mono ?_
 rintro e w1 ⟨B, rfl, hB, hS, hb1⟩
 have hR := x0_ (y8_ w (.cells #[.int .u8 0, .int .u8 0, .int .u8 0, .int .u8 0, .int .u8 0, .int .u8 0, .int .u8 0, .int .u8 0, .int .u8 0, .int .u8 0, .int .u8 0, .int .u8 0, .int .u8 0, .int .u8 0, .int .u8 0, .int .u8 0, .int .u8 0, .int .u8 0, .int .u8 0, .int .u8 0, .int .u8 0, .int .u8 0, .int .u8 0, .int .u8 0, .int .u8 0, .int .u8 0, .int .u8 0, .int .u8 0, .int .u8 0, .int .u8 0, .int .u8 0, .int .u8 0] 104)) hb1 si_
 have hg1 : GL [] w w1 := y6_ hb1 (y2_ (y1_ _ _) _)
 simp only [World.size_alloc] at hB
 have HR1 := Lib.hid hR
 have HS1 := Lib.hid hS
 have HG1 := Lib.hid hg1
 clear hR hS hg1 hb1
 go_wp2_with fail
 refine (ziM_ B [] l _ w1 HS1.out (by
  obtain ⟨G, o, c, h1, h2, h3, h4⟩ := znH_ HIN.out B om_
  exact ⟨G, o, c, h1, h2, h3, fun h => zbf_ (h4 h) HG1.out si_⟩) (zcd_ HT.out HG1.out si_) so_ om_).mono ?_
 rintro e w2 ⟨rfl, hS2, hg2⟩
 rw [List.nil_append] at hS2
 have HS2 := Lib.hid hS2
 have HR2 := Lib.hid (x6_ HR1.out hg2 so_)
 have HG2 : Hid (GL [] w w2) := Lib.hid (y7_ hg2 HG1.out so_)
 clear hS2 hg2 HS1 HR1
 go_wp2_with fail
 refine (znG_ B l w2 HS2.out (zcd_ HT.out HG2.out si_) hlen).mono ?_
 rintro e w3 ⟨rfl, hb3⟩
 have hR3 := x0_ HR2.out hb3 (z4_ HR2.out)
 have hg3 := y6_ hb3 HG2.out
 have hl32 : (u8L (q5_ (z9_ l))).length = 32 := by rw [zaj_, zbW_]
 have hone : ∀ v ∈ u8L (q5_ (z9_ l)), v.oneCell' = true := fun x hx => by
  unfold u8L at hx
  obtain ⟨y, _, rfl⟩ := List.mem_map.1 hx
  rfl
 have hsc2 := run_storeCells_cells (P := Tryz.prog) w.heap.size 0 (u8L (q5_ (z9_ l))) 0 w3 (fun j hj => by have := (zbL_ hR3 j (by rw [hl32] at hj; exact hj)).1; simpa using this) (fun j hj => by have := (zbL_ hR3 j (by rw [hl32] at hj; exact hj)).2; simpa using this) hone
 rw [Nat.add_zero] at hsc2
 have hRf := zdC_ (vs := u8L (q5_ (z9_ l))) hR3 (by rw [hl32]; rfl)
 have hlv := run_loadVar_mid (P := Tryz.prog) (w3.setCells w.heap.size 0 (u8L (q5_ (z9_ l)))) w.heap.size 0 104 (u8L (q5_ (z9_ l))) _ (zdj_ hRf) Tryz.underlying104 rfl (by rw [Tryz.sizeA32, hl32])
 have HFIN : Hid (Below w.heap.size w (w3.setCells w.heap.size 0 (u8L (q5_ (z9_ l))))) := Lib.hid (y0_ (zce_ (.inr om_) _ 0 _ hg3))
 clear hR3 hg3 hRf hone hb3
 generalize hob : u8L (q5_ (z9_ l)) = ob at *
 go_wp2_with fail
 exact bodyPost_ret (v := .agg ob.toArray) (by simp [results, Tryz.results74, asAddr, hlv]) rfl (by
  refine ⟨?_, ?_⟩
  · first | rfl | rw [hob]
  · exact HFIN.out)
theorem ziQ_ (a b : List UInt8) : hexB (a ++ b) = hexB a ++ hexB b := by unfold hexB; rw [List.flatMap_append]
theorem znJ_ (w : World) (cs : Array Value) (i : Nat) (x : Value) (hi : i < 32) (hx : cs[i]? = some x) : (Instr.index 104 (.agg cs) (.int .i64 (i : Int))).run Tryz.prog w = .ok x w := by
 have h2 : (0 : Int) ≤ (i : Int) ∧ (i : Int) < 32 := by omega
 obtain ⟨j, hj, hjs⟩ := Option.map_eq_some_iff.1 Tryz.sizeU8
 simp [Instr.index, run_underlying Tryz.underlying104, asIntOf, sizeOf, typeInfo, hj, hjs, part, h2]
 rw [if_pos hi, hx]
 rfl
def digL : List UInt8 := [48, 49, 50, 51, 52, 53, 54, 55, 56, 57, 97, 98, 99, 100, 101, 102]
theorem ziR_ : ∀ k : Fin 16, digL[k.val]'k.isLt = hexC k.val := by decide
def hexO (ob : List UInt8) (i : Nat) : Array Value := (u8L (hexB (ob.take i)) ++ List.replicate (64 - 2 * i) (Value.int .u8 0)).toArray
theorem ziS_ (ob : List UInt8) (i j : Nat) (h : ob.length = 32) (hi : i < 32) (hj : 2 * i ≤ j) (hj2 : j < 64) : (hexO ob i)[j]? = some (.int .u8 0) := by
 have e : (u8L (hexB (ob.take i))).length = 2 * i := by rw [zaj_, zeo_, List.length_take]; omega
 unfold hexO
 rw [List.getElem?_toArray, List.getElem?_append_right om_, List.getElem?_replicate, if_pos om_]
theorem znL_ (ob : List UInt8) (i : Nat) (h : ob.length = 32) (hi : i < 32) : ((hexO ob i).setIfInBounds (2 * i) (.int .u8 (hexC ((ob.getD i 0).toNat / 16)).toNat)).setIfInBounds (2 * i + 1) (.int .u8 (hexC ((ob.getD i 0).toNat % 16)).toNat) = hexO ob (i + 1) := by
 have e : (u8L (hexB (ob.take i))).length = 2 * i := by rw [zaj_, zeo_, List.length_take]; omega
 unfold hexO
 rw [List.setIfInBounds_toArray, List.setIfInBounds_toArray, List.set_append_right _ _ om_, List.set_append_right _ _ om_]
 congr 1
 rw [e, Nat.sub_self, show 2 * i + 1 - 2 * i = 1 by omega, show 64 - 2 * i = (64 - 2 * (i + 1)) + 1 + 1 by omega, List.replicate_succ, List.replicate_succ, List.set_cons_zero, List.set_cons_succ, List.set_cons_zero]
 rw [List.take_add_one, List.getElem?_eq_getElem om_, List.getD_eq_getElem?_getD, List.getElem?_eq_getElem om_, ziQ_]
 simp only [u8L, hexB, List.map_append, List.append_assoc, Option.toList_some, Option.getD_some, List.flatMap_cons, List.flatMap_nil, List.map_cons, List.map_nil, List.cons_append, List.nil_append, List.append_nil]
theorem dHex (l : List UInt8) (bv : Value) (w : World) (hin : x8_ bv l w) (hT : zcz_ w) (hlen : l.length ≤ 900000000000) :
  Calls Tryz.prog 37 #[bv] w fun e w' => e = .returned (.string (bs (hexT l))) ∧ Below w.heap.size w w' := by
 have HIN := Lib.hid hin
 have HT := Lib.hid hT
 obtain ⟨ad, n, cc, rfl⟩ : ∃ ad n cc, bv = .slice ad n cc := by
  obtain ⟨G, o, c, h1, _⟩ := hin
  rcases h1 with ⟨_, ad, cc, h⟩ | ⟨_, h⟩
  · exact ⟨_, _, _, h⟩
  · exact ⟨_, _, _, h⟩
 clear hin hT
 go_enter Tryz.func37, Tryz.ntmps37
 go_wp2_with fail
 refine (dSum l _ _ (za1_ HIN.out (y2_ (y1_ _ _) _)) (zcd_ HT.out (y2_ (y1_ [] _) _) si_) hlen).mono ?_
 rintro e w1 ⟨rfl, hb1⟩
 have hO := x0_ (y8_ w (.cells #[.int .u8 0, .int .u8 0, .int .u8 0, .int .u8 0, .int .u8 0, .int .u8 0, .int .u8 0, .int .u8 0, .int .u8 0, .int .u8 0, .int .u8 0, .int .u8 0, .int .u8 0, .int .u8 0, .int .u8 0, .int .u8 0, .int .u8 0, .int .u8 0, .int .u8 0, .int .u8 0, .int .u8 0, .int .u8 0, .int .u8 0, .int .u8 0, .int .u8 0, .int .u8 0, .int .u8 0, .int .u8 0, .int .u8 0, .int .u8 0, .int .u8 0, .int .u8 0, .int .u8 0, .int .u8 0, .int .u8 0, .int .u8 0, .int .u8 0, .int .u8 0, .int .u8 0, .int .u8 0, .int .u8 0, .int .u8 0, .int .u8 0, .int .u8 0, .int .u8 0, .int .u8 0, .int .u8 0, .int .u8 0, .int .u8 0, .int .u8 0, .int .u8 0, .int .u8 0, .int .u8 0, .int .u8 0, .int .u8 0, .int .u8 0, .int .u8 0, .int .u8 0, .int .u8 0, .int .u8 0, .int .u8 0, .int .u8 0, .int .u8 0, .int .u8 0] 103)) hb1 si_
 have hg1 : GL [] w w1 := y6_ hb1 (y2_ (y1_ _ _) _)
 have hob : (q5_ (z9_ l)).length = 32 := zbW_ _
 have HH : Hid (hexT l = hexB (q5_ (z9_ l))) := Lib.hid rfl
 generalize q5_ (z9_ l) = ob at *
 have HO1 : Hid (w1.heap[w.heap.size]? = some (.cells (hexO ob 0) 103 (0, 0))) := Lib.hid hO
 have HG1 := Lib.hid hg1
 have hOl := z4_ hO
 clear hO hg1 hb1
 go_wp2_with fail
 go_loopw [4, 5, 8] (fun _ _ iv wr => ∃ i : Nat, i ≤ 32 ∧ iv = .int .i64 i ∧ Hid (GL [w.heap.size] w1 wr) ∧ Hid (wr.heap[w.heap.size]? = some (.cells (hexO ob i) 103 (0, 0)))) (fun _ _ iv _ => 32 - (intOf iv).toNat)
 case atStart => exact ⟨0, by omega, rfl, Lib.hid (y1_ _ _), HO1⟩
 case round =>
  obtain ⟨i, hi, rfl, hgr, hor⟩ := hrel
  by_cases hlt : i < 32
  · have hix : (u8L ob).toArray[i]? = some (.int .u8 (ob.getD i 0).toNat) := by
     rw [List.getElem?_toArray]
     unfold u8L
     rw [List.getElem?_map, List.getElem?_eq_getElem om_, List.getD_eq_getElem?_getD, List.getElem?_eq_getElem om_]
     rfl
    have hsz : (u8L ob).length = 32 := by rw [zaj_, hob]
    have c0 := (z0_ hor.out (2 * i)).trans (ziS_ ob i (2 * i) hob hlt om_ om_)
    have c1 := (z0_ hor.out (2 * i + 1)).trans (ziS_ ob i (2 * i + 1) hob hlt om_ om_)
    have fz := z8_ hor.out
    have HSET := Lib.hid (znL_ ob i hob hlt)
    have HOr := Lib.hid hor.out
    have i32 : (i : Int) < 32 := by omega
    have hc := (ob.getD i 0).toNat_lt
    generalize (ob.getD i 0).toNat = c at *
    have hia := znJ_ wr (u8L ob).toArray i _ hlt hix
    have n0 : ((2 : Int) * (i : Int)).toNat = 2 * i := by omega
    have n1 : ((2 : Int) * (i : Int) + 1).toNat = 2 * i + 1 := by omega
    have c16 : (c : Int) / 16 < 16 := by omega
    have c17 : (0 : Int) ≤ (c : Int) / 16 := by omega
    have c18 : (c : Int) % 16 < 16 := by omega
    have c19 : (0 : Int) ≤ (c : Int) % 16 := by omega
    have e16 : ((c : Int) / 16).toNat = c / 16 := by omega
    have e17 : ((c : Int) % 16).toNat = c % 16 := by omega
    clear hor hix
    go_wp2
    go_region
    go_wp2
    go_roundw
    case rel =>
     refine ⟨i + 1, by omega, by go_num, Lib.hid (z2_ (z2_ (x9_ hgr.out) (.inl si_) _) (.inl si_) _), ?_⟩
     show _ = _
     rw [← HSET.out]
     have h : ∀ x y : Int, x = (hexC (c / 16)).toNat → y = (hexC (c % 16)).toNat → ((wr.setCell ⟨w.heap.size, 2 * i, none⟩ (.int .u8 x)).setCell ⟨w.heap.size, 2 * i + 1, none⟩ (.int .u8 y)).heap[w.heap.size]? = some (.cells (((hexO ob i).setIfInBounds (2 * i) (.int .u8 (hexC (c / 16)).toNat)).setIfInBounds (2 * i + 1) (.int .u8 (hexC (c % 16)).toNat)) 103 (0, 0)) := by
      rintro _ _ rfl rfl
      exact z3_ (z3_ HOr.out _ _) _ _
     exact w1_ (h _ _ (congrArg (fun z : UInt8 => ((z.toNat : Nat) : Int)) (ziR_ ⟨c / 16, by omega⟩)) (congrArg (fun z : UInt8 => ((z.toNat : Nat) : Int)) (ziR_ ⟨c % 16, by omega⟩)))
    case measure => simp [intOf]; omega
  · obtain rfl : i = 32 := by omega
    have hO := hor.out
    have e64 : hexO ob 32 = (u8L (hexB ob)).toArray := by
     unfold hexO
     rw [List.take_of_length_le om_]
     simp
    rw [e64] at hO
    have h64 : (hexB ob).length = 64 := by rw [zeo_, hob]
    have hcv := run_convert_bytes_back (P := Tryz.prog) wr 47 9 5 ⟨w.heap.size, 0, none⟩ 64 (hexB ob) Tryz.underlying47 Tryz.underlying5 Tryz.underlying9 (fun j hj => by
     have h3 : (⟨w.heap.size, 0, none⟩ : Addr).add j = ⟨w.heap.size, j, none⟩ := by unfold Addr.add; split <;> simp_all
     rw [h3, z0_ hO, List.getElem?_toArray]
     unfold u8L
     rw [List.getElem?_map, List.getElem?_eq_getElem hj]
     rfl)
    rw [h64, zeY_] at hcv
    have HFIN : Hid (Below w.heap.size w wr) := Lib.hid (y0_ (y7_ hgr.out HG1.out si_))
    clear hor hgr hO
    go_wp2
    go_ret
    exact ⟨by rw [HH.out]; rfl, HFIN.out⟩
end Go.Proofs.YtembdkodajichaaGreatDoor
