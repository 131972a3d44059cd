/- The program's SHA-256: the sum. -/
import Derived.Test.YtembdkodajichaaGreatDoorDigC
import Derived.Deep.MidRow
set_option maxRecDepth 100000
set_option maxHeartbeats 4000000
set_option linter.unusedSimpArgs false
set_option linter.unusedVariables false
namespace Go.Proofs.YtembdkodajichaaGreatDoor
open Go.RowKit
theorem blk_setCells {b : Nat} {T : TypeId} {fz : Nat × Nat} : ∀ (vs : List Value) (o : Nat) (cs : Array Value) (w : World), w.heap[b]? = some (.cells cs T fz) → o + vs.length ≤ cs.size →
  (w.setCells b o vs).heap[b]? = some (.cells (cs.toList.take o ++ vs ++ cs.toList.drop (o + vs.length)).toArray T fz)
 | [], o, cs, w, h, _ => by
   simp only [World.setCells, List.append_nil, List.length_nil, Nat.add_zero, List.take_append_drop, Array.toArray_toList]
   exact h
 | v :: r, o, cs, w, h, hl => by
   have e := list_seg_step cs.toList o v r (by simp at hl ⊢; omega)
   rw [World.setCells, blk_setCells r (o + 1) _ _ (blk_set h o v) (by simp at hl ⊢; omega)]
   rw [Array.toList_setIfInBounds, e]
   rfl
theorem gl_setCells {rs : List Nat} {w : World} {b : Nat} (hb : b ∈ rs ∨ w.heap.size ≤ b) : ∀ (vs : List Value) (o : Nat) (w1 : World), GL rs w w1 → GL rs w (w1.setCells b o vs)
 | [], _, _, h => h
 | v :: r, o, w1, h => by
   rw [World.setCells]
   exact gl_setCells hb r (o + 1) _ (gl_set h hb v)
theorem blk_whole {b : Nat} {T : TypeId} {fz : Nat × Nat} {vs : List Value} {cs : Array Value} {w : World} (h : w.heap[b]? = some (.cells cs T fz)) (hl : vs.length = cs.size) : (w.setCells b 0 vs).heap[b]? = some (.cells vs.toArray T fz) := by
 rw [blk_setCells vs 0 cs w h om_]
 have h1 : cs.toList.length = cs.size := by simp
 rw [List.take_zero, List.drop_eq_nil_of_le om_]
 simp
theorem there_blk {b : Nat} {T : TypeId} {cs : Array Value} {w : World} (h : w.heap[b]? = some (.cells cs T (0, 0))) : w.there b 0 cs.size := by
 intro j hj
 rw [blk_cell h, blk_free h]
 simp [hj]
theorem rangeAt_blk {b : Nat} {T : TypeId} {vs : List Value} {fz : Nat × Nat} {w : World} (h : w.heap[b]? = some (.cells vs.toArray T fz)) : w.rangeAt b 0 vs := by
 intro j v hj
 rw [blk_cell h]
 simpa using hj
theorem Tryz.sizeSt : (Tryz.prog.info? 194).map (·.size) = some 73 := by kernel_rfl
theorem Tryz.sizeA32 : (Tryz.prog.info? 104).map (·.size) = some 32 := by kernel_rfl
theorem stC_one (v : S8) (wait : List UInt8) (n : Int) : (stC v wait n).all (·.oneCell') = true := by
 unfold stC
 refine all_oneCell_toArray ?_
 intro x hx
 simp only [List.mem_append, List.mem_map, u8L, List.mem_singleton] at hx
 rcases hx with ⟨_, _, rfl⟩ | ⟨_, _, rfl⟩ | rfl <;> rfl
def szC (n i : Nat) : Array Value := (u8L ((sizeB n).take i ++ List.replicate (8 - i) 0)).toArray
theorem szC_set (n i : Nat) (h : i < 8) (x : Int) (hx : x = ((n * 8 / 2 ^ (56 - 8 * i) % 256 : Nat) : Int)) : (szC n i).setIfInBounds i (.int .u8 x) = szC n (i + 1) := by
 have e : ∀ y : Nat, (UInt8.ofNat (y % 256)).toNat = y % 256 := fun y => by rw [UInt8.toNat_ofNat']; omega
 rcases (by omega : i = 0 ∨ i = 1 ∨ i = 2 ∨ i = 3 ∨ i = 4 ∨ i = 5 ∨ i = 6 ∨ i = 7) with rfl | rfl | rfl | rfl | rfl | rfl | rfl | rfl <;> subst hx <;> simp [szC, u8L, sizeB, e]
theorem szC_get (n i j : Nat) (h : i < 8) (hj : j < 8) : ∃ v, (szC n i)[j]? = some v := by
 have hl : (szC n i).size = 8 := by
  rcases (by omega : i = 0 ∨ i = 1 ∨ i = 2 ∨ i = 3 ∨ i = 4 ∨ i = 5 ∨ i = 6 ∨ i = 7) with rfl | rfl | rfl | rfl | rfl | rfl | rfl | rfl <;> rfl
 exact ⟨_, Array.getElem?_eq_getElem om_⟩
theorem u32_nn (x : Int) : 0 ≤ u32 x := by unfold u32; rw [u32_mod]; omega
theorem sumS_nn (b : List UInt8) : 0 ≤ (sumS b).a ∧ 0 ≤ (sumS b).b ∧ 0 ≤ (sumS b).c ∧ 0 ≤ (sumS b).d ∧ 0 ≤ (sumS b).e ∧ 0 ≤ (sumS b).f ∧ 0 ≤ (sumS b).g ∧ 0 ≤ (sumS b).h := by
 have h : ∃ n, (filledB b).length / 64 = n + 1 := by
  refine ⟨(filledB b).length / 64 - 1, ?_⟩
  have h1 := filled_len b
  have h2 : 0 < (filledB b).length := by simp [filledB]; omega
  omega
 obtain ⟨n, hn⟩ := h
 unfold sumS
 rw [hn, soak_succ]
 unfold takeS addS
 exact ⟨u32_nn _, u32_nn _, u32_nn _, u32_nn _, u32_nn _, u32_nn _, u32_nn _, u32_nn _⟩
def outC (s : S8) (i : Nat) : Array Value := (u8L ((outB s).take i ++ List.replicate (32 - i) 0)).toArray
theorem outC_size (s : S8) (i : Nat) (h : i ≤ 32) : (outC s i).size = 32 := by
 unfold outC
 rw [List.size_toArray, u8L_len, List.length_append, List.length_take, outB_len, List.length_replicate]
 omega
theorem outC_set (s : S8) (i : Nat) (h : i < 32) (x : Int) (hx : x = ((outB s).getD i 0).toNat) : (outC s i).setIfInBounds i (.int .u8 x) = outC s (i + 1) := by
 subst hx
 unfold outC u8L
 rw [List.setIfInBounds_toArray, List.map_append, List.map_append, List.set_append_right _ _ (by rw [List.length_map, List.length_take, outB_len]; omega)]
 congr 1
 rw [List.length_map, List.length_take, outB_len, show i - min i 32 = 0 by omega, show 32 - i = (32 - (i + 1)) + 1 by omega, List.replicate_succ, List.map_cons, List.set_cons_zero, List.take_add_one, List.getElem?_eq_getElem (by rw [outB_len]; exact h), List.getD_eq_getElem?_getD, List.getElem?_eq_getElem (by rw [outB_len]; exact h)]
 simp only [List.map_append, List.append_assoc, Option.toList_some, Option.getD_some, List.map_cons, List.map_nil, List.cons_append, List.nil_append]
theorem byte_of (x : Int) (hx : 0 ≤ x) (n : Nat) : ((UInt8.ofNat (x / 2 ^ n).toNat).toNat : Int) = x / 2 ^ n % 256 := by
 have h : 0 ≤ x / 2 ^ n := Int.ediv_nonneg hx (Int.le_of_lt (Int.pow_pos de_))
 rw [UInt8.toNat_ofNat']
 omega
def mzW (U : Nat) (w : World) : Nat := match w.cell? ⟨U, 72, none⟩ with
 | some (.int _ x) => (120 - x.toNat % 64) % 64
 | _ => 0
theorem mzW_st {U : Nat} {m : List UInt8} {w : World} (h : StAt U m w) : mzW U w = (120 - m.length % 64) % 64 := by
 obtain ⟨v, wait, hF, hb, _⟩ := h
 unfold mzW
 rw [(blk_cell hb 72).trans (stC_n v wait _ hF.len)]
 simp
theorem dSumS (S : Nat) (m : List UInt8) (w : World) (hst : StAt S m w) (hT : TabOk w) (hlen : m.length ≤ 900000000000) :
  Calls Tryz.prog 128 #[.pointer (some ⟨S, 0, none⟩)] w fun e w' => e = .returned (.agg (u8L (outB (sumS m))).toArray) ∧ Below w.heap.size w w' := by
 have HT := Lib.hid hT
 obtain ⟨v, wait, hF, hblk, hlm⟩ := hst
 have HF := Lib.hid hF
 have HW64 := hF.len
 have hTl : 7 < w.heap.size := World.block_lt_of_cell? _ _ (hT 0 om_)
 have hsz : (stC v wait m.length).size = 73 := stC_size _ _ _ HW64
 have hbn := blk_new (w.alloc (.cells #[.int .u8 0, .int .u8 0, .int .u8 0, .int .u8 0, .int .u8 0, .int .u8 0, .int .u8 0, .int .u8 0, .int .u8 0, .int .u8 0, .int .u8 0, .int .u8 0, .int .u8 0, .int .u8 0, .int .u8 0, .int .u8 0, .int .u8 0, .int .u8 0, .int .u8 0, .int .u8 0, .int .u8 0, .int .u8 0, .int .u8 0, .int .u8 0, .int .u8 0, .int .u8 0, .int .u8 0, .int .u8 0, .int .u8 0, .int .u8 0, .int .u8 0, .int .u8 0] 104)) (.cells Tryz.zeroCells194 194)
 rw [World.size_alloc] at hbn
 have hsc := run_storeCells_cells (P := Tryz.prog) (w.heap.size + 1) 0 (stC v wait m.length).toList 0 ((w.alloc (.cells #[.int .u8 0, .int .u8 0, .int .u8 0, .int .u8 0, .int .u8 0, .int .u8 0, .int .u8 0, .int .u8 0, .int .u8 0, .int .u8 0, .int .u8 0, .int .u8 0, .int .u8 0, .int .u8 0, .int .u8 0, .int .u8 0, .int .u8 0, .int .u8 0, .int .u8 0, .int .u8 0, .int .u8 0, .int .u8 0, .int .u8 0, .int .u8 0, .int .u8 0, .int .u8 0, .int .u8 0, .int .u8 0, .int .u8 0, .int .u8 0, .int .u8 0, .int .u8 0] 104)).alloc (.cells Tryz.zeroCells194 194)) (fun j hj => by first | (simp; done) | (have := (there_blk hbn j (by rw [Array.length_toList, hsz] at hj; exact hj)).1; simpa using this)) (fun j hj => by first | (simp; done) | (have := (there_blk hbn j (by rw [Array.length_toList, hsz] at hj; exact hj)).2; simpa using this)) (fun x hx => by have := (Array.all_eq_true_iff_forall_mem.1 (stC_one v wait m.length)) x (by simp only [Array.mem_toList_iff] at hx; exact hx); exact this)
 rw [Nat.add_zero] at hsc
 clear hbn
 have HB := Lib.hid hblk
 clear hT hF hblk
 go_enter Tryz.func128, Tryz.ntmps128
 go_upto_region 4 with ((with_reducible refine wpList_load_mid rfl 194 (.tmp 14) rfl S 0 rfl (stC v wait m.length).toList _ ?hc Tryz.underlying194 rfl ?hi ?_; (case hc => exact rangeAt_blk (vs := (stC v wait m.length).toList) (by simpa using blk_alloc HB.out _)); (case hi => rw [Tryz.sizeSt]; simp [hsz])))
 have hle : szW w ≤ w.heap.size ∧ w.heap.size ≤ szW w := ⟨Nat.le_refl _, Nat.le_refl _⟩
 have HR1 : Hid ((((w.alloc (.cells #[.int .u8 0, .int .u8 0, .int .u8 0, .int .u8 0, .int .u8 0, .int .u8 0, .int .u8 0, .int .u8 0, .int .u8 0, .int .u8 0, .int .u8 0, .int .u8 0, .int .u8 0, .int .u8 0, .int .u8 0, .int .u8 0, .int .u8 0, .int .u8 0, .int .u8 0, .int .u8 0, .int .u8 0, .int .u8 0, .int .u8 0, .int .u8 0, .int .u8 0, .int .u8 0, .int .u8 0, .int .u8 0, .int .u8 0, .int .u8 0, .int .u8 0, .int .u8 0] 104)).alloc (.cells Tryz.zeroCells194 194)).setCells (w.heap.size + 1) 0 (stC v wait m.length).toList).heap[w.heap.size]? = some (.cells #[.int .u8 0, .int .u8 0, .int .u8 0, .int .u8 0, .int .u8 0, .int .u8 0, .int .u8 0, .int .u8 0, .int .u8 0, .int .u8 0, .int .u8 0, .int .u8 0, .int .u8 0, .int .u8 0, .int .u8 0, .int .u8 0, .int .u8 0, .int .u8 0, .int .u8 0, .int .u8 0, .int .u8 0, .int .u8 0, .int .u8 0, .int .u8 0, .int .u8 0, .int .u8 0, .int .u8 0, .int .u8 0, .int .u8 0, .int .u8 0, .int .u8 0, .int .u8 0] 104 (0, 0))) := Lib.hid (blk_gl (blk_alloc (blk_new w (.cells #[.int .u8 0, .int .u8 0, .int .u8 0, .int .u8 0, .int .u8 0, .int .u8 0, .int .u8 0, .int .u8 0, .int .u8 0, .int .u8 0, .int .u8 0, .int .u8 0, .int .u8 0, .int .u8 0, .int .u8 0, .int .u8 0, .int .u8 0, .int .u8 0, .int .u8 0, .int .u8 0, .int .u8 0, .int .u8 0, .int .u8 0, .int .u8 0, .int .u8 0, .int .u8 0, .int .u8 0, .int .u8 0, .int .u8 0, .int .u8 0, .int .u8 0, .int .u8 0] 104)) (.cells Tryz.zeroCells194 194)) (gl_setCells (rs := [w.heap.size + 1]) (.inl si_) (stC v wait m.length).toList 0 _ (gl_refl _ _)) si_)
 have HU1 : Hid (StAt (w.heap.size + 1) m (((w.alloc (.cells #[.int .u8 0, .int .u8 0, .int .u8 0, .int .u8 0, .int .u8 0, .int .u8 0, .int .u8 0, .int .u8 0, .int .u8 0, .int .u8 0, .int .u8 0, .int .u8 0, .int .u8 0, .int .u8 0, .int .u8 0, .int .u8 0, .int .u8 0, .int .u8 0, .int .u8 0, .int .u8 0, .int .u8 0, .int .u8 0, .int .u8 0, .int .u8 0, .int .u8 0, .int .u8 0, .int .u8 0, .int .u8 0, .int .u8 0, .int .u8 0, .int .u8 0, .int .u8 0] 104)).alloc (.cells Tryz.zeroCells194 194)).setCells (w.heap.size + 1) 0 (stC v wait m.length).toList)) := by
  refine Lib.hid ⟨v, wait, HF.out, ?_, hlm⟩
  have h := blk_new (w.alloc (.cells #[.int .u8 0, .int .u8 0, .int .u8 0, .int .u8 0, .int .u8 0, .int .u8 0, .int .u8 0, .int .u8 0, .int .u8 0, .int .u8 0, .int .u8 0, .int .u8 0, .int .u8 0, .int .u8 0, .int .u8 0, .int .u8 0, .int .u8 0, .int .u8 0, .int .u8 0, .int .u8 0, .int .u8 0, .int .u8 0, .int .u8 0, .int .u8 0, .int .u8 0, .int .u8 0, .int .u8 0, .int .u8 0, .int .u8 0, .int .u8 0, .int .u8 0, .int .u8 0] 104)) (.cells Tryz.zeroCells194 194)
  rw [World.size_alloc] at h
  have h2 := blk_whole (vs := (stC v wait m.length).toList) h (by rw [Array.length_toList, hsz]; rfl)
  simpa using h2
 have hg1 : GL [] w (((w.alloc (.cells #[.int .u8 0, .int .u8 0, .int .u8 0, .int .u8 0, .int .u8 0, .int .u8 0, .int .u8 0, .int .u8 0, .int .u8 0, .int .u8 0, .int .u8 0, .int .u8 0, .int .u8 0, .int .u8 0, .int .u8 0, .int .u8 0, .int .u8 0, .int .u8 0, .int .u8 0, .int .u8 0, .int .u8 0, .int .u8 0, .int .u8 0, .int .u8 0, .int .u8 0, .int .u8 0, .int .u8 0, .int .u8 0, .int .u8 0, .int .u8 0, .int .u8 0, .int .u8 0] 104)).alloc (.cells Tryz.zeroCells194 194)).setCells (w.heap.size + 1) 0 (stC v wait m.length).toList) := gl_setCells (.inr om_) _ 0 _ (gl_alloc (gl_alloc (gl_refl _ _) _) _)
 have hRU : w.heap.size < w.heap.size + 1 := by omega
 have hUs : w.heap.size + 1 < (((w.alloc (.cells #[.int .u8 0, .int .u8 0, .int .u8 0, .int .u8 0, .int .u8 0, .int .u8 0, .int .u8 0, .int .u8 0, .int .u8 0, .int .u8 0, .int .u8 0, .int .u8 0, .int .u8 0, .int .u8 0, .int .u8 0, .int .u8 0, .int .u8 0, .int .u8 0, .int .u8 0, .int .u8 0, .int .u8 0, .int .u8 0, .int .u8 0, .int .u8 0, .int .u8 0, .int .u8 0, .int .u8 0, .int .u8 0, .int .u8 0, .int .u8 0, .int .u8 0, .int .u8 0] 104)).alloc (.cells Tryz.zeroCells194 194)).setCells (w.heap.size + 1) 0 (stC v wait m.length).toList).heap.size := by
  obtain ⟨_, _, _, h, _⟩ := HU1.out
  exact blk_lt h
 have HBL := Lib.hid hg1
 generalize (((w.alloc (.cells #[.int .u8 0, .int .u8 0, .int .u8 0, .int .u8 0, .int .u8 0, .int .u8 0, .int .u8 0, .int .u8 0, .int .u8 0, .int .u8 0, .int .u8 0, .int .u8 0, .int .u8 0, .int .u8 0, .int .u8 0, .int .u8 0, .int .u8 0, .int .u8 0, .int .u8 0, .int .u8 0, .int .u8 0, .int .u8 0, .int .u8 0, .int .u8 0, .int .u8 0, .int .u8 0, .int .u8 0, .int .u8 0, .int .u8 0, .int .u8 0, .int .u8 0, .int .u8 0] 104)).alloc (.cells Tryz.zeroCells194 194)).setCells (w.heap.size + 1) 0 (stC v wait m.length).toList) = w1 at *
 generalize hU : w.heap.size + 1 = U at *
 generalize hRw : w.heap.size = R at *
 clear hsc hle
 have hdm : ∀ k, (m ++ [128] ++ List.replicate k (0 : UInt8)).length = m.length + 1 + k := by intro k; simp; omega
 have hT1 := Lib.hid (tab_gl HT.out hg1 si_)
 obtain ⟨v1, wt1, hF1, hb1, _⟩ := HU1.out
 have fn := (blk_cell hb1 72).trans (stC_n v1 wt1 _ hF1.len)
 have fz := blk_free hb1
 have n0 : (0 : Int) ≤ (m.length : Int) := by omega
 have n1 : (m.length : Int) ≤ 900000000000 := by omega
 have HW1 : ∀ (W : World) (mm l : List UInt8) (Z : Nat), StAt U mm W → GL [U] w1 W → w1.heap.size ≤ Z → BytesAt Z 0 l W → l ≠ [] → mm.length + l.length ≤ 1000000000000 → Calls Tryz.prog 127 #[.pointer (some ⟨U, 0, none⟩), .slice (some ⟨Z, 0, none⟩) l.length l.length] W fun e w' => e = .returned (.tuple #[]) ∧ StAt U (mm ++ l) w' ∧ GL [U] W w' := by
  intro W mm l Z h1 h2 h3 h4 h5 h6
  exact dWrite U mm l _ W h1 ⟨Z, 0, l.length, .inr ⟨List.length_pos_iff.2 h5, by simp⟩, Nat.le_refl _, by omega, fun _ => h4⟩ (tab_gl hT1.out h2 so_) h6 om_
 have HWR := Lib.hid HW1
 clear hb1 hF1 HW1
 go_wp2_with fail
 refine (HWR.out (w1.alloc (.cells #[.int .u8 128] 5)) m [128] w1.heap.size (stAt_gl HU1.out (gl_alloc (gl_refl [] _) _) si_) (gl_alloc (gl_refl _ _) _) (Nat.le_refl _) ⟨by simp, fun j hj => ?_⟩ si_ so_).mono ?_
 · obtain rfl : j = 0 := by simp at hj; omega
   exact blk_cell (blk_new w1 _) 0
 rintro e w2 ⟨rfl, hS2, hgU2⟩
 have hg2 : GL [U] w1 w2 := gl_step hgU2 (gl_alloc (gl_refl _ _) _) si_
 have HS2 : Hid (StAt U (m ++ [128] ++ List.replicate 0 0) w2) := Lib.hid (by simpa using hS2)
 have HG2 := Lib.hid hg2
 clear hS2 hgU2 hg2 fn fz
 go_wp2_with fail
 go_loopw [26] (fun _ wr => ∃ k : Nat, k ≤ zerosN m.length ∧ Hid (GL [U] w1 wr) ∧ Hid (StAt U (m ++ [128] ++ List.replicate k 0) wr)) (fun _ wr => mzW U wr)
 case atStart => exact ⟨0, by omega, HG2, HS2⟩
 case round =>
  obtain ⟨k, hk, hgr, hsr⟩ := hrel
  have hz := mzW_st hsr.out
  rw [hdm] at hz
  obtain ⟨v2, wt2, hF2, hb2, _⟩ := hsr.out
  have fn := (blk_cell hb2 72).trans (stC_n v2 wt2 _ hF2.len)
  have fz := blk_free hb2
  rw [hdm] at fn
  have HZ := Lib.hid hz
  clear hz hF2 hb2
  by_cases hlt : k < zerosN m.length
  · have h56 : ((((m.length + 1 + k : Nat) : Int) % 64) != 56) = true := by
     rw [bne_iff_ne]
     unfold zerosN at hlt
     omega
    go_wp2_with fail
    refine (HWR.out (wr.alloc (.cells #[.int .u8 0] 5)) (m ++ [128] ++ List.replicate k 0) [0] wr.heap.size (stAt_gl hsr.out (gl_alloc (gl_refl [] _) _) si_) (gl_alloc hgr.out _) hgr.out.size ⟨by simp, fun j hj => ?_⟩ si_ (by rw [hdm]; unfold zerosN at hlt; simp; omega)).mono ?_
    · obtain rfl : j = 0 := by simp at hj; omega
      exact blk_cell (blk_new wr _) 0
    rintro e w3 ⟨rfl, hS3, hgU3⟩
    have HS3 : Hid (StAt U (m ++ [128] ++ List.replicate (k + 1) 0) w3) := Lib.hid (by rw [List.replicate_succ', ← List.append_assoc]; exact hS3)
    have HG3 : Hid (GL [U] w1 w3) := Lib.hid (gl_step hgU3 (gl_alloc hgr.out _) si_)
    have HM3 := Lib.hid (mzW_st HS3.out)
    clear hS3 hgU3 fn fz
    go_wp2_with fail
    go_roundw
    case rel => exact ⟨k + 1, by omega, HG3, HS3⟩
    case measure =>
     rw [HZ.out, HM3.out, hdm]
     unfold zerosN at hlt
     omega
  · obtain rfl : k = zerosN m.length := by omega
    have h56 : ((((m.length + 1 + zerosN m.length : Nat) : Int) % 64) != 56) = false := by
     rw [bne_eq_false_iff_eq]
     unfold zerosN
     omega
    go_wp2_with fail
    have HZ1 : Hid ((wr.alloc (.cells #[.int .u8 0, .int .u8 0, .int .u8 0, .int .u8 0, .int .u8 0, .int .u8 0, .int .u8 0, .int .u8 0] 196)).heap[wr.heap.size]? = some (.cells (szC m.length 0) 196 (0, 0))) := Lib.hid (blk_new wr _)
    have HSz : Hid (StAt U (m ++ [128] ++ List.replicate (zerosN m.length) 0) (wr.alloc (.cells #[.int .u8 0, .int .u8 0, .int .u8 0, .int .u8 0, .int .u8 0, .int .u8 0, .int .u8 0, .int .u8 0] 196))) := Lib.hid (stAt_gl hsr.out (gl_alloc (gl_refl [] _) _) si_)
    have HGz : Hid (GL [U] w1 (wr.alloc (.cells #[.int .u8 0, .int .u8 0, .int .u8 0, .int .u8 0, .int .u8 0, .int .u8 0, .int .u8 0, .int .u8 0] 196))) := Lib.hid (gl_alloc hgr.out _)
    have hZ1 : w1.heap.size ≤ wr.heap.size := hgr.out.size
    have hZ2 : wr.heap.size < (wr.alloc (.cells #[.int .u8 0, .int .u8 0, .int .u8 0, .int .u8 0, .int .u8 0, .int .u8 0, .int .u8 0, .int .u8 0] 196)).heap.size := by simp
    clear hgr hsr fn fz HZ h56 hlt hk
    generalize wr.alloc (.cells #[.int .u8 0, .int .u8 0, .int .u8 0, .int .u8 0, .int .u8 0, .int .u8 0, .int .u8 0, .int .u8 0] 196) = wz at *
    generalize wr.heap.size = Z at *
    go_loopw [6, 27] (fun _ iv wr => ∃ i : Nat, i ≤ 8 ∧ iv = .int .i64 i ∧ Hid (GL [Z] wz wr) ∧ Hid (wr.heap[Z]? = some (.cells (szC m.length i) 196 (0, 0)))) (fun _ iv _ => 8 - (intOf iv).toNat)
    case atStart => exact ⟨0, by omega, rfl, Lib.hid (gl_refl _ _), HZ1⟩
    case round =>
     obtain ⟨i, hi, rfl, hgr, hzr⟩ := hrel
     by_cases hlt : i < 8
     · obtain ⟨v0, hv0⟩ := szC_get m.length i i hlt hlt
       have fc := (blk_cell hzr.out i).trans hv0
       have fz := blk_free hzr.out
       have fl := blk_lt hzr.out
       have HSET := Lib.hid (szC_set m.length i hlt)
       have HZr := Lib.hid hzr.out
       clear hzr hv0
       rcases (by omega : i = 0 ∨ i = 1 ∨ i = 2 ∨ i = 3 ∨ i = 4 ∨ i = 5 ∨ i = 6 ∨ i = 7) with rfl | rfl | rfl | rfl | rfl | rfl | rfl | rfl
       · go_wp2
         go_roundw
         case rel =>
          refine ⟨1, by omega, by go_num, Lib.hid (gl_set hgr.out (.inl si_) _), Lib.hid ((blk_set HZr.out 0 _).trans ?_)⟩
          exact congrArg (fun z => some (Obj.cells z 196 (0, 0))) (szC_set m.length 0 om_ _ (by have e : (2 : Nat) ^ (56 - 8 * 0) = 72057594037927936 := de_; rw [e]; omega))
         case measure => first | (simp [intOf]; done) | (simp [intOf]; omega)
       · go_wp2
         go_roundw
         case rel =>
          refine ⟨2, by omega, by go_num, Lib.hid (gl_set hgr.out (.inl si_) _), Lib.hid ((blk_set HZr.out 1 _).trans ?_)⟩
          exact congrArg (fun z => some (Obj.cells z 196 (0, 0))) (szC_set m.length 1 om_ _ (by have e : (2 : Nat) ^ (56 - 8 * 1) = 281474976710656 := de_; rw [e]; omega))
         case measure => first | (simp [intOf]; done) | (simp [intOf]; omega)
       · go_wp2
         go_roundw
         case rel =>
          refine ⟨3, by omega, by go_num, Lib.hid (gl_set hgr.out (.inl si_) _), Lib.hid ((blk_set HZr.out 2 _).trans ?_)⟩
          exact congrArg (fun z => some (Obj.cells z 196 (0, 0))) (szC_set m.length 2 om_ _ (by have e : (2 : Nat) ^ (56 - 8 * 2) = 1099511627776 := de_; rw [e]; omega))
         case measure => first | (simp [intOf]; done) | (simp [intOf]; omega)
       · go_wp2
         go_roundw
         case rel =>
          refine ⟨4, by omega, by go_num, Lib.hid (gl_set hgr.out (.inl si_) _), Lib.hid ((blk_set HZr.out 3 _).trans ?_)⟩
          exact congrArg (fun z => some (Obj.cells z 196 (0, 0))) (szC_set m.length 3 om_ _ (by have e : (2 : Nat) ^ (56 - 8 * 3) = 4294967296 := de_; rw [e]; omega))
         case measure => first | (simp [intOf]; done) | (simp [intOf]; omega)
       · go_wp2
         go_roundw
         case rel =>
          refine ⟨5, by omega, by go_num, Lib.hid (gl_set hgr.out (.inl si_) _), Lib.hid ((blk_set HZr.out 4 _).trans ?_)⟩
          exact congrArg (fun z => some (Obj.cells z 196 (0, 0))) (szC_set m.length 4 om_ _ (by have e : (2 : Nat) ^ (56 - 8 * 4) = 16777216 := de_; rw [e]; omega))
         case measure => first | (simp [intOf]; done) | (simp [intOf]; omega)
       · go_wp2
         go_roundw
         case rel =>
          refine ⟨6, by omega, by go_num, Lib.hid (gl_set hgr.out (.inl si_) _), Lib.hid ((blk_set HZr.out 5 _).trans ?_)⟩
          exact congrArg (fun z => some (Obj.cells z 196 (0, 0))) (szC_set m.length 5 om_ _ (by have e : (2 : Nat) ^ (56 - 8 * 5) = 65536 := de_; rw [e]; omega))
         case measure => first | (simp [intOf]; done) | (simp [intOf]; omega)
       · go_wp2
         go_roundw
         case rel =>
          refine ⟨7, by omega, by go_num, Lib.hid (gl_set hgr.out (.inl si_) _), Lib.hid ((blk_set HZr.out 6 _).trans ?_)⟩
          exact congrArg (fun z => some (Obj.cells z 196 (0, 0))) (szC_set m.length 6 om_ _ (by have e : (2 : Nat) ^ (56 - 8 * 6) = 256 := de_; rw [e]; omega))
         case measure => first | (simp [intOf]; done) | (simp [intOf]; omega)
       · go_wp2
         go_roundw
         case rel =>
          refine ⟨8, by omega, by go_num, Lib.hid (gl_set hgr.out (.inl si_) _), Lib.hid ((blk_set HZr.out 7 _).trans ?_)⟩
          exact congrArg (fun z => some (Obj.cells z 196 (0, 0))) (szC_set m.length 7 om_ _ (by have e : (2 : Nat) ^ (56 - 8 * 7) = 1 := de_; rw [e]; omega))
         case measure => first | (simp [intOf]; done) | (simp [intOf]; omega)
     · obtain rfl : i = 8 := by omega
       have hbz : BytesAt Z 0 (sizeB m.length) wr := ⟨blk_lt hzr.out, fun j hj => by
        have h := blk_cell hzr.out (0 + j)
        rw [h, Nat.zero_add]
        have e : szC m.length 8 = (u8L (sizeB m.length)).toArray := by simp [szC, sizeB]
        rw [e, List.getElem?_toArray]
        unfold u8L
        rw [List.getElem?_map, List.getElem?_eq_getElem hj, List.getD_eq_getElem?_getD, List.getElem?_eq_getElem hj]
        rfl⟩
       have hgz2 : GL [U] w1 wr := gl_step hgr.out HGz.out so_
       have HSz2 := Lib.hid (stAt_gl HSz.out hgr.out so_)
       have HBZ := Lib.hid hbz
       have HGZ2 := Lib.hid hgz2
       clear hgr hzr HGz HSz HZ1 hbz hgz2
       go_wp2_with fail
       refine (HWR.out wr (m ++ [128] ++ List.replicate (zerosN m.length) 0) (sizeB m.length) Z HSz2.out HGZ2.out hZ1 HBZ.out (by simp [sizeB]) (by rw [hdm]; unfold zerosN; simp [sizeB]; omega)).mono ?_
       rintro e w4 ⟨rfl, hS4, hg4⟩
       have HS4 : Hid (StAt U (filledB m) w4) := Lib.hid hS4
       have HG4 : Hid (GL [U] w1 w4) := Lib.hid (gl_step hg4 HGZ2.out si_)
       clear hS4 hg4 HGZ2 HBZ HSz2
       go_wp2_with fail
       have HO1 : Hid ((w4.alloc (.cells #[.int .u8 0, .int .u8 0, .int .u8 0, .int .u8 0, .int .u8 0, .int .u8 0, .int .u8 0, .int .u8 0, .int .u8 0, .int .u8 0, .int .u8 0, .int .u8 0, .int .u8 0, .int .u8 0, .int .u8 0, .int .u8 0, .int .u8 0, .int .u8 0, .int .u8 0, .int .u8 0, .int .u8 0, .int .u8 0, .int .u8 0, .int .u8 0, .int .u8 0, .int .u8 0, .int .u8 0, .int .u8 0, .int .u8 0, .int .u8 0, .int .u8 0, .int .u8 0] 104)).heap[w4.heap.size]? = some (.cells (outC (sumS m) 0) 104 (0, 0))) := Lib.hid (blk_new w4 _)
       have HSo : Hid (StAt U (filledB m) (w4.alloc (.cells #[.int .u8 0, .int .u8 0, .int .u8 0, .int .u8 0, .int .u8 0, .int .u8 0, .int .u8 0, .int .u8 0, .int .u8 0, .int .u8 0, .int .u8 0, .int .u8 0, .int .u8 0, .int .u8 0, .int .u8 0, .int .u8 0, .int .u8 0, .int .u8 0, .int .u8 0, .int .u8 0, .int .u8 0, .int .u8 0, .int .u8 0, .int .u8 0, .int .u8 0, .int .u8 0, .int .u8 0, .int .u8 0, .int .u8 0, .int .u8 0, .int .u8 0, .int .u8 0] 104))) := Lib.hid (stAt_gl HS4.out (gl_alloc (gl_refl [] _) _) si_)
       have HGo : Hid (GL [U] w1 (w4.alloc (.cells #[.int .u8 0, .int .u8 0, .int .u8 0, .int .u8 0, .int .u8 0, .int .u8 0, .int .u8 0, .int .u8 0, .int .u8 0, .int .u8 0, .int .u8 0, .int .u8 0, .int .u8 0, .int .u8 0, .int .u8 0, .int .u8 0, .int .u8 0, .int .u8 0, .int .u8 0, .int .u8 0, .int .u8 0, .int .u8 0, .int .u8 0, .int .u8 0, .int .u8 0, .int .u8 0, .int .u8 0, .int .u8 0, .int .u8 0, .int .u8 0, .int .u8 0, .int .u8 0] 104))) := Lib.hid (gl_alloc HG4.out _)
       have hO1 : w1.heap.size ≤ w4.heap.size := HG4.out.size
       clear HS4 HG4
       generalize w4.alloc (.cells #[.int .u8 0, .int .u8 0, .int .u8 0, .int .u8 0, .int .u8 0, .int .u8 0, .int .u8 0, .int .u8 0, .int .u8 0, .int .u8 0, .int .u8 0, .int .u8 0, .int .u8 0, .int .u8 0, .int .u8 0, .int .u8 0, .int .u8 0, .int .u8 0, .int .u8 0, .int .u8 0, .int .u8 0, .int .u8 0, .int .u8 0, .int .u8 0, .int .u8 0, .int .u8 0, .int .u8 0, .int .u8 0, .int .u8 0, .int .u8 0, .int .u8 0, .int .u8 0] 104) = wo at *
       generalize w4.heap.size = O at *
       obtain ⟨vo, wto, hFo, hbo, _⟩ := HSo.out
       have hvo : vo = sumS m := hFo.v
       subst hvo
       have hnn := sumS_nn m
       have HNN := Lib.hid hnn
       have HO := Lib.hid (outC_set (sumS m))
       have HOB : Hid (∀ i, (outB (sumS m)).getD i 0 = (outB (sumS m)).getD i 0) := Lib.hid fun _ => rfl
       have HBO := Lib.hid hbo
       clear hFo hbo hnn HSo
       go_loopw [8, 41] (fun _ iv wr => ∃ i : Nat, i ≤ 32 ∧ iv = .int .i64 i ∧ Hid (GL [O] wo wr) ∧ Hid (wr.heap[O]? = some (.cells (outC (sumS m) i) 104 (0, 0)))) (fun _ iv _ => 32 - (intOf iv).toNat)
       case atStart => exact ⟨0, by omega, rfl, Lib.hid (gl_refl _ _), HO1⟩
       case round =>
        obtain ⟨i, hi, rfl, hgr, hor⟩ := hrel
        by_cases hlt : i < 32
        · have fcs : ∃ v, (outC (sumS m) i)[i]? = some v := ⟨_, Array.getElem?_eq_getElem (by rw [outC_size _ _ hi]; exact hlt)⟩
          obtain ⟨v0, hv0⟩ := fcs
          have fc := (blk_cell hor.out i).trans hv0
          have fz := blk_free hor.out
          have fl := blk_lt hor.out
          have HBr := Lib.hid (blk_gl HBO.out hgr.out so_)
          have HOr := Lib.hid hor.out
          have fu := blk_free HBr.out
          clear hor hv0
          rcases (by omega : i = 0 ∨ i = 1 ∨ i = 2 ∨ i = 3 ∨ i = 4 ∨ i = 5 ∨ i = 6 ∨ i = 7 ∨ i = 8 ∨ i = 9 ∨ i = 10 ∨ i = 11 ∨ i = 12 ∨ i = 13 ∨ i = 14 ∨ i = 15 ∨ i = 16 ∨ i = 17 ∨ i = 18 ∨ i = 19 ∨ i = 20 ∨ i = 21 ∨ i = 22 ∨ i = 23 ∨ i = 24 ∨ i = 25 ∨ i = 26 ∨ i = 27 ∨ i = 28 ∨ i = 29 ∨ i = 30 ∨ i = 31) with rfl | rfl | rfl | rfl | rfl | rfl | rfl | rfl | rfl | rfl | rfl | rfl | rfl | rfl | rfl | rfl | rfl | rfl | rfl | rfl | rfl | rfl | rfl | rfl | rfl | rfl | rfl | rfl | rfl | rfl | rfl | rfl
          · have fcU : wr.cell? ⟨U, 0, none⟩ = some (.int .u32 (sumS m).a) := (blk_cell HBr.out 0).trans (stC_v (sumS m) wto _ 0 om_)
            go_wp2
            go_roundw
            case rel =>
             refine ⟨1, by omega, by go_num, Lib.hid (gl_set hgr.out (.inl si_) _), Lib.hid ((blk_set HOr.out 0 _).trans ?_)⟩
             exact congrArg (fun z => some (Obj.cells z 104 (0, 0))) (HO.out 0 om_ _ (by have h := byte_of (sumS m).a HNN.out.1 24; rw [show ((2 : Int) ^ 24) = 16777216 from rfl] at h; exact h.symm))
            case measure => first | (simp [intOf]; done) | (simp [intOf]; omega)
          · have fcU : wr.cell? ⟨U, 0, none⟩ = some (.int .u32 (sumS m).a) := (blk_cell HBr.out 0).trans (stC_v (sumS m) wto _ 0 om_)
            go_wp2
            go_roundw
            case rel =>
             refine ⟨2, by omega, by go_num, Lib.hid (gl_set hgr.out (.inl si_) _), Lib.hid ((blk_set HOr.out 1 _).trans ?_)⟩
             exact congrArg (fun z => some (Obj.cells z 104 (0, 0))) (HO.out 1 om_ _ (by have h := byte_of (sumS m).a HNN.out.1 16; rw [show ((2 : Int) ^ 16) = 65536 from rfl] at h; exact h.symm))
            case measure => first | (simp [intOf]; done) | (simp [intOf]; omega)
          · have fcU : wr.cell? ⟨U, 0, none⟩ = some (.int .u32 (sumS m).a) := (blk_cell HBr.out 0).trans (stC_v (sumS m) wto _ 0 om_)
            go_wp2
            go_roundw
            case rel =>
             refine ⟨3, by omega, by go_num, Lib.hid (gl_set hgr.out (.inl si_) _), Lib.hid ((blk_set HOr.out 2 _).trans ?_)⟩
             exact congrArg (fun z => some (Obj.cells z 104 (0, 0))) (HO.out 2 om_ _ (by have h := byte_of (sumS m).a HNN.out.1 8; rw [show ((2 : Int) ^ 8) = 256 from rfl] at h; exact h.symm))
            case measure => first | (simp [intOf]; done) | (simp [intOf]; omega)
          · have fcU : wr.cell? ⟨U, 0, none⟩ = some (.int .u32 (sumS m).a) := (blk_cell HBr.out 0).trans (stC_v (sumS m) wto _ 0 om_)
            go_wp2
            go_roundw
            case rel =>
             refine ⟨4, by omega, by go_num, Lib.hid (gl_set hgr.out (.inl si_) _), Lib.hid ((blk_set HOr.out 3 _).trans ?_)⟩
             exact congrArg (fun z => some (Obj.cells z 104 (0, 0))) (HO.out 3 om_ _ (by have h := HNN.out.1; show _ = (((UInt8.ofNat (sumS m).a.toNat).toNat : Nat) : Int); rw [UInt8.toNat_ofNat']; omega))
            case measure => first | (simp [intOf]; done) | (simp [intOf]; omega)
          · have fcU : wr.cell? ⟨U, 1, none⟩ = some (.int .u32 (sumS m).b) := (blk_cell HBr.out 1).trans (stC_v (sumS m) wto _ 1 om_)
            go_wp2
            go_roundw
            case rel =>
             refine ⟨5, by omega, by go_num, Lib.hid (gl_set hgr.out (.inl si_) _), Lib.hid ((blk_set HOr.out 4 _).trans ?_)⟩
             exact congrArg (fun z => some (Obj.cells z 104 (0, 0))) (HO.out 4 om_ _ (by have h := byte_of (sumS m).b HNN.out.2.1 24; rw [show ((2 : Int) ^ 24) = 16777216 from rfl] at h; exact h.symm))
            case measure => first | (simp [intOf]; done) | (simp [intOf]; omega)
          · have fcU : wr.cell? ⟨U, 1, none⟩ = some (.int .u32 (sumS m).b) := (blk_cell HBr.out 1).trans (stC_v (sumS m) wto _ 1 om_)
            go_wp2
            go_roundw
            case rel =>
             refine ⟨6, by omega, by go_num, Lib.hid (gl_set hgr.out (.inl si_) _), Lib.hid ((blk_set HOr.out 5 _).trans ?_)⟩
             exact congrArg (fun z => some (Obj.cells z 104 (0, 0))) (HO.out 5 om_ _ (by have h := byte_of (sumS m).b HNN.out.2.1 16; rw [show ((2 : Int) ^ 16) = 65536 from rfl] at h; exact h.symm))
            case measure => first | (simp [intOf]; done) | (simp [intOf]; omega)
          · have fcU : wr.cell? ⟨U, 1, none⟩ = some (.int .u32 (sumS m).b) := (blk_cell HBr.out 1).trans (stC_v (sumS m) wto _ 1 om_)
            go_wp2
            go_roundw
            case rel =>
             refine ⟨7, by omega, by go_num, Lib.hid (gl_set hgr.out (.inl si_) _), Lib.hid ((blk_set HOr.out 6 _).trans ?_)⟩
             exact congrArg (fun z => some (Obj.cells z 104 (0, 0))) (HO.out 6 om_ _ (by have h := byte_of (sumS m).b HNN.out.2.1 8; rw [show ((2 : Int) ^ 8) = 256 from rfl] at h; exact h.symm))
            case measure => first | (simp [intOf]; done) | (simp [intOf]; omega)
          · have fcU : wr.cell? ⟨U, 1, none⟩ = some (.int .u32 (sumS m).b) := (blk_cell HBr.out 1).trans (stC_v (sumS m) wto _ 1 om_)
            go_wp2
            go_roundw
            case rel =>
             refine ⟨8, by omega, by go_num, Lib.hid (gl_set hgr.out (.inl si_) _), Lib.hid ((blk_set HOr.out 7 _).trans ?_)⟩
             exact congrArg (fun z => some (Obj.cells z 104 (0, 0))) (HO.out 7 om_ _ (by have h := HNN.out.2.1; show _ = (((UInt8.ofNat (sumS m).b.toNat).toNat : Nat) : Int); rw [UInt8.toNat_ofNat']; omega))
            case measure => first | (simp [intOf]; done) | (simp [intOf]; omega)
          · have fcU : wr.cell? ⟨U, 2, none⟩ = some (.int .u32 (sumS m).c) := (blk_cell HBr.out 2).trans (stC_v (sumS m) wto _ 2 om_)
            go_wp2
            go_roundw
            case rel =>
             refine ⟨9, by omega, by go_num, Lib.hid (gl_set hgr.out (.inl si_) _), Lib.hid ((blk_set HOr.out 8 _).trans ?_)⟩
             exact congrArg (fun z => some (Obj.cells z 104 (0, 0))) (HO.out 8 om_ _ (by have h := byte_of (sumS m).c HNN.out.2.2.1 24; rw [show ((2 : Int) ^ 24) = 16777216 from rfl] at h; exact h.symm))
            case measure => first | (simp [intOf]; done) | (simp [intOf]; omega)
          · have fcU : wr.cell? ⟨U, 2, none⟩ = some (.int .u32 (sumS m).c) := (blk_cell HBr.out 2).trans (stC_v (sumS m) wto _ 2 om_)
            go_wp2
            go_roundw
            case rel =>
             refine ⟨10, by omega, by go_num, Lib.hid (gl_set hgr.out (.inl si_) _), Lib.hid ((blk_set HOr.out 9 _).trans ?_)⟩
             exact congrArg (fun z => some (Obj.cells z 104 (0, 0))) (HO.out 9 om_ _ (by have h := byte_of (sumS m).c HNN.out.2.2.1 16; rw [show ((2 : Int) ^ 16) = 65536 from rfl] at h; exact h.symm))
            case measure => first | (simp [intOf]; done) | (simp [intOf]; omega)
          · have fcU : wr.cell? ⟨U, 2, none⟩ = some (.int .u32 (sumS m).c) := (blk_cell HBr.out 2).trans (stC_v (sumS m) wto _ 2 om_)
            go_wp2
            go_roundw
            case rel =>
             refine ⟨11, by omega, by go_num, Lib.hid (gl_set hgr.out (.inl si_) _), Lib.hid ((blk_set HOr.out 10 _).trans ?_)⟩
             exact congrArg (fun z => some (Obj.cells z 104 (0, 0))) (HO.out 10 om_ _ (by have h := byte_of (sumS m).c HNN.out.2.2.1 8; rw [show ((2 : Int) ^ 8) = 256 from rfl] at h; exact h.symm))
            case measure => first | (simp [intOf]; done) | (simp [intOf]; omega)
          · have fcU : wr.cell? ⟨U, 2, none⟩ = some (.int .u32 (sumS m).c) := (blk_cell HBr.out 2).trans (stC_v (sumS m) wto _ 2 om_)
            go_wp2
            go_roundw
            case rel =>
             refine ⟨12, by omega, by go_num, Lib.hid (gl_set hgr.out (.inl si_) _), Lib.hid ((blk_set HOr.out 11 _).trans ?_)⟩
             exact congrArg (fun z => some (Obj.cells z 104 (0, 0))) (HO.out 11 om_ _ (by have h := HNN.out.2.2.1; show _ = (((UInt8.ofNat (sumS m).c.toNat).toNat : Nat) : Int); rw [UInt8.toNat_ofNat']; omega))
            case measure => first | (simp [intOf]; done) | (simp [intOf]; omega)
          · have fcU : wr.cell? ⟨U, 3, none⟩ = some (.int .u32 (sumS m).d) := (blk_cell HBr.out 3).trans (stC_v (sumS m) wto _ 3 om_)
            go_wp2
            go_roundw
            case rel =>
             refine ⟨13, by omega, by go_num, Lib.hid (gl_set hgr.out (.inl si_) _), Lib.hid ((blk_set HOr.out 12 _).trans ?_)⟩
             exact congrArg (fun z => some (Obj.cells z 104 (0, 0))) (HO.out 12 om_ _ (by have h := byte_of (sumS m).d HNN.out.2.2.2.1 24; rw [show ((2 : Int) ^ 24) = 16777216 from rfl] at h; exact h.symm))
            case measure => first | (simp [intOf]; done) | (simp [intOf]; omega)
          · have fcU : wr.cell? ⟨U, 3, none⟩ = some (.int .u32 (sumS m).d) := (blk_cell HBr.out 3).trans (stC_v (sumS m) wto _ 3 om_)
            go_wp2
            go_roundw
            case rel =>
             refine ⟨14, by omega, by go_num, Lib.hid (gl_set hgr.out (.inl si_) _), Lib.hid ((blk_set HOr.out 13 _).trans ?_)⟩
             exact congrArg (fun z => some (Obj.cells z 104 (0, 0))) (HO.out 13 om_ _ (by have h := byte_of (sumS m).d HNN.out.2.2.2.1 16; rw [show ((2 : Int) ^ 16) = 65536 from rfl] at h; exact h.symm))
            case measure => first | (simp [intOf]; done) | (simp [intOf]; omega)
          · have fcU : wr.cell? ⟨U, 3, none⟩ = some (.int .u32 (sumS m).d) := (blk_cell HBr.out 3).trans (stC_v (sumS m) wto _ 3 om_)
            go_wp2
            go_roundw
            case rel =>
             refine ⟨15, by omega, by go_num, Lib.hid (gl_set hgr.out (.inl si_) _), Lib.hid ((blk_set HOr.out 14 _).trans ?_)⟩
             exact congrArg (fun z => some (Obj.cells z 104 (0, 0))) (HO.out 14 om_ _ (by have h := byte_of (sumS m).d HNN.out.2.2.2.1 8; rw [show ((2 : Int) ^ 8) = 256 from rfl] at h; exact h.symm))
            case measure => first | (simp [intOf]; done) | (simp [intOf]; omega)
          · have fcU : wr.cell? ⟨U, 3, none⟩ = some (.int .u32 (sumS m).d) := (blk_cell HBr.out 3).trans (stC_v (sumS m) wto _ 3 om_)
            go_wp2
            go_roundw
            case rel =>
             refine ⟨16, by omega, by go_num, Lib.hid (gl_set hgr.out (.inl si_) _), Lib.hid ((blk_set HOr.out 15 _).trans ?_)⟩
             exact congrArg (fun z => some (Obj.cells z 104 (0, 0))) (HO.out 15 om_ _ (by have h := HNN.out.2.2.2.1; show _ = (((UInt8.ofNat (sumS m).d.toNat).toNat : Nat) : Int); rw [UInt8.toNat_ofNat']; omega))
            case measure => first | (simp [intOf]; done) | (simp [intOf]; omega)
          · have fcU : wr.cell? ⟨U, 4, none⟩ = some (.int .u32 (sumS m).e) := (blk_cell HBr.out 4).trans (stC_v (sumS m) wto _ 4 om_)
            go_wp2
            go_roundw
            case rel =>
             refine ⟨17, by omega, by go_num, Lib.hid (gl_set hgr.out (.inl si_) _), Lib.hid ((blk_set HOr.out 16 _).trans ?_)⟩
             exact congrArg (fun z => some (Obj.cells z 104 (0, 0))) (HO.out 16 om_ _ (by have h := byte_of (sumS m).e HNN.out.2.2.2.2.1 24; rw [show ((2 : Int) ^ 24) = 16777216 from rfl] at h; exact h.symm))
            case measure => first | (simp [intOf]; done) | (simp [intOf]; omega)
          · have fcU : wr.cell? ⟨U, 4, none⟩ = some (.int .u32 (sumS m).e) := (blk_cell HBr.out 4).trans (stC_v (sumS m) wto _ 4 om_)
            go_wp2
            go_roundw
            case rel =>
             refine ⟨18, by omega, by go_num, Lib.hid (gl_set hgr.out (.inl si_) _), Lib.hid ((blk_set HOr.out 17 _).trans ?_)⟩
             exact congrArg (fun z => some (Obj.cells z 104 (0, 0))) (HO.out 17 om_ _ (by have h := byte_of (sumS m).e HNN.out.2.2.2.2.1 16; rw [show ((2 : Int) ^ 16) = 65536 from rfl] at h; exact h.symm))
            case measure => first | (simp [intOf]; done) | (simp [intOf]; omega)
          · have fcU : wr.cell? ⟨U, 4, none⟩ = some (.int .u32 (sumS m).e) := (blk_cell HBr.out 4).trans (stC_v (sumS m) wto _ 4 om_)
            go_wp2
            go_roundw
            case rel =>
             refine ⟨19, by omega, by go_num, Lib.hid (gl_set hgr.out (.inl si_) _), Lib.hid ((blk_set HOr.out 18 _).trans ?_)⟩
             exact congrArg (fun z => some (Obj.cells z 104 (0, 0))) (HO.out 18 om_ _ (by have h := byte_of (sumS m).e HNN.out.2.2.2.2.1 8; rw [show ((2 : Int) ^ 8) = 256 from rfl] at h; exact h.symm))
            case measure => first | (simp [intOf]; done) | (simp [intOf]; omega)
          · have fcU : wr.cell? ⟨U, 4, none⟩ = some (.int .u32 (sumS m).e) := (blk_cell HBr.out 4).trans (stC_v (sumS m) wto _ 4 om_)
            go_wp2
            go_roundw
            case rel =>
             refine ⟨20, by omega, by go_num, Lib.hid (gl_set hgr.out (.inl si_) _), Lib.hid ((blk_set HOr.out 19 _).trans ?_)⟩
             exact congrArg (fun z => some (Obj.cells z 104 (0, 0))) (HO.out 19 om_ _ (by have h := HNN.out.2.2.2.2.1; show _ = (((UInt8.ofNat (sumS m).e.toNat).toNat : Nat) : Int); rw [UInt8.toNat_ofNat']; omega))
            case measure => first | (simp [intOf]; done) | (simp [intOf]; omega)
          · have fcU : wr.cell? ⟨U, 5, none⟩ = some (.int .u32 (sumS m).f) := (blk_cell HBr.out 5).trans (stC_v (sumS m) wto _ 5 om_)
            go_wp2
            go_roundw
            case rel =>
             refine ⟨21, by omega, by go_num, Lib.hid (gl_set hgr.out (.inl si_) _), Lib.hid ((blk_set HOr.out 20 _).trans ?_)⟩
             exact congrArg (fun z => some (Obj.cells z 104 (0, 0))) (HO.out 20 om_ _ (by have h := byte_of (sumS m).f HNN.out.2.2.2.2.2.1 24; rw [show ((2 : Int) ^ 24) = 16777216 from rfl] at h; exact h.symm))
            case measure => first | (simp [intOf]; done) | (simp [intOf]; omega)
          · have fcU : wr.cell? ⟨U, 5, none⟩ = some (.int .u32 (sumS m).f) := (blk_cell HBr.out 5).trans (stC_v (sumS m) wto _ 5 om_)
            go_wp2
            go_roundw
            case rel =>
             refine ⟨22, by omega, by go_num, Lib.hid (gl_set hgr.out (.inl si_) _), Lib.hid ((blk_set HOr.out 21 _).trans ?_)⟩
             exact congrArg (fun z => some (Obj.cells z 104 (0, 0))) (HO.out 21 om_ _ (by have h := byte_of (sumS m).f HNN.out.2.2.2.2.2.1 16; rw [show ((2 : Int) ^ 16) = 65536 from rfl] at h; exact h.symm))
            case measure => first | (simp [intOf]; done) | (simp [intOf]; omega)
          · have fcU : wr.cell? ⟨U, 5, none⟩ = some (.int .u32 (sumS m).f) := (blk_cell HBr.out 5).trans (stC_v (sumS m) wto _ 5 om_)
            go_wp2
            go_roundw
            case rel =>
             refine ⟨23, by omega, by go_num, Lib.hid (gl_set hgr.out (.inl si_) _), Lib.hid ((blk_set HOr.out 22 _).trans ?_)⟩
             exact congrArg (fun z => some (Obj.cells z 104 (0, 0))) (HO.out 22 om_ _ (by have h := byte_of (sumS m).f HNN.out.2.2.2.2.2.1 8; rw [show ((2 : Int) ^ 8) = 256 from rfl] at h; exact h.symm))
            case measure => first | (simp [intOf]; done) | (simp [intOf]; omega)
          · have fcU : wr.cell? ⟨U, 5, none⟩ = some (.int .u32 (sumS m).f) := (blk_cell HBr.out 5).trans (stC_v (sumS m) wto _ 5 om_)
            go_wp2
            go_roundw
            case rel =>
             refine ⟨24, by omega, by go_num, Lib.hid (gl_set hgr.out (.inl si_) _), Lib.hid ((blk_set HOr.out 23 _).trans ?_)⟩
             exact congrArg (fun z => some (Obj.cells z 104 (0, 0))) (HO.out 23 om_ _ (by have h := HNN.out.2.2.2.2.2.1; show _ = (((UInt8.ofNat (sumS m).f.toNat).toNat : Nat) : Int); rw [UInt8.toNat_ofNat']; omega))
            case measure => first | (simp [intOf]; done) | (simp [intOf]; omega)
          · have fcU : wr.cell? ⟨U, 6, none⟩ = some (.int .u32 (sumS m).g) := (blk_cell HBr.out 6).trans (stC_v (sumS m) wto _ 6 om_)
            go_wp2
            go_roundw
            case rel =>
             refine ⟨25, by omega, by go_num, Lib.hid (gl_set hgr.out (.inl si_) _), Lib.hid ((blk_set HOr.out 24 _).trans ?_)⟩
             exact congrArg (fun z => some (Obj.cells z 104 (0, 0))) (HO.out 24 om_ _ (by have h := byte_of (sumS m).g HNN.out.2.2.2.2.2.2.1 24; rw [show ((2 : Int) ^ 24) = 16777216 from rfl] at h; exact h.symm))
            case measure => first | (simp [intOf]; done) | (simp [intOf]; omega)
          · have fcU : wr.cell? ⟨U, 6, none⟩ = some (.int .u32 (sumS m).g) := (blk_cell HBr.out 6).trans (stC_v (sumS m) wto _ 6 om_)
            go_wp2
            go_roundw
            case rel =>
             refine ⟨26, by omega, by go_num, Lib.hid (gl_set hgr.out (.inl si_) _), Lib.hid ((blk_set HOr.out 25 _).trans ?_)⟩
             exact congrArg (fun z => some (Obj.cells z 104 (0, 0))) (HO.out 25 om_ _ (by have h := byte_of (sumS m).g HNN.out.2.2.2.2.2.2.1 16; rw [show ((2 : Int) ^ 16) = 65536 from rfl] at h; exact h.symm))
            case measure => first | (simp [intOf]; done) | (simp [intOf]; omega)
          · have fcU : wr.cell? ⟨U, 6, none⟩ = some (.int .u32 (sumS m).g) := (blk_cell HBr.out 6).trans (stC_v (sumS m) wto _ 6 om_)
            go_wp2
            go_roundw
            case rel =>
             refine ⟨27, by omega, by go_num, Lib.hid (gl_set hgr.out (.inl si_) _), Lib.hid ((blk_set HOr.out 26 _).trans ?_)⟩
             exact congrArg (fun z => some (Obj.cells z 104 (0, 0))) (HO.out 26 om_ _ (by have h := byte_of (sumS m).g HNN.out.2.2.2.2.2.2.1 8; rw [show ((2 : Int) ^ 8) = 256 from rfl] at h; exact h.symm))
            case measure => first | (simp [intOf]; done) | (simp [intOf]; omega)
          · have fcU : wr.cell? ⟨U, 6, none⟩ = some (.int .u32 (sumS m).g) := (blk_cell HBr.out 6).trans (stC_v (sumS m) wto _ 6 om_)
            go_wp2
            go_roundw
            case rel =>
             refine ⟨28, by omega, by go_num, Lib.hid (gl_set hgr.out (.inl si_) _), Lib.hid ((blk_set HOr.out 27 _).trans ?_)⟩
             exact congrArg (fun z => some (Obj.cells z 104 (0, 0))) (HO.out 27 om_ _ (by have h := HNN.out.2.2.2.2.2.2.1; show _ = (((UInt8.ofNat (sumS m).g.toNat).toNat : Nat) : Int); rw [UInt8.toNat_ofNat']; omega))
            case measure => first | (simp [intOf]; done) | (simp [intOf]; omega)
          · have fcU : wr.cell? ⟨U, 7, none⟩ = some (.int .u32 (sumS m).h) := (blk_cell HBr.out 7).trans (stC_v (sumS m) wto _ 7 om_)
            go_wp2
            go_roundw
            case rel =>
             refine ⟨29, by omega, by go_num, Lib.hid (gl_set hgr.out (.inl si_) _), Lib.hid ((blk_set HOr.out 28 _).trans ?_)⟩
             exact congrArg (fun z => some (Obj.cells z 104 (0, 0))) (HO.out 28 om_ _ (by have h := byte_of (sumS m).h HNN.out.2.2.2.2.2.2.2 24; rw [show ((2 : Int) ^ 24) = 16777216 from rfl] at h; exact h.symm))
            case measure => first | (simp [intOf]; done) | (simp [intOf]; omega)
          · have fcU : wr.cell? ⟨U, 7, none⟩ = some (.int .u32 (sumS m).h) := (blk_cell HBr.out 7).trans (stC_v (sumS m) wto _ 7 om_)
            go_wp2
            go_roundw
            case rel =>
             refine ⟨30, by omega, by go_num, Lib.hid (gl_set hgr.out (.inl si_) _), Lib.hid ((blk_set HOr.out 29 _).trans ?_)⟩
             exact congrArg (fun z => some (Obj.cells z 104 (0, 0))) (HO.out 29 om_ _ (by have h := byte_of (sumS m).h HNN.out.2.2.2.2.2.2.2 16; rw [show ((2 : Int) ^ 16) = 65536 from rfl] at h; exact h.symm))
            case measure => first | (simp [intOf]; done) | (simp [intOf]; omega)
          · have fcU : wr.cell? ⟨U, 7, none⟩ = some (.int .u32 (sumS m).h) := (blk_cell HBr.out 7).trans (stC_v (sumS m) wto _ 7 om_)
            go_wp2
            go_roundw
            case rel =>
             refine ⟨31, by omega, by go_num, Lib.hid (gl_set hgr.out (.inl si_) _), Lib.hid ((blk_set HOr.out 30 _).trans ?_)⟩
             exact congrArg (fun z => some (Obj.cells z 104 (0, 0))) (HO.out 30 om_ _ (by have h := byte_of (sumS m).h HNN.out.2.2.2.2.2.2.2 8; rw [show ((2 : Int) ^ 8) = 256 from rfl] at h; exact h.symm))
            case measure => first | (simp [intOf]; done) | (simp [intOf]; omega)
          · have fcU : wr.cell? ⟨U, 7, none⟩ = some (.int .u32 (sumS m).h) := (blk_cell HBr.out 7).trans (stC_v (sumS m) wto _ 7 om_)
            go_wp2
            go_roundw
            case rel =>
             refine ⟨32, by omega, by go_num, Lib.hid (gl_set hgr.out (.inl si_) _), Lib.hid ((blk_set HOr.out 31 _).trans ?_)⟩
             exact congrArg (fun z => some (Obj.cells z 104 (0, 0))) (HO.out 31 om_ _ (by have h := HNN.out.2.2.2.2.2.2.2; show _ = (((UInt8.ofNat (sumS m).h.toNat).toNat : Nat) : Int); rw [UInt8.toNat_ofNat']; omega))
            case measure => first | (simp [intOf]; done) | (simp [intOf]; omega)
        · obtain rfl : i = 32 := by omega
          have e32 : outC (sumS m) 32 = (u8L (outB (sumS m))).toArray := by
           unfold outC
           rw [List.take_of_length_le (by rw [outB_len]; omega)]
           simp
          have hO := hor.out
          rw [e32] at hO
          have hRr := blk_gl (blk_gl HR1.out HGo.out so_) hgr.out so_
          have hgw : GL [] w wr := gl_step hgr.out (gl_step HGo.out hg1 so_) so_
          have hl32 : (u8L (outB (sumS m))).length = 32 := by rw [u8L_len, outB_len]
          have hsc2 := run_storeCells_cells (P := Tryz.prog) R 0 (u8L (outB (sumS m))) 0 wr (fun j hj => by have := (there_blk hRr j (by rw [hl32] at hj; exact hj)).1; simpa using this) (fun j hj => by have := (there_blk hRr j (by rw [hl32] at hj; exact hj)).2; simpa using this) (fun x hx => by
           unfold u8L at hx
           obtain ⟨y, _, rfl⟩ := List.mem_map.1 hx
           rfl)
          rw [Nat.add_zero] at hsc2
          have hRf := blk_whole (vs := u8L (outB (sumS m))) hRr (by rw [hl32]; rfl)
          have hlv := run_loadVar_mid (P := Tryz.prog) (wr.setCells R 0 (u8L (outB (sumS m)))) R 0 104 (u8L (outB (sumS m))) _ (rangeAt_blk hRf) Tryz.underlying104 rfl (by rw [Tryz.sizeA32, hl32])
          have HFIN : Hid (Below w.heap.size w (wr.setCells R 0 (u8L (outB (sumS m))))) := Lib.hid (gl_to_below (gl_setCells (.inr om_) _ 0 _ hgw))
          have HOc := Lib.hid hO
          clear hor hgr hO hgw hRr hRf
          generalize hob : u8L (outB (sumS m)) = ob at *
          go_wp2_with ((with_reducible refine wpList_load_mid rfl 104 (.tmp 7) rfl O 0 rfl ob _ ?hc Tryz.underlying104 rfl ?hi ?_; (case hc => exact rangeAt_blk HOc.out); (case hi => rw [Tryz.sizeA32, hl32])))
          exact bodyPost_ret (v := .agg ob.toArray) (by simp [results, Tryz.results128, asAddr, hlv]) rfl (by
           refine ⟨?_, ?_⟩
           · first | rfl | rw [hob]
           · have hfin := HFIN.out
             rw [hRw] at hfin
             exact hfin)
end Go.Proofs.YtembdkodajichaaGreatDoor
