/- The program's invoices: words of numbers, texts, fields. -/
import Derived.Test.YtembdkodajichaaGreatDoorByteC
import Derived.Test.YtembdkodajichaaGreatDoorBitsB
import Derived.Test.YtembdkodajichaaGreatDoorInvP
set_option maxRecDepth 100000
set_option maxHeartbeats 4000000
set_option linter.unusedSimpArgs false
set_option linter.unusedVariables false
namespace Go.Proofs.YtembdkodajichaaGreatDoor
open Go.RowKit
theorem run_appB0 (lo : Nat) (v : Value) (l : List UInt8) (a : Option Addr) (c : Nat) (w : World) (hown : OwnB lo v l w) :
  (Builtin.append_ #[47, 47] 47 #[v, .slice a 0 c]).run Tryz.prog w = .ok v w := by
 obtain ⟨t0, ht0, ht1, ht2, ht3⟩ := info_parts Tryz.infoB8
 rcases hown.2 with ⟨rfl, hn⟩ | ⟨g, cap, cur, rfl, hbg, hg, hnc, hcm, hcs, htake⟩
 · cases a with
   | none => simp [Builtin.append_, run_underlying Tryz.underlying47, sizeOf, typeInfo, ht0, Builtin.lenOf, Builtin.firstCells, loadCells, loadCellsFrom]
   | some a => simp [Builtin.append_, run_underlying Tryz.underlying47, sizeOf, typeInfo, ht0, Builtin.lenOf, Builtin.firstCells, loadCells, loadCellsFrom]
 · cases a with
   | none => simp [Builtin.append_, run_underlying Tryz.underlying47, sizeOf, typeInfo, ht0, Builtin.lenOf, Builtin.firstCells, loadCells, loadCellsFrom, storeCells, hnc]
   | some a => simp [Builtin.append_, run_underlying Tryz.underlying47, sizeOf, typeInfo, ht0, Builtin.lenOf, Builtin.firstCells, loadCells, loadCellsFrom, storeCells, hnc]
theorem run_appR (lo : Nat) (v yv : Value) (l ys : List UInt8) (w : World) (hown : OwnB lo v l w) (hin : InAt yv ys w) (hlen : l.length + ys.length ≤ 1000000000000) (hlo : lo ≤ w.heap.size) :
  ∃ ad cap w', (Builtin.append_ #[47, 47] 47 #[v, yv]).run Tryz.prog w = .ok (.slice ad (l.length + ys.length) cap) w' ∧
   OwnB lo (.slice ad (l.length + ys.length) cap) (l ++ ys) w' ∧ GL v.ownBlock.toList w w' := by
 obtain ⟨a, c, rfl, hc, hb⟩ := inAt_form hin
 by_cases hy : ys = []
 · subst hy
   obtain ⟨ad, cap, rfl⟩ := ownB_form hown
   have h := run_appB0 lo _ l a c w hown
   exact ⟨ad, cap, w, h, by rw [List.append_nil]; exact hown, gl_refl _ _⟩
 · obtain ⟨G, o, rfl, hB, hj⟩ := hb hy
   obtain ⟨g, cap, w', h1, h2, h3, h4, h5⟩ := run_appB lo v l ys ⟨G, o, none⟩ c w hown (List.length_pos_iff.2 hy) (fun j hjl => by
    have e : (⟨G, o, none⟩ : Addr).add j = ⟨G, o + j, none⟩ := by unfold Addr.add; split <;> simp_all
    rw [e]
    exact hj j hjl) hlen hlo
   exact ⟨some ⟨g, 0, none⟩, cap, w', h1, h2, gl_grown h3 (gl_refl _ _) (fun r hr => .inl (by simp [hr]))⟩
theorem and31_i64 (n : Nat) (h : n ≤ 4611686018427387903) : bits .and .i64 (n : Int) 31 = ((n % 32 : Nat) : Int) := and_i64 n 5 om_ om_ 31 de_
theorem numW_zero : numW 0 = [] := by rw [numW, dif_pos rfl]
theorem numW_pos {n : Nat} (h : 0 < n) : numW n = numW (n / 32) ++ [UInt8.ofNat (n % 32)] := by rw [numW, dif_neg om_]
theorem numW_short (n : Nat) (h : n ≤ 4611686018427387903) : (numW n).length ≤ 13 := numW_len 13 n om_
theorem iNum (n : Nat) (w : World) (hn : n ≤ 4611686018427387903) :
  Calls Tryz.prog 75 #[.int .i64 n] w fun e w' => ∃ ad c, e = .returned (.slice ad (numW n).length c) ∧ OwnB w.heap.size (.slice ad (numW n).length c) (numW n) w' ∧ Below w.heap.size w w' := by
 induction n using Nat.strongRecOn generalizing w with
 | ind n ih =>
   by_cases h0 : n = 0
   · subst h0
     have HE := Lib.hid numW_zero
     go_enter Tryz.func75, Tryz.ntmps75
     go_wp2_with fail
     exact bodyPost_ret (v := .slice none 0 0) (by simp [results, Tryz.results75, go_sem]) rfl ⟨none, 0, by rw [HE.out]; rfl, by rw [HE.out]; exact ownB_nil _ _, bl_⟩
   · have hpos : 0 < n := by omega
     have hp1 : (0 : Int) < n := by omega
     have HE := Lib.hid (numW_pos hpos)
     have HS := Lib.hid (numW_short (n / 32) om_)
     have HI := Lib.hid (fun w => ih (n / 32) om_ w om_)
     have hand := and31_i64 n hn
     have hn2 : (n : Int) ≤ 4611686018427387903 := by omega
     clear ih h0
     go_enter Tryz.func75, Tryz.ntmps75
     go_wp2_with fail
     refine (show Calls Tryz.prog 75 #[.int .i64 ((n / 32 : Nat) : Int)] w _ from HI.out w).mono ?_
     rintro e w1 ⟨ad, c, rfl, hown, hb1⟩
     have HB := Lib.hid hb1
     have hx8 : ((n : Int) % 32) = ((UInt8.ofNat (n % 32)).toNat : Nat) := by rw [UInt8.toNat_ofNat']; omega
     obtain ⟨g, cap, w2, hrun, hown2, hgr, _, _⟩ := run_appB1 w.heap.size (.slice ad (numW (n / 32)).length c) _ (UInt8.ofNat (n % 32)) ((n : Int) % 32) hx8 w1 _ (.inr rfl) hown (by have := HS.out; omega) hb1.size
     have HL2 : Hid (GL [] w w2) := Lib.hid (gl_step hgr (gl_below hb1 (gl_refl _ _)) (fun r hr => .inr (ownB_blk hown r (by simpa using hr)).1))
     have HRUN := Lib.hid hrun
     have HO2 := Lib.hid hown2
     have hlen : (numW n).length = (numW (n / 32)).length + 1 := by rw [HE.out]; simp
     have HLN := Lib.hid hlen
     clear hown hb1 hrun hown2 hgr hx8 hlen
     go_wp2_with (at_builtin; refine wpList_append_run _ rfl (.tmp 7) (.tmp 11) 47 47 rfl _ _ (by simp [Act.eval, Act.put]) (by simp [Act.eval, Act.put]) HRUN.out ?_)
     exact bodyPost_ret (v := .slice (some ⟨g, 0, none⟩) ((numW (n / 32)).length + 1) cap) (by simp [results, Tryz.results75, go_sem]) rfl ⟨some ⟨g, 0, none⟩, cap, by rw [HLN.out], by rw [HLN.out, HE.out]; exact HO2.out, gl_to_below HL2.out⟩
theorem iTxtW (s : List UInt8) (hs : s.length ≤ 10000000) (w : World) :
  Calls Tryz.prog 46 #[.string (bs s)] w fun e w' => ∃ ad c, e = .returned (.slice ad (textW s).length c) ∧ OwnB w.heap.size (.slice ad (textW s).length c) (textW s) w' ∧ Below w.heap.size w w' := by
 obtain ⟨c, w1, hcv, hin, hg⟩ := run_conv 9 Tryz.underlying9 s w om_
 have HIN := Lib.hid (cvAt_in hin)
 have HG := Lib.hid hg
 have HB := Lib.hid (bits85 s)
 clear hin hg
 go_enter Tryz.func46, Tryz.ntmps46
 go_wp2_with fail
 refine (bBits85 s _ _ HIN.out om_).mono ?_
 rintro e w2 ⟨he, hb⟩
 rw [HB.out] at he
 obtain ⟨ad, c2, rfl, hown⟩ := he
 have HO := Lib.hid (own_base hown HG.out.size)
 have HL : Hid (GL [] w w2) := Lib.hid (gl_below hb HG.out)
 clear hown hb
 go_wp2_with fail
 exact bodyPost_ret (v := .slice ad (textW s).length c2) (by simp [results, Tryz.results46, go_sem]) rfl ⟨ad, c2, rfl, HO.out, gl_to_below HL.out⟩
theorem iFld (lo lo2 : Nat) (tag : UInt8) (T : Int) (hT : T = tag.toNat) (l o : List UInt8) (v bv : Value) (w : World) (hv : OwnB lo v l w) (hb : OwnB lo2 bv o w) (hap : ∀ g, v.ownBlock = some g → g < lo2) (hll : l.length ≤ 100000000) (hol : o.length ≤ 1023) (hlo : lo ≤ w.heap.size) :
  Calls Tryz.prog 45 #[v, .int .u8 T, bv] w fun e w' => ∃ ad c, e = .returned (.slice ad (l ++ fieldW tag o).length c) ∧ OwnB lo (.slice ad (l ++ fieldW tag o).length c) (l ++ fieldW tag o) w' ∧ GL v.ownBlock.toList w w' := by
 subst hT
 obtain ⟨ad, c, rfl⟩ := ownB_form hv
 obtain ⟨ad2, c2, rfl⟩ := ownB_form hb
 have e1 : ((o.length : Int) / 32) = ((UInt8.ofNat (o.length / 32)).toNat : Nat) := by rw [UInt8.toNat_ofNat']; omega
 have e2 : ((o.length : Int) % 32) = ((UInt8.ofNat (o.length % 32)).toNat : Nat) := by rw [UInt8.toNat_ofNat']; omega
 have hand := and31_i64 o.length om_
 have hn := blk_new w (.cells #[.int .u8 (tag.toNat : Nat), .int .u8 ((o.length : Int) / 32), .int .u8 ((o.length : Int) % 32)] 5)
 obtain ⟨g1, cap1, w2, hr1, ho1, hg1, hb1, hs1⟩ := run_appB lo _ l [tag, UInt8.ofNat (o.length / 32), UInt8.ofNat (o.length % 32)] ⟨w.heap.size, 0, none⟩ 3 (w.alloc (.cells #[.int .u8 (tag.toNat : Nat), .int .u8 ((o.length : Int) / 32), .int .u8 ((o.length : Int) % 32)] 5)) (own_alloc hv _) si_ (fun j hj => by
  rw [e1, e2] at hn ⊢
  rcases (by simp at hj; omega : j = 0 ∨ j = 1 ∨ j = 2) with rfl | rfl | rfl
  · exact blk_cell hn 0
  · exact blk_cell hn 1
  · exact blk_cell hn 2) so_ (by rw [World.size_alloc]; omega)
 have hb2 : InAt (.slice ad2 o.length c2) o w2 := by
  obtain ⟨a, c', e, hc', hbb⟩ := inAt_form (ownB_in (own_alloc hb (.cells #[.int .u8 (tag.toNat : Nat), .int .u8 ((o.length : Int) / 32), .int .u8 ((o.length : Int) % 32)] 5))).1
  injection e with ea _ ec
  subst ea ec
  refine inAt_mk rfl hc' fun hne => ?_
  obtain ⟨G, of, rfl, hB⟩ := hbb hne
  have hG : lo2 ≤ G := (ownB_in hb).2 G of c2 rfl hne
  refine ⟨G, of, rfl, ?_⟩
  exact bytesAt_gl (rs := (Value.slice ad l.length c).ownBlock.toList) hB (gl_grown hg1 (gl_refl _ _) (fun r hr => .inl (by simp [hr]))) (fun hm => by
   have := hap G (by simpa using hm)
   omega)
 have hlo2 : lo ≤ w2.heap.size := Nat.le_trans (by rw [World.size_alloc]; omega) hg1.size
 obtain ⟨ad3, cap3, w3, hr2, ho2, hg2⟩ := run_appR lo _ _ _ o w2 ho1 hb2 so_ hlo2
 have hw1 : GL [] w (w.alloc (.cells #[.int .u8 (tag.toNat : Nat), .int .u8 ((o.length : Int) / 32), .int .u8 ((o.length : Int) % 32)] 5)) := gl_alloc (gl_refl _ _) _
 have hw2 : GL (Value.slice ad l.length c).ownBlock.toList w w2 := gl_grown hg1 (gl_step hw1 (gl_refl _ _) si_) (fun r hr => .inl (by simp [hr]))
 have hw3 : GL (Value.slice ad l.length c).ownBlock.toList w w3 := by
  refine gl_step hg2 hw2 (fun r hr => ?_)
  have : r = g1 := by simp [Value.ownBlock] at hr; exact hr
  subst this
  rcases hb1 with h | h
  · exact .inl (by simp [h])
  · exact .inr (by rw [h, World.size_alloc]; omega)
 have hfin : l ++ [tag, UInt8.ofNat (o.length / 32), UInt8.ofNat (o.length % 32)] ++ o = l ++ fieldW tag o := by unfold fieldW; simp
 have hl1 : (l ++ [tag, UInt8.ofNat (o.length / 32), UInt8.ofNat (o.length % 32)]).length = l.length + 3 := by simp
 have hl3 : l.length + 3 + o.length = (l ++ fieldW tag o).length := by rw [← hfin]; simp; omega
 rw [hfin] at ho2
 rw [show ([tag, UInt8.ofNat (o.length / 32), UInt8.ofNat (o.length % 32)] : List UInt8).length = 3 from rfl] at hr1 hr2
 rw [hl1, hl3] at hr2
 rw [hl1, hl3] at ho2
 have HR1 := Lib.hid hr1
 have HR2 := Lib.hid hr2
 have HO := Lib.hid ho2
 have HG := Lib.hid hw3
 have ho3 : (o.length : Int) ≤ 1023 := by omega
 clear hr1 hr2 ho2 hw3 hw2 hw1 hg2 hb2 hb1 ho1 hg1 hn hv hb hap hl1 hl3 hfin hlo2 hs1 e1 e2
 go_enter Tryz.func45, Tryz.ntmps45
 go_wp2_with (first | ((with_reducible (at_builtin; refine wpList_append_run _ rfl (.tmp 7) (.tmp 17) 47 47 rfl _ _ ?ha ?hb HR1.out ?_)); (case ha => simp [Act.eval, Act.put]); (case hb => simp [Act.eval, Act.put])) | ((with_reducible (at_builtin; refine wpList_append_run _ rfl (.tmp 18) (.tmp 19) 47 47 rfl _ _ ?ha ?hb HR2.out ?_)); (case ha => simp [Act.eval, Act.put]); (case hb => simp [Act.eval, Act.put])))
 exact bodyPost_ret (v := .slice ad3 (l ++ fieldW tag o).length cap3) (by simp [results, Tryz.results45, go_sem]) rfl ⟨ad3, cap3, rfl, HO.out, HG.out⟩
end Go.Proofs.YtembdkodajichaaGreatDoor
