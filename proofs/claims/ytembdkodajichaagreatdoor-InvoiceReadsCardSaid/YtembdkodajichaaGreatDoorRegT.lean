/- A region that draws its order, of which one operation makes a block of one cell, and one appends it: what holds all along, what each operation gives. -/
import Derived.Test.YtembdkodajichaaGreatDoorBitsA
import Derived.Test.YtembdkodajichaaGreatDoorMRef
import Derived.Test.YtembdkodajichaaGreatDoorInvW
import Derived.Test.YtembdkodajichaaGreatDoorAmtQ
import Derived.Test.YtembdkodajichaaGreatDoorByteR
import Derived.Test.YtembdkodajichaaGreatDoorRegI
import Derived.Test.YtembdkodajichaaGreatDoorBechB
set_option maxRecDepth 100000
set_option maxHeartbeats 4000000
set_option linter.unusedSimpArgs false
set_option linter.unusedVariables false
namespace Go.Proofs.YtembdkodajichaaGreatDoor
open Go.RowKit
def wL (l : List Int) : List Value := l.map fun x => .int .u32 x
theorem zqh_ (l : List Int) : (wL l).length = l.length := by simp [wL]
theorem Tryz.infoW4 : (Tryz.prog.info? 121).map (fun i => (i.zero, i.size, i.bytes)) = some (some (.int .u32 0), 1, 4) := by kernel_rfl
def OwnW (lo : Nat) (v : Value) (l : List Int) (w : World) : Prop := w.ownsRow lo 121 1 v l.length (wL l)
theorem zqi_ (lo : Nat) (w : World) : OwnW lo (.slice none 0 0) [] w := World.ownsRow_nil _ _ _ _
theorem zqj_ {lo : Nat} {v : Value} {l : List Int} {w : World} (h : OwnW lo v l w) : ∃ ad c, v = .slice ad l.length c := by
 obtain ⟨ad, m, c, rfl⟩ := za4_ h
 have := zbS_ h
 subst this
 exact ⟨ad, c, rfl⟩
def InW (v : Value) (l : List Int) (w : World) : Prop := ∃ g c, v = .slice (some ⟨g, 0, none⟩) l.length c ∧ l.length ≤ c ∧ g < w.heap.size ∧ ∀ j, (hj : j < l.length) → w.cell? ⟨g, j, none⟩ = some (.int .u32 l[j])
theorem zhp_ {lo : Nat} {v : Value} {l : List Int} {w : World} (h : OwnW lo v l w) (h0 : l ≠ []) : InW v l w := by
 have hpos := List.length_pos_iff.2 h0
 obtain ⟨g, cap, hv, hg1, hg2, hc1, hc2, hcell⟩ := zbv_ h hpos
 refine ⟨g, cap, hv, hc1, hg2, fun j hj => hcell j _ ?_⟩
 unfold wL
 rw [List.getElem?_map, List.getElem?_eq_getElem hj]
 rfl
theorem zqk_ {v : Value} {l : List Int} {w w' : World} (h : InW v l w) (hg : GL [] w w') : InW v l w' := by
 obtain ⟨g, c, hv, hc, hlt, hcell⟩ := h
 refine ⟨g, c, hv, hc, Nat.lt_of_lt_of_le hlt hg.size, fun j hj => ?_⟩
 have := hcell j hj
 simp only [World.cell?, hg.block _ hlt si_] at this ⊢
 exact this
theorem zdr_ (n : Nat) (N : Int) (hN : N = n) (h0 : 1 ≤ n) (h1 : n ≤ 31) (x : Int) (w : World) :
  Calls Tryz.prog 163 #[.int .u32 x, .int .i64 N] w fun e w' => e = .returned (.int .u32 (rotr n x)) ∧ w' = w.drew := by
 subst hN
 have i0 : (0 : Int) ≤ 32 - (n : Int) := by omega
 have i1 : (0 : Int) ≤ (n : Int) := by omega
 have e1 : (32 - (n : Int)).toNat = 32 - n := by omega
 have H : Hid (rotr n x = bits .or .u32 (x / 2 ^ n) (IntKind.u32.wrap (x * 2 ^ (32 - n)))) := Lib.hid (by unfold rotr; rw [zl7_]; rfl)
 go_enter Tryz.func163, Tryz.ntmps163
 go_wp2_with fail
 go_region
 go_wp2_with fail
 exact bodyPost_ret (v := .int .u32 (rotr n x)) (by simp [results, Tryz.results163, go_sem]; rw [H.out]; simp [IntKind.wrap_u32]) rfl ⟨rfl, rfl⟩
theorem zke_ (n : Nat) : (zaW_ n).length = 8 := by simp [zaW_]
theorem zql_ (n j : Nat) (h : j < 8) : (zaW_ n).take (j + 1) = (zaW_ n).take j ++ [UInt8.ofNat (n * 8 / 2 ^ (56 - 8 * j) % 256)] := by
 rcases (by omega : j = 0 ∨ j = 1 ∨ j = 2 ∨ j = 3 ∨ j = 4 ∨ j = 5 ∨ j = 6 ∨ j = 7) with rfl | rfl | rfl | rfl | rfl | rfl | rfl | rfl <;> simp [zaW_]
theorem zbj_ (w w0 : World) (v : Value) (l : List UInt8) (y : UInt8) (X : Int) (hX : X = y.toNat) (hown : x1_ w.heap.size v l w0) (hlen : l.length ≤ 100000000000) (hg : GL [] w w0) :
  ∃ g cap w', (Builtin.append_ #[47, 47] 47 #[v, .slice (some ⟨w0.heap.size, 0, none⟩) 1 1]).run Tryz.prog (w0.alloc (.cells #[.int .u8 X] 5)) = .ok (.slice (some ⟨g, 0, none⟩) (l.length + 1) cap) w' ∧
   x1_ w.heap.size (.slice (some ⟨g, 0, none⟩) (l.length + 1) cap) (l ++ [y]) w' ∧ GL [] w w' := by
 obtain ⟨g, cap, w', h1, h2, h3, _, _⟩ := k7_ w.heap.size v l y X hX w0 _ (.inr rfl) hown hlen hg.size
 refine ⟨g, cap, w', h1, h2, y7_ h3 hg (fun r hr => ?_)⟩
 have := v4_ hown r (by simpa using hr)
 exact .inr this.1
theorem zqm_ (l : List UInt8) (hl : l.length ≤ 100000000) (bv : Value) (w : World) (hin : x8_ bv l w) :
  Calls Tryz.prog 131 #[bv] w fun e w' => ∃ v, e = .returned v ∧ x1_ w.heap.size v (zaS_ l) w' ∧ Below w.heap.size w w' := by
 obtain ⟨ba, bc, rfl, hbc, _⟩ := j6_ hin
 obtain ⟨ad1, c1, w1, hrun, hown1, hgr1⟩ := zcZ_ w.heap.size (.slice none 0 0) (.slice ba l.length bc) [] l w (zbN_ _ _) hin so_ (Nat.le_refl _)
 simp only [List.length_nil, Nat.zero_add, List.nil_append] at hrun hown1
 have HRUN := Lib.hid hrun
 have HL1 : Hid (GL [] w w1) := Lib.hid hgr1
 obtain ⟨g2, c2, w2, hrun2, hown2, hl2⟩ := zbj_ w w1 _ l 128 128 rfl hown1 om_ hgr1
 have HRUN2 := Lib.hid hrun2
 have HO2 := Lib.hid hown2
 have HL2 := Lib.hid hl2
 clear hrun hown1 hgr1 hrun2 hown2 hl2 hin hbc
 go_enter Tryz.func131, Tryz.ntmps131
 go_wp2_with (first | ((with_reducible (at_builtin; refine w8_ _ rfl (.tmp 6) (.tmp 7) 47 47 rfl _ _ ?ha ?hb HRUN.out ?_)); (case ha => simp [Act.eval, Act.put]); (case hb => simp [Act.eval, Act.put])) | ((with_reducible (at_builtin; refine w8_ _ rfl (.tmp 9) (.tmp 10) 47 47 rfl _ _ ?ha ?hb HRUN2.out ?_)); (case ha => simp [Act.eval, Act.put]); (case hb => simp [Act.eval, Act.put])))
 clear HRUN HRUN2 HL1
 go_loopw [3] (fun v wr => ∃ k : Nat, k ≤ zae_ l.length ∧ Hid (x1_ w.heap.size v (l ++ [128] ++ List.replicate k 0) wr) ∧ Hid (GL [] w wr)) (fun v _ => zae_ l.length + l.length + 1 - lenV v)
 case atStart => exact ⟨0, by omega, Lib.hid (by rw [List.replicate_zero, List.append_nil]; exact HO2.out), HL2⟩
 case round =>
  obtain ⟨k, hk, HO, HL⟩ := hrel
  obtain ⟨ad, c, hv⟩ := zaO_ HO.out
  subst hv
  have hlen : (l ++ [128] ++ List.replicate k 0).length = l.length + 1 + k := by simp; omega
  rw [hlen] at HO ⊢
  by_cases hlt : k < zae_ l.length
  · have hm : ((((l.length : Int) + 1 + (k : Int)) % 64) != 56) = true := by rw [bne_iff_ne]; unfold zae_ at hlt; omega
    obtain ⟨g3, c3, w3, hrun3, hown3, hl3⟩ := zbj_ w wr _ _ 0 0 rfl HO.out (by rw [hlen]; unfold zae_ at hk; omega) HL.out
    rw [hlen] at hrun3 hown3
    have HRUN := Lib.hid hrun3
    have HO3 : Hid (x1_ w.heap.size (.slice (some ⟨g3, 0, none⟩) (l.length + 1 + k + 1) c3) (l ++ [128] ++ List.replicate (k + 1) 0) w3) := Lib.hid (by rw [List.replicate_succ', ← List.append_assoc]; exact hown3)
    have HL3 := Lib.hid hl3
    have hzb : zae_ l.length < 64 := by unfold zae_; omega
    clear hrun3 hown3 hl3
    go_wp2_with (at_builtin; refine w8_ _ rfl (.tmp 16) (.tmp 17) 47 47 rfl _ _ (by simp [Act.eval, Act.put]) (by simp [Act.eval, Act.put]) HRUN.out ?_)
    exact ⟨⟨k + 1, by omega, HO3, HL3⟩, by simp [lenV]; omega⟩
  · obtain rfl : k = zae_ l.length := by omega
    have hm : ((((l.length : Int) + 1 + (zae_ l.length : Int)) % 64) != 56) = false := by rw [bne_eq_false_iff_eq]; unfold zae_; omega
    have hzb : zae_ l.length < 64 := by unfold zae_; omega
    clear hlt
    generalize hP : l ++ [128] ++ List.replicate (zae_ l.length) 0 = P at *
    have HF : Hid (zaS_ l = P ++ zaW_ l.length) := Lib.hid (by unfold zaS_; rw [hP])
    generalize hZ : zae_ l.length = Z at *
    clear hP
    go_wp2_with fail
    go_loopw [3, 5] (fun v iv wr => ∃ j : Nat, j ≤ 8 ∧ iv = .int .i64 (56 - 8 * (j : Int)) ∧ Hid (x1_ w.heap.size v (P ++ (zaW_ l.length).take j) wr) ∧ Hid (GL [] w wr)) (fun _ iv _ => (intOf iv + 8).toNat)
    case atStart => exact ⟨0, by omega, rfl, Lib.hid (by rw [List.take_zero, List.append_nil]; exact HO.out), HL⟩
    case round =>
     obtain ⟨j, hj, rfl, HOj, HLj⟩ := hrel
     obtain ⟨adj, cj, hv⟩ := zaO_ HOj.out
     subst hv
     have hlenj : (P ++ (zaW_ l.length).take j).length = l.length + 1 + Z + j := by rw [List.length_append, hlen, List.length_take, zke_]; omega
     rw [hlenj] at HOj ⊢
     by_cases hlt : j < 8
     · obtain ⟨K, hK⟩ : ∃ K : Nat, K = 56 - 8 * j := ⟨_, rfl⟩
       have HG := Lib.hid (zql_ l.length j hlt)
       rw [← hK] at HG
       rw [show (56 - 8 * (j : Int)) = (K : Int) by omega]
       have hK0 : (0 : Int) ≤ K := by omega
       have hK1 : decide ((0 : Int) ≤ K) = true := by simp
       have hX : (((l.length * 8 / 2 ^ K % 256 : Nat)) : Int) = (UInt8.ofNat (l.length * 8 / 2 ^ K % 256)).toNat := by rw [UInt8.toNat_ofNat']; omega
       have hX2 : ((((l.length : Int) * 8 / 2 ^ K)) % 256 : Int) = ((l.length * 8 / 2 ^ K % 256 : Nat) : Int) := by push_cast; rfl
       obtain ⟨g3, c3, w3, hrun3, hown3, hl3⟩ := zbj_ w wr _ _ (UInt8.ofNat (l.length * 8 / 2 ^ K % 256)) _ hX HOj.out (by rw [hlenj]; unfold zae_ at hZ; omega) HLj.out
       rw [hlenj, ← hX2] at hrun3
       rw [hlenj] at hown3
       have HRUN := Lib.hid hrun3
       have HO3 : Hid (x1_ w.heap.size (.slice (some ⟨g3, 0, none⟩) (l.length + 1 + Z + j + 1) c3) (P ++ (zaW_ l.length).take (j + 1)) w3) := Lib.hid (by rw [HG.out, ← List.append_assoc]; exact hown3)
       have HL3 := Lib.hid hl3
       have HK := Lib.hid hK
       have hK9 : K ≤ 56 := by omega
       clear hrun3 hown3 hl3 hX hX2 hK
       go_wp2_with (at_builtin; refine w8_ _ rfl (.tmp 27) (.tmp 32) 47 47 rfl _ _ (by simp [Act.eval, Act.put]) (by simp [Act.eval, Act.put]) HRUN.out ?_)
       exact ⟨⟨j + 1, by omega, by have := HK.out; go_num, HO3, HL3⟩, by have := HK.out; simp [intOf]; omega⟩
     · obtain rfl : j = 8 := by omega
       clear hlt
       rw [List.take_of_length_le (by rw [zke_]; omega)] at HOj
       go_wp2_with fail
       exact bodyPost_ret (v := .slice adj (l.length + 1 + Z + 8) cj) (by simp [results, Tryz.results131, go_sem]) rfl ⟨_, rfl, by rw [HF.out]; exact HOj.out, y0_ HLj.out⟩
def q3_ (s : List UInt8) : Bool := s.all x7_ && (s != [] && head s != 48)
def zaZ_ (U : Nat) (d : List UInt8) : Int × Int := if k6_ / U < x2_ d then (0, 40) else (((x2_ d * U : Nat) : Int), 0)
def bad3 (d : List UInt8) (c : UInt8) : Bool := !q3_ d || ((decide (3 < d.length) && (d.drop (d.length - 3) == [48, 48, 48])) || (c == 112 && d.getD (d.length - 1) 0 != 48))
theorem zcE_ {d : List UInt8} {i : Nat} (h : i < d.length) : x2_ (d.take (i + 1)) = x2_ (d.take i) * 10 + ((d[i]).toNat - 48) := by
 rw [List.take_succ_eq_append_getElem h, zb8_]
theorem zkf_ (d : List UInt8) (i : Nat) : x2_ (d.take i) ≤ x2_ d := by
 have h : x2_ d = decA (x2_ (d.take i)) (d.drop i) := by
  unfold x2_ decA
  rw [← List.foldl_append, List.take_append_drop]
 rw [h]
 exact zhf_ _ _
theorem zkg_ {s : List UInt8} (h : q3_ s = false) : s = [] ∨ s.all x7_ = false ∨ head s = 48 := by
 unfold q3_ at h
 simp only [Bool.and_eq_false_iff, bne_eq_false_iff_eq] at h
 rcases h with h | h | h
 · exact .inr (.inl h)
 · exact .inl h
 · exact .inr (.inr h)
theorem za9_ {s : List UInt8} (h : q3_ s = true) : s ≠ [] ∧ s.all x7_ = true ∧ head s ≠ 48 := by
 unfold q3_ at h
 simp only [Bool.and_eq_true, bne_iff_ne, ne_eq] at h
 exact ⟨h.2.1, h.1, h.2.2⟩
theorem zhq_ {s : List UInt8} (h : s ≠ []) (h2 : ∀ e nm, s = e ++ nm → (∀ x ∈ nm, nmB x = true) → e.all x7_ = true → nm.length ≤ 1 → False) : z5_ s = (0, 70) := by
 obtain ⟨nm, e, hn⟩ := zgj_ s
 have hdrop : s.drop (k1_ s).length = nm := by
  conv => lhs; rw [e]
  rw [List.drop_left' (by rw [← e])]
 unfold z5_
 rw [if_neg h, hdrop]
 unfold zbo_
 by_cases ha : (k1_ s).all x7_ = true
 · by_cases hl : nm.length ≤ 1
   · exact (h2 _ _ e hn ha hl).elim
   · rw [if_pos (.inr (.inr (.inr (.inl om_))))]
 · rw [if_pos (.inr (.inl (by simpa using ha)))]
theorem zqn_ {c : UInt8} (h : x7_ c = true) : nmB c = false := by
 have := zcL_ h
 unfold x7_ at h
 simp only [Bool.and_eq_true, decide_eq_true_eq] at h
 unfold nmB
 simp only [Bool.or_eq_false_iff, beq_eq_false_iff_ne, ne_eq, ← UInt8.toNat_inj]
 simp
 omega
theorem zkh_ {d e nm : List UInt8} {c : UInt8} (h : d ++ [c] = e ++ nm) (h0 : nm ≠ []) : c ∈ nm := by
 obtain ⟨l, x, rfl⟩ : ∃ l x, nm = l ++ [x] := ⟨nm.dropLast, nm.getLast h0, (List.dropLast_concat_getLast h0).symm⟩
 rw [← List.append_assoc] at h
 have := List.append_inj_right' h rfl
 simp at this
 simp [this]
theorem zqo_ (d : List UInt8) (c : UInt8) (hc : x7_ c = true) : z5_ (d ++ [c]) = if q3_ (d ++ [c]) = true then zaZ_ 100000000000 (d ++ [c]) else (0, 70) := by
 by_cases ha : (d ++ [c]).all x7_ = true
 · have h := zgk_ (d ++ [c]) [] ha si_ si_
   rw [List.append_nil] at h
   rw [h]
   unfold zbo_
   cases hw : q3_ (d ++ [c]) with
   | true =>
     obtain ⟨h1, h2, h3⟩ := za9_ hw
     rw [if_neg, if_neg si_, if_pos rfl]
     · rfl
     · rintro (h | h | h | h | h)
       · exact h1 h
       · rw [h2] at h; cases h
       · exact h3 h
       · simp at h
       · exact h.1 rfl
   | false =>
     rw [if_pos, if_neg si_]
     rcases zkg_ hw with h | h | h
     · exact .inl h
     · exact .inr (.inl h)
     · exact .inr (.inr (.inl h))
 · rw [if_neg (fun h => ha (za9_ h).2.1)]
   refine zhq_ si_ fun e nm he hn hd _ => ?_
   by_cases h0 : nm = []
   · subst h0
     rw [List.append_nil] at he
     rw [he] at ha
     exact ha hd
   · have := hn c (zkh_ he h0)
     rw [zqn_ hc] at this
     cases this
theorem zqp_ (d : List UInt8) (c : UInt8) (hc : x7_ c = false) (hn : nmB c = false) : z5_ (d ++ [c]) = (0, 70) := by
 refine zhq_ si_ fun e nm he hnm hd _ => ?_
 by_cases h0 : nm = []
 · subst h0
   rw [List.append_nil] at he
   rw [← he, List.all_append, Bool.and_eq_true] at hd
   simp [hc] at hd
 · have := hnm c (zkh_ he h0)
   rw [hn] at this
   cases this
theorem zqq_ {d : List UInt8} (h0 : d ≠ []) (hh : head d ≠ 48) : zar_ d [48, 48, 48] = (decide (3 < d.length) && (d.drop (d.length - 3) == [48, 48, 48])) := by
 rw [Bool.eq_iff_iff]
 unfold zar_
 rw [List.isSuffixOf_iff_suffix, List.suffix_iff_eq_drop]
 simp only [Bool.and_eq_true, decide_eq_true_eq, beq_iff_eq, List.length_cons, List.length_nil]
 constructor
 · intro h
   refine ⟨?_, h.symm⟩
   by_cases hl : 3 < d.length
   · exact hl
   · exfalso
     rw [show d.length - (0 + 1 + 1 + 1) = 0 by omega, List.drop_zero] at h
     rw [← h] at hh
     exact hh rfl
 · intro h
   exact h.2.symm
theorem zqr_ {d : List UInt8} (h0 : d ≠ []) : zar_ d [48] = (d.getD (d.length - 1) 0 == 48) := by
 obtain ⟨l, x, rfl⟩ : ∃ l x, d = l ++ [x] := ⟨d.dropLast, d.getLast h0, (List.dropLast_concat_getLast h0).symm⟩
 unfold zar_
 rw [Bool.eq_iff_iff, List.isSuffixOf_iff_suffix, List.suffix_iff_eq_drop, beq_iff_eq]
 simp
 exact eq_comm
theorem zfP_ (d : List UInt8) (c : UInt8) (hc : nmB c = true) : z5_ (d ++ [c]) = if bad3 d c = true then (0, 70) else zaZ_ (zav_ [c]) (zb9_ d [c]) := by
 by_cases ha : d.all x7_ = true
 · rw [zgk_ d [c] ha (by simpa using hc) si_]
   unfold zbo_ bad3
   cases hw : q3_ d with
   | false =>
     rw [if_pos, if_pos si_]
     rcases zkg_ hw with h | h | h
     · exact .inl h
     · exact .inr (.inl h)
     · exact .inr (.inr (.inl h))
   | true =>
     obtain ⟨h1, h2, h3⟩ := za9_ hw
     rw [← zqq_ h1 h3]
     cases h5 : zar_ d [48, 48, 48] with
     | true => rw [if_pos (.inr (.inr (.inr (.inr ⟨by simp, rfl⟩)))), if_pos si_]
     | false =>
       rw [if_neg]
       · by_cases hp : c = 112
         · subst hp
           rw [zqr_ h1]
           cases hq : d.getD (d.length - 1) 0 == 48 with
           | false =>
             have hq2 : (d.getD (d.length - 1) 0 != 48) = true := by rw [bne, hq]; rfl
             rw [if_pos ⟨rfl, rfl⟩, hq2, if_pos si_]
           | true =>
             have hq2 : (d.getD (d.length - 1) 0 != 48) = false := by rw [bne, hq]; rfl
             rw [if_neg si_, hq2]
             exact (if_neg (c := (!true || (false || (112 : UInt8) == 112 && false)) = true) si_).symm
         · rw [if_neg (by simp [hp])]
           exact (if_neg (c := (!true || (false || c == 112 && d.getD (d.length - 1) 0 != 48)) = true) (by simp [hp])).symm
       · rintro (h | h | h | h | h)
         · exact h1 h
         · rw [h2] at h; cases h
         · exact h3 h
         · simp at h
         · exact absurd h.2 si_
 · have hw : bad3 d c = true := by
    unfold bad3
    have : q3_ d = false := by
     cases hw : q3_ d with
     | false => rfl
     | true => exact absurd (za9_ hw).2.1 ha
    rw [this]
    rfl
   rw [if_pos hw]
   refine zhq_ si_ fun e nm he hnm hd hl => ?_
   match nm, hl with
   | [], _ =>
     rw [List.append_nil] at he
     rw [← he, List.all_append, Bool.and_eq_true] at hd
     exact ha hd.1
   | [x], _ =>
     have h := List.append_inj_left' he rfl
     rw [h] at ha
     exact ha hd
   | _ :: _ :: _, h => simp at h
theorem zki_ {d : List UInt8} {c : UInt8} (h : bad3 d c = false) : q3_ d = true ∧ q3_ (zb9_ d [c]) = true := by
 unfold bad3 at h
 simp only [Bool.or_eq_false_iff, Bool.not_eq_false'] at h
 refine ⟨h.1, ?_⟩
 unfold zb9_
 by_cases hp : c = 112
 · subst hp
   rw [if_pos rfl]
   have h2 := h.2.2
   obtain ⟨h1, h3, h4⟩ := za9_ h.1
   obtain ⟨l, x, rfl⟩ : ∃ l x, d = l ++ [x] := ⟨d.dropLast, d.getLast h1, (List.dropLast_concat_getLast h1).symm⟩
   simp at h2
   subst h2
   rw [List.dropLast_concat]
   cases l with
   | nil => exact absurd rfl h4
   | cons a b =>
     unfold q3_
     rw [List.all_append, Bool.and_eq_true] at h3
     have h5 : a ≠ 48 := h4
     rw [h3.1]
     simp [head, h5]
 · rw [if_neg (by simp [hp])]
   exact h.1
theorem zkj_ {P : Program} {W : World} {b : Nat} {src dst e : TypeId} {x : Int} (hb : W.heap[b]? = some (.cells #[.int .u8 x] e (0, 0))) (hs : P.underlying src = some (.slice e)) (he : P.underlying e = some (.int .u8)) (hd : P.underlying dst = some .string)
  (h0 : 0 ≤ x) (h1 : x < 256) :
  (convert src dst (.slice (some ⟨b, 0, none⟩) 1 1)).run P W = .ok (.string (bs [UInt8.ofNat x.toNat])) W := by
 have e1 : ((UInt8.ofNat x.toNat).toNat : Int) = x := by
  rw [UInt8.toNat_ofNat']; omega
 have h := run_convert_bytes_back (P := P) W src dst e ⟨b, 0, none⟩ 1 [UInt8.ofNat x.toNat] hs he hd (by
  intro j hj
  have : j = 0 := by simpa using hj
  subst this
  simp only [List.getElem_cons_zero, e1]
  exact z0_ hb 0)
 exact h
theorem zak_ {l : List UInt8} {i : Nat} (h : i < l.length) : l.getD i 0 = l[i] := by rw [List.getD_eq_getElem?_getD, List.getElem?_eq_getElem h]; rfl
theorem zeS_ (n : Nat) : ∀ (x : Int) (_ : x = n) (_ : n ≤ 9223372036854775807) (w : World),
  Calls Tryz.prog 28 #[.int .i64 x] w fun e w' => e = .returned (.string (bs (Lib.decDigits n))) ∧ Below w.heap.size w w' := by
 induction n using Nat.strongRecOn with
 | ind n ih =>
   intro x hx hn w
   subst hx
   have H : Hid (Lib.decDigits n = if n < 10 then [UInt8.ofNat (48 + n)] else Lib.decDigits (n / 10) ++ [UInt8.ofNat (48 + n % 10)]) := by
    show Lib.decDigits n = _
    rw [Lib.decDigits]
    split <;> rfl
   by_cases h : n ≤ 9
   · clear ih
     have h' : decide ((n : Int) < 10) = true := by simp; omega
     have kc := fun (w : World) => zhi_ (P := Tryz.prog) w 47 9 5 (48 + (n : Int)) Tryz.underlying47 Tryz.underlying5 Tryz.underlying9 om_ om_
     go_enter Tryz.func28, Tryz.ntmps28
     go_wp2_with fail
     exact bodyPost_ret (v := .string (bs [UInt8.ofNat (48 + n)])) (by simp [results, Tryz.results28, go_sem]) rfl ⟨by rw [H.out, if_pos om_], bl_⟩
   · have h' : decide ((n : Int) < 10) = false := by simp; omega
     have kc := fun (w : World) => zhi_ (P := Tryz.prog) w 47 9 5 (48 + (n : Int) % 10) Tryz.underlying47 Tryz.underlying5 Tryz.underlying9 om_ om_
     have hlen : (Lib.decDigits (n / 10)).length ≤ 20 := zba_ _ om_
     have hq : (n : Int).tdiv 10 = (n : Int) / 10 := Int.tdiv_eq_ediv_of_nonneg om_
     have hr : (n : Int).tmod 10 = (n : Int) % 10 := Int.tmod_eq_emod_of_nonneg om_
     go_enter Tryz.func28, Tryz.ntmps28
     have hw8 : IntKind.u8.wrap ((n : Int) % 10) = (n : Int) % 10 := by rw [IntKind.wrap_u8]; omega
     have hw9 : IntKind.u8.wrap (48 + (n : Int) % 10) = 48 + (n : Int) % 10 := by rw [IntKind.wrap_u8]; omega
     have hx0 : (0 : Int) ≤ 48 + (n : Int) % 10 := by omega
     have hx1 : 48 + (n : Int) % 10 < 256 := by omega
     have kdr : (convert 47 9 (.slice (some ⟨w.heap.size, 0, none⟩) 1 1)).run Tryz.prog (w.alloc (.cells #[.int .u8 (48 + (n : Int) % 10)] 5)).drew = .ok (.string (bs [UInt8.ofNat (48 + (n : Int) % 10).toNat])) (w.alloc (.cells #[.int .u8 (48 + (n : Int) % 10)] 5)).drew := zkj_ (w1_ (y8_ w _)) Tryz.underlying47 Tryz.underlying5 Tryz.underlying9 hx0 hx1
     go_wp2_with fail
     go_region_with (go_at_call 28; refine (ih (n / 10) om_ _ (by first | omega | (rw [IntKind.wrap_i64]; omega)) om_ _).mono ?_; rintro e w1 ⟨rfl, hb⟩; (first | (have kd : (convert 47 9 (.slice (some ⟨w.heap.size, 0, none⟩) 1 1)).run Tryz.prog w1 = .ok (.string (bs [UInt8.ofNat (48 + (n : Int) % 10).toNat])) w1 := zkj_ (x0_ (w1_ (y8_ _ _)) hb si_) Tryz.underlying47 Tryz.underlying5 Tryz.underlying9 hx0 hx1) | skip))
     all_goals go_wp2_with fail
     all_goals exact bodyPost_ret (v := .string (bs (Lib.decDigits (n / 10) ++ [UInt8.ofNat (48 + n % 10)]))) (by simp [results, Tryz.results28, go_sem]) rfl ⟨by rw [H.out, if_neg om_], bl_⟩
theorem zqs_ (c : UInt8) : bits .and .u8 (c.toNat : Int) 31 = ((c.toNat % 32 : Nat) : Int) := zhd_ (p := fun c => bits .and .u8 (c.toNat : Int) 31 = ((c.toNat % 32 : Nat) : Int)) (by decide +kernel) c
theorem zhr_ {α : Type} (f : UInt8 → α) (s : List UInt8) (i : Nat) (h : i < s.length) : (s.take (i + 1)).map f = (s.take i).map f ++ [f s[i]] := by
 rw [List.take_succ_eq_append_getElem h, List.map_append]
 rfl
theorem zqt_ (s : List UInt8) (hs : s.length ≤ 1000000) (w : World) :
  Calls Tryz.prog 92 #[.string (bs s)] w fun e w' => ∃ v, e = .returned v ∧ x1_ w.heap.size v (hrpW s) w' ∧ Below w.heap.size w w' := by
 go_enter Tryz.func92, Tryz.ntmps92
 go_wp2_with fail
 go_loopw [3, 4] (fun v iv wr => ∃ i : Nat, i ≤ s.length ∧ iv = .int .i64 i ∧ Hid (x1_ w.heap.size v ((s.take i).map fun c : UInt8 => UInt8.ofNat (c.toNat / 32)) wr) ∧ Hid (GL [] w wr)) (fun _ iv _ => s.length - (intOf iv).toNat)
 case atStart => exact ⟨0, by omega, rfl, Lib.hid (zbN_ _ _), Lib.hid (y1_ _ _)⟩
 case round =>
  obtain ⟨i, hi, rfl, HO, HL⟩ := hrel
  obtain ⟨ad, c, hv⟩ := zaO_ HO.out
  subst hv
  have hlen : ((s.take i).map fun c : UInt8 => UInt8.ofNat (c.toNat / 32)).length = i := by rw [List.length_map, List.length_take]; omega
  rw [hlen] at HO ⊢
  by_cases hlt : i < s.length
  · have hix : ∀ W, (Instr.index 9 (.string (bs s)) (.int .i64 (i : Int))).run Tryz.prog W = .ok (.int .u8 ((s[i]).toNat : Nat)) W := fun W => by rw [zag_ W .i64 s i hlt, zak_ hlt]
    have hi0 : (0 : Int) ≤ i := by omega
    have hlb : decide ((i : Int) < s.length) = true := by simp; omega
    have HT := Lib.hid (zhr_ (fun c : UInt8 => UInt8.ofNat (c.toNat / 32)) s i hlt)
    have hc := s[i].toNat_lt
    have hX : ((s[i].toNat : Int)) / 32 = ((UInt8.ofNat (s[i].toNat / 32)).toNat : Nat) := by rw [UInt8.toNat_ofNat']; omega
    obtain ⟨g3, c3, w3, hrun3, hown3, hl3⟩ := zbj_ w wr _ _ (UInt8.ofNat (s[i].toNat / 32)) _ hX HO.out (by rw [hlen]; omega) HL.out
    rw [hlen] at hrun3 hown3
    have HRUN := Lib.hid hrun3
    have HO3 : Hid (x1_ w.heap.size (.slice (some ⟨g3, 0, none⟩) (i + 1) c3) ((s.take (i + 1)).map fun c : UInt8 => UInt8.ofNat (c.toNat / 32)) w3) := Lib.hid (by rw [HT.out]; exact hown3)
    have HL3 := Lib.hid hl3
    clear hrun3 hown3 hl3 hX
    generalize s[i].toNat = cc at *
    go_wp2_with (at_builtin; refine w8_ _ rfl (.tmp 12) (.tmp 17) 47 47 rfl _ _ (by simp [Act.eval, Act.put]) (by simp [Act.eval, Act.put]) HRUN.out ?_)
    exact ⟨⟨i + 1, by omega, by go_num, HO3, HL3⟩, by simp [intOf]; omega⟩
  · obtain rfl : i = s.length := by omega
    rw [List.take_of_length_le (Nat.le_refl _)] at HO hlen
    have hlb : decide (((s.length : Nat) : Int) < s.length) = false := by simp
    obtain ⟨g3, c3, w3, hrun3, hown3, hl3⟩ := zbj_ w wr _ _ 0 0 rfl HO.out (by rw [hlen]; omega) HL.out
    rw [hlen] at hrun3 hown3
    have HRUN := Lib.hid hrun3
    have HO3 := Lib.hid hown3
    have HL3 := Lib.hid hl3
    have hPl : ((s.map fun c : UInt8 => UInt8.ofNat (c.toNat / 32)) ++ [0]).length = s.length + 1 := by simp
    have HW : Hid (hrpW s = ((s.map fun c : UInt8 => UInt8.ofNat (c.toNat / 32)) ++ [0]) ++ s.map fun c : UInt8 => UInt8.ofNat (c.toNat % 32)) := Lib.hid (by unfold hrpW; simp)
    generalize (s.map fun c : UInt8 => UInt8.ofNat (c.toNat / 32)) ++ [0] = P at *
    clear hrun3 hown3 hl3 hlt HO HL
    go_wp2_with (at_builtin; refine w8_ _ rfl (.tmp 19) (.tmp 20) 47 47 rfl _ _ (by simp [Act.eval, Act.put]) (by simp [Act.eval, Act.put]) HRUN.out ?_)
    clear HRUN
    go_loopw [3, 5] (fun v iv wr => ∃ i : Nat, i ≤ s.length ∧ iv = .int .i64 i ∧ Hid (x1_ w.heap.size v (P ++ (s.take i).map fun c : UInt8 => UInt8.ofNat (c.toNat % 32)) wr) ∧ Hid (GL [] w wr)) (fun _ iv _ => s.length - (intOf iv).toNat)
    case atStart => exact ⟨0, by omega, rfl, Lib.hid (by rw [List.take_zero, List.map_nil, List.append_nil]; exact HO3.out), HL3⟩
    case round =>
     obtain ⟨i, hi, rfl, HO, HL⟩ := hrel
     obtain ⟨ad2, c2, hv⟩ := zaO_ HO.out
     subst hv
     have hlen2 : (P ++ (s.take i).map fun c : UInt8 => UInt8.ofNat (c.toNat % 32)).length = s.length + 1 + i := by rw [List.length_append, hPl, List.length_map, List.length_take]; omega
     rw [hlen2] at HO ⊢
     by_cases hlt : i < s.length
     · have hix : ∀ W, (Instr.index 9 (.string (bs s)) (.int .i64 (i : Int))).run Tryz.prog W = .ok (.int .u8 ((s[i]).toNat : Nat)) W := fun W => by rw [zag_ W .i64 s i hlt, zak_ hlt]
       have hi0 : (0 : Int) ≤ i := by omega
       have hlb2 : decide ((i : Int) < s.length) = true := by simp; omega
       have HT := Lib.hid (zhr_ (fun c : UInt8 => UInt8.ofNat (c.toNat % 32)) s i hlt)
       have hand := zqs_ s[i]
       have hX : ((s[i].toNat % 32 : Nat) : Int) = ((UInt8.ofNat (s[i].toNat % 32)).toNat : Nat) := by rw [UInt8.toNat_ofNat']; omega
       obtain ⟨g3, c3, w3, hrun3, hown3, hl3⟩ := zbj_ w wr _ _ (UInt8.ofNat (s[i].toNat % 32)) _ hX HO.out (by rw [hlen2]; omega) HL.out
       rw [hlen2] at hrun3 hown3
       rw [← hand] at hrun3
       have HRUN := Lib.hid hrun3
       have HO4 : Hid (x1_ w.heap.size (.slice (some ⟨g3, 0, none⟩) (s.length + 1 + i + 1) c3) (P ++ (s.take (i + 1)).map fun c : UInt8 => UInt8.ofNat (c.toNat % 32)) w3) := Lib.hid (by rw [HT.out, ← List.append_assoc]; exact hown3)
       have HL4 := Lib.hid hl3
       clear hrun3 hown3 hl3 hX hand
       generalize s[i].toNat = cc at *
       go_wp2_with (at_builtin; refine w8_ _ rfl (.tmp 28) (.tmp 33) 47 47 rfl _ _ (by simp [Act.eval, Act.put]) (by simp [Act.eval, Act.put]) HRUN.out ?_)
       exact ⟨⟨i + 1, by omega, by go_num, HO4, HL4⟩, by simp [intOf]; omega⟩
     · obtain rfl : i = s.length := by omega
       rw [List.take_of_length_le (Nat.le_refl _)] at HO
       clear hlt
       go_wp2_with fail
       exact bodyPost_ret (v := .slice ad2 (s.length + 1 + s.length) c2) (by simp [results, Tryz.results92, go_sem]) rfl ⟨_, rfl, by rw [HW.out]; exact HO.out, y0_ HL.out⟩
section
variable {P : Program} {ops : Array Oper} {Q : Exit → Act → World → Prop} {a0 : Act} {w0 : World} {ds : List (Option Nat)}
def zfQ_ (ds : List (Option Nat)) (G : Nat → Value → Prop) (a : Act) (o : Oper) : Prop := ∀ e ∈ o.after.toList, Region.binds .any e = true → ∃ v, G e.on v ∧ ∀ d, ds[e.on]? = some (some d) → a.tmps[d]? = some v
def v6_ (P : Program) (ops : Array Oper) (Q : Exit → Act → World → Prop) (a0 : Act) (ds : List (Option Nat)) (I R : World → Prop) (E : Bool) (G : Nat → Value → Prop) (i : Nat) (o : Oper) : Prop :=
 ∀ (a : Act) (w : World), (∀ t, some t ∉ ds → a.tmps[t]? = a0.tmps[t]?) → I w → (E = true → R w) → zfQ_ ds G a o →
  ∀ K : Act → World → Prop, (∀ v, G i v → K (a.put o.dst v) w) →
   if Region.wanted o (yielded ops a.tmps) = true then o.wp P a w K Q else K (a.put o.dst undef) w
def zhs_ (P : Program) (ops : Array Oper) (Q : Exit → Act → World → Prop) (a0 : Act) (ds : List (Option Nat)) (I R : World → Prop) (B : Value → World → Prop) (G : Nat → Value → Prop) (o : Oper) : Prop :=
 ∀ (a : Act) (w : World), (∀ t, some t ∉ ds → a.tmps[t]? = a0.tmps[t]?) → I w → R w → zfQ_ ds G a o →
  ∀ K : Act → World → Prop, (∀ v w', I w' → R w' → B v w' → K (a.put o.dst v) w') →
   if Region.wanted o (yielded ops a.tmps) = true then o.wp P a w K Q else K (a.put o.dst undef) w
def zht_ (P : Program) (ops : Array Oper) (Q : Exit → Act → World → Prop) (a0 : Act) (ds : List (Option Nat)) (I R : World → Prop) (B D : Value → World → Prop) (G : Nat → Value → Prop) (kb : Nat) (o : Oper) : Prop :=
 ∀ (a : Act) (w : World), (∀ t, some t ∉ ds → a.tmps[t]? = a0.tmps[t]?) → I w → R w → zfQ_ ds G a o → (∃ u, B u w ∧ ∀ d, ds[kb]? = some (some d) → a.tmps[d]? = some u) →
  ∀ K : Act → World → Prop, (∀ v w', I w' → D v w' → K (a.put o.dst v) w') →
   if Region.wanted o (yielded ops a.tmps) = true then o.wp P a w K Q else K (a.put o.dst undef) w
def zhu_ (P : Program) (ops : Array Oper) (Q : Exit → Act → World → Prop) (a0 : Act) (ds : List (Option Nat)) (I R : World → Prop) (B D : Value → World → Prop) (G : Nat → Value → Prop) (es : List Bool) (kb ka : Nat) : Nat → List Oper → Prop
 | _, [] => True
 | i, o :: r => (if i = kb then zhs_ P ops Q a0 ds I R B G o else if i = ka then zht_ P ops Q a0 ds I R B D G kb o else v6_ P ops Q a0 ds I R (es.getD i false) G i o) ∧ zhu_ P ops Q a0 ds I R B D G es kb ka (i + 1) r
theorem zkk_ {I R : World → Prop} {B D : Value → World → Prop} {G : Nat → Value → Prop} {es : List Bool} {kb ka : Nat} : ∀ (l : List Oper) (k j : Nat) (o : Oper), zhu_ P ops Q a0 ds I R B D G es kb ka k l → l[j]? = some o →
  (if k + j = kb then zhs_ P ops Q a0 ds I R B G o else if k + j = ka then zht_ P ops Q a0 ds I R B D G kb o else v6_ P ops Q a0 ds I R (es.getD (k + j) false) G (k + j) o)
 | [], _, _, _, _, h => by simp at h
 | x :: r, k, 0, o, hs, h => by
   simp only [List.getElem?_cons_zero, Option.some.injEq] at h
   subst h
   exact hs.1
 | x :: r, k, j + 1, o, hs, h => by
   have := zkk_ r (k + 1) j o hs.2 (by simpa using h)
   rwa [Nat.add_assoc, Nat.add_comm 1 j] at this
def onB (l : List Oper) (k j : Nat) : Bool := match l[k]? with
 | some o => o.after.toList.any fun e => e.on == j && Region.binds .any e
 | none => false
theorem zkl_ {l : List Oper} {k j : Nat} (h : onB l k j = true) {o : Oper} (ho : l[k]? = some o) : ∃ e ∈ o.after.toList, e.on = j ∧ Region.binds .any e = true := by
 unfold onB at h
 rw [ho] at h
 simp only [List.any_eq_true, Bool.and_eq_true, beq_iff_eq] at h
 obtain ⟨e, h1, h2, h3⟩ := h
 exact ⟨e, h1, h2, h3⟩
def zkm_ (l : List Oper) (j : Nat) : List Nat := match l[j]? with
 | some o => (o.after.toList.filter fun e => Region.binds .any e).map (·.on)
 | none => []
def zfR_ (l : List Oper) : Nat → List Nat → List Nat
 | 0, s => s
 | n + 1, s => zfR_ l n (if s.contains n then s ++ zkm_ l n else s)
def zhv_ (l : List Oper) (m : Nat → Option Value) : Prop := ∀ j o, l[j]? = some o → m j ≠ none → ∀ e ∈ o.after.toList, Region.binds .any e = true → m e.on ≠ none
theorem zkn_ {l : List Oper} {m : Nat → Option Value} (hc : zhv_ l m) : ∀ (n : Nat) (s : List Nat), (∀ x ∈ s, m x ≠ none) → ∀ x ∈ zfR_ l n s, m x ≠ none
 | 0, s, h => h
 | n + 1, s, h => by
   refine zkn_ hc n _ ?_
   intro x hx
   split at hx
   · rename_i hn
     rcases List.mem_append.1 hx with hx | hx
     · exact h x hx
     · unfold zkm_ at hx
       cases ho : l[n]? with
       | none => rw [ho] at hx; cases hx
       | some o =>
         rw [ho] at hx
         obtain ⟨e, he, rfl⟩ := List.mem_map.1 hx
         obtain ⟨h1, h2⟩ := List.mem_filter.1 he
         exact hc n o ho (h n (by simpa using hn)) e h1 (by simpa using h2)
   · exact h x hx
def zhw_ (l : List Oper) (kb : Nat) (es : List Bool) : Bool := (List.range es.length).all fun i => !(es.getD i false) || (zfR_ l (kb + 1) [kb]).contains i
theorem zqu_ {l : List Oper} {kb i : Nat} {es : List Bool} (h : zhw_ l kb es = true) (hi : es.getD i false = true) : i ∈ zfR_ l (kb + 1) [kb] := by
 unfold zhw_ at h
 rw [List.all_eq_true] at h
 have hl : i < es.length := by
  rcases Nat.lt_or_ge i es.length with h1 | h1
  · exact h1
  · rw [List.getD_eq_getElem?_getD, List.getElem?_eq_none h1] at hi; cases hi
 have := h i (List.mem_range.2 hl)
 rw [hi] at this
 simpa using this
theorem zqv_ {P : Program} (w : World) {o : Oper} {a : Act} {K : Act → World → Prop} {Q : Exit → Act → World → Prop} (s : Operand) (v : Value) (ho : o.op = .assign s) (hs : a.eval s = v) (h : K (a.put o.dst v) w) : o.wp P a w K Q := by
 unfold Oper.wp execOp
 simp only [ho, Sem.run_pure, hs]
 exact h
theorem zko_ {I R : World → Prop} {B D : Value → World → Prop} {G : Nat → Value → Prop} {id : Nat} {l : List Oper} {oc : Oper} (n1 f kb ka s d : Nat) (hk1 : kb ≠ ka) (hkn : ka < n1)
  (hGb : ∀ v, G kb v) (hGa : ∀ v, G ka v)
  (hka : onB l ka kb = true) (es : List Bool) (hes : zhw_ l kb es = true)
  (hn1 : l.length = n1 + 1) (ht : zdS_ l.toArray n1 f = true) (hoc : l[n1]? = some oc) (hog : oc.guard = none) (hop : oc.op = .assign (.tmp s)) (hod : oc.dst = some d) (hsa : ds[ka]? = some (some s))
  (hm : P.follows .mixedOrders = true) (hds : ds = (l.take n1).map (·.dst)) (hD : Distinct ds) (hsz : ∀ d, some d ∈ ds → d < a0.tmps.size) (hdep : depB 0 l = true)
  (h0 : I w0.drew) (hR : R w0.drew) (hsteps : zhu_ P l.toArray Q a0 ds I R B D G es kb ka 0 (l.take n1))
  (hend : ∀ (vs : List Value) w' u, vs.length = ds.length → (∀ i v, vs[i]? = some v → G i v) → I w' → vs[ka]? = some u → D u w' → Q .normal { a0 with tmps := (q0_ a0.tmps ds vs).setIfInBounds d u } w') : (Code.region id l.toArray true).wp P Q a0 w0 := by
 have hkal : ka < l.length := by omega
 have hlt : ∀ i, i < n1 → (l.take n1)[i]? = l[i]? := fun i hi => by rw [List.getElem?_take, if_pos hi]
 refine ziA_ (J := fun m W => I W ∧ (∀ j v, m j = some v → G j v) ∧ (m ka = none → R W) ∧ (m ka = none → ∀ u, m kb = some u → B u W) ∧ (m kb = none → m ka = none) ∧ (∀ u, m ka = some u → D u W) ∧ zhv_ l m ∧ (∀ j, n1 ≤ j → m j = none)) (ds := ds) n1 f so_ hm (by simpa using hds) hD hsz (fun i o h => ziw_ hdep i o h) ht ?_ ?_ ?_
 · exact ⟨h0, (fun j v h => by cases h), fun _ => hR, (fun _ u h => by cases h), fun _ => rfl, (fun u h => by cases h), (fun j o _ h => absurd rfl h), fun _ _ => rfl⟩
 · intro i o hi ho a w m _ hout hJ hmi hdp hval K hK
   obtain ⟨j1, j2, j3, j4, j5, j6, j8, j9⟩ := hJ
   have hol : l[i]? = some o := by simpa using ho
   have hs := zkk_ (l.take n1) 0 i o hsteps (by rw [hlt i hi]; exact hol)
   rw [Nat.zero_add] at hs
   have hdeps : zfQ_ ds G a o := fun e he hb => by
    obtain ⟨v, hv⟩ := hdp e he hb
    exact ⟨v, j2 _ _ hv, fun d hd => hval _ _ _ hv hd⟩
   have hup : ∀ (v : Value) (j : Nat), j ≠ i → updV m i v j = m j := fun v j hj => by unfold updV; rw [if_neg hj]
   have hself : ∀ v : Value, updV m i v i = some v := fun v => by unfold updV; rw [if_pos rfl]
   have hG' : ∀ v, G i v → ∀ j u, updV m i v j = some u → G j u := fun v hg j u hj => by
    unfold updV at hj
    split at hj
    · rename_i e; injection hj with hj; rw [e, ← hj]; exact hg
    · exact j2 _ _ hj
   have hCl : ∀ v, zhv_ l (updV m i v) := fun v j oj hoj hj e he hb => by
    by_cases hji : j = i
    · subst hji
      rw [hol] at hoj
      injection hoj with hoj
      subst hoj
      obtain ⟨u, hu⟩ := hdp e he hb
      by_cases hei : e.on = j
      · rw [hei, hself]; simp
      · rw [hup v _ hei, hu]; simp
    · rw [hup v j hji] at hj
      have := j8 j oj hoj hj e he hb
      by_cases hei : e.on = i
      · rw [hei, hself]; simp
      · rw [hup v _ hei]; exact this
   have hN : ∀ v, ∀ j, n1 ≤ j → updV m i v j = none := fun v j hj => by rw [hup v j om_]; exact j9 j hj
   by_cases hib : i = kb
   · subst hib
     rw [if_pos rfl] at hs
     have hma := j5 hmi
     refine hs a w hout j1 (j3 hma) hdeps K (fun v w' hI hR' hB => hK v w' ⟨hI, hG' v (hGb v), fun _ => hR', fun _ u hu => ?_, fun h => ?_, fun u hu => ?_, hCl v, hN v⟩ trivial)
     · rw [hself] at hu; injection hu with hu; rw [← hu]; exact hB
     · rw [hself] at h; cases h
     · rw [hup v ka (fun e => hk1 e.symm), hma] at hu; cases hu
   · rw [if_neg hib] at hs
     by_cases hia : i = ka
     · subst hia
       rw [if_pos rfl] at hs
       obtain ⟨e, he, heo, heb⟩ := zkl_ hka hol
       obtain ⟨u, hu⟩ := hdp e he heb
       rw [heo] at hu
       refine hs a w hout j1 (j3 hmi) hdeps ⟨u, j4 hmi u hu, fun d hd => hval _ _ _ hu hd⟩ K (fun v w' hI hD' => hK v w' ⟨hI, hG' v (hGa v), fun h => ?_, fun h => ?_, fun h => ?_, fun u' hu' => ?_, hCl v, hN v⟩ trivial)
       · rw [hself] at h; cases h
       · rw [hself] at h; cases h
       · rw [hup v kb hk1, hu] at h; cases h
       · rw [hself] at hu'; injection hu' with hu'; rw [← hu']; exact hD'
     · rw [if_neg hia] at hs
       have hE : es.getD i false = true → R w := fun he => by
        refine j3 ?_
        cases hma : m ka with
        | none => rfl
        | some u =>
          exfalso
          obtain ⟨oa, hoa⟩ : ∃ oa, l[ka]? = some oa := ⟨_, List.getElem?_eq_getElem hkal⟩
          obtain ⟨e, he1, he2, he3⟩ := zkl_ hka hoa
          have hkb := j8 ka oa hoa (by rw [hma]; simp) e he1 he3
          rw [he2] at hkb
          exact zkn_ j8 (kb + 1) [kb] (fun x hx => by obtain rfl : x = kb := (by simpa using hx); exact hkb) i (zqu_ hes he) hmi
       refine hs a w hout j1 hE hdeps K (fun v hg => hK v w ⟨j1, hG' v hg, fun h => ?_, fun h u hu => ?_, fun h => ?_, fun u hu => ?_, hCl v, hN v⟩ trivial)
       · rw [hup v ka (fun e => hia e.symm)] at h; exact j3 h
       · rw [hup v ka (fun e => hia e.symm)] at h; rw [hup v kb (fun e => hib e.symm)] at hu; exact j4 h u hu
       · rw [hup v kb (fun e => hib e.symm)] at h; rw [hup v ka (fun e => hia e.symm)]; exact j5 h
       · rw [hup v ka (fun e => hia e.symm)] at hu; exact j6 u hu
 · intro vs w' hl hJ _
   obtain ⟨j1, j2, j3, j4, j5, j6, _, _⟩ := hJ
   have hln : vs.length = n1 := by rw [hl, hds, List.length_map, List.length_take]; omega
   have hva : vs[ka]? = some (vs[ka]'om_) := List.getElem?_eq_getElem om_
   have hsb : (q0_ a0.tmps ds vs)[s]? = some (vs[ka]'om_) := zfl_ ds vs a0.tmps ka s _ hD hsa hva (hsz s (List.mem_of_getElem? hsa))
   have hsz2 : l.toArray.size - n1 = 1 := by simp; omega
   rw [hsz2]
   refine zmw_ (o := oc) (by simpa using hoc) hog (fun K hK => zqv_ w' (.tmp s) (vs[ka]'om_) hop (by simp [Act.eval, hsb]) (hK _ _ ?_))
   have := hend vs w' _ hl j2 j1 hva (j6 _ hva)
   rw [hod]
   exact this
end
theorem zqw_ (w : World) {o : Oper} {a : Act} {K : Act → World → Prop} {Q : Exit → Act → World → Prop} (s : Operand) (T : TypeId) (X : Value)
  (ho : o.op = .buildSlice T 1 #[(0, s)]) (hx : a.eval s = X) {v' : Value} {w' : World}
  (hr : (Instr.buildSlice T 1 #[(0, X)]).run Tryz.prog w = .ok v' w') (h : K (a.put o.dst v') w') : o.wp Tryz.prog a w K Q := by
 unfold Oper.wp execOp
 simp only [ho, Sem.run_bind, Sem.run_pure, Result.andThen_ok, List.map_toArray, List.map_cons, List.map_nil, hx, hr]
 exact h
def OneB (X : Value) (E : TypeId) (u : Value) (W : World) : Prop := ∃ b, u = .slice (some ⟨b, 0, none⟩) 1 1 ∧ W.heap[b]? = some (.cells #[X] E (0, 0))
section
variable {ops : Array Oper} {Q : Exit → Act → World → Prop} {a0 : Act} {ds : List (Option Nat)} {I R : World → Prop} {G : Nat → Value → Prop} {af : Array Edge} {pos : String} {d ty : Nat}
theorem zhx_ {a : Act} {s : Nat} {v : Value} (h : a.tmps[s]? = some v) : a.eval (.tmp s) = v := by simp [Act.eval, h]
theorem zkp_ {s j T E : Nat} {X : Value} (hrun : ∀ w : World, (Instr.buildSlice T 1 #[(0, X)]).run Tryz.prog w = .ok (.slice (some ⟨w.heap.size, 0, none⟩) 1 1) (w.alloc (.cells #[X] E)))
  (hI : ∀ w o, I w → I (w.alloc o)) (hR : ∀ w o, R w → R (w.alloc o)) (hd : (⟨j, .data⟩ : Edge) ∈ af.toList) (hj : ds[j]? = some (some s)) (hG : ∀ v, G j v → v = X) :
  zhs_ Tryz.prog ops Q a0 ds I R (OneB X E) G { dst := some d, op := .buildSlice T 1 #[(0, .tmp s)], type := ty, pos := pos, after := af, guard := none } := by
 intro a w hout hIw hRw hdep K hK
 rw [if_pos (by simp [Region.wanted])]
 obtain ⟨v, hv, he⟩ := hdep ⟨j, .data⟩ hd rfl
 have hv2 := hG v hv
 subst hv2
 exact zqw_ w (.tmp s) T v rfl (zhx_ (he s hj)) (hrun w) (hK _ _ (hI _ _ hIw) (hR _ _ hRw) ⟨w.heap.size, rfl, y8_ w _⟩)
theorem zkq_ {s1 s2 j1 kb E t t' : Nat} {V0 X : Value} {D : Value → World → Prop} (hjb : ds[kb]? = some (some s2))
  (hrun : ∀ W b, I W → R W → W.heap[b]? = some (.cells #[X] E (0, 0)) → ∃ v' w', (Builtin.append_ #[t, t'] ty #[V0, .slice (some ⟨b, 0, none⟩) 1 1]).run Tryz.prog W = .ok v' w' ∧ I w' ∧ D v' w')
  (hd1 : (⟨j1, .data⟩ : Edge) ∈ af.toList) (hj1 : ds[j1]? = some (some s1)) (hG1 : ∀ v, G j1 v → v = V0) :
  zht_ Tryz.prog ops Q a0 ds I R (OneB X E) D G kb { dst := some d, op := .call { callee := .builtin .append, args := #[.tmp s1, .tmp s2], argTypes := #[t, t'] }, type := ty, pos := pos, after := af, guard := none } := by
 intro a w hout hIw hRw hdep hu K hK
 rw [if_pos (by simp [Region.wanted])]
 obtain ⟨v, hv, he⟩ := hdep ⟨j1, .data⟩ hd1 rfl
 have hv2 := hG1 v hv
 subst hv2
 obtain ⟨u, ⟨b, rfl, hb⟩, hub⟩ := hu
 obtain ⟨v', w', hr, hI', hD'⟩ := hrun w b hIw hRw hb
 exact zbA_ w (.tmp s1) (.tmp s2) t t' rfl _ _ (zhx_ (he s1 hj1)) (zhx_ (hub s2 hjb)) hr (hK _ _ hI' hD')
end
theorem zkr_ (x : Int) (w : World) : (Instr.buildSlice 166 1 #[(0, .int .u32 x)]).run Tryz.prog w = .ok (.slice (some ⟨w.heap.size, 0, none⟩) 1 1) (w.alloc (.cells #[.int .u32 x] 121)) := by
 go_simp
end Go.Proofs.YtembdkodajichaaGreatDoor
