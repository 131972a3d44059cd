/- The program's bech: words written. -/
import Derived.Test.YtembdkodajichaaGreatDoorBechC
import Derived.Test.YtembdkodajichaaGreatDoorBldK
set_option maxRecDepth 100000
set_option maxHeartbeats 4000000
set_option linter.unusedSimpArgs false
set_option linter.unusedVariables false
namespace Go.Proofs.YtembdkodajichaaGreatDoor
open Go.RowKit
theorem index_strK (w : World) (kd : IntKind) (l : List UInt8) (i : Nat) (hi : i < l.length) : (Instr.index 9 (.string (bs l)) (.int kd (i : Int))).run Tryz.prog w = .ok (.int .u8 ((l.getD i 0).toNat : Nat)) w := by
 have h2 : (0 : Int) ≤ (i : Int) ∧ (i : Int) < l.length := by omega
 have h3 : l.getD i 0 = l[i] := by rw [List.getD_eq_getElem?_getD, List.getElem?_eq_getElem hi]; rfl
 simp [Instr.index, asIntOf, h2, hi, h3]
theorem bAdd6 (B s : Nat) (w : World) (hB : w.heap[B]? = some (.cells #[.int .u32 (s : Int)] 122 (0, 0))) (hs : s < 2 ^ 30) :
  Calls Tryz.prog 84 #[.pointer (some ⟨B, 0, none⟩), .slice (some ⟨w.heap.size, 0, none⟩) 6 6] (w.alloc (.cells #[.int .u8 0, .int .u8 0, .int .u8 0, .int .u8 0, .int .u8 0, .int .u8 0] 5)) fun e w' => e = .returned (.tuple #[]) ∧ w'.heap[B]? = some (.cells #[.int .u32 (poly s zeros6 : Nat)] 122 (0, 0)) ∧ GL [B] w w' := by
 refine (bAdd B s zeros6 (.slice (some ⟨w.heap.size, 0, none⟩) 6 6) _ (blk_alloc hB _) hs (by simp [zeros6]) ⟨w.heap.size, 0, 6, .inr ⟨by simp [zeros6], by simp [zeros6]⟩, by simp [zeros6], fun _ => ⟨by simp, fun j hj => ?_⟩⟩ (fun G o c e _ => ?_)).mono ?_
 · rcases (by simp [zeros6] at hj; omega : j = 0 ∨ j = 1 ∨ j = 2 ∨ j = 3 ∨ j = 4 ∨ j = 5) with rfl | rfl | rfl | rfl | rfl | rfl <;> exact blk_cell (blk_new w _) _
 · have := blk_lt hB
   injection e with e1
   injection e1 with e1
   injection e1 with e1
   omega
 · rintro e w' ⟨rfl, h1, h2⟩
   exact ⟨rfl, h1, gl_step h2 (gl_alloc (gl_refl _ _) _) si_⟩
def encR (h ws : List UInt8) : List UInt8 := if encE h ws = 0 then encT h ws else []
def sixL (c : Nat) : List UInt8 := (sixW c).map (fun x : UInt8 => letter x.toNat)
theorem and31u (C d : Nat) (D : Int) (hD : D = (d : Int)) (h : C < 2 ^ 30) : bits .and .u32 ((C : Int) / D) 31 = ((C / d % 32 : Nat) : Int) := by
 subst hD
 show IntKind.u32.wrap (((BitVec.ofInt 32 ((C : Int) / (d : Int)) &&& BitVec.ofInt 32 31).toNat : Nat) : Int) = _
 have h2 : (BitVec.ofInt 32 31).toNat = 2 ^ 5 - 1 := by decide
 have h3 : C / d ≤ C := Nat.div_le_self _ _
 rw [show ((C : Int) / (d : Int)) = ((C / d : Nat) : Int) from rfl, BitVec.toNat_and, h2, BitVec.ofInt_natCast, BitVec.toNat_ofNat, Nat.mod_eq_of_lt om_, Nat.and_two_pow_sub_one_eq_mod, u32_mod]
 omega
theorem sixL_eq (c : Nat) : sixL c = [letter (c / 33554432 % 32), letter (c / 1048576 % 32), letter (c / 32768 % 32), letter (c / 1024 % 32), letter (c / 32 % 32), letter (c / 1 % 32)] := by
 unfold sixL sixW
 simp only [List.map_cons, List.map_nil, ofNat32, Nat.reducePow]
theorem sixL_len (c : Nat) : (sixL c).length = 6 := by simp [sixL, sixW]
theorem encT_parts (h ws : List UInt8) : encT h ws = (h ++ [49]) ++ ws.map (fun x : UInt8 => letter x.toNat) ++ sixL (fitC h ws) := by simp [encT, sixL]
theorem enc_bad {h ws : List UInt8} (hk : hrpOk h = false) : encR h ws = [] ∧ encE h ws = 60 := by
 have h1 : encE h ws = 60 := by unfold encE; rw [if_pos hk]
 exact ⟨by unfold encR; rw [h1]; rfl, h1⟩
theorem enc_word {h ws : List UInt8} (hk : hrpOk h = true) (hw : ws.any (fun x => decide (31 < x.toNat)) = true) : encR h ws = [] ∧ encE h ws = 60 := by
 have h1 : encE h ws = 60 := by unfold encE; rw [if_neg (by rw [hk]; simp), if_pos hw]
 exact ⟨by unfold encR; rw [h1]; rfl, h1⟩
theorem enc_long {h ws : List UInt8} (hk : hrpOk h = true) (hw : ws.any (fun x => decide (31 < x.toNat)) = false) (hl : 32768 < h.length + ws.length + 7) : encR h ws = [] ∧ encE h ws = 3 := by
 have h1 : encE h ws = 3 := by unfold encE; rw [if_neg (by rw [hk]; simp), if_neg (by rw [hw]; simp), if_pos hl]
 exact ⟨by unfold encR; rw [h1]; rfl, h1⟩
theorem enc_good {h ws : List UInt8} (hk : hrpOk h = true) (hw : ws.any (fun x => decide (31 < x.toNat)) = false) (hl : ¬ 32768 < h.length + ws.length + 7) : encR h ws = encT h ws ∧ encE h ws = 0 := by
 have h1 : encE h ws = 0 := by unfold encE; rw [if_neg (by rw [hk]; simp), if_neg (by rw [hw]; simp), if_neg hl]
 exact ⟨by unfold encR; rw [h1]; rfl, h1⟩
theorem bEncode (h ws : List UInt8) (bv : Value) (w : World) (hin : InAt bv ws w) (hhl : h.length ≤ 1000000000) (hwl : ws.length ≤ 1000000000) :
  Calls Tryz.prog 44 #[.string (bs h), bv] w fun e w' => e = .returned (.tuple #[.string (bs (encR h ws)), .int .i64 (encE h ws)]) ∧ Below w.heap.size w w' := by
 obtain ⟨ad, cc, rfl, hby⟩ : ∃ ad cc, bv = .slice ad ws.length cc ∧ (ws ≠ [] → ∃ G o, ad = some ⟨G, o, none⟩ ∧ BytesAt G o ws w) := by
  obtain ⟨G, o, c, h1, h2, h3⟩ := hin
  rcases h1 with ⟨h1, ad, cc, h⟩ | ⟨h1, h⟩
  · exact ⟨ad, cc, by rw [h, ← h1], fun h => absurd (List.eq_nil_of_length_eq_zero h1.symm) h⟩
  · exact ⟨some ⟨G, o, none⟩, c, by simpa using h, fun hl => ⟨G, o, rfl, h3 hl⟩⟩
 have HBY := Lib.hid hby
 have HIN := Lib.hid hin
 clear hin hby
 go_enter Tryz.func44, Tryz.ntmps44
 go_wp2_with fail
 refine (bBads h _).mono ?_
 rintro e w1 ⟨I, rfl, hI, hb1⟩
 have HB1 := Lib.hid hb1
 clear hb1
 by_cases hok : hrpOk h = true
 rotate_left
 · have hok : hrpOk h = false := by simpa using hok
   obtain ⟨hr, he⟩ := enc_bad (ws := ws) hok
   have HR := Lib.hid hr
   have HE := Lib.hid he
   clear hr he
   have hdone : Hid (Ending.returned (.tuple #[.string (bs []), .int .i64 60]) = Ending.returned (.tuple #[.string (bs (encR h ws)), .int .i64 (encE h ws)])) := Lib.hid (by rw [HR.out, HE.out])
   by_cases h0 : h = []
   · subst h0
     go_wp2_with fail
     exact bodyPost_ret (v := .tuple #[.string (bs []), .int .i64 60]) (by simp [results, Tryz.results44, go_sem]) rfl ⟨hdone.out, HB1.out⟩
   · have e1 : (h == []) = false := by simpa using h0
     by_cases h83 : 83 < h.length
     · have b1 : (83 : Int) < h.length := by omega
       go_wp2_with fail
       exact bodyPost_ret (v := .tuple #[.string (bs []), .int .i64 60]) (by simp [results, Tryz.results44, go_sem]) rfl ⟨hdone.out, HB1.out⟩
     · have b1 : (h.length : Int) ≤ 83 := by omega
       have hpos : 1 ≤ h.length := List.length_pos_iff.2 h0
       have ha : h.all hrpC = false := by
        unfold hrpOk at hok
        rw [decide_eq_true hpos, decide_eq_true (by omega : h.length ≤ 83)] at hok
        simpa using hok
       have hi := hI.out
       rw [ha] at hi
       have hi2 : 0 ≤ I := by simpa using hi
       clear hi
       go_wp2_with fail
       exact bodyPost_ret (v := .tuple #[.string (bs []), .int .i64 60]) (by simp [results, Tryz.results44, go_sem]) rfl ⟨hdone.out, HB1.out⟩
 · have hpos : 1 ≤ h.length ∧ h.length ≤ 83 ∧ h.all hrpC = true := by
    unfold hrpOk at hok
    simpa [Bool.and_eq_true, decide_eq_true_eq, and_assoc] using hok
   obtain ⟨hp1, hp2, hp3⟩ := hpos
   have h0 : h ≠ [] := List.length_pos_iff.1 hp1
   have e1 : (h == []) = false := by simpa using h0
   have b1 : (h.length : Int) ≤ 83 := by omega
   have hi := hI.out
   rw [hp3] at hi
   have hi2 : I < 0 := by simpa using hi
   clear hi hp3
   have HOK := Lib.hid hok
   clear hok
   go_wp2_with fail
   go_loopw [8, 29] (fun _ iv wr => ∃ k : Nat, k ≤ ws.length ∧ iv = .int .i64 k ∧ Hid (∀ x ∈ ws.take k, x.toNat ≤ 31) ∧ wr = w1) (fun _ iv _ => ws.length - (intOf iv).toNat)
   case atStart => exact ⟨0, by omega, rfl, Lib.hid si_, rfl⟩
   case round =>
    obtain ⟨k, hk, rfl, hxr, rfl⟩ := hrel
    by_cases hlt : k < ws.length
    · obtain ⟨G, o, rfl, hbw⟩ := HBY.out (fun e => by subst e; simp at hlt)
      have ck := (bytesAt_gl hbw (gl_below HB1.out (gl_refl [] _)) si_).2 k hlt
      have hk1 : (k : Int) < ws.length := by omega
      have hmem : ws.getD k 0 ∈ ws := by rw [List.getD_eq_getElem?_getD, List.getElem?_eq_getElem hlt]; exact List.getElem_mem hlt
      have HXK : Hid (ws.take (k + 1) = ws.take k ++ [ws.getD k 0]) := Lib.hid (by rw [List.take_add_one, List.getElem?_eq_getElem hlt, Option.toList_some, List.getD_eq_getElem?_getD, List.getElem?_eq_getElem hlt]; rfl)
      obtain ⟨x, hxd⟩ : ∃ x, x = (ws.getD k 0).toNat := ⟨_, rfl⟩
      rw [← hxd] at ck
      have HXD := Lib.hid hxd
      clear hxd
      by_cases hx : x ≤ 31
      · have hx1 : (x : Int) ≤ 31 := by omega
        have HX := Lib.hid hx
        clear hbw hmem hx
        go_wp2_with fail
        go_roundw
        case rel =>
         refine ⟨k + 1, by omega, by go_num, Lib.hid (fun z hz => ?_), by first | rfl | trivial⟩
         rw [HXK.out] at hz
         rcases List.mem_append.1 hz with h | h
         · exact hxr.out z h
         · rw [List.mem_singleton.1 h, ← HXD.out]; exact HX.out
        case measure => simp [intOf]; omega
      · have hx1 : (31 : Int) < x := by omega
        obtain ⟨hr, he⟩ := enc_word (ws := ws) HOK.out (List.any_eq_true.2 ⟨_, hmem, by rw [decide_eq_true_eq, ← HXD.out]; omega⟩)
        have HR := Lib.hid hr
        have HE := Lib.hid he
        have hdone : Hid (Ending.returned (.tuple #[.string (bs []), .int .i64 60]) = Ending.returned (.tuple #[.string (bs (encR h ws)), .int .i64 (encE h ws)])) := Lib.hid (by rw [HR.out, HE.out])
        clear hbw hmem hx hr he
        go_wp2_with fail
        exact bodyPost_ret (v := .tuple #[.string (bs []), .int .i64 60]) (by simp [results, Tryz.results44, go_sem]) rfl ⟨hdone.out, HB1.out⟩
    · obtain rfl : k = ws.length := by omega
      have hall := hxr.out
      rw [List.take_length] at hall
      have HALL := Lib.hid hall
      have HANY : Hid (ws.any (fun x => decide (31 < x.toNat)) = false) := Lib.hid (by
       rw [Bool.eq_false_iff]
       intro h2
       simp only [List.any_eq_true, decide_eq_true_eq] at h2
       obtain ⟨x, hx, h3⟩ := h2
       have := hall x hx
       omega)
      clear hall hxr hk hlt
      by_cases hlong : 32768 < h.length + ws.length + 7
      · have hl1 : (32768 : Int) < h.length + ws.length + 7 := by omega
        obtain ⟨hr, he⟩ := enc_long HOK.out HANY.out hlong
        have HR := Lib.hid hr
        have HE := Lib.hid he
        have hdone : Hid (Ending.returned (.tuple #[.string (bs []), .int .i64 3]) = Ending.returned (.tuple #[.string (bs (encR h ws)), .int .i64 (encE h ws)])) := Lib.hid (by rw [HR.out, HE.out])
        clear hr he hlong
        go_wp2_with fail
        exact bodyPost_ret (v := .tuple #[.string (bs []), .int .i64 3]) (by simp [results, Tryz.results44, go_sem]) rfl ⟨hdone.out, HB1.out⟩
      · have hl1 : decide ((32768 : Int) < (h.length : Int) + (ws.length : Int) + 7) = false := by rw [decide_eq_false_iff_not]; omega
        have hl2 : ¬ (32768 : Int) < (h.length : Int) + (ws.length : Int) + 7 := by omega
        obtain ⟨hr, he⟩ := enc_good HOK.out HANY.out hlong
        have HR := Lib.hid hr
        have HE := Lib.hid he
        clear hr he hlong
        go_wp2_with fail
        have hSw : w.heap.size ≤ wr.heap.size := HB1.out.size
        refine (bHead h om_ _).mono ?_
        rintro e w2 ⟨rfl, hs2, hg2⟩
        have HS2 := Lib.hid hs2
        have HG2 : Hid (GL [] w w2) := Lib.hid (gl_step hg2 (gl_below HB1.out (gl_refl [] _)) si_)
        have HI2 : Hid (InAt (.slice ad ws.length cc) ws w2) := Lib.hid (inAt_gl HIN.out HG2.out)
        have HNE : Hid (∀ G o c, Value.slice ad ws.length cc = .slice (some ⟨G, o, none⟩) ws.length c → ws ≠ [] → G ≠ wr.heap.size) := Lib.hid (fun G o c e hne => by
         obtain ⟨G', o', ha, hb⟩ := HBY.out hne
         have hlt := hb.1
         injection e with e1
         rw [ha] at e1
         injection e1 with e1
         injection e1 with e1
         omega)
        clear hs2 hg2
        generalize wr.heap.size = S at *
        go_wp2_with fail
        refine (bAdd S (headS h) ws _ w2 HS2.out (headS_lt h) om_ HI2.out HNE.out).mono ?_
        rintro e w3 ⟨rfl, hs3, hg3⟩
        have HS3 := Lib.hid hs3
        have HG3 : Hid (GL [] w w3) := Lib.hid (gl_step hg3 HG2.out so_)
        clear hs3 hg3 HS2 HG2 HI2 HNE
        go_wp2_with fail
        refine (bAdd6 S _ w3 HS3.out (poly_lt _ _ (headS_lt h))).mono ?_
        rintro e w4 ⟨rfl, hs4, hg4⟩
        rw [← poly_append] at hs4
        have HP : Hid (fitC h ws = poly (headS h) (ws ++ zeros6) ^^^ 1) := Lib.hid rfl
        have hPl := poly_lt (headS h) (ws ++ zeros6) (headS_lt h)
        generalize poly (headS h) (ws ++ zeros6) = P at *
        have HS4 := Lib.hid hs4
        have hS4 := blk_lt hs4
        have HG4 : Hid (GL [] w w4) := Lib.hid (gl_step hg4 HG3.out so_)
        clear hs4 hg4 HS3 HG3
        go_wp2_with fail
        refine (tWriteStringK _ _ [] (h ++ [49]) _ (isB_new w4) so_ si_).mono ?_
        rintro e w5 ⟨rfl, hI5, hb5, _⟩
        rw [List.nil_append] at hI5
        have HI5 := Lib.hid hI5
        have HB5 : Hid (Below w4.heap.size w4 w5) := Lib.hid (((Below.refl _ w4).alloc (Nat.le_refl _) _).trans hb5)
        clear hI5 hb5
        go_wp2_with fail
        go_loopw [12, 56] (fun _ iv wr => ∃ k : Nat, k ≤ ws.length ∧ iv = .int .i64 k ∧ Hid (IsB w4.heap.size w4.heap.size ((h ++ [49]) ++ (ws.take k).map (fun x : UInt8 => letter x.toNat)) wr) ∧ Hid (Below w4.heap.size w4 wr)) (fun _ iv _ => ws.length - (intOf iv).toNat)
        case atStart => exact ⟨0, by omega, rfl, Lib.hid (by rw [List.take_zero, List.map_nil, List.append_nil]; exact HI5.out), HB5⟩
        case round =>
         obtain ⟨k, hk, rfl, hir, hbr⟩ := hrel
         by_cases hlt : k < ws.length
         · obtain ⟨G, o, rfl, hbw⟩ := HBY.out (fun e => by subst e; simp at hlt)
           have ck := (bytesAt_gl hbw (gl_below hbr.out HG4.out) si_).2 k hlt
           have hk1 : (k : Int) < ws.length := by omega
           have hmem : ws.getD k 0 ∈ ws := by rw [List.getD_eq_getElem?_getD, List.getElem?_eq_getElem hlt]; exact List.getElem_mem hlt
           have hx31 := HALL.out _ hmem
           have HXK := Lib.hid (map_take_snoc (f := fun x : UInt8 => letter x.toNat) ws k hlt)
           obtain ⟨x, hxd⟩ : ∃ x, x = (ws.getD k 0).toNat := ⟨_, rfl⟩
           rw [← hxd] at ck hx31
           have HXM : Hid ((ws.take (k + 1)).map (fun x : UInt8 => letter x.toNat) = (ws.take k).map (fun x : UInt8 => letter x.toNat) ++ [letter x]) := Lib.hid (by rw [HXK.out, hxd])
           have hix : (Instr.index 9 (.string (bs [113, 112, 122, 114, 121, 57, 120, 56, 103, 102, 50, 116, 118, 100, 119, 48, 115, 51, 106, 110, 53, 52, 107, 104, 99, 101, 54, 109, 117, 97, 55, 108])) (.int .u8 (x : Int))).run Tryz.prog wr = .ok (.int .u8 ((letter x).toNat : Nat)) wr := index_strK wr .u8 letB x (by show x < 32; omega)
           have hsz := hbr.out.size
           have hlen : ((h ++ [49]) ++ (ws.take k).map (fun x : UInt8 => letter x.toNat)).length + 1 ≤ 140737488355328 := by simp; omega
           generalize letter x = c at *
           have HIR := Lib.hid hir.out
           clear hbw hmem hxd HXK hir
           go_wp2_with fail
           refine (tWriteByteK _ _ _ c _ rfl wr HIR.out hlen hsz).mono ?_
           rintro e w6 ⟨rfl, hI6, hb6, _⟩
           rw [List.append_assoc, ← HXM.out] at hI6
           have HI6 := Lib.hid hI6
           have HB6 := Lib.hid (hbr.out.trans hb6)
           clear hI6 hb6
           go_wp2_with fail
           go_roundw
           case rel => exact ⟨k + 1, by omega, by go_num, HI6, HB6⟩
           case measure => simp [intOf]; omega
         · obtain rfl : k = ws.length := by omega
           have hir2 := hir.out
           rw [List.take_length] at hir2
           have HIR := Lib.hid hir2
           have hxo : bits .xor .u32 (P : Int) 1 = ((fitC h ws : Nat) : Int) := by rw [HP.out]; exact xor_u32 P 1 om_ om_
           have hCl : fitC h ws < 2 ^ 30 := fitC_lt h ws
           have HET := Lib.hid (encT_parts h ws)
           have hbase : ((h ++ [49]) ++ ws.map (fun x : UInt8 => letter x.toNat)).length ≤ 1000000000000 := by simp; omega
           generalize fitC h ws = C at *
           generalize (h ++ [49]) ++ ws.map (fun x : UInt8 => letter x.toNat) = base at *
           clear hir hir2 hk hlt HP
           go_wp2_with fail
           go_loopw [13] (fun iv wr => ∃ j : Nat, ∃ v : Int, j ≤ 6 ∧ iv = .int .i64 v ∧ v + 5 * j = 25 ∧ Hid (IsB w4.heap.size w4.heap.size (base ++ (sixL C).take j) wr) ∧ Hid (Below w4.heap.size w4 wr)) (fun iv _ => (intOf iv + 5).toNat)
           case atStart => exact ⟨0, 25, by omega, rfl, by omega, Lib.hid (by rw [List.take_zero, List.append_nil]; exact HIR.out), hbr⟩
           case round =>
            clear HIR hbr
            obtain ⟨j, v, hj, rfl, hv, hir, hbr⟩ := hrel
            have hsz := hbr.out.size
            have hS := blk_below HS4.out hbr.out hS4
            have f1 := blk_cell hS
            have HIR := Lib.hid hir.out
            have hlen : (base ++ (sixL C).take j).length + 1 ≤ 140737488355328 := by
             rw [List.length_append, List.length_take]
             omega
            clear hir hS
            rcases (by omega : j = 0 ∨ j = 1 ∨ j = 2 ∨ j = 3 ∨ j = 4 ∨ j = 5 ∨ j = 6) with rfl | rfl | rfl | rfl | rfl | rfl | rfl
            · obtain rfl : v = 25 := by omega
              have hand : bits .and .u32 ((C : Int) / 33554432) 31 = ((C / 33554432 % 32 : Nat) : Int) := by exact and31u C 33554432 33554432 si_ hCl
              have HT : Hid ((sixL C).take 1 = (sixL C).take 0 ++ [letter (C / 33554432 % 32)]) := Lib.hid (by rw [sixL_eq]; rfl)
              have hyl : C / 33554432 % 32 < 32 := Nat.mod_lt _ om_
              generalize C / 33554432 % 32 = y at *
              have hix : (Instr.index 9 (.string (bs [113, 112, 122, 114, 121, 57, 120, 56, 103, 102, 50, 116, 118, 100, 119, 48, 115, 51, 106, 110, 53, 52, 107, 104, 99, 101, 54, 109, 117, 97, 55, 108])) (.int .u32 (y : Int))).run Tryz.prog wr = .ok (.int .u8 ((letter y).toNat : Nat)) wr := index_strK wr .u32 letB y hyl
              generalize letter y = c at *
              go_wp2_with fail
              refine (tWriteByteK _ _ _ c _ rfl wr HIR.out hlen hsz).mono ?_
              rintro e w6 ⟨rfl, hI6, hb6, _⟩
              rw [List.append_assoc, ← HT.out] at hI6
              have HI6 := Lib.hid hI6
              have HB6 := Lib.hid (hbr.out.trans hb6)
              clear hI6 hb6
              go_wp2_with fail
              go_roundw
              case rel => exact ⟨1, 20, by omega, by first | rfl | (simp; done), by omega, HI6, HB6⟩
              case measure => first | (simp [intOf]; done) | (simp [intOf]; omega)
            · obtain rfl : v = 20 := by omega
              have hand : bits .and .u32 ((C : Int) / 1048576) 31 = ((C / 1048576 % 32 : Nat) : Int) := by exact and31u C 1048576 1048576 si_ hCl
              have HT : Hid ((sixL C).take 2 = (sixL C).take 1 ++ [letter (C / 1048576 % 32)]) := Lib.hid (by rw [sixL_eq]; rfl)
              have hyl : C / 1048576 % 32 < 32 := Nat.mod_lt _ om_
              generalize C / 1048576 % 32 = y at *
              have hix : (Instr.index 9 (.string (bs [113, 112, 122, 114, 121, 57, 120, 56, 103, 102, 50, 116, 118, 100, 119, 48, 115, 51, 106, 110, 53, 52, 107, 104, 99, 101, 54, 109, 117, 97, 55, 108])) (.int .u32 (y : Int))).run Tryz.prog wr = .ok (.int .u8 ((letter y).toNat : Nat)) wr := index_strK wr .u32 letB y hyl
              generalize letter y = c at *
              go_wp2_with fail
              refine (tWriteByteK _ _ _ c _ rfl wr HIR.out hlen hsz).mono ?_
              rintro e w6 ⟨rfl, hI6, hb6, _⟩
              rw [List.append_assoc, ← HT.out] at hI6
              have HI6 := Lib.hid hI6
              have HB6 := Lib.hid (hbr.out.trans hb6)
              clear hI6 hb6
              go_wp2_with fail
              go_roundw
              case rel => exact ⟨2, 15, by omega, by first | rfl | (simp; done), by omega, HI6, HB6⟩
              case measure => first | (simp [intOf]; done) | (simp [intOf]; omega)
            · obtain rfl : v = 15 := by omega
              have hand : bits .and .u32 ((C : Int) / 32768) 31 = ((C / 32768 % 32 : Nat) : Int) := by exact and31u C 32768 32768 si_ hCl
              have HT : Hid ((sixL C).take 3 = (sixL C).take 2 ++ [letter (C / 32768 % 32)]) := Lib.hid (by rw [sixL_eq]; rfl)
              have hyl : C / 32768 % 32 < 32 := Nat.mod_lt _ om_
              generalize C / 32768 % 32 = y at *
              have hix : (Instr.index 9 (.string (bs [113, 112, 122, 114, 121, 57, 120, 56, 103, 102, 50, 116, 118, 100, 119, 48, 115, 51, 106, 110, 53, 52, 107, 104, 99, 101, 54, 109, 117, 97, 55, 108])) (.int .u32 (y : Int))).run Tryz.prog wr = .ok (.int .u8 ((letter y).toNat : Nat)) wr := index_strK wr .u32 letB y hyl
              generalize letter y = c at *
              go_wp2_with fail
              refine (tWriteByteK _ _ _ c _ rfl wr HIR.out hlen hsz).mono ?_
              rintro e w6 ⟨rfl, hI6, hb6, _⟩
              rw [List.append_assoc, ← HT.out] at hI6
              have HI6 := Lib.hid hI6
              have HB6 := Lib.hid (hbr.out.trans hb6)
              clear hI6 hb6
              go_wp2_with fail
              go_roundw
              case rel => exact ⟨3, 10, by omega, by first | rfl | (simp; done), by omega, HI6, HB6⟩
              case measure => first | (simp [intOf]; done) | (simp [intOf]; omega)
            · obtain rfl : v = 10 := by omega
              have hand : bits .and .u32 ((C : Int) / 1024) 31 = ((C / 1024 % 32 : Nat) : Int) := by exact and31u C 1024 1024 si_ hCl
              have HT : Hid ((sixL C).take 4 = (sixL C).take 3 ++ [letter (C / 1024 % 32)]) := Lib.hid (by rw [sixL_eq]; rfl)
              have hyl : C / 1024 % 32 < 32 := Nat.mod_lt _ om_
              generalize C / 1024 % 32 = y at *
              have hix : (Instr.index 9 (.string (bs [113, 112, 122, 114, 121, 57, 120, 56, 103, 102, 50, 116, 118, 100, 119, 48, 115, 51, 106, 110, 53, 52, 107, 104, 99, 101, 54, 109, 117, 97, 55, 108])) (.int .u32 (y : Int))).run Tryz.prog wr = .ok (.int .u8 ((letter y).toNat : Nat)) wr := index_strK wr .u32 letB y hyl
              generalize letter y = c at *
              go_wp2_with fail
              refine (tWriteByteK _ _ _ c _ rfl wr HIR.out hlen hsz).mono ?_
              rintro e w6 ⟨rfl, hI6, hb6, _⟩
              rw [List.append_assoc, ← HT.out] at hI6
              have HI6 := Lib.hid hI6
              have HB6 := Lib.hid (hbr.out.trans hb6)
              clear hI6 hb6
              go_wp2_with fail
              go_roundw
              case rel => exact ⟨4, 5, by omega, by first | rfl | (simp; done), by omega, HI6, HB6⟩
              case measure => first | (simp [intOf]; done) | (simp [intOf]; omega)
            · obtain rfl : v = 5 := by omega
              have hand : bits .and .u32 ((C : Int) / 32) 31 = ((C / 32 % 32 : Nat) : Int) := by exact and31u C 32 32 si_ hCl
              have HT : Hid ((sixL C).take 5 = (sixL C).take 4 ++ [letter (C / 32 % 32)]) := Lib.hid (by rw [sixL_eq]; rfl)
              have hyl : C / 32 % 32 < 32 := Nat.mod_lt _ om_
              generalize C / 32 % 32 = y at *
              have hix : (Instr.index 9 (.string (bs [113, 112, 122, 114, 121, 57, 120, 56, 103, 102, 50, 116, 118, 100, 119, 48, 115, 51, 106, 110, 53, 52, 107, 104, 99, 101, 54, 109, 117, 97, 55, 108])) (.int .u32 (y : Int))).run Tryz.prog wr = .ok (.int .u8 ((letter y).toNat : Nat)) wr := index_strK wr .u32 letB y hyl
              generalize letter y = c at *
              go_wp2_with fail
              refine (tWriteByteK _ _ _ c _ rfl wr HIR.out hlen hsz).mono ?_
              rintro e w6 ⟨rfl, hI6, hb6, _⟩
              rw [List.append_assoc, ← HT.out] at hI6
              have HI6 := Lib.hid hI6
              have HB6 := Lib.hid (hbr.out.trans hb6)
              clear hI6 hb6
              go_wp2_with fail
              go_roundw
              case rel => exact ⟨5, 0, by omega, by first | rfl | (simp; done), by omega, HI6, HB6⟩
              case measure => first | (simp [intOf]; done) | (simp [intOf]; omega)
            · obtain rfl : v = 0 := by omega
              have hand : bits .and .u32 ((C : Int)) 31 = ((C / 1 % 32 : Nat) : Int) := by have := and31u C 1 1 si_ hCl; rwa [Int.ediv_one] at this
              have HT : Hid ((sixL C).take 6 = (sixL C).take 5 ++ [letter (C / 1 % 32)]) := Lib.hid (by rw [sixL_eq]; rfl)
              have hyl : C / 1 % 32 < 32 := Nat.mod_lt _ om_
              generalize C / 1 % 32 = y at *
              have hix : (Instr.index 9 (.string (bs [113, 112, 122, 114, 121, 57, 120, 56, 103, 102, 50, 116, 118, 100, 119, 48, 115, 51, 106, 110, 53, 52, 107, 104, 99, 101, 54, 109, 117, 97, 55, 108])) (.int .u32 (y : Int))).run Tryz.prog wr = .ok (.int .u8 ((letter y).toNat : Nat)) wr := index_strK wr .u32 letB y hyl
              generalize letter y = c at *
              go_wp2_with fail
              refine (tWriteByteK _ _ _ c _ rfl wr HIR.out hlen hsz).mono ?_
              rintro e w6 ⟨rfl, hI6, hb6, _⟩
              rw [List.append_assoc, ← HT.out] at hI6
              have HI6 := Lib.hid hI6
              have HB6 := Lib.hid (hbr.out.trans hb6)
              clear hI6 hb6
              go_wp2_with fail
              go_roundw
              case rel => exact ⟨6, -5, by omega, by first | rfl | (simp; done), by omega, HI6, HB6⟩
              case measure => first | (simp [intOf]; done) | (simp [intOf]; omega)
            · obtain rfl : v = -5 := by omega
              have HF : Hid (IsB w4.heap.size w4.heap.size (base ++ sixL C) wr) := Lib.hid (by have := HIR.out; rwa [List.take_of_length_le (by rw [sixL_len]; omega)] at this)
              clear HIR
              go_wp2_with fail
              refine (Tryz.Builder_String_any_k _ _ _ _ HF.out om_).mono ?_
              rintro e w7 ⟨rfl, _, hb7, _⟩
              rw [bs_mk]
              have hdone : Hid (Ending.returned (.tuple #[.string (bs (base ++ sixL C)), .int .i64 0]) = Ending.returned (.tuple #[.string (bs (encR h ws)), .int .i64 (encE h ws)])) := Lib.hid (by rw [HR.out, HE.out, HET.out])
              have HB7 : Hid (Below w.heap.size w w7) := Lib.hid (gl_to_below (gl_below (hbr.out.trans hb7) HG4.out))
              clear hb7
              go_wp2_with fail
              exact bodyPost_ret (v := .tuple #[.string (bs (base ++ sixL C)), .int .i64 0]) (by simp [results, Tryz.results44, go_sem]) rfl ⟨hdone.out, HB7.out⟩
end Go.Proofs.YtembdkodajichaaGreatDoor
