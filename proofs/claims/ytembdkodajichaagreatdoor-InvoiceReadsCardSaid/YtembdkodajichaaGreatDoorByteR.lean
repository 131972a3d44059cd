/- Rows of bytes: parts of them. -/
import Derived.Test.YtembdkodajichaaGreatDoorMTerm
import Derived.Lib.FrozenHead2
import Derived.Test.YtembdkodajichaaGreatDoorBechC
set_option maxRecDepth 100000
set_option maxHeartbeats 4000000
set_option linter.unusedSimpArgs false
set_option linter.unusedVariables false
namespace Go.Proofs.YtembdkodajichaaGreatDoor
open Go.RowKit
def zgR_ (b : Nat) (w w' : World) : Prop := ∀ (k T : Nat) (cs : Array Value) (fz : Nat × Nat), w.heap[k]? = some (.cells cs T fz) → T ≠ 5 → k ≠ b → w'.heap[k]? = some (.cells cs T fz)
theorem zou_ {w : World} {base e size n : Nat} {v : Value} {xs : List Value} (h : w.ownsRowF base e size v n xs) : ∃ ad m c, v = .slice ad m c := by
 rcases h.2 with ⟨h, _⟩ | ⟨g, cap, _, _, h, _⟩ <;> exact ⟨_, _, _, h⟩
theorem zjd_ (B b : Nat) (l : List UInt8) (w : World) (h : IsB B b l w) :
  Calls Tryz.prog 134 #[.pointer (some ⟨b, 0, none⟩)] w fun e w' => e = .returned (.tuple #[]) ∧ Lib.BuilderAtF 117 5 B b (.pointer (some ⟨b, 0, none⟩)) (Lib.byteCells l) w' ∧ Below B w w' ∧ zgR_ b w w' := by
 rcases h with h | h
 · refine (zi9_ b w h.cell0 h.shape h.frozen0).mono ?_
   rintro e w' ⟨rfl, rfl⟩
   exact ⟨rfl, h.used _, (Below.refl B w).setCell (p := ⟨b, 0, none⟩) h.1 _, fun k T cs fz hk _ hne => v0_ hk hne _⟩
 · refine (zja_ b w h.cell0).mono ?_
   rintro e w' ⟨rfl, rfl⟩
   exact ⟨rfl, h, Below.refl B _, fun k T cs fz hk _ _ => hk⟩
theorem zov_ (B b : Nat) (l s : List UInt8) (w : World) (h : IsB B b l w) (hlen : l.length + s.length ≤ 140737488355328) (hBw : B ≤ w.heap.size) :
  Calls Tryz.prog 85 #[.pointer (some ⟨b, 0, none⟩), .string (bs s)] w fun e w' => e = .returned (.tuple #[.int .i64 s.length, .nilIface]) ∧ IsB B b (l ++ s) w' ∧ Below B w w' ∧ zgR_ b w w' := by
 obtain ⟨i0, hi, hz0, hz1, hz2⟩ := info_parts Tryz.infoByte
 go_enter Tryz.func85, Tryz.ntmps85
 go_wp2_with (go_at_call 134; refine (zjd_ B b l _ h).mono ?_)
 rintro e w1 ⟨rfl, h1, hb1, hk1⟩
 obtain ⟨hB, v, hbk, hown, hne⟩ := h1
 have c0 := z0_ hbk
 have c1 := z8_ hbk
 go_wp2_with (at_builtin; refine Lib.wpList_append_own_stringF _ rfl _ _ 47 9 rfl B 5 i0 Tryz.underlying47 Tryz.underlying9 hi hz0 hz1 hz2 _ _ _ rfl hown (bs s) rfl ?c3 ?c4 ?c5 ?_)
 case c3 => rw [Lib.byteCells_length, zaL_]; unfold maxLen; omega
 case c4 => rw [Lib.byteCells_length, zaL_]; omega
 case c5 => have := hb1.size; omega
 intro v' w2 hown' hgrow _
 have hb2 := zaR_ hbk hgrow (Ne.symm hne)
 have d0 := z0_ hb2
 have d1 := z8_ hb2
 obtain ⟨ao, n', cap, rfl⟩ : ∃ ao n' cap, v' = .slice ao n' cap := by
  rcases hown'.2 with ⟨hv, _⟩ | ⟨g, cap, cur, fz, hv, _⟩
  · exact ⟨_, _, _, hv⟩
  · exact ⟨_, _, _, hv⟩
 go_wp2
 go_ret2
 refine ⟨rfl, .inr ?_, ?_, ?_⟩
 · have e : Lib.byteCells l ++ Lib.strCells (bs s) = Lib.byteCells (l ++ s) := by simp [Lib.byteCells, Lib.strCells]
   have e2 : (Lib.byteCells l).length + s.length = (Lib.byteCells (l ++ s)).length := by simp [Lib.byteCells_length]
   rw [e, e2] at hown'
   exact Lib.BuilderAtF.put hB hb2 hown' de_
 · exact (hb1.grown hgrow (by have := hb1.size; omega) (fun k hk => (hown.lt k hk).1)).setCell (p := ⟨b, 1, none⟩) hB _
 · intro k T cs fz hk hT hkb
   have q1 := hk1 k T cs fz hk hT hkb
   exact v0_ (zaR_ q1 hgrow (Ne.symm (Lib.ownBlock_neF hown q1 hT))) hkb _
theorem zdG_ (B b : Nat) (l : List UInt8) (ch : UInt8) (x : Int) (hx : x = ch.toNat) (w : World) (h : IsB B b l w) (hlen : l.length + 1 ≤ 140737488355328) (hBw : B ≤ w.heap.size) :
  Calls Tryz.prog 86 #[.pointer (some ⟨b, 0, none⟩), .int .u8 x] w fun e w' => e = .returned .nilIface ∧ IsB B b (l ++ [ch]) w' ∧ Below B w w' ∧ zgR_ b w w' := by
 subst hx
 obtain ⟨i0, hi, hz0, hz1, hz2⟩ := info_parts Tryz.infoByte
 go_enter Tryz.func86, Tryz.ntmps86
 go_wp2_with (go_at_call 134; refine (zjd_ B b l _ h).mono ?_)
 rintro e w1 ⟨rfl, h1, hb1, hk1⟩
 obtain ⟨hB, v, hbk, hown, hne⟩ := h1
 have c0 := z0_ hbk
 have c1 := z8_ hbk
 obtain ⟨av, nv, cv, hvv⟩ : ∃ ao n' cap, v = .slice ao n' cap := by
  rcases hown.2 with ⟨hv, _⟩ | ⟨g, cap, cur, fz, hv, _⟩
  · exact ⟨_, _, _, hv⟩
  · exact ⟨_, _, _, hv⟩
 subst hvv
 go_wp2_with (at_builtin; go_must (refine wpList_append_ownF _ rfl _ _ 47 rfl B 5 i0 (.int .u8 0) 1 1 Tryz.underlying47 hi hz0 hz1 hz2 rfl de_ _ _ _ rfl (hown.alloc _) ⟨w1.heap.size, 0, none⟩ 1 1 [.int .u8 ch.toNat] rfl rfl ?c1 ?c2 ?c3 ?c4 ?c5 ?_; (case c1 => exact zf5_ rfl); (case c2 => exact one1 rfl); (case c3 => (rw [Lib.byteCells_length]; unfold maxLen; omega)); (case c4 => (rw [Lib.byteCells_length]; omega)); (case c5 => (have := hb1.size; simp; omega)); (intro v' w2 hown' hgrow _); (have hb2 := zaR_ (x3_ hbk _) hgrow (Ne.symm hne)); (have d0 := z0_ hb2); (have d1 := z8_ hb2); (obtain ⟨ao, n', cap, hv'⟩ := zou_ hown'); (subst hv')))
 go_wp2
 go_ret
 refine ⟨rfl, .inr ?_, ?_, ?_⟩
 · have e : Lib.byteCells l ++ [Value.int .u8 ch.toNat] = Lib.byteCells (l ++ [ch]) := by simp [Lib.byteCells]
   have e2 : (Lib.byteCells l).length + 1 = (Lib.byteCells (l ++ [ch])).length := by simp [Lib.byteCells_length]
   rw [e, e2] at hown'
   exact Lib.BuilderAtF.put hB hb2 hown' de_
 · exact ((hb1.alloc (by have := hb1.size; omega) _).grown hgrow (by have := hb1.size; simp; omega) (fun k hk => (hown.lt k hk).1)).setCell (p := ⟨b, 1, none⟩) hB _
 · intro k T cs fz hk hT hkb
   have q1 := hk1 k T cs fz hk hT hkb
   exact v0_ (zaR_ (x3_ q1 _) hgrow (Ne.symm (Lib.ownBlock_neF hown q1 hT))) hkb _
theorem zag_ (w : World) (kd : IntKind) (l : List UInt8) (i : Nat) (hi : i < l.length) : (Instr.index 9 (.string (bs l)) (.int kd (i : Int))).run Tryz.prog w = .ok (.int .u8 ((l.getD i 0).toNat : Nat)) w := by
 have h2 : (0 : Int) ≤ (i : Int) ∧ (i : Int) < l.length := by omega
 have h3 : l.getD i 0 = l[i] := by rw [List.getD_eq_getElem?_getD, List.getElem?_eq_getElem hi]; rfl
 simp [Instr.index, asIntOf, h2, hi, h3]
theorem zow_ (B s : Nat) (w : World) (hB : w.heap[B]? = some (.cells #[.int .u32 (s : Int)] 122 (0, 0))) (hs : s < 2 ^ 30) :
  Calls Tryz.prog 84 #[.pointer (some ⟨B, 0, none⟩), .slice (some ⟨w.heap.size, 0, none⟩) 6 6] (w.alloc (.cells #[.int .u8 0, .int .u8 0, .int .u8 0, .int .u8 0, .int .u8 0, .int .u8 0] 5)) fun e w' => e = .returned (.tuple #[]) ∧ w'.heap[B]? = some (.cells #[.int .u32 (poly s zbG_ : Nat)] 122 (0, 0)) ∧ GL [B] w w' := by
 refine (bAdd B s zbG_ (.slice (some ⟨w.heap.size, 0, none⟩) 6 6) _ (x3_ hB _) hs (by simp [zbG_]) ⟨w.heap.size, 0, 6, .inr ⟨by simp [zbG_], by simp [zbG_]⟩, by simp [zbG_], fun _ => ⟨by simp, fun j hj => ?_⟩⟩ (fun G o c e _ => ?_)).mono ?_
 · rcases (by simp [zbG_] at hj; omega : j = 0 ∨ j = 1 ∨ j = 2 ∨ j = 3 ∨ j = 4 ∨ j = 5) with rfl | rfl | rfl | rfl | rfl | rfl <;> exact z0_ (y8_ w _) _
 · have := z4_ hB
   injection e with e1
   injection e1 with e1
   injection e1 with e1
   omega
 · rintro e w' ⟨rfl, h1, h2⟩
   exact ⟨rfl, h1, y7_ h2 (y2_ (y1_ _ _) _) si_⟩
def encR (h ws : List UInt8) : List UInt8 := if encE h ws = 0 then encT h ws else []
def sixL (c : Nat) : List UInt8 := (sixW c).map (fun x : UInt8 => letter x.toNat)
theorem zdX_ (C d : Nat) (D : Int) (hD : D = (d : Int)) (h : C < 2 ^ 30) : bits .and .u32 ((C : Int) / D) 31 = ((C / d % 32 : Nat) : Int) := by
 subst hD
 show IntKind.u32.wrap (((BitVec.ofInt 32 ((C : Int) / (d : Int)) &&& BitVec.ofInt 32 31).toNat : Nat) : Int) = _
 have h2 : (BitVec.ofInt 32 31).toNat = 2 ^ 5 - 1 := by decide
 have h3 : C / d ≤ C := Nat.div_le_self _ _
 rw [show ((C : Int) / (d : Int)) = ((C / d : Nat) : Int) from rfl, BitVec.toNat_and, h2, BitVec.ofInt_natCast, BitVec.toNat_ofNat, Nat.mod_eq_of_lt om_, Nat.and_two_pow_sub_one_eq_mod, zcc_]
 omega
theorem zdY_ (c : Nat) : sixL c = [letter (c / 33554432 % 32), letter (c / 1048576 % 32), letter (c / 32768 % 32), letter (c / 1024 % 32), letter (c / 32 % 32), letter (c / 1 % 32)] := by
 unfold sixL sixW
 simp only [List.map_cons, List.map_nil, ze6_, Nat.reducePow]
theorem zox_ (c : Nat) : (sixL c).length = 6 := by simp [sixL, sixW]
theorem zoy_ (h ws : List UInt8) : encT h ws = (h ++ [49]) ++ ws.map (fun x : UInt8 => letter x.toNat) ++ sixL (fitC h ws) := by simp [encT, sixL]
theorem zoz_ {h ws : List UInt8} (hk : zbI_ h = false) : encR h ws = [] ∧ encE h ws = 60 := by
 have h1 : encE h ws = 60 := by unfold encE; rw [if_pos hk]
 exact ⟨by unfold encR; rw [h1]; rfl, h1⟩
theorem zoA_ {h ws : List UInt8} (hk : zbI_ h = true) (hw : ws.any (fun x => decide (31 < x.toNat)) = true) : encR h ws = [] ∧ encE h ws = 60 := by
 have h1 : encE h ws = 60 := by unfold encE; rw [if_neg (by rw [hk]; simp), if_pos hw]
 exact ⟨by unfold encR; rw [h1]; rfl, h1⟩
theorem zoB_ {h ws : List UInt8} (hk : zbI_ h = true) (hw : ws.any (fun x => decide (31 < x.toNat)) = false) (hl : 32768 < h.length + ws.length + 7) : encR h ws = [] ∧ encE h ws = 3 := by
 have h1 : encE h ws = 3 := by unfold encE; rw [if_neg (by rw [hk]; simp), if_neg (by rw [hw]; simp), if_pos hl]
 exact ⟨by unfold encR; rw [h1]; rfl, h1⟩
theorem zoC_ {h ws : List UInt8} (hk : zbI_ h = true) (hw : ws.any (fun x => decide (31 < x.toNat)) = false) (hl : ¬ 32768 < h.length + ws.length + 7) : encR h ws = encT h ws ∧ encE h ws = 0 := by
 have h1 : encE h ws = 0 := by unfold encE; rw [if_neg (by rw [hk]; simp), if_neg (by rw [hw]; simp), if_neg hl]
 exact ⟨by unfold encR; rw [h1]; rfl, h1⟩
theorem zoD_ (h ws : List UInt8) (bv : Value) (w : World) (hin : x8_ bv ws w) (hhl : h.length ≤ 1000000000) (hwl : ws.length ≤ 1000000000) :
  Calls Tryz.prog 44 #[.string (bs h), bv] w fun e w' => e = .returned (.tuple #[.string (bs (encR h ws)), .int .i64 (encE h ws)]) ∧ Below w.heap.size w w' := by
 obtain ⟨ad, cc, rfl, hby⟩ : ∃ ad cc, bv = .slice ad ws.length cc ∧ (ws ≠ [] → ∃ G o, ad = some ⟨G, o, none⟩ ∧ zbs_ G o ws w) := by
  obtain ⟨G, o, c, h1, h2, h3⟩ := hin
  rcases h1 with ⟨h1, ad, cc, h⟩ | ⟨h1, h⟩
  · exact ⟨ad, cc, by rw [h, ← h1], fun h => absurd (List.eq_nil_of_length_eq_zero h1.symm) h⟩
  · exact ⟨some ⟨G, o, none⟩, c, by simpa using h, fun hl => ⟨G, o, rfl, h3 hl⟩⟩
 have HBY := Lib.hid hby
 have HIN := Lib.hid hin
 clear hin hby
 go_enter Tryz.func44, Tryz.ntmps44
 go_wp2_with fail
 refine (znX_ h _).mono ?_
 rintro e w1 ⟨I, rfl, hI, hb1⟩
 have HB1 := Lib.hid hb1
 clear hb1
 by_cases hok : zbI_ h = true
 rotate_left
 · have hok : zbI_ h = false := by simpa using hok
   obtain ⟨hr, he⟩ := zoz_ (ws := ws) hok
   have HR := Lib.hid hr
   have HE := Lib.hid he
   clear hr he
   have hdone : Hid (Ending.returned (.tuple #[.string (bs []), .int .i64 60]) = Ending.returned (.tuple #[.string (bs (encR h ws)), .int .i64 (encE h ws)])) := Lib.hid (by rw [HR.out, HE.out])
   by_cases h0 : h = []
   · subst h0
     go_wp2_with fail
     exact bodyPost_ret (v := .tuple #[.string (bs []), .int .i64 60]) (by simp [results, Tryz.results44, go_sem]) rfl ⟨hdone.out, HB1.out⟩
   · have e1 : (h == []) = false := by simpa using h0
     by_cases h83 : 83 < h.length
     · have b1 : (83 : Int) < h.length := by omega
       go_wp2_with fail
       exact bodyPost_ret (v := .tuple #[.string (bs []), .int .i64 60]) (by simp [results, Tryz.results44, go_sem]) rfl ⟨hdone.out, HB1.out⟩
     · have b1 : (h.length : Int) ≤ 83 := by omega
       have hpos : 1 ≤ h.length := List.length_pos_iff.2 h0
       have ha : h.all hrpC = false := by
        unfold zbI_ at hok
        rw [decide_eq_true hpos, decide_eq_true (by omega : h.length ≤ 83)] at hok
        simpa using hok
       have hi := hI.out
       rw [ha] at hi
       have hi2 : 0 ≤ I := by simpa using hi
       clear hi
       go_wp2_with fail
       exact bodyPost_ret (v := .tuple #[.string (bs []), .int .i64 60]) (by simp [results, Tryz.results44, go_sem]) rfl ⟨hdone.out, HB1.out⟩
 · have hpos : 1 ≤ h.length ∧ h.length ≤ 83 ∧ h.all hrpC = true := by
    unfold zbI_ at hok
    simpa [Bool.and_eq_true, decide_eq_true_eq, and_assoc] using hok
   obtain ⟨hp1, hp2, hp3⟩ := hpos
   have h0 : h ≠ [] := List.length_pos_iff.1 hp1
   have e1 : (h == []) = false := by simpa using h0
   have b1 : (h.length : Int) ≤ 83 := by omega
   have hi := hI.out
   rw [hp3] at hi
   have hi2 : I < 0 := by simpa using hi
   clear hi hp3
   have HOK := Lib.hid hok
   clear hok
   go_wp2_with fail
   go_loopw [8, 29] (fun _ iv wr => ∃ k : Nat, k ≤ ws.length ∧ iv = .int .i64 k ∧ Hid (∀ x ∈ ws.take k, x.toNat ≤ 31) ∧ wr = w1) (fun _ iv _ => ws.length - (intOf iv).toNat)
   case atStart => exact ⟨0, by omega, rfl, Lib.hid si_, rfl⟩
   case round =>
    obtain ⟨k, hk, rfl, hxr, rfl⟩ := hrel
    by_cases hlt : k < ws.length
    · obtain ⟨G, o, rfl, hbw⟩ := HBY.out (fun e => by subst e; simp at hlt)
      have ck := (zbf_ hbw (y6_ HB1.out (y1_ [] _)) si_).2 k hlt
      have hk1 : (k : Int) < ws.length := by omega
      have hmem : ws.getD k 0 ∈ ws := by rw [List.getD_eq_getElem?_getD, List.getElem?_eq_getElem hlt]; exact List.getElem_mem hlt
      have HXK : Hid (ws.take (k + 1) = ws.take k ++ [ws.getD k 0]) := Lib.hid (by rw [List.take_add_one, List.getElem?_eq_getElem hlt, Option.toList_some, List.getD_eq_getElem?_getD, List.getElem?_eq_getElem hlt]; rfl)
      obtain ⟨x, hxd⟩ : ∃ x, x = (ws.getD k 0).toNat := ⟨_, rfl⟩
      rw [← hxd] at ck
      have HXD := Lib.hid hxd
      clear hxd
      by_cases hx : x ≤ 31
      · have hx1 : (x : Int) ≤ 31 := by omega
        have HX := Lib.hid hx
        clear hbw hmem hx
        go_wp2_with fail
        go_roundw
        case rel =>
         refine ⟨k + 1, by omega, by go_num, Lib.hid (fun z hz => ?_), by first | rfl | trivial⟩
         rw [HXK.out] at hz
         rcases List.mem_append.1 hz with h | h
         · exact hxr.out z h
         · rw [List.mem_singleton.1 h, ← HXD.out]; exact HX.out
        case measure => simp [intOf]; omega
      · have hx1 : (31 : Int) < x := by omega
        obtain ⟨hr, he⟩ := zoA_ (ws := ws) HOK.out (List.any_eq_true.2 ⟨_, hmem, by rw [decide_eq_true_eq, ← HXD.out]; omega⟩)
        have HR := Lib.hid hr
        have HE := Lib.hid he
        have hdone : Hid (Ending.returned (.tuple #[.string (bs []), .int .i64 60]) = Ending.returned (.tuple #[.string (bs (encR h ws)), .int .i64 (encE h ws)])) := Lib.hid (by rw [HR.out, HE.out])
        clear hbw hmem hx hr he
        go_wp2_with fail
        exact bodyPost_ret (v := .tuple #[.string (bs []), .int .i64 60]) (by simp [results, Tryz.results44, go_sem]) rfl ⟨hdone.out, HB1.out⟩
    · obtain rfl : k = ws.length := by omega
      have hall := hxr.out
      rw [List.take_length] at hall
      have HALL := Lib.hid hall
      have HANY : Hid (ws.any (fun x => decide (31 < x.toNat)) = false) := Lib.hid (by
       rw [Bool.eq_false_iff]
       intro h2
       simp only [List.any_eq_true, decide_eq_true_eq] at h2
       obtain ⟨x, hx, h3⟩ := h2
       have := hall x hx
       omega)
      clear hall hxr hk hlt
      by_cases hlong : 32768 < h.length + ws.length + 7
      · have hl1 : (32768 : Int) < h.length + ws.length + 7 := by omega
        obtain ⟨hr, he⟩ := zoB_ HOK.out HANY.out hlong
        have HR := Lib.hid hr
        have HE := Lib.hid he
        have hdone : Hid (Ending.returned (.tuple #[.string (bs []), .int .i64 3]) = Ending.returned (.tuple #[.string (bs (encR h ws)), .int .i64 (encE h ws)])) := Lib.hid (by rw [HR.out, HE.out])
        clear hr he hlong
        go_wp2_with fail
        exact bodyPost_ret (v := .tuple #[.string (bs []), .int .i64 3]) (by simp [results, Tryz.results44, go_sem]) rfl ⟨hdone.out, HB1.out⟩
      · have hl1 : decide ((32768 : Int) < (h.length : Int) + (ws.length : Int) + 7) = false := by rw [decide_eq_false_iff_not]; omega
        have hl2 : ¬ (32768 : Int) < (h.length : Int) + (ws.length : Int) + 7 := by omega
        obtain ⟨hr, he⟩ := zoC_ HOK.out HANY.out hlong
        have HR := Lib.hid hr
        have HE := Lib.hid he
        clear hr he hlong
        go_wp2_with fail
        have hSw : w.heap.size ≤ wr.heap.size := HB1.out.size
        refine (ziY_ h om_ _).mono ?_
        rintro e w2 ⟨rfl, hs2, hg2⟩
        have HS2 := Lib.hid hs2
        have HG2 : Hid (GL [] w w2) := Lib.hid (y7_ hg2 (y6_ HB1.out (y1_ [] _)) si_)
        have HI2 : Hid (x8_ (.slice ad ws.length cc) ws w2) := Lib.hid (za1_ HIN.out HG2.out)
        have HNE : Hid (∀ G o c, Value.slice ad ws.length cc = .slice (some ⟨G, o, none⟩) ws.length c → ws ≠ [] → G ≠ wr.heap.size) := Lib.hid (fun G o c e hne => by
         obtain ⟨G', o', ha, hb⟩ := HBY.out hne
         have hlt := hb.1
         injection e with e1
         rw [ha] at e1
         injection e1 with e1
         injection e1 with e1
         omega)
        clear hs2 hg2
        generalize wr.heap.size = S at *
        go_wp2_with fail
        refine (bAdd S (zbb_ h) ws _ w2 HS2.out (zdP_ h) om_ HI2.out HNE.out).mono ?_
        rintro e w3 ⟨rfl, hs3, hg3⟩
        have HS3 := Lib.hid hs3
        have HG3 : Hid (GL [] w w3) := Lib.hid (y7_ hg3 HG2.out so_)
        clear hs3 hg3 HS2 HG2 HI2 HNE
        go_wp2_with fail
        refine (zow_ S _ w3 HS3.out (zcP_ _ _ (zdP_ h))).mono ?_
        rintro e w4 ⟨rfl, hs4, hg4⟩
        rw [← zcN_] at hs4
        have HP : Hid (fitC h ws = poly (zbb_ h) (ws ++ zbG_) ^^^ 1) := Lib.hid rfl
        have hPl := zcP_ (zbb_ h) (ws ++ zbG_) (zdP_ h)
        generalize poly (zbb_ h) (ws ++ zbG_) = P at *
        have HS4 := Lib.hid hs4
        have hS4 := z4_ hs4
        have HG4 : Hid (GL [] w w4) := Lib.hid (y7_ hg4 HG3.out so_)
        clear hs4 hg4 HS3 HG3
        go_wp2_with fail
        refine (zov_ _ _ [] (h ++ [49]) _ (zjc_ w4) so_ si_).mono ?_
        rintro e w5 ⟨rfl, hI5, hb5, _⟩
        rw [List.nil_append] at hI5
        have HI5 := Lib.hid hI5
        have HB5 : Hid (Below w4.heap.size w4 w5) := Lib.hid (((Below.refl _ w4).alloc (Nat.le_refl _) _).trans hb5)
        clear hI5 hb5
        go_wp2_with fail
        go_loopw [12, 56] (fun _ iv wr => ∃ k : Nat, k ≤ ws.length ∧ iv = .int .i64 k ∧ Hid (IsB w4.heap.size w4.heap.size ((h ++ [49]) ++ (ws.take k).map (fun x : UInt8 => letter x.toNat)) wr) ∧ Hid (Below w4.heap.size w4 wr)) (fun _ iv _ => ws.length - (intOf iv).toNat)
        case atStart => exact ⟨0, by omega, rfl, Lib.hid (by rw [List.take_zero, List.map_nil, List.append_nil]; exact HI5.out), HB5⟩
        case round =>
         obtain ⟨k, hk, rfl, hir, hbr⟩ := hrel
         by_cases hlt : k < ws.length
         · obtain ⟨G, o, rfl, hbw⟩ := HBY.out (fun e => by subst e; simp at hlt)
           have ck := (zbf_ hbw (y6_ hbr.out HG4.out) si_).2 k hlt
           have hk1 : (k : Int) < ws.length := by omega
           have hmem : ws.getD k 0 ∈ ws := by rw [List.getD_eq_getElem?_getD, List.getElem?_eq_getElem hlt]; exact List.getElem_mem hlt
           have hx31 := HALL.out _ hmem
           have HXK := Lib.hid (zfp_ (f := fun x : UInt8 => letter x.toNat) ws k hlt)
           obtain ⟨x, hxd⟩ : ∃ x, x = (ws.getD k 0).toNat := ⟨_, rfl⟩
           rw [← hxd] at ck hx31
           have HXM : Hid ((ws.take (k + 1)).map (fun x : UInt8 => letter x.toNat) = (ws.take k).map (fun x : UInt8 => letter x.toNat) ++ [letter x]) := Lib.hid (by rw [HXK.out, hxd])
           have hix : (Instr.index 9 (.string (bs [113, 112, 122, 114, 121, 57, 120, 56, 103, 102, 50, 116, 118, 100, 119, 48, 115, 51, 106, 110, 53, 52, 107, 104, 99, 101, 54, 109, 117, 97, 55, 108])) (.int .u8 (x : Int))).run Tryz.prog wr = .ok (.int .u8 ((letter x).toNat : Nat)) wr := zag_ wr .u8 letB x (by show x < 32; omega)
           have hsz := hbr.out.size
           have hlen : ((h ++ [49]) ++ (ws.take k).map (fun x : UInt8 => letter x.toNat)).length + 1 ≤ 140737488355328 := by simp; omega
           generalize letter x = c at *
           have HIR := Lib.hid hir.out
           clear hbw hmem hxd HXK hir
           go_wp2_with fail
           refine (zdG_ _ _ _ c _ rfl wr HIR.out hlen hsz).mono ?_
           rintro e w6 ⟨rfl, hI6, hb6, _⟩
           rw [List.append_assoc, ← HXM.out] at hI6
           have HI6 := Lib.hid hI6
           have HB6 := Lib.hid (hbr.out.trans hb6)
           clear hI6 hb6
           go_wp2_with fail
           go_roundw
           case rel => exact ⟨k + 1, by omega, by go_num, HI6, HB6⟩
           case measure => simp [intOf]; omega
         · obtain rfl : k = ws.length := by omega
           have hir2 := hir.out
           rw [List.take_length] at hir2
           have HIR := Lib.hid hir2
           have hxo : bits .xor .u32 (P : Int) 1 = ((fitC h ws : Nat) : Int) := by rw [HP.out]; exact zey_ P 1 om_ om_
           have hCl : fitC h ws < 2 ^ 30 := zib_ h ws
           have HET := Lib.hid (zoy_ h ws)
           have hbase : ((h ++ [49]) ++ ws.map (fun x : UInt8 => letter x.toNat)).length ≤ 1000000000000 := by simp; omega
           generalize fitC h ws = C at *
           generalize (h ++ [49]) ++ ws.map (fun x : UInt8 => letter x.toNat) = base at *
           clear hir hir2 hk hlt HP
           go_wp2_with fail
           go_loopw [13] (fun iv wr => ∃ j : Nat, ∃ v : Int, j ≤ 6 ∧ iv = .int .i64 v ∧ v + 5 * j = 25 ∧ Hid (IsB w4.heap.size w4.heap.size (base ++ (sixL C).take j) wr) ∧ Hid (Below w4.heap.size w4 wr)) (fun iv _ => (intOf iv + 5).toNat)
           case atStart => exact ⟨0, 25, by omega, rfl, by omega, Lib.hid (by rw [List.take_zero, List.append_nil]; exact HIR.out), hbr⟩
           case round =>
            clear HIR hbr
            obtain ⟨j, v, hj, rfl, hv, hir, hbr⟩ := hrel
            have hsz := hbr.out.size
            have hS := x0_ HS4.out hbr.out hS4
            have f1 := z0_ hS
            have HIR := Lib.hid hir.out
            have hlen : (base ++ (sixL C).take j).length + 1 ≤ 140737488355328 := by
             rw [List.length_append, List.length_take]
             omega
            clear hir hS
            rcases (by omega : j = 0 ∨ j = 1 ∨ j = 2 ∨ j = 3 ∨ j = 4 ∨ j = 5 ∨ j = 6) with rfl | rfl | rfl | rfl | rfl | rfl | rfl
            · obtain rfl : v = 25 := by omega
              have hand : bits .and .u32 ((C : Int) / 33554432) 31 = ((C / 33554432 % 32 : Nat) : Int) := by exact zdX_ C 33554432 33554432 si_ hCl
              have HT : Hid ((sixL C).take 1 = (sixL C).take 0 ++ [letter (C / 33554432 % 32)]) := Lib.hid (by rw [zdY_]; rfl)
              have hyl : C / 33554432 % 32 < 32 := Nat.mod_lt _ om_
              generalize C / 33554432 % 32 = y at *
              have hix : (Instr.index 9 (.string (bs [113, 112, 122, 114, 121, 57, 120, 56, 103, 102, 50, 116, 118, 100, 119, 48, 115, 51, 106, 110, 53, 52, 107, 104, 99, 101, 54, 109, 117, 97, 55, 108])) (.int .u32 (y : Int))).run Tryz.prog wr = .ok (.int .u8 ((letter y).toNat : Nat)) wr := zag_ wr .u32 letB y hyl
              generalize letter y = c at *
              go_wp2_with fail
              refine (zdG_ _ _ _ c _ rfl wr HIR.out hlen hsz).mono ?_
              rintro e w6 ⟨rfl, hI6, hb6, _⟩
              rw [List.append_assoc, ← HT.out] at hI6
              have HI6 := Lib.hid hI6
              have HB6 := Lib.hid (hbr.out.trans hb6)
              clear hI6 hb6
              go_wp2_with fail
              go_roundw
              case rel => exact ⟨1, 20, by omega, by first | rfl | (simp; done), by omega, HI6, HB6⟩
              case measure => first | (simp [intOf]; done) | (simp [intOf]; omega)
            · obtain rfl : v = 20 := by omega
              have hand : bits .and .u32 ((C : Int) / 1048576) 31 = ((C / 1048576 % 32 : Nat) : Int) := by exact zdX_ C 1048576 1048576 si_ hCl
              have HT : Hid ((sixL C).take 2 = (sixL C).take 1 ++ [letter (C / 1048576 % 32)]) := Lib.hid (by rw [zdY_]; rfl)
              have hyl : C / 1048576 % 32 < 32 := Nat.mod_lt _ om_
              generalize C / 1048576 % 32 = y at *
              have hix : (Instr.index 9 (.string (bs [113, 112, 122, 114, 121, 57, 120, 56, 103, 102, 50, 116, 118, 100, 119, 48, 115, 51, 106, 110, 53, 52, 107, 104, 99, 101, 54, 109, 117, 97, 55, 108])) (.int .u32 (y : Int))).run Tryz.prog wr = .ok (.int .u8 ((letter y).toNat : Nat)) wr := zag_ wr .u32 letB y hyl
              generalize letter y = c at *
              go_wp2_with fail
              refine (zdG_ _ _ _ c _ rfl wr HIR.out hlen hsz).mono ?_
              rintro e w6 ⟨rfl, hI6, hb6, _⟩
              rw [List.append_assoc, ← HT.out] at hI6
              have HI6 := Lib.hid hI6
              have HB6 := Lib.hid (hbr.out.trans hb6)
              clear hI6 hb6
              go_wp2_with fail
              go_roundw
              case rel => exact ⟨2, 15, by omega, by first | rfl | (simp; done), by omega, HI6, HB6⟩
              case measure => first | (simp [intOf]; done) | (simp [intOf]; omega)
            · obtain rfl : v = 15 := by omega
              have hand : bits .and .u32 ((C : Int) / 32768) 31 = ((C / 32768 % 32 : Nat) : Int) := by exact zdX_ C 32768 32768 si_ hCl
              have HT : Hid ((sixL C).take 3 = (sixL C).take 2 ++ [letter (C / 32768 % 32)]) := Lib.hid (by rw [zdY_]; rfl)
              have hyl : C / 32768 % 32 < 32 := Nat.mod_lt _ om_
              generalize C / 32768 % 32 = y at *
              have hix : (Instr.index 9 (.string (bs [113, 112, 122, 114, 121, 57, 120, 56, 103, 102, 50, 116, 118, 100, 119, 48, 115, 51, 106, 110, 53, 52, 107, 104, 99, 101, 54, 109, 117, 97, 55, 108])) (.int .u32 (y : Int))).run Tryz.prog wr = .ok (.int .u8 ((letter y).toNat : Nat)) wr := zag_ wr .u32 letB y hyl
              generalize letter y = c at *
              go_wp2_with fail
              refine (zdG_ _ _ _ c _ rfl wr HIR.out hlen hsz).mono ?_
              rintro e w6 ⟨rfl, hI6, hb6, _⟩
              rw [List.append_assoc, ← HT.out] at hI6
              have HI6 := Lib.hid hI6
              have HB6 := Lib.hid (hbr.out.trans hb6)
              clear hI6 hb6
              go_wp2_with fail
              go_roundw
              case rel => exact ⟨3, 10, by omega, by first | rfl | (simp; done), by omega, HI6, HB6⟩
              case measure => first | (simp [intOf]; done) | (simp [intOf]; omega)
            · obtain rfl : v = 10 := by omega
              have hand : bits .and .u32 ((C : Int) / 1024) 31 = ((C / 1024 % 32 : Nat) : Int) := by exact zdX_ C 1024 1024 si_ hCl
              have HT : Hid ((sixL C).take 4 = (sixL C).take 3 ++ [letter (C / 1024 % 32)]) := Lib.hid (by rw [zdY_]; rfl)
              have hyl : C / 1024 % 32 < 32 := Nat.mod_lt _ om_
              generalize C / 1024 % 32 = y at *
              have hix : (Instr.index 9 (.string (bs [113, 112, 122, 114, 121, 57, 120, 56, 103, 102, 50, 116, 118, 100, 119, 48, 115, 51, 106, 110, 53, 52, 107, 104, 99, 101, 54, 109, 117, 97, 55, 108])) (.int .u32 (y : Int))).run Tryz.prog wr = .ok (.int .u8 ((letter y).toNat : Nat)) wr := zag_ wr .u32 letB y hyl
              generalize letter y = c at *
              go_wp2_with fail
              refine (zdG_ _ _ _ c _ rfl wr HIR.out hlen hsz).mono ?_
              rintro e w6 ⟨rfl, hI6, hb6, _⟩
              rw [List.append_assoc, ← HT.out] at hI6
              have HI6 := Lib.hid hI6
              have HB6 := Lib.hid (hbr.out.trans hb6)
              clear hI6 hb6
              go_wp2_with fail
              go_roundw
              case rel => exact ⟨4, 5, by omega, by first | rfl | (simp; done), by omega, HI6, HB6⟩
              case measure => first | (simp [intOf]; done) | (simp [intOf]; omega)
            · obtain rfl : v = 5 := by omega
              have hand : bits .and .u32 ((C : Int) / 32) 31 = ((C / 32 % 32 : Nat) : Int) := by exact zdX_ C 32 32 si_ hCl
              have HT : Hid ((sixL C).take 5 = (sixL C).take 4 ++ [letter (C / 32 % 32)]) := Lib.hid (by rw [zdY_]; rfl)
              have hyl : C / 32 % 32 < 32 := Nat.mod_lt _ om_
              generalize C / 32 % 32 = y at *
              have hix : (Instr.index 9 (.string (bs [113, 112, 122, 114, 121, 57, 120, 56, 103, 102, 50, 116, 118, 100, 119, 48, 115, 51, 106, 110, 53, 52, 107, 104, 99, 101, 54, 109, 117, 97, 55, 108])) (.int .u32 (y : Int))).run Tryz.prog wr = .ok (.int .u8 ((letter y).toNat : Nat)) wr := zag_ wr .u32 letB y hyl
              generalize letter y = c at *
              go_wp2_with fail
              refine (zdG_ _ _ _ c _ rfl wr HIR.out hlen hsz).mono ?_
              rintro e w6 ⟨rfl, hI6, hb6, _⟩
              rw [List.append_assoc, ← HT.out] at hI6
              have HI6 := Lib.hid hI6
              have HB6 := Lib.hid (hbr.out.trans hb6)
              clear hI6 hb6
              go_wp2_with fail
              go_roundw
              case rel => exact ⟨5, 0, by omega, by first | rfl | (simp; done), by omega, HI6, HB6⟩
              case measure => first | (simp [intOf]; done) | (simp [intOf]; omega)
            · obtain rfl : v = 0 := by omega
              have hand : bits .and .u32 ((C : Int)) 31 = ((C / 1 % 32 : Nat) : Int) := by have := zdX_ C 1 1 si_ hCl; rwa [Int.ediv_one] at this
              have HT : Hid ((sixL C).take 6 = (sixL C).take 5 ++ [letter (C / 1 % 32)]) := Lib.hid (by rw [zdY_]; rfl)
              have hyl : C / 1 % 32 < 32 := Nat.mod_lt _ om_
              generalize C / 1 % 32 = y at *
              have hix : (Instr.index 9 (.string (bs [113, 112, 122, 114, 121, 57, 120, 56, 103, 102, 50, 116, 118, 100, 119, 48, 115, 51, 106, 110, 53, 52, 107, 104, 99, 101, 54, 109, 117, 97, 55, 108])) (.int .u32 (y : Int))).run Tryz.prog wr = .ok (.int .u8 ((letter y).toNat : Nat)) wr := zag_ wr .u32 letB y hyl
              generalize letter y = c at *
              go_wp2_with fail
              refine (zdG_ _ _ _ c _ rfl wr HIR.out hlen hsz).mono ?_
              rintro e w6 ⟨rfl, hI6, hb6, _⟩
              rw [List.append_assoc, ← HT.out] at hI6
              have HI6 := Lib.hid hI6
              have HB6 := Lib.hid (hbr.out.trans hb6)
              clear hI6 hb6
              go_wp2_with fail
              go_roundw
              case rel => exact ⟨6, -5, by omega, by first | rfl | (simp; done), by omega, HI6, HB6⟩
              case measure => first | (simp [intOf]; done) | (simp [intOf]; omega)
            · obtain rfl : v = -5 := by omega
              have HF : Hid (IsB w4.heap.size w4.heap.size (base ++ sixL C) wr) := Lib.hid (by have := HIR.out; rwa [List.take_of_length_le (by rw [zox_]; omega)] at this)
              clear HIR
              go_wp2_with fail
              refine (Tryz.Builder_String_any_k _ _ _ _ HF.out om_).mono ?_
              rintro e w7 ⟨rfl, _, hb7, _⟩
              rw [zeY_]
              have hdone : Hid (Ending.returned (.tuple #[.string (bs (base ++ sixL C)), .int .i64 0]) = Ending.returned (.tuple #[.string (bs (encR h ws)), .int .i64 (encE h ws)])) := Lib.hid (by rw [HR.out, HE.out, HET.out])
              have HB7 : Hid (Below w.heap.size w w7) := Lib.hid (y0_ (y6_ (hbr.out.trans hb7) HG4.out))
              clear hb7
              go_wp2_with fail
              exact bodyPost_ret (v := .tuple #[.string (bs (base ++ sixL C)), .int .i64 0]) (by simp [results, Tryz.results44, go_sem]) rfl ⟨hdone.out, HB7.out⟩
def zaJ_ (l : List Nat) : List Value := l.map fun n : Nat => Value.int .u8 (n : Int)
def zbD_ (l : List Nat) : Array Value := (zaJ_ l).toArray
theorem zgS_ (l : List Nat) : (zaJ_ l).length = l.length := List.length_map _
theorem Tryz.sizeA128 : (Tryz.prog.info? 131).map (·.size) = some 128 := by kernel_rfl
theorem zgT_ (l : List Nat) (i : Nat) (h : i < l.length) : (zbD_ l)[i]? = some (.int .u8 ((l.getD i 0 : Nat) : Int)) := by
 unfold zbD_ zaJ_
 rw [List.getElem?_toArray, List.getElem?_map, List.getElem?_eq_getElem h, List.getD_eq_getElem?_getD, List.getElem?_eq_getElem h]
 rfl
theorem zje_ (l : List Nat) (i n : Nat) : (zbD_ l).setIfInBounds i (.int .u8 (n : Int)) = zbD_ (l.set i n) := by
 unfold zbD_ zaJ_
 rw [List.setIfInBounds_toArray, List.map_set]
def zcW_ (i : Nat) : List Nat := List.replicate i 32 ++ List.replicate (128 - i) 0
def zac_ (i : Nat) : List Nat := (List.range i).foldl (fun acc j => acc.set (letter j).toNat j) (zcW_ 128)
theorem zoE_ : ∀ i : Fin 128, (zcW_ i.val).set i.val 32 = zcW_ (i.val + 1) := by decide +kernel
theorem zjf_ : ∀ i : Fin 129, (zcW_ i.val).length = 128 := by decide +kernel
theorem zoF_ : ∀ i : Fin 32, (zac_ i.val).set (letter i.val).toNat i.val = zac_ (i.val + 1) := by decide +kernel
theorem zfy_ : ∀ i : Fin 33, (zac_ i.val).length = 128 := by decide +kernel
theorem zoG_ : ∀ i : Fin 32, (letter i.val).toNat < 128 := by decide +kernel
theorem zjg_ : Tryz.zeroCells131 = zbD_ (zcW_ 0) := by rfl
theorem zoH_ (w : World) :
  Calls Tryz.prog 100 #[] w fun e w' => e = .returned (.agg (zbD_ (zac_ 32))) ∧ Below w.heap.size w w' := by
 go_enter Tryz.func100, Tryz.ntmps100
 go_wp2_with fail
 have HB1 : Hid ((w.alloc (.cells Tryz.zeroCells131 131)).heap[w.heap.size]? = some (.cells (zbD_ (zcW_ 0)) 131 (0, 0))) := Lib.hid (by rw [← zjg_]; exact y8_ _ _)
 have HG1 : Hid (GL [] w (w.alloc (.cells Tryz.zeroCells131 131))) := Lib.hid (y2_ (y1_ _ _) _)
 generalize w.alloc (.cells Tryz.zeroCells131 131) = w1 at *
 go_loopw [1, 3] (fun _ iv wr => ∃ i : Nat, i ≤ 128 ∧ iv = .int .i64 i ∧ Hid (wr.heap[w.heap.size]? = some (.cells (zbD_ (zcW_ i)) 131 (0, 0))) ∧ Hid (GL [] w wr)) (fun _ iv _ => 128 - (intOf iv).toNat)
 case atStart => exact ⟨0, by omega, rfl, HB1, HG1⟩
 case round =>
  obtain ⟨i, hi, rfl, hbr, hgr⟩ := hrel
  by_cases hlt : i < 128
  · have i1 : (i : Int) < 128 := by omega
    have f1 := (z0_ hbr.out i).trans (zgT_ (zcW_ i) i (by rw [zjf_ ⟨i, by omega⟩]; exact hlt))
    have f2 := z8_ hbr.out i
    have HST := Lib.hid (zoE_ ⟨i, hlt⟩)
    generalize (zcW_ i).getD i 0 = y at *
    go_wp2_with fail
    go_roundw
    case rel =>
     refine ⟨i + 1, by omega, by go_num, Lib.hid ?_, Lib.hid (z2_ hgr.out (.inr si_) _)⟩
     have h := z3_ hbr.out i (.int .u8 ((32 : Nat) : Int))
     rw [zje_, HST.out] at h
     exact h
    case measure => simp [intOf]; omega
  · obtain rfl : i = 128 := by omega
    have HB2 : Hid (wr.heap[w.heap.size]? = some (.cells (zbD_ (zac_ 0)) 131 (0, 0))) := hbr
    go_wp2_with fail
    go_loopw [2, 9] (fun _ iv wr => ∃ i : Nat, i ≤ 32 ∧ iv = .int .i64 i ∧ Hid (wr.heap[w.heap.size]? = some (.cells (zbD_ (zac_ i)) 131 (0, 0))) ∧ Hid (GL [] w wr)) (fun _ iv _ => 32 - (intOf iv).toNat)
    case atStart => exact ⟨0, by omega, rfl, HB2, hgr⟩
    case round =>
     clear HB2 hbr hgr
     obtain ⟨i, hi, rfl, hbr, hgr⟩ := hrel
     by_cases hlt : i < 32
     · have i1 : (i : Int) < 32 := by omega
       have hc : (letter i).toNat < 128 := zoG_ ⟨i, hlt⟩
       have hix : (Instr.index 9 (.string (bs [113, 112, 122, 114, 121, 57, 120, 56, 103, 102, 50, 116, 118, 100, 119, 48, 115, 51, 106, 110, 53, 52, 107, 104, 99, 101, 54, 109, 117, 97, 55, 108])) (.int .i64 (i : Int))).run Tryz.prog wr = .ok (.int .u8 ((letter i).toNat : Nat)) wr := zag_ wr .i64 letB i hlt
       have HST := Lib.hid (zoF_ ⟨i, hlt⟩)
       have f1 := (z0_ hbr.out (letter i).toNat).trans (zgT_ (zac_ i) (letter i).toNat (by rw [zfy_ ⟨i, by omega⟩]; exact hc))
       have f2 := z8_ hbr.out (letter i).toNat
       generalize (letter i).toNat = c at *
       generalize (zac_ i).getD c 0 = y at *
       have hc1 : (c : Int) < 128 := by omega
       have hwi : IntKind.u8.wrap (i : Int) = i := by simp only [IntKind.wrap_u8]; omega
       go_wp2_with fail
       go_roundw
       case rel =>
        refine ⟨i + 1, by omega, by go_num, Lib.hid ?_, Lib.hid (z2_ hgr.out (.inr si_) _)⟩
        have h := z3_ hbr.out c (.int .u8 ((i : Nat) : Int))
        rw [zje_, HST.out] at h
        exact h
       case measure => simp [intOf]; omega
     · obtain rfl : i = 32 := by omega
       have hl : (zaJ_ (zac_ 32)).length = 128 := by rw [zgS_]; exact zfy_ ⟨32, by omega⟩
       have hone : ∀ x ∈ zaJ_ (zac_ 32), x.oneCell' = true := fun x hx => by
        unfold zaJ_ at hx
        obtain ⟨y, _, rfl⟩ := List.mem_map.1 hx
        rfl
       have HOc : Hid (wr.heap[w.heap.size]? = some (.cells (zaJ_ (zac_ 32)).toArray 131 (0, 0))) := hbr
       have hsc := run_storeCells_cells (P := Tryz.prog) w.heap.size 0 (zaJ_ (zac_ 32)) 0 wr (fun j hj => by have := (zbL_ HOc.out j (by rw [List.size_toArray]; exact hj)).1; simpa using this) (fun j hj => by have := (zbL_ HOc.out j (by rw [List.size_toArray]; exact hj)).2; simpa using this) hone
       rw [Nat.add_zero] at hsc
       have hRf := zdC_ (vs := zaJ_ (zac_ 32)) HOc.out (by rw [List.size_toArray])
       have hlv := run_loadVar_mid (P := Tryz.prog) (wr.setCells w.heap.size 0 (zaJ_ (zac_ 32))) w.heap.size 0 131 (zaJ_ (zac_ 32)) _ (zdj_ hRf) Tryz.underlying131 rfl (by rw [Tryz.sizeA128, hl])
       have HFIN : Hid (Below w.heap.size w (wr.setCells w.heap.size 0 (zaJ_ (zac_ 32)))) := Lib.hid (y0_ (zce_ (.inr om_) _ 0 _ hgr.out))
       have HN : Hid (zbD_ (zac_ 32) = (zaJ_ (zac_ 32)).toArray) := Lib.hid rfl
       clear hbr hgr hRf hone
       generalize zaJ_ (zac_ 32) = ob at *
       go_wp2_with ((with_reducible refine wpList_load_mid rfl 131 (.tmp 0) rfl w.heap.size 0 rfl ob _ ?hc Tryz.underlying131 rfl ?hi ?_; (case hc => exact zdj_ HOc.out); (case hi => rw [Tryz.sizeA128, hl])))
       exact bodyPost_ret (v := .agg ob.toArray) (by simp [results, Tryz.results100, asAddr, hlv]) rfl ⟨by rw [HN.out], HFIN.out⟩
def inR (lo hi : Nat) (c : UInt8) : Bool := decide (lo ≤ c.toNat) && decide (c.toNat ≤ hi)
theorem zoI_ {lo hi : Nat} {c : UInt8} {x : Nat} (hx : x = c.toNat) (h : x < lo ∨ hi < x) : inR lo hi c = false := by
 unfold inR
 rw [Bool.and_eq_false_iff, decide_eq_false_iff_not, decide_eq_false_iff_not]
 omega
theorem zoJ_ (s : List UInt8) : s.any q2_ = (s.any (inR 0 32) || s.any (inR 127 255)) := by
 rw [Bool.eq_iff_iff]
 simp only [List.any_eq_true, Bool.or_eq_true, q2_, inR, Bool.and_eq_true, decide_eq_true_eq]
 constructor
 · rintro ⟨x, hx, h⟩
   have := x.toNat_lt
   rcases h with h | h
   · exact .inl ⟨x, hx, by omega, h⟩
   · exact .inr ⟨x, hx, h, by omega⟩
 · rintro (⟨x, hx, h⟩ | ⟨x, hx, h⟩)
   · exact ⟨x, hx, .inl h.2⟩
   · exact ⟨x, hx, .inr h.1⟩
theorem zoK_ : inR 97 122 = k2_ := by funext c; unfold inR k2_; rw [← Bool.decide_and]
theorem zoL_ : inR 65 90 = v8_ := by funext c; unfold inR v8_; rw [← Bool.decide_and]
theorem bHas (lo hi : Nat) (hlo : lo < 256) (hhi : hi < 256) (s : List UInt8) (S : Nat) (w : World) (hS : w.cell? ⟨S, 0, none⟩ = some (.string (bs s))) (hl : s.length ≤ 1000000000) :
  Calls Tryz.prog 95 #[.int .u8 lo, .int .u8 hi, .pointer (some ⟨S, 0, none⟩)] w fun e w' => e = .returned (.bool (s.any (inR lo hi))) ∧ w' = w := by
 go_enter Tryz.func95, Tryz.ntmps95
 go_wp2_with fail
 go_loopw [6, 9] (fun _ iv wr => ∃ i : Nat, i ≤ s.length ∧ iv = .int .i64 i ∧ Hid ((s.take i).any (inR lo hi) = false) ∧ Hid (wr = w)) (fun _ iv _ => s.length - (intOf iv).toNat)
 case atStart => exact ⟨0, by omega, rfl, Lib.hid si_, Lib.hid rfl⟩
 case round =>
  obtain ⟨i, hi2, rfl, hno, hw⟩ := hrel
  have hww := hw.out
  subst hww
  by_cases hlt : i < s.length
  · have i1 : (i : Int) < s.length := by omega
    have hix := zag_ wr .i64 s i hlt
    have hmem : s.getD i 0 ∈ s := by rw [List.getD_eq_getElem?_getD, List.getElem?_eq_getElem hlt]; exact List.getElem_mem hlt
    have HXK : Hid (s.take (i + 1) = s.take i ++ [s.getD i 0]) := Lib.hid (by rw [List.take_add_one, List.getElem?_eq_getElem hlt, Option.toList_some, List.getD_eq_getElem?_getD, List.getElem?_eq_getElem hlt]; rfl)
    obtain ⟨x, hxd⟩ : ∃ x, x = (s.getD i 0).toNat := ⟨_, rfl⟩
    rw [← hxd] at hix
    by_cases hbad : x < lo ∨ hi < x
    · have HN : Hid ((s.take (i + 1)).any (inR lo hi) = false) := Lib.hid (by rw [HXK.out, List.any_append, hno.out, List.any_cons, zoI_ hxd hbad]; rfl)
      clear hmem hxd HXK hno
      by_cases hb1 : x < lo
      · have x1 : (x : Int) < lo := by omega
        clear hbad
        go_wp2_with fail
        go_roundw
        case rel => exact ⟨i + 1, by omega, by go_num, HN, by first | exact hw | exact Lib.hid trivial⟩
        case measure => simp [intOf]; omega
      · have x1 : (lo : Int) ≤ x := by omega
        have x2 : (hi : Int) < x := by omega
        clear hbad
        go_wp2_with fail
        go_roundw
        case rel => exact ⟨i + 1, by omega, by go_num, HN, by first | exact hw | exact Lib.hid trivial⟩
        case measure => simp [intOf]; omega
    · have x1 : (lo : Int) ≤ x := by omega
      have x2 : (x : Int) ≤ hi := by omega
      have HT : Hid (s.any (inR lo hi) = true) := Lib.hid (List.any_eq_true.2 ⟨_, hmem, by unfold inR; rw [← hxd]; simp; omega⟩)
      clear hmem hxd HXK hno hbad
      go_wp2_with fail
      exact bodyPost_ret (v := .bool true) (by simp [results, Tryz.results95, go_sem]) rfl ⟨by rw [HT.out], rfl⟩
  · obtain rfl : i = s.length := by omega
    have HF : Hid (s.any (inR lo hi) = false) := Lib.hid (by have := hno.out; rwa [List.take_length] at this)
    clear hno
    go_wp2_with fail
    exact bodyPost_ret (v := .bool false) (by simp [results, Tryz.results95, go_sem]) rfl ⟨by rw [HF.out], rfl⟩
theorem bBad (s : List UInt8) (S F : Nat) (w : World) (hS : w.cell? ⟨S, 0, none⟩ = some (.string (bs s))) (hF : w.cell? ⟨F, 0, none⟩ = some (.func (.func 95) #[] #[.pointer (some ⟨S, 0, none⟩)])) (hl : s.length ≤ 1000000000) :
  Calls Tryz.prog 96 #[.pointer (some ⟨F, 0, none⟩)] w fun e w' => e = .returned (.bool (s.any q2_)) ∧ w' = w := by
 have HX : Hid ((s.any q2_) = (s.any (inR 0 32) || s.any (inR 127 255))) := Lib.hid (by exact zoJ_ s)
 cases h1 : s.any (inR 0 32) with
 | true =>
   have H1 := Lib.hid h1
   clear h1
   go_enter Tryz.func96, Tryz.ntmps96
   go_wp2_with fail
   refine (bHas 0 32 om_ om_ s S w hS hl).mono ?_
   rintro e w1 ⟨rfl, rfl⟩
   rw [H1.out]
   go_wp2_with fail
   exact bodyPost_ret (v := .bool true) (by simp [results, Tryz.results96, go_sem]) rfl ⟨by rw [HX.out, H1.out]; simp, rfl⟩
 | false =>
   have H1 := Lib.hid h1
   clear h1
   go_enter Tryz.func96, Tryz.ntmps96
   go_wp2_with fail
   refine (bHas 0 32 om_ om_ s S w hS hl).mono ?_
   rintro e w1 ⟨rfl, rfl⟩
   rw [H1.out]
   go_wp2_with fail
   refine (bHas 127 255 om_ om_ s S w1 hS hl).mono ?_
   rintro e w2 ⟨rfl, rfl⟩
   generalize hb : s.any (inR 127 255) = b2
   have HB := Lib.hid hb
   clear hb
   go_wp2_with fail
   exact bodyPost_ret (v := .bool b2) (by simp [results, Tryz.results96, go_sem]) rfl ⟨by rw [HX.out, H1.out, HB.out]; simp, rfl⟩
theorem zji_ (s : List UInt8) (S F : Nat) (w : World) (hS : w.cell? ⟨S, 0, none⟩ = some (.string (bs s))) (hF : w.cell? ⟨F, 0, none⟩ = some (.func (.func 95) #[] #[.pointer (some ⟨S, 0, none⟩)])) (hl : s.length ≤ 1000000000) :
  Calls Tryz.prog 97 #[.pointer (some ⟨F, 0, none⟩)] w fun e w' => e = .returned (.bool (s.any k2_ && s.any v8_)) ∧ w' = w := by
 have HX : Hid ((s.any k2_ && s.any v8_) = (s.any (inR 97 122) && s.any (inR 65 90))) := Lib.hid (by rw [zoK_, zoL_])
 cases h1 : s.any (inR 97 122) with
 | false =>
   have H1 := Lib.hid h1
   clear h1
   go_enter Tryz.func97, Tryz.ntmps97
   go_wp2_with fail
   refine (bHas 97 122 om_ om_ s S w hS hl).mono ?_
   rintro e w1 ⟨rfl, rfl⟩
   rw [H1.out]
   go_wp2_with fail
   exact bodyPost_ret (v := .bool false) (by simp [results, Tryz.results97, go_sem]) rfl ⟨by rw [HX.out, H1.out]; simp, rfl⟩
 | true =>
   have H1 := Lib.hid h1
   clear h1
   go_enter Tryz.func97, Tryz.ntmps97
   go_wp2_with fail
   refine (bHas 97 122 om_ om_ s S w hS hl).mono ?_
   rintro e w1 ⟨rfl, rfl⟩
   rw [H1.out]
   go_wp2_with fail
   refine (bHas 65 90 om_ om_ s S w1 hS hl).mono ?_
   rintro e w2 ⟨rfl, rfl⟩
   generalize hb : s.any (inR 65 90) = b2
   have HB := Lib.hid hb
   clear hb
   go_wp2_with fail
   exact bodyPost_ret (v := .bool b2) (by simp [results, Tryz.results97, go_sem]) rfl ⟨by rw [HX.out, H1.out, HB.out]; simp, rfl⟩
def j0_ (s : List UInt8) : Int := match q7_ s with | some k => (k : Int) | none => -1
theorem zjj_ (s : List UInt8) : ∀ k, k ≤ s.length → Lib.lastIdx (bs s) 49 k = j0_ (s.take k)
 | 0, _ => by rw [List.take_zero]; rfl
 | k + 1, h => by
   have ih := zjj_ s k om_
   have hg : (bs s).data[k]! = s[k] := by
    show s.toArray[k]! = s[k]
    simp [show k < s.length by omega]
   unfold Lib.lastIdx
   rw [ih, List.take_add_one, List.getElem?_eq_getElem om_, Option.toList_some, hg]
   unfold j0_
   rw [zgm_]
   by_cases h49 : s[k] = 49
   · rw [if_pos (by rw [h49]; rfl)]
     have h1 : q7_ [s[k]] = some 0 := by rw [h49]; rfl
     rw [h1]
     simp
     omega
   · rw [if_neg (by
      intro h2
      exact h49 (UInt8.toNat_inj.1 (by show s[k].toNat = 49; omega)))]
     have h1 : q7_ [s[k]] = none := by simp [q7_, h49]
     rw [h1]
theorem zoM_ (s : List UInt8) : Lib.lastIndexByte (bs s) 49 = j0_ s := by
 unfold Lib.lastIndexByte
 rw [zaL_, zjj_ s s.length (Nat.le_refl _), List.take_length]
theorem zoN_ (s : List UInt8) (hl : s.length ≤ 1000000000) (w : World) :
  Calls Tryz.prog 94 #[.string (bs s), .int .u8 49] w fun e w' => e = .returned (.int .i64 (j0_ s)) ∧ w' = w := by
 have h := Tryz.strings_LastIndexByte (bs s) 49 (by rw [zaL_]; omega) w
 rw [zoM_] at h
 exact h
theorem zoO_ (l : List UInt8) : Lib.toLowerA l = l.map w9_ := by
 unfold Lib.toLowerA
 refine List.map_congr_left fun c _ => ?_
 have : ∀ c : Fin 256, Lib.lowerB (UInt8.ofNat c.val) = w9_ (UInt8.ofNat c.val) := by decide +kernel
 exact ze8_ (p := fun c => Lib.lowerB c = w9_ c) this c
theorem zoP_ (s : List UInt8) (hl : s.length ≤ 1000000000) (ha : s.any q2_ = false) (w : World) :
  Calls Tryz.prog 99 #[.string (bs s)] w fun e w' => e = .returned (.string (bs (s.map w9_))) ∧ Below w.heap.size w w' := by
 refine (Tryz.strings_ToLower_ascii (bs s) w (by rw [zaL_]; omega) (fun j b hb => ?_)).mono ?_
 · have hm : b ∈ s := List.mem_of_getElem? (by simpa using hb)
   by_cases h : b.toNat < 128
   · exact h
   · exfalso
     have h2 : s.any q2_ = true := List.any_eq_true.2 ⟨b, hm, by unfold q2_; simp; omega⟩
     rw [ha] at h2
     cases h2
 · rintro e w' ⟨rfl, hb⟩
   refine ⟨?_, hb⟩
   rw [zoO_]
   rfl
def farI (v : Int) (n : Nat) : Bool := decide (v < 1) || decide (83 < v) || decide ((n : Int) - v ≤ 6)
theorem zjk_ (s : List UInt8) : farI (j0_ s) s.length = (match q7_ s with | none => true | some k => decide (k < 1) || decide (83 < k) || decide (s.length ≤ k + 6)) := by
 unfold farI j0_
 cases q7_ s with
 | none => rfl
 | some k =>
   rw [Bool.eq_iff_iff]
   simp only [Bool.or_eq_true, decide_eq_true_eq]
   omega
theorem bFar (v : Int) (s : List UInt8) (S K : Nat) (w : World) (hv : -1 ≤ v ∧ v ≤ 1000000000) (hS : w.cell? ⟨S, 0, none⟩ = some (.string (bs s))) (hK : w.cell? ⟨K, 0, none⟩ = some (.int .i64 v)) (hl : s.length ≤ 1000000000) :
  Calls Tryz.prog 98 #[.pointer (some ⟨K, 0, none⟩), .pointer (some ⟨S, 0, none⟩)] w fun e w' => e = .returned (.bool (farI v s.length)) ∧ w' = w := by
 by_cases h1 : v < 1
 · have H : Hid (farI v s.length = true) := Lib.hid (by simp [farI, h1])
   go_enter Tryz.func98, Tryz.ntmps98
   go_wp2_with fail
   exact bodyPost_ret (v := .bool true) (by simp [results, Tryz.results98, go_sem]) rfl ⟨by rw [H.out], rfl⟩
 · have h1' : 1 ≤ v := by omega
   by_cases h2 : 83 < v
   · have H : Hid (farI v s.length = true) := Lib.hid (by simp [farI, h2])
     clear h1
     go_enter Tryz.func98, Tryz.ntmps98
     go_wp2_with fail
     exact bodyPost_ret (v := .bool true) (by simp [results, Tryz.results98, go_sem]) rfl ⟨by rw [H.out], rfl⟩
   · have h2' : v ≤ 83 := by omega
     by_cases h3 : (s.length : Int) - v ≤ 6
     · have H : Hid (farI v s.length = true) := Lib.hid (by simp [farI, h3])
       clear h1 h2
       go_enter Tryz.func98, Tryz.ntmps98
       go_wp2_with fail
       exact bodyPost_ret (v := .bool true) (by simp [results, Tryz.results98, go_sem]) rfl ⟨by rw [H.out], rfl⟩
     · have H : Hid (farI v s.length = false) := Lib.hid (by unfold farI; rw [decide_eq_false h1, decide_eq_false h2, decide_eq_false h3]; rfl)
       have h3' : (6 : Int) < (s.length : Int) - v := by omega
       clear h1 h2 h3
       go_enter Tryz.func98, Tryz.ntmps98
       go_wp2_with fail
       exact bodyPost_ret (v := .bool false) (by simp [results, Tryz.results98, go_sem]; omega) rfl ⟨by rw [H.out], rfl⟩
theorem j6_ {v : Value} {l : List UInt8} {w : World} (h : x8_ v l w) : ∃ a c, v = .slice a l.length c ∧ l.length ≤ c ∧ (l ≠ [] → ∃ G o, a = some ⟨G, o, none⟩ ∧ zbs_ G o l w) := by
 obtain ⟨G, o, c, h1, h2, h3⟩ := h
 rcases h1 with ⟨h1, ad, cc, rfl⟩ | ⟨h1, rfl⟩
 · refine ⟨ad, cc, by rw [← h1], by omega, fun hn => ?_⟩
   exact absurd (List.eq_nil_of_length_eq_zero h1.symm) hn
 · exact ⟨some ⟨G, o, none⟩, c, by simp, h2, fun hn => ⟨G, o, rfl, h3 hn⟩⟩
theorem zbQ_ {a : Option Addr} {n c : Nat} {l : List UInt8} {w : World} (hn : n = l.length) (hc : l.length ≤ c) (h : l ≠ [] → ∃ G o, a = some ⟨G, o, none⟩ ∧ zbs_ G o l w) : x8_ (.slice a n c) l w := by
 subst hn
 by_cases hl : l = []
 · subst hl
   exact ⟨0, 0, c, .inl ⟨rfl, a, c, rfl⟩, hc, fun h => absurd rfl h⟩
 · obtain ⟨G, o, rfl, hb⟩ := h hl
   have : 0 < l.length := List.length_pos_iff.2 hl
   exact ⟨G, o, c, .inr ⟨this, by simp⟩, hc, fun _ => hb⟩
theorem zdH_ {a : Option Addr} {m c n c2 : Nat} {l : List UInt8} {w : World} (h : x8_ (.slice a m c) l w) (hn : n ≤ l.length) (hc : n ≤ c2) : x8_ (.slice a n c2) (l.take n) w := by
 obtain ⟨a', c', e, hc', hb⟩ := j6_ h
 injection e with e1 e2 e3
 subst e1
 refine zbQ_ (by rw [List.length_take]; omega) (by rw [List.length_take]; omega) fun hne => ?_
 obtain ⟨G, o, hA, hB, hj⟩ := hb (fun h0 => hne (by rw [h0]; simp))
 refine ⟨G, o, hA, hB, fun j hjl => ?_⟩
 rw [List.length_take] at hjl
 rw [hj j om_, List.getD_eq_getElem?_getD, List.getD_eq_getElem?_getD, List.getElem?_take_of_lt om_]
theorem zgU_ {a : Option Addr} {m c n : Nat} {l : List UInt8} {w : World} (h : x8_ (.slice a m c) l w) (hn : n ≤ l.length) : x8_ (.slice (if c = n then a else a.map (·.add n)) (m - n) (c - n)) (l.drop n) w := by
 obtain ⟨a', c', e, hc', hb⟩ := j6_ h
 injection e with e1 e2 e3
 subst e1 e2 e3
 refine zbQ_ (by rw [List.length_drop]) (by rw [List.length_drop]; omega) fun hne => ?_
 have hnl : n < l.length := by
  rcases Nat.lt_or_ge n l.length with h | h
  · exact h
  · exact absurd (List.drop_eq_nil_of_le h) hne
 obtain ⟨G, o, rfl, hB, hj⟩ := hb (fun h0 => hne (by rw [h0]; simp))
 rw [if_neg om_]
 refine ⟨G, o + n, ?_, hB, fun j hjl => ?_⟩
 · simp only [Option.map_some, Addr.add]
   by_cases h0 : n = 0
   · subst h0; simp
   · simp [h0]
 · rw [List.length_drop] at hjl
   rw [show o + n + j = o + (n + j) by omega, hj _ om_, List.getD_eq_getElem?_getD, List.getD_eq_getElem?_getD, List.getElem?_drop]
theorem zcX_ {v : Value} {l : List UInt8} {w w' : World} {R : Nat} (h : x8_ v l w) (hg : GL [R] w w') (hne : ∀ G o c, v = .slice (some ⟨G, o, none⟩) l.length c → l ≠ [] → G ≠ R) : x8_ v l w' := by
 obtain ⟨a, c, rfl, hc, hb⟩ := j6_ h
 refine zbQ_ rfl hc fun hn => ?_
 obtain ⟨G, o, rfl, hB⟩ := hb hn
 exact ⟨G, o, rfl, zbf_ hB hg (by have := hne G o c rfl hn; simpa using this)⟩
theorem zgV_ {v x : Value} {l : List UInt8} {w : World} {R T : Nat} {fz : Nat × Nat} (h : x8_ v l w) (hR : w.heap[R]? = some (.cells #[x] T fz)) (hx : ∀ n, x ≠ .int .u8 n) : ∀ G o c, v = .slice (some ⟨G, o, none⟩) l.length c → l ≠ [] → G ≠ R := by
 intro G o c e hn hG
 subst hG
 obtain ⟨a, c', e', hc, hb⟩ := j6_ h
 rw [e'] at e
 injection e with e1
 obtain ⟨G', o', e2, hB, hj⟩ := hb hn
 rw [e2] at e1
 simp only [Option.some.injEq, Addr.mk.injEq] at e1
 obtain ⟨rfl, rfl, _⟩ := e1
 have h0 := hj 0 (List.length_pos_iff.2 hn)
 rw [z0_ hR] at h0
 cases o' with
 | zero => simp at h0; exact hx _ h0
 | succ k => simp at h0
end Go.Proofs.YtembdkodajichaaGreatDoor
