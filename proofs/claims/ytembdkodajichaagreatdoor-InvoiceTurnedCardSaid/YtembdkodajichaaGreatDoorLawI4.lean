/- The laws of layer 7: InvoiceTurned. -/
import Derived.Test.YtembdkodajichaaGreatDoorLawI0
import Derived.Test.YtembdkodajichaaGreatDoorLawI3
set_option linter.unusedSimpArgs false
set_option linter.unusedVariables false
set_option maxRecDepth 100000
set_option maxHeartbeats 8000000
namespace Go.Proofs.YtembdkodajichaaGreatDoor
open Go.RowKit
def textOf (h ws : List UInt8) : List UInt8 := h ++ 49 :: ws.map (fun x => letter x.toNat)
theorem hrp_chars {h : List UInt8} (h1 : hrpOk h = true) : 1 ≤ h.length ∧ h.length ≤ 83 ∧ ∀ c ∈ h, isUp c = false ∧ badC c = false := by
 unfold hrpOk at h1
 simp only [Bool.and_eq_true, decide_eq_true_eq, List.all_eq_true] at h1
 obtain ⟨⟨hl1, hl2⟩, hc⟩ := h1
 refine ⟨hl1, hl2, ?_⟩
 intro c hm
 have := hc c hm
 unfold hrpC at this
 simp only [Bool.and_eq_true, decide_eq_true_eq, Bool.not_eq_true'] at this
 refine ⟨this.2, ?_⟩
 unfold badC
 simp
 omega
theorem letters_ok {ws : List UInt8} (hall2 : ∀ x ∈ ws, x.toNat < 32) : ∀ c ∈ ws.map (fun x => letter x.toNat), c ≠ 49 ∧ isUp c = false ∧ badC c = false := by
 intro c hm
 obtain ⟨x, hx, rfl⟩ := List.mem_map.1 hm
 have := letter_small ⟨_, hall2 x hx⟩
 simp only at this
 refine ⟨fun e => this.1 (by rw [e]; rfl), ?_, ?_⟩
 · unfold isUp; simpa using this.2.2.2
 · unfold badC; simp; omega
theorem lastOne_text (h ws : List UInt8) (hall2 : ∀ x ∈ ws, x.toNat < 32) : lastOne (textOf h ws) = some h.length := by
 unfold textOf
 rw [lastOne_app, lastOne, lastOne_none (fun c hm => (letters_ok hall2 c hm).1)]
 simp
theorem decE_of (h ws : List UInt8) (h1 : hrpOk h = true) (hall2 : ∀ x ∈ ws, x.toNat < 32) (hn : 6 ≤ ws.length) (hm : h.length + ws.length + 1 ≤ 32768) : decE (textOf h ws) = if poly (headS h) ws ≠ 1 then 61 else 0 := by
 obtain ⟨hl1, hl2, hcl⟩ := hrp_chars h1
 have hlet := letters_ok hall2
 have hlast := lastOne_text h ws hall2
 have hT : textOf h ws = h ++ 49 :: ws.map (fun x => letter x.toNat) := rfl
 have hup : ∀ c ∈ textOf h ws, isUp c = false ∧ badC c = false := by
  intro c hm
  rw [hT] at hm
  rcases List.mem_append.1 hm with hm | hm
  · exact hcl c hm
  · rcases List.mem_cons.1 hm with rfl | hm
    · exact ⟨by decide, by decide⟩
    · exact (hlet c hm).2
 have hlow : (textOf h ws).map lowB = textOf h ws := by
  conv => rhs; rw [← List.map_id (textOf h ws)]
  exact List.map_congr_left fun c hm => by rw [lowB_id (hup c hm).1]; rfl
 have hat : atOf (textOf h ws) = h.length := by unfold atOf; rw [hlast]; rfl
 have hH : decH (textOf h ws) = h := by
  unfold decH
  rw [hlow, hat, hT]
  simp
 have htail : tailW (textOf h ws) = ws := by
  unfold tailW
  rw [hlow, hat, hT]
  rw [show h.length + 1 = (h ++ [49]).length by simp, show h ++ 49 :: ws.map (fun x => letter x.toNat) = (h ++ [49]) ++ ws.map (fun x => letter x.toNat) by simp, List.drop_left, List.map_map]
  conv => rhs; rw [← List.map_id ws]
  refine List.map_congr_left fun x hx => ?_
  have := word_letter ⟨_, hall2 x hx⟩
  simp only [Function.comp_apply, id_eq] at this ⊢
  rw [this]
  simp
 have hlen : (textOf h ws).length = h.length + ws.length + 1 := by rw [hT]; simp; omega
 unfold decE
 rw [if_neg om_, if_neg, if_neg, htail, hH]
 · rw [htail]
   simp only [List.any_eq_true, decide_eq_true_eq, not_exists, not_and]
   intro x hx
   have := hall2 x hx
   omega
 · unfold decBad
   rw [hlast]
   simp only [Bool.or_eq_true, Bool.and_eq_true, decide_eq_true_eq, List.any_eq_true, not_or]
   refine ⟨⟨?_, ?_⟩, ?_⟩
   · rintro ⟨c, hm, hb⟩
     rw [(hup c hm).2] at hb
     cases hb
   · rintro ⟨_, c, hm, hb⟩
     rw [(hup c hm).1] at hb
     cases hb
   · rw [hlen]
     omega
theorem sixW_lt (c : Nat) : ∀ x ∈ sixW c, x.toNat < 32 := by
 intro x hx
 unfold sixW at hx
 obtain ⟨i, _, rfl⟩ := List.mem_map.1 hx
 rw [ofNat32]
 omega
theorem turned_sum (h w : List UInt8) (he : encE h w = 0) (k j : Nat) (hk : h.length + 1 ≤ k) (hk2 : k < (encT h w).length) (hj : j < 32) (hne : (encT h w)[k]? ≠ some (letter j)) : lastOne (encT h w) = some h.length ∧ decE ((encT h w).set k (letter j)) = 61 := by
 unfold encE at he
 split at he
 · cases he
 rename_i h1
 split at he
 · cases he
 rename_i h2
 split at he
 · cases he
 rename_i h3
 simp only [Bool.not_eq_false] at h1
 have hall : ∀ x ∈ w ++ sixW (fitC h w), x.toNat < 32 := by
  intro x hx
  rcases List.mem_append.1 hx with hx | hx
  · simp only [List.any_eq_true, decide_eq_true_eq, not_exists, not_and] at h2
    have := h2 x hx
    omega
  · exact sixW_lt _ x hx
 have hp := fit_ok h w
 have hT : encT h w = textOf h (w ++ sixW (fitC h w)) := by unfold encT textOf; rw [List.map_append]
 have hsl : (w ++ sixW (fitC h w)).length = w.length + 6 := by simp [sixW]
 rw [hT] at hk2 hne ⊢
 generalize w ++ sixW (fitC h w) = ws at *
 refine ⟨lastOne_text h ws hall, ?_⟩
 have hlen : (textOf h ws).length = h.length + ws.length + 1 := by unfold textOf; simp; omega
 obtain ⟨i, rfl⟩ : ∃ i, k = h.length + 1 + i := ⟨k - h.length - 1, by omega⟩
 have hi : i < ws.length := by omega
 have hjn : (UInt8.ofNat j).toNat = j := by simp; omega
 have hset : (textOf h ws).set (h.length + 1 + i) (letter j) = textOf h (ws.set i (UInt8.ofNat j)) := by
  unfold textOf
  rw [List.set_append_right _ _ om_, show h.length + 1 + i - h.length = i + 1 by omega, List.set_cons_succ, List.map_set, hjn]
 have hget : (textOf h ws)[h.length + 1 + i]? = some (letter ws[i].toNat) := by
  unfold textOf
  rw [List.getElem?_append_right om_, show h.length + 1 + i - h.length = i + 1 by omega, List.getElem?_cons_succ, List.getElem?_map, List.getElem?_eq_getElem hi]
  rfl
 rw [hget] at hne
 have hab : ws[i] ≠ UInt8.ofNat j := by
  intro e
  exact hne (by rw [e, hjn])
 have hws : ws = ws.take i ++ ws[i] :: ws.drop (i + 1) := by
  rw [← List.drop_eq_getElem_cons hi, List.take_append_drop]
 have hws2 : ws.set i (UInt8.ofNat j) = ws.take i ++ UInt8.ofNat j :: ws.drop (i + 1) := by
  rw [List.set_eq_take_append_cons_drop, if_pos hi]
 rw [hset, decE_of h (ws.set i (UInt8.ofNat j)) h1 (by
  intro x hx
  rcases List.mem_or_eq_of_mem_set hx with hx | rfl
  · exact hall x hx
  · omega) so_ so_]
 rw [if_pos]
 have hpo := poly_one (headS h) (headS_lt h) (ws.take i) (ws.drop (i + 1)) ws[i] (UInt8.ofNat j) hab
 rw [← hws, ← hws2, hp] at hpo
 exact fun e => hpo e.symm
theorem verify_plainI {k m s : List UInt8} (h : verifyT (80 :: k) m s = true) : s = 83 :: (k ++ m) := by
 unfold verifyT at h
 split at h
 · cases h
 · rename_i x hx
   simp only [Bool.and_eq_true, beq_iff_eq] at h
   obtain ⟨⟨h1, h2⟩, h3⟩ := h
   have hop : x.op = 83 := UInt8.toNat_inj.1 h1
   have ha : arity x.op = some 2 := by rw [hop]; rfl
   obtain ⟨a, b, hk, _⟩ := rt_two_kids hx ha
   rw [hk] at h2 h3
   simp only [List.getD_cons_zero, List.getD_cons_succ] at h2 h3
   have := rt_text hx ha
   rw [this, hop, hk, key_plain h3, h2]
   simp [cat]
theorem turned_sig (x : Inv) (o : Int) (nm sg : List UInt8) (he : encIE x = 0) (hn : nameT o = (nm, 0)) (ho : o ≤ 9223372036854775807) (hs : twoT 83 nm (bodyT x) = (sg, 0)) (hne : sg ≠ x.sig) : encIE { x with sig := sg } = 71 := by
 obtain ⟨h1, h2, h3, h4⟩ := enc_zero x he
 have hb : bodyE x = 0 := by unfold bodyE; rw [if_neg (by simp [h1]), if_neg (by simp [h2])]
 have hb2 : bodyE { x with sig := sg } = 0 := hb
 have ht2 : bodyT { x with sig := sg } = bodyT x := rfl
 unfold encIE
 rw [hb2, if_neg si_, ht2]
 split
 · rfl
 · rename_i hc
   exfalso
   have hv : verifyT x.payee (bodyT x) sg = true := by
    cases hvv : verifyT x.payee (bodyT x) sg with
    | true => rfl
    | false => exact absurd (.inr hvv) hc
   unfold nameT at hn
   split at hn
   · cases hn
   have hnm : nm = nameL o.toNat := ((Prod.mk.inj hn).1).symm
   subst hnm
   have hk : o.toNat ≤ 9223372036854775807 := by omega
   have hqb := q_body x
   rw [sign_name o.toNat hk (bodyT x) hqb] at hs
   have hsg : 83 :: (nameL o.toNat ++ bodyT x) = sg := (Prod.mk.inj hs).1
   subst hsg
   obtain ⟨t, r1, r2, r3⟩ := rt_two_at (c := 83) de_ (by simp [fitsB]) (q_name o.toNat hk) hqb om_ om_
   unfold verifyT at hv
   rw [r1] at hv
   simp only [r3, List.getD_cons_zero, keyT_name o.toNat hk, Bool.and_eq_true, beq_iff_eq] at hv
   have hp := hv.2
   rw [← hp] at h4
   exact hne (verify_plainI h4).symm
theorem turn_facts {x : Inv} (h : encIE x = 0) : 1 ≤ (hrpI x).length ∧ (hrpI x).length + 7 ≤ (encIT x).length ∧ (encIT x).length ≤ 32768 ∧ (encIT x).getD (hrpI x).length 0 = 49 ∧ (∀ j, (hrpI x).length < j → j < (encIT x).length → (encIT x).getD j 0 ≠ 49) ∧
  ∀ k m, (hrpI x).length + 1 ≤ k → k < (encIT x).length → m < 32 → (encIT x).getD k 0 ≠ letter m → decI ((encIT x).set k (letter m)) = (Inv.zero, 61) := by
 have hl := enc_len h
 obtain ⟨h1, h2, h3, h4⟩ := enc_zero x h
 have hb := enc_bech x h2 h3
 have hall : ∀ y ∈ allW x ++ sixW (fitC (hrpI x) (allW x)), y.toNat < 32 := by
  intro y hy
  rcases List.mem_append.1 hy with hy | hy
  · exact (allW_lt x h2 h3).1 y hy
  · exact sixW_lt _ y hy
 have hT : encIT x = hrpI x ++ 49 :: (allW x ++ sixW (fitC (hrpI x) (allW x))).map (fun x => letter x.toNat) := by unfold encIT encT; rw [List.map_append]
 have hlen : (encIT x).length = (hrpI x).length + (allW x).length + 7 := by rw [hT]; simp [sixW]; omega
 have h4 : 1 ≤ (hrpI x).length := by unfold hrpI lnsw; simp
 refine ⟨h4, by omega, hl, ?_, ?_, ?_⟩
 · rw [List.getD_eq_getElem?_getD, hT, List.getElem?_append_right (Nat.le_refl _), Nat.sub_self]
   rfl
 · intro j hj hj2
   rw [List.getD_eq_getElem?_getD, hT, List.getElem?_append_right om_]
   obtain ⟨i, rfl⟩ : ∃ i, j = (hrpI x).length + 1 + i := ⟨j - (hrpI x).length - 1, by omega⟩
   rw [show (hrpI x).length + 1 + i - (hrpI x).length = i + 1 by omega, List.getElem?_cons_succ]
   have hi : i < ((allW x ++ sixW (fitC (hrpI x) (allW x))).map (fun x => letter x.toNat)).length := by simp [sixW]; omega
   rw [List.getElem?_eq_getElem hi]
   exact (letters_ok hall _ (List.getElem_mem hi)).1
 · intro k m hk hk2 hm hne
   have ht := turned_sum (hrpI x) (allW x) hb k m hk hk2 hm (by
    intro e
    apply hne
    rw [List.getD_eq_getElem?_getD]
    show ((encT (hrpI x) (allW x))[k]?).getD 0 = _
    rw [e]
    rfl)
   have ht2 : decE ((encIT x).set k (letter m)) = 61 := ht.2
   unfold decI
   rw [ht2, if_pos de_]
theorem turn_at (n i : Nat) (hi : i + 2 ≤ n) (hn : n ≤ 32768) (a : Int) : ∃ k : Nat, i + 1 ≤ k ∧ k < n ∧ wrap64 ((n : Int) - 1 - wrap64 ((IntKind.u64.wrap a).tmod ((n : Int) - i - 1))) = (k : Int) := by
 have h0 : 0 ≤ IntKind.u64.wrap a := by simp only [IntKind.wrap, IntKind.signed, IntKind.bits]; simp; omega
 generalize IntKind.u64.wrap a = u at *
 rw [Int.tmod_eq_emod_of_nonneg h0]
 have h1 := Int.emod_nonneg u (show (n : Int) - i - 1 ≠ 0 by omega)
 have h2 := Int.emod_lt_of_pos u (show (0 : Int) < (n : Int) - i - 1 by omega)
 generalize u % ((n : Int) - i - 1) = r at *
 refine ⟨n - 1 - r.toNat, by omega, by omega, ?_⟩
 have h3 : wrap64 r = r := by unfold wrap64; omega
 rw [h3]
 unfold wrap64
 omega
theorem nameT_len (o : Int) (ho : o ≤ 9223372036854775807) : (nameT o).1.length ≤ 100 := by
 unfold nameT
 split
 · simp
 · have := dec_len20 o.toNat om_
   simp
   omega
theorem turn_body {x : Inv} (h : encIE x = 0) : bodyR x = bodyT x ∧ (bodyT x).length ≤ 86 := by
 obtain ⟨h1, h2, h3, h4⟩ := enc_zero x h
 have hb : bodyE x = 0 := by unfold bodyE; rw [if_neg (by simp [h1]), if_neg (by simp [h2])]
 exact ⟨by unfold bodyR; rw [if_pos hb], (q_body x).2⟩
theorem inv_sig {x : Inv} (h : InvOk x) {sg : List UInt8} (hs : sg.length ≤ 16384) : InvOk { x with sig := sg } := ⟨h.am0, h.am1, h.st0, h.st1, h.ex0, h.ex1, h.de0, h.de1, h.hash, h.payee, h.memo, by show sg.length ≤ 1000000; omega⟩
theorem lInvoiceTurned (x : Inv) (hx : InvBig x) (a o : Int) (b : Nat) (hb : b < 256) (ha0 : -9223372036854775808 ≤ a) (ha1 : a ≤ 9223372036854775807) (ho0 : -9223372036854775808 ≤ o) (ho1 : o ≤ 9223372036854775807) (w : World) (hI : IOk w) :
  Calls Tryz.prog 8 #[invV x, .int .i64 a, .int .u8 b, .int .i64 o] w fun e w' => e = .returned (.bool true) ∧ Below w.heap.size w w' := by
 have HX := Lib.hid hx
 have HI := Lib.hid hI
 clear hx hI
 unfold invV
 go_enter Tryz.func8, Tryz.ntmps8
 go_wp2_with fail
 have HB1 := Lib.hid (blk_new w (.cells #[.int .i64 x.am, .int .i64 x.st, .string (bs x.hash), .string (bs x.payee), .string (bs x.memo), .int .i64 x.ex, .int .i64 x.de, .string (bs x.sig)] 31))
 have HI1 : Hid (IOk (w.alloc (.cells #[.int .i64 x.am, .int .i64 x.st, .string (bs x.hash), .string (bs x.payee), .string (bs x.memo), .int .i64 x.ex, .int .i64 x.de, .string (bs x.sig)] 31))) := Lib.hid (iok_gl HI.out (gl_alloc (gl_refl _ _) _))
 have HL1 : Hid (GL [] w (w.alloc (.cells #[.int .i64 x.am, .int .i64 x.st, .string (bs x.hash), .string (bs x.payee), .string (bs x.memo), .int .i64 x.ex, .int .i64 x.de, .string (bs x.sig)] 31))) := Lib.hid (gl_alloc (gl_refl _ _) _)
 generalize w.alloc (.cells #[.int .i64 x.am, .int .i64 x.st, .string (bs x.hash), .string (bs x.payee), .string (bs x.memo), .int .i64 x.ex, .int .i64 x.de, .string (bs x.sig)] 31) = w1 at *
 refine (show Calls Tryz.prog 14 #[invV x] w1 _ from lSize x HX.out w1).mono ?_
 rintro e w2 ⟨rfl, hb2⟩
 have HB2 := Lib.hid (blk_below HB1.out hb2 (blk_lt HB1.out))
 have HI2 := Lib.hid (iok_below HI1.out hb2)
 have HL2 : Hid (GL [] w w2) := Lib.hid (gl_below hb2 HL1.out)
 clear hb2 HB1 HI1 HL1
 by_cases hz : 3000 < sizeI x
 · have hz1 : (3000 : Int) < sizeI x := by omega
   clear hz
   generalize sizeI x = sz at *
   go_wp2_with fail
   refine (lWorksI _ HI2.out).mono ?_
   rintro e wz ⟨rfl, hbz⟩
   go_wp2_with fail
   exact bodyPost_ret (v := .bool true) (by simp [results, Tryz.results8, go_sem]) rfl ⟨rfl, gl_to_below (gl_below hbz HL2.out)⟩
 · have hz1 : (sizeI x : Int) ≤ 3000 := by omega
   have HOK := Lib.hid (inv_small HX.out om_)
   clear hz
   generalize sizeI x = sz at *
   have f2 := blk_cell HB2.out
   go_wp2_with fail
   refine (show Calls Tryz.prog 17 #[invV x] w2 _ from iEncode x HOK.out w2 HI2.out).mono ?_
   rintro e w3 ⟨rfl, hb3⟩
   have HB3 := Lib.hid (blk_below HB2.out hb3 (blk_lt HB2.out))
   have HI3 := Lib.hid (iok_below HI2.out hb3)
   have HL3 : Hid (GL [] w w3) := Lib.hid (gl_below hb3 HL2.out)
   clear hb3 HB2 HI2 HL2 f2
   by_cases hE : encIE x = 0
   · have HE := Lib.hid hE
     have HRx : Hid (encIR x = encIT x) := Lib.hid (by unfold encIR; rw [if_pos hE])
     obtain ⟨t1, t2, t3, t4, t5, t6⟩ := turn_facts hE
     have HT4 := Lib.hid t4
     have HT5 := Lib.hid t5
     have HT6 := Lib.hid t6
     rw [hE, HRx.out]
     clear hE HRx t4 t5 t6
     generalize encIT x = et at *
     generalize (hrpI x).length = H at *
     go_wp2_with fail
     go_loopw [11] (fun iv wr => ∃ i : Nat, H ≤ i ∧ i < et.length ∧ iv = .int .i64 (i : Int) ∧ Hid (wr = w3)) (fun iv _ => (intOf iv).toNat)
     case atStart => exact ⟨et.length - 1, by omega, by omega, by rw [show ((et.length - 1 : Nat) : Int) = et.length - 1 by omega], Lib.hid rfl⟩
     case round =>
      obtain ⟨i, hi1, hi2, rfl, hw⟩ := hrel
      obtain rfl := hw.out
      clear hw
      have hix : ∀ W, (Instr.index 9 (.string (bs et)) (.int .i64 (i : Int))).run Tryz.prog W = .ok (.int .u8 ((et.getD i 0).toNat : Nat)) W := fun W => index_strK W .i64 et i hi2
      by_cases hH : i = H
      · subst hH
        rw [HT4.out] at hix
        have hi0 : (0 : Int) ≤ i := by omega
        obtain ⟨c, w4, hcv, hin, hg4⟩ := run_conv 9 Tryz.underlying9 et wr om_
        have HIN := Lib.hid hin
        have HB4 := Lib.hid (blk_gl HB3.out hg4 si_)
        have HI4 := Lib.hid (iok_gl HI3.out hg4)
        have HL4 : Hid (GL [] w w4) := Lib.hid (gl_step hg4 HL3.out si_)
        have hi3 : (i : Int) + 2 ≤ et.length := by omega
        clear hin hg4
        go_wp2_with fail
        obtain ⟨k, hk1, hk2, hk⟩ := turn_at et.length i om_ t3 a
        rw [hk]
        clear hk
        obtain ⟨ck, fk⟩ := cvAt_cell HIN.out k hk2
        obtain ⟨m, hm, h32⟩ : ∃ m : Nat, m < 32 ∧ (b : Int).tmod 32 = m := ⟨b % 32, by omega, by rw [Int.tmod_eq_emod_of_nonneg om_]; omega⟩
        have hlm : ∀ W, (Instr.index 9 (.string (bs [113, 112, 122, 114, 121, 57, 120, 56, 103, 102, 50, 116, 118, 100, 119, 48, 115, 51, 106, 110, 53, 52, 107, 104, 99, 101, 54, 109, 117, 97, 55, 108])) (.int .u8 (m : Int))).run Tryz.prog W = .ok (.int .u8 ((letter m).toNat : Nat)) W := fun W => index_strK W .u8 letB m hm
        have hk0 : (0 : Int) ≤ k := by omega
        have hk3 : (k : Int) < et.length := by omega
        have HM := Lib.hid hm
        have HIN5 : Hid (CvAt (.slice (some ⟨wr.heap.size, 0, none⟩) et.length c) et w4.drew) := Lib.hid (cvAt_gl HIN.out (gl_drew (gl_refl [] w4)))
        have HB5 := Lib.hid (blk_drew HB4.out)
        have HI5 : Hid (IOk w4.drew) := Lib.hid (iok_gl HI4.out (gl_drew (gl_refl [] w4)))
        have HL5 : Hid (GL [] w w4.drew) := Lib.hid (gl_drew HL4.out)
        have hWN : w.heap.size ≤ wr.heap.size := HL3.out.size
        have hWb : w.heap.size < wr.heap.size := blk_lt HB3.out
        obtain ⟨ck5, fk5⟩ := cvAt_cell HIN5.out k hk2
        clear hcv HIN HB4 HI4 HL4 hix HB3 HI3 HT4 HT5 hm
        by_cases hlk : et.getD k 0 = letter m
        · have hq : (((et.getD k 0).toNat : Int) != (letter m).toNat) = false := by rw [hlk]; simp
          clear hlk HT6 HIN5
          generalize (et.getD k 0).toNat = y1 at *
          generalize (letter m).toNat = y2 at *
          go_region
          clear ck fk ck5 fk5 hlm
          generalize w4.drew = w5 at *
          generalize wr.heap.size = G at *
          have f5 := blk_cell HB5.out
          go_wp2_with fail
          obtain ⟨hbr, hbl⟩ := turn_body HE.out
          have HBR := Lib.hid hbr
          have HTS := Lib.hid (fun nm sg hn hs hne => turned_sig x o nm sg HE.out hn ho1 hs hne)
          clear hbr
          refine (show Calls Tryz.prog 15 #[invV x] w5 _ from iBody x HOK.out w5 HI5.out).mono ?_
          rintro e v1 ⟨rfl, hb⟩
          have HBv1 := Lib.hid (blk_below HB5.out hb (blk_lt HB5.out))
          have HIv1 := Lib.hid (iok_below HI5.out hb)
          have HLv1 : Hid (GL [] w v1) := Lib.hid (gl_below hb HL5.out)
          clear hb HB5 HI5 HL5 f5
          have fv1 := blk_cell HBv1.out
          rw [HBR.out]
          generalize bodyE x = be at *
          generalize bodyT x = bt at *
          go_wp2_with fail
          have hnl := nameT_len o ho1
          refine (tMkName o ho0 ho1 _ HIv1.out.g).mono ?_
          rintro e v2 ⟨rfl, hb⟩
          have HBv2 := Lib.hid (blk_below HBv1.out hb (blk_lt HBv1.out))
          have HIv2 := Lib.hid (iok_below HIv1.out hb)
          have HLv2 : Hid (GL [] w v2) := Lib.hid (gl_below hb HLv1.out)
          clear hb HBv1 HIv1 HLv1 fv1
          have fv2 := blk_cell HBv2.out
          have HNT : Hid (nameT o = ((nameT o).1, (nameT o).2)) := Lib.hid rfl
          generalize (nameT o).1 = nm at *
          generalize (nameT o).2 = ne at *
          go_wp2_with fail
          have hsl2 := twoT_len 83 nm bt
          refine (tSign nm bt om_ om_ _ HIv2.out.g).mono ?_
          rintro e v3 ⟨rfl, hb⟩
          have HBv3 := Lib.hid (blk_below HBv2.out hb (blk_lt HBv2.out))
          have HIv3 := Lib.hid (iok_below HIv2.out hb)
          have HLv3 : Hid (GL [] w v3) := Lib.hid (gl_below hb HLv2.out)
          clear hb HBv2 HIv2 HLv2 fv2
          have fv3 := blk_cell HBv3.out
          have HST : Hid (twoT 83 nm bt = ((twoT 83 nm bt).1, (twoT 83 nm bt).2)) := Lib.hid rfl
          generalize (twoT 83 nm bt).1 = sg at *
          generalize (twoT 83 nm bt).2 = se at *
          by_cases hne : ne = 0
          · subst hne
            by_cases hse : se = 0
            · subst hse
              by_cases hsg : sg = x.sig
              · have hq1 : (sg == x.sig) = true := by rw [hsg]; simp
                clear HTS HNT HST hsg
                generalize x.sig = xs at *
                go_wp2_with fail
                refine (lWorksI _ HIv3.out).mono ?_
                rintro e wz ⟨rfl, hbz⟩
                go_wp2_with fail
                exact bodyPost_ret (v := .bool true) (by simp [results, Tryz.results8, go_sem]) rfl ⟨rfl, gl_to_below (gl_below hbz HLv3.out)⟩
              · have hq1 : (sg == x.sig) = false := by simpa using hsg
                have HT71 := Lib.hid (HTS.out nm sg HNT.out HST.out hsg)
                have HOK2 := Lib.hid (inv_sig HOK.out hsl2)
                have HV2 : Hid (invV { x with sig := sg } = .agg #[.int .i64 x.am, .int .i64 x.st, .string (bs x.hash), .string (bs x.payee), .string (bs x.memo), .int .i64 x.ex, .int .i64 x.de, .string (bs sg)]) := Lib.hid rfl
                have hfz := blk_free HBv3.out
                have HB9 := Lib.hid (blk_set HBv3.out 7 (.string (bs sg)))
                have HI9 : Hid (IOk (v3.setCell ⟨w.heap.size, 7, none⟩ (.string (bs sg)))) := Lib.hid (iok_glr HIv3.out (gl_set (gl_refl [w.heap.size] v3) (.inl si_) _) (fun r hr => by obtain rfl : r = w.heap.size := (by simpa using hr); exact HI.out.g.size))
                have HL9 : Hid (GL [] w (v3.setCell ⟨w.heap.size, 7, none⟩ (.string (bs sg)))) := Lib.hid (gl_set HLv3.out (.inr (Nat.le_refl _)) _)
                clear HTS HNT HST hsg
                go_upto_region 24 with fail
                clear fv3 hfz HBv3 HIv3 HLv3
                generalize v3.setCell ⟨w.heap.size, 7, none⟩ (.string (bs sg)) = v4 at *
                have f9 := blk_cell HB9.out
                simp only [List.setIfInBounds_toArray, List.set_cons_zero, List.set_cons_succ] at f9
                go_wp2_with fail
                refine (show Calls Tryz.prog 17 #[invV { x with sig := sg }] v4 _ from iEncode { x with sig := sg } HOK2.out v4 HI9.out).mono ?_
                rintro e v5 ⟨rfl, hb⟩
                have HI10 := Lib.hid (iok_below HI9.out hb)
                have HL10 : Hid (GL [] w v5) := Lib.hid (gl_below hb HL9.out)
                rw [HT71.out]
                generalize encIR { x with sig := sg } = rr at *
                clear hb f9 HB9 HI9 HL9
                go_wp2_with fail
                refine (lWorksI _ HI10.out).mono ?_
                rintro e wz ⟨rfl, hbz⟩
                go_wp2_with fail
                exact bodyPost_ret (v := .bool true) (by simp [results, Tryz.results8, go_sem]) rfl ⟨rfl, gl_to_below (gl_below hbz HL10.out)⟩
            · have hq2 : (se == 0) = false := by simpa using hse
              have hq3 : (se != 0) = true := by simpa using hse
              clear HTS HNT HST hse
              generalize x.sig = xs at *
              go_wp2_with fail
              refine (lWorksI _ HIv3.out).mono ?_
              rintro e wz ⟨rfl, hbz⟩
              go_wp2_with fail
              exact bodyPost_ret (v := .bool true) (by simp [results, Tryz.results8, go_sem]) rfl ⟨rfl, gl_to_below (gl_below hbz HLv3.out)⟩
          · have hq2 : (ne == 0) = false := by simpa using hne
            have hq3 : (ne != 0) = true := by simpa using hne
            clear HTS HNT HST hne
            generalize x.sig = xs at *
            go_wp2_with fail
            refine (lWorksI _ HIv3.out).mono ?_
            rintro e wz ⟨rfl, hbz⟩
            go_wp2_with fail
            exact bodyPost_ret (v := .bool true) (by simp [results, Tryz.results8, go_sem]) rfl ⟨rfl, gl_to_below (gl_below hbz HLv3.out)⟩
        · have HDI := Lib.hid (HT6.out k m hk1 hk2 HM.out hlk)
          have hq : (((et.getD k 0).toNat : Int) != (letter m).toNat) = true := by
           rw [bne_iff_ne]
           exact fun e => hlk (UInt8.toNat_inj.1 om_)
          have HIN6 : Hid (CvAt (.slice (some ⟨wr.heap.size, 0, none⟩) et.length c) (et.set k (letter m)) (w4.drew.setCell ⟨wr.heap.size, k, none⟩ (.int .u8 ((letter m).toNat : Int)))) := Lib.hid (cvAt_set HIN5.out k hk2 (letter m) _ rfl)
          have HB6 : Hid ((w4.drew.setCell ⟨wr.heap.size, k, none⟩ (.int .u8 ((letter m).toNat : Int))).heap[w.heap.size]? = some (.cells #[.int .i64 x.am, .int .i64 x.st, .string (bs x.hash), .string (bs x.payee), .string (bs x.memo), .int .i64 x.ex, .int .i64 x.de, .string (bs x.sig)] 31 (0, 0))) := Lib.hid (blk_gl HB5.out (gl_set (gl_refl [wr.heap.size] w4.drew) (.inl si_) _) so_)
          have HI6 : Hid (IOk (w4.drew.setCell ⟨wr.heap.size, k, none⟩ (.int .u8 ((letter m).toNat : Int)))) := Lib.hid (iok_glr HI5.out (gl_set (gl_refl [wr.heap.size] w4.drew) (.inl si_) _) (fun r hr => by obtain rfl : r = wr.heap.size := (by simpa using hr); exact Nat.le_trans HI.out.g.size hWN))
          have HL6 : Hid (GL [] w (w4.drew.setCell ⟨wr.heap.size, k, none⟩ (.int .u8 ((letter m).toNat : Int)))) := Lib.hid (gl_set HL5.out (.inr hWN) _)
          have hy2 := (letter m).toNat_lt
          have hbk := run_back 9 Tryz.underlying9 _ (et.set k (letter m)) _ (cvAt_in HIN6.out)
          have hsl : (et.set k (letter m)).length ≤ 32768 := by rw [List.length_set]; exact t3
          clear hlk HIN5 HB5 HI5 HL5
          generalize et.set k (letter m) = es at *
          generalize (letter m).toNat = y2 at *
          generalize (et.getD k 0).toNat = y1 at *
          go_region
          clear ck fk
          generalize w4.drew = w5 at *
          generalize wr.heap.size = G at *
          have HVz : Hid (invV Inv.zero = .agg #[.int .i64 0, .int .i64 0, .string (bs []), .string (bs []), .string (bs []), .int .i64 0, .int .i64 0, .string (bs [])]) := Lib.hid rfl
          go_wp2_with fail
          clear HT6 ck5 fk5 hlm HIN6 hbk
          generalize w5.setCell ⟨G, k, none⟩ (.int .u8 (y2 : Int)) = w6 at *
          have HDC := Lib.hid (iDecode es om_ w6 HI6.out)
          unfold DcO at HDC
          rw [HDI.out, HVz.out] at HDC
          refine HDC.out.mono ?_
          rintro e w7 ⟨rfl, hb7⟩
          have HB7 := Lib.hid (blk_below HB6.out hb7 (blk_lt HB6.out))
          have HI7 := Lib.hid (iok_below HI6.out hb7)
          have HL7 : Hid (GL [] w w7) := Lib.hid (gl_below hb7 HL6.out)
          clear hb7 HB6 HI6 HL6 HDC HDI
          go_upto_region 16 with fail
          have HB8 := Lib.hid (blk_alloc HB7.out (.cells #[.int .i64 0, .int .i64 0, .string (bs []), .string (bs []), .string (bs []), .int .i64 0, .int .i64 0, .string (bs [])] 31))
          have HI8 : Hid (IOk (w7.alloc (.cells #[.int .i64 0, .int .i64 0, .string (bs []), .string (bs []), .string (bs []), .int .i64 0, .int .i64 0, .string (bs [])] 31))) := Lib.hid (iok_gl HI7.out (gl_alloc (gl_refl _ _) _))
          have HL8 : Hid (GL [] w (w7.alloc (.cells #[.int .i64 0, .int .i64 0, .string (bs []), .string (bs []), .string (bs []), .int .i64 0, .int .i64 0, .string (bs [])] 31))) := Lib.hid (gl_alloc HL7.out _)
          generalize w7.alloc (.cells #[.int .i64 0, .int .i64 0, .string (bs []), .string (bs []), .string (bs []), .int .i64 0, .int .i64 0, .string (bs [])] 31) = w8 at *
          generalize w7.heap.size = Y7 at *
          have f8 := blk_cell HB8.out
          clear HB7 HI7 HL7
          go_wp2_with fail
          obtain ⟨hbr, hbl⟩ := turn_body HE.out
          have HBR := Lib.hid hbr
          have HTS := Lib.hid (fun nm sg hn hs hne => turned_sig x o nm sg HE.out hn ho1 hs hne)
          clear hbr
          refine (show Calls Tryz.prog 15 #[invV x] w8 _ from iBody x HOK.out w8 HI8.out).mono ?_
          rintro e v1 ⟨rfl, hb⟩
          have HBv1 := Lib.hid (blk_below HB8.out hb (blk_lt HB8.out))
          have HIv1 := Lib.hid (iok_below HI8.out hb)
          have HLv1 : Hid (GL [] w v1) := Lib.hid (gl_below hb HL8.out)
          clear hb HB8 HI8 HL8 f8
          have fv1 := blk_cell HBv1.out
          rw [HBR.out]
          generalize bodyE x = be at *
          generalize bodyT x = bt at *
          go_wp2_with fail
          have hnl := nameT_len o ho1
          refine (tMkName o ho0 ho1 _ HIv1.out.g).mono ?_
          rintro e v2 ⟨rfl, hb⟩
          have HBv2 := Lib.hid (blk_below HBv1.out hb (blk_lt HBv1.out))
          have HIv2 := Lib.hid (iok_below HIv1.out hb)
          have HLv2 : Hid (GL [] w v2) := Lib.hid (gl_below hb HLv1.out)
          clear hb HBv1 HIv1 HLv1 fv1
          have fv2 := blk_cell HBv2.out
          have HNT : Hid (nameT o = ((nameT o).1, (nameT o).2)) := Lib.hid rfl
          generalize (nameT o).1 = nm at *
          generalize (nameT o).2 = ne at *
          go_wp2_with fail
          have hsl2 := twoT_len 83 nm bt
          refine (tSign nm bt om_ om_ _ HIv2.out.g).mono ?_
          rintro e v3 ⟨rfl, hb⟩
          have HBv3 := Lib.hid (blk_below HBv2.out hb (blk_lt HBv2.out))
          have HIv3 := Lib.hid (iok_below HIv2.out hb)
          have HLv3 : Hid (GL [] w v3) := Lib.hid (gl_below hb HLv2.out)
          clear hb HBv2 HIv2 HLv2 fv2
          have fv3 := blk_cell HBv3.out
          have HST : Hid (twoT 83 nm bt = ((twoT 83 nm bt).1, (twoT 83 nm bt).2)) := Lib.hid rfl
          generalize (twoT 83 nm bt).1 = sg at *
          generalize (twoT 83 nm bt).2 = se at *
          by_cases hne : ne = 0
          · subst hne
            by_cases hse : se = 0
            · subst hse
              by_cases hsg : sg = x.sig
              · have hq1 : (sg == x.sig) = true := by rw [hsg]; simp
                clear HTS HNT HST hsg
                generalize x.sig = xs at *
                go_wp2_with fail
                refine (lWorksI _ HIv3.out).mono ?_
                rintro e wz ⟨rfl, hbz⟩
                go_wp2_with fail
                exact bodyPost_ret (v := .bool true) (by simp [results, Tryz.results8, go_sem]) rfl ⟨rfl, gl_to_below (gl_below hbz HLv3.out)⟩
              · have hq1 : (sg == x.sig) = false := by simpa using hsg
                have HT71 := Lib.hid (HTS.out nm sg HNT.out HST.out hsg)
                have HOK2 := Lib.hid (inv_sig HOK.out hsl2)
                have HV2 : Hid (invV { x with sig := sg } = .agg #[.int .i64 x.am, .int .i64 x.st, .string (bs x.hash), .string (bs x.payee), .string (bs x.memo), .int .i64 x.ex, .int .i64 x.de, .string (bs sg)]) := Lib.hid rfl
                have hfz := blk_free HBv3.out
                have HB9 := Lib.hid (blk_set HBv3.out 7 (.string (bs sg)))
                have HI9 : Hid (IOk (v3.setCell ⟨w.heap.size, 7, none⟩ (.string (bs sg)))) := Lib.hid (iok_glr HIv3.out (gl_set (gl_refl [w.heap.size] v3) (.inl si_) _) (fun r hr => by obtain rfl : r = w.heap.size := (by simpa using hr); exact HI.out.g.size))
                have HL9 : Hid (GL [] w (v3.setCell ⟨w.heap.size, 7, none⟩ (.string (bs sg)))) := Lib.hid (gl_set HLv3.out (.inr (Nat.le_refl _)) _)
                clear HTS HNT HST hsg
                go_upto_region 24 with fail
                clear fv3 hfz HBv3 HIv3 HLv3
                generalize v3.setCell ⟨w.heap.size, 7, none⟩ (.string (bs sg)) = v4 at *
                have f9 := blk_cell HB9.out
                simp only [List.setIfInBounds_toArray, List.set_cons_zero, List.set_cons_succ] at f9
                go_wp2_with fail
                refine (show Calls Tryz.prog 17 #[invV { x with sig := sg }] v4 _ from iEncode { x with sig := sg } HOK2.out v4 HI9.out).mono ?_
                rintro e v5 ⟨rfl, hb⟩
                have HI10 := Lib.hid (iok_below HI9.out hb)
                have HL10 : Hid (GL [] w v5) := Lib.hid (gl_below hb HL9.out)
                rw [HT71.out]
                generalize encIR { x with sig := sg } = rr at *
                clear hb f9 HB9 HI9 HL9
                go_wp2_with fail
                refine (lWorksI _ HI10.out).mono ?_
                rintro e wz ⟨rfl, hbz⟩
                go_wp2_with fail
                exact bodyPost_ret (v := .bool true) (by simp [results, Tryz.results8, go_sem]) rfl ⟨rfl, gl_to_below (gl_below hbz HL10.out)⟩
            · have hq2 : (se == 0) = false := by simpa using hse
              have hq3 : (se != 0) = true := by simpa using hse
              clear HTS HNT HST hse
              generalize x.sig = xs at *
              go_wp2_with fail
              refine (lWorksI _ HIv3.out).mono ?_
              rintro e wz ⟨rfl, hbz⟩
              go_wp2_with fail
              exact bodyPost_ret (v := .bool true) (by simp [results, Tryz.results8, go_sem]) rfl ⟨rfl, gl_to_below (gl_below hbz HLv3.out)⟩
          · have hq2 : (ne == 0) = false := by simpa using hne
            have hq3 : (ne != 0) = true := by simpa using hne
            clear HTS HNT HST hne
            generalize x.sig = xs at *
            go_wp2_with fail
            refine (lWorksI _ HIv3.out).mono ?_
            rintro e wz ⟨rfl, hbz⟩
            go_wp2_with fail
            exact bodyPost_ret (v := .bool true) (by simp [results, Tryz.results8, go_sem]) rfl ⟨rfl, gl_to_below (gl_below hbz HLv3.out)⟩
      · have h49 : (et.getD i 0).toNat ≠ 49 := fun e => HT5.out i om_ hi2 (UInt8.toNat_inj.1 e)
        have h50 : (((et.getD i 0).toNat : Int) != 49) = true := by rw [bne_iff_ne]; omega
        have h51 : (((et.getD i 0).toNat : Int) == 49) = false := by rw [beq_eq_false_iff_ne]; omega
        have hi0 : (0 : Int) ≤ i := by omega
        clear h49
        generalize (et.getD i 0).toNat = cc at *
        go_wp2_with fail
        exact ⟨⟨i - 1, by omega, by omega, by rw [show ((i - 1 : Nat) : Int) = (i : Int) - 1 by omega], by first | exact Lib.hid rfl | exact Lib.hid trivial⟩, by simp [intOf]; omega⟩
   · have hE1 : (encIE x != 0) = true := by simpa using hE
     have hE2 : (encIE x == 0) = false := by simpa using hE
     clear hE
     generalize encIE x = ee at *
     go_wp2_with fail
     refine (lWorksI _ HI3.out).mono ?_
     rintro e wz ⟨rfl, hbz⟩
     go_wp2_with fail
     exact bodyPost_ret (v := .bool true) (by simp [results, Tryz.results8, go_sem]) rfl ⟨rfl, gl_to_below (gl_below hbz HL3.out)⟩
end Go.Proofs.YtembdkodajichaaGreatDoor
