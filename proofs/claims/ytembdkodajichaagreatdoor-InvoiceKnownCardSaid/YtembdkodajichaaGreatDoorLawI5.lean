/- The laws of layer 7: InvoiceKnown. -/
import Derived.Test.YtembdkodajichaaGreatDoorLawI0
import Derived.Test.YtembdkodajichaaGreatDoorLawI3
import Derived.Test.YtembdkodajichaaGreatDoorLawI2
import Derived.Laws.OwnMore
set_option linter.unusedSimpArgs false
set_option linter.unusedVariables false
set_option maxRecDepth 100000
set_option maxHeartbeats 8000000
namespace Go.Proofs.YtembdkodajichaaGreatDoor
open Go.RowKit
def textOf (h ws : List UInt8) : List UInt8 := h ++ 49 :: ws.map (fun x => letter x.toNat)
theorem hrp_chars {h : List UInt8} (h1 : hrpOk h = true) : 1 ≤ h.length ∧ h.length ≤ 83 ∧ ∀ c ∈ h, isUp c = false ∧ badC c = false := by
 unfold hrpOk at h1
 simp only [Bool.and_eq_true, decide_eq_true_eq, List.all_eq_true] at h1
 obtain ⟨⟨hl1, hl2⟩, hc⟩ := h1
 refine ⟨hl1, hl2, ?_⟩
 intro c hm
 have := hc c hm
 unfold hrpC at this
 simp only [Bool.and_eq_true, decide_eq_true_eq, Bool.not_eq_true'] at this
 refine ⟨this.2, ?_⟩
 unfold badC
 simp
 omega
theorem letters_ok {ws : List UInt8} (hall2 : ∀ x ∈ ws, x.toNat < 32) : ∀ c ∈ ws.map (fun x => letter x.toNat), c ≠ 49 ∧ isUp c = false ∧ badC c = false := by
 intro c hm
 obtain ⟨x, hx, rfl⟩ := List.mem_map.1 hm
 have := letter_small ⟨_, hall2 x hx⟩
 simp only at this
 refine ⟨fun e => this.1 (by rw [e]; rfl), ?_, ?_⟩
 · unfold isUp; simpa using this.2.2.2
 · unfold badC; simp; omega
theorem lastOne_text (h ws : List UInt8) (hall2 : ∀ x ∈ ws, x.toNat < 32) : lastOne (textOf h ws) = some h.length := by
 unfold textOf
 rw [lastOne_app, lastOne, lastOne_none (fun c hm => (letters_ok hall2 c hm).1)]
 simp
theorem decE_of (h ws : List UInt8) (h1 : hrpOk h = true) (hall2 : ∀ x ∈ ws, x.toNat < 32) (hn : 6 ≤ ws.length) (hm : h.length + ws.length + 1 ≤ 32768) : decE (textOf h ws) = if poly (headS h) ws ≠ 1 then 61 else 0 := by
 obtain ⟨hl1, hl2, hcl⟩ := hrp_chars h1
 have hlet := letters_ok hall2
 have hlast := lastOne_text h ws hall2
 have hT : textOf h ws = h ++ 49 :: ws.map (fun x => letter x.toNat) := rfl
 have hup : ∀ c ∈ textOf h ws, isUp c = false ∧ badC c = false := by
  intro c hm
  rw [hT] at hm
  rcases List.mem_append.1 hm with hm | hm
  · exact hcl c hm
  · rcases List.mem_cons.1 hm with rfl | hm
    · exact ⟨by decide, by decide⟩
    · exact (hlet c hm).2
 have hlow : (textOf h ws).map lowB = textOf h ws := by
  conv => rhs; rw [← List.map_id (textOf h ws)]
  exact List.map_congr_left fun c hm => by rw [lowB_id (hup c hm).1]; rfl
 have hat : atOf (textOf h ws) = h.length := by unfold atOf; rw [hlast]; rfl
 have hH : decH (textOf h ws) = h := by
  unfold decH
  rw [hlow, hat, hT]
  simp
 have htail : tailW (textOf h ws) = ws := by
  unfold tailW
  rw [hlow, hat, hT]
  rw [show h.length + 1 = (h ++ [49]).length by simp, show h ++ 49 :: ws.map (fun x => letter x.toNat) = (h ++ [49]) ++ ws.map (fun x => letter x.toNat) by simp, List.drop_left, List.map_map]
  conv => rhs; rw [← List.map_id ws]
  refine List.map_congr_left fun x hx => ?_
  have := word_letter ⟨_, hall2 x hx⟩
  simp only [Function.comp_apply, id_eq] at this ⊢
  rw [this]
  simp
 have hlen : (textOf h ws).length = h.length + ws.length + 1 := by rw [hT]; simp; omega
 unfold decE
 rw [if_neg om_, if_neg, if_neg, htail, hH]
 · rw [htail]
   simp only [List.any_eq_true, decide_eq_true_eq, not_exists, not_and]
   intro x hx
   have := hall2 x hx
   omega
 · unfold decBad
   rw [hlast]
   simp only [Bool.or_eq_true, Bool.and_eq_true, decide_eq_true_eq, List.any_eq_true, not_or]
   refine ⟨⟨?_, ?_⟩, ?_⟩
   · rintro ⟨c, hm, hb⟩
     rw [(hup c hm).2] at hb
     cases hb
   · rintro ⟨_, c, hm, hb⟩
     rw [(hup c hm).1] at hb
     cases hb
   · rw [hlen]
     omega
theorem sixW_lt (c : Nat) : ∀ x ∈ sixW c, x.toNat < 32 := by
 intro x hx
 unfold sixW at hx
 obtain ⟨i, _, rfl⟩ := List.mem_map.1 hx
 rw [ofNat32]
 omega
theorem turned_sum (h w : List UInt8) (he : encE h w = 0) (k j : Nat) (hk : h.length + 1 ≤ k) (hk2 : k < (encT h w).length) (hj : j < 32) (hne : (encT h w)[k]? ≠ some (letter j)) : lastOne (encT h w) = some h.length ∧ decE ((encT h w).set k (letter j)) = 61 := by
 unfold encE at he
 split at he
 · cases he
 rename_i h1
 split at he
 · cases he
 rename_i h2
 split at he
 · cases he
 rename_i h3
 simp only [Bool.not_eq_false] at h1
 have hall : ∀ x ∈ w ++ sixW (fitC h w), x.toNat < 32 := by
  intro x hx
  rcases List.mem_append.1 hx with hx | hx
  · simp only [List.any_eq_true, decide_eq_true_eq, not_exists, not_and] at h2
    have := h2 x hx
    omega
  · exact sixW_lt _ x hx
 have hp := fit_ok h w
 have hT : encT h w = textOf h (w ++ sixW (fitC h w)) := by unfold encT textOf; rw [List.map_append]
 have hsl : (w ++ sixW (fitC h w)).length = w.length + 6 := by simp [sixW]
 rw [hT] at hk2 hne ⊢
 generalize w ++ sixW (fitC h w) = ws at *
 refine ⟨lastOne_text h ws hall, ?_⟩
 have hlen : (textOf h ws).length = h.length + ws.length + 1 := by unfold textOf; simp; omega
 obtain ⟨i, rfl⟩ : ∃ i, k = h.length + 1 + i := ⟨k - h.length - 1, by omega⟩
 have hi : i < ws.length := by omega
 have hjn : (UInt8.ofNat j).toNat = j := by simp; omega
 have hset : (textOf h ws).set (h.length + 1 + i) (letter j) = textOf h (ws.set i (UInt8.ofNat j)) := by
  unfold textOf
  rw [List.set_append_right _ _ om_, show h.length + 1 + i - h.length = i + 1 by omega, List.set_cons_succ, List.map_set, hjn]
 have hget : (textOf h ws)[h.length + 1 + i]? = some (letter ws[i].toNat) := by
  unfold textOf
  rw [List.getElem?_append_right om_, show h.length + 1 + i - h.length = i + 1 by omega, List.getElem?_cons_succ, List.getElem?_map, List.getElem?_eq_getElem hi]
  rfl
 rw [hget] at hne
 have hab : ws[i] ≠ UInt8.ofNat j := by
  intro e
  exact hne (by rw [e, hjn])
 have hws : ws = ws.take i ++ ws[i] :: ws.drop (i + 1) := by
  rw [← List.drop_eq_getElem_cons hi, List.take_append_drop]
 have hws2 : ws.set i (UInt8.ofNat j) = ws.take i ++ UInt8.ofNat j :: ws.drop (i + 1) := by
  rw [List.set_eq_take_append_cons_drop, if_pos hi]
 rw [hset, decE_of h (ws.set i (UInt8.ofNat j)) h1 (by
  intro x hx
  rcases List.mem_or_eq_of_mem_set hx with hx | rfl
  · exact hall x hx
  · omega) so_ so_]
 rw [if_pos]
 have hpo := poly_one (headS h) (headS_lt h) (ws.take i) (ws.drop (i + 1)) ws[i] (UInt8.ofNat j) hab
 rw [← hws, ← hws2, hp] at hpo
 exact fun e => hpo e.symm
theorem verify_plainI {k m s : List UInt8} (h : verifyT (80 :: k) m s = true) : s = 83 :: (k ++ m) := by
 unfold verifyT at h
 split at h
 · cases h
 · rename_i x hx
   simp only [Bool.and_eq_true, beq_iff_eq] at h
   obtain ⟨⟨h1, h2⟩, h3⟩ := h
   have hop : x.op = 83 := UInt8.toNat_inj.1 h1
   have ha : arity x.op = some 2 := by rw [hop]; rfl
   obtain ⟨a, b, hk, _⟩ := rt_two_kids hx ha
   rw [hk] at h2 h3
   simp only [List.getD_cons_zero, List.getD_cons_succ] at h2 h3
   have := rt_text hx ha
   rw [this, hop, hk, key_plain h3, h2]
   simp [cat]
theorem turned_sig (x : Inv) (o : Int) (nm sg : List UInt8) (he : encIE x = 0) (hn : nameT o = (nm, 0)) (ho : o ≤ 9223372036854775807) (hs : twoT 83 nm (bodyT x) = (sg, 0)) (hne : sg ≠ x.sig) : encIE { x with sig := sg } = 71 := by
 obtain ⟨h1, h2, h3, h4⟩ := enc_zero x he
 have hb : bodyE x = 0 := by unfold bodyE; rw [if_neg (by simp [h1]), if_neg (by simp [h2])]
 have hb2 : bodyE { x with sig := sg } = 0 := hb
 have ht2 : bodyT { x with sig := sg } = bodyT x := rfl
 unfold encIE
 rw [hb2, if_neg si_, ht2]
 split
 · rfl
 · rename_i hc
   exfalso
   have hv : verifyT x.payee (bodyT x) sg = true := by
    cases hvv : verifyT x.payee (bodyT x) sg with
    | true => rfl
    | false => exact absurd (.inr hvv) hc
   unfold nameT at hn
   split at hn
   · cases hn
   have hnm : nm = nameL o.toNat := ((Prod.mk.inj hn).1).symm
   subst hnm
   have hk : o.toNat ≤ 9223372036854775807 := by omega
   have hqb := q_body x
   rw [sign_name o.toNat hk (bodyT x) hqb] at hs
   have hsg : 83 :: (nameL o.toNat ++ bodyT x) = sg := (Prod.mk.inj hs).1
   subst hsg
   obtain ⟨t, r1, r2, r3⟩ := rt_two_at (c := 83) de_ (by simp [fitsB]) (q_name o.toNat hk) hqb om_ om_
   unfold verifyT at hv
   rw [r1] at hv
   simp only [r3, List.getD_cons_zero, keyT_name o.toNat hk, Bool.and_eq_true, beq_iff_eq] at hv
   have hp := hv.2
   rw [← hp] at h4
   exact hne (verify_plainI h4).symm
theorem turn_facts {x : Inv} (h : encIE x = 0) : 1 ≤ (hrpI x).length ∧ (hrpI x).length + 7 ≤ (encIT x).length ∧ (encIT x).length ≤ 32768 ∧ (encIT x).getD (hrpI x).length 0 = 49 ∧ (∀ j, (hrpI x).length < j → j < (encIT x).length → (encIT x).getD j 0 ≠ 49) ∧
  ∀ k m, (hrpI x).length + 1 ≤ k → k < (encIT x).length → m < 32 → (encIT x).getD k 0 ≠ letter m → decI ((encIT x).set k (letter m)) = (Inv.zero, 61) := by
 have hl := enc_len h
 obtain ⟨h1, h2, h3, h4⟩ := enc_zero x h
 have hb := enc_bech x h2 h3
 have hall : ∀ y ∈ allW x ++ sixW (fitC (hrpI x) (allW x)), y.toNat < 32 := by
  intro y hy
  rcases List.mem_append.1 hy with hy | hy
  · exact (allW_lt x h2 h3).1 y hy
  · exact sixW_lt _ y hy
 have hT : encIT x = hrpI x ++ 49 :: (allW x ++ sixW (fitC (hrpI x) (allW x))).map (fun x => letter x.toNat) := by unfold encIT encT; rw [List.map_append]
 have hlen : (encIT x).length = (hrpI x).length + (allW x).length + 7 := by rw [hT]; simp [sixW]; omega
 have h4 : 1 ≤ (hrpI x).length := by unfold hrpI lnsw; simp
 refine ⟨h4, by omega, hl, ?_, ?_, ?_⟩
 · rw [List.getD_eq_getElem?_getD, hT, List.getElem?_append_right (Nat.le_refl _), Nat.sub_self]
   rfl
 · intro j hj hj2
   rw [List.getD_eq_getElem?_getD, hT, List.getElem?_append_right om_]
   obtain ⟨i, rfl⟩ : ∃ i, j = (hrpI x).length + 1 + i := ⟨j - (hrpI x).length - 1, by omega⟩
   rw [show (hrpI x).length + 1 + i - (hrpI x).length = i + 1 by omega, List.getElem?_cons_succ]
   have hi : i < ((allW x ++ sixW (fitC (hrpI x) (allW x))).map (fun x => letter x.toNat)).length := by simp [sixW]; omega
   rw [List.getElem?_eq_getElem hi]
   exact (letters_ok hall _ (List.getElem_mem hi)).1
 · intro k m hk hk2 hm hne
   have ht := turned_sum (hrpI x) (allW x) hb k m hk hk2 hm (by
    intro e
    apply hne
    rw [List.getD_eq_getElem?_getD]
    show ((encT (hrpI x) (allW x))[k]?).getD 0 = _
    rw [e]
    rfl)
   have ht2 : decE ((encIT x).set k (letter m)) = 61 := ht.2
   unfold decI
   rw [ht2, if_pos de_]
theorem turn_at (n i : Nat) (hi : i + 2 ≤ n) (hn : n ≤ 32768) (a : Int) : ∃ k : Nat, i + 1 ≤ k ∧ k < n ∧ wrap64 ((n : Int) - 1 - wrap64 ((IntKind.u64.wrap a).tmod ((n : Int) - i - 1))) = (k : Int) := by
 have h0 : 0 ≤ IntKind.u64.wrap a := by simp only [IntKind.wrap, IntKind.signed, IntKind.bits]; simp; omega
 generalize IntKind.u64.wrap a = u at *
 rw [Int.tmod_eq_emod_of_nonneg h0]
 have h1 := Int.emod_nonneg u (show (n : Int) - i - 1 ≠ 0 by omega)
 have h2 := Int.emod_lt_of_pos u (show (0 : Int) < (n : Int) - i - 1 by omega)
 generalize u % ((n : Int) - i - 1) = r at *
 refine ⟨n - 1 - r.toNat, by omega, by omega, ?_⟩
 have h3 : wrap64 r = r := by unfold wrap64; omega
 rw [h3]
 unfold wrap64
 omega
theorem nameT_len (o : Int) (ho : o ≤ 9223372036854775807) : (nameT o).1.length ≤ 100 := by
 unfold nameT
 split
 · simp
 · have := dec_len20 o.toNat om_
   simp
   omega
theorem turn_body {x : Inv} (h : encIE x = 0) : bodyR x = bodyT x ∧ (bodyT x).length ≤ 86 := by
 obtain ⟨h1, h2, h3, h4⟩ := enc_zero x h
 have hb : bodyE x = 0 := by unfold bodyE; rw [if_neg (by simp [h1]), if_neg (by simp [h2])]
 exact ⟨by unfold bodyR; rw [if_pos hb], (q_body x).2⟩
theorem inv_sig {x : Inv} (h : InvOk x) {sg : List UInt8} (hs : sg.length ≤ 16384) : InvOk { x with sig := sg } := ⟨h.am0, h.am1, h.st0, h.st1, h.ex0, h.ex1, h.de0, h.de1, h.hash, h.payee, h.memo, by show sg.length ≤ 1000000; omega⟩
theorem lInvoiceTurned (x : Inv) (hx : InvBig x) (a o : Int) (b : Nat) (hb : b < 256) (ha0 : -9223372036854775808 ≤ a) (ha1 : a ≤ 9223372036854775807) (ho0 : -9223372036854775808 ≤ o) (ho1 : o ≤ 9223372036854775807) (w : World) (hI : IOk w) :
  Calls Tryz.prog 8 #[invV x, .int .i64 a, .int .u8 b, .int .i64 o] w fun e w' => e = .returned (.bool true) ∧ Below w.heap.size w w' := by
 have HX := Lib.hid hx
 have HI := Lib.hid hI
 clear hx hI
 unfold invV
 go_enter Tryz.func8, Tryz.ntmps8
 go_wp2_with fail
 have HB1 := Lib.hid (blk_new w (.cells #[.int .i64 x.am, .int .i64 x.st, .string (bs x.hash), .string (bs x.payee), .string (bs x.memo), .int .i64 x.ex, .int .i64 x.de, .string (bs x.sig)] 31))
 have HI1 : Hid (IOk (w.alloc (.cells #[.int .i64 x.am, .int .i64 x.st, .string (bs x.hash), .string (bs x.payee), .string (bs x.memo), .int .i64 x.ex, .int .i64 x.de, .string (bs x.sig)] 31))) := Lib.hid (iok_gl HI.out (gl_alloc (gl_refl _ _) _))
 have HL1 : Hid (GL [] w (w.alloc (.cells #[.int .i64 x.am, .int .i64 x.st, .string (bs x.hash), .string (bs x.payee), .string (bs x.memo), .int .i64 x.ex, .int .i64 x.de, .string (bs x.sig)] 31))) := Lib.hid (gl_alloc (gl_refl _ _) _)
 generalize w.alloc (.cells #[.int .i64 x.am, .int .i64 x.st, .string (bs x.hash), .string (bs x.payee), .string (bs x.memo), .int .i64 x.ex, .int .i64 x.de, .string (bs x.sig)] 31) = w1 at *
 refine (show Calls Tryz.prog 14 #[invV x] w1 _ from lSize x HX.out w1).mono ?_
 rintro e w2 ⟨rfl, hb2⟩
 have HB2 := Lib.hid (blk_below HB1.out hb2 (blk_lt HB1.out))
 have HI2 := Lib.hid (iok_below HI1.out hb2)
 have HL2 : Hid (GL [] w w2) := Lib.hid (gl_below hb2 HL1.out)
 clear hb2 HB1 HI1 HL1
 by_cases hz : 3000 < sizeI x
 · have hz1 : (3000 : Int) < sizeI x := by omega
   clear hz
   generalize sizeI x = sz at *
   go_wp2_with fail
   refine (lWorksI _ HI2.out).mono ?_
   rintro e wz ⟨rfl, hbz⟩
   go_wp2_with fail
   exact bodyPost_ret (v := .bool true) (by simp [results, Tryz.results8, go_sem]) rfl ⟨rfl, gl_to_below (gl_below hbz HL2.out)⟩
 · have hz1 : (sizeI x : Int) ≤ 3000 := by omega
   have HOK := Lib.hid (inv_small HX.out om_)
   clear hz
   generalize sizeI x = sz at *
   have f2 := blk_cell HB2.out
   go_wp2_with fail
   refine (show Calls Tryz.prog 17 #[invV x] w2 _ from iEncode x HOK.out w2 HI2.out).mono ?_
   rintro e w3 ⟨rfl, hb3⟩
   have HB3 := Lib.hid (blk_below HB2.out hb3 (blk_lt HB2.out))
   have HI3 := Lib.hid (iok_below HI2.out hb3)
   have HL3 : Hid (GL [] w w3) := Lib.hid (gl_below hb3 HL2.out)
   clear hb3 HB2 HI2 HL2 f2
   by_cases hE : encIE x = 0
   · have HE := Lib.hid hE
     have HRx : Hid (encIR x = encIT x) := Lib.hid (by unfold encIR; rw [if_pos hE])
     obtain ⟨t1, t2, t3, t4, t5, t6⟩ := turn_facts hE
     have HT4 := Lib.hid t4
     have HT5 := Lib.hid t5
     have HT6 := Lib.hid t6
     rw [hE, HRx.out]
     clear hE HRx t4 t5 t6
     generalize encIT x = et at *
     generalize (hrpI x).length = H at *
     go_wp2_with fail
     go_loopw [11] (fun iv wr => ∃ i : Nat, H ≤ i ∧ i < et.length ∧ iv = .int .i64 (i : Int) ∧ Hid (wr = w3)) (fun iv _ => (intOf iv).toNat)
     case atStart => exact ⟨et.length - 1, by omega, by omega, by rw [show ((et.length - 1 : Nat) : Int) = et.length - 1 by omega], Lib.hid rfl⟩
     case round =>
      obtain ⟨i, hi1, hi2, rfl, hw⟩ := hrel
      obtain rfl := hw.out
      clear hw
      have hix : ∀ W, (Instr.index 9 (.string (bs et)) (.int .i64 (i : Int))).run Tryz.prog W = .ok (.int .u8 ((et.getD i 0).toNat : Nat)) W := fun W => index_strK W .i64 et i hi2
      by_cases hH : i = H
      · subst hH
        rw [HT4.out] at hix
        have hi0 : (0 : Int) ≤ i := by omega
        obtain ⟨c, w4, hcv, hin, hg4⟩ := run_conv 9 Tryz.underlying9 et wr om_
        have HIN := Lib.hid hin
        have HB4 := Lib.hid (blk_gl HB3.out hg4 si_)
        have HI4 := Lib.hid (iok_gl HI3.out hg4)
        have HL4 : Hid (GL [] w w4) := Lib.hid (gl_step hg4 HL3.out si_)
        have hi3 : (i : Int) + 2 ≤ et.length := by omega
        clear hin hg4
        go_wp2_with fail
        obtain ⟨k, hk1, hk2, hk⟩ := turn_at et.length i om_ t3 a
        rw [hk]
        clear hk
        obtain ⟨ck, fk⟩ := cvAt_cell HIN.out k hk2
        obtain ⟨m, hm, h32⟩ : ∃ m : Nat, m < 32 ∧ (b : Int).tmod 32 = m := ⟨b % 32, by omega, by rw [Int.tmod_eq_emod_of_nonneg om_]; omega⟩
        have hlm : ∀ W, (Instr.index 9 (.string (bs [113, 112, 122, 114, 121, 57, 120, 56, 103, 102, 50, 116, 118, 100, 119, 48, 115, 51, 106, 110, 53, 52, 107, 104, 99, 101, 54, 109, 117, 97, 55, 108])) (.int .u8 (m : Int))).run Tryz.prog W = .ok (.int .u8 ((letter m).toNat : Nat)) W := fun W => index_strK W .u8 letB m hm
        have hk0 : (0 : Int) ≤ k := by omega
        have hk3 : (k : Int) < et.length := by omega
        have HM := Lib.hid hm
        have HIN5 : Hid (CvAt (.slice (some ⟨wr.heap.size, 0, none⟩) et.length c) et w4.drew) := Lib.hid (cvAt_gl HIN.out (gl_drew (gl_refl [] w4)))
        have HB5 := Lib.hid (blk_drew HB4.out)
        have HI5 : Hid (IOk w4.drew) := Lib.hid (iok_gl HI4.out (gl_drew (gl_refl [] w4)))
        have HL5 : Hid (GL [] w w4.drew) := Lib.hid (gl_drew HL4.out)
        have hWN : w.heap.size ≤ wr.heap.size := HL3.out.size
        have hWb : w.heap.size < wr.heap.size := blk_lt HB3.out
        obtain ⟨ck5, fk5⟩ := cvAt_cell HIN5.out k hk2
        clear hcv HIN HB4 HI4 HL4 hix HB3 HI3 HT4 HT5 hm
        by_cases hlk : et.getD k 0 = letter m
        · have hq : (((et.getD k 0).toNat : Int) != (letter m).toNat) = false := by rw [hlk]; simp
          clear hlk HT6 HIN5
          generalize (et.getD k 0).toNat = y1 at *
          generalize (letter m).toNat = y2 at *
          go_region
          clear ck fk ck5 fk5 hlm
          generalize w4.drew = w5 at *
          generalize wr.heap.size = G at *
          have f5 := blk_cell HB5.out
          go_wp2_with fail
          obtain ⟨hbr, hbl⟩ := turn_body HE.out
          have HBR := Lib.hid hbr
          have HTS := Lib.hid (fun nm sg hn hs hne => turned_sig x o nm sg HE.out hn ho1 hs hne)
          clear hbr
          refine (show Calls Tryz.prog 15 #[invV x] w5 _ from iBody x HOK.out w5 HI5.out).mono ?_
          rintro e v1 ⟨rfl, hb⟩
          have HBv1 := Lib.hid (blk_below HB5.out hb (blk_lt HB5.out))
          have HIv1 := Lib.hid (iok_below HI5.out hb)
          have HLv1 : Hid (GL [] w v1) := Lib.hid (gl_below hb HL5.out)
          clear hb HB5 HI5 HL5 f5
          have fv1 := blk_cell HBv1.out
          rw [HBR.out]
          generalize bodyE x = be at *
          generalize bodyT x = bt at *
          go_wp2_with fail
          have hnl := nameT_len o ho1
          refine (tMkName o ho0 ho1 _ HIv1.out.g).mono ?_
          rintro e v2 ⟨rfl, hb⟩
          have HBv2 := Lib.hid (blk_below HBv1.out hb (blk_lt HBv1.out))
          have HIv2 := Lib.hid (iok_below HIv1.out hb)
          have HLv2 : Hid (GL [] w v2) := Lib.hid (gl_below hb HLv1.out)
          clear hb HBv1 HIv1 HLv1 fv1
          have fv2 := blk_cell HBv2.out
          have HNT : Hid (nameT o = ((nameT o).1, (nameT o).2)) := Lib.hid rfl
          generalize (nameT o).1 = nm at *
          generalize (nameT o).2 = ne at *
          go_wp2_with fail
          have hsl2 := twoT_len 83 nm bt
          refine (tSign nm bt om_ om_ _ HIv2.out.g).mono ?_
          rintro e v3 ⟨rfl, hb⟩
          have HBv3 := Lib.hid (blk_below HBv2.out hb (blk_lt HBv2.out))
          have HIv3 := Lib.hid (iok_below HIv2.out hb)
          have HLv3 : Hid (GL [] w v3) := Lib.hid (gl_below hb HLv2.out)
          clear hb HBv2 HIv2 HLv2 fv2
          have fv3 := blk_cell HBv3.out
          have HST : Hid (twoT 83 nm bt = ((twoT 83 nm bt).1, (twoT 83 nm bt).2)) := Lib.hid rfl
          generalize (twoT 83 nm bt).1 = sg at *
          generalize (twoT 83 nm bt).2 = se at *
          by_cases hne : ne = 0
          · subst hne
            by_cases hse : se = 0
            · subst hse
              by_cases hsg : sg = x.sig
              · have hq1 : (sg == x.sig) = true := by rw [hsg]; simp
                clear HTS HNT HST hsg
                generalize x.sig = xs at *
                go_wp2_with fail
                refine (lWorksI _ HIv3.out).mono ?_
                rintro e wz ⟨rfl, hbz⟩
                go_wp2_with fail
                exact bodyPost_ret (v := .bool true) (by simp [results, Tryz.results8, go_sem]) rfl ⟨rfl, gl_to_below (gl_below hbz HLv3.out)⟩
              · have hq1 : (sg == x.sig) = false := by simpa using hsg
                have HT71 := Lib.hid (HTS.out nm sg HNT.out HST.out hsg)
                have HOK2 := Lib.hid (inv_sig HOK.out hsl2)
                have HV2 : Hid (invV { x with sig := sg } = .agg #[.int .i64 x.am, .int .i64 x.st, .string (bs x.hash), .string (bs x.payee), .string (bs x.memo), .int .i64 x.ex, .int .i64 x.de, .string (bs sg)]) := Lib.hid rfl
                have hfz := blk_free HBv3.out
                have HB9 := Lib.hid (blk_set HBv3.out 7 (.string (bs sg)))
                have HI9 : Hid (IOk (v3.setCell ⟨w.heap.size, 7, none⟩ (.string (bs sg)))) := Lib.hid (iok_glr HIv3.out (gl_set (gl_refl [w.heap.size] v3) (.inl si_) _) (fun r hr => by obtain rfl : r = w.heap.size := (by simpa using hr); exact HI.out.g.size))
                have HL9 : Hid (GL [] w (v3.setCell ⟨w.heap.size, 7, none⟩ (.string (bs sg)))) := Lib.hid (gl_set HLv3.out (.inr (Nat.le_refl _)) _)
                clear HTS HNT HST hsg
                go_upto_region 24 with fail
                clear fv3 hfz HBv3 HIv3 HLv3
                generalize v3.setCell ⟨w.heap.size, 7, none⟩ (.string (bs sg)) = v4 at *
                have f9 := blk_cell HB9.out
                simp only [List.setIfInBounds_toArray, List.set_cons_zero, List.set_cons_succ] at f9
                go_wp2_with fail
                refine (show Calls Tryz.prog 17 #[invV { x with sig := sg }] v4 _ from iEncode { x with sig := sg } HOK2.out v4 HI9.out).mono ?_
                rintro e v5 ⟨rfl, hb⟩
                have HI10 := Lib.hid (iok_below HI9.out hb)
                have HL10 : Hid (GL [] w v5) := Lib.hid (gl_below hb HL9.out)
                rw [HT71.out]
                generalize encIR { x with sig := sg } = rr at *
                clear hb f9 HB9 HI9 HL9
                go_wp2_with fail
                refine (lWorksI _ HI10.out).mono ?_
                rintro e wz ⟨rfl, hbz⟩
                go_wp2_with fail
                exact bodyPost_ret (v := .bool true) (by simp [results, Tryz.results8, go_sem]) rfl ⟨rfl, gl_to_below (gl_below hbz HL10.out)⟩
            · have hq2 : (se == 0) = false := by simpa using hse
              have hq3 : (se != 0) = true := by simpa using hse
              clear HTS HNT HST hse
              generalize x.sig = xs at *
              go_wp2_with fail
              refine (lWorksI _ HIv3.out).mono ?_
              rintro e wz ⟨rfl, hbz⟩
              go_wp2_with fail
              exact bodyPost_ret (v := .bool true) (by simp [results, Tryz.results8, go_sem]) rfl ⟨rfl, gl_to_below (gl_below hbz HLv3.out)⟩
          · have hq2 : (ne == 0) = false := by simpa using hne
            have hq3 : (ne != 0) = true := by simpa using hne
            clear HTS HNT HST hne
            generalize x.sig = xs at *
            go_wp2_with fail
            refine (lWorksI _ HIv3.out).mono ?_
            rintro e wz ⟨rfl, hbz⟩
            go_wp2_with fail
            exact bodyPost_ret (v := .bool true) (by simp [results, Tryz.results8, go_sem]) rfl ⟨rfl, gl_to_below (gl_below hbz HLv3.out)⟩
        · have HDI := Lib.hid (HT6.out k m hk1 hk2 HM.out hlk)
          have hq : (((et.getD k 0).toNat : Int) != (letter m).toNat) = true := by
           rw [bne_iff_ne]
           exact fun e => hlk (UInt8.toNat_inj.1 om_)
          have HIN6 : Hid (CvAt (.slice (some ⟨wr.heap.size, 0, none⟩) et.length c) (et.set k (letter m)) (w4.drew.setCell ⟨wr.heap.size, k, none⟩ (.int .u8 ((letter m).toNat : Int)))) := Lib.hid (cvAt_set HIN5.out k hk2 (letter m) _ rfl)
          have HB6 : Hid ((w4.drew.setCell ⟨wr.heap.size, k, none⟩ (.int .u8 ((letter m).toNat : Int))).heap[w.heap.size]? = some (.cells #[.int .i64 x.am, .int .i64 x.st, .string (bs x.hash), .string (bs x.payee), .string (bs x.memo), .int .i64 x.ex, .int .i64 x.de, .string (bs x.sig)] 31 (0, 0))) := Lib.hid (blk_gl HB5.out (gl_set (gl_refl [wr.heap.size] w4.drew) (.inl si_) _) so_)
          have HI6 : Hid (IOk (w4.drew.setCell ⟨wr.heap.size, k, none⟩ (.int .u8 ((letter m).toNat : Int)))) := Lib.hid (iok_glr HI5.out (gl_set (gl_refl [wr.heap.size] w4.drew) (.inl si_) _) (fun r hr => by obtain rfl : r = wr.heap.size := (by simpa using hr); exact Nat.le_trans HI.out.g.size hWN))
          have HL6 : Hid (GL [] w (w4.drew.setCell ⟨wr.heap.size, k, none⟩ (.int .u8 ((letter m).toNat : Int)))) := Lib.hid (gl_set HL5.out (.inr hWN) _)
          have hy2 := (letter m).toNat_lt
          have hbk := run_back 9 Tryz.underlying9 _ (et.set k (letter m)) _ (cvAt_in HIN6.out)
          have hsl : (et.set k (letter m)).length ≤ 32768 := by rw [List.length_set]; exact t3
          clear hlk HIN5 HB5 HI5 HL5
          generalize et.set k (letter m) = es at *
          generalize (letter m).toNat = y2 at *
          generalize (et.getD k 0).toNat = y1 at *
          go_region
          clear ck fk
          generalize w4.drew = w5 at *
          generalize wr.heap.size = G at *
          have HVz : Hid (invV Inv.zero = .agg #[.int .i64 0, .int .i64 0, .string (bs []), .string (bs []), .string (bs []), .int .i64 0, .int .i64 0, .string (bs [])]) := Lib.hid rfl
          go_wp2_with fail
          clear HT6 ck5 fk5 hlm HIN6 hbk
          generalize w5.setCell ⟨G, k, none⟩ (.int .u8 (y2 : Int)) = w6 at *
          have HDC := Lib.hid (iDecode es om_ w6 HI6.out)
          unfold DcO at HDC
          rw [HDI.out, HVz.out] at HDC
          refine HDC.out.mono ?_
          rintro e w7 ⟨rfl, hb7⟩
          have HB7 := Lib.hid (blk_below HB6.out hb7 (blk_lt HB6.out))
          have HI7 := Lib.hid (iok_below HI6.out hb7)
          have HL7 : Hid (GL [] w w7) := Lib.hid (gl_below hb7 HL6.out)
          clear hb7 HB6 HI6 HL6 HDC HDI
          go_upto_region 16 with fail
          have HB8 := Lib.hid (blk_alloc HB7.out (.cells #[.int .i64 0, .int .i64 0, .string (bs []), .string (bs []), .string (bs []), .int .i64 0, .int .i64 0, .string (bs [])] 31))
          have HI8 : Hid (IOk (w7.alloc (.cells #[.int .i64 0, .int .i64 0, .string (bs []), .string (bs []), .string (bs []), .int .i64 0, .int .i64 0, .string (bs [])] 31))) := Lib.hid (iok_gl HI7.out (gl_alloc (gl_refl _ _) _))
          have HL8 : Hid (GL [] w (w7.alloc (.cells #[.int .i64 0, .int .i64 0, .string (bs []), .string (bs []), .string (bs []), .int .i64 0, .int .i64 0, .string (bs [])] 31))) := Lib.hid (gl_alloc HL7.out _)
          generalize w7.alloc (.cells #[.int .i64 0, .int .i64 0, .string (bs []), .string (bs []), .string (bs []), .int .i64 0, .int .i64 0, .string (bs [])] 31) = w8 at *
          generalize w7.heap.size = Y7 at *
          have f8 := blk_cell HB8.out
          clear HB7 HI7 HL7
          go_wp2_with fail
          obtain ⟨hbr, hbl⟩ := turn_body HE.out
          have HBR := Lib.hid hbr
          have HTS := Lib.hid (fun nm sg hn hs hne => turned_sig x o nm sg HE.out hn ho1 hs hne)
          clear hbr
          refine (show Calls Tryz.prog 15 #[invV x] w8 _ from iBody x HOK.out w8 HI8.out).mono ?_
          rintro e v1 ⟨rfl, hb⟩
          have HBv1 := Lib.hid (blk_below HB8.out hb (blk_lt HB8.out))
          have HIv1 := Lib.hid (iok_below HI8.out hb)
          have HLv1 : Hid (GL [] w v1) := Lib.hid (gl_below hb HL8.out)
          clear hb HB8 HI8 HL8 f8
          have fv1 := blk_cell HBv1.out
          rw [HBR.out]
          generalize bodyE x = be at *
          generalize bodyT x = bt at *
          go_wp2_with fail
          have hnl := nameT_len o ho1
          refine (tMkName o ho0 ho1 _ HIv1.out.g).mono ?_
          rintro e v2 ⟨rfl, hb⟩
          have HBv2 := Lib.hid (blk_below HBv1.out hb (blk_lt HBv1.out))
          have HIv2 := Lib.hid (iok_below HIv1.out hb)
          have HLv2 : Hid (GL [] w v2) := Lib.hid (gl_below hb HLv1.out)
          clear hb HBv1 HIv1 HLv1 fv1
          have fv2 := blk_cell HBv2.out
          have HNT : Hid (nameT o = ((nameT o).1, (nameT o).2)) := Lib.hid rfl
          generalize (nameT o).1 = nm at *
          generalize (nameT o).2 = ne at *
          go_wp2_with fail
          have hsl2 := twoT_len 83 nm bt
          refine (tSign nm bt om_ om_ _ HIv2.out.g).mono ?_
          rintro e v3 ⟨rfl, hb⟩
          have HBv3 := Lib.hid (blk_below HBv2.out hb (blk_lt HBv2.out))
          have HIv3 := Lib.hid (iok_below HIv2.out hb)
          have HLv3 : Hid (GL [] w v3) := Lib.hid (gl_below hb HLv2.out)
          clear hb HBv2 HIv2 HLv2 fv2
          have fv3 := blk_cell HBv3.out
          have HST : Hid (twoT 83 nm bt = ((twoT 83 nm bt).1, (twoT 83 nm bt).2)) := Lib.hid rfl
          generalize (twoT 83 nm bt).1 = sg at *
          generalize (twoT 83 nm bt).2 = se at *
          by_cases hne : ne = 0
          · subst hne
            by_cases hse : se = 0
            · subst hse
              by_cases hsg : sg = x.sig
              · have hq1 : (sg == x.sig) = true := by rw [hsg]; simp
                clear HTS HNT HST hsg
                generalize x.sig = xs at *
                go_wp2_with fail
                refine (lWorksI _ HIv3.out).mono ?_
                rintro e wz ⟨rfl, hbz⟩
                go_wp2_with fail
                exact bodyPost_ret (v := .bool true) (by simp [results, Tryz.results8, go_sem]) rfl ⟨rfl, gl_to_below (gl_below hbz HLv3.out)⟩
              · have hq1 : (sg == x.sig) = false := by simpa using hsg
                have HT71 := Lib.hid (HTS.out nm sg HNT.out HST.out hsg)
                have HOK2 := Lib.hid (inv_sig HOK.out hsl2)
                have HV2 : Hid (invV { x with sig := sg } = .agg #[.int .i64 x.am, .int .i64 x.st, .string (bs x.hash), .string (bs x.payee), .string (bs x.memo), .int .i64 x.ex, .int .i64 x.de, .string (bs sg)]) := Lib.hid rfl
                have hfz := blk_free HBv3.out
                have HB9 := Lib.hid (blk_set HBv3.out 7 (.string (bs sg)))
                have HI9 : Hid (IOk (v3.setCell ⟨w.heap.size, 7, none⟩ (.string (bs sg)))) := Lib.hid (iok_glr HIv3.out (gl_set (gl_refl [w.heap.size] v3) (.inl si_) _) (fun r hr => by obtain rfl : r = w.heap.size := (by simpa using hr); exact HI.out.g.size))
                have HL9 : Hid (GL [] w (v3.setCell ⟨w.heap.size, 7, none⟩ (.string (bs sg)))) := Lib.hid (gl_set HLv3.out (.inr (Nat.le_refl _)) _)
                clear HTS HNT HST hsg
                go_upto_region 24 with fail
                clear fv3 hfz HBv3 HIv3 HLv3
                generalize v3.setCell ⟨w.heap.size, 7, none⟩ (.string (bs sg)) = v4 at *
                have f9 := blk_cell HB9.out
                simp only [List.setIfInBounds_toArray, List.set_cons_zero, List.set_cons_succ] at f9
                go_wp2_with fail
                refine (show Calls Tryz.prog 17 #[invV { x with sig := sg }] v4 _ from iEncode { x with sig := sg } HOK2.out v4 HI9.out).mono ?_
                rintro e v5 ⟨rfl, hb⟩
                have HI10 := Lib.hid (iok_below HI9.out hb)
                have HL10 : Hid (GL [] w v5) := Lib.hid (gl_below hb HL9.out)
                rw [HT71.out]
                generalize encIR { x with sig := sg } = rr at *
                clear hb f9 HB9 HI9 HL9
                go_wp2_with fail
                refine (lWorksI _ HI10.out).mono ?_
                rintro e wz ⟨rfl, hbz⟩
                go_wp2_with fail
                exact bodyPost_ret (v := .bool true) (by simp [results, Tryz.results8, go_sem]) rfl ⟨rfl, gl_to_below (gl_below hbz HL10.out)⟩
            · have hq2 : (se == 0) = false := by simpa using hse
              have hq3 : (se != 0) = true := by simpa using hse
              clear HTS HNT HST hse
              generalize x.sig = xs at *
              go_wp2_with fail
              refine (lWorksI _ HIv3.out).mono ?_
              rintro e wz ⟨rfl, hbz⟩
              go_wp2_with fail
              exact bodyPost_ret (v := .bool true) (by simp [results, Tryz.results8, go_sem]) rfl ⟨rfl, gl_to_below (gl_below hbz HLv3.out)⟩
          · have hq2 : (ne == 0) = false := by simpa using hne
            have hq3 : (ne != 0) = true := by simpa using hne
            clear HTS HNT HST hne
            generalize x.sig = xs at *
            go_wp2_with fail
            refine (lWorksI _ HIv3.out).mono ?_
            rintro e wz ⟨rfl, hbz⟩
            go_wp2_with fail
            exact bodyPost_ret (v := .bool true) (by simp [results, Tryz.results8, go_sem]) rfl ⟨rfl, gl_to_below (gl_below hbz HLv3.out)⟩
      · have h49 : (et.getD i 0).toNat ≠ 49 := fun e => HT5.out i om_ hi2 (UInt8.toNat_inj.1 e)
        have h50 : (((et.getD i 0).toNat : Int) != 49) = true := by rw [bne_iff_ne]; omega
        have h51 : (((et.getD i 0).toNat : Int) == 49) = false := by rw [beq_eq_false_iff_ne]; omega
        have hi0 : (0 : Int) ≤ i := by omega
        clear h49
        generalize (et.getD i 0).toNat = cc at *
        go_wp2_with fail
        exact ⟨⟨i - 1, by omega, by omega, by rw [show ((i - 1 : Nat) : Int) = (i : Int) - 1 by omega], by first | exact Lib.hid rfl | exact Lib.hid trivial⟩, by simp [intOf]; omega⟩
   · have hE1 : (encIE x != 0) = true := by simpa using hE
     have hE2 : (encIE x == 0) = false := by simpa using hE
     clear hE
     generalize encIE x = ee at *
     go_wp2_with fail
     refine (lWorksI _ HI3.out).mono ?_
     rintro e wz ⟨rfl, hbz⟩
     go_wp2_with fail
     exact bodyPost_ret (v := .bool true) (by simp [results, Tryz.results8, go_sem]) rfl ⟨rfl, gl_to_below (gl_below hbz HL3.out)⟩
theorem lReads (s : List UInt8) (n : Int) (hs : s.length ≤ 1000000) (hr : readV s = (n, 0)) (w : World) (hI : IOk w) :
  Calls Tryz.prog 22 #[.string (bs s), .int .i64 n] w fun e w' => e = .returned (.bool true) ∧ Below w.heap.size w w' := by
 have HI := Lib.hid hI
 have HRD := Lib.hid (iRead s hs w hI.g hI.units)
 unfold RdO at HRD
 rw [hr] at HRD
 clear hI hr
 go_enter Tryz.func22, Tryz.ntmps22
 go_wp2_with fail
 refine HRD.out.mono ?_
 rintro e w1 ⟨rfl, hb⟩
 go_wp2_with fail
 exact bodyPost_ret (v := .bool true) (by simp [results, Tryz.results22, go_sem]) rfl ⟨rfl, hb⟩
theorem lBad (s : List UInt8) (n : Int) (hs : s.length ≤ 1000000) (hr : readV s = (0, n)) (w : World) (hI : IOk w) :
  Calls Tryz.prog 23 #[.string (bs s), .int .i64 n] w fun e w' => e = .returned (.bool true) ∧ Below w.heap.size w w' := by
 have HI := Lib.hid hI
 have HRD := Lib.hid (iRead s hs w hI.g hI.units)
 unfold RdO at HRD
 rw [hr] at HRD
 clear hI hr
 go_enter Tryz.func23, Tryz.ntmps23
 go_wp2_with fail
 refine HRD.out.mono ?_
 rintro e w1 ⟨rfl, hb⟩
 go_wp2_with fail
 exact bodyPost_ret (v := .bool true) (by simp [results, Tryz.results23, go_sem]) rfl ⟨rfl, hb⟩
def knownN : List Int := [0, 100000000000, 250000000, 1, 1000, 123456, 2100000000000000000, 2099999999999999999]
def knownS : List (List UInt8) := [[], [49], [50, 53, 48, 48, 117], [49, 48, 112], [49, 48, 110], [49, 50, 51, 52, 53, 54, 48, 112], [50, 49, 48, 48, 48, 48, 48, 48], [50, 48, 57, 57, 57, 57, 57, 57, 57, 57, 57, 57, 57, 57, 57, 57, 57, 57, 57, 48, 112]]
theorem known_amounts : (knownN.map amountT == knownS && knownN.all fun n => decide (amountE n = 0)) = true := by decide +kernel
theorem known_reads : readV [50, 53, 109] = (2500000000, 0) ∧ readV [49, 48, 48, 48] = (100000000000000, 0) := by decide +kernel
def badI : List (List UInt8) := [[50, 53, 48, 48, 48, 117], [50, 53, 48, 48, 48, 48, 48, 110], [49, 53, 112], [48, 49], [48], [117], [48, 112], [49, 48, 48, 48, 112], [49, 107], [45, 49]]
theorem bad_inv : ∀ s ∈ badI, readV s = (0, 70) := by decide +kernel
def badM : List (List UInt8) := [[50, 49, 48, 48, 48, 48, 48, 49], List.replicate 32 57, List.replicate 32 57 ++ [109], [50, 49, 48, 48, 48, 48, 48, 48, 48, 48, 48, 48, 48, 48, 48, 48, 48, 48, 48, 49, 48, 112], [49, 48, 57, 57, 50, 54, 49, 49, 54, 49, 48, 54, 52, 55, 54, 56, 54, 48, 48, 55, 48, 112]]
theorem bad_money : ∀ s ∈ badM, readV s = (0, 40) := by decide +kernel
theorem encIE_body {x : Inv} {c : Int} (h : bodyE x = c) (hc : c ≠ 0) : encIE x = c := by
 unfold encIE
 rw [h, if_pos hc]
theorem ks1 : bodyE { sampleI with hash := [110, 55, 59] } = 70 := by decide +kernel
theorem ks2 : bodyE { sampleI with payee := [110, 53, 59] } = 70 := by decide +kernel
theorem ks3 : bodyE { sampleI with st := 34359738368 } = 70 := by decide +kernel
theorem ks4 : bodyE { sampleI with de := -1 } = 70 := by decide +kernel
theorem ks5 : bodyE { sampleI with memo := List.replicate 640 0 } = 70 := by decide +kernel
theorem ks6 : bodyE { sampleI with am := -1 } = 40 := by decide +kernel
theorem ks7a : bodyE { sampleI with memo := [99, 111, 102, 102, 101, 101] } = 0 := by decide +kernel
theorem ks7b : bodyT { sampleI with memo := [99, 111, 102, 102, 101, 101] } ≠ bodyT sample0 := by decide +kernel
theorem ks7 : encIE { sampleI with memo := [99, 111, 102, 102, 101, 101] } = 71 := by
 unfold encIE
 rw [ks7a, if_neg si_, if_pos]
 right
 cases h : verifyT ({ sampleI with memo := [99, 111, 102, 102, 101, 101] } : Inv).payee (bodyT { sampleI with memo := [99, 111, 102, 102, 101, 101] }) ({ sampleI with memo := [99, 111, 102, 102, 101, 101] } : Inv).sig with
 | false => rfl
 | true =>
   exfalso
   have h1 := verify_plainI (k := [110, 53, 59]) h
   have h2 : (83 :: ([110, 53, 59] ++ bodyT sample0) : List UInt8) = 83 :: ([110, 53, 59] ++ bodyT { sampleI with memo := [99, 111, 102, 102, 101, 101] }) := h1
   simp only [List.cons.injEq, true_and, List.append_cancel_left_eq] at h2
   exact ks7b h2.symm
theorem ko1 : InvOk { sampleI with hash := [110, 55, 59] } := ⟨sample_ok.am0, sample_ok.am1, sample_ok.st0, sample_ok.st1, sample_ok.ex0, sample_ok.ex1, sample_ok.de0, sample_ok.de1, by decide, sample_ok.payee, sample_ok.memo, sample_ok.sig⟩
theorem ko2 : InvOk { sampleI with payee := [110, 53, 59] } := ⟨sample_ok.am0, sample_ok.am1, sample_ok.st0, sample_ok.st1, sample_ok.ex0, sample_ok.ex1, sample_ok.de0, sample_ok.de1, sample_ok.hash, by decide, sample_ok.memo, sample_ok.sig⟩
theorem ko3 : InvOk { sampleI with st := 34359738368 } := ⟨sample_ok.am0, sample_ok.am1, by decide, by decide, sample_ok.ex0, sample_ok.ex1, sample_ok.de0, sample_ok.de1, sample_ok.hash, sample_ok.payee, sample_ok.memo, sample_ok.sig⟩
theorem ko4 : InvOk { sampleI with de := -1 } := ⟨sample_ok.am0, sample_ok.am1, sample_ok.st0, sample_ok.st1, sample_ok.ex0, sample_ok.ex1, by decide, by decide, sample_ok.hash, sample_ok.payee, sample_ok.memo, sample_ok.sig⟩
theorem ko5 : InvOk { sampleI with memo := List.replicate 640 0 } := ⟨sample_ok.am0, sample_ok.am1, sample_ok.st0, sample_ok.st1, sample_ok.ex0, sample_ok.ex1, sample_ok.de0, sample_ok.de1, sample_ok.hash, sample_ok.payee, by show (List.replicate 640 (0 : UInt8)).length ≤ 1000000; rw [List.length_replicate]; omega, sample_ok.sig⟩
theorem ko6 : InvOk { sampleI with am := -1 } := ⟨by decide, by decide, sample_ok.st0, sample_ok.st1, sample_ok.ex0, sample_ok.ex1, sample_ok.de0, sample_ok.de1, sample_ok.hash, sample_ok.payee, sample_ok.memo, sample_ok.sig⟩
theorem ko7 : InvOk { sampleI with memo := [99, 111, 102, 102, 101, 101] } := ⟨sample_ok.am0, sample_ok.am1, sample_ok.st0, sample_ok.st1, sample_ok.ex0, sample_ok.ex1, sample_ok.de0, sample_ok.de1, sample_ok.hash, sample_ok.payee, by decide, sample_ok.sig⟩
theorem kd1 : decI [97, 49, 50, 117, 101, 108, 53, 108] = (Inv.zero, 70) := by
 have h : decE [97, 49, 50, 117, 101, 108, 53, 108] = 0 ∧ lnsw.isPrefixOf (decH [97, 49, 50, 117, 101, 108, 53, 108]) = false := by decide +kernel
 unfold decI
 rw [if_neg (by simp [h.1]), if_pos h.2]
theorem kd2 : decI [] = (Inv.zero, 60) := by
 have h : decE [] = 60 := by decide +kernel
 unfold decI
 rw [h, if_pos de_]
theorem kv1 : keyT [86, 110, 49, 59, 110, 50, 59] = [87, 80, 110, 49, 59, 80, 110, 50, 59] := by decide +kernel
def kB : List UInt8 := [86, 110, 49, 59, 110, 50, 59]
def big0 : Inv := ⟨0, 34359738367, [72, 110, 49, 59], [87, 80, 110, 49, 59, 80, 110, 50, 59], List.replicate 639 0, 34359738367, 2147483647, []⟩
def bigI : Inv := { big0 with sig := 83 :: (kB ++ bodyT big0) }
theorem name_one : nameL 1 = [110, 49, 59] := by decide +kernel
theorem name_two : nameL 2 = [110, 50, 59] := by decide +kernel
theorem q_kB : Q 2 51 kB := by
 have h := q_two (c := 86) de_ (by simp [fitsB]) (q_name 1 om_) (q_name 2 om_)
 rw [name_one, name_two] at h
 exact h
theorem big_may : mayI big0 = true := by decide +kernel
theorem big_sig : twoT 83 kB (bodyT big0) = (bigI.sig, 0) := twoT_at de_ (by simp [fitsB]) q_kB (q_mono (q_body big0) (d' := 2) om_ (Nat.le_refl _)) om_ om_
theorem big_verify : verifyT big0.payee (bodyT big0) bigI.sig = true := by
 obtain ⟨s, h1, h2, h3⟩ := rt_two_at (c := 83) de_ (by simp [fitsB]) q_kB (q_mono (q_body big0) (d' := 2) om_ (Nat.le_refl _)) om_ om_
 unfold verifyT bigI
 simp only []
 rw [h1]
 have hk : keyT kB = big0.payee := kv1
 simp [h2, h3, hk]
theorem big_body : bodyE big0 = 0 := by
 unfold bodyE
 rw [if_neg de_, if_neg (by rw [big_may]; simp)]
theorem big_siglen : bigI.sig.length ≤ 639 := by
 have hq := (q_body big0).2
 show (83 :: (kB ++ bodyT big0)).length ≤ 639
 simp [kB]
 omega
theorem big_enc : encIE bigI = 0 := zero_enc bigI (show amountE 0 = 0 by decide) big_may big_siglen big_verify
theorem big_dec : decI (encIT bigI) = (bigI, 0) := dec_encI bigI big_enc
theorem big_len : (encIT bigI).length ≤ 1000000 := Nat.le_trans (turn_facts big_enc).2.2.1 om_
theorem big_ok0 : InvOk big0 := ⟨by decide, by decide, by decide, by decide, by decide, by decide, by decide, by decide, by decide, by decide, by show (List.replicate 639 (0 : UInt8)).length ≤ 1000000; rw [List.length_replicate]; omega, by decide⟩
theorem big_ok : InvOk bigI := ⟨big_ok0.am0, big_ok0.am1, big_ok0.st0, big_ok0.st1, big_ok0.ex0, big_ok0.ex1, big_ok0.de0, big_ok0.de1, big_ok0.hash, big_ok0.payee, big_ok0.memo, Nat.le_trans big_siglen om_⟩
theorem made_zeros (n : Nat) : (madeCells #[Value.int .u8 0] (n * 1)).toList = u8L (List.replicate n 0) := by
 apply List.ext_getElem
 · simp [u8L, size_madeCells]
 · intro i h1 h2
   simp [madeCells, u8L]
   rw [Nat.mod_one]
   rfl
theorem makeN (n : Nat) (hn : n ≤ 1000) (N : Int) (hN : N = n) (w : World) : ∃ w', (Instr.makeSlice 47 (.int .i64 N) (.int .i64 N)).run Tryz.prog w = .ok (.slice (some ⟨w.heap.size, 0, none⟩) n n) w' ∧
  (convert 47 9 (.slice (some ⟨w.heap.size, 0, none⟩) n n)).run Tryz.prog w' = .ok (.string (bs (List.replicate n 0))) w' ∧ GL [] w w' := by
 subst hN
 obtain ⟨t0, ht0, ht1, ht2, ht3⟩ := info_parts Tryz.infoB8
 obtain ⟨w', h1, h2, h3⟩ := run_makeSlice_full (P := Tryz.prog) (w := w) w.heap.size 47 5 t0 (.int .u8 0) 1 Tryz.underlying47 ht0 ht1 ht2 .i64 .i64 n om_ (by rw [ht3]; omega) (by unfold maxLen; omega) (Nat.le_refl _)
 refine ⟨w', h1, ?_, gl_grown h3 (gl_refl _ _) si_⟩
 have e : (madeCells (Value.int .u8 0).cells (n * 1)).toList = u8L (List.replicate n 0) := made_zeros n
 rw [e] at h2
 have hin := (ownB_in (lo := w.heap.size) (l := List.replicate n 0) (v := .slice (some ⟨w.heap.size, 0, none⟩) n n) (w := w') (by unfold OwnB; rw [List.length_replicate]; exact h2)).1
 exact run_back 9 Tryz.underlying9 _ _ _ hin
theorem iDecodeK (s : List UInt8) (x : Inv) (n : Int) (v : Value) (hd : decI s = (x, n)) (hv : invV x = v) (hl : s.length ≤ 1000000) (w : World) (hI : IOk w) :
  Calls Tryz.prog 19 #[.string (bs s)] w fun e w' => e = .returned (.tuple #[v, .int .i64 n]) ∧ Below w.heap.size w w' := by
 have h := iDecode s hl w hI
 unfold DcO at h
 rw [hd, hv] at h
 exact h
theorem kdec1 (w : World) (hI : IOk w) : Calls Tryz.prog 19 #[.string (bs [97, 49, 50, 117, 101, 108, 53, 108])] w fun e w' => e = .returned (.tuple #[.agg #[.int .i64 0, .int .i64 0, .string (bs []), .string (bs []), .string (bs []), .int .i64 0, .int .i64 0, .string (bs [])], .int .i64 70]) ∧ Below w.heap.size w w' :=
 iDecodeK _ Inv.zero 70 _ kd1 rfl de_ w hI
theorem kdec2 (w : World) (hI : IOk w) : Calls Tryz.prog 19 #[.string (bs [])] w fun e w' => e = .returned (.tuple #[.agg #[.int .i64 0, .int .i64 0, .string (bs []), .string (bs []), .string (bs []), .int .i64 0, .int .i64 0, .string (bs [])], .int .i64 60]) ∧ Below w.heap.size w w' :=
 iDecodeK _ Inv.zero 60 _ kd2 rfl de_ w hI
theorem eqv_big (zb sg : List UInt8) (W : World) : (binOp .eql 31 (.agg #[.int .i64 0, .int .i64 34359738367, .string (bs [72, 110, 49, 59]), .string (bs [87, 80, 110, 49, 59, 80, 110, 50, 59]), .string (bs zb), .int .i64 34359738367, .int .i64 2147483647, .string (bs sg)]) (.agg #[.int .i64 0, .int .i64 34359738367, .string (bs [72, 110, 49, 59]), .string (bs [87, 80, 110, 49, 59, 80, 110, 50, 59]), .string (bs zb), .int .i64 34359738367, .int .i64 2147483647, .string (bs sg)])).run Tryz.prog W = .ok (.bool true) W := by
 have h := eql_inv ⟨0, 34359738367, [72, 110, 49, 59], [87, 80, 110, 49, 59, 80, 110, 50, 59], zb, 34359738367, 2147483647, sg⟩ ⟨0, 34359738367, [72, 110, 49, 59], [87, 80, 110, 49, 59, 80, 110, 50, 59], zb, 34359738367, 2147483647, sg⟩ W
 rw [(eqInv_iff _ _).2 rfl] at h
 exact h
theorem bodyK (w : World) (hI : IOk w) : Calls Tryz.prog 15 #[.agg #[.int .i64 0, .int .i64 34359738367, .string (bs [72, 110, 49, 59]), .string (bs [87, 80, 110, 49, 59, 80, 110, 50, 59]), .string (bs (List.replicate 639 0)), .int .i64 34359738367, .int .i64 2147483647, .string (bs [])]] w fun e w' => e = .returned (.tuple #[.string (bs (bodyT big0)), .int .i64 0]) ∧ Below w.heap.size w w' := by
 have hc := iBody big0 big_ok0 w hI
 rw [(body_ok (x := big0) (show amountE 0 = 0 by decide) big_may).1, (body_ok (x := big0) (show amountE 0 = 0 by decide) big_may).2] at hc
 exact hc
theorem encK (w : World) (hI : IOk w) : Calls Tryz.prog 17 #[.agg #[.int .i64 0, .int .i64 34359738367, .string (bs [72, 110, 49, 59]), .string (bs [87, 80, 110, 49, 59, 80, 110, 50, 59]), .string (bs (List.replicate 639 0)), .int .i64 34359738367, .int .i64 2147483647, .string (bs bigI.sig)]] w fun e w' => e = .returned (.tuple #[.string (bs (encIT bigI)), .int .i64 0]) ∧ Below w.heap.size w w' := by
 have hc := iEncode bigI big_ok w hI
 rw [show encIR bigI = encIT bigI by unfold encIR; rw [if_pos big_enc], big_enc] at hc
 exact hc
theorem decK (w : World) (hI : IOk w) : Calls Tryz.prog 19 #[.string (bs (encIT bigI))] w fun e w' => e = .returned (.tuple #[.agg #[.int .i64 0, .int .i64 34359738367, .string (bs [72, 110, 49, 59]), .string (bs [87, 80, 110, 49, 59, 80, 110, 50, 59]), .string (bs (List.replicate 639 0)), .int .i64 34359738367, .int .i64 2147483647, .string (bs bigI.sig)], .int .i64 0]) ∧ Below w.heap.size w w' :=
 iDecodeK _ bigI 0 _ big_dec rfl big_len w hI
def kRow : Array Value := #[.int .i64 0, .int .i64 100000000000, .int .i64 250000000, .int .i64 1, .int .i64 1000, .int .i64 123456, .int .i64 2100000000000000000, .int .i64 2099999999999999999]
theorem known_at : ∀ i : Fin 8, amountT (knownN.getD i.val 0) = knownS.getD i.val [] ∧ amountE (knownN.getD i.val 0) = 0 ∧ (knownS.getD i.val []).length ≤ 100 ∧ -9223372036854775808 ≤ knownN.getD i.val 0 ∧ knownN.getD i.val 0 ≤ 9223372036854775807 := by decide +kernel
def tRow : Array Value := #[.string (bs []), .string (bs [49]), .string (bs [50, 53, 48, 48, 117]), .string (bs [49, 48, 112]), .string (bs [49, 48, 110]), .string (bs [49, 50, 51, 52, 53, 54, 48, 112]), .string (bs [50, 49, 48, 48, 48, 48, 48, 48]), .string (bs [50, 48, 57, 57, 57, 57, 57, 57, 57, 57, 57, 57, 57, 57, 57, 57, 57, 57, 57, 48, 112])]
def put8 (w : World) (B : Nat) (a b c d e f g h : Value) : World := (((((((w.setCell ⟨B, 0, none⟩ a).setCell ⟨B, 1, none⟩ b).setCell ⟨B, 2, none⟩ c).setCell ⟨B, 3, none⟩ d).setCell ⟨B, 4, none⟩ e).setCell ⟨B, 5, none⟩ f).setCell ⟨B, 6, none⟩ g).setCell ⟨B, 7, none⟩ h
theorem eight_of : ∀ (l : List Value), l.length = 8 → ∃ x0 x1 x2 x3 x4 x5 x6 x7, l = [x0, x1, x2, x3, x4, x5, x6, x7]
 | [x0, x1, x2, x3, x4, x5, x6, x7], _ => ⟨x0, x1, x2, x3, x4, x5, x6, x7, rfl⟩
theorem put8_blk {w : World} {B T : Nat} {cs : Array Value} (hw : w.heap[B]? = some (.cells cs T (0, 0))) (hs : cs.size = 8) (a b c d e f g h : Value) : (put8 w B a b c d e f g h).heap[B]? = some (.cells #[a, b, c, d, e, f, g, h] T (0, 0)) := by
 obtain ⟨l⟩ := cs
 obtain ⟨x0, x1, x2, x3, x4, x5, x6, x7, rfl⟩ := eight_of l hs
 clear hs
 have h8 := blk_set (blk_set (blk_set (blk_set (blk_set (blk_set (blk_set (blk_set hw 0 a) 1 b) 2 c) 3 d) 4 e) 5 f) 6 g) 7 h
 simp only [List.setIfInBounds_toArray, List.set_cons_zero, List.set_cons_succ] at h8
 unfold put8
 exact h8
theorem put8_gl (w : World) (B : Nat) (a b c d e f g h : Value) : GL [B] w (put8 w B a b c d e f g h) := by
 unfold put8
 exact gl_set (gl_set (gl_set (gl_set (gl_set (gl_set (gl_set (gl_set (gl_refl _ _) (.inl si_) _) (.inl si_) _) (.inl si_) _) (.inl si_) _) (.inl si_) _) (.inl si_) _) (.inl si_) _) (.inl si_) _
theorem alloc_size1 (w : World) (o : Obj) : (w.alloc o).heap.size = w.heap.size + 1 := by unfold World.alloc; exact Array.size_push _
theorem kRow_at (i : Nat) (h : i < 8) : kRow[i]? = some (.int .i64 (knownN.getD i 0)) ∧ tRow[i]? = some (.string (bs (knownS.getD i []))) := by
 rcases (by omega : i = 0 ∨ i = 1 ∨ i = 2 ∨ i = 3 ∨ i = 4 ∨ i = 5 ∨ i = 6 ∨ i = 7) with rfl | rfl | rfl | rfl | rfl | rfl | rfl | rfl <;> exact ⟨rfl, rfl⟩
theorem kn_2 : readV [50, 53, 109] = (2500000000, 0) := by decide +kernel
theorem kn_3 : readV [50, 53, 48, 48, 48, 117] = (0, 70) := by decide +kernel
theorem kn_4 : readV [50, 53, 48, 48, 48, 48, 48, 110] = (0, 70) := by decide +kernel
theorem kn_5 : readV [49, 53, 112] = (0, 70) := by decide +kernel
theorem kn_6 : readV [48, 49] = (0, 70) := by decide +kernel
theorem kn_7 : readV [48] = (0, 70) := by decide +kernel
theorem kn_8 : readV [117] = (0, 70) := by decide +kernel
theorem kn_9 : readV [48, 112] = (0, 70) := by decide +kernel
theorem kn_10 : readV [49, 48, 48, 48, 112] = (0, 70) := by decide +kernel
theorem kn_11 : readV [49, 107] = (0, 70) := by decide +kernel
theorem kn_12 : readV [45, 49] = (0, 70) := by decide +kernel
theorem kn_13 : readV [50, 49, 48, 48, 48, 48, 48, 49] = (0, 40) := by decide +kernel
theorem kn_14 : readV [57, 57, 57, 57, 57, 57, 57, 57, 57, 57, 57, 57, 57, 57, 57, 57, 57, 57, 57, 57, 57, 57, 57, 57, 57, 57, 57, 57, 57, 57, 57, 57] = (0, 40) := by decide +kernel
theorem kn_15 : readV [57, 57, 57, 57, 57, 57, 57, 57, 57, 57, 57, 57, 57, 57, 57, 57, 57, 57, 57, 57, 57, 57, 57, 57, 57, 57, 57, 57, 57, 57, 57, 57, 109] = (0, 40) := by decide +kernel
theorem kn_16 : readV [50, 49, 48, 48, 48, 48, 48, 48, 48, 48, 48, 48, 48, 48, 48, 48, 48, 48, 49, 48, 112] = (0, 40) := by decide +kernel
theorem kn_17 : readV [49, 48, 57, 57, 50, 54, 49, 49, 54, 49, 48, 54, 52, 55, 54, 56, 54, 48, 48, 55, 48, 112] = (0, 40) := by decide +kernel
theorem kn_18 : readV [49, 48, 48, 48] = (100000000000000, 0) := by decide +kernel
theorem sK1 (w : World) (hI : IOk w) : Calls Tryz.prog 17 #[.agg #[.int .i64 250000000, .int .i64 1700000000, .string (bs [110, 55, 59]), .string (bs [80, 110, 53, 59]), .string (bs [116, 101, 97]), .int .i64 3600, .int .i64 40, .string (bs sampleI.sig)]] w fun e w' => e = .returned (.tuple #[.string (bs (encIR { sampleI with hash := [110, 55, 59] })), .int .i64 70]) ∧ Below w.heap.size w w' := by
 have hc := iEncode { sampleI with hash := [110, 55, 59] } ko1 w hI
 rw [encIE_body ks1 de_] at hc
 exact hc
theorem sK2 (w : World) (hI : IOk w) : Calls Tryz.prog 17 #[.agg #[.int .i64 250000000, .int .i64 1700000000, .string (bs [72, 110, 55, 59]), .string (bs [110, 53, 59]), .string (bs [116, 101, 97]), .int .i64 3600, .int .i64 40, .string (bs sampleI.sig)]] w fun e w' => e = .returned (.tuple #[.string (bs (encIR { sampleI with payee := [110, 53, 59] })), .int .i64 70]) ∧ Below w.heap.size w w' := by
 have hc := iEncode { sampleI with payee := [110, 53, 59] } ko2 w hI
 rw [encIE_body ks2 de_] at hc
 exact hc
theorem sK3 (w : World) (hI : IOk w) : Calls Tryz.prog 17 #[.agg #[.int .i64 250000000, .int .i64 34359738368, .string (bs [72, 110, 55, 59]), .string (bs [80, 110, 53, 59]), .string (bs [116, 101, 97]), .int .i64 3600, .int .i64 40, .string (bs sampleI.sig)]] w fun e w' => e = .returned (.tuple #[.string (bs (encIR { sampleI with st := 34359738368 })), .int .i64 70]) ∧ Below w.heap.size w w' := by
 have hc := iEncode { sampleI with st := 34359738368 } ko3 w hI
 rw [encIE_body ks3 de_] at hc
 exact hc
theorem sK4 (w : World) (hI : IOk w) : Calls Tryz.prog 17 #[.agg #[.int .i64 250000000, .int .i64 1700000000, .string (bs [72, 110, 55, 59]), .string (bs [80, 110, 53, 59]), .string (bs [116, 101, 97]), .int .i64 3600, .int .i64 (-1), .string (bs sampleI.sig)]] w fun e w' => e = .returned (.tuple #[.string (bs (encIR { sampleI with de := -1 })), .int .i64 70]) ∧ Below w.heap.size w w' := by
 have hc := iEncode { sampleI with de := -1 } ko4 w hI
 rw [encIE_body ks4 de_] at hc
 exact hc
theorem sK5 (w : World) (hI : IOk w) : Calls Tryz.prog 17 #[.agg #[.int .i64 250000000, .int .i64 1700000000, .string (bs [72, 110, 55, 59]), .string (bs [80, 110, 53, 59]), .string (bs (List.replicate 640 0)), .int .i64 3600, .int .i64 40, .string (bs sampleI.sig)]] w fun e w' => e = .returned (.tuple #[.string (bs (encIR { sampleI with memo := List.replicate 640 0 })), .int .i64 70]) ∧ Below w.heap.size w w' := by
 have hc := iEncode { sampleI with memo := List.replicate 640 0 } ko5 w hI
 rw [encIE_body ks5 de_] at hc
 exact hc
theorem sK6 (w : World) (hI : IOk w) : Calls Tryz.prog 15 #[.agg #[.int .i64 (-1), .int .i64 1700000000, .string (bs [72, 110, 55, 59]), .string (bs [80, 110, 53, 59]), .string (bs [116, 101, 97]), .int .i64 3600, .int .i64 40, .string (bs sampleI.sig)]] w fun e w' => e = .returned (.tuple #[.string (bs (bodyR { sampleI with am := -1 })), .int .i64 40]) ∧ Below w.heap.size w w' := by
 have hc := iBody { sampleI with am := -1 } ko6 w hI
 rw [ks6] at hc
 exact hc
theorem sK7 (w : World) (hI : IOk w) : Calls Tryz.prog 17 #[.agg #[.int .i64 250000000, .int .i64 1700000000, .string (bs [72, 110, 55, 59]), .string (bs [80, 110, 53, 59]), .string (bs [99, 111, 102, 102, 101, 101]), .int .i64 3600, .int .i64 40, .string (bs sampleI.sig)]] w fun e w' => e = .returned (.tuple #[.string (bs (encIR { sampleI with memo := [99, 111, 102, 102, 101, 101] })), .int .i64 71]) ∧ Below w.heap.size w w' := by
 have hc := iEncode { sampleI with memo := [99, 111, 102, 102, 101, 101] } ko7 w hI
 rw [ks7] at hc
 exact hc
theorem lInvoiceKnown (w : World) (hI : IOk w) :
  Calls Tryz.prog 7 #[] w fun e w' => e = .returned (.bool true) ∧ Below w.heap.size w w' := by
 have HI := Lib.hid hI
 clear hI
 go_enter Tryz.func7, Tryz.ntmps7
 go_wp2_with fail
 have HL0 : Hid (GL [] w ((w.alloc (.cells kRow 2)).alloc (.cells tRow 9))) := Lib.hid (gl_alloc (gl_alloc (gl_refl _ _) _) _)
 have HI0 : Hid (IOk ((w.alloc (.cells kRow 2)).alloc (.cells tRow 9))) := Lib.hid (iok_gl HI.out HL0.out)
 have HK0 : Hid (((w.alloc (.cells kRow 2)).alloc (.cells tRow 9)).heap[w.heap.size]? = some (.cells kRow 2 (0, 0))) := Lib.hid (blk_alloc (blk_new w _) _)
 have HS0 : Hid (((w.alloc (.cells kRow 2)).alloc (.cells tRow 9)).heap[w.heap.size + 1]? = some (.cells tRow 9 (0, 0))) := Lib.hid (by rw [← alloc_size1 w (.cells kRow 2)]; exact blk_new _ _)
 unfold kRow tRow at HL0 HI0 HK0 HS0
 generalize (w.alloc (.cells #[.int .i64 0, .int .i64 100000000000, .int .i64 250000000, .int .i64 1, .int .i64 1000, .int .i64 123456, .int .i64 2100000000000000000, .int .i64 2099999999999999999] 2)).alloc (.cells #[.string (bs []), .string (bs [49]), .string (bs [50, 53, 48, 48, 117]), .string (bs [49, 48, 112]), .string (bs [49, 48, 110]), .string (bs [49, 50, 51, 52, 53, 54, 48, 112]), .string (bs [50, 49, 48, 48, 48, 48, 48, 48]), .string (bs [50, 48, 57, 57, 57, 57, 57, 57, 57, 57, 57, 57, 57, 57, 57, 57, 57, 57, 57, 48, 112])] 9) = w1 at *
 go_loopw [3] (fun iv wr => ∃ i : Nat, i ≤ 8 ∧ iv = .int .i64 (i : Int) ∧ Hid (wr.heap[w.heap.size]? = some (.cells kRow 2 (0, 0))) ∧ Hid (wr.heap[w.heap.size + 1]? = some (.cells tRow 9 (0, 0))) ∧ Hid (IOk wr) ∧ Hid (GL [] w wr)) (fun iv _ => 8 - (intOf iv).toNat)
 case atStart => exact ⟨0, by omega, rfl, HK0, HS0, HI0, HL0⟩
 case round =>
  obtain ⟨i, hi, rfl, HK, HS, HIr, HLr⟩ := hrel
  by_cases hlt : i < 8
  · have i1 : (i : Int) < 8 := by omega
    have hi0 : (0 : Int) ≤ i := by omega
    have ci : wr.cell? ⟨w.heap.size, i, none⟩ = some (.int .i64 (knownN.getD i 0)) := by rw [blk_cell HK.out]; exact (kRow_at i hlt).1
    obtain ⟨k1, k2, k3, k4, k5⟩ := known_at ⟨i, hlt⟩
    simp only at k1 k2 k3 k4 k5
    have HRA := Lib.hid (read_amount (knownN.getD i 0) k2)
    have HTA := Lib.hid (kRow_at i hlt).2
    rw [k1] at HRA
    generalize knownN.getD i 0 = n at *
    generalize knownS.getD i [] = t at *
    clear hlt
    go_wp2_with fail
    refine (iAmount n k4 k5 _ HIr.out.g HIr.out.units).mono ?_
    rintro e wa ⟨rfl, hb⟩
    have HKa := Lib.hid (blk_below HK.out hb (blk_lt HK.out))
    have HSa := Lib.hid (blk_below HS.out hb (blk_lt HS.out))
    have HIa := Lib.hid (iok_below HIr.out hb)
    have HLa : Hid (GL [] w wa) := Lib.hid (gl_below hb HLr.out)
    rw [k1, k2]
    have ca : wa.cell? ⟨w.heap.size, i, none⟩ = some (.int .i64 n) := by rw [← ci, blk_cell HKa.out, blk_cell HK.out]
    have da : wa.cell? ⟨w.heap.size + 1, i, none⟩ = some (.string (bs t)) := by rw [blk_cell HSa.out]; exact HTA.out
    clear hb ci k1 k2 HK HS HIr HLr
    go_wp2_with fail
    refine (lReads t n om_ HRA.out _ HIa.out).mono ?_
    rintro e wb ⟨rfl, hb⟩
    have HKb := Lib.hid (blk_below HKa.out hb (blk_lt HKa.out))
    have HSb := Lib.hid (blk_below HSa.out hb (blk_lt HSa.out))
    have HIb := Lib.hid (iok_below HIa.out hb)
    have HLb : Hid (GL [] w wb) := Lib.hid (gl_below hb HLa.out)
    clear hb ca da HKa HSa HIa HLa
    go_wp2_with fail
    exact ⟨⟨i + 1, by omega, by go_num, HKb, HSb, HIb, HLb⟩, by simp [intOf]; omega⟩
  · obtain rfl : i = 8 := by omega
    clear hlt HK HS
    have HI0' := HIr
    generalize hwr : wr = x0 at *
    clear hwr
    have HIx0 := HIr
    have HLx0 := HLr
    clear HIr HLr HI0'
    go_wp2_with fail
    refine (iAmount (-1) om_ om_ _ HIx0.out.g HIx0.out.units).mono ?_
    rintro e x1 ⟨rfl, hb⟩
    have HIx1 := Lib.hid (iok_below HIx0.out hb)
    have HLx1 : Hid (GL [] w x1) := Lib.hid (gl_below hb HLx0.out)
    clear hb HIx0 HLx0
    rw [show amountE (-1) = 40 by decide +kernel]
    generalize amountT (-1) = ta at *
    go_wp2_with fail
    refine (iAmount 2100000000000000001 om_ om_ _ HIx1.out.g HIx1.out.units).mono ?_
    rintro e x2 ⟨rfl, hb⟩
    have HIx2 := Lib.hid (iok_below HIx1.out hb)
    have HLx2 : Hid (GL [] w x2) := Lib.hid (gl_below hb HLx1.out)
    clear hb HIx1 HLx1
    rw [show amountE 2100000000000000001 = 40 by decide +kernel]
    generalize amountT 2100000000000000001 = tb at *
    go_wp2_with fail
    refine (lReads [50, 53, 109] 2500000000 de_ kn_2 _ HIx2.out).mono ?_
    rintro e x3 ⟨rfl, hb⟩
    have HIx3 := Lib.hid (iok_below HIx2.out hb)
    have HLx3 : Hid (GL [] w x3) := Lib.hid (gl_below hb HLx2.out)
    clear hb HIx2 HLx2
    go_wp2_with fail
    refine (lBad [50, 53, 48, 48, 48, 117] 70 de_ kn_3 _ HIx3.out).mono ?_
    rintro e x4 ⟨rfl, hb⟩
    have HIx4 := Lib.hid (iok_below HIx3.out hb)
    have HLx4 : Hid (GL [] w x4) := Lib.hid (gl_below hb HLx3.out)
    clear hb HIx3 HLx3
    go_wp2_with fail
    refine (lBad [50, 53, 48, 48, 48, 48, 48, 110] 70 de_ kn_4 _ HIx4.out).mono ?_
    rintro e x5 ⟨rfl, hb⟩
    have HIx5 := Lib.hid (iok_below HIx4.out hb)
    have HLx5 : Hid (GL [] w x5) := Lib.hid (gl_below hb HLx4.out)
    clear hb HIx4 HLx4
    go_wp2_with fail
    refine (lBad [49, 53, 112] 70 de_ kn_5 _ HIx5.out).mono ?_
    rintro e x6 ⟨rfl, hb⟩
    have HIx6 := Lib.hid (iok_below HIx5.out hb)
    have HLx6 : Hid (GL [] w x6) := Lib.hid (gl_below hb HLx5.out)
    clear hb HIx5 HLx5
    go_wp2_with fail
    refine (lBad [48, 49] 70 de_ kn_6 _ HIx6.out).mono ?_
    rintro e x7 ⟨rfl, hb⟩
    have HIx7 := Lib.hid (iok_below HIx6.out hb)
    have HLx7 : Hid (GL [] w x7) := Lib.hid (gl_below hb HLx6.out)
    clear hb HIx6 HLx6
    go_wp2_with fail
    refine (lBad [48] 70 de_ kn_7 _ HIx7.out).mono ?_
    rintro e x8 ⟨rfl, hb⟩
    have HIx8 := Lib.hid (iok_below HIx7.out hb)
    have HLx8 : Hid (GL [] w x8) := Lib.hid (gl_below hb HLx7.out)
    clear hb HIx7 HLx7
    go_wp2_with fail
    refine (lBad [117] 70 de_ kn_8 _ HIx8.out).mono ?_
    rintro e x9 ⟨rfl, hb⟩
    have HIx9 := Lib.hid (iok_below HIx8.out hb)
    have HLx9 : Hid (GL [] w x9) := Lib.hid (gl_below hb HLx8.out)
    clear hb HIx8 HLx8
    go_wp2_with fail
    refine (lBad [48, 112] 70 de_ kn_9 _ HIx9.out).mono ?_
    rintro e x10 ⟨rfl, hb⟩
    have HIx10 := Lib.hid (iok_below HIx9.out hb)
    have HLx10 : Hid (GL [] w x10) := Lib.hid (gl_below hb HLx9.out)
    clear hb HIx9 HLx9
    go_wp2_with fail
    refine (lBad [49, 48, 48, 48, 112] 70 de_ kn_10 _ HIx10.out).mono ?_
    rintro e x11 ⟨rfl, hb⟩
    have HIx11 := Lib.hid (iok_below HIx10.out hb)
    have HLx11 : Hid (GL [] w x11) := Lib.hid (gl_below hb HLx10.out)
    clear hb HIx10 HLx10
    go_wp2_with fail
    refine (lBad [49, 107] 70 de_ kn_11 _ HIx11.out).mono ?_
    rintro e x12 ⟨rfl, hb⟩
    have HIx12 := Lib.hid (iok_below HIx11.out hb)
    have HLx12 : Hid (GL [] w x12) := Lib.hid (gl_below hb HLx11.out)
    clear hb HIx11 HLx11
    go_wp2_with fail
    refine (lBad [45, 49] 70 de_ kn_12 _ HIx12.out).mono ?_
    rintro e x13 ⟨rfl, hb⟩
    have HIx13 := Lib.hid (iok_below HIx12.out hb)
    have HLx13 : Hid (GL [] w x13) := Lib.hid (gl_below hb HLx12.out)
    clear hb HIx12 HLx12
    go_wp2_with fail
    refine (lBad [50, 49, 48, 48, 48, 48, 48, 49] 40 de_ kn_13 _ HIx13.out).mono ?_
    rintro e x14 ⟨rfl, hb⟩
    have HIx14 := Lib.hid (iok_below HIx13.out hb)
    have HLx14 : Hid (GL [] w x14) := Lib.hid (gl_below hb HLx13.out)
    clear hb HIx13 HLx13
    go_wp2_with fail
    refine (lBad [57, 57, 57, 57, 57, 57, 57, 57, 57, 57, 57, 57, 57, 57, 57, 57, 57, 57, 57, 57, 57, 57, 57, 57, 57, 57, 57, 57, 57, 57, 57, 57] 40 de_ kn_14 _ HIx14.out).mono ?_
    rintro e x15 ⟨rfl, hb⟩
    have HIx15 := Lib.hid (iok_below HIx14.out hb)
    have HLx15 : Hid (GL [] w x15) := Lib.hid (gl_below hb HLx14.out)
    clear hb HIx14 HLx14
    go_wp2_with fail
    refine (lBad [57, 57, 57, 57, 57, 57, 57, 57, 57, 57, 57, 57, 57, 57, 57, 57, 57, 57, 57, 57, 57, 57, 57, 57, 57, 57, 57, 57, 57, 57, 57, 57, 109] 40 de_ kn_15 _ HIx15.out).mono ?_
    rintro e x16 ⟨rfl, hb⟩
    have HIx16 := Lib.hid (iok_below HIx15.out hb)
    have HLx16 : Hid (GL [] w x16) := Lib.hid (gl_below hb HLx15.out)
    clear hb HIx15 HLx15
    go_wp2_with fail
    refine (lBad [50, 49, 48, 48, 48, 48, 48, 48, 48, 48, 48, 48, 48, 48, 48, 48, 48, 48, 49, 48, 112] 40 de_ kn_16 _ HIx16.out).mono ?_
    rintro e x17 ⟨rfl, hb⟩
    have HIx17 := Lib.hid (iok_below HIx16.out hb)
    have HLx17 : Hid (GL [] w x17) := Lib.hid (gl_below hb HLx16.out)
    clear hb HIx16 HLx16
    go_wp2_with fail
    refine (lBad [49, 48, 57, 57, 50, 54, 49, 49, 54, 49, 48, 54, 52, 55, 54, 56, 54, 48, 48, 55, 48, 112] 40 de_ kn_17 _ HIx17.out).mono ?_
    rintro e x18 ⟨rfl, hb⟩
    have HIx18 := Lib.hid (iok_below HIx17.out hb)
    have HLx18 : Hid (GL [] w x18) := Lib.hid (gl_below hb HLx17.out)
    clear hb HIx17 HLx17
    go_wp2_with fail
    refine (lReads [49, 48, 48, 48] 100000000000000 de_ kn_18 _ HIx18.out).mono ?_
    rintro e x19 ⟨rfl, hb⟩
    have HIx19 := Lib.hid (iok_below HIx18.out hb)
    have HLx19 : Hid (GL [] w x19) := Lib.hid (gl_below hb HLx18.out)
    clear hb HIx18 HLx18
    have HSV : Hid (invV sampleI = .agg #[.int .i64 250000000, .int .i64 1700000000, .string (bs [72, 110, 55, 59]), .string (bs [80, 110, 53, 59]), .string (bs [116, 101, 97]), .int .i64 3600, .int .i64 40, .string (bs sampleI.sig)]) := Lib.hid rfl
    go_wp2_with fail
    refine (lSample _ HIx19.out).mono ?_
    rintro e y0 ⟨rfl, hb⟩
    have HIy0 := Lib.hid (iok_below HIx19.out hb)
    have HLy0 : Hid (GL [] w y0) := Lib.hid (gl_below hb HLx19.out)
    clear hb HIx19 HLx19
    rw [HSV.out]
    have hBW : w.heap.size ≤ y0.heap.size := HLy0.out.size
    go_upto_region 13 with fail
    have HBy1 := Lib.hid (blk_new y0 (.cells #[.int .i64 250000000, .int .i64 1700000000, .string (bs [72, 110, 55, 59]), .string (bs [80, 110, 53, 59]), .string (bs [116, 101, 97]), .int .i64 3600, .int .i64 40, .string (bs sampleI.sig)] 31))
    have HIy1 : Hid (IOk (y0.alloc (.cells #[.int .i64 250000000, .int .i64 1700000000, .string (bs [72, 110, 55, 59]), .string (bs [80, 110, 53, 59]), .string (bs [116, 101, 97]), .int .i64 3600, .int .i64 40, .string (bs sampleI.sig)] 31))) := Lib.hid (iok_gl HIy0.out (gl_alloc (gl_refl _ _) _))
    have HLy1 : Hid (GL [] w (y0.alloc (.cells #[.int .i64 250000000, .int .i64 1700000000, .string (bs [72, 110, 55, 59]), .string (bs [80, 110, 53, 59]), .string (bs [116, 101, 97]), .int .i64 3600, .int .i64 40, .string (bs sampleI.sig)] 31))) := Lib.hid (gl_alloc HLy0.out _)
    clear HIy0 HLy0
    generalize y0.alloc (.cells #[.int .i64 250000000, .int .i64 1700000000, .string (bs [72, 110, 55, 59]), .string (bs [80, 110, 53, 59]), .string (bs [116, 101, 97]), .int .i64 3600, .int .i64 40, .string (bs sampleI.sig)] 31) = y1 at *
    generalize y0.heap.size = B at *
    have HK1 := Lib.hid sK1
    have hfz := blk_free HBy1.out
    have HBz1 := Lib.hid (blk_set HBy1.out 2 (.string (bs [110, 55, 59])))
    have HIz1 : Hid (IOk (y1.setCell ⟨B, 2, none⟩ (.string (bs [110, 55, 59])))) := Lib.hid (iok_glr HIy1.out (gl_set (gl_refl [B] y1) (.inl si_) _) (fun r hr => by obtain rfl : r = B := (by simpa using hr); exact Nat.le_trans HI.out.g.size hBW))
    have HLz1 : Hid (GL [] w (y1.setCell ⟨B, 2, none⟩ (.string (bs [110, 55, 59])))) := Lib.hid (gl_set HLy1.out (.inr hBW) _)
    have fy1 := blk_cell HBy1.out
    go_upto_region 14 with fail
    clear fy1 hfz HBy1 HIy1 HLy1
    generalize y1.setCell ⟨B, 2, none⟩ (.string (bs [110, 55, 59])) = z1 at *
    have fz1 := blk_cell HBz1.out
    simp only [List.setIfInBounds_toArray, List.set_cons_zero, List.set_cons_succ] at fz1
    go_wp2_with fail
    refine (HK1.out _ HIz1.out).mono ?_
    rintro e e1 ⟨rfl, hb⟩
    have HBe1 := Lib.hid (blk_below HBz1.out hb (blk_lt HBz1.out))
    have HIe1 := Lib.hid (iok_below HIz1.out hb)
    have HLe1 : Hid (GL [] w e1) := Lib.hid (gl_below hb HLz1.out)
    clear hb fz1 HBz1 HIz1 HLz1 HK1
    generalize encIR { sampleI with hash := [110, 55, 59] } = r1 at *
    go_wp2_with fail
    refine (lSample _ HIe1.out).mono ?_
    rintro e g1 ⟨rfl, hb⟩
    have HBg1 := Lib.hid (blk_below HBe1.out hb (blk_lt HBe1.out))
    have HIg1 := Lib.hid (iok_below HIe1.out hb)
    have HLg1 : Hid (GL [] w g1) := Lib.hid (gl_below hb HLe1.out)
    clear hb HBe1 HIe1 HLe1
    rw [HSV.out]
    have hfz := blk_free HBg1.out
    have fg1 := blk_cell HBg1.out
    go_upto_region 16 with fail
    have HBy2 := Lib.hid (put8_blk HBg1.out si_ (.int .i64 250000000) (.int .i64 1700000000) (.string (bs [72, 110, 55, 59])) (.string (bs [80, 110, 53, 59])) (.string (bs [116, 101, 97])) (.int .i64 3600) (.int .i64 40) (.string (bs sampleI.sig)))
    have HIy2 : Hid (IOk (put8 g1 B (.int .i64 250000000) (.int .i64 1700000000) (.string (bs [72, 110, 55, 59])) (.string (bs [80, 110, 53, 59])) (.string (bs [116, 101, 97])) (.int .i64 3600) (.int .i64 40) (.string (bs sampleI.sig)))) := Lib.hid (iok_glr HIg1.out (put8_gl ..) (fun r hr => by obtain rfl : r = B := (by simpa using hr); exact Nat.le_trans HI.out.g.size hBW))
    have HLy2 : Hid (GL [] w (put8 g1 B (.int .i64 250000000) (.int .i64 1700000000) (.string (bs [72, 110, 55, 59])) (.string (bs [80, 110, 53, 59])) (.string (bs [116, 101, 97])) (.int .i64 3600) (.int .i64 40) (.string (bs sampleI.sig)))) := Lib.hid (gl_step (put8_gl ..) HLg1.out so_)
    unfold put8 at HBy2 HIy2 HLy2
    clear fg1 hfz HBg1 HIg1 HLg1
    generalize (((((((g1.setCell ⟨B, 0, none⟩ (.int .i64 250000000)).setCell ⟨B, 1, none⟩ (.int .i64 1700000000)).setCell ⟨B, 2, none⟩ (.string (bs [72, 110, 55, 59]))).setCell ⟨B, 3, none⟩ (.string (bs [80, 110, 53, 59]))).setCell ⟨B, 4, none⟩ (.string (bs [116, 101, 97]))).setCell ⟨B, 5, none⟩ (.int .i64 3600)).setCell ⟨B, 6, none⟩ (.int .i64 40)).setCell ⟨B, 7, none⟩ (.string (bs sampleI.sig)) = y2 at *
    have HK2 := Lib.hid sK2
    have hfz := blk_free HBy2.out
    have HBz2 := Lib.hid (blk_set HBy2.out 3 (.string (bs [110, 53, 59])))
    have HIz2 : Hid (IOk (y2.setCell ⟨B, 3, none⟩ (.string (bs [110, 53, 59])))) := Lib.hid (iok_glr HIy2.out (gl_set (gl_refl [B] y2) (.inl si_) _) (fun r hr => by obtain rfl : r = B := (by simpa using hr); exact Nat.le_trans HI.out.g.size hBW))
    have HLz2 : Hid (GL [] w (y2.setCell ⟨B, 3, none⟩ (.string (bs [110, 53, 59])))) := Lib.hid (gl_set HLy2.out (.inr hBW) _)
    have fy2 := blk_cell HBy2.out
    go_upto_region 17 with fail
    clear fy2 hfz HBy2 HIy2 HLy2
    generalize y2.setCell ⟨B, 3, none⟩ (.string (bs [110, 53, 59])) = z2 at *
    have fz2 := blk_cell HBz2.out
    simp only [List.setIfInBounds_toArray, List.set_cons_zero, List.set_cons_succ] at fz2
    go_wp2_with fail
    refine (HK2.out _ HIz2.out).mono ?_
    rintro e e2 ⟨rfl, hb⟩
    have HBe2 := Lib.hid (blk_below HBz2.out hb (blk_lt HBz2.out))
    have HIe2 := Lib.hid (iok_below HIz2.out hb)
    have HLe2 : Hid (GL [] w e2) := Lib.hid (gl_below hb HLz2.out)
    clear hb fz2 HBz2 HIz2 HLz2 HK2
    generalize encIR { sampleI with payee := [110, 53, 59] } = r2 at *
    go_wp2_with fail
    refine (lSample _ HIe2.out).mono ?_
    rintro e g2 ⟨rfl, hb⟩
    have HBg2 := Lib.hid (blk_below HBe2.out hb (blk_lt HBe2.out))
    have HIg2 := Lib.hid (iok_below HIe2.out hb)
    have HLg2 : Hid (GL [] w g2) := Lib.hid (gl_below hb HLe2.out)
    clear hb HBe2 HIe2 HLe2
    rw [HSV.out]
    have hfz := blk_free HBg2.out
    have fg2 := blk_cell HBg2.out
    go_upto_region 19 with fail
    have HBy3 := Lib.hid (put8_blk HBg2.out si_ (.int .i64 250000000) (.int .i64 1700000000) (.string (bs [72, 110, 55, 59])) (.string (bs [80, 110, 53, 59])) (.string (bs [116, 101, 97])) (.int .i64 3600) (.int .i64 40) (.string (bs sampleI.sig)))
    have HIy3 : Hid (IOk (put8 g2 B (.int .i64 250000000) (.int .i64 1700000000) (.string (bs [72, 110, 55, 59])) (.string (bs [80, 110, 53, 59])) (.string (bs [116, 101, 97])) (.int .i64 3600) (.int .i64 40) (.string (bs sampleI.sig)))) := Lib.hid (iok_glr HIg2.out (put8_gl ..) (fun r hr => by obtain rfl : r = B := (by simpa using hr); exact Nat.le_trans HI.out.g.size hBW))
    have HLy3 : Hid (GL [] w (put8 g2 B (.int .i64 250000000) (.int .i64 1700000000) (.string (bs [72, 110, 55, 59])) (.string (bs [80, 110, 53, 59])) (.string (bs [116, 101, 97])) (.int .i64 3600) (.int .i64 40) (.string (bs sampleI.sig)))) := Lib.hid (gl_step (put8_gl ..) HLg2.out so_)
    unfold put8 at HBy3 HIy3 HLy3
    clear fg2 hfz HBg2 HIg2 HLg2
    generalize (((((((g2.setCell ⟨B, 0, none⟩ (.int .i64 250000000)).setCell ⟨B, 1, none⟩ (.int .i64 1700000000)).setCell ⟨B, 2, none⟩ (.string (bs [72, 110, 55, 59]))).setCell ⟨B, 3, none⟩ (.string (bs [80, 110, 53, 59]))).setCell ⟨B, 4, none⟩ (.string (bs [116, 101, 97]))).setCell ⟨B, 5, none⟩ (.int .i64 3600)).setCell ⟨B, 6, none⟩ (.int .i64 40)).setCell ⟨B, 7, none⟩ (.string (bs sampleI.sig)) = y3 at *
    have HK3 := Lib.hid sK3
    have hfz := blk_free HBy3.out
    have HBz3 := Lib.hid (blk_set HBy3.out 1 (.int .i64 34359738368))
    have HIz3 : Hid (IOk (y3.setCell ⟨B, 1, none⟩ (.int .i64 34359738368))) := Lib.hid (iok_glr HIy3.out (gl_set (gl_refl [B] y3) (.inl si_) _) (fun r hr => by obtain rfl : r = B := (by simpa using hr); exact Nat.le_trans HI.out.g.size hBW))
    have HLz3 : Hid (GL [] w (y3.setCell ⟨B, 1, none⟩ (.int .i64 34359738368))) := Lib.hid (gl_set HLy3.out (.inr hBW) _)
    have fy3 := blk_cell HBy3.out
    go_upto_region 20 with fail
    clear fy3 hfz HBy3 HIy3 HLy3
    generalize y3.setCell ⟨B, 1, none⟩ (.int .i64 34359738368) = z3 at *
    have fz3 := blk_cell HBz3.out
    simp only [List.setIfInBounds_toArray, List.set_cons_zero, List.set_cons_succ] at fz3
    go_wp2_with fail
    refine (HK3.out _ HIz3.out).mono ?_
    rintro e e3 ⟨rfl, hb⟩
    have HBe3 := Lib.hid (blk_below HBz3.out hb (blk_lt HBz3.out))
    have HIe3 := Lib.hid (iok_below HIz3.out hb)
    have HLe3 : Hid (GL [] w e3) := Lib.hid (gl_below hb HLz3.out)
    clear hb fz3 HBz3 HIz3 HLz3 HK3
    generalize encIR { sampleI with st := 34359738368 } = r3 at *
    go_wp2_with fail
    refine (lSample _ HIe3.out).mono ?_
    rintro e g3 ⟨rfl, hb⟩
    have HBg3 := Lib.hid (blk_below HBe3.out hb (blk_lt HBe3.out))
    have HIg3 := Lib.hid (iok_below HIe3.out hb)
    have HLg3 : Hid (GL [] w g3) := Lib.hid (gl_below hb HLe3.out)
    clear hb HBe3 HIe3 HLe3
    rw [HSV.out]
    have hfz := blk_free HBg3.out
    have fg3 := blk_cell HBg3.out
    go_upto_region 22 with fail
    have HBy4 := Lib.hid (put8_blk HBg3.out si_ (.int .i64 250000000) (.int .i64 1700000000) (.string (bs [72, 110, 55, 59])) (.string (bs [80, 110, 53, 59])) (.string (bs [116, 101, 97])) (.int .i64 3600) (.int .i64 40) (.string (bs sampleI.sig)))
    have HIy4 : Hid (IOk (put8 g3 B (.int .i64 250000000) (.int .i64 1700000000) (.string (bs [72, 110, 55, 59])) (.string (bs [80, 110, 53, 59])) (.string (bs [116, 101, 97])) (.int .i64 3600) (.int .i64 40) (.string (bs sampleI.sig)))) := Lib.hid (iok_glr HIg3.out (put8_gl ..) (fun r hr => by obtain rfl : r = B := (by simpa using hr); exact Nat.le_trans HI.out.g.size hBW))
    have HLy4 : Hid (GL [] w (put8 g3 B (.int .i64 250000000) (.int .i64 1700000000) (.string (bs [72, 110, 55, 59])) (.string (bs [80, 110, 53, 59])) (.string (bs [116, 101, 97])) (.int .i64 3600) (.int .i64 40) (.string (bs sampleI.sig)))) := Lib.hid (gl_step (put8_gl ..) HLg3.out so_)
    unfold put8 at HBy4 HIy4 HLy4
    clear fg3 hfz HBg3 HIg3 HLg3
    generalize (((((((g3.setCell ⟨B, 0, none⟩ (.int .i64 250000000)).setCell ⟨B, 1, none⟩ (.int .i64 1700000000)).setCell ⟨B, 2, none⟩ (.string (bs [72, 110, 55, 59]))).setCell ⟨B, 3, none⟩ (.string (bs [80, 110, 53, 59]))).setCell ⟨B, 4, none⟩ (.string (bs [116, 101, 97]))).setCell ⟨B, 5, none⟩ (.int .i64 3600)).setCell ⟨B, 6, none⟩ (.int .i64 40)).setCell ⟨B, 7, none⟩ (.string (bs sampleI.sig)) = y4 at *
    have HK4 := Lib.hid sK4
    have hfz := blk_free HBy4.out
    have HBz4 := Lib.hid (blk_set HBy4.out 6 (.int .i64 (-1)))
    have HIz4 : Hid (IOk (y4.setCell ⟨B, 6, none⟩ (.int .i64 (-1)))) := Lib.hid (iok_glr HIy4.out (gl_set (gl_refl [B] y4) (.inl si_) _) (fun r hr => by obtain rfl : r = B := (by simpa using hr); exact Nat.le_trans HI.out.g.size hBW))
    have HLz4 : Hid (GL [] w (y4.setCell ⟨B, 6, none⟩ (.int .i64 (-1)))) := Lib.hid (gl_set HLy4.out (.inr hBW) _)
    have fy4 := blk_cell HBy4.out
    go_upto_region 23 with fail
    clear fy4 hfz HBy4 HIy4 HLy4
    generalize y4.setCell ⟨B, 6, none⟩ (.int .i64 (-1)) = z4 at *
    have fz4 := blk_cell HBz4.out
    simp only [List.setIfInBounds_toArray, List.set_cons_zero, List.set_cons_succ] at fz4
    go_wp2_with fail
    refine (HK4.out _ HIz4.out).mono ?_
    rintro e e4 ⟨rfl, hb⟩
    have HBe4 := Lib.hid (blk_below HBz4.out hb (blk_lt HBz4.out))
    have HIe4 := Lib.hid (iok_below HIz4.out hb)
    have HLe4 : Hid (GL [] w e4) := Lib.hid (gl_below hb HLz4.out)
    clear hb fz4 HBz4 HIz4 HLz4 HK4
    generalize encIR { sampleI with de := -1 } = r4 at *
    go_wp2_with fail
    refine (lSample _ HIe4.out).mono ?_
    rintro e g4 ⟨rfl, hb⟩
    have HBg4 := Lib.hid (blk_below HBe4.out hb (blk_lt HBe4.out))
    have HIg4 := Lib.hid (iok_below HIe4.out hb)
    have HLg4 : Hid (GL [] w g4) := Lib.hid (gl_below hb HLe4.out)
    clear hb HBe4 HIe4 HLe4
    rw [HSV.out]
    have hfz := blk_free HBg4.out
    have fg4 := blk_cell HBg4.out
    go_upto_region 25 with fail
    have HBy5 := Lib.hid (put8_blk HBg4.out si_ (.int .i64 250000000) (.int .i64 1700000000) (.string (bs [72, 110, 55, 59])) (.string (bs [80, 110, 53, 59])) (.string (bs [116, 101, 97])) (.int .i64 3600) (.int .i64 40) (.string (bs sampleI.sig)))
    have HIy5 : Hid (IOk (put8 g4 B (.int .i64 250000000) (.int .i64 1700000000) (.string (bs [72, 110, 55, 59])) (.string (bs [80, 110, 53, 59])) (.string (bs [116, 101, 97])) (.int .i64 3600) (.int .i64 40) (.string (bs sampleI.sig)))) := Lib.hid (iok_glr HIg4.out (put8_gl ..) (fun r hr => by obtain rfl : r = B := (by simpa using hr); exact Nat.le_trans HI.out.g.size hBW))
    have HLy5 : Hid (GL [] w (put8 g4 B (.int .i64 250000000) (.int .i64 1700000000) (.string (bs [72, 110, 55, 59])) (.string (bs [80, 110, 53, 59])) (.string (bs [116, 101, 97])) (.int .i64 3600) (.int .i64 40) (.string (bs sampleI.sig)))) := Lib.hid (gl_step (put8_gl ..) HLg4.out so_)
    unfold put8 at HBy5 HIy5 HLy5
    clear fg4 hfz HBg4 HIg4 HLg4
    generalize (((((((g4.setCell ⟨B, 0, none⟩ (.int .i64 250000000)).setCell ⟨B, 1, none⟩ (.int .i64 1700000000)).setCell ⟨B, 2, none⟩ (.string (bs [72, 110, 55, 59]))).setCell ⟨B, 3, none⟩ (.string (bs [80, 110, 53, 59]))).setCell ⟨B, 4, none⟩ (.string (bs [116, 101, 97]))).setCell ⟨B, 5, none⟩ (.int .i64 3600)).setCell ⟨B, 6, none⟩ (.int .i64 40)).setCell ⟨B, 7, none⟩ (.string (bs sampleI.sig)) = y5 at *
    have HK5 := Lib.hid sK5
    obtain ⟨wm, hmk, hcv, hgm⟩ := makeN 640 om_ 640 rfl y5
    have HBwm := Lib.hid (blk_gl HBy5.out hgm si_)
    have HIwm := Lib.hid (iok_gl HIy5.out hgm)
    have HLwm : Hid (GL [] w wm) := Lib.hid (gl_step hgm HLy5.out si_)
    have fwm := blk_cell HBwm.out
    generalize List.replicate 640 (0 : UInt8) = zz at *
    clear hgm
    clear HBy5 HIy5 HLy5
    have hfz := blk_free HBwm.out
    have HBz5 := Lib.hid (blk_set HBwm.out 4 (.string (bs zz)))
    have HIz5 : Hid (IOk (wm.setCell ⟨B, 4, none⟩ (.string (bs zz)))) := Lib.hid (iok_glr HIwm.out (gl_set (gl_refl [B] wm) (.inl si_) _) (fun r hr => by obtain rfl : r = B := (by simpa using hr); exact Nat.le_trans HI.out.g.size hBW))
    have HLz5 : Hid (GL [] w (wm.setCell ⟨B, 4, none⟩ (.string (bs zz)))) := Lib.hid (gl_set HLwm.out (.inr hBW) _)
    have fwm := blk_cell HBwm.out
    go_upto_region 26 with fail
    clear hmk hcv
    clear fwm hfz HBwm HIwm HLwm
    generalize wm.setCell ⟨B, 4, none⟩ (.string (bs zz)) = z5 at *
    have fz5 := blk_cell HBz5.out
    simp only [List.setIfInBounds_toArray, List.set_cons_zero, List.set_cons_succ] at fz5
    go_wp2_with fail
    refine (HK5.out _ HIz5.out).mono ?_
    rintro e e5 ⟨rfl, hb⟩
    have HBe5 := Lib.hid (blk_below HBz5.out hb (blk_lt HBz5.out))
    have HIe5 := Lib.hid (iok_below HIz5.out hb)
    have HLe5 : Hid (GL [] w e5) := Lib.hid (gl_below hb HLz5.out)
    clear hb fz5 HBz5 HIz5 HLz5 HK5
    generalize encIR { sampleI with memo := zz } = r5 at *
    go_wp2_with fail
    refine (lSample _ HIe5.out).mono ?_
    rintro e g5 ⟨rfl, hb⟩
    have HBg5 := Lib.hid (blk_below HBe5.out hb (blk_lt HBe5.out))
    have HIg5 := Lib.hid (iok_below HIe5.out hb)
    have HLg5 : Hid (GL [] w g5) := Lib.hid (gl_below hb HLe5.out)
    clear hb HBe5 HIe5 HLe5
    rw [HSV.out]
    have hfz := blk_free HBg5.out
    have fg5 := blk_cell HBg5.out
    go_upto_region 28 with fail
    have HBy6 := Lib.hid (put8_blk HBg5.out si_ (.int .i64 250000000) (.int .i64 1700000000) (.string (bs [72, 110, 55, 59])) (.string (bs [80, 110, 53, 59])) (.string (bs [116, 101, 97])) (.int .i64 3600) (.int .i64 40) (.string (bs sampleI.sig)))
    have HIy6 : Hid (IOk (put8 g5 B (.int .i64 250000000) (.int .i64 1700000000) (.string (bs [72, 110, 55, 59])) (.string (bs [80, 110, 53, 59])) (.string (bs [116, 101, 97])) (.int .i64 3600) (.int .i64 40) (.string (bs sampleI.sig)))) := Lib.hid (iok_glr HIg5.out (put8_gl ..) (fun r hr => by obtain rfl : r = B := (by simpa using hr); exact Nat.le_trans HI.out.g.size hBW))
    have HLy6 : Hid (GL [] w (put8 g5 B (.int .i64 250000000) (.int .i64 1700000000) (.string (bs [72, 110, 55, 59])) (.string (bs [80, 110, 53, 59])) (.string (bs [116, 101, 97])) (.int .i64 3600) (.int .i64 40) (.string (bs sampleI.sig)))) := Lib.hid (gl_step (put8_gl ..) HLg5.out so_)
    unfold put8 at HBy6 HIy6 HLy6
    clear fg5 hfz HBg5 HIg5 HLg5
    generalize (((((((g5.setCell ⟨B, 0, none⟩ (.int .i64 250000000)).setCell ⟨B, 1, none⟩ (.int .i64 1700000000)).setCell ⟨B, 2, none⟩ (.string (bs [72, 110, 55, 59]))).setCell ⟨B, 3, none⟩ (.string (bs [80, 110, 53, 59]))).setCell ⟨B, 4, none⟩ (.string (bs [116, 101, 97]))).setCell ⟨B, 5, none⟩ (.int .i64 3600)).setCell ⟨B, 6, none⟩ (.int .i64 40)).setCell ⟨B, 7, none⟩ (.string (bs sampleI.sig)) = y6 at *
    have HK6 := Lib.hid sK6
    have hfz := blk_free HBy6.out
    have HBz6 := Lib.hid (blk_set HBy6.out 0 (.int .i64 (-1)))
    have HIz6 : Hid (IOk (y6.setCell ⟨B, 0, none⟩ (.int .i64 (-1)))) := Lib.hid (iok_glr HIy6.out (gl_set (gl_refl [B] y6) (.inl si_) _) (fun r hr => by obtain rfl : r = B := (by simpa using hr); exact Nat.le_trans HI.out.g.size hBW))
    have HLz6 : Hid (GL [] w (y6.setCell ⟨B, 0, none⟩ (.int .i64 (-1)))) := Lib.hid (gl_set HLy6.out (.inr hBW) _)
    have fy6 := blk_cell HBy6.out
    go_upto_region 29 with fail
    clear fy6 hfz HBy6 HIy6 HLy6
    generalize y6.setCell ⟨B, 0, none⟩ (.int .i64 (-1)) = z6 at *
    have fz6 := blk_cell HBz6.out
    simp only [List.setIfInBounds_toArray, List.set_cons_zero, List.set_cons_succ] at fz6
    go_wp2_with fail
    refine (HK6.out _ HIz6.out).mono ?_
    rintro e e6 ⟨rfl, hb⟩
    have HBe6 := Lib.hid (blk_below HBz6.out hb (blk_lt HBz6.out))
    have HIe6 := Lib.hid (iok_below HIz6.out hb)
    have HLe6 : Hid (GL [] w e6) := Lib.hid (gl_below hb HLz6.out)
    clear hb fz6 HBz6 HIz6 HLz6 HK6
    generalize bodyR { sampleI with am := -1 } = r6 at *
    go_wp2_with fail
    refine (lSample _ HIe6.out).mono ?_
    rintro e g6 ⟨rfl, hb⟩
    have HBg6 := Lib.hid (blk_below HBe6.out hb (blk_lt HBe6.out))
    have HIg6 := Lib.hid (iok_below HIe6.out hb)
    have HLg6 : Hid (GL [] w g6) := Lib.hid (gl_below hb HLe6.out)
    clear hb HBe6 HIe6 HLe6
    rw [HSV.out]
    have hfz := blk_free HBg6.out
    have fg6 := blk_cell HBg6.out
    go_upto_region 31 with fail
    have HBy7 := Lib.hid (put8_blk HBg6.out si_ (.int .i64 250000000) (.int .i64 1700000000) (.string (bs [72, 110, 55, 59])) (.string (bs [80, 110, 53, 59])) (.string (bs [116, 101, 97])) (.int .i64 3600) (.int .i64 40) (.string (bs sampleI.sig)))
    have HIy7 : Hid (IOk (put8 g6 B (.int .i64 250000000) (.int .i64 1700000000) (.string (bs [72, 110, 55, 59])) (.string (bs [80, 110, 53, 59])) (.string (bs [116, 101, 97])) (.int .i64 3600) (.int .i64 40) (.string (bs sampleI.sig)))) := Lib.hid (iok_glr HIg6.out (put8_gl ..) (fun r hr => by obtain rfl : r = B := (by simpa using hr); exact Nat.le_trans HI.out.g.size hBW))
    have HLy7 : Hid (GL [] w (put8 g6 B (.int .i64 250000000) (.int .i64 1700000000) (.string (bs [72, 110, 55, 59])) (.string (bs [80, 110, 53, 59])) (.string (bs [116, 101, 97])) (.int .i64 3600) (.int .i64 40) (.string (bs sampleI.sig)))) := Lib.hid (gl_step (put8_gl ..) HLg6.out so_)
    unfold put8 at HBy7 HIy7 HLy7
    clear fg6 hfz HBg6 HIg6 HLg6
    generalize (((((((g6.setCell ⟨B, 0, none⟩ (.int .i64 250000000)).setCell ⟨B, 1, none⟩ (.int .i64 1700000000)).setCell ⟨B, 2, none⟩ (.string (bs [72, 110, 55, 59]))).setCell ⟨B, 3, none⟩ (.string (bs [80, 110, 53, 59]))).setCell ⟨B, 4, none⟩ (.string (bs [116, 101, 97]))).setCell ⟨B, 5, none⟩ (.int .i64 3600)).setCell ⟨B, 6, none⟩ (.int .i64 40)).setCell ⟨B, 7, none⟩ (.string (bs sampleI.sig)) = y7 at *
    have HK7 := Lib.hid sK7
    have hfz := blk_free HBy7.out
    have HBz7 := Lib.hid (blk_set HBy7.out 4 (.string (bs [99, 111, 102, 102, 101, 101])))
    have HIz7 : Hid (IOk (y7.setCell ⟨B, 4, none⟩ (.string (bs [99, 111, 102, 102, 101, 101])))) := Lib.hid (iok_glr HIy7.out (gl_set (gl_refl [B] y7) (.inl si_) _) (fun r hr => by obtain rfl : r = B := (by simpa using hr); exact Nat.le_trans HI.out.g.size hBW))
    have HLz7 : Hid (GL [] w (y7.setCell ⟨B, 4, none⟩ (.string (bs [99, 111, 102, 102, 101, 101])))) := Lib.hid (gl_set HLy7.out (.inr hBW) _)
    have fy7 := blk_cell HBy7.out
    go_upto_region 32 with fail
    clear fy7 hfz HBy7 HIy7 HLy7
    generalize y7.setCell ⟨B, 4, none⟩ (.string (bs [99, 111, 102, 102, 101, 101])) = z7 at *
    have fz7 := blk_cell HBz7.out
    simp only [List.setIfInBounds_toArray, List.set_cons_zero, List.set_cons_succ] at fz7
    go_wp2_with fail
    refine (HK7.out _ HIz7.out).mono ?_
    rintro e e7 ⟨rfl, hb⟩
    have HBe7 := Lib.hid (blk_below HBz7.out hb (blk_lt HBz7.out))
    have HIe7 := Lib.hid (iok_below HIz7.out hb)
    have HLe7 : Hid (GL [] w e7) := Lib.hid (gl_below hb HLz7.out)
    clear hb fz7 HBz7 HIz7 HLz7 HK7
    generalize encIR { sampleI with memo := [99, 111, 102, 102, 101, 101] } = r7 at *
    have HBD := Lib.hid bodyK
    have HEN := Lib.hid encK
    have HDE := Lib.hid decK
    obtain ⟨wq, hmk, hcv, hgm⟩ := makeN 639 om_ 639 rfl e7
    have HBwq := Lib.hid (blk_gl HBe7.out hgm si_)
    have HIwq := Lib.hid (iok_gl HIe7.out hgm)
    have HLwq : Hid (GL [] w wq) := Lib.hid (gl_step hgm HLe7.out si_)
    have fwq := blk_cell HBwq.out
    have hfz := blk_free HBwq.out
    generalize List.replicate 639 (0 : UInt8) = zb at *
    clear hgm HBe7 HIe7 HLe7
    go_upto_region 35 with fail
    have HBp1 := Lib.hid (put8_blk HBwq.out si_ (.int .i64 0) (.int .i64 34359738367) (.string (bs [72, 110, 49, 59])) (.string (bs [87, 80, 110, 49, 59, 80, 110, 50, 59])) (.string (bs zb)) (.int .i64 34359738367) (.int .i64 2147483647) (.string (bs [])))
    have HIp1 : Hid (IOk (put8 wq B (.int .i64 0) (.int .i64 34359738367) (.string (bs [72, 110, 49, 59])) (.string (bs [87, 80, 110, 49, 59, 80, 110, 50, 59])) (.string (bs zb)) (.int .i64 34359738367) (.int .i64 2147483647) (.string (bs [])))) := Lib.hid (iok_glr HIwq.out (put8_gl ..) (fun r hr => by obtain rfl : r = B := (by simpa using hr); exact Nat.le_trans HI.out.g.size hBW))
    have HLp1 : Hid (GL [] w (put8 wq B (.int .i64 0) (.int .i64 34359738367) (.string (bs [72, 110, 49, 59])) (.string (bs [87, 80, 110, 49, 59, 80, 110, 50, 59])) (.string (bs zb)) (.int .i64 34359738367) (.int .i64 2147483647) (.string (bs [])))) := Lib.hid (gl_step (put8_gl ..) HLwq.out so_)
    unfold put8 at HBp1 HIp1 HLp1
    clear fwq hfz HBwq HIwq HLwq hmk hcv
    generalize (((((((wq.setCell ⟨B, 0, none⟩ (.int .i64 0)).setCell ⟨B, 1, none⟩ (.int .i64 34359738367)).setCell ⟨B, 2, none⟩ (.string (bs [72, 110, 49, 59]))).setCell ⟨B, 3, none⟩ (.string (bs [87, 80, 110, 49, 59, 80, 110, 50, 59]))).setCell ⟨B, 4, none⟩ (.string (bs zb))).setCell ⟨B, 5, none⟩ (.int .i64 34359738367)).setCell ⟨B, 6, none⟩ (.int .i64 2147483647)).setCell ⟨B, 7, none⟩ (.string (bs [])) = p1 at *
    have fp1 := blk_cell HBp1.out
    have HBS := Lib.hid big_sig
    have hql := (q_body big0).2
    go_wp2_with fail
    refine (HBD.out _ HIp1.out).mono ?_
    rintro e p2 ⟨rfl, hb⟩
    have HBp2 := Lib.hid (blk_below HBp1.out hb (blk_lt HBp1.out))
    have HIp2 := Lib.hid (iok_below HIp1.out hb)
    have HLp2 : Hid (GL [] w p2) := Lib.hid (gl_below hb HLp1.out)
    clear hb HBp1 HIp1 HLp1
    clear fp1 HBD
    generalize bodyT big0 = bt at *
    unfold kB at HBS
    go_wp2_with fail
    refine (tSign [86, 110, 49, 59, 110, 50, 59] bt si_ om_ p2 HIp2.out.g).mono ?_
    rintro e p3 ⟨rfl, hb⟩
    rw [HBS.out]
    have HBp3 := Lib.hid (blk_below HBp2.out hb (blk_lt HBp2.out))
    have HIp3 := Lib.hid (iok_below HIp2.out hb)
    have HLp3 : Hid (GL [] w p3) := Lib.hid (gl_below hb HLp2.out)
    clear hb HBp2 HIp2 HLp2
    clear HBS
    generalize bigI.sig = sg at *
    have hfz := blk_free HBp3.out
    have fp3 := blk_cell HBp3.out
    have HBp4 := Lib.hid (blk_set HBp3.out 7 (.string (bs sg)))
    have HIp4 : Hid (IOk (p3.setCell ⟨B, 7, none⟩ (.string (bs sg)))) := Lib.hid (iok_glr HIp3.out (gl_set (gl_refl [B] p3) (.inl si_) _) (fun r hr => by obtain rfl : r = B := (by simpa using hr); exact Nat.le_trans HI.out.g.size hBW))
    have HLp4 : Hid (GL [] w (p3.setCell ⟨B, 7, none⟩ (.string (bs sg)))) := Lib.hid (gl_set HLp3.out (.inr hBW) _)
    simp only [List.setIfInBounds_toArray, List.set_cons_zero, List.set_cons_succ] at HBp4
    go_upto_region 38 with fail
    clear hfz fp3 HBp3 HIp3 HLp3
    generalize p3.setCell ⟨B, 7, none⟩ (.string (bs sg)) = p4 at *
    have fp4 := blk_cell HBp4.out
    go_wp2_with fail
    refine (HEN.out _ HIp4.out).mono ?_
    rintro e p5 ⟨rfl, hb⟩
    have HBp5 := Lib.hid (blk_below HBp4.out hb (blk_lt HBp4.out))
    have HIp5 := Lib.hid (iok_below HIp4.out hb)
    have HLp5 : Hid (GL [] w p5) := Lib.hid (gl_below hb HLp4.out)
    clear hb HBp4 HIp4 HLp4
    clear fp4 HEN
    generalize encIT bigI = et at *
    go_wp2_with fail
    refine (HDE.out _ HIp5.out).mono ?_
    rintro e p6 ⟨rfl, hb⟩
    have HBp6 := Lib.hid (blk_below HBp5.out hb (blk_lt HBp5.out))
    have HIp6 := Lib.hid (iok_below HIp5.out hb)
    have HLp6 : Hid (GL [] w p6) := Lib.hid (gl_below hb HLp5.out)
    clear hb HBp5 HIp5 HLp5
    clear HDE
    go_upto_region 40 with fail
    have HBp7 := Lib.hid (blk_alloc HBp6.out (.cells #[.int .i64 0, .int .i64 34359738367, .string (bs [72, 110, 49, 59]), .string (bs [87, 80, 110, 49, 59, 80, 110, 50, 59]), .string (bs zb), .int .i64 34359738367, .int .i64 2147483647, .string (bs sg)] 31))
    have HZp7 := Lib.hid (blk_new p6 (.cells #[.int .i64 0, .int .i64 34359738367, .string (bs [72, 110, 49, 59]), .string (bs [87, 80, 110, 49, 59, 80, 110, 50, 59]), .string (bs zb), .int .i64 34359738367, .int .i64 2147483647, .string (bs sg)] 31))
    have HIp7 : Hid (IOk (p6.alloc (.cells #[.int .i64 0, .int .i64 34359738367, .string (bs [72, 110, 49, 59]), .string (bs [87, 80, 110, 49, 59, 80, 110, 50, 59]), .string (bs zb), .int .i64 34359738367, .int .i64 2147483647, .string (bs sg)] 31))) := Lib.hid (iok_gl HIp6.out (gl_alloc (gl_refl _ _) _))
    have HLp7 : Hid (GL [] w (p6.alloc (.cells #[.int .i64 0, .int .i64 34359738367, .string (bs [72, 110, 49, 59]), .string (bs [87, 80, 110, 49, 59, 80, 110, 50, 59]), .string (bs zb), .int .i64 34359738367, .int .i64 2147483647, .string (bs sg)] 31))) := Lib.hid (gl_alloc HLp6.out _)
    clear HBp6 HIp6 HLp6
    generalize p6.alloc (.cells #[.int .i64 0, .int .i64 34359738367, .string (bs [72, 110, 49, 59]), .string (bs [87, 80, 110, 49, 59, 80, 110, 50, 59]), .string (bs zb), .int .i64 34359738367, .int .i64 2147483647, .string (bs sg)] 31) = p7 at *
    generalize p6.heap.size = Sp7 at *
    go_wp2_with fail
    refine (kdec1 _ HIp7.out).mono ?_
    rintro e p8 ⟨rfl, hb⟩
    have HZp8 := Lib.hid (blk_below HZp7.out hb (blk_lt HZp7.out))
    clear HZp7
    have HBp8 := Lib.hid (blk_below HBp7.out hb (blk_lt HBp7.out))
    have HIp8 := Lib.hid (iok_below HIp7.out hb)
    have HLp8 : Hid (GL [] w p8) := Lib.hid (gl_below hb HLp7.out)
    clear hb HBp7 HIp7 HLp7
    go_upto_region 41 with fail
    have HBp9 := Lib.hid (blk_alloc HBp8.out (.cells #[.int .i64 0, .int .i64 0, .string (bs []), .string (bs []), .string (bs []), .int .i64 0, .int .i64 0, .string (bs [])] 31))
    have HZp9 := Lib.hid (blk_alloc HZp8.out (.cells #[.int .i64 0, .int .i64 0, .string (bs []), .string (bs []), .string (bs []), .int .i64 0, .int .i64 0, .string (bs [])] 31))
    have HIp9 : Hid (IOk (p8.alloc (.cells #[.int .i64 0, .int .i64 0, .string (bs []), .string (bs []), .string (bs []), .int .i64 0, .int .i64 0, .string (bs [])] 31))) := Lib.hid (iok_gl HIp8.out (gl_alloc (gl_refl _ _) _))
    have HLp9 : Hid (GL [] w (p8.alloc (.cells #[.int .i64 0, .int .i64 0, .string (bs []), .string (bs []), .string (bs []), .int .i64 0, .int .i64 0, .string (bs [])] 31))) := Lib.hid (gl_alloc HLp8.out _)
    clear HBp8 HIp8 HLp8 HZp8
    generalize p8.alloc (.cells #[.int .i64 0, .int .i64 0, .string (bs []), .string (bs []), .string (bs []), .int .i64 0, .int .i64 0, .string (bs [])] 31) = p9 at *
    generalize p8.heap.size = Sp9 at *
    go_wp2_with fail
    refine (kdec2 _ HIp9.out).mono ?_
    rintro e p10 ⟨rfl, hb⟩
    have HZp10 := Lib.hid (blk_below HZp9.out hb (blk_lt HZp9.out))
    clear HZp9
    have HBp10 := Lib.hid (blk_below HBp9.out hb (blk_lt HBp9.out))
    have HIp10 := Lib.hid (iok_below HIp9.out hb)
    have HLp10 : Hid (GL [] w p10) := Lib.hid (gl_below hb HLp9.out)
    clear hb HBp9 HIp9 HLp9
    go_upto_region 42 with fail
    have HBp11 := Lib.hid (blk_alloc HBp10.out (.cells #[.int .i64 0, .int .i64 0, .string (bs []), .string (bs []), .string (bs []), .int .i64 0, .int .i64 0, .string (bs [])] 31))
    have HZp11 := Lib.hid (blk_alloc HZp10.out (.cells #[.int .i64 0, .int .i64 0, .string (bs []), .string (bs []), .string (bs []), .int .i64 0, .int .i64 0, .string (bs [])] 31))
    have HIp11 : Hid (IOk (p10.alloc (.cells #[.int .i64 0, .int .i64 0, .string (bs []), .string (bs []), .string (bs []), .int .i64 0, .int .i64 0, .string (bs [])] 31))) := Lib.hid (iok_gl HIp10.out (gl_alloc (gl_refl _ _) _))
    have HLp11 : Hid (GL [] w (p10.alloc (.cells #[.int .i64 0, .int .i64 0, .string (bs []), .string (bs []), .string (bs []), .int .i64 0, .int .i64 0, .string (bs [])] 31))) := Lib.hid (gl_alloc HLp10.out _)
    clear HBp10 HIp10 HLp10 HZp10
    generalize p10.alloc (.cells #[.int .i64 0, .int .i64 0, .string (bs []), .string (bs []), .string (bs []), .int .i64 0, .int .i64 0, .string (bs [])] 31) = p11 at *
    generalize p10.heap.size = Sp11 at *
    have heq := eqv_big zb sg
    have fB := blk_cell HBp11.out
    have fZ := blk_cell HZp11.out
    as_aux_lemma =>
     go_wp2_with fail
     refine (lWorksI _ HIp11.out).mono ?_
     rintro e pz ⟨rfl, hb⟩
     have HLz : Hid (GL [] w pz) := Lib.hid (gl_below hb HLp11.out)
     go_wp2_with fail
     exact bodyPost_ret (v := .bool true) (by simp [results, Tryz.results7, go_sem]) rfl ⟨rfl, gl_to_below HLz.out⟩
end Go.Proofs.YtembdkodajichaaGreatDoor
