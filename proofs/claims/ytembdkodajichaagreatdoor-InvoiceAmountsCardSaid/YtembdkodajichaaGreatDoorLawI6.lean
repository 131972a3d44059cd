/- The laws of layer 7: InvoiceAmounts. -/
import Derived.Test.YtembdkodajichaaGreatDoorAmtQ
import Derived.Test.YtembdkodajichaaGreatDoorBechD
import Derived.Test.YtembdkodajichaaGreatDoorMRef
import Derived.Test.YtembdkodajichaaGreatDoorLawI1
set_option linter.unusedSimpArgs false
set_option linter.unusedVariables false
set_option maxRecDepth 100000
set_option maxHeartbeats 4000000
namespace Go.Proofs.YtembdkodajichaaGreatDoor
open Go.RowKit
def wholeP (s : List UInt8) : Bool := s.all isDg && (s != [] && head s != 48)
def rdEnd (U : Nat) (d : List UInt8) : Int × Int := if maxMoney / U < decV d then (0, 40) else (((decV d * U : Nat) : Int), 0)
def bad3 (d : List UInt8) (c : UInt8) : Bool := !wholeP d || ((decide (3 < d.length) && (d.drop (d.length - 3) == [48, 48, 48])) || (c == 112 && d.getD (d.length - 1) 0 != 48))
theorem decV_take {d : List UInt8} {i : Nat} (h : i < d.length) : decV (d.take (i + 1)) = decV (d.take i) * 10 + ((d[i]).toNat - 48) := by
 rw [List.take_succ_eq_append_getElem h, decV_snoc]
theorem decV_ge (d : List UInt8) (i : Nat) : decV (d.take i) ≤ decV d := by
 have h : decV d = decA (decV (d.take i)) (d.drop i) := by
  unfold decV decA
  rw [← List.foldl_append, List.take_append_drop]
 rw [h]
 exact decA_ge _ _
theorem whole_bad {s : List UInt8} (h : wholeP s = false) : s = [] ∨ s.all isDg = false ∨ head s = 48 := by
 unfold wholeP at h
 simp only [Bool.and_eq_false_iff, bne_eq_false_iff_eq] at h
 rcases h with h | h | h
 · exact .inr (.inl h)
 · exact .inl h
 · exact .inr (.inr h)
theorem whole_ok {s : List UInt8} (h : wholeP s = true) : s ≠ [] ∧ s.all isDg = true ∧ head s ≠ 48 := by
 unfold wholeP at h
 simp only [Bool.and_eq_true, bne_iff_ne, ne_eq] at h
 exact ⟨h.2.1, h.1, h.2.2⟩
theorem readV_bad {s : List UInt8} (h : s ≠ []) (h2 : ∀ e nm, s = e ++ nm → (∀ x ∈ nm, nmB x = true) → e.all isDg = true → nm.length ≤ 1 → False) : readV s = (0, 70) := by
 obtain ⟨nm, e, hn⟩ := trimR_cut s
 have hdrop : s.drop (trimR s).length = nm := by
  conv => lhs; rw [e]
  rw [List.drop_left' (by rw [← e])]
 unfold readV
 rw [if_neg h, hdrop]
 unfold readG
 by_cases ha : (trimR s).all isDg = true
 · by_cases hl : nm.length ≤ 1
   · exact (h2 _ _ e hn ha hl).elim
   · rw [if_pos (.inr (.inr (.inr (.inl om_))))]
 · rw [if_pos (.inr (.inl (by simpa using ha)))]
theorem nm_dg {c : UInt8} (h : isDg c = true) : nmB c = false := by
 have := dg_val h
 unfold isDg at h
 simp only [Bool.and_eq_true, decide_eq_true_eq] at h
 unfold nmB
 simp only [Bool.or_eq_false_iff, beq_eq_false_iff_ne, ne_eq, ← UInt8.toNat_inj]
 simp
 omega
theorem snoc_cut {d e nm : List UInt8} {c : UInt8} (h : d ++ [c] = e ++ nm) (h0 : nm ≠ []) : c ∈ nm := by
 obtain ⟨l, x, rfl⟩ : ∃ l x, nm = l ++ [x] := ⟨nm.dropLast, nm.getLast h0, (List.dropLast_concat_getLast h0).symm⟩
 rw [← List.append_assoc] at h
 have := List.append_inj_right' h rfl
 simp at this
 simp [this]
theorem readV_dig (d : List UInt8) (c : UInt8) (hc : isDg c = true) : readV (d ++ [c]) = if wholeP (d ++ [c]) = true then rdEnd 100000000000 (d ++ [c]) else (0, 70) := by
 by_cases ha : (d ++ [c]).all isDg = true
 · have h := readV_app (d ++ [c]) [] ha si_ si_
   rw [List.append_nil] at h
   rw [h]
   unfold readG
   cases hw : wholeP (d ++ [c]) with
   | true =>
     obtain ⟨h1, h2, h3⟩ := whole_ok hw
     rw [if_neg, if_neg si_, if_pos rfl]
     · rfl
     · rintro (h | h | h | h | h)
       · exact h1 h
       · rw [h2] at h; cases h
       · exact h3 h
       · simp at h
       · exact h.1 rfl
   | false =>
     rw [if_pos, if_neg si_]
     rcases whole_bad hw with h | h | h
     · exact .inl h
     · exact .inr (.inl h)
     · exact .inr (.inr (.inl h))
 · rw [if_neg (fun h => ha (whole_ok h).2.1)]
   refine readV_bad si_ fun e nm he hn hd _ => ?_
   by_cases h0 : nm = []
   · subst h0
     rw [List.append_nil] at he
     rw [he] at ha
     exact ha hd
   · have := hn c (snoc_cut he h0)
     rw [nm_dg hc] at this
     cases this
theorem readV_odd (d : List UInt8) (c : UInt8) (hc : isDg c = false) (hn : nmB c = false) : readV (d ++ [c]) = (0, 70) := by
 refine readV_bad si_ fun e nm he hnm hd _ => ?_
 by_cases h0 : nm = []
 · subst h0
   rw [List.append_nil] at he
   rw [← he, List.all_append, Bool.and_eq_true] at hd
   simp [hc] at hd
 · have := hnm c (snoc_cut he h0)
   rw [hn] at this
   cases this
theorem ends3 {d : List UInt8} (h0 : d ≠ []) (hh : head d ≠ 48) : endsW d [48, 48, 48] = (decide (3 < d.length) && (d.drop (d.length - 3) == [48, 48, 48])) := by
 rw [Bool.eq_iff_iff]
 unfold endsW
 rw [List.isSuffixOf_iff_suffix, List.suffix_iff_eq_drop]
 simp only [Bool.and_eq_true, decide_eq_true_eq, beq_iff_eq, List.length_cons, List.length_nil]
 constructor
 · intro h
   refine ⟨?_, h.symm⟩
   by_cases hl : 3 < d.length
   · exact hl
   · exfalso
     rw [show d.length - (0 + 1 + 1 + 1) = 0 by omega, List.drop_zero] at h
     rw [← h] at hh
     exact hh rfl
 · intro h
   exact h.2.symm
theorem ends1 {d : List UInt8} (h0 : d ≠ []) : endsW d [48] = (d.getD (d.length - 1) 0 == 48) := by
 obtain ⟨l, x, rfl⟩ : ∃ l x, d = l ++ [x] := ⟨d.dropLast, d.getLast h0, (List.dropLast_concat_getLast h0).symm⟩
 unfold endsW
 rw [Bool.eq_iff_iff, List.isSuffixOf_iff_suffix, List.suffix_iff_eq_drop, beq_iff_eq]
 simp
 exact eq_comm
theorem readV_let (d : List UInt8) (c : UInt8) (hc : nmB c = true) : readV (d ++ [c]) = if bad3 d c = true then (0, 70) else rdEnd (unitOf [c]) (coreD d [c]) := by
 by_cases ha : d.all isDg = true
 · rw [readV_app d [c] ha (by simpa using hc) si_]
   unfold readG bad3
   cases hw : wholeP d with
   | false =>
     rw [if_pos, if_pos si_]
     rcases whole_bad hw with h | h | h
     · exact .inl h
     · exact .inr (.inl h)
     · exact .inr (.inr (.inl h))
   | true =>
     obtain ⟨h1, h2, h3⟩ := whole_ok hw
     rw [← ends3 h1 h3]
     cases h5 : endsW d [48, 48, 48] with
     | true => rw [if_pos (.inr (.inr (.inr (.inr ⟨by simp, rfl⟩)))), if_pos si_]
     | false =>
       rw [if_neg]
       · by_cases hp : c = 112
         · subst hp
           rw [ends1 h1]
           cases hq : d.getD (d.length - 1) 0 == 48 with
           | false =>
             have hq2 : (d.getD (d.length - 1) 0 != 48) = true := by rw [bne, hq]; rfl
             rw [if_pos ⟨rfl, rfl⟩, hq2, if_pos si_]
           | true =>
             have hq2 : (d.getD (d.length - 1) 0 != 48) = false := by rw [bne, hq]; rfl
             rw [if_neg si_, hq2]
             exact (if_neg (c := (!true || (false || (112 : UInt8) == 112 && false)) = true) si_).symm
         · rw [if_neg (by simp [hp])]
           exact (if_neg (c := (!true || (false || c == 112 && d.getD (d.length - 1) 0 != 48)) = true) (by simp [hp])).symm
       · rintro (h | h | h | h | h)
         · exact h1 h
         · rw [h2] at h; cases h
         · exact h3 h
         · simp at h
         · exact absurd h.2 si_
 · have hw : bad3 d c = true := by
    unfold bad3
    have : wholeP d = false := by
     cases hw : wholeP d with
     | false => rfl
     | true => exact absurd (whole_ok hw).2.1 ha
    rw [this]
    rfl
   rw [if_pos hw]
   refine readV_bad si_ fun e nm he hnm hd hl => ?_
   match nm, hl with
   | [], _ =>
     rw [List.append_nil] at he
     rw [← he, List.all_append, Bool.and_eq_true] at hd
     exact ha hd.1
   | [x], _ =>
     have h := List.append_inj_left' he rfl
     rw [h] at ha
     exact ha hd
   | _ :: _ :: _, h => simp at h
theorem core_whole {d : List UInt8} {c : UInt8} (h : bad3 d c = false) : wholeP d = true ∧ wholeP (coreD d [c]) = true := by
 unfold bad3 at h
 simp only [Bool.or_eq_false_iff, Bool.not_eq_false'] at h
 refine ⟨h.1, ?_⟩
 unfold coreD
 by_cases hp : c = 112
 · subst hp
   rw [if_pos rfl]
   have h2 := h.2.2
   obtain ⟨h1, h3, h4⟩ := whole_ok h.1
   obtain ⟨l, x, rfl⟩ : ∃ l x, d = l ++ [x] := ⟨d.dropLast, d.getLast h1, (List.dropLast_concat_getLast h1).symm⟩
   simp at h2
   subst h2
   rw [List.dropLast_concat]
   cases l with
   | nil => exact absurd rfl h4
   | cons a b =>
     unfold wholeP
     rw [List.all_append, Bool.and_eq_true] at h3
     have h5 : a ≠ 48 := h4
     rw [h3.1]
     simp [head, h5]
 · rw [if_neg (by simp [hp])]
   exact h.1
theorem run_conv1_at {P : Program} {W : World} {b : Nat} {src dst e : TypeId} {x : Int} (hb : W.heap[b]? = some (.cells #[.int .u8 x] e (0, 0))) (hs : P.underlying src = some (.slice e)) (he : P.underlying e = some (.int .u8)) (hd : P.underlying dst = some .string)
  (h0 : 0 ≤ x) (h1 : x < 256) :
  (convert src dst (.slice (some ⟨b, 0, none⟩) 1 1)).run P W = .ok (.string (bs [UInt8.ofNat x.toNat])) W := by
 have e1 : ((UInt8.ofNat x.toNat).toNat : Int) = x := by
  rw [UInt8.toNat_ofNat']; omega
 have h := run_convert_bytes_back (P := P) W src dst e ⟨b, 0, none⟩ 1 [UInt8.ofNat x.toNat] hs he hd (by
  intro j hj
  have : j = 0 := by simpa using hj
  subst this
  simp only [List.getElem_cons_zero, e1]
  exact blk_cell hb 0)
 exact h
theorem getD_at {l : List UInt8} {i : Nat} (h : i < l.length) : l.getD i 0 = l[i] := by rw [List.getD_eq_getElem?_getD, List.getElem?_eq_getElem h]; rfl
theorem ref7Digits0 (n : Nat) : ∀ (x : Int) (_ : x = n) (_ : n ≤ 9223372036854775807) (w : World),
  Calls Tryz.prog 28 #[.int .i64 x] w fun e w' => e = .returned (.string (bs (Lib.decDigits n))) ∧ Below w.heap.size w w' := by
 induction n using Nat.strongRecOn with
 | ind n ih =>
   intro x hx hn w
   subst hx
   have H : Hid (Lib.decDigits n = if n < 10 then [UInt8.ofNat (48 + n)] else Lib.decDigits (n / 10) ++ [UInt8.ofNat (48 + n % 10)]) := by
    show Lib.decDigits n = _
    rw [Lib.decDigits]
    split <;> rfl
   by_cases h : n ≤ 9
   · clear ih
     have h' : decide ((n : Int) < 10) = true := by simp; omega
     have kc := fun (w : World) => run_conv1 (P := Tryz.prog) w 47 9 5 (48 + (n : Int)) Tryz.underlying47 Tryz.underlying5 Tryz.underlying9 om_ om_
     go_enter Tryz.func28, Tryz.ntmps28
     go_wp2_with fail
     exact bodyPost_ret (v := .string (bs [UInt8.ofNat (48 + n)])) (by simp [results, Tryz.results28, go_sem]) rfl ⟨by rw [H.out, if_pos om_], bl_⟩
   · have h' : decide ((n : Int) < 10) = false := by simp; omega
     have kc := fun (w : World) => run_conv1 (P := Tryz.prog) w 47 9 5 (48 + (n : Int) % 10) Tryz.underlying47 Tryz.underlying5 Tryz.underlying9 om_ om_
     have hlen : (Lib.decDigits (n / 10)).length ≤ 20 := dec_len20 _ om_
     have hq : (n : Int).tdiv 10 = (n : Int) / 10 := Int.tdiv_eq_ediv_of_nonneg om_
     have hr : (n : Int).tmod 10 = (n : Int) % 10 := Int.tmod_eq_emod_of_nonneg om_
     go_enter Tryz.func28, Tryz.ntmps28
     have hw8 : IntKind.u8.wrap ((n : Int) % 10) = (n : Int) % 10 := by rw [IntKind.wrap_u8]; omega
     have hw9 : IntKind.u8.wrap (48 + (n : Int) % 10) = 48 + (n : Int) % 10 := by rw [IntKind.wrap_u8]; omega
     have hx0 : (0 : Int) ≤ 48 + (n : Int) % 10 := by omega
     have hx1 : 48 + (n : Int) % 10 < 256 := by omega
     have kdr : (convert 47 9 (.slice (some ⟨w.heap.size, 0, none⟩) 1 1)).run Tryz.prog (w.alloc (.cells #[.int .u8 (48 + (n : Int) % 10)] 5)).drew = .ok (.string (bs [UInt8.ofNat (48 + (n : Int) % 10).toNat])) (w.alloc (.cells #[.int .u8 (48 + (n : Int) % 10)] 5)).drew := run_conv1_at (blk_drew (blk_new w _)) Tryz.underlying47 Tryz.underlying5 Tryz.underlying9 hx0 hx1
     go_wp2_with fail
     go_region_with (go_at_call 28; refine (ih (n / 10) om_ _ (by first | omega | (rw [IntKind.wrap_i64]; omega)) om_ _).mono ?_; rintro e w1 ⟨rfl, hb⟩; (first | (have kd : (convert 47 9 (.slice (some ⟨w.heap.size, 0, none⟩) 1 1)).run Tryz.prog w1 = .ok (.string (bs [UInt8.ofNat (48 + (n : Int) % 10).toNat])) w1 := run_conv1_at (blk_below (blk_drew (blk_new _ _)) hb si_) Tryz.underlying47 Tryz.underlying5 Tryz.underlying9 hx0 hx1) | skip))
     all_goals go_wp2_with fail
     all_goals exact bodyPost_ret (v := .string (bs (Lib.decDigits (n / 10) ++ [UInt8.ofNat (48 + n % 10)]))) (by simp [results, Tryz.results28, go_sem]) rfl ⟨by rw [H.out, if_neg om_], bl_⟩
theorem ref7Digits (x : Int) (h0 : 0 ≤ x) (h1 : x ≤ 9223372036854775807) (w : World) :
  Calls Tryz.prog 28 #[.int .i64 x] w fun e w' => e = .returned (.string (bs (Lib.decDigits x.toNat))) ∧ Below w.heap.size w w' :=
 ref7Digits0 x.toNat x om_ om_ w
theorem bytes_ne (a b : UInt8) : (((a.toNat : Int)) != (b.toNat : Int)) = (a != b) := by
 rw [Bool.eq_iff_iff, bne_iff_ne, bne_iff_ne, ne_eq, ne_eq, Int.ofNat_inj, UInt8.toNat_inj]
theorem amountT_no7 {m : Int} (h : m < 0 ∨ 2100000000000000000 < m) : amountT m = [] ∧ amountE m = 40 := by
 constructor
 · unfold amountT; rw [if_pos (by unfold maxMoney; omega)]
 · unfold amountE; rw [if_pos (by unfold maxMoney; omega)]
theorem amountE_ok7 {m : Int} (h0 : 0 ≤ m) (h1 : m ≤ 2100000000000000000) : amountE m = 0 := by unfold amountE; rw [if_neg (by unfold maxMoney; omega)]
theorem amountT_go7 {m : Nat} (h0 : 0 < m) (h1 : m ≤ 2100000000000000000) : amountT (m : Int) = amtGo m unitL := by
 unfold amountT
 rw [if_neg (by unfold maxMoney; omega)]
 rfl
theorem all_no {s : List UInt8} {i : Nat} (hi : i < s.length) (h : isDg s[i] = false) : s.all isDg = false := by
 rw [List.all_eq_false]
 exact ⟨s[i], List.getElem_mem hi, by rw [h]; simp⟩
theorem all_yes {s : List UInt8} (h : ∀ j, (hj : j < s.length) → isDg s[j] = true) : s.all isDg = true := by
 rw [List.all_eq_true]
 intro x hx
 obtain ⟨j, hj, rfl⟩ := List.getElem_of_mem hx
 exact h j hj
theorem ref7Whole (s : List UInt8) (hs : s.length ≤ 1000000) (w : World) :
  Calls Tryz.prog 34 #[.string (bs s)] w fun e w' => e = .returned (.bool (wholeP s)) ∧ w' = w := by
 go_enter Tryz.func34, Tryz.ntmps34
 go_wp2_with fail
 go_loopw [3] (fun iv wr => ∃ i : Nat, i ≤ s.length ∧ iv = .int .i64 i ∧ Hid (∀ j, (hj : j < s.length) → j < i → isDg s[j] = true) ∧ Hid (wr = w)) (fun iv _ => s.length - (intOf iv).toNat)
 case atStart => exact ⟨0, by omega, rfl, Lib.hid (fun j _ h => by omega), Lib.hid rfl⟩
 case round =>
  obtain ⟨i, hi, rfl, HA, hw⟩ := hrel
  obtain rfl := hw.out
  clear hw
  by_cases hlt : i < s.length
  · have hix : ∀ W, (Instr.index 9 (.string (bs s)) (.int .i64 (i : Int))).run Tryz.prog W = .ok (.int .u8 ((s[i]).toNat : Nat)) W := fun W => by rw [index_strK W .i64 s i hlt, getD_at hlt]
    have hi0 : (0 : Int) ≤ i := by omega
    cases hd : isDg s[i] with
    | false =>
      have HW : Hid (wholeP s = false) := Lib.hid (by unfold wholeP; rw [all_no hlt hd]; rfl)
      have hcase : s[i].toNat < 48 ∨ 57 < s[i].toNat := by
       unfold isDg at hd
       simp only [Bool.and_eq_false_iff, decide_eq_false_iff_not] at hd
       omega
      clear hd HA
      generalize s[i].toNat = c at *
      rcases hcase with hc | hc
      · have h1 : decide ((c : Int) < 48) = true := by simp; omega
        go_wp2_with fail
        exact bodyPost_ret (v := .bool false) (by simp [results, Tryz.results34, go_sem]) rfl ⟨by rw [HW.out], rfl⟩
      · have h1 : decide ((c : Int) < 48) = false := by simp; omega
        have h2 : decide ((57 : Int) < c) = true := by simp; omega
        go_wp2_with fail
        exact bodyPost_ret (v := .bool false) (by simp [results, Tryz.results34, go_sem]) rfl ⟨by rw [HW.out], rfl⟩
    | true =>
      have HA2 : Hid (∀ j, (hj : j < s.length) → j < i + 1 → isDg s[j] = true) := Lib.hid (fun j hj h => by
       by_cases e : j = i
       · subst e; exact hd
       · exact HA.out j hj om_)
      have hcase : 48 ≤ s[i].toNat ∧ s[i].toNat ≤ 57 := by simpa [isDg] using hd
      clear hd HA
      generalize s[i].toNat = c at *
      have h1 : decide ((c : Int) < 48) = false := by simp; omega
      have h2 : decide ((57 : Int) < c) = false := by simp; omega
      go_wp2_with fail
      exact ⟨⟨i + 1, by omega, by go_num, HA2, Lib.hid trivial⟩, by simp [intOf]; omega⟩
  · obtain rfl : i = s.length := by omega
    have hall := all_yes (fun j hj => HA.out j hj hj)
    clear HA
    by_cases h0 : s = []
    · subst h0
      go_wp2_with fail
      exact bodyPost_ret (v := .bool false) (by simp [results, Tryz.results34, go_sem]) rfl ⟨rfl, rfl⟩
    · have hlen : 0 < s.length := List.length_pos_iff.2 h0
      have hix : ∀ W, (Instr.index 9 (.string (bs s)) (.int .i64 0)).run Tryz.prog W = .ok (.int .u8 ((head s).toNat : Nat)) W := fun W => by
       have h := index_strK W .i64 s 0 hlen
       cases s with
       | nil => exact absurd rfl h0
       | cons a r => exact h
      have HW : Hid (wholeP s = (head s != 48)) := Lib.hid (by unfold wholeP; rw [hall, show (s != []) = true by simpa using h0]; simp)
      have h48 : (((head s).toNat : Int) != 48) = (head s != 48) := bytes_ne (head s) 48
      have hem : s.isEmpty = false := by simpa using h0
      clear hall
      go_wp2_with fail
      exact bodyPost_ret (v := .bool (head s != 48)) (by simp [results, Tryz.results34, go_sem, h48, hem]) rfl ⟨by rw [HW.out], rfl⟩
def unit7 : Array Value := #[.int .i64 100000000000, .int .i64 100000000, .int .i64 100000, .int .i64 100]
def name7 : Array Value := #[.string (bs []), .string (bs [109]), .string (bs [117]), .string (bs [110])]
theorem ref7Amount (m : Int) (hm0 : -9223372036854775808 ≤ m) (hm1 : m ≤ 9223372036854775807) (w : World) :
  Calls Tryz.prog 11 #[.int .i64 m] w fun e w' => e = .returned (.tuple #[.string (bs (amountT m)), .int .i64 (amountE m)]) ∧ Below w.heap.size w w' := by
 by_cases hbad : m < 0 ∨ 2100000000000000000 < m
 · have HA := Lib.hid (amountT_no7 hbad)
   rcases hbad with h | h
   · go_enter Tryz.func11, Tryz.ntmps11
     go_wp2_with fail
     exact bodyPost_ret (v := .tuple #[.string (bs []), .int .i64 40]) (by simp [results, Tryz.results11, go_sem]) rfl ⟨by rw [HA.out.1, HA.out.2], bl_⟩
   · go_enter Tryz.func11, Tryz.ntmps11
     go_wp2_with fail
     exact bodyPost_ret (v := .tuple #[.string (bs []), .int .i64 40]) (by simp [results, Tryz.results11, go_sem]) rfl ⟨by rw [HA.out.1, HA.out.2], bl_⟩
 · by_cases hz : m = 0
   · subst hz
     go_enter Tryz.func11, Tryz.ntmps11
     go_wp2_with fail
     go_ret2
     exact ⟨rfl, bl_⟩
   · obtain ⟨n, rfl⟩ : ∃ n : Nat, m = n := ⟨m.toNat, by omega⟩
     have hn0 : 0 < n := by omega
     have hn1 : n ≤ 2100000000000000000 := by omega
     have HE := Lib.hid (amountE_ok7 om_ om_ : amountE (n : Int) = 0)
     have HT := Lib.hid (amountT_go7 hn0 hn1)
     have p0 : (0 : Int) < n := by omega
     have p1 : (n : Int) ≤ 2100000000000000000 := by omega
     clear hbad hz hm0 hm1
     go_enter Tryz.func11, Tryz.ntmps11
     go_wp2_with fail
     have HU0 : Hid (((w.alloc (.cells unit7 2)).alloc (.cells name7 9)).heap[w.heap.size]? = some (.cells unit7 2 (0, 0))) := Lib.hid (blk_alloc (blk_new _ _) _)
     have HN0 : Hid (((w.alloc (.cells unit7 2)).alloc (.cells name7 9)).heap[w.heap.size + 1]? = some (.cells name7 9 (0, 0))) := Lib.hid (by have := blk_new (w.alloc (.cells unit7 2)) (.cells name7 9); rwa [World.size_alloc] at this)
     have HG0 : Hid (GL [] w ((w.alloc (.cells unit7 2)).alloc (.cells name7 9))) := Lib.hid (gl_alloc (gl_alloc (gl_refl _ _) _) _)
     unfold unit7 name7 at HU0 HN0 HG0
     generalize (w.alloc (.cells #[.int .i64 100000000000, .int .i64 100000000, .int .i64 100000, .int .i64 100] 2)).alloc (.cells #[.string (bs []), .string (bs [109]), .string (bs [117]), .string (bs [110])] 9) = w0 at *
     go_loopw [6] (fun iv wr => ∃ i : Nat, i ≤ 4 ∧ iv = .int .i64 i ∧ Hid (amtGo n unitL = amtGo n (unitL.drop i)) ∧ Hid (wr = w0)) (fun iv _ => 4 - (intOf iv).toNat)
     case atStart => exact ⟨0, by omega, rfl, Lib.hid rfl, Lib.hid rfl⟩
     case round =>
      obtain ⟨i, hi, rfl, hgo, hw⟩ := hrel
      obtain rfl := hw.out
      clear hw
      have fu := blk_cell HU0.out
      have fn := blk_cell HN0.out
      rcases (by omega : i = 0 ∨ i = 1 ∨ i = 2 ∨ i = 3 ∨ i = 4) with rfl | rfl | rfl | rfl | rfl
      · by_cases hd : n % 100000000000 = 0
        · have HTX : Hid (amountT (n : Int) = Lib.decDigits (n / 100000000000) ++ []) := Lib.hid (by rw [HT.out, hgo.out]; exact if_pos hd)
          have hdl : (Lib.decDigits (n / 100000000000)).length ≤ 20 := dec_len20 _ om_
          have hbt : (((n : Int) % 100000000000) == 0) = true := by simp; omega
          go_wp2_with fail
          go_region_with (go_at_call 28; refine (ref7Digits0 (n / 100000000000) _ (by first | omega | (rw [IntKind.wrap_i64]; omega)) om_ _).mono ?_; rintro e w2 ⟨rfl, hb2⟩; have k0 := blk_cell (blk_below (blk_drew HN0.out) hb2 (blk_lt (blk_drew HN0.out))); have k1 := blk_cell (blk_below (blk_drew HU0.out) hb2 (blk_lt (blk_drew HU0.out))))
          all_goals go_wp2_with fail
          all_goals exact bodyPost_ret (v := .tuple #[.string (bs (Lib.decDigits (n / 100000000000) ++ [])), .int .i64 0]) (by simp [results, Tryz.results11, go_sem]) rfl ⟨by rw [HTX.out, HE.out], gl_to_below (gl_below hb2 (gl_drew HG0.out))⟩
        · have hbt : (((n : Int) % 100000000000) == 0) = false := by simp; omega
          have HTX : Hid (amtGo n unitL = amtGo n (unitL.drop 1)) := Lib.hid (by rw [hgo.out]; exact if_neg hd)
          go_wp2_with fail
          exact ⟨⟨1, by omega, by first | rfl | (simp; done), HTX, by first | exact Lib.hid rfl | exact Lib.hid trivial⟩, by first | (simp [intOf]; done) | (simp [intOf]; omega)⟩
      · by_cases hd : n % 100000000 = 0
        · have HTX : Hid (amountT (n : Int) = Lib.decDigits (n / 100000000) ++ [109]) := Lib.hid (by rw [HT.out, hgo.out]; exact if_pos hd)
          have hdl : (Lib.decDigits (n / 100000000)).length ≤ 20 := dec_len20 _ om_
          have hbt : (((n : Int) % 100000000) == 0) = true := by simp; omega
          go_wp2_with fail
          go_region_with (go_at_call 28; refine (ref7Digits0 (n / 100000000) _ (by first | omega | (rw [IntKind.wrap_i64]; omega)) om_ _).mono ?_; rintro e w2 ⟨rfl, hb2⟩; have k0 := blk_cell (blk_below (blk_drew HN0.out) hb2 (blk_lt (blk_drew HN0.out))); have k1 := blk_cell (blk_below (blk_drew HU0.out) hb2 (blk_lt (blk_drew HU0.out))))
          all_goals go_wp2_with fail
          all_goals exact bodyPost_ret (v := .tuple #[.string (bs (Lib.decDigits (n / 100000000) ++ [109])), .int .i64 0]) (by simp [results, Tryz.results11, go_sem]) rfl ⟨by rw [HTX.out, HE.out], gl_to_below (gl_below hb2 (gl_drew HG0.out))⟩
        · have hbt : (((n : Int) % 100000000) == 0) = false := by simp; omega
          have HTX : Hid (amtGo n unitL = amtGo n (unitL.drop 2)) := Lib.hid (by rw [hgo.out]; exact if_neg hd)
          go_wp2_with fail
          exact ⟨⟨2, by omega, by first | rfl | (simp; done), HTX, by first | exact Lib.hid rfl | exact Lib.hid trivial⟩, by first | (simp [intOf]; done) | (simp [intOf]; omega)⟩
      · by_cases hd : n % 100000 = 0
        · have HTX : Hid (amountT (n : Int) = Lib.decDigits (n / 100000) ++ [117]) := Lib.hid (by rw [HT.out, hgo.out]; exact if_pos hd)
          have hdl : (Lib.decDigits (n / 100000)).length ≤ 20 := dec_len20 _ om_
          have hbt : (((n : Int) % 100000) == 0) = true := by simp; omega
          go_wp2_with fail
          go_region_with (go_at_call 28; refine (ref7Digits0 (n / 100000) _ (by first | omega | (rw [IntKind.wrap_i64]; omega)) om_ _).mono ?_; rintro e w2 ⟨rfl, hb2⟩; have k0 := blk_cell (blk_below (blk_drew HN0.out) hb2 (blk_lt (blk_drew HN0.out))); have k1 := blk_cell (blk_below (blk_drew HU0.out) hb2 (blk_lt (blk_drew HU0.out))))
          all_goals go_wp2_with fail
          all_goals exact bodyPost_ret (v := .tuple #[.string (bs (Lib.decDigits (n / 100000) ++ [117])), .int .i64 0]) (by simp [results, Tryz.results11, go_sem]) rfl ⟨by rw [HTX.out, HE.out], gl_to_below (gl_below hb2 (gl_drew HG0.out))⟩
        · have hbt : (((n : Int) % 100000) == 0) = false := by simp; omega
          have HTX : Hid (amtGo n unitL = amtGo n (unitL.drop 3)) := Lib.hid (by rw [hgo.out]; exact if_neg hd)
          go_wp2_with fail
          exact ⟨⟨3, by omega, by first | rfl | (simp; done), HTX, by first | exact Lib.hid rfl | exact Lib.hid trivial⟩, by first | (simp [intOf]; done) | (simp [intOf]; omega)⟩
      · by_cases hd : n % 100 = 0
        · have HTX : Hid (amountT (n : Int) = Lib.decDigits (n / 100) ++ [110]) := Lib.hid (by rw [HT.out, hgo.out]; exact if_pos hd)
          have hdl : (Lib.decDigits (n / 100)).length ≤ 20 := dec_len20 _ om_
          have hbt : (((n : Int) % 100) == 0) = true := by simp; omega
          go_wp2_with fail
          go_region_with (go_at_call 28; refine (ref7Digits0 (n / 100) _ (by first | omega | (rw [IntKind.wrap_i64]; omega)) om_ _).mono ?_; rintro e w2 ⟨rfl, hb2⟩; have k0 := blk_cell (blk_below (blk_drew HN0.out) hb2 (blk_lt (blk_drew HN0.out))); have k1 := blk_cell (blk_below (blk_drew HU0.out) hb2 (blk_lt (blk_drew HU0.out))))
          all_goals go_wp2_with fail
          all_goals exact bodyPost_ret (v := .tuple #[.string (bs (Lib.decDigits (n / 100) ++ [110])), .int .i64 0]) (by simp [results, Tryz.results11, go_sem]) rfl ⟨by rw [HTX.out, HE.out], gl_to_below (gl_below hb2 (gl_drew HG0.out))⟩
        · have hbt : (((n : Int) % 100) == 0) = false := by simp; omega
          have HTX : Hid (amtGo n unitL = amtGo n (unitL.drop 4)) := Lib.hid (by rw [hgo.out]; exact if_neg hd)
          go_wp2_with fail
          exact ⟨⟨4, by omega, by first | rfl | (simp; done), HTX, by first | exact Lib.hid rfl | exact Lib.hid trivial⟩, by first | (simp [intOf]; done) | (simp [intOf]; omega)⟩
      · have HTX : Hid (amountT (n : Int) = Lib.decDigits n ++ [48, 112]) := Lib.hid (by rw [HT.out, hgo.out]; rfl)
        have hdl : (Lib.decDigits n).length ≤ 20 := dec_len20 _ om_
        go_wp2_with fail
        refine (ref7Digits0 n _ om_ om_ _).mono ?_
        rintro e w2 ⟨rfl, hb2⟩
        go_wp2_with fail
        exact bodyPost_ret (v := .tuple #[.string (bs (Lib.decDigits n ++ [48, 112])), .int .i64 0]) (by simp [results, Tryz.results11, go_sem]) rfl ⟨by rw [HTX.out, HE.out], gl_to_below (gl_below hb2 HG0.out)⟩
theorem step_big {d : List UInt8} {U i : Nat} (hi : i < d.length) (h : maxMoney / U / 10 < decV (d.take i)) : maxMoney / U < decV d := by
 have h1 := decV_take hi
 have h2 := decV_ge d (i + 1)
 omega
theorem step_big2 {d : List UInt8} {U i : Nat} (h : maxMoney / U < decV (d.take (i + 1))) : maxMoney / U < decV d := by
 have h2 := decV_ge d (i + 1)
 omega
theorem dg_at {d : List UInt8} (h : d.all isDg = true) {i : Nat} (hi : i < d.length) : 48 ≤ (d[i]).toNat ∧ (d[i]).toNat ≤ 57 := by
 have := List.all_eq_true.1 h d[i] (List.getElem_mem hi)
 simpa [isDg] using this
theorem last_facts {s d : List UInt8} {c : UInt8} (h : s = d ++ [c]) : (1 : Int) ≤ s.length ∧ s.isEmpty = false ∧ s.take (s.length - 1) = d ∧ d.length ≤ s.length ∧
  ∀ W, (Instr.index 9 (.string (bs s)) (.int .i64 ((s.length : Int) - 1))).run Tryz.prog W = .ok (.int .u8 (c.toNat : Nat)) W := by
 subst h
 refine ⟨by simp; omega, by simp, by simp, by simp, fun W => ?_⟩
 have h := index_strK W .i64 (d ++ [c]) d.length si_
 rw [show (((d ++ [c]).length : Int) - 1) = (d.length : Int) by simp, h]
 simp
theorem last_get {d : List UInt8} (h : d ≠ []) : (1 : Int) ≤ d.length ∧ ∀ W, (Instr.index 9 (.string (bs d)) (.int .i64 ((d.length : Int) - 1))).run Tryz.prog W = .ok (.int .u8 ((d.getD (d.length - 1) 0).toNat : Nat)) W := by
 have hlen : 0 < d.length := List.length_pos_iff.2 h
 refine ⟨by omega, fun W => ?_⟩
 have h := index_strK W .i64 d (d.length - 1) om_
 rw [show ((d.length - 1 : Nat) : Int) = (d.length : Int) - 1 by omega] at h
 exact h
theorem rdNoWhole109 (s d : List UInt8) (hs : s.length ≤ 1000000) (HS : Hid (s = d ++ [109])) (HX : Hid (readV s = (0, 70))) (HWW : Hid (wholeP d = false)) (w : World) :
  Calls Tryz.prog 13 #[.string (bs s)] w fun e w' => e = .returned (.tuple #[.int .i64 (readV s).1, .int .i64 (readV s).2]) ∧ w' = w := by
 obtain ⟨hlen1, hem, hdl0, hdl1, hix⟩ := last_facts HS.out
 have HDL := Lib.hid hdl0
 have hdl : d.length ≤ 1000000 := by omega
 rw [show (((109 : UInt8).toNat : Nat) : Int) = 109 from rfl] at hix
 clear hdl0 hdl1
 go_enter Tryz.func13, Tryz.ntmps13
 go_wp2_with fail
 rw [HDL.out]
 refine (ref7Whole d hdl w).mono ?_
 rintro e w1 ⟨rfl, rfl⟩
 rw [HWW.out]
 go_wp2_with fail
 exact bodyPost_ret (v := .tuple #[.int .i64 0, .int .i64 70]) (by simp [results, Tryz.results13, go_sem]) rfl ⟨by rw [HX.out], rfl⟩
theorem rdNought109 (s d : List UInt8) (hs : s.length ≤ 1000000) (HS : Hid (s = d ++ [109])) (HX : Hid (readV s = (0, 70))) (HWW : Hid (wholeP d = true)) (h3 : 3 < d.length) (H0 : Hid (d.drop (d.length - 3) = [48, 48, 48])) (w : World) :
  Calls Tryz.prog 13 #[.string (bs s)] w fun e w' => e = .returned (.tuple #[.int .i64 (readV s).1, .int .i64 (readV s).2]) ∧ w' = w := by
 obtain ⟨hlen1, hem, hdl0, hdl1, hix⟩ := last_facts HS.out
 have HDL := Lib.hid hdl0
 have hdl : d.length ≤ 1000000 := by omega
 rw [show (((109 : UInt8).toNat : Nat) : Int) = 109 from rfl] at hix
 clear hdl0 hdl1
 have h31 : decide ((3 : Int) < d.length) = true := by simp; omega
 have h32 : (3 : Int) < d.length := by omega
 have hz2 : List.take (d.length - (d.length - 3)) (List.drop (d.length - 3) d) = [48, 48, 48] := by rw [H0.out]; exact List.take_of_length_le so_
 have hz : (List.take (d.length - (d.length - 3)) (List.drop (d.length - 3) d) == [48, 48, 48]) = true := by rw [hz2]; rfl
 go_enter Tryz.func13, Tryz.ntmps13
 go_wp2_with fail
 rw [HDL.out]
 refine (ref7Whole d hdl w).mono ?_
 rintro e w1 ⟨rfl, rfl⟩
 rw [HWW.out]
 go_wp2_with fail
 exact bodyPost_ret (v := .tuple #[.int .i64 0, .int .i64 70]) (by simp [results, Tryz.results13, go_sem]) rfl ⟨by rw [HX.out], rfl⟩
theorem rdGood109L (s d : List UInt8) (hs : s.length ≤ 1000000) (HS : Hid (s = d ++ [109])) (HWW : Hid (wholeP d = true)) (h3 : 3 < d.length) (H0 : Hid (d.drop (d.length - 3) ≠ [48, 48, 48])) (HV : Hid (readV s = rdEnd 100000000 d)) (w : World) :
  Calls Tryz.prog 13 #[.string (bs s)] w fun e w' => e = .returned (.tuple #[.int .i64 (readV s).1, .int .i64 (readV s).2]) ∧ w' = w := by
 obtain ⟨hlen1, hem, hdl0, hdl1, hix⟩ := last_facts HS.out
 have HDL := Lib.hid hdl0
 have hdl : d.length ≤ 1000000 := by omega
 rw [show (((109 : UInt8).toNat : Nat) : Int) = 109 from rfl] at hix
 clear hdl0 hdl1
 have h31 : decide ((3 : Int) < d.length) = true := by simp; omega
 have h32 : (3 : Int) < d.length := by omega
 have hz3 : List.take (d.length - (d.length - 3)) (List.drop (d.length - 3) d) = d.drop (d.length - 3) := List.take_of_length_le si_
 have hz2 : ¬ List.take (d.length - (d.length - 3)) (List.drop (d.length - 3) d) = [48, 48, 48] := by rw [hz3]; exact H0.out
 have hz : (List.take (d.length - (d.length - 3)) (List.drop (d.length - 3) d) == [48, 48, 48]) = false := by simpa using hz2
 clear hz3
 have HWD := HWW
 go_enter Tryz.func13, Tryz.ntmps13
 go_wp2_with fail
 rw [HDL.out]
 refine (ref7Whole d hdl w).mono ?_
 rintro e w1 ⟨rfl, rfl⟩
 rw [HWW.out]
 go_wp2_with fail
 refine (ref7Whole d hdl w1).mono ?_
 rintro e w2 ⟨rfl, rfl⟩
 rw [HWD.out]
 have HAL := Lib.hid (whole_ok HWD.out).2.1
 go_wp2_with fail
 go_loopw [7, 8] (fun nv iv wr => ∃ (i N : Nat), i ≤ d.length ∧ iv = .int .i64 i ∧ nv = .int .i64 N ∧ N ≤ 21000000000 ∧ Hid (N = decV (d.take i)) ∧ Hid (wr = w2)) (fun _ iv _ => d.length - (intOf iv).toNat)
 case atStart => exact ⟨0, 0, by omega, rfl, rfl, by omega, Lib.hid rfl, Lib.hid rfl⟩
 case round =>
  obtain ⟨i, N, hi, rfl, rfl, hN, HN, hw⟩ := hrel
  obtain rfl := hw.out
  clear hw
  have hi0 : (0 : Int) ≤ i := by omega
  by_cases hlt : i < d.length
  · have hix : ∀ W, (Instr.index 9 (.string (bs d)) (.int .i64 (i : Int))).run Tryz.prog W = .ok (.int .u8 ((d[i]).toNat : Nat)) W := fun W => by rw [index_strK W .i64 d i hlt, getD_at hlt]
    obtain ⟨g0, g1⟩ := dg_at HAL.out hlt
    have HT := Lib.hid (decV_take hlt)
    by_cases hb : 2100000000 < N
    · have HX : Hid (readV s = (0, 40)) := Lib.hid (by rw [HV.out]; exact if_pos (step_big hlt (by rw [← HN.out]; exact hb)))
      have hb1 : decide ((2100000000 : Int) < N) = true := by simp; omega
      clear HT HN
      go_wp2_with fail
      exact bodyPost_ret (v := .tuple #[.int .i64 0, .int .i64 40]) (by simp [results, Tryz.results13, go_sem]) rfl ⟨by rw [HX.out], rfl⟩
    · have hb1 : decide ((2100000000 : Int) < N) = false := by simp; omega
      have hb3 : (N : Int) ≤ 2100000000 := by omega
      rw [← HN.out] at HT
      have g2 : (48 : Int) ≤ (d[i]).toNat := by omega
      have g3 : ((d[i]).toNat : Int) ≤ 57 := by omega
      by_cases hb2 : 21000000000 < N * 10 + ((d[i]).toNat - 48)
      · have HX : Hid (readV s = (0, 40)) := Lib.hid (by rw [HV.out]; exact if_pos (step_big2 (i := i) (by rw [HT.out]; exact hb2)))
        have hb4 : decide ((21000000000 : Int) < (N : Int) * 10 + (((d[i]).toNat : Int) - 48)) = true := by simp; omega
        clear HT HN
        generalize (d[i]).toNat = c1 at *
        go_wp2_with fail
        exact bodyPost_ret (v := .tuple #[.int .i64 0, .int .i64 40]) (by simp [results, Tryz.results13, go_sem]) rfl ⟨by rw [HX.out], rfl⟩
      · have HN2 : Hid (N * 10 + ((d[i]).toNat - 48) = decV (d.take (i + 1))) := Lib.hid HT.out.symm
        have hb4 : decide ((21000000000 : Int) < (N : Int) * 10 + (((d[i]).toNat : Int) - 48)) = false := by simp; omega
        clear HT HN
        generalize (d[i]).toNat = c1 at *
        go_wp2_with fail
        exact ⟨⟨i + 1, N * 10 + (c1 - 48), by omega, by go_num, by go_num, by omega, HN2, by first | exact Lib.hid rfl | exact Lib.hid trivial⟩, by simp [intOf]; omega⟩
  · obtain rfl : i = d.length := by omega
    have HX : Hid (readV s = (((N * 100000000 : Nat) : Int), 0)) := Lib.hid (by
     have h := HN.out
     rw [List.take_length] at h
     rw [HV.out]
     unfold rdEnd
     rw [← h]
     exact if_neg (by rw [show maxMoney / 100000000 = 21000000000 by decide]; omega))
    clear HN HAL HWD HV
    go_wp2_with fail
    exact bodyPost_ret (v := .tuple #[.int .i64 ((N : Int) * 100000000), .int .i64 0]) (by simp [results, Tryz.results13, go_sem]) rfl ⟨by rw [HX.out]; simp, rfl⟩
theorem rdGood109S (s d : List UInt8) (hs : s.length ≤ 1000000) (HS : Hid (s = d ++ [109])) (HWW : Hid (wholeP d = true)) (h3 : ¬ 3 < d.length) (HV : Hid (readV s = rdEnd 100000000 d)) (w : World) :
  Calls Tryz.prog 13 #[.string (bs s)] w fun e w' => e = .returned (.tuple #[.int .i64 (readV s).1, .int .i64 (readV s).2]) ∧ w' = w := by
 obtain ⟨hlen1, hem, hdl0, hdl1, hix⟩ := last_facts HS.out
 have HDL := Lib.hid hdl0
 have hdl : d.length ≤ 1000000 := by omega
 rw [show (((109 : UInt8).toNat : Nat) : Int) = 109 from rfl] at hix
 clear hdl0 hdl1
 have h31 : decide ((3 : Int) < d.length) = false := by simp; omega
 have h32 : ¬ (3 : Int) < d.length := by omega
 have HWD := HWW
 go_enter Tryz.func13, Tryz.ntmps13
 go_wp2_with fail
 rw [HDL.out]
 refine (ref7Whole d hdl w).mono ?_
 rintro e w1 ⟨rfl, rfl⟩
 rw [HWW.out]
 go_wp2_with fail
 refine (ref7Whole d hdl w1).mono ?_
 rintro e w2 ⟨rfl, rfl⟩
 rw [HWD.out]
 have HAL := Lib.hid (whole_ok HWD.out).2.1
 go_wp2_with fail
 go_loopw [7, 8] (fun nv iv wr => ∃ (i N : Nat), i ≤ d.length ∧ iv = .int .i64 i ∧ nv = .int .i64 N ∧ N ≤ 21000000000 ∧ Hid (N = decV (d.take i)) ∧ Hid (wr = w2)) (fun _ iv _ => d.length - (intOf iv).toNat)
 case atStart => exact ⟨0, 0, by omega, rfl, rfl, by omega, Lib.hid rfl, Lib.hid rfl⟩
 case round =>
  obtain ⟨i, N, hi, rfl, rfl, hN, HN, hw⟩ := hrel
  obtain rfl := hw.out
  clear hw
  have hi0 : (0 : Int) ≤ i := by omega
  by_cases hlt : i < d.length
  · have hix : ∀ W, (Instr.index 9 (.string (bs d)) (.int .i64 (i : Int))).run Tryz.prog W = .ok (.int .u8 ((d[i]).toNat : Nat)) W := fun W => by rw [index_strK W .i64 d i hlt, getD_at hlt]
    obtain ⟨g0, g1⟩ := dg_at HAL.out hlt
    have HT := Lib.hid (decV_take hlt)
    by_cases hb : 2100000000 < N
    · have HX : Hid (readV s = (0, 40)) := Lib.hid (by rw [HV.out]; exact if_pos (step_big hlt (by rw [← HN.out]; exact hb)))
      have hb1 : decide ((2100000000 : Int) < N) = true := by simp; omega
      clear HT HN
      go_wp2_with fail
      exact bodyPost_ret (v := .tuple #[.int .i64 0, .int .i64 40]) (by simp [results, Tryz.results13, go_sem]) rfl ⟨by rw [HX.out], rfl⟩
    · have hb1 : decide ((2100000000 : Int) < N) = false := by simp; omega
      have hb3 : (N : Int) ≤ 2100000000 := by omega
      rw [← HN.out] at HT
      have g2 : (48 : Int) ≤ (d[i]).toNat := by omega
      have g3 : ((d[i]).toNat : Int) ≤ 57 := by omega
      by_cases hb2 : 21000000000 < N * 10 + ((d[i]).toNat - 48)
      · have HX : Hid (readV s = (0, 40)) := Lib.hid (by rw [HV.out]; exact if_pos (step_big2 (i := i) (by rw [HT.out]; exact hb2)))
        have hb4 : decide ((21000000000 : Int) < (N : Int) * 10 + (((d[i]).toNat : Int) - 48)) = true := by simp; omega
        clear HT HN
        generalize (d[i]).toNat = c1 at *
        go_wp2_with fail
        exact bodyPost_ret (v := .tuple #[.int .i64 0, .int .i64 40]) (by simp [results, Tryz.results13, go_sem]) rfl ⟨by rw [HX.out], rfl⟩
      · have HN2 : Hid (N * 10 + ((d[i]).toNat - 48) = decV (d.take (i + 1))) := Lib.hid HT.out.symm
        have hb4 : decide ((21000000000 : Int) < (N : Int) * 10 + (((d[i]).toNat : Int) - 48)) = false := by simp; omega
        clear HT HN
        generalize (d[i]).toNat = c1 at *
        go_wp2_with fail
        exact ⟨⟨i + 1, N * 10 + (c1 - 48), by omega, by go_num, by go_num, by omega, HN2, by first | exact Lib.hid rfl | exact Lib.hid trivial⟩, by simp [intOf]; omega⟩
  · obtain rfl : i = d.length := by omega
    have HX : Hid (readV s = (((N * 100000000 : Nat) : Int), 0)) := Lib.hid (by
     have h := HN.out
     rw [List.take_length] at h
     rw [HV.out]
     unfold rdEnd
     rw [← h]
     exact if_neg (by rw [show maxMoney / 100000000 = 21000000000 by decide]; omega))
    clear HN HAL HWD HV
    go_wp2_with fail
    exact bodyPost_ret (v := .tuple #[.int .i64 ((N : Int) * 100000000), .int .i64 0]) (by simp [results, Tryz.results13, go_sem]) rfl ⟨by rw [HX.out]; simp, rfl⟩
theorem rdNoWhole117 (s d : List UInt8) (hs : s.length ≤ 1000000) (HS : Hid (s = d ++ [117])) (HX : Hid (readV s = (0, 70))) (HWW : Hid (wholeP d = false)) (w : World) :
  Calls Tryz.prog 13 #[.string (bs s)] w fun e w' => e = .returned (.tuple #[.int .i64 (readV s).1, .int .i64 (readV s).2]) ∧ w' = w := by
 obtain ⟨hlen1, hem, hdl0, hdl1, hix⟩ := last_facts HS.out
 have HDL := Lib.hid hdl0
 have hdl : d.length ≤ 1000000 := by omega
 rw [show (((117 : UInt8).toNat : Nat) : Int) = 117 from rfl] at hix
 clear hdl0 hdl1
 go_enter Tryz.func13, Tryz.ntmps13
 go_wp2_with fail
 rw [HDL.out]
 refine (ref7Whole d hdl w).mono ?_
 rintro e w1 ⟨rfl, rfl⟩
 rw [HWW.out]
 go_wp2_with fail
 exact bodyPost_ret (v := .tuple #[.int .i64 0, .int .i64 70]) (by simp [results, Tryz.results13, go_sem]) rfl ⟨by rw [HX.out], rfl⟩
theorem rdNought117 (s d : List UInt8) (hs : s.length ≤ 1000000) (HS : Hid (s = d ++ [117])) (HX : Hid (readV s = (0, 70))) (HWW : Hid (wholeP d = true)) (h3 : 3 < d.length) (H0 : Hid (d.drop (d.length - 3) = [48, 48, 48])) (w : World) :
  Calls Tryz.prog 13 #[.string (bs s)] w fun e w' => e = .returned (.tuple #[.int .i64 (readV s).1, .int .i64 (readV s).2]) ∧ w' = w := by
 obtain ⟨hlen1, hem, hdl0, hdl1, hix⟩ := last_facts HS.out
 have HDL := Lib.hid hdl0
 have hdl : d.length ≤ 1000000 := by omega
 rw [show (((117 : UInt8).toNat : Nat) : Int) = 117 from rfl] at hix
 clear hdl0 hdl1
 have h31 : decide ((3 : Int) < d.length) = true := by simp; omega
 have h32 : (3 : Int) < d.length := by omega
 have hz2 : List.take (d.length - (d.length - 3)) (List.drop (d.length - 3) d) = [48, 48, 48] := by rw [H0.out]; exact List.take_of_length_le so_
 have hz : (List.take (d.length - (d.length - 3)) (List.drop (d.length - 3) d) == [48, 48, 48]) = true := by rw [hz2]; rfl
 go_enter Tryz.func13, Tryz.ntmps13
 go_wp2_with fail
 rw [HDL.out]
 refine (ref7Whole d hdl w).mono ?_
 rintro e w1 ⟨rfl, rfl⟩
 rw [HWW.out]
 go_wp2_with fail
 exact bodyPost_ret (v := .tuple #[.int .i64 0, .int .i64 70]) (by simp [results, Tryz.results13, go_sem]) rfl ⟨by rw [HX.out], rfl⟩
theorem rdGood117L (s d : List UInt8) (hs : s.length ≤ 1000000) (HS : Hid (s = d ++ [117])) (HWW : Hid (wholeP d = true)) (h3 : 3 < d.length) (H0 : Hid (d.drop (d.length - 3) ≠ [48, 48, 48])) (HV : Hid (readV s = rdEnd 100000 d)) (w : World) :
  Calls Tryz.prog 13 #[.string (bs s)] w fun e w' => e = .returned (.tuple #[.int .i64 (readV s).1, .int .i64 (readV s).2]) ∧ w' = w := by
 obtain ⟨hlen1, hem, hdl0, hdl1, hix⟩ := last_facts HS.out
 have HDL := Lib.hid hdl0
 have hdl : d.length ≤ 1000000 := by omega
 rw [show (((117 : UInt8).toNat : Nat) : Int) = 117 from rfl] at hix
 clear hdl0 hdl1
 have h31 : decide ((3 : Int) < d.length) = true := by simp; omega
 have h32 : (3 : Int) < d.length := by omega
 have hz3 : List.take (d.length - (d.length - 3)) (List.drop (d.length - 3) d) = d.drop (d.length - 3) := List.take_of_length_le si_
 have hz2 : ¬ List.take (d.length - (d.length - 3)) (List.drop (d.length - 3) d) = [48, 48, 48] := by rw [hz3]; exact H0.out
 have hz : (List.take (d.length - (d.length - 3)) (List.drop (d.length - 3) d) == [48, 48, 48]) = false := by simpa using hz2
 clear hz3
 have HWD := HWW
 go_enter Tryz.func13, Tryz.ntmps13
 go_wp2_with fail
 rw [HDL.out]
 refine (ref7Whole d hdl w).mono ?_
 rintro e w1 ⟨rfl, rfl⟩
 rw [HWW.out]
 go_wp2_with fail
 refine (ref7Whole d hdl w1).mono ?_
 rintro e w2 ⟨rfl, rfl⟩
 rw [HWD.out]
 have HAL := Lib.hid (whole_ok HWD.out).2.1
 go_wp2_with fail
 go_loopw [7, 8] (fun nv iv wr => ∃ (i N : Nat), i ≤ d.length ∧ iv = .int .i64 i ∧ nv = .int .i64 N ∧ N ≤ 21000000000000 ∧ Hid (N = decV (d.take i)) ∧ Hid (wr = w2)) (fun _ iv _ => d.length - (intOf iv).toNat)
 case atStart => exact ⟨0, 0, by omega, rfl, rfl, by omega, Lib.hid rfl, Lib.hid rfl⟩
 case round =>
  obtain ⟨i, N, hi, rfl, rfl, hN, HN, hw⟩ := hrel
  obtain rfl := hw.out
  clear hw
  have hi0 : (0 : Int) ≤ i := by omega
  by_cases hlt : i < d.length
  · have hix : ∀ W, (Instr.index 9 (.string (bs d)) (.int .i64 (i : Int))).run Tryz.prog W = .ok (.int .u8 ((d[i]).toNat : Nat)) W := fun W => by rw [index_strK W .i64 d i hlt, getD_at hlt]
    obtain ⟨g0, g1⟩ := dg_at HAL.out hlt
    have HT := Lib.hid (decV_take hlt)
    by_cases hb : 2100000000000 < N
    · have HX : Hid (readV s = (0, 40)) := Lib.hid (by rw [HV.out]; exact if_pos (step_big hlt (by rw [← HN.out]; exact hb)))
      have hb1 : decide ((2100000000000 : Int) < N) = true := by simp; omega
      clear HT HN
      go_wp2_with fail
      exact bodyPost_ret (v := .tuple #[.int .i64 0, .int .i64 40]) (by simp [results, Tryz.results13, go_sem]) rfl ⟨by rw [HX.out], rfl⟩
    · have hb1 : decide ((2100000000000 : Int) < N) = false := by simp; omega
      have hb3 : (N : Int) ≤ 2100000000000 := by omega
      rw [← HN.out] at HT
      have g2 : (48 : Int) ≤ (d[i]).toNat := by omega
      have g3 : ((d[i]).toNat : Int) ≤ 57 := by omega
      by_cases hb2 : 21000000000000 < N * 10 + ((d[i]).toNat - 48)
      · have HX : Hid (readV s = (0, 40)) := Lib.hid (by rw [HV.out]; exact if_pos (step_big2 (i := i) (by rw [HT.out]; exact hb2)))
        have hb4 : decide ((21000000000000 : Int) < (N : Int) * 10 + (((d[i]).toNat : Int) - 48)) = true := by simp; omega
        clear HT HN
        generalize (d[i]).toNat = c1 at *
        go_wp2_with fail
        exact bodyPost_ret (v := .tuple #[.int .i64 0, .int .i64 40]) (by simp [results, Tryz.results13, go_sem]) rfl ⟨by rw [HX.out], rfl⟩
      · have HN2 : Hid (N * 10 + ((d[i]).toNat - 48) = decV (d.take (i + 1))) := Lib.hid HT.out.symm
        have hb4 : decide ((21000000000000 : Int) < (N : Int) * 10 + (((d[i]).toNat : Int) - 48)) = false := by simp; omega
        clear HT HN
        generalize (d[i]).toNat = c1 at *
        go_wp2_with fail
        exact ⟨⟨i + 1, N * 10 + (c1 - 48), by omega, by go_num, by go_num, by omega, HN2, by first | exact Lib.hid rfl | exact Lib.hid trivial⟩, by simp [intOf]; omega⟩
  · obtain rfl : i = d.length := by omega
    have HX : Hid (readV s = (((N * 100000 : Nat) : Int), 0)) := Lib.hid (by
     have h := HN.out
     rw [List.take_length] at h
     rw [HV.out]
     unfold rdEnd
     rw [← h]
     exact if_neg (by rw [show maxMoney / 100000 = 21000000000000 by decide]; omega))
    clear HN HAL HWD HV
    go_wp2_with fail
    exact bodyPost_ret (v := .tuple #[.int .i64 ((N : Int) * 100000), .int .i64 0]) (by simp [results, Tryz.results13, go_sem]) rfl ⟨by rw [HX.out]; simp, rfl⟩
theorem rdGood117S (s d : List UInt8) (hs : s.length ≤ 1000000) (HS : Hid (s = d ++ [117])) (HWW : Hid (wholeP d = true)) (h3 : ¬ 3 < d.length) (HV : Hid (readV s = rdEnd 100000 d)) (w : World) :
  Calls Tryz.prog 13 #[.string (bs s)] w fun e w' => e = .returned (.tuple #[.int .i64 (readV s).1, .int .i64 (readV s).2]) ∧ w' = w := by
 obtain ⟨hlen1, hem, hdl0, hdl1, hix⟩ := last_facts HS.out
 have HDL := Lib.hid hdl0
 have hdl : d.length ≤ 1000000 := by omega
 rw [show (((117 : UInt8).toNat : Nat) : Int) = 117 from rfl] at hix
 clear hdl0 hdl1
 have h31 : decide ((3 : Int) < d.length) = false := by simp; omega
 have h32 : ¬ (3 : Int) < d.length := by omega
 have HWD := HWW
 go_enter Tryz.func13, Tryz.ntmps13
 go_wp2_with fail
 rw [HDL.out]
 refine (ref7Whole d hdl w).mono ?_
 rintro e w1 ⟨rfl, rfl⟩
 rw [HWW.out]
 go_wp2_with fail
 refine (ref7Whole d hdl w1).mono ?_
 rintro e w2 ⟨rfl, rfl⟩
 rw [HWD.out]
 have HAL := Lib.hid (whole_ok HWD.out).2.1
 go_wp2_with fail
 go_loopw [7, 8] (fun nv iv wr => ∃ (i N : Nat), i ≤ d.length ∧ iv = .int .i64 i ∧ nv = .int .i64 N ∧ N ≤ 21000000000000 ∧ Hid (N = decV (d.take i)) ∧ Hid (wr = w2)) (fun _ iv _ => d.length - (intOf iv).toNat)
 case atStart => exact ⟨0, 0, by omega, rfl, rfl, by omega, Lib.hid rfl, Lib.hid rfl⟩
 case round =>
  obtain ⟨i, N, hi, rfl, rfl, hN, HN, hw⟩ := hrel
  obtain rfl := hw.out
  clear hw
  have hi0 : (0 : Int) ≤ i := by omega
  by_cases hlt : i < d.length
  · have hix : ∀ W, (Instr.index 9 (.string (bs d)) (.int .i64 (i : Int))).run Tryz.prog W = .ok (.int .u8 ((d[i]).toNat : Nat)) W := fun W => by rw [index_strK W .i64 d i hlt, getD_at hlt]
    obtain ⟨g0, g1⟩ := dg_at HAL.out hlt
    have HT := Lib.hid (decV_take hlt)
    by_cases hb : 2100000000000 < N
    · have HX : Hid (readV s = (0, 40)) := Lib.hid (by rw [HV.out]; exact if_pos (step_big hlt (by rw [← HN.out]; exact hb)))
      have hb1 : decide ((2100000000000 : Int) < N) = true := by simp; omega
      clear HT HN
      go_wp2_with fail
      exact bodyPost_ret (v := .tuple #[.int .i64 0, .int .i64 40]) (by simp [results, Tryz.results13, go_sem]) rfl ⟨by rw [HX.out], rfl⟩
    · have hb1 : decide ((2100000000000 : Int) < N) = false := by simp; omega
      have hb3 : (N : Int) ≤ 2100000000000 := by omega
      rw [← HN.out] at HT
      have g2 : (48 : Int) ≤ (d[i]).toNat := by omega
      have g3 : ((d[i]).toNat : Int) ≤ 57 := by omega
      by_cases hb2 : 21000000000000 < N * 10 + ((d[i]).toNat - 48)
      · have HX : Hid (readV s = (0, 40)) := Lib.hid (by rw [HV.out]; exact if_pos (step_big2 (i := i) (by rw [HT.out]; exact hb2)))
        have hb4 : decide ((21000000000000 : Int) < (N : Int) * 10 + (((d[i]).toNat : Int) - 48)) = true := by simp; omega
        clear HT HN
        generalize (d[i]).toNat = c1 at *
        go_wp2_with fail
        exact bodyPost_ret (v := .tuple #[.int .i64 0, .int .i64 40]) (by simp [results, Tryz.results13, go_sem]) rfl ⟨by rw [HX.out], rfl⟩
      · have HN2 : Hid (N * 10 + ((d[i]).toNat - 48) = decV (d.take (i + 1))) := Lib.hid HT.out.symm
        have hb4 : decide ((21000000000000 : Int) < (N : Int) * 10 + (((d[i]).toNat : Int) - 48)) = false := by simp; omega
        clear HT HN
        generalize (d[i]).toNat = c1 at *
        go_wp2_with fail
        exact ⟨⟨i + 1, N * 10 + (c1 - 48), by omega, by go_num, by go_num, by omega, HN2, by first | exact Lib.hid rfl | exact Lib.hid trivial⟩, by simp [intOf]; omega⟩
  · obtain rfl : i = d.length := by omega
    have HX : Hid (readV s = (((N * 100000 : Nat) : Int), 0)) := Lib.hid (by
     have h := HN.out
     rw [List.take_length] at h
     rw [HV.out]
     unfold rdEnd
     rw [← h]
     exact if_neg (by rw [show maxMoney / 100000 = 21000000000000 by decide]; omega))
    clear HN HAL HWD HV
    go_wp2_with fail
    exact bodyPost_ret (v := .tuple #[.int .i64 ((N : Int) * 100000), .int .i64 0]) (by simp [results, Tryz.results13, go_sem]) rfl ⟨by rw [HX.out]; simp, rfl⟩
theorem rdNoWhole110 (s d : List UInt8) (hs : s.length ≤ 1000000) (HS : Hid (s = d ++ [110])) (HX : Hid (readV s = (0, 70))) (HWW : Hid (wholeP d = false)) (w : World) :
  Calls Tryz.prog 13 #[.string (bs s)] w fun e w' => e = .returned (.tuple #[.int .i64 (readV s).1, .int .i64 (readV s).2]) ∧ w' = w := by
 obtain ⟨hlen1, hem, hdl0, hdl1, hix⟩ := last_facts HS.out
 have HDL := Lib.hid hdl0
 have hdl : d.length ≤ 1000000 := by omega
 rw [show (((110 : UInt8).toNat : Nat) : Int) = 110 from rfl] at hix
 clear hdl0 hdl1
 go_enter Tryz.func13, Tryz.ntmps13
 go_wp2_with fail
 rw [HDL.out]
 refine (ref7Whole d hdl w).mono ?_
 rintro e w1 ⟨rfl, rfl⟩
 rw [HWW.out]
 go_wp2_with fail
 exact bodyPost_ret (v := .tuple #[.int .i64 0, .int .i64 70]) (by simp [results, Tryz.results13, go_sem]) rfl ⟨by rw [HX.out], rfl⟩
theorem rdNought110 (s d : List UInt8) (hs : s.length ≤ 1000000) (HS : Hid (s = d ++ [110])) (HX : Hid (readV s = (0, 70))) (HWW : Hid (wholeP d = true)) (h3 : 3 < d.length) (H0 : Hid (d.drop (d.length - 3) = [48, 48, 48])) (w : World) :
  Calls Tryz.prog 13 #[.string (bs s)] w fun e w' => e = .returned (.tuple #[.int .i64 (readV s).1, .int .i64 (readV s).2]) ∧ w' = w := by
 obtain ⟨hlen1, hem, hdl0, hdl1, hix⟩ := last_facts HS.out
 have HDL := Lib.hid hdl0
 have hdl : d.length ≤ 1000000 := by omega
 rw [show (((110 : UInt8).toNat : Nat) : Int) = 110 from rfl] at hix
 clear hdl0 hdl1
 have h31 : decide ((3 : Int) < d.length) = true := by simp; omega
 have h32 : (3 : Int) < d.length := by omega
 have hz2 : List.take (d.length - (d.length - 3)) (List.drop (d.length - 3) d) = [48, 48, 48] := by rw [H0.out]; exact List.take_of_length_le so_
 have hz : (List.take (d.length - (d.length - 3)) (List.drop (d.length - 3) d) == [48, 48, 48]) = true := by rw [hz2]; rfl
 go_enter Tryz.func13, Tryz.ntmps13
 go_wp2_with fail
 rw [HDL.out]
 refine (ref7Whole d hdl w).mono ?_
 rintro e w1 ⟨rfl, rfl⟩
 rw [HWW.out]
 go_wp2_with fail
 exact bodyPost_ret (v := .tuple #[.int .i64 0, .int .i64 70]) (by simp [results, Tryz.results13, go_sem]) rfl ⟨by rw [HX.out], rfl⟩
theorem rdGood110L (s d : List UInt8) (hs : s.length ≤ 1000000) (HS : Hid (s = d ++ [110])) (HWW : Hid (wholeP d = true)) (h3 : 3 < d.length) (H0 : Hid (d.drop (d.length - 3) ≠ [48, 48, 48])) (HV : Hid (readV s = rdEnd 100 d)) (w : World) :
  Calls Tryz.prog 13 #[.string (bs s)] w fun e w' => e = .returned (.tuple #[.int .i64 (readV s).1, .int .i64 (readV s).2]) ∧ w' = w := by
 obtain ⟨hlen1, hem, hdl0, hdl1, hix⟩ := last_facts HS.out
 have HDL := Lib.hid hdl0
 have hdl : d.length ≤ 1000000 := by omega
 rw [show (((110 : UInt8).toNat : Nat) : Int) = 110 from rfl] at hix
 clear hdl0 hdl1
 have h31 : decide ((3 : Int) < d.length) = true := by simp; omega
 have h32 : (3 : Int) < d.length := by omega
 have hz3 : List.take (d.length - (d.length - 3)) (List.drop (d.length - 3) d) = d.drop (d.length - 3) := List.take_of_length_le si_
 have hz2 : ¬ List.take (d.length - (d.length - 3)) (List.drop (d.length - 3) d) = [48, 48, 48] := by rw [hz3]; exact H0.out
 have hz : (List.take (d.length - (d.length - 3)) (List.drop (d.length - 3) d) == [48, 48, 48]) = false := by simpa using hz2
 clear hz3
 have HWD := HWW
 go_enter Tryz.func13, Tryz.ntmps13
 go_wp2_with fail
 rw [HDL.out]
 refine (ref7Whole d hdl w).mono ?_
 rintro e w1 ⟨rfl, rfl⟩
 rw [HWW.out]
 go_wp2_with fail
 refine (ref7Whole d hdl w1).mono ?_
 rintro e w2 ⟨rfl, rfl⟩
 rw [HWD.out]
 have HAL := Lib.hid (whole_ok HWD.out).2.1
 go_wp2_with fail
 go_loopw [7, 8] (fun nv iv wr => ∃ (i N : Nat), i ≤ d.length ∧ iv = .int .i64 i ∧ nv = .int .i64 N ∧ N ≤ 21000000000000000 ∧ Hid (N = decV (d.take i)) ∧ Hid (wr = w2)) (fun _ iv _ => d.length - (intOf iv).toNat)
 case atStart => exact ⟨0, 0, by omega, rfl, rfl, by omega, Lib.hid rfl, Lib.hid rfl⟩
 case round =>
  obtain ⟨i, N, hi, rfl, rfl, hN, HN, hw⟩ := hrel
  obtain rfl := hw.out
  clear hw
  have hi0 : (0 : Int) ≤ i := by omega
  by_cases hlt : i < d.length
  · have hix : ∀ W, (Instr.index 9 (.string (bs d)) (.int .i64 (i : Int))).run Tryz.prog W = .ok (.int .u8 ((d[i]).toNat : Nat)) W := fun W => by rw [index_strK W .i64 d i hlt, getD_at hlt]
    obtain ⟨g0, g1⟩ := dg_at HAL.out hlt
    have HT := Lib.hid (decV_take hlt)
    by_cases hb : 2100000000000000 < N
    · have HX : Hid (readV s = (0, 40)) := Lib.hid (by rw [HV.out]; exact if_pos (step_big hlt (by rw [← HN.out]; exact hb)))
      have hb1 : decide ((2100000000000000 : Int) < N) = true := by simp; omega
      clear HT HN
      go_wp2_with fail
      exact bodyPost_ret (v := .tuple #[.int .i64 0, .int .i64 40]) (by simp [results, Tryz.results13, go_sem]) rfl ⟨by rw [HX.out], rfl⟩
    · have hb1 : decide ((2100000000000000 : Int) < N) = false := by simp; omega
      have hb3 : (N : Int) ≤ 2100000000000000 := by omega
      rw [← HN.out] at HT
      have g2 : (48 : Int) ≤ (d[i]).toNat := by omega
      have g3 : ((d[i]).toNat : Int) ≤ 57 := by omega
      by_cases hb2 : 21000000000000000 < N * 10 + ((d[i]).toNat - 48)
      · have HX : Hid (readV s = (0, 40)) := Lib.hid (by rw [HV.out]; exact if_pos (step_big2 (i := i) (by rw [HT.out]; exact hb2)))
        have hb4 : decide ((21000000000000000 : Int) < (N : Int) * 10 + (((d[i]).toNat : Int) - 48)) = true := by simp; omega
        clear HT HN
        generalize (d[i]).toNat = c1 at *
        go_wp2_with fail
        exact bodyPost_ret (v := .tuple #[.int .i64 0, .int .i64 40]) (by simp [results, Tryz.results13, go_sem]) rfl ⟨by rw [HX.out], rfl⟩
      · have HN2 : Hid (N * 10 + ((d[i]).toNat - 48) = decV (d.take (i + 1))) := Lib.hid HT.out.symm
        have hb4 : decide ((21000000000000000 : Int) < (N : Int) * 10 + (((d[i]).toNat : Int) - 48)) = false := by simp; omega
        clear HT HN
        generalize (d[i]).toNat = c1 at *
        go_wp2_with fail
        exact ⟨⟨i + 1, N * 10 + (c1 - 48), by omega, by go_num, by go_num, by omega, HN2, by first | exact Lib.hid rfl | exact Lib.hid trivial⟩, by simp [intOf]; omega⟩
  · obtain rfl : i = d.length := by omega
    have HX : Hid (readV s = (((N * 100 : Nat) : Int), 0)) := Lib.hid (by
     have h := HN.out
     rw [List.take_length] at h
     rw [HV.out]
     unfold rdEnd
     rw [← h]
     exact if_neg (by rw [show maxMoney / 100 = 21000000000000000 by decide]; omega))
    clear HN HAL HWD HV
    go_wp2_with fail
    exact bodyPost_ret (v := .tuple #[.int .i64 ((N : Int) * 100), .int .i64 0]) (by simp [results, Tryz.results13, go_sem]) rfl ⟨by rw [HX.out]; simp, rfl⟩
theorem rdGood110S (s d : List UInt8) (hs : s.length ≤ 1000000) (HS : Hid (s = d ++ [110])) (HWW : Hid (wholeP d = true)) (h3 : ¬ 3 < d.length) (HV : Hid (readV s = rdEnd 100 d)) (w : World) :
  Calls Tryz.prog 13 #[.string (bs s)] w fun e w' => e = .returned (.tuple #[.int .i64 (readV s).1, .int .i64 (readV s).2]) ∧ w' = w := by
 obtain ⟨hlen1, hem, hdl0, hdl1, hix⟩ := last_facts HS.out
 have HDL := Lib.hid hdl0
 have hdl : d.length ≤ 1000000 := by omega
 rw [show (((110 : UInt8).toNat : Nat) : Int) = 110 from rfl] at hix
 clear hdl0 hdl1
 have h31 : decide ((3 : Int) < d.length) = false := by simp; omega
 have h32 : ¬ (3 : Int) < d.length := by omega
 have HWD := HWW
 go_enter Tryz.func13, Tryz.ntmps13
 go_wp2_with fail
 rw [HDL.out]
 refine (ref7Whole d hdl w).mono ?_
 rintro e w1 ⟨rfl, rfl⟩
 rw [HWW.out]
 go_wp2_with fail
 refine (ref7Whole d hdl w1).mono ?_
 rintro e w2 ⟨rfl, rfl⟩
 rw [HWD.out]
 have HAL := Lib.hid (whole_ok HWD.out).2.1
 go_wp2_with fail
 go_loopw [7, 8] (fun nv iv wr => ∃ (i N : Nat), i ≤ d.length ∧ iv = .int .i64 i ∧ nv = .int .i64 N ∧ N ≤ 21000000000000000 ∧ Hid (N = decV (d.take i)) ∧ Hid (wr = w2)) (fun _ iv _ => d.length - (intOf iv).toNat)
 case atStart => exact ⟨0, 0, by omega, rfl, rfl, by omega, Lib.hid rfl, Lib.hid rfl⟩
 case round =>
  obtain ⟨i, N, hi, rfl, rfl, hN, HN, hw⟩ := hrel
  obtain rfl := hw.out
  clear hw
  have hi0 : (0 : Int) ≤ i := by omega
  by_cases hlt : i < d.length
  · have hix : ∀ W, (Instr.index 9 (.string (bs d)) (.int .i64 (i : Int))).run Tryz.prog W = .ok (.int .u8 ((d[i]).toNat : Nat)) W := fun W => by rw [index_strK W .i64 d i hlt, getD_at hlt]
    obtain ⟨g0, g1⟩ := dg_at HAL.out hlt
    have HT := Lib.hid (decV_take hlt)
    by_cases hb : 2100000000000000 < N
    · have HX : Hid (readV s = (0, 40)) := Lib.hid (by rw [HV.out]; exact if_pos (step_big hlt (by rw [← HN.out]; exact hb)))
      have hb1 : decide ((2100000000000000 : Int) < N) = true := by simp; omega
      clear HT HN
      go_wp2_with fail
      exact bodyPost_ret (v := .tuple #[.int .i64 0, .int .i64 40]) (by simp [results, Tryz.results13, go_sem]) rfl ⟨by rw [HX.out], rfl⟩
    · have hb1 : decide ((2100000000000000 : Int) < N) = false := by simp; omega
      have hb3 : (N : Int) ≤ 2100000000000000 := by omega
      rw [← HN.out] at HT
      have g2 : (48 : Int) ≤ (d[i]).toNat := by omega
      have g3 : ((d[i]).toNat : Int) ≤ 57 := by omega
      by_cases hb2 : 21000000000000000 < N * 10 + ((d[i]).toNat - 48)
      · have HX : Hid (readV s = (0, 40)) := Lib.hid (by rw [HV.out]; exact if_pos (step_big2 (i := i) (by rw [HT.out]; exact hb2)))
        have hb4 : decide ((21000000000000000 : Int) < (N : Int) * 10 + (((d[i]).toNat : Int) - 48)) = true := by simp; omega
        clear HT HN
        generalize (d[i]).toNat = c1 at *
        go_wp2_with fail
        exact bodyPost_ret (v := .tuple #[.int .i64 0, .int .i64 40]) (by simp [results, Tryz.results13, go_sem]) rfl ⟨by rw [HX.out], rfl⟩
      · have HN2 : Hid (N * 10 + ((d[i]).toNat - 48) = decV (d.take (i + 1))) := Lib.hid HT.out.symm
        have hb4 : decide ((21000000000000000 : Int) < (N : Int) * 10 + (((d[i]).toNat : Int) - 48)) = false := by simp; omega
        clear HT HN
        generalize (d[i]).toNat = c1 at *
        go_wp2_with fail
        exact ⟨⟨i + 1, N * 10 + (c1 - 48), by omega, by go_num, by go_num, by omega, HN2, by first | exact Lib.hid rfl | exact Lib.hid trivial⟩, by simp [intOf]; omega⟩
  · obtain rfl : i = d.length := by omega
    have HX : Hid (readV s = (((N * 100 : Nat) : Int), 0)) := Lib.hid (by
     have h := HN.out
     rw [List.take_length] at h
     rw [HV.out]
     unfold rdEnd
     rw [← h]
     exact if_neg (by rw [show maxMoney / 100 = 21000000000000000 by decide]; omega))
    clear HN HAL HWD HV
    go_wp2_with fail
    exact bodyPost_ret (v := .tuple #[.int .i64 ((N : Int) * 100), .int .i64 0]) (by simp [results, Tryz.results13, go_sem]) rfl ⟨by rw [HX.out]; simp, rfl⟩
theorem rdNoWhole112 (s d : List UInt8) (hs : s.length ≤ 1000000) (HS : Hid (s = d ++ [112])) (HX : Hid (readV s = (0, 70))) (HWW : Hid (wholeP d = false)) (w : World) :
  Calls Tryz.prog 13 #[.string (bs s)] w fun e w' => e = .returned (.tuple #[.int .i64 (readV s).1, .int .i64 (readV s).2]) ∧ w' = w := by
 obtain ⟨hlen1, hem, hdl0, hdl1, hix⟩ := last_facts HS.out
 have HDL := Lib.hid hdl0
 have hdl : d.length ≤ 1000000 := by omega
 rw [show (((112 : UInt8).toNat : Nat) : Int) = 112 from rfl] at hix
 clear hdl0 hdl1
 go_enter Tryz.func13, Tryz.ntmps13
 go_wp2_with fail
 rw [HDL.out]
 refine (ref7Whole d hdl w).mono ?_
 rintro e w1 ⟨rfl, rfl⟩
 rw [HWW.out]
 go_wp2_with fail
 exact bodyPost_ret (v := .tuple #[.int .i64 0, .int .i64 70]) (by simp [results, Tryz.results13, go_sem]) rfl ⟨by rw [HX.out], rfl⟩
theorem rdNought112 (s d : List UInt8) (hs : s.length ≤ 1000000) (HS : Hid (s = d ++ [112])) (HX : Hid (readV s = (0, 70))) (HWW : Hid (wholeP d = true)) (h3 : 3 < d.length) (H0 : Hid (d.drop (d.length - 3) = [48, 48, 48])) (w : World) :
  Calls Tryz.prog 13 #[.string (bs s)] w fun e w' => e = .returned (.tuple #[.int .i64 (readV s).1, .int .i64 (readV s).2]) ∧ w' = w := by
 obtain ⟨hlen1, hem, hdl0, hdl1, hix⟩ := last_facts HS.out
 have HDL := Lib.hid hdl0
 have hdl : d.length ≤ 1000000 := by omega
 rw [show (((112 : UInt8).toNat : Nat) : Int) = 112 from rfl] at hix
 clear hdl0 hdl1
 have h31 : decide ((3 : Int) < d.length) = true := by simp; omega
 have h32 : (3 : Int) < d.length := by omega
 have hz2 : List.take (d.length - (d.length - 3)) (List.drop (d.length - 3) d) = [48, 48, 48] := by rw [H0.out]; exact List.take_of_length_le so_
 have hz : (List.take (d.length - (d.length - 3)) (List.drop (d.length - 3) d) == [48, 48, 48]) = true := by rw [hz2]; rfl
 go_enter Tryz.func13, Tryz.ntmps13
 go_wp2_with fail
 rw [HDL.out]
 refine (ref7Whole d hdl w).mono ?_
 rintro e w1 ⟨rfl, rfl⟩
 rw [HWW.out]
 go_wp2_with fail
 exact bodyPost_ret (v := .tuple #[.int .i64 0, .int .i64 70]) (by simp [results, Tryz.results13, go_sem]) rfl ⟨by rw [HX.out], rfl⟩
theorem rdLast112L (s d : List UInt8) (hs : s.length ≤ 1000000) (HS : Hid (s = d ++ [112])) (HX : Hid (readV s = (0, 70))) (HWW : Hid (wholeP d = true)) (h3 : 3 < d.length) (H0 : Hid (d.drop (d.length - 3) ≠ [48, 48, 48])) (hl : (d.getD (d.length - 1) 0).toNat ≠ 48) (w : World) :
  Calls Tryz.prog 13 #[.string (bs s)] w fun e w' => e = .returned (.tuple #[.int .i64 (readV s).1, .int .i64 (readV s).2]) ∧ w' = w := by
 obtain ⟨hlen1, hem, hdl0, hdl1, hix⟩ := last_facts HS.out
 have HDL := Lib.hid hdl0
 have hdl : d.length ≤ 1000000 := by omega
 rw [show (((112 : UInt8).toNat : Nat) : Int) = 112 from rfl] at hix
 clear hdl0 hdl1
 have h31 : decide ((3 : Int) < d.length) = true := by simp; omega
 have h32 : (3 : Int) < d.length := by omega
 have hz3 : List.take (d.length - (d.length - 3)) (List.drop (d.length - 3) d) = d.drop (d.length - 3) := List.take_of_length_le si_
 have hz2 : ¬ List.take (d.length - (d.length - 3)) (List.drop (d.length - 3) d) = [48, 48, 48] := by rw [hz3]; exact H0.out
 have hz : (List.take (d.length - (d.length - 3)) (List.drop (d.length - 3) d) == [48, 48, 48]) = false := by simpa using hz2
 clear hz3
 obtain ⟨hd1, hixd⟩ := last_get (whole_ok HWW.out).1
 generalize (d.getD (d.length - 1) 0).toNat = lc at *
 have hl1 : ((lc : Int) != 48) = true := by rw [bne_iff_ne]; omega
 go_enter Tryz.func13, Tryz.ntmps13
 go_wp2_with fail
 rw [HDL.out]
 refine (ref7Whole d hdl w).mono ?_
 rintro e w1 ⟨rfl, rfl⟩
 rw [HWW.out]
 go_wp2_with fail
 exact bodyPost_ret (v := .tuple #[.int .i64 0, .int .i64 70]) (by simp [results, Tryz.results13, go_sem]) rfl ⟨by rw [HX.out], rfl⟩
theorem rdGood112L (s d : List UInt8) (hs : s.length ≤ 1000000) (HS : Hid (s = d ++ [112])) (HWW : Hid (wholeP d = true)) (h3 : 3 < d.length) (H0 : Hid (d.drop (d.length - 3) ≠ [48, 48, 48])) (hl : (d.getD (d.length - 1) 0).toNat = 48) (d2 : List UInt8) (HC : Hid (d.dropLast = d2)) (HWD : Hid (wholeP d2 = true)) (HV : Hid (readV s = rdEnd 1 d2)) (w : World) :
  Calls Tryz.prog 13 #[.string (bs s)] w fun e w' => e = .returned (.tuple #[.int .i64 (readV s).1, .int .i64 (readV s).2]) ∧ w' = w := by
 obtain ⟨hlen1, hem, hdl0, hdl1, hix⟩ := last_facts HS.out
 have HDL := Lib.hid hdl0
 have hdl : d.length ≤ 1000000 := by omega
 rw [show (((112 : UInt8).toNat : Nat) : Int) = 112 from rfl] at hix
 clear hdl0 hdl1
 have h31 : decide ((3 : Int) < d.length) = true := by simp; omega
 have h32 : (3 : Int) < d.length := by omega
 have hz3 : List.take (d.length - (d.length - 3)) (List.drop (d.length - 3) d) = d.drop (d.length - 3) := List.take_of_length_le si_
 have hz2 : ¬ List.take (d.length - (d.length - 3)) (List.drop (d.length - 3) d) = [48, 48, 48] := by rw [hz3]; exact H0.out
 have hz : (List.take (d.length - (d.length - 3)) (List.drop (d.length - 3) d) == [48, 48, 48]) = false := by simpa using hz2
 clear hz3
 obtain ⟨hd1, hixd⟩ := last_get (whole_ok HWW.out).1
 generalize (d.getD (d.length - 1) 0).toNat = lc at *
 have HD2 : Hid (d.take (d.length - 1) = d2) := Lib.hid (by rw [← HC.out]; exact (List.dropLast_eq_take (l := d)).symm)
 have hd2l : d2.length ≤ 1000000 := by rw [← HC.out, List.length_dropLast]; omega
 have hl1 : ((lc : Int) != 48) = false := by rw [bne_eq_false_iff_eq]; omega
 go_enter Tryz.func13, Tryz.ntmps13
 go_wp2_with fail
 rw [HDL.out]
 refine (ref7Whole d hdl w).mono ?_
 rintro e w1 ⟨rfl, rfl⟩
 rw [HWW.out]
 go_wp2_with fail
 rw [HD2.out]
 refine (ref7Whole d2 hd2l w1).mono ?_
 rintro e w2 ⟨rfl, rfl⟩
 rw [HWD.out]
 have HAL := Lib.hid (whole_ok HWD.out).2.1
 go_wp2_with fail
 go_loopw [7, 8] (fun nv iv wr => ∃ (i N : Nat), i ≤ d2.length ∧ iv = .int .i64 i ∧ nv = .int .i64 N ∧ N ≤ 2100000000000000000 ∧ Hid (N = decV (d2.take i)) ∧ Hid (wr = w2)) (fun _ iv _ => d2.length - (intOf iv).toNat)
 case atStart => exact ⟨0, 0, by omega, rfl, rfl, by omega, Lib.hid rfl, Lib.hid rfl⟩
 case round =>
  obtain ⟨i, N, hi, rfl, rfl, hN, HN, hw⟩ := hrel
  obtain rfl := hw.out
  clear hw
  have hi0 : (0 : Int) ≤ i := by omega
  by_cases hlt : i < d2.length
  · have hix : ∀ W, (Instr.index 9 (.string (bs d2)) (.int .i64 (i : Int))).run Tryz.prog W = .ok (.int .u8 ((d2[i]).toNat : Nat)) W := fun W => by rw [index_strK W .i64 d2 i hlt, getD_at hlt]
    obtain ⟨g0, g1⟩ := dg_at HAL.out hlt
    have HT := Lib.hid (decV_take hlt)
    by_cases hb : 210000000000000000 < N
    · have HX : Hid (readV s = (0, 40)) := Lib.hid (by rw [HV.out]; exact if_pos (step_big hlt (by rw [← HN.out]; exact hb)))
      have hb1 : decide ((210000000000000000 : Int) < N) = true := by simp; omega
      clear HT HN
      go_wp2_with fail
      exact bodyPost_ret (v := .tuple #[.int .i64 0, .int .i64 40]) (by simp [results, Tryz.results13, go_sem]) rfl ⟨by rw [HX.out], rfl⟩
    · have hb1 : decide ((210000000000000000 : Int) < N) = false := by simp; omega
      have hb3 : (N : Int) ≤ 210000000000000000 := by omega
      rw [← HN.out] at HT
      have g2 : (48 : Int) ≤ (d2[i]).toNat := by omega
      have g3 : ((d2[i]).toNat : Int) ≤ 57 := by omega
      by_cases hb2 : 2100000000000000000 < N * 10 + ((d2[i]).toNat - 48)
      · have HX : Hid (readV s = (0, 40)) := Lib.hid (by rw [HV.out]; exact if_pos (step_big2 (i := i) (by rw [HT.out]; exact hb2)))
        have hb4 : decide ((2100000000000000000 : Int) < (N : Int) * 10 + (((d2[i]).toNat : Int) - 48)) = true := by simp; omega
        clear HT HN
        generalize (d2[i]).toNat = c1 at *
        go_wp2_with fail
        exact bodyPost_ret (v := .tuple #[.int .i64 0, .int .i64 40]) (by simp [results, Tryz.results13, go_sem]) rfl ⟨by rw [HX.out], rfl⟩
      · have HN2 : Hid (N * 10 + ((d2[i]).toNat - 48) = decV (d2.take (i + 1))) := Lib.hid HT.out.symm
        have hb4 : decide ((2100000000000000000 : Int) < (N : Int) * 10 + (((d2[i]).toNat : Int) - 48)) = false := by simp; omega
        clear HT HN
        generalize (d2[i]).toNat = c1 at *
        go_wp2_with fail
        exact ⟨⟨i + 1, N * 10 + (c1 - 48), by omega, by go_num, by go_num, by omega, HN2, by first | exact Lib.hid rfl | exact Lib.hid trivial⟩, by simp [intOf]; omega⟩
  · obtain rfl : i = d2.length := by omega
    have HX : Hid (readV s = (((N * 1 : Nat) : Int), 0)) := Lib.hid (by
     have h := HN.out
     rw [List.take_length] at h
     rw [HV.out]
     unfold rdEnd
     rw [← h]
     exact if_neg (by rw [show maxMoney / 1 = 2100000000000000000 by decide]; omega))
    clear HN HAL HWD HV
    go_wp2_with fail
    exact bodyPost_ret (v := .tuple #[.int .i64 ((N : Int) * 1), .int .i64 0]) (by simp [results, Tryz.results13, go_sem]) rfl ⟨by rw [HX.out]; simp, rfl⟩
theorem rdLast112S (s d : List UInt8) (hs : s.length ≤ 1000000) (HS : Hid (s = d ++ [112])) (HX : Hid (readV s = (0, 70))) (HWW : Hid (wholeP d = true)) (h3 : ¬ 3 < d.length) (hl : (d.getD (d.length - 1) 0).toNat ≠ 48) (w : World) :
  Calls Tryz.prog 13 #[.string (bs s)] w fun e w' => e = .returned (.tuple #[.int .i64 (readV s).1, .int .i64 (readV s).2]) ∧ w' = w := by
 obtain ⟨hlen1, hem, hdl0, hdl1, hix⟩ := last_facts HS.out
 have HDL := Lib.hid hdl0
 have hdl : d.length ≤ 1000000 := by omega
 rw [show (((112 : UInt8).toNat : Nat) : Int) = 112 from rfl] at hix
 clear hdl0 hdl1
 have h31 : decide ((3 : Int) < d.length) = false := by simp; omega
 have h32 : ¬ (3 : Int) < d.length := by omega
 obtain ⟨hd1, hixd⟩ := last_get (whole_ok HWW.out).1
 generalize (d.getD (d.length - 1) 0).toNat = lc at *
 have hl1 : ((lc : Int) != 48) = true := by rw [bne_iff_ne]; omega
 go_enter Tryz.func13, Tryz.ntmps13
 go_wp2_with fail
 rw [HDL.out]
 refine (ref7Whole d hdl w).mono ?_
 rintro e w1 ⟨rfl, rfl⟩
 rw [HWW.out]
 go_wp2_with fail
 exact bodyPost_ret (v := .tuple #[.int .i64 0, .int .i64 70]) (by simp [results, Tryz.results13, go_sem]) rfl ⟨by rw [HX.out], rfl⟩
theorem rdGood112S (s d : List UInt8) (hs : s.length ≤ 1000000) (HS : Hid (s = d ++ [112])) (HWW : Hid (wholeP d = true)) (h3 : ¬ 3 < d.length) (hl : (d.getD (d.length - 1) 0).toNat = 48) (d2 : List UInt8) (HC : Hid (d.dropLast = d2)) (HWD : Hid (wholeP d2 = true)) (HV : Hid (readV s = rdEnd 1 d2)) (w : World) :
  Calls Tryz.prog 13 #[.string (bs s)] w fun e w' => e = .returned (.tuple #[.int .i64 (readV s).1, .int .i64 (readV s).2]) ∧ w' = w := by
 obtain ⟨hlen1, hem, hdl0, hdl1, hix⟩ := last_facts HS.out
 have HDL := Lib.hid hdl0
 have hdl : d.length ≤ 1000000 := by omega
 rw [show (((112 : UInt8).toNat : Nat) : Int) = 112 from rfl] at hix
 clear hdl0 hdl1
 have h31 : decide ((3 : Int) < d.length) = false := by simp; omega
 have h32 : ¬ (3 : Int) < d.length := by omega
 obtain ⟨hd1, hixd⟩ := last_get (whole_ok HWW.out).1
 generalize (d.getD (d.length - 1) 0).toNat = lc at *
 have HD2 : Hid (d.take (d.length - 1) = d2) := Lib.hid (by rw [← HC.out]; exact (List.dropLast_eq_take (l := d)).symm)
 have hd2l : d2.length ≤ 1000000 := by rw [← HC.out, List.length_dropLast]; omega
 have hl1 : ((lc : Int) != 48) = false := by rw [bne_eq_false_iff_eq]; omega
 go_enter Tryz.func13, Tryz.ntmps13
 go_wp2_with fail
 rw [HDL.out]
 refine (ref7Whole d hdl w).mono ?_
 rintro e w1 ⟨rfl, rfl⟩
 rw [HWW.out]
 go_wp2_with fail
 rw [HD2.out]
 refine (ref7Whole d2 hd2l w1).mono ?_
 rintro e w2 ⟨rfl, rfl⟩
 rw [HWD.out]
 have HAL := Lib.hid (whole_ok HWD.out).2.1
 go_wp2_with fail
 go_loopw [7, 8] (fun nv iv wr => ∃ (i N : Nat), i ≤ d2.length ∧ iv = .int .i64 i ∧ nv = .int .i64 N ∧ N ≤ 2100000000000000000 ∧ Hid (N = decV (d2.take i)) ∧ Hid (wr = w2)) (fun _ iv _ => d2.length - (intOf iv).toNat)
 case atStart => exact ⟨0, 0, by omega, rfl, rfl, by omega, Lib.hid rfl, Lib.hid rfl⟩
 case round =>
  obtain ⟨i, N, hi, rfl, rfl, hN, HN, hw⟩ := hrel
  obtain rfl := hw.out
  clear hw
  have hi0 : (0 : Int) ≤ i := by omega
  by_cases hlt : i < d2.length
  · have hix : ∀ W, (Instr.index 9 (.string (bs d2)) (.int .i64 (i : Int))).run Tryz.prog W = .ok (.int .u8 ((d2[i]).toNat : Nat)) W := fun W => by rw [index_strK W .i64 d2 i hlt, getD_at hlt]
    obtain ⟨g0, g1⟩ := dg_at HAL.out hlt
    have HT := Lib.hid (decV_take hlt)
    by_cases hb : 210000000000000000 < N
    · have HX : Hid (readV s = (0, 40)) := Lib.hid (by rw [HV.out]; exact if_pos (step_big hlt (by rw [← HN.out]; exact hb)))
      have hb1 : decide ((210000000000000000 : Int) < N) = true := by simp; omega
      clear HT HN
      go_wp2_with fail
      exact bodyPost_ret (v := .tuple #[.int .i64 0, .int .i64 40]) (by simp [results, Tryz.results13, go_sem]) rfl ⟨by rw [HX.out], rfl⟩
    · have hb1 : decide ((210000000000000000 : Int) < N) = false := by simp; omega
      have hb3 : (N : Int) ≤ 210000000000000000 := by omega
      rw [← HN.out] at HT
      have g2 : (48 : Int) ≤ (d2[i]).toNat := by omega
      have g3 : ((d2[i]).toNat : Int) ≤ 57 := by omega
      by_cases hb2 : 2100000000000000000 < N * 10 + ((d2[i]).toNat - 48)
      · have HX : Hid (readV s = (0, 40)) := Lib.hid (by rw [HV.out]; exact if_pos (step_big2 (i := i) (by rw [HT.out]; exact hb2)))
        have hb4 : decide ((2100000000000000000 : Int) < (N : Int) * 10 + (((d2[i]).toNat : Int) - 48)) = true := by simp; omega
        clear HT HN
        generalize (d2[i]).toNat = c1 at *
        go_wp2_with fail
        exact bodyPost_ret (v := .tuple #[.int .i64 0, .int .i64 40]) (by simp [results, Tryz.results13, go_sem]) rfl ⟨by rw [HX.out], rfl⟩
      · have HN2 : Hid (N * 10 + ((d2[i]).toNat - 48) = decV (d2.take (i + 1))) := Lib.hid HT.out.symm
        have hb4 : decide ((2100000000000000000 : Int) < (N : Int) * 10 + (((d2[i]).toNat : Int) - 48)) = false := by simp; omega
        clear HT HN
        generalize (d2[i]).toNat = c1 at *
        go_wp2_with fail
        exact ⟨⟨i + 1, N * 10 + (c1 - 48), by omega, by go_num, by go_num, by omega, HN2, by first | exact Lib.hid rfl | exact Lib.hid trivial⟩, by simp [intOf]; omega⟩
  · obtain rfl : i = d2.length := by omega
    have HX : Hid (readV s = (((N * 1 : Nat) : Int), 0)) := Lib.hid (by
     have h := HN.out
     rw [List.take_length] at h
     rw [HV.out]
     unfold rdEnd
     rw [← h]
     exact if_neg (by rw [show maxMoney / 1 = 2100000000000000000 by decide]; omega))
    clear HN HAL HWD HV
    go_wp2_with fail
    exact bodyPost_ret (v := .tuple #[.int .i64 ((N : Int) * 1), .int .i64 0]) (by simp [results, Tryz.results13, go_sem]) rfl ⟨by rw [HX.out]; simp, rfl⟩
theorem rdDigBad (s d : List UInt8) (c : UInt8) (hs : s.length ≤ 1000000) (HS : Hid (s = d ++ [c])) (hc : 48 ≤ c.toNat ∧ c.toNat ≤ 57) (HX : Hid (readV s = (0, 70))) (HWW : Hid (wholeP s = false)) (w : World) :
  Calls Tryz.prog 13 #[.string (bs s)] w fun e w' => e = .returned (.tuple #[.int .i64 (readV s).1, .int .i64 (readV s).2]) ∧ w' = w := by
 obtain ⟨hlen1, hem, hdl0, hdl1, hix⟩ := last_facts HS.out
 have HDL := Lib.hid hdl0
 have hdl : d.length ≤ 1000000 := by omega
 clear hdl0 hdl1
 have h1 : decide ((c.toNat : Int) < 48) = false := by simp; omega
 have h2 : decide ((57 : Int) < c.toNat) = false := by simp; omega
 generalize c.toNat = cn at *
 go_enter Tryz.func13, Tryz.ntmps13
 go_wp2_with fail
 refine (ref7Whole s hs w).mono ?_
 rintro e w1 ⟨rfl, rfl⟩
 rw [HWW.out]
 go_wp2_with fail
 exact bodyPost_ret (v := .tuple #[.int .i64 0, .int .i64 70]) (by simp [results, Tryz.results13, go_sem]) rfl ⟨by rw [HX.out], rfl⟩
theorem rdDigGood (s d : List UInt8) (c : UInt8) (hs : s.length ≤ 1000000) (HS : Hid (s = d ++ [c])) (hc : 48 ≤ c.toNat ∧ c.toNat ≤ 57) (HV : Hid (readV s = rdEnd 100000000000 s)) (HWD : Hid (wholeP s = true)) (w : World) :
  Calls Tryz.prog 13 #[.string (bs s)] w fun e w' => e = .returned (.tuple #[.int .i64 (readV s).1, .int .i64 (readV s).2]) ∧ w' = w := by
 obtain ⟨hlen1, hem, hdl0, hdl1, hix⟩ := last_facts HS.out
 have HDL := Lib.hid hdl0
 have hdl : d.length ≤ 1000000 := by omega
 clear hdl0 hdl1
 have h1 : decide ((c.toNat : Int) < 48) = false := by simp; omega
 have h2 : decide ((57 : Int) < c.toNat) = false := by simp; omega
 generalize c.toNat = cn at *
 go_enter Tryz.func13, Tryz.ntmps13
 go_wp2_with fail
 refine (ref7Whole s hs w).mono ?_
 rintro e w1 ⟨rfl, rfl⟩
 rw [HWD.out]
 have HAL := Lib.hid (whole_ok HWD.out).2.1
 go_wp2_with fail
 go_loopw [7, 8] (fun nv iv wr => ∃ (i N : Nat), i ≤ s.length ∧ iv = .int .i64 i ∧ nv = .int .i64 N ∧ N ≤ 21000000 ∧ Hid (N = decV (s.take i)) ∧ Hid (wr = w1)) (fun _ iv _ => s.length - (intOf iv).toNat)
 case atStart => exact ⟨0, 0, by omega, rfl, rfl, by omega, Lib.hid rfl, Lib.hid rfl⟩
 case round =>
  obtain ⟨i, N, hi, rfl, rfl, hN, HN, hw⟩ := hrel
  obtain rfl := hw.out
  clear hw
  have hi0 : (0 : Int) ≤ i := by omega
  by_cases hlt : i < s.length
  · have hix : ∀ W, (Instr.index 9 (.string (bs s)) (.int .i64 (i : Int))).run Tryz.prog W = .ok (.int .u8 ((s[i]).toNat : Nat)) W := fun W => by rw [index_strK W .i64 s i hlt, getD_at hlt]
    obtain ⟨g0, g1⟩ := dg_at HAL.out hlt
    have HT := Lib.hid (decV_take hlt)
    by_cases hb : 2100000 < N
    · have HX : Hid (readV s = (0, 40)) := Lib.hid (by rw [HV.out]; exact if_pos (step_big hlt (by rw [← HN.out]; exact hb)))
      have hb1 : decide ((2100000 : Int) < N) = true := by simp; omega
      clear HT HN
      go_wp2_with fail
      exact bodyPost_ret (v := .tuple #[.int .i64 0, .int .i64 40]) (by simp [results, Tryz.results13, go_sem]) rfl ⟨by rw [HX.out], rfl⟩
    · have hb1 : decide ((2100000 : Int) < N) = false := by simp; omega
      have hb3 : (N : Int) ≤ 2100000 := by omega
      rw [← HN.out] at HT
      have g2 : (48 : Int) ≤ (s[i]).toNat := by omega
      have g3 : ((s[i]).toNat : Int) ≤ 57 := by omega
      by_cases hb2 : 21000000 < N * 10 + ((s[i]).toNat - 48)
      · have HX : Hid (readV s = (0, 40)) := Lib.hid (by rw [HV.out]; exact if_pos (step_big2 (i := i) (by rw [HT.out]; exact hb2)))
        have hb4 : decide ((21000000 : Int) < (N : Int) * 10 + (((s[i]).toNat : Int) - 48)) = true := by simp; omega
        clear HT HN
        generalize (s[i]).toNat = c1 at *
        go_wp2_with fail
        exact bodyPost_ret (v := .tuple #[.int .i64 0, .int .i64 40]) (by simp [results, Tryz.results13, go_sem]) rfl ⟨by rw [HX.out], rfl⟩
      · have HN2 : Hid (N * 10 + ((s[i]).toNat - 48) = decV (s.take (i + 1))) := Lib.hid HT.out.symm
        have hb4 : decide ((21000000 : Int) < (N : Int) * 10 + (((s[i]).toNat : Int) - 48)) = false := by simp; omega
        clear HT HN
        generalize (s[i]).toNat = c1 at *
        go_wp2_with fail
        exact ⟨⟨i + 1, N * 10 + (c1 - 48), by omega, by go_num, by go_num, by omega, HN2, by first | exact Lib.hid rfl | exact Lib.hid trivial⟩, by simp [intOf]; omega⟩
  · obtain rfl : i = s.length := by omega
    have HX : Hid (readV s = (((N * 100000000000 : Nat) : Int), 0)) := Lib.hid (by
     have h := HN.out
     rw [List.take_length] at h
     rw [HV.out]
     unfold rdEnd
     rw [← h]
     exact if_neg (by rw [show maxMoney / 100000000000 = 21000000 by decide]; omega))
    clear HN HAL HWD HV
    go_wp2_with fail
    exact bodyPost_ret (v := .tuple #[.int .i64 ((N : Int) * 100000000000), .int .i64 0]) (by simp [results, Tryz.results13, go_sem]) rfl ⟨by rw [HX.out]; simp, rfl⟩
theorem rdOdd0 (s d : List UInt8) (c : UInt8) (hs : s.length ≤ 1000000) (HS : Hid (s = d ++ [c])) (hc : c.toNat < 48) (k1 : c.toNat ≠ 109) (k2 : c.toNat ≠ 117) (k3 : c.toNat ≠ 110) (k4 : c.toNat ≠ 112) (HX : Hid (readV s = (0, 70))) (w : World) :
  Calls Tryz.prog 13 #[.string (bs s)] w fun e w' => e = .returned (.tuple #[.int .i64 (readV s).1, .int .i64 (readV s).2]) ∧ w' = w := by
 obtain ⟨hlen1, hem, hdl0, hdl1, hix⟩ := last_facts HS.out
 have HDL := Lib.hid hdl0
 have hdl : d.length ≤ 1000000 := by omega
 clear hdl0 hdl1
 have h1 : decide ((c.toNat : Int) < 48) = true := by simp; omega
 have h2 : decide ((57 : Int) < c.toNat) = false := by simp; omega
 have q1 : ((c.toNat : Int) == 109) = false := by rw [beq_eq_false_iff_ne]; omega
 have q2 : ((c.toNat : Int) == 117) = false := by rw [beq_eq_false_iff_ne]; omega
 have q3 : ((c.toNat : Int) == 110) = false := by rw [beq_eq_false_iff_ne]; omega
 have q4 : ((c.toNat : Int) == 112) = false := by rw [beq_eq_false_iff_ne]; omega
 clear k1 k2 k3 k4
 generalize c.toNat = cn at *
 go_enter Tryz.func13, Tryz.ntmps13
 go_wp2_with fail
 exact bodyPost_ret (v := .tuple #[.int .i64 0, .int .i64 70]) (by simp [results, Tryz.results13, go_sem]) rfl ⟨by rw [HX.out], rfl⟩
theorem rdOdd1 (s d : List UInt8) (c : UInt8) (hs : s.length ≤ 1000000) (HS : Hid (s = d ++ [c])) (hc : 57 < c.toNat) (k1 : c.toNat ≠ 109) (k2 : c.toNat ≠ 117) (k3 : c.toNat ≠ 110) (k4 : c.toNat ≠ 112) (HX : Hid (readV s = (0, 70))) (w : World) :
  Calls Tryz.prog 13 #[.string (bs s)] w fun e w' => e = .returned (.tuple #[.int .i64 (readV s).1, .int .i64 (readV s).2]) ∧ w' = w := by
 obtain ⟨hlen1, hem, hdl0, hdl1, hix⟩ := last_facts HS.out
 have HDL := Lib.hid hdl0
 have hdl : d.length ≤ 1000000 := by omega
 clear hdl0 hdl1
 have h1 : decide ((c.toNat : Int) < 48) = false := by simp; omega
 have h2 : decide ((57 : Int) < c.toNat) = true := by simp; omega
 have q1 : ((c.toNat : Int) == 109) = false := by rw [beq_eq_false_iff_ne]; omega
 have q2 : ((c.toNat : Int) == 117) = false := by rw [beq_eq_false_iff_ne]; omega
 have q3 : ((c.toNat : Int) == 110) = false := by rw [beq_eq_false_iff_ne]; omega
 have q4 : ((c.toNat : Int) == 112) = false := by rw [beq_eq_false_iff_ne]; omega
 clear k1 k2 k3 k4
 generalize c.toNat = cn at *
 go_enter Tryz.func13, Tryz.ntmps13
 go_wp2_with fail
 exact bodyPost_ret (v := .tuple #[.int .i64 0, .int .i64 70]) (by simp [results, Tryz.results13, go_sem]) rfl ⟨by rw [HX.out], rfl⟩
theorem ref7Read (s : List UInt8) (hs : s.length ≤ 1000000) (w : World) :
  Calls Tryz.prog 13 #[.string (bs s)] w fun e w' => e = .returned (.tuple #[.int .i64 (readV s).1, .int .i64 (readV s).2]) ∧ w' = w := by
 by_cases h0 : s = []
 · subst h0
   go_enter Tryz.func13, Tryz.ntmps13
   go_wp2_with fail
   exact bodyPost_ret (v := .tuple #[.int .i64 0, .int .i64 0]) (by simp [results, Tryz.results13, go_sem]) rfl ⟨rfl, rfl⟩
 · obtain ⟨d, c, HS⟩ : ∃ d c, s = d ++ [c] := ⟨s.dropLast, s.getLast h0, (List.dropLast_concat_getLast h0).symm⟩
   have HSH := Lib.hid HS
   cases hc : isDg c with
   | true =>
     have HR := readV_dig d c hc
     rw [← HS] at HR
     have hcc : 48 ≤ c.toNat ∧ c.toNat ≤ 57 := by simpa [isDg] using hc
     cases hw : wholeP s with
     | false => exact rdDigBad s d c hs HSH hcc (Lib.hid (by rw [HR, hw]; rfl)) (Lib.hid hw) w
     | true => exact rdDigGood s d c hs HSH hcc (Lib.hid (by rw [HR, hw]; rfl)) (Lib.hid hw) w
   | false =>
     by_cases hk109 : c = 109
     · subst hk109
       have HR := readV_let d 109 rfl
       rw [← HS] at HR
       cases hw : wholeP d with
       | false => exact rdNoWhole109 s d hs HSH (Lib.hid (by rw [HR, if_pos (by simp [bad3, hw])])) (Lib.hid hw) w
       | true =>
         by_cases h3 : 3 < d.length
         · by_cases h4 : d.drop (d.length - 3) = [48, 48, 48]
           · exact rdNought109 s d hs HSH (Lib.hid (by rw [HR, if_pos (by simp [bad3, hw, h3, h4])])) (Lib.hid hw) h3 (Lib.hid h4) w
           · exact rdGood109L s d hs HSH (Lib.hid hw) h3 (Lib.hid h4) (Lib.hid (by rw [HR, if_neg (by simp [bad3, hw, h3, h4])]; rfl)) w
         · exact rdGood109S s d hs HSH (Lib.hid hw) h3 (Lib.hid (by rw [HR, if_neg (by simp [bad3, hw, h3])]; rfl)) w
     by_cases hk117 : c = 117
     · subst hk117
       have HR := readV_let d 117 rfl
       rw [← HS] at HR
       cases hw : wholeP d with
       | false => exact rdNoWhole117 s d hs HSH (Lib.hid (by rw [HR, if_pos (by simp [bad3, hw])])) (Lib.hid hw) w
       | true =>
         by_cases h3 : 3 < d.length
         · by_cases h4 : d.drop (d.length - 3) = [48, 48, 48]
           · exact rdNought117 s d hs HSH (Lib.hid (by rw [HR, if_pos (by simp [bad3, hw, h3, h4])])) (Lib.hid hw) h3 (Lib.hid h4) w
           · exact rdGood117L s d hs HSH (Lib.hid hw) h3 (Lib.hid h4) (Lib.hid (by rw [HR, if_neg (by simp [bad3, hw, h3, h4])]; rfl)) w
         · exact rdGood117S s d hs HSH (Lib.hid hw) h3 (Lib.hid (by rw [HR, if_neg (by simp [bad3, hw, h3])]; rfl)) w
     by_cases hk110 : c = 110
     · subst hk110
       have HR := readV_let d 110 rfl
       rw [← HS] at HR
       cases hw : wholeP d with
       | false => exact rdNoWhole110 s d hs HSH (Lib.hid (by rw [HR, if_pos (by simp [bad3, hw])])) (Lib.hid hw) w
       | true =>
         by_cases h3 : 3 < d.length
         · by_cases h4 : d.drop (d.length - 3) = [48, 48, 48]
           · exact rdNought110 s d hs HSH (Lib.hid (by rw [HR, if_pos (by simp [bad3, hw, h3, h4])])) (Lib.hid hw) h3 (Lib.hid h4) w
           · exact rdGood110L s d hs HSH (Lib.hid hw) h3 (Lib.hid h4) (Lib.hid (by rw [HR, if_neg (by simp [bad3, hw, h3, h4])]; rfl)) w
         · exact rdGood110S s d hs HSH (Lib.hid hw) h3 (Lib.hid (by rw [HR, if_neg (by simp [bad3, hw, h3])]; rfl)) w
     by_cases hk112 : c = 112
     · subst hk112
       have HR := readV_let d 112 rfl
       rw [← HS] at HR
       cases hw : wholeP d with
       | false => exact rdNoWhole112 s d hs HSH (Lib.hid (by rw [HR, if_pos (by simp [bad3, hw])])) (Lib.hid hw) w
       | true =>
         by_cases h3 : 3 < d.length
         · by_cases h4 : d.drop (d.length - 3) = [48, 48, 48]
           · exact rdNought112 s d hs HSH (Lib.hid (by rw [HR, if_pos (by simp [bad3, hw, h3, h4])])) (Lib.hid hw) h3 (Lib.hid h4) w
           · by_cases h5 : d.getD (d.length - 1) 0 = 48
             · have hb : bad3 d 112 = false := by unfold bad3; rw [hw, h5]; simp [h3, h4]
               exact rdGood112L s d hs HSH (Lib.hid hw) h3 (Lib.hid h4) (by rw [h5]; rfl) d.dropLast (Lib.hid rfl) (Lib.hid (core_whole hb).2) (Lib.hid (by rw [HR, hb]; rfl)) w
             · have h6 : (d.getD (d.length - 1) 0 != 48) = true := by simpa using h5
               exact rdLast112L s d hs HSH (Lib.hid (by rw [HR, if_pos (by unfold bad3; rw [hw, h6]; simp)])) (Lib.hid hw) h3 (Lib.hid h4) (fun e => h5 (UInt8.toNat_inj.1 e)) w
         · by_cases h5 : d.getD (d.length - 1) 0 = 48
           · have hb : bad3 d 112 = false := by unfold bad3; rw [hw, h5]; simp [h3]
             exact rdGood112S s d hs HSH (Lib.hid hw) h3 (by rw [h5]; rfl) d.dropLast (Lib.hid rfl) (Lib.hid (core_whole hb).2) (Lib.hid (by rw [HR, hb]; rfl)) w
           · have h6 : (d.getD (d.length - 1) 0 != 48) = true := by simpa using h5
             exact rdLast112S s d hs HSH (Lib.hid (by rw [HR, if_pos (by unfold bad3; rw [hw, h6]; simp)])) (Lib.hid hw) h3 (fun e => h5 (UInt8.toNat_inj.1 e)) w
     have hodd := readV_odd d c hc (by simp [nmB, hk109, hk117, hk110, hk112])
     rw [← HS] at hodd
     have k1 : c.toNat ≠ 109 := fun e => hk109 (UInt8.toNat_inj.1 e)
     have k2 : c.toNat ≠ 117 := fun e => hk117 (UInt8.toNat_inj.1 e)
     have k3 : c.toNat ≠ 110 := fun e => hk110 (UInt8.toNat_inj.1 e)
     have k4 : c.toNat ≠ 112 := fun e => hk112 (UInt8.toNat_inj.1 e)
     have hcc : c.toNat < 48 ∨ 57 < c.toNat := by
      unfold isDg at hc
      simp only [Bool.and_eq_false_iff, decide_eq_false_iff_not] at hc
      omega
     rcases hcc with h | h
     · exact rdOdd0 s d c hs HSH h k1 k2 k3 k4 (Lib.hid hodd) w
     · exact rdOdd1 s d c hs HSH h k1 k2 k3 k4 (Lib.hid hodd) w
theorem lInvoiceAmounts (m : Int) (hm0 : -9223372036854775808 ≤ m) (hm1 : m ≤ 9223372036854775807) (s : List UInt8) (hs : s.length ≤ 140737488355328) (w : World) (hI : IOk w) :
  Calls Tryz.prog 3 #[.int .i64 m, .string (bs s)] w fun e w' => e = .returned (.bool true) ∧ Below w.heap.size w w' := by
 have HI := Lib.hid hI
 clear hI
 by_cases hbig : 3000 < s.length
 · have hb : decide ((3000 : Int) < s.length) = true := by simp; omega
   have hb2 : (3000 : Int) < s.length := by omega
   go_enter Tryz.func3, Tryz.ntmps3
   go_wp2_with fail
   refine (lWorksI w HI.out).mono ?_
   rintro e w1 ⟨rfl, hb1⟩
   go_wp2_with fail
   exact bodyPost_ret (v := .bool true) (by simp [results, Tryz.results3, go_sem]) rfl ⟨rfl, hb1⟩
 · have hb : decide ((3000 : Int) < s.length) = false := by simp; omega
   have hb2 : ¬ (3000 : Int) < s.length := by omega
   have hsl : s.length ≤ 1000000 := by omega
   go_enter Tryz.func3, Tryz.ntmps3
   go_wp2_with fail
   refine (iAmount m hm0 hm1 w HI.out.g HI.out.units).mono ?_
   rintro e w1 ⟨rfl, hb1⟩
   have HI1 := Lib.hid (iok_below HI.out hb1)
   have HB1 := Lib.hid hb1
   clear hb1
   have hA2 : Hid (∀ W, Calls Tryz.prog 11 #[.int .i64 m] W fun e w' => e = .returned (.tuple #[.string (bs (amountT m)), .int .i64 (amountE m)]) ∧ Below W.heap.size W w') := Lib.hid (fun W => ref7Amount m hm0 hm1 W)
   generalize amountT m = at_ at *
   generalize amountE m = ae at *
   go_wp2_with fail
   refine (hA2.out _).mono ?_
   rintro e w2 ⟨rfl, hb2⟩
   have HI2 := Lib.hid (iok_below HI1.out hb2)
   have HB2 : Hid (Below w.heap.size w w2) := Lib.hid (Below.trans HB1.out (hb2.mono HB1.out.size))
   clear hb2 HI1 HB1
   have HRD := Lib.hid (iRead s hsl w2 HI2.out.g HI2.out.units)
   unfold RdO at HRD
   have HR2 : Hid (∀ W, Calls Tryz.prog 13 #[.string (bs s)] W fun e w' => e = .returned (.tuple #[.int .i64 (readV s).1, .int .i64 (readV s).2]) ∧ w' = W) := Lib.hid (fun W => ref7Read s hsl W)
   generalize readV s = rv at *
   obtain ⟨rn, re⟩ := rv
   go_wp2_with fail
   refine HRD.out.mono ?_
   rintro e w3 ⟨rfl, hb3⟩
   have HI3 := Lib.hid (iok_below HI2.out hb3)
   have HB3 : Hid (Below w.heap.size w w3) := Lib.hid (Below.trans HB2.out (hb3.mono HB2.out.size))
   clear hb3 HI2 HB2 HRD
   go_wp2_with fail
   refine (HR2.out w3).mono ?_
   rintro e w4 ⟨rfl, hw⟩
   subst hw
   have hwk := Lib.hid (lWorksI w4 HI3.out)
   go_wp2_with fail
   refine hwk.out.mono ?_
   rintro e w5 ⟨rfl, hb5⟩
   go_wp2_with fail
   exact bodyPost_ret (v := .bool true) (by simp [results, Tryz.results3, go_sem]) rfl ⟨rfl, Below.trans HB3.out (hb5.mono HB3.out.size)⟩
end Go.Proofs.YtembdkodajichaaGreatDoor
